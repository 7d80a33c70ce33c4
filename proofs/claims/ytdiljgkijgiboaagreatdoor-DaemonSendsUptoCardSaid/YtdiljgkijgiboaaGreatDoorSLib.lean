/- Used. -/
import Derived.WalkKit
import Derived.Lib.Hide
import Derived.OpenShut
import Derived.Deep.Draws
import Derived.Lib.QuietBelow
import Derived.Laws.OwnMore
import Derived.Deep.AppendLies
import Derived.Laws.Rows
set_option linter.all false
namespace Go.Proofs.YtdiljgkijgiboaaGreatDoor
open Go.RowKit Go.Sort
theorem qbk:type_of% @Nat.le_of_ble_eq_true:=@Nat.le_of_ble_eq_true
theorem qbl:type_of% @List.getElem?_eq_some_iff:=@List.getElem?_eq_some_iff
theorem qbm:type_of% @List.length_append:=@List.length_append
theorem qbn:type_of% @Nat.eq_of_beq_eq_true:=@Nat.eq_of_beq_eq_true
theorem qbo:type_of% @List.mem_of_getElem?:=@List.mem_of_getElem?
theorem qbp:type_of% @Int.eq_ofNat_of_zero_le:=@Int.eq_ofNat_of_zero_le
theorem qbq:type_of% @Decidable.not_not:=@Decidable.not_not
theorem qbr:type_of% @Result.andThen_ok:=@Result.andThen_ok
theorem qbs:type_of% @List.take_succ_eq_append_getElem:=@List.take_succ_eq_append_getElem
theorem qbt:type_of% @Int.toNat_natCast:=@Int.toNat_natCast
theorem qbu:type_of% @List.map_cons:=@List.map_cons
theorem qbv:type_of% @List.mem_map:=@List.mem_map
theorem qbw:type_of% @Sem.run_bind:=@Sem.run_bind
theorem qbx:type_of% @Sem.run_pure:=@Sem.run_pure
theorem qby:type_of% @List.append_assoc:=@List.append_assoc
theorem qbz:type_of% @List.eq_nil_of_length_eq_zero:=@List.eq_nil_of_length_eq_zero
theorem qbA:type_of% @List.mem_cons:=@List.mem_cons
theorem qbB:type_of% @Bool.and_eq_true:=@Bool.and_eq_true
theorem qbC:type_of% @List.take_of_length_le:=@List.take_of_length_le
theorem qbD:type_of% @List.mem_append:=@List.mem_append
theorem qbE:type_of% @List.length_cons:=@List.length_cons
theorem qbF:type_of% @List.getElem?_drop:=@List.getElem?_drop
theorem qbG:type_of% @Int.fdiv_eq_ediv_of_nonneg:=@Int.fdiv_eq_ediv_of_nonneg
theorem qbH:type_of% @List.length_drop:=@List.length_drop
theorem qbI:type_of% @List.mem_of_mem_take:=@List.mem_of_mem_take
theorem qbJ:type_of% @Bool.false_eq_true:=@Bool.false_eq_true
theorem qbK:type_of% @Array.getElem?_eq_some_iff:=@Array.getElem?_eq_some_iff
theorem qbL:type_of% @List.take_length:=@List.take_length
theorem qbM:type_of% @List.getElem?_map:=@List.getElem?_map
theorem qbN:type_of% @List.mem_singleton:=@List.mem_singleton
theorem qbO:type_of% @Nat.zero_add:=@Nat.zero_add
theorem qbP:type_of% @List.length_set:=@List.length_set
theorem qbQ:type_of% @List.drop_eq_getElem_cons:=@List.drop_eq_getElem_cons
theorem qbR:type_of% @List.getElem?_take:=@List.getElem?_take
theorem qbS:type_of% @Nat.pow_le_pow_right:=@Nat.pow_le_pow_right
theorem qbT:type_of% @List.flatten_cons:=@List.flatten_cons
theorem qbU:type_of% @Nat.mul_one:=@Nat.mul_one
theorem qbV:type_of% @List.flatMap_append:=@List.flatMap_append
theorem qbW:type_of% @List.cons_append:=@List.cons_append
theorem qbX:type_of% @List.all_eq_true:=@List.all_eq_true
theorem qbY:type_of% @List.map_append:=@List.map_append
theorem qbZ:type_of% @List.getElem?_append_right:=@List.getElem?_append_right
theorem qb0:type_of% @List.nil_append:=@List.nil_append
theorem qb1:type_of% @Bool.eq_iff_iff:=@Bool.eq_iff_iff
theorem qb2:type_of% @List.set_append_right:=@List.set_append_right
theorem qb3:type_of% @List.singleton_append:=@List.singleton_append
theorem qb4:type_of% @Nat.add_zero:=@Nat.add_zero
theorem qb5:type_of% @List.take_succ_cons:=@List.take_succ_cons
theorem qb6:type_of% @Nat.two_pow_pos:=@Nat.two_pow_pos
theorem qb7:type_of% @List.flatMap_cons:=@List.flatMap_cons
theorem qb8:type_of% @Nat.mul_le_mul_right:=@Nat.mul_le_mul_right
theorem qb9:type_of% @List.take_append_drop:=@List.take_append_drop
theorem qca:type_of% @Nat.lt_of_lt_of_le:=@Nat.lt_of_lt_of_le
theorem qcb:type_of% @List.take_zero:=@List.take_zero
theorem qcc:type_of% @List.drop_zero:=@List.drop_zero
theorem qcd:type_of% @IntWalk.i64_in:=@IntWalk.i64_in
theorem qce:type_of% @List.mem_filter:=@List.mem_filter
theorem qcf:type_of% @List.getElem?_append_left:=@List.getElem?_append_left
theorem qcg:type_of% @List.drop_succ_cons:=@List.drop_succ_cons
theorem qch:type_of% @Array.length_toList:=@Array.length_toList
theorem qci:type_of% @Nat.pow_succ:=@Nat.pow_succ
theorem qcj:type_of% @List.getElem?_eq_none:=@List.getElem?_eq_none
theorem qck:type_of% @List.length_replicate:=@List.length_replicate
theorem qcl:type_of% @IntWalk.u32_in:=@IntWalk.u32_in
theorem qcm:type_of% @Array.getD_eq_getD_getElem?:=@Array.getD_eq_getD_getElem?
theorem qcn:type_of% @List.set_cons_zero:=@List.set_cons_zero
theorem qco:type_of% @List.mem_append_left:=@List.mem_append_left
theorem qcp:type_of% @List.mem_iff_getElem:=@List.mem_iff_getElem
theorem qcq:type_of% @Nat.beq_refl:=@Nat.beq_refl
theorem qcr:type_of% @List.filter_cons:=@List.filter_cons
theorem qcs:type_of% @Array.getElem?_setIfInBounds_ne:=@Array.getElem?_setIfInBounds_ne
theorem qct:type_of% @Array.getElem?_eq_getElem:=@Array.getElem?_eq_getElem
theorem qcu:type_of% @Nat.and_two_pow_sub_one_eq_mod:=@Nat.and_two_pow_sub_one_eq_mod
theorem qcv:type_of% @List.mem_append_right:=@List.mem_append_right
theorem qcw:type_of% @List.range_succ:=@List.range_succ
theorem qcx:type_of% @Option.map_some:=@Option.map_some
theorem qcy:type_of% @List.length_singleton:=@List.length_singleton
theorem qcz:type_of% @Array.toList_map:=@Array.toList_map
theorem qcA:type_of% @List.mem_flatMap:=@List.mem_flatMap
theorem qcB:type_of% @List.not_mem_nil:=@List.not_mem_nil
theorem qcC:type_of% @List.mem_of_mem_drop:=@List.mem_of_mem_drop
theorem qcD:type_of% @List.map_map:=@List.map_map
theorem qcE:type_of% @List.drop_drop:=@List.drop_drop
theorem qcF:type_of% @List.size_toArray:=@List.size_toArray
theorem qcG:type_of% @List.ext_getElem?:=@List.ext_getElem?
theorem qcH:type_of% @List.foldl_append:=@List.foldl_append
theorem qcI:type_of% @List.map_congr_left:=@List.map_congr_left
theorem qcJ:type_of% @Nat.add_mul:=@Nat.add_mul
theorem qcK:type_of% @Option.map_eq_some_iff:=@Option.map_eq_some_iff
theorem qcL:type_of% @Nat.div_div_eq_div_mul:=@Nat.div_div_eq_div_mul
theorem qcM:type_of% @List.drop_of_length_le:=@List.drop_of_length_le
theorem qcN:type_of% @BitVec.toNat_and:=@BitVec.toNat_and
theorem qcO:type_of% @List.cons_prefix_cons:=@List.cons_prefix_cons
theorem qcP:type_of% @List.take_take:=@List.take_take
theorem qcQ:type_of% @List.length_nil:=@List.length_nil
theorem qcR:type_of% @Bool.not_eq_true':=@Bool.not_eq_true'
theorem qcS:type_of% @Nat.sub_self:=@Nat.sub_self
theorem qcT:type_of% @Nat.mul_comm:=@Nat.mul_comm
theorem qcU:type_of% @List.filter_sublist:=@List.filter_sublist
theorem qcV:type_of% @List.filter_eq_self:=@List.filter_eq_self
theorem qcW:type_of% @List.filter_append_perm:=@List.filter_append_perm
theorem qcX:type_of% @Option.bind_some:=@Option.bind_some
theorem qcY:type_of% @List.getElem_mem:=@List.getElem_mem
theorem qcZ:type_of% @List.getElem_map:=@List.getElem_map
theorem qc0:type_of% @List.filter_filter:=@List.filter_filter
theorem qc1:type_of% @List.filter_append:=@List.filter_append
theorem qc2:type_of% @Nat.lt_or_ge:=@Nat.lt_or_ge
theorem qc3:type_of% @Nat.zero_le:=@Nat.zero_le
theorem qc4:type_of% @List.nodup_cons:=@List.nodup_cons
theorem qc5:type_of% @Nat.le_trans:=@Nat.le_trans
theorem qc6:type_of% @Nat.zero_mul:=@Nat.zero_mul
theorem qc7:type_of% @IntWalk.u8_in:=@IntWalk.u8_in
theorem qc8:type_of% @Nat.add_assoc:=@Nat.add_assoc
theorem qc9:type_of% @List.map_take:=@List.map_take
theorem qda:type_of% @Int.le_refl:=@Int.le_refl
theorem qp{p:Prop}(h:p:=by omega):p:=h
theorem qq{p:Prop}(h:p:=by kernel_rfl):p:=h
theorem qr{p:Prop}(h:p:=by first|exact trivial|exact⟨rfl,trivial⟩|exact⟨rfl,rfl,trivial⟩|exact⟨rfl,rfl,rfl,rfl,rfl,trivial⟩):p:=h
theorem qt{p:Prop}(h:p:=by first|rfl|assumption|((try simp only[qbF,qbR,qbt,qbU,qb4,qbO]);first|assumption|rfl)):p:=h
theorem qu{p:Prop}(h:p:=by first|exact qbk rfl|omega|(simp only[AV.cells,List.length_map];omega)):p:=h
theorem qv{p:Prop}(h:p:=by repeat(first|exact trivial|refine⟨⟨rfl,rfl⟩,?_⟩)):p:=h
theorem qw{p:Prop}(h:p:=by simp at h;omega):p:=h
theorem qy{p:Prop}(h:p:=by simp only[maxLen];omega):p:=h
theorem qA{p:Prop}(h:p:=by first|rfl|simp[AV.noSl,AV.noSlL,AObj.noSl,PV.isV,zaF]):p:=h
theorem qB{p:Prop}(h:p:=by simpa using h):p:=h
theorem qC{p:Prop}(h:p:=by first|exact zcX (by first|assumption|exact qbn rfl|(simp only[AV.cells,List.length_map];first|assumption|omega))|(simp only[qb5,qcb,qcg,qcc];rfl)|rfl):p:=h
theorem qD{p:Prop}(h:p:=by first|rfl|simp[AV.okInL,AV.okIn,zaA]):p:=h
theorem qE{p:Prop}(h:p:=by first|(simp only[qbt,qbU,qbO];rfl)|rfl):p:=h
theorem qF{p:Prop}(h:p:=by first|rfl|kernel_rfl):p:=h
theorem qG{p:Prop}(h:p:=by simp):p:=h
theorem qH{p:Prop}(h:p:=by first|omega|(simp;done)|(simp;omega)):p:=h
theorem qI{p:Prop}(h:p:=by first|exact qbn rfl|(simp only[AV.cells,List.length_map];first|assumption|omega)):p:=h
theorem qJ{p:Prop}(h:p:=by first|rfl|(simp;done)|(simp;omega)):p:=h
theorem qK{p:Prop}(h:p:=by first|assumption|exact qbn rfl|(simp only[AV.cells,List.length_map];first|assumption|omega)):p:=h
theorem qL{p:Prop}(h:p:=by repeat(first|exact trivial|refine⟨rfl,?_⟩)):p:=h
theorem qM{p:Prop}(h:p:=by first|(simp only[setR,AV.cells,qb5,qcb,qcg,qcc,List.drop_nil,List.take_nil,qb0,qbW,List.append_nil,qbE,qcQ,Nat.reduceAdd,qbO,qb4];rfl)|rfl):p:=h
theorem qN{p:Prop}(h:p:=by first|exact qcd _ (by omega)|rfl):p:=h
theorem qO{p:Prop}(h:p:=by first|exact .inl rfl|exact .inr rfl):p:=h
theorem qP{p:Prop}(h:p:=by first|omega|(simp only[maxLen];omega)):p:=h
theorem qQ{p:Prop}(h:p:=by rw[IntKind.wrap_u8];omega):p:=h
theorem qR{p:Prop}(h:p:=by rw[zaO (k:=3) (fun _=>rfl),List.length_take,Nat.min_eq_left (by omega)]):p:=h
theorem qS{p:Prop}(h:p:=by decide):p:=h
theorem qT{p:Prop}(h:p:=by rw[←hF];show(if 200<(pqG q i).xs.length then(1:Int)else 0)=_;rw[show pqG q i=p by unfold pqG;rw[List.getD_eq_getElem?_getD,hp];rfl]):p:=h
theorem qU{p:Prop}(h:p:=by(repeat(first|exact trivial|(refine⟨⟨(by first|rfl|(simp;done)|(simp;omega)),rfl⟩,?_⟩)))):p:=h
theorem qV{p:Prop}(h:p:=by first|rfl|assumption|((try simp only[qbt,qbU,qb4,qbO]);first|assumption|rfl)):p:=h
theorem qW{p:Prop}(h:p:=by first|rfl|simp[AV.noSl,AV.noSlL,AObj.noSl,PV.isV,strs]):p:=h
theorem qX{p:Prop}(h:p:=by show Slot.live (.rowA _ 41 d.ps.length none (AV.renL _ (arS d.ps i s 1)))=_;rw[ze7]):p:=h
theorem qY{p:Prop}(h:p:=by rw[qbH,hlen];first|omega|(simp only[qbt];omega)):p:=h
theorem qZ{p:Prop}(h:p:=by first|rfl|assumption):p:=h
theorem qaa{p:Prop}(h:p:=by first|exact qc7 _ (by omega)|rfl):p:=h
theorem qab{p:Prop}(h:p:=by rw[qbH];omega):p:=h
theorem qac{p:Prop}(h:p:=by rw[zaO (k:=41) (fun _=>rfl),List.length_take,Nat.min_eq_left (by omega)]):p:=h
theorem qad{p:Prop}(h:p:=by rw[List.length_take];omega):p:=h
theorem qae{p:Prop}(h:p:=by first|exact id|(simp;done)|grind):p:=h
theorem qaf{p:Prop}(h:p:=by first|exact id|(simp_all;done)|grind):p:=h
theorem qag{p:Prop}(h:p:=by simp[seV,isN,isC,isT]):p:=h
theorem qah{p:Prop}(h:p:=by assumption):p:=h
theorem qai{p:Prop}(h:p:=by simpa using hi):p:=h
theorem qaj{p:Prop}(h:p:=by first|rfl|simp[AV.noSl,AV.noSlL,AObj.noSl,hv]):p:=h
theorem qak{p:Prop}(h:p:=by rw[zaO (f:=ST.pv) (k:=41) (fun _=>rfl),qbP]):p:=h
theorem qal{p:Prop}(h:p:=by rw[List.length_take,qbH];omega):p:=h
theorem qam{p:Prop}(h:p:=by first|rfl|omega):p:=h
theorem qan{p:Prop}(h:p:=by rw[hi,List.length_take,qbH];congr 1;omega):p:=h
theorem qao{p:Prop}(h:p:=by first|exact id|simp_all):p:=h
theorem qap{p:Prop}(h:p:=by rw[qbH,hlnl];first|omega|(simp only[qbt];omega)):p:=h
theorem qaq{p:Prop}(h:p:=by rw[zeg.2 (fun e=>he (by simp at e;simp[e]))];rfl):p:=h
theorem qar{p:Prop}(h:p:=by show Slot.live (.rowA _ 41 i none (fzL _ (arA A s0 102 B)))=_;rw[arA_fz rfl]):p:=h
theorem qas{p:Prop}(h:p:=by rw[zaO (k:=5) (fun _=>rfl),List.length_take,Nat.min_eq_left (by omega)]):p:=h
theorem qat{p:Prop}(h:p:=by rw[List.getElem?_set_self hi]):p:=h
theorem qau{p:Prop}(h:p:=by simp only[qcF];rw[zbV hfit];simp):p:=h
theorem qav{p:Prop}(h:p:=by simpa[blk]using hb):p:=h
theorem qaw{p:Prop}(h:p:=by simp at hb;exact qcd _ (by have:=hB hb.1.1.1 hb.1.1.2;omega)):p:=h
theorem qax{p:Prop}(h:p:=by rw[show(⟨#[112,97,105,114]⟩:ByteArray).size=4 from rfl];omega):p:=h
theorem qay{p:Prop}(h:p:=by first|exact qcl _ (by omega)|rfl):p:=h
theorem qaz{p:Prop}(h:p:=by simp[TR.pairs,hx]):p:=h
theorem qaA{p:Prop}(h:p:=by have:=hqx p (qbo hp);omega):p:=h
theorem qaB{p:Prop}(h:p:=by rw[zeK (by rw[bs_length]at g5;omega),g2]):p:=h
theorem qaC{p:Prop}(h:p:=by simpa[Op.operands,Call.operands]using hr):p:=h
theorem qaD{p:Prop}(h:p:=by rw[qbm,zdl hb hSl,qbm,zcp];rfl):p:=h
theorem qaE{p:Prop}(h:p:=by rw[zaY.2 (by simp at he;simp[he])];rfl):p:=h
theorem qaF{p:Prop}(h:p:=by rw[List.getD_eq_getElem?_getD,List.getElem?_eq_getElem h];rfl):p:=h
theorem qaG{p:Prop}(h:p:=by simpa[AV.okIn]using hk):p:=h
theorem qaH{p:Prop}(h:p:=by have:=hx.length_le;simp at this;omega):p:=h
theorem qaI{p:Prop}(h:p:=by rw[qbm];omega):p:=h
theorem qaJ{p:Prop}(h:p:=by simpa only[AV.okIn]using hk):p:=h
theorem qaK{p:Prop}(h:p:=by simpa only[AV.noSl]using hn):p:=h
theorem qaL{p:Prop}(h:p:=by have:=(qbl.1 hx).1;simpa using this):p:=h
theorem qaM{p:Prop}(h:p:=by simp at hb;exact qcd _ (by have:=hB hb;omega)):p:=h
theorem qaN{p:Prop}(h:p:=by cases ho):p:=h
theorem qaO{p:Prop}(h:p:=by simpa only[AV.free]using f):p:=h
theorem qaP{p:Prop}(h:p:=by unfold hexE;rw[if_neg (by omega),if_pos hev,if_pos hb]):p:=h
theorem qaQ{p:Prop}(h:p:=by simpa using hl):p:=h
theorem qaR{p:Prop}(h:p:=by simpa using h1):p:=h
theorem qaS{p:Prop}(h:p:=by decide+kernel):p:=h
theorem qaT{p:Prop}(h:p:=by rw[zau];simp[zbZ]):p:=h
theorem qaU{p:Prop}(h:p:=by unfold ntG;rw[List.getD_eq_getElem?_getD,hq];rfl):p:=h
theorem qaV{p:Prop}(h:p:=by rw[HE.out];(repeat' split)<;>simp_all<;>omega):p:=h
theorem qaW{p:Prop}(h:p:=by rw[qbt];exact g1):p:=h
theorem qaX{p:Prop}(h:p:=by unfold zaR;congr 1;funext x;rw[Bool.and_comm]):p:=h
theorem qaY{p:Prop}(h:p:=by first|assumption|kernel_rfl):p:=h
theorem qaZ{p:Prop}(h:p:=by rw[List.getElem?_set_self hiN]):p:=h
theorem qa0{p:Prop}(h:p:=by simp[zbZ]):p:=h
theorem qa1{p:Prop}(h:p:=by simpa[Op.operands]using hr):p:=h
theorem qa2{p:Prop}(h:p:=by rw[zau,zbZ]):p:=h
theorem qa3{p:Prop}(h:p:=by simp[hy]):p:=h
theorem qa4{p:Prop}(h:p:=by simpa[blk]using h2):p:=h
theorem qa5{p:Prop}(h:p:=by simpa using hb 0 (by omega)):p:=h
theorem qa6{p:Prop}(h:p:=by rw[←hF];simpa using h):p:=h
theorem qa7{p:Prop}(h:p:=by rw[bs_length];exact hlen):p:=h
theorem qa8{p:Prop}(h:p:=by rw[zeK (by omega),hset]):p:=h
theorem qa9{p:Prop}(h:p:=by simpa using hb):p:=h
theorem qba{p:Prop}(h:p:=by rw[bs_length];exact hD):p:=h
theorem qbb{p:Prop}(h:p:=by rw[zau];rfl):p:=h
theorem qbc{p:Prop}(h:p:=by have:=ok.treeN;omega):p:=h
theorem qbd{p:Prop}(h:p:=by rw[zgq,g3];exact hf):p:=h
theorem qbe{p:Prop}(h:p:=by simpa using hlk):p:=h
theorem qbf{p:Prop}(h:p:=by simp[hp]):p:=h
theorem qbg{p:Prop}(h:p:=by simp;omega):p:=h
theorem qbh{p:Prop}(h:p:=by simpa using hn):p:=h
theorem qbi{p:Prop}(h:p:=by simpa using hz):p:=h
theorem qbj{p:Prop}(h:p:=by simpa using he):p:=h
theorem zin{B:Nat}{a w:World}(h:Below B a w)(n:Nat):Below B a (w.drewN n):=⟨h.os,h.tape,h.output,h.size,h.block⟩
theorem zdu{k:IntKind}{a b:Int}(h:a=b):Ending.returned (.int k a)=.returned (.int k b):=by rw[h]
theorem zci(n:Nat):((2:Int)^n)=((2^n:Nat):Int):=qG
theorem zdj(n:Nat):(0:Int)<2^n:=by rw[zci];exact_mod_cast qb6 n
theorem zhG(a:Int)(k:Nat)(h0:0≤a)(h1:a<4294967296)(hk:k≤32):
 bits .and .u32 a (2^k-1)=a%2^k:=by
 have hp:(2:Int)^k≤4294967296:=by
  rw[zci];have:=qbS (show 0<2 by decide) hk;omega
 have hq:=zdj k;rw[u32_and a (2^k-1) h0 h1 (by omega) (by omega)]
 have e:((2:Int)^k-1).toNat=2^k-1:=by
  rw[zci];have:=qb6 k;omega
 rw[e,qcu];rw[zci];obtain⟨b,rfl⟩:=qbp h0;simp
theorem zj9{w w1 w2:World}(h:Below w.heap.size w w1)(k:Below w1.heap.size w1 w2):Below w.heap.size w w2:=h.trans (k.mono h.size)
theorem zgv{w w1:World}(h:Below w.heap.size w w1)(o:Obj):Below w.heap.size w (w1.alloc o):=h.alloc h.size o
theorem bset{w w1:World}(h:Below w.heap.size w w1){p:Addr}(hp:w.heap.size≤p.block)(u:Value):Below w.heap.size w (w1.setCell p u):=h.setCell hp u
theorem zka{w w1:World}(h:Below w.heap.size w w1):Below w.heap.size w w1.drew:=h.drew
theorem zgt{w w1:World}(h:Below w.heap.size w w1)(n:Nat):Below w.heap.size w (w1.drewN n):=zin h n
def Gives(P:Program)(f:FuncId)(args:Array Value)(v:Value):Prop:=
 ∀w,Calls P f args w fun e w'=>e=.returned v∧Below w.heap.size w w'
theorem Gives.q{P:Program}{f:FuncId}{args:Array Value}{w:World}{d:Nat}{os:Array Obj}{v:Value}(h:Gives P f args v):
 Calls P f args (grow (redrawn w d) os) fun e w''=>e=.returned v∧∃p:Regrown,w''=grow (redrawn w p.d) p.os:=Calls.regrown_of (h _)
theorem block_of_add(a:Addr)(n:Nat):(a.add n).block=a.block:=by unfold Addr.add;split<;>rfl
def Reads(w:World)(B size:Nat)(A:Option Addr)(n:Nat)(xs:List Value):Prop:=
 xs.length=n*size∧(0<n→∃ad,A=some ad∧ad.block<B∧∀j u,xs[j]?=some u→w.cell? (ad.add j)=some u)
section
variable {w w':World}{B B' size n:Nat}{A:Option Addr}{xs:List Value}
theorem Reads.at_{k:Nat}(h:Reads w B 1 A n xs)(hk:k<n):∃ad u,A=some ad∧ad.block<B∧xs[k]?=some u∧w.cell? (ad.add k)=some u:=by
 obtain⟨ad,e,hb,hc⟩:=h.2 qp;have hl:k<xs.length:=by have:=h.1;omega
 exact⟨ad,xs[k],e,hb,List.getElem?_eq_getElem hl,hc k _ (List.getElem?_eq_getElem hl)⟩
theorem Reads.keep(h:Reads w B size A n xs)(hk:∀p:Addr,p.block<B→w'.cell? p=w.cell? p):Reads w' B size A n xs:=
 ⟨h.1,fun hn=>by
  obtain⟨ad,e,hb,hc⟩:=h.2 hn
  exact⟨ad,e,hb,fun j u hu=>(hk _ (by rw[block_of_add];exact hb)).trans (hc j u hu)⟩⟩
theorem Reads.more(h:Reads w B size A n xs)(hB:B≤B'):Reads w B' size A n xs:=
 ⟨h.1,fun hn=>by
  obtain⟨ad,e,hb,hc⟩:=h.2 hn
  exact⟨ad,e,qp,hc⟩⟩
theorem Reads.below(h:Reads w B size A n xs)(hb:Below B w w'):Reads w' B size A n xs:=h.keep fun _ hp=>hb.cell hp
theorem Reads.drew(h:Reads w B size A n xs):Reads w.drew B size A n xs:=h
theorem Reads.drewN(h:Reads w B size A n xs)(k:Nat):Reads (w.drewN k) B size A n xs:=h
theorem Reads.alloc(h:Reads w B size A n xs)(hB:B≤w.heap.size)(o:Obj):Reads (w.alloc o) B size A n xs:=h.keep fun p hp=>World.cell?_alloc_lt w o p qp
theorem Reads.setCell(h:Reads w B size A n xs){p:Addr}(hB:B≤p.block)(u:Value):Reads (w.setCell p u) B size A n xs:=
 h.keep fun q hq=>World.cell?_setCell_other w p q u (fun e=>by subst e;omega)
theorem Reads.grown(h:Reads w B size A n xs){row:Option Nat}(hg:w.grownBy w' row)(hB:B≤w.heap.size)(hr:∀g,row=some g→B≤g):Reads w' B size A n xs:=
 h.keep fun p hp=>World.cell?_of_block (hg.block p.block qp (fun e=>by have:=hr _ e.symm;omega))
end
def Blk(w:World)(g:Nat)(t:TypeId)(cs:Array Value):Prop:=w.heap[g]?=some (.cells cs t (0,0))
section
variable {w w':World}{g:Nat}{t:TypeId}{cs:Array Value}
theorem Blk.lt(h:Blk w g t cs):g<w.heap.size:=by
 rcases qc2 g w.heap.size with hlt|hge
 ·exact hlt
 ·unfold Blk at h;rw[Array.getElem?_eq_none hge]at h;cases h
theorem Blk.cell(h:Blk w g t cs)(i:Nat):w.cell? ⟨g,i,none⟩=cs[i]?:=cell_of_row w g i cs t (0,0) h
theorem Blk.new(w:World)(t:TypeId)(cs:Array Value):Blk (w.alloc (.cells cs t)) w.heap.size t cs:=heap_alloc_new w _
theorem Blk.drew(h:Blk w g t cs):Blk w.drew g t cs:=h
theorem Blk.drewN(h:Blk w g t cs)(n:Nat):Blk (w.drewN n) g t cs:=h
theorem Blk.alloc(h:Blk w g t cs)(o:Obj):Blk (w.alloc o) g t cs:=(Below.heap_alloc w o g h.lt).trans h
theorem Blk.below{B:Nat}(h:Blk w g t cs)(hb:Below B w w')(hg:g<B):Blk w' g t cs:=(hb.block g hg).trans h
theorem Blk.grown{row:Option Nat}(h:Blk w g t cs)(hb:w.grownBy w' row)(hg:some g≠row):Blk w' g t cs:=(hb.block g h.lt hg).trans h
end
structure Bx(q:Prop):Prop where
 o:q
theorem jaa{p:Prop}(h:p:=by
 rw[zia];simp only[qc3,if_true,Nat.sub_zero]
 by_cases ht:t<args.length
 ·have e:args.getD t .any=args[t]:=by simp[List.getD_eq_getElem?_getD,ht]
  rw[e];obtain⟨u,h1,h2⟩:=hr.at_ (List.getElem?_eq_getElem ht);have hu:t<us.length:=qp
  have e2:(us.toArray++Array.replicate (fn.ntmps-us.toArray.size) undef).getD t undef=u:=by
   simp only[qcm];rw[Array.getElem?_append_left (by simpa using hu)];simp[h1]
  rw[e2];exact h2
 ·have e:args.getD t .any=.any:=by simp[List.getD_eq_getElem?_getD,Nat.le_of_not_lt ht]
  rw[e];simp only[Rep]):p:=h
theorem jab{p:Prop}(h:p:=by
 have key:∀{x:Nat} {obx:AObj},updL heap [(o,.live ob')] x=.live obx→∃oby,heap x=.live oby:=by
  intro x obx hx
  by_cases e:x=o
  ·subst e;exact⟨ob,hl⟩
  ·simp only[updL,nbeq e,cond_false]at hx;exact⟨obx,hx⟩
 obtain⟨_,g1⟩:=key h1;obtain⟨_,g2⟩:=key h2
 exact hm.inj _ _ _ _ _ _ _ g1 g2 h3 h4 h5 h6):p:=h
theorem jac{p:Prop}(h:p:=by
 exact⟨S,_,by simp only[Rep];exact⟨by simp[setM],_,_,_,rfl⟩,f1,f2⟩):p:=h
theorem jad{p:Prop}(h:p:=by
 simp[Lit.wf,IntKind.min,IntKind.max,IntKind.signed,IntKind.bits]at h
 omega):p:=h
theorem jae{p:Prop}(h:p:=by
 refine⟨S,_,?_,f1,f2⟩;simp only[Rep];refine⟨by simp[setM],?_⟩;rcases hrow.2 with⟨rfl,_⟩|⟨g',cap,cur,fz,rfl,_⟩
 ·exact⟨none,0,0,rfl⟩
 ·exact⟨_,_,_,rfl⟩):p:=h
theorem jaf{p:Prop}(h:p:=by
 rcases h3 with⟨rfl,_⟩|⟨b',cap,cur,fz,rfl,h4,h5,h6⟩
 ·simp[blk]at hb
 ·obtain rfl:b'=b:=qav
  exact⟨h4,(qbK.1 h5).1⟩):p:=h
theorem jag{p:Prop}(h:p:=by
 rw[qcm]at h3;cases h4:a.tmps[d]? with
 |none=>rw[h4]at h3;simp[undef]at h3
 |some x=>rw[h4]at h3;simp at h3;rw[h3]):p:=h
theorem jah{p:Prop}(h:p:=by
 rcases h3 with h3|⟨b,cap,cur,fz,rfl,h4,h5,h6⟩
 ·exact .inl h3
 ·exact .inr ⟨b,cap,cur,fz,rfl,h4,(hb b rfl).trans h5,h6⟩):p:=h
theorem jai{p:Prop}(h:p:=by
 exact⟨S,_,by simp only[Rep];exact⟨w.heap.size,.pointer (some ⟨w.heap.size,0,none⟩),by simp[setM],rfl,rfl⟩,k1,k2⟩):p:=h
theorem jaj{p:Prop}(h:p:=by
 have e2:(zb4 ρ news).map Prod.fst=news.map fun p=>ρ p.1:=by simp[zb4,qcD,Function.comp_def]
 rw[e1,e2]
 exact k):p:=h
theorem jak{p:Prop}(h:p:=by
 subst h3;have:(us.drop off).take (0*size)=[]:=qbz (by rw[hlen];simp)
 rw[this]at hj;simp at hj):p:=h
theorem jal{p:Prop}(h:p:=by
 rcases g3 with g3|⟨b,cap,cur,fz,g4,g5,g6⟩
 ·exact .inl g3
 ·exact .inr ⟨b,cap,cur,fz,g4,qp,g6⟩):p:=h
theorem jam{p:Prop}(h:p:=by
 by_cases e:o'=o
 ·subst e;simp[updL]at ho'
 ·simp only[updL,nbeq e,cond_false]at ho'
  exact hm.un o' ho'):p:=h
theorem jan{p:Prop}(h:p:=by
 subst e;simp only[updL,qcq,cond_true,Slot.live.injEq]at ho';subst ho'
 exact⟨v,hv,ho,k3⟩):p:=h
theorem jao{p:Prop}(h:p:=by
 unfold Proofs.YtdiljgkijgiboaaGreatDoor.setR;rw[k.length]
 exact((h.take off).append k).append (h.drop _)):p:=h
end Go.Proofs.YtdiljgkijgiboaaGreatDoor
