/- Used. -/
import Derived.Test.YtdiljgkijgiboaaGreatDoorSShelf
import Derived.WalkSmall
set_option linter.all false
set_option maxRecDepth 100000
set_option maxHeartbeats 16000000
namespace Go.Proofs.YtdiljgkijgiboaaGreatDoor
open Tryz
open Go.RowKit Go.Sort
theorem GI.tab{w:World}(h:GI w):Lib.TabIs prog w "internal/strconv.uint64pow10" .u64 Lib.pow10Tab:=by
 obtain⟨t,fz,h1⟩:=h.2 _ (List.mem_cons_self ..);exact var_of_heap qq h1
theorem GI.err{w:World}(h:GI w){g:Nat}(hg:g∈gErr):∃ev,w.cell? ⟨g,0,none⟩=some ev∧(ev=.nilIface∨∃te pe,ev=.iface te pe):=by
 obtain⟨ev,t,fz,h1,h2⟩:=h.1 g hg;exact⟨ev,cell_of_row w g 0 #[ev] t fz h1,h2⟩
theorem zgp{P:Program}{f:FuncId}{args:List AV}{vs:List Value}{res:AV}(ha:zg0 args=some vs)(h:∀w:World,GI w→Calls P f vs.toArray w fun e w'=>∃r,e=.returned r∧(∀S m w,Rep S m w res r)∧Below w.heap.size w w'):Fn P f args res []:=by
 intro w A us hA hG hus;rw[ze6 ha hus];refine(h w hG).mono ?_;rintro e w' ⟨r,rfl,hr,hb⟩;exact⟨r,rfl,A,fun _=>none,hr _ _ _,hb,fun b hb=>.inl hb,fun b h=>qca (hA b h) hb.size,fun o _=>rfl,fun o ob ho=>qaN,fun o o' ob ob' v v' b ho=>qaN,hG⟩
theorem grow_below(w:World)(k:Nat)(os:Array Obj):Below w.heap.size w (grow (w.drewN k) os):=
 (zin (Below.refl _ w) k).trans ⟨rfl,rfl,rfl,by simp[grow],fun b hb=>by
  show(w.heap++os)[b]?=w.heap[b]?
  rw[Array.getElem?_append_left hb]⟩
theorem itoa_s(n:Int)(h0: -9223372036854775808≤n)(h1:n≤9223372036854775807):Fn prog 209 [qd n] (qc (itoS n)) []:=
 zgp (vs:=[.int .i64 n]) rfl fun w hG=>(strconv_Itoa n h0 h1 w hG.tab).mono fun e w' ⟨he,k,os,hw⟩=>⟨_,he,fun S m w=>za7 rfl,by rw[hw];exact grow_below w k os⟩
theorem zjx{S:Nat→Prop}{m:Nat→Option Value}{w:World}{x y:AV}{u v:Value}(h1:Rep S m w x u)(h2:Rep S m w y v):Rep S m w (.tup [x,y]) (.tuple #[u,v]):=by
 simp only[Rep,RepL];exact⟨[u,v],rfl,u,[v],rfl,h1,v,[],rfl,h2,rfl⟩
theorem atoi_ok(s:ByteArray)(v:Int)(hs:s.size≤140737488351232)(h:Lib.atoiAll s.data.toList=.ok v):Fn prog 208 [qc s] (.tup [qd v,.p (.v .nilIface)]) []:=
 zgp (vs:=[.string s]) rfl fun w hG=>(strconv_Atoi_ok s qp v h w).mono fun e w' ⟨he,hw⟩=>⟨_,he,fun S m w=>zjx (za7 rfl) (za7 rfl),by
  rcases hw with rfl|⟨t,rfl⟩
  ·exact Below.refl _ _
  ·exact Lib.bytesWorld_below _ _ _⟩
theorem atoi_bad(s:ByteArray)(hs:s.size≤140737488351232)(h:∀v,Lib.atoiAll s.data.toList≠.ok v):∃n:Int,Fn prog 208 [qc s] (.tup [qd n,.sat isIfc]) []:=by
 cases hr:Lib.atoiAll s.data.toList
 ·exact absurd hr (h _)
 ·refine⟨0,zgp (vs:=[.string s]) rfl fun w hG=>?_⟩;obtain⟨ev,h1,h2⟩:=hG.err (g:=1) qS;exact(Any.strconv_Atoi_syntax Tryz.laysC172 s qp hr ev w h1 h2).mono fun e w' ⟨N,he,_,_,hb⟩=>⟨_,he,fun S m w=>zjx (za7 rfl) (by simp only[Rep];exact⟨rfl,rfl⟩),hb⟩
 ·refine⟨Lib.atoiSat s.data.toList,zgp (vs:=[.string s]) rfl fun w hG=>?_⟩;obtain⟨ev,h1,h2⟩:=hG.err (g:=2) qS;exact(Any.strconv_Atoi_range Tryz.laysC172 s qp hr ev w h1 h2).mono fun e w' ⟨N,he,_,_,hb⟩=>⟨_,he,fun S m w=>zjx (za7 rfl) (by simp only[Rep];exact⟨rfl,rfl⟩),hb⟩
def smV(s:ByteArray):Int:=if canS s=true then(valS s:Int)else 0
theorem small_s(s:ByteArray)(most:Int)(hs:s.size≤140737488351232):Fn prog 198 [qc s,qd most] (.tup [qd (smV s),qf (numB s most)]) []:=by
 obtain⟨V,hV⟩:∃V,smV s=V:=⟨_,rfl⟩;obtain⟨B,hB⟩:∃B,numB s most=B:=⟨_,rfl⟩;rw[hV,hB];unfold smV at hV;unfold numB at hB;refine fnI fun w0 A=>?_
 refine G [13] ?_;refine mb2 _ rfl rfl (fun hb=>(zhC U9)) (fun _=>trivial) ?_;refine G [1,2,2] ?_;refine mb2 _ rfl rfl (fun hb=>(zhC U9)) (fun _=>trivial) ?_;refine G [3] ?_;refine mb2 _ rfl rfl (fun hb=>(zbS U9 qp (zjv (s:=s) (i:=0) (by simp at hb;omega)))) (fun _=>trivial) ?_;refine mb2 _ rfl rfl (fun hb=>a_eql) (fun _=>trivial) ?_;refine r_mb3 _ rfl rfl (.mb _ _ _ _ qao (.keep _ _ _ (.keep _ _ _ .nil))) (fun hb=>(zki qaf)) (fun _=>trivial) ?_
 refine G [0,2,1,9,0] ?_;refine cX ?_ ?_<;>intro h
 ·have hc:canS s=false:=by
   simp only[Bool.or_eq_true,qbB,decide_eq_true_eq,beq_iff_eq]at h;refine canS_not ?_;rcases h with(h|h)|⟨h1,h2⟩
   ·exact .inl qp
   ·exact .inr (.inl qp)
   ·exact .inr (.inr (.inl ⟨qp,h2⟩))
  rw[hc]at hV hB;subst hV;subst hB;exact jaB
 have h0:s.size≠0∧s.size≤5∧(1<s.size→sAt s 0≠48):=by
  simp only[Bool.or_eq_false_iff,Bool.and_eq_false_iff,decide_eq_false_iff_not,beq_eq_false_iff_ne]at h;obtain⟨⟨h1,h2⟩,h3⟩:=h;exact⟨qp,qp,fun h4=>by rcases h3 with h3|h3<;>first|omega|exact h3⟩
 clear h;obtain⟨z0,z5,zz⟩:=h0;refine G [13] ?_;refine zag (fun m st=>∃i:Nat,m+i=s.size∧(∀j,j<i→digS (sAt s j)=true)∧st=St.of [(0,qc s),(1,qd most),(6,qd (valT s i)),(27,qd s.size),(28,qd i)] []) s.size ?_ ?_
 ·refine⟨_,zai id _ _ ?_ ?_ rfl,0,qp,qp,rfl⟩
  ·refine⟨⟨rfl,rfl⟩,⟨rfl,rfl⟩,⟨?_,rfl⟩,⟨rfl,rfl⟩,⟨rfl,rfl⟩,trivial⟩;rw[valT_zero];rfl
  ·trivial
 rintro m st ⟨i,hi,hf,rfl⟩;refine G [5] ?_;refine cX ?_ ?_<;>intro h
 ·have hlt:i<s.size:=qw;clear h;have g1:=zjv hlt;have hsu:=@valT_succ s i hlt;have hn:=@canS_not s;have hb:=sAt_B hlt;have hv0:=valT_in (Nat.le_of_lt hlt) qp hf;generalize hc:sAt s i=c at*;generalize valT s i=v at*;refine G [13] ?_;refine zaa (zbS U9 qp qaW) rfl rfl ?_;refine G [4] ?_;refine mb2 _ rfl rfl (fun hb=>(zbS U9 qp qaW)) (fun _=>trivial) ?_;refine G [1,2,1,9,0] ?_;refine cX ?_ ?_<;>intro h
  ·have hd:digS c=false:=by
    unfold digS;simp at h⊢;omega
   rw[hn (.inr (.inr (.inr ⟨i,hlt,by rw[hc];exact hd⟩)))]at hV hB;subst hV;subst hB;exact jaB
  have hd:digS c=true:=by
   unfold digS;simp at h⊢;omega
  clear h;have hs1:=hsu hd;have hd':=hd;unfold digS at hd';simp only[qbB,decide_eq_true_eq]at hd';refine G [6] ?_;refine zaa (zbS U9 qp qaW) rfl rfl ?_;refine G [9,9,0] ?_;refine⟨m-1,qp,_,zai id _ _ ?_ ?_ rfl,i+1,qp,?_,rfl⟩
  ·refine⟨⟨rfl,rfl⟩,⟨rfl,rfl⟩,⟨?_,rfl⟩,⟨rfl,rfl⟩,⟨rfl,rfl⟩,trivial⟩;rw[hs1];rfl
  ·trivial
  ·intro j hj
   by_cases e:j=i
   ·subst e;rw[hc];exact hd
   ·exact hf j qp
 have hge:i=s.size:=qw;clear h;subst hge;have hcan:=canS_dig z0 z5 zz hf;rw[hcan]at hV hB;rw[if_pos rfl]at hV;rw[valT_all,hV];rw[hV,Bool.true_and]at hB;subst hB;refine G [11,9,0] ?_;exact yE
def numR(s:ByteArray)(most:Int):AV:=.tup [qd (numV s most),qd (numE s most)]
theorem zh1{s:ByteArray}{most:Int}(h:numB s most=true):numR s most=.tup [qd (valS s:Nat),qd 0]:=by unfold numR numV numE;rw[h];rfl
theorem zhu{s:ByteArray}{most:Int}(h:numB s most=false):numR s most=.tup [qd 0,qd 3]:=by unfold numR numV numE;rw[h];rfl
theorem zge{s:ByteArray}{most:Int}(h:numB s most=true):canS s=true∧(valS s:Int)≤most:=by
 unfold numB at h;simpa using h
theorem number_s(s:ByteArray)(most:Int)(hs:s.size≤140737488351232):Fn prog 174 [qc s,qd most] (numR s most) []:=by
 have hC:=small_s s most hs;cases hB:numB s most with
 |true=>
  rw[zh1 hB];rw[hB,show smV s=(valS s:Nat)by unfold smV;rw[if_pos (zge hB).1]]at hC;refine fnI fun w0 A=>?_
  refine G [9] ?_;refine cV hC ?_;refine jd2 ?_;refine cX ?_ ?_<;>intro h
  ·cases h
  exact jbs
 |false=>
  rw[zhu hB];rw[hB]at hC;refine fnI fun w0 A=>?_
  refine G [9] ?_;refine cV hC ?_;refine jd2 ?_;exact jbi
theorem refNum_s(s:ByteArray)(most:Int)(hs:s.size≤140737488351232):Fn prog 188 [qc s,qd most] (numR s most) []:=by
 by_cases hA:∃v,Lib.atoiAll s.data.toList=.ok v
 rotate_left
 ·obtain⟨n,hC⟩:=atoi_bad s hs fun v h=>hA ⟨v,h⟩
  have hB:numB s most=false:=by
   cases h:numB s most with
   |false=>rfl
   |true=>exact absurd ⟨_,(zj8 (zge h).1).1⟩ hA
  rw[zhu hB];refine fnI fun w0 A=>?_
  refine G [8] ?_;refine cV hC ?_;refine G [10] ?_;refine jfZ (a_ifneqI underlying200) ?_;refine G [21,9,0] ?_;exact jbi
 obtain⟨v,hv⟩:=hA;have hC:=atoi_ok s v hs hv;obtain⟨v0,v1⟩:=Lib.atoiAll_bounds hv;have hI:=itoa_s v v0 v1;have hk:=@canS_num s v;have hk2:=@zj8 s;obtain⟨R,hR⟩:∃R,numR s most=R:=⟨_,rfl⟩;rw[hR];obtain⟨w,hW⟩:∃w,itoS v=w:=⟨_,rfl⟩;rw[hW]at hI;refine fnI fun w0 A=>?_
 refine G [8] ?_;refine cV hC ?_;refine G [10] ?_;refine jfZ (a_ifneqN underlying200) ?_;refine G [8,2,4,2,2] ?_;refine mb2 _ rfl rfl (fun _=>zbl func209 rfl rfl (hI) qD rfl) (fun _=>trivial) ?_;refine G [2,2,1,9,0] ?_;refine cX ?_ ?_<;>intro h
 ·have hB:numB s most=false:=by
   cases hb:numB s most with
   |false=>rfl
   |true=>
    exfalso
    obtain⟨h1,h2⟩:=zge hb;obtain⟨h3,h4,h5⟩:=hk2 h1;have h6:v=(valS s:Nat):=by rw[hv]at h3;exact Lib.NumEnd.ok.inj h3
    have h7:s.size≤5:=(canS_size h1).2;subst h6;rw[hW]at h4;subst h4;simp at h;omega
  rw[zhu hB]at hR;subst hR;exact jaB
 ·simp at h;obtain⟨⟨⟨h1,h2⟩,h3⟩,h4⟩:=h;have hk1:=hk qp h2 (by rw[hW];exact h4) hv
  have hB:numB s most=true:=by
   unfold numB;rw[hk1.1,←hk1.2];simpa using h3
  rw[zh1 hB]at hR;subst hR;have hvv:=hk1.2;subst hvv;exact jbs
end Go.Proofs.YtdiljgkijgiboaaGreatDoor
namespace Go.Proofs.YtdiljgkijgiboaaGreatDoor
open Go.RowKit Go.Sort
theorem zhb(n k:Nat)(hn:n<9223372036854775808)(hk:k≤62):bits .and .i64 (n:Int) ((2^k-1:Nat):Int)=((n%2^k:Nat):Int):=by
 have hp:2^k≤2^62:=qbS qS hk;have hp':n%2^k≤n:=Nat.mod_le _ _
 have h1:(BitVec.ofInt 64 (n:Int)).toNat=n:=by
  exact jaV
 have h2:(BitVec.ofInt 64 ((2^k-1:Nat):Int)).toNat=2^k-1:=by
  exact jaV
 show IntKind.i64.wrap ((BitVec.ofInt 64 (n:Int) &&& BitVec.ofInt 64 ((2^k-1:Nat):Int)).toNat:Int)=_;rw[qcN,h1,h2,qcu,IntKind.wrap_i64];omega
theorem i64_and_65535(n:Nat)(hn:n<9223372036854775808):bits .and .i64 (n:Int) 65535=((n%65536:Nat):Int):=zhb n 16 hn qp
theorem i64_and_255(n:Nat)(hn:n<9223372036854775808):bits .and .i64 (n:Int) 255=((n%256:Nat):Int):=zhb n 8 hn qp
theorem or_add(a b i:Nat)(hb:b<2^i):(a*2^i) ||| b=a*2^i+b:=by
 have:=Nat.two_pow_add_eq_or_of_lt (i:=i) (b:=b) hb a;rw[qcT]at this;exact this.symm
theorem u32_or(a b i:Nat)(hb:b<2^i)(h:a*2^i+b<4294967296):bits .or .u32 ((a*2^i:Nat):Int) (b:Int)=((a*2^i+b:Nat):Int):=by
 have h1:(BitVec.ofInt 32 ((a*2^i:Nat):Int)).toNat=a*2^i:=by
  exact jaV
 have h2:(BitVec.ofInt 32 (b:Int)).toNat=b:=by
  exact jaV
 show IntKind.u32.wrap ((BitVec.ofInt 32 ((a*2^i:Nat):Int) ||| BitVec.ofInt 32 (b:Int)).toNat:Int)=_;rw[BitVec.toNat_or,h1,h2,or_add a b i hb,qcl _ (by omega)]
theorem i64_or(a b i:Nat)(hb:b<2^i)(h:a*2^i+b<9223372036854775808):bits .or .i64 ((a*2^i:Nat):Int) (b:Int)=((a*2^i+b:Nat):Int):=by
 have h1:(BitVec.ofInt 64 ((a*2^i:Nat):Int)).toNat=a*2^i:=by
  exact jaV
 have h2:(BitVec.ofInt 64 (b:Int)).toNat=b:=by
  exact jaV
 show IntKind.i64.wrap ((BitVec.ofInt 64 ((a*2^i:Nat):Int) ||| BitVec.ofInt 64 (b:Int)).toNat:Int)=_;rw[BitVec.toNat_or,h1,h2,or_add a b i hb,IntKind.wrap_i64];omega
theorem u16_not(n:Nat)(hn:n<65536):bits .xor .u16 IntKind.u16.max (n:Int)=((65535-n:Nat):Int):=by
 have h1:(BitVec.ofInt 16 (n:Int)).toNat=n:=by
  exact jaV
 have e:BitVec.ofInt 16 IntKind.u16.max=BitVec.allOnes 16:=qS;show IntKind.u16.wrap ((BitVec.ofInt 16 IntKind.u16.max ^^^ BitVec.ofInt 16 (n:Int)).toNat:Int)=_;rw[e,BitVec.allOnes_xor,BitVec.toNat_not,h1,IntWalk.u16_in _ (by omega)]
def bN(xs:List Int)(i:Nat):Nat:=(xs.getD i 0).toNat
theorem isB_at{xs:List Int}(h:isB xs)(i:Nat):0≤xs.getD i 0∧xs.getD i 0<256:=by
 rw[List.getD_eq_getElem?_getD];rcases qc2 i xs.length with hi|hi
 ·rw[List.getElem?_eq_getElem hi];exact h _ (qcY hi)
 ·rw[qcj hi];simp
theorem bN_lt{xs:List Int}(h:isB xs)(i:Nat):bN xs i<256:=by have:=isB_at h i;unfold bN;omega
theorem bN_at{xs:List Int}(h:isB xs){i:Nat}(hi:i<xs.length):(bs xs)[i]?=some (.v (.int .u8 (bN xs i:Nat))):=by
 have h2:=isB_at h i
 have e:xs[i]?=some ((bN xs i:Nat):Int):=by
  rw[List.getElem?_eq_getElem hi];rw[List.getD_eq_getElem?_getD,List.getElem?_eq_getElem hi]at h2;simp only[Option.getD_some]at h2;unfold bN;rw[List.getD_eq_getElem?_getD,List.getElem?_eq_getElem hi];simp only[Option.getD_some]
  congr 1;omega
 exact zfV e
theorem zj4(n:Nat)(xs:List Int)(hx:xs.length=n)(hn:n≤140737488355328):Fn Tryz.prog 49 [ql n 1 (bs xs)] (.row 0) [(0,.row 5 1 n (bs xs))]:=by
 exact jaF
def beN(m n:Nat):List Int:=(List.range m).map fun i=>((n/2^(8*(m-1-i))%256:Nat):Int)
theorem zcf(m n:Nat):(beN m n).length=m:=by simp[beN]
theorem beN_B(m n:Nat):isB (beN m n):=by
 intro x hx;simp only[beN,qbv]at hx;obtain⟨i,_,rfl⟩:=hx;omega
def bgK(m n k:Nat):List Int:=List.replicate (m-k) 0++(beN m n).drop (m-k)
theorem bgK_len(m n k:Nat)(hk:k≤m):(bgK m n k).length=m:=by
 rw[bgK,qbm,qck,qbH,zcf];omega
theorem bgK_set(m n k:Nat)(hk:k<m):(bgK m n k).set (m-1-k) ((n/256^k%256:Nat):Int)=bgK m n (k+1):=by
 have e:m-k=(m-1-k)+1:=qp;have hl:m-1-k<(beN m n).length:=by rw[zcf];omega
 have hb:(beN m n)[m-1-k]=((n/256^k%256:Nat):Int):=by
  simp only[beN,qcZ,List.getElem_range];rw[show 8*(m-1-(m-1-k))=8*k by omega,Nat.pow_mul]
 rw[bgK,bgK,show m-(k+1)=m-1-k by omega,e,List.replicate_succ',qby,qb2 _ _ (by simp),qck,qcS,qb3,qcn,qbQ hl,hb]
theorem zjd(w n:Nat)(hw:w≤8)(hn:n<9223372036854775808):Fn Tryz.prog 70 [qd n,qd w] (.row 0) [(0,.row 5 1 w (bs (beN w n)))]:=by
 refine fnI fun w0 A=>?_
 refine jfV ?_;refine zag (fun m st=>∃k:Nat,m+k=w∧st=St.of [(0,qd (n/256^k:Nat)),(5,.row 5),(6,qd ((w:Int)-1-k))] [(5,.row 5 1 w (bs (bgK w n k)))]) w ?_ ?_
 ·refine⟨_,zai (fun _=>8) _ _ ?_ ?_ rfl,0,qp,rfl⟩
  ·rw[Nat.pow_zero,Nat.div_one];exact jcd
  ·rw[show bgK w n 0=List.replicate w 0 by rw[bgK,qcM (by rw[zcf];omega),List.append_nil];rfl];rw[show bs (List.replicate w 0)=List.replicate w (PV.v (.int .u8 0))by simp[bs]];exact jbn
 rintro m st ⟨k,hk,rfl⟩;refine jdw ?_;refine cX ?_ ?_<;>intro h
 ·have hlt:k<w:=qw;clear h;have hq:n/256^k<9223372036854775808:=Nat.lt_of_le_of_lt (Nat.div_le_self _ _) hn;have hset:=bgK_set w n k hlt;have hnx:n/256^(k+1)=n/256^k/256:=by rw[qci,qcL]
  have hlen:=bgK_len w n k qp;generalize n/256^k=q at hq hset hnx⊢;have g4:setR (bs (bgK w n k)) (w-1-k) [.v (.int .u8 ((q%256:Nat):Int))]=bs (bgK w n (k+1)):=qa8;have g5:(bs (bgK w n k)).length=w:=qa7
  have g6:(q:Int).fdiv (2^min (8:Int).toNat IntKind.i64.bits)=((q/256:Nat):Int):=by
   exact jbS
  refine G [8] ?_;refine zaa (zaV qG (i64_and_255 q hq)) rfl rfl ?_;refine zaa (zbn U3 U5 qaa) rfl rfl ?_;refine zab (zao U34 sz5 qp qp (show _=w-1-k by omega)) rfl rfl ⟨rfl,trivial⟩ ?_;refine jfW ?_;refine⟨m-1,qp,_,zai id _ _ ?_ ?_ rfl,k+1,qp,rfl⟩
  ·refine⟨⟨?_,rfl⟩,⟨rfl,rfl⟩,⟨?_,rfl⟩,trivial⟩
   ·exact jc7
   ·exact jcR
  ·exact jbn
 have hge:k=w:=qw;clear h;subst hge;rw[show bgK k n k=beN k n by simp[bgK]];exact jbK
end Go.Proofs.YtdiljgkijgiboaaGreatDoor
namespace Go.Proofs.YtdiljgkijgiboaaGreatDoor
open Tryz
open Go.RowKit Go.Sort
def ixB(s:ByteArray)(c:UInt8):Int:=Lib.indexByte s.data.toList c
theorem zha(c:UInt8):∀l:List UInt8, -1≤Lib.indexByte l c
 | []=>by simp[Lib.indexByte]
 |b::l=>by
  have:=zha c l;simp only[Lib.indexByte]
  split
  ·omega
  ·split
   ·omega
   ·omega
theorem ixB_ge(s:ByteArray)(c:UInt8): -1≤ixB s c:=zha c _
theorem zg9(c:UInt8):∀l:List UInt8,Lib.indexByte l c<l.length
 | []=>by simp[Lib.indexByte]
 |b::l=>by
  have:=zg9 c l;simp only[Lib.indexByte,qbE]
  split
  ·omega
  ·split
   ·omega
   ·omega
theorem sliteIB_s(s:ByteArray)(c:UInt8):Fn prog 190 [qc s,.p (.v (.int .u8 (c.toNat:Nat)))] (qd (ixB s c)) []:=by
 have h:=zhy (P:=prog) (f:=190) [.string s,.int .u8 (c.toNat:Nat)] (r:=.int .i64 (ixB s c)) rfl fun w=>by
  have:=stringslite_IndexByte s (c.toNat:Nat) w;rw[show((c.toNat:Nat):Int).toNat.toUInt8=c by simp]at this;exact this
 exact h
theorem zf5(s:ByteArray)(c:UInt8):Fn prog 207 [qc s,qc ⟨#[c]⟩] (qd (ixB s c)) []:=by
 have hz:(⟨#[c]⟩:ByteArray).size=1:=rfl;have hI:=sliteIB_s s c;refine zb0 func207 rfl (qbk rfl) fun w0 A=>?_
 refine jfv ?_;refine jfI ?_;refine jfZ (zhC U9) ?_;refine jfl ?_;refine zad (zaj (zad (jfe ?_)));refine jfZ a_eql ?_;refine jdn ?_;refine mb2 _ rfl rfl (fun hb=>(zah (r:=.p _))) (fun _=>trivial) ?_;refine mb2 _ rfl rfl (fun hb=>(zah (r:=.p _))) (fun _=>trivial) ?_;refine mb2 _ rfl rfl (fun hb=>zji) (fun _=>trivial) ?_;refine zaa (a_or qae) rfl rfl ?_;refine jdx ?_;refine jfg ?_;refine zaI _ rfl (fun h=>?_) (fun h=>?_)
 ·have hs:s=⟨#[c]⟩:=by
   rw[hz]at h;simp at h;exact h.symm
  have h0:ixB s c=0:=by rw[hs];simp[ixB,Lib.indexByte]
  rw[h0];refine jfv ?_;refine jfl ?_;refine zaq (zbd (zaZ ?_));exact jcD
 clear h;refine zad (jfe ?_);refine jfZ a_eql ?_;refine jdx ?_;refine jfg ?_;refine zaI _ rfl (fun h=>?_) (fun h=>?_)
 ·refine zad (jfe ?_);refine jdn ?_;refine zaa (zbS U9 qp (show _=some ((c.toNat:Nat):Int)from rfl)) rfl rfl ?_;refine zaU (fun n=>30+1000*n) (hI) rfl rfl func190 rfl rfl qA qA rfl rfl rfl qr rfl rfl rfl ?_;refine jfl ?_;refine zaq (zbd (zaZ ?_));exact jcD
 ·rw[hz]at h;simp at h
theorem index1_s(s:ByteArray)(c:UInt8):Fn prog 186 [qc s,qc ⟨#[c]⟩] (qd (ixB s c)) []:=by
 have hI:=zf5 s c;refine fnI fun w0 A=>?_
 refine G [8] ?_;refine cV hI ?_;exact jbb
theorem contains1_s(s:ByteArray)(c:UInt8):Fn prog 166 [qc s,qc ⟨#[c]⟩] (qf (decide (0≤ixB s c))) []:=by
 have hI:=index1_s s c;refine fnI fun w0 A=>?_
 refine G [8] ?_;refine cV hI ?_;refine jdY ?_;exact yE
def cutA(s:ByteArray)(c:UInt8):ByteArray:=if 0≤ixB s c then s.extract 0 (ixB s c).toNat else s
def cutZ(s:ByteArray)(c:UInt8):ByteArray:=if 0≤ixB s c then s.extract ((ixB s c).toNat+1) s.size else⟨#[]⟩
theorem ixB_lt(s:ByteArray)(c:UInt8):ixB s c<s.size:=by
 have:=zg9 c s.data.toList;show Lib.indexByte s.data.toList c<((s.data.size:Nat):Int);rw[←qch];exact this
theorem zdP(s:ByteArray)(i j:Nat):(s.extract i j).size=min j s.size-i:=by rw[ByteArray.size_extract]
theorem cutA_size(s:ByteArray)(c:UInt8):(cutA s c).size≤s.size:=by
 unfold cutA;split
 ·rw[zdP];omega
 ·exact Nat.le_refl _
theorem cutZ_size(s:ByteArray)(c:UInt8):(cutZ s c).size≤s.size:=by
 unfold cutZ;split
 ·rw[zdP];omega
 ·exact qc3 _
theorem sliteCut1_s(s:ByteArray)(c:UInt8)(hs:s.size≤9223372036854775807):Fn prog 196 [qc s,qc ⟨#[c]⟩] (.tup [qc (cutA s c),qc (cutZ s c),qf (decide (0≤ixB s c))]) []:=by
 have hI:=zf5 s c;have h1:=ixB_ge s c;have h2:=ixB_lt s c;have hz:(⟨#[c]⟩:ByteArray).size=1:=rfl;unfold cutA cutZ;generalize ixB s c=k at*
 by_cases hk:0≤k
 ·rw[if_pos hk,if_pos hk,decide_eq_true hk];obtain⟨n,rfl⟩:=qbp hk;rw[qbt];refine fnI fun w0 A=>?_
  refine G [11] ?_;refine cV hI ?_;refine jds ?_;refine cX ?_ ?_<;>intro h
  ·refine G [4] ?_;refine zaa (zej (L:=none) (H:=(some (_,_))) U9 rfl ⟨qp,(show _=n by omega)⟩ qp qp rfl) rfl rfl ?_;refine G [4] ?_;refine zaa (zbf (show _=((n+1:Nat):Int)by rw[hz,IntKind.wrap_i64];omega)) rfl rfl ?_;refine zaa (zej (L:=(some (_,_))) (H:=none) U9 ⟨qp,(show _=n+1 by omega)⟩ rfl qp qp rfl) rfl rfl ?_;refine jdC ?_;exact yE
  ·exact absurd h (by simp[hk])
 ·rw[if_neg hk,if_neg hk,decide_eq_false hk];refine fnI fun w0 A=>?_
  refine G [11] ?_;refine cV hI ?_;refine jds ?_;refine cX ?_ ?_<;>intro h
  ·simp at h;omega
  ·refine G [9,9,0] ?_;exact yE
theorem cut1_s(s:ByteArray)(c:UInt8)(hs:s.size≤9223372036854775807):Fn prog 172 [qc s,qc ⟨#[c]⟩] (.tup [qc (cutA s c),qc (cutZ s c),qf (decide (0≤ixB s c))]) []:=by
 have hI:=sliteCut1_s s c hs;refine fnI fun w0 A=>?_
 refine G [10] ?_;refine cV hI ?_;exact jbs
def cntB(s:ByteArray)(c:UInt8):Nat:=Lib.countB s ⟨#[c]⟩
def spl(s:ByteArray)(c:UInt8):List ByteArray:=Lib.splitB ⟨#[c]⟩ 0 (cntB s c) s
theorem zgD(s:ByteArray)(c:UInt8):(spl s c).length=cntB s c+1:=Lib.splitB_all ⟨#[c]⟩ (Nat.le_refl 1) 0 _ s rfl
theorem cntB_le(s:ByteArray)(c:UInt8):cntB s c≤s.size:=Lib.countB_le ⟨#[c]⟩ (Nat.le_refl 1) s.size s (Nat.le_refl _)
theorem zhP(sep:ByteArray):∀(k:Nat) (s:ByteArray),∀t∈Lib.splitB sep 0 k s,t.size≤s.size
 |0,s,t,h=>by
  simp only[Lib.splitB,qbN]at h;rw[h];exact Nat.le_refl _
 |k+1,s,t,h=>by
  unfold Lib.splitB at h
  split at h
  ·simp only[qbN]at h;rw[h];exact Nat.le_refl _
  ·rcases qbA.1 h with h|h
   ·rw[h,zdP];omega
   ·have:=zhP sep k _ t h;rw[zdP]at this;omega
theorem spl_size(s:ByteArray)(c:UInt8):∀t∈spl s c,t.size≤s.size:=zhP _ _ _
theorem kitCount(s:ByteArray)(c:UInt8)(w:World):Calls prog 221 #[.string s,.string ⟨#[c]⟩] w fun e w'=>e=.returned (.int .i64 (cntB s c:Nat))∧w'=w:=by
 refine(strings_Count_one s c w).mono fun e w' ⟨he,hw⟩=>⟨?_,hw⟩
 rw[he];show _=Ending.returned (Value.int .i64 ((Lib.count s.data.toList [c]:Nat):Int));rw[Lib.count_one];rfl
theorem kitIndex(s:ByteArray)(c:UInt8)(w:World):Calls prog 186 #[.string s,.string ⟨#[c]⟩] w fun e w'=>e=.returned (.int .i64 (Lib.indexB s ⟨#[c]⟩))∧w'=w:=by
 refine(strings_Index_one s c w).mono fun e w' ⟨he,hw⟩=>⟨?_,hw⟩
 rw[he];show _=Ending.returned (Value.int .i64 (Lib.index s.data.toList [c]));rw[Lib.index_one]
theorem genSplit1_s(s:ByteArray)(c:UInt8)(hs:s.size<4294967281):Fn prog 212 [qc s,qc ⟨#[c]⟩,qd 0,qd (-1)] (.row 0) [(0,.row 9 1 (cntB s c+1) (strs (spl s c)))]:=by
 have hle:=cntB_le s c;refine fn_alloc (vs:=[.string s,.string ⟨#[c]⟩,.int .i64 0,.int .i64 (-1)]) (us:=(spl s c).map .string) rfl (by rw[List.length_map,zgD]) qy (fun _ _=>strs_rep _) fun w=>?_
 have h:=Any.strings_genSplit_core lays221 qq s ⟨#[c]⟩ 0 (-1) (cntB s c+1) w hs (Nat.le_refl 1) (qc3 _) (fun x cc _=>kitIndex x c _) (kitCount s c w) qS qS (by
  rw[if_pos (by decide)];show _=min ((cntB s c:Int)+1) _
  omega)
 rw[Nat.add_sub_cancel]at h;change Calls prog 212 _ w (fun e w'=>e=.returned (.slice (some ⟨w.heap.size,0,none⟩) (spl s c).length (cntB s c+1))∧w'=w.alloc (.cells (Lib.cellsOf (spl s c) (cntB s c+1)) 9))at h;rw[zgD,←zgD s c,Lib.cellsOf_full,zgD]at h;exact h
theorem split1_s(s:ByteArray)(c:UInt8)(hs:s.size<4294967281):Fn prog 197 [qc s,qc ⟨#[c]⟩] (.row 0) [(0,.row 9 1 (cntB s c+1) (strs (spl s c)))]:=by
 have hG:=genSplit1_s s c hs;refine fnI fun w0 A=>?_
 refine G [8] ?_;refine zaU (fun n=>7+1000*n) (hG) rfl rfl func212 rfl rfl qW qW rfl rfl rfl qr rfl rfl rfl ?_;exact jbw
def adN(ts:List ByteArray):Nat:=ts.foldl (fun a t=>a*256+valS t) 0
theorem adN_push(ts:List ByteArray)(t:ByteArray):adN (ts++[t])=adN ts*256+valS t:=by simp[adN]
def okP(t:ByteArray):Bool:=numB t 255
theorem okP_val{t:ByteArray}(h:okP t=true):valS t<256:=by
 have:=(zge h).2;omega
theorem zkf{l:List ByteArray}{i:Nat}{p:ByteArray}(hi:l[i]?=some p):adN (l.take (i+1))=adN (l.take i)*256+valS p:=by
 obtain⟨h1,h2⟩:=qbl.1 hi;rw[qbs h1,h2,adN_push]
theorem adN_lt{l:List ByteArray}:∀{i:Nat},(∀q∈l.take i,okP q=true)→i≤l.length→adN (l.take i)<256^i
 |0,_,_=>by simp[adN]
 |i+1,h,hl=>by
  have hp:l[i]?=some (l[i]'qp):=List.getElem?_eq_getElem _;rw[zkf hp];have e:=qbs (show i<l.length by omega);have h1:=adN_lt (l:=l) (i:=i) (fun q hq=>h q (by rw[e];exact qco _ hq)) qp;have h2:=okP_val (h (l[i]'qp) (by rw[e];exact qcv _ (qbN.2 rfl)));rw[qci];omega
theorem takeP_ok{l:List ByteArray}{i:Nat}{p:ByteArray}(hi:l[i]?=some p)(hf:∀q∈l.take i,okP q=true)(hp:okP p=true):∀q∈l.take (i+1),okP q=true:=by
 obtain⟨h1,h2⟩:=qbl.1 hi;intro q hq;rw[qbs h1,h2]at hq;rcases qbD.1 hq with hq|hq
 ·exact hf q hq
 ·have:q=p:=by simpa using hq
  rw[this];exact hp
def adOk(s:ByteArray):Bool:=decide (cntB s 46=3)&&(spl s 46).all okP
def adR(s:ByteArray):AV:=if adOk s=true then .tup [qe (adN (spl s 46):Nat),qd 0]else .tup [qe 0,qd 3]
theorem adR_good{s:ByteArray}(h1:cntB s 46=3)(h2:∀q∈spl s 46,okP q=true):adR s=.tup [qe (adN (spl s 46):Nat),qd 0]:=by
 unfold adR adOk;rw[if_pos (by simp[h1];simpa using h2)]
theorem adR_bad1{s:ByteArray}(h1:cntB s 46≠3):adR s=.tup [qe 0,qd 3]:=by
 unfold adR adOk;rw[if_neg (by simp[h1])]
theorem adR_bad2{s q:ByteArray}(h1:q∈spl s 46)(h2:okP q=false):adR s=.tup [qe 0,qd 3]:=by
 unfold adR adOk;rw[if_neg (by simp only[qbB,qbX,not_and];intro _ h;rw[h q h1]at h2;cases h2)]
theorem u32_shl8{a:Int}(h0:0≤a)(h1:a<16777216):IntKind.u32.wrap (a*2^min (8:Int).toNat IntKind.u32.bits)=a*256:=by
 rw[show(2:Int)^min (8:Int).toNat IntKind.u32.bits=256 from rfl,qcl _ (by omega)]
theorem u32_or8{a b:Nat}(h1:a<16777216)(hb:b<256):bits .or .u32 ((a:Int)*256) (b:Int)=(a:Int)*256+b:=by
 have:=u32_or a b 8 hb qp;rw[show((a*2^8:Nat):Int)=(a:Int)*256 by omega]at this;rw[this];omega
theorem parse_s(s:ByteArray)(hs:s.size<4294967281):Fn prog 173 [qc s] (adR s) []:=by
 have hSp:=split1_s s 46 hs;have hlen:=zgD s 46;have hsz:=spl_size s 46;have hg:=@adR_good s;have hb1:=@adR_bad1 s;have hb2:=@adR_bad2 s;generalize adR s=R at*;generalize spl s 46=ps at*;generalize cntB s 46=N at*;refine fnI fun w0 A=>?_
 refine G [8] ?_;refine zaU (fun n=>11+1000*n) (hSp) rfl rfl func197 rfl rfl qW qW rfl rfl rfl qr rfl rfl rfl ?_;refine G [9,9,0] ?_;refine cX ?_ ?_<;>intro h
 ·rw[hb1 (by simp at h;omega)];exact jaB
 have h3:N=3:=qw;clear h;subst h3;refine G [13] ?_;refine zag (fun m st=>∃i:Nat,m+i=4∧(∀q∈ps.take i,okP q=true)∧st=St.of [(5,qe (adN (ps.take i):Nat)),(15,.row 11),(16,qd 4),(17,qd i)] [(11,.row 9 1 4 (strs ps))]) 4 ?_ ?_
 ·refine⟨_,zai id _ _ ?_ ?_ rfl,0,qp,qG,rfl⟩
  ·exact jap
  ·exact jbn
 rintro m st ⟨i,hi,hf,rfl⟩;refine G [5] ?_;refine cX ?_ ?_<;>intro h
 ·have hlt:i<4:=qw;clear h;obtain⟨p,hp⟩:∃p,ps[i]?=some p:=⟨ps[i],List.getElem?_eq_getElem qp⟩;have hat:=strs_get hp;have hpm:=qbo hp;have hC:=small_s p 255 (by have:=hsz p hpm;omega);have hok:=takeP_ok hp hf;have hnx:=zkf hp;have hlt2:=adN_lt hf qp
  have hlt3:adN (ps.take i)<16777216:=by
   have h1:256^i≤256^3:=qbS qS qp;omega
  clear hlt2;have hsl:(strs ps).length=4:=by rw[strs_len,hlen]
  have hbad:=hb2 hpm;have hval:=@okP_val p;have hsm:okP p=true→smV p=(valS p:Nat):=fun h=>by unfold smV;rw[if_pos (zge h).1]
  change Fn prog _ _ (.tup [qd (smV p),qf (okP p)]) _ at hC;generalize strs ps=SP at*;generalize adN (ps.take i)=a at*;cases hq:okP p with
  |false=>
   rw[hbad hq];rw[hq]at hC;refine jfQ ?_;refine jd2 ?_;exact jbi
  |true=>
   have hv:=hval hq;rw[hq,hsm hq]at hC;generalize valS p=v at*;have s8:=u32_shl8 (a:=(a:Int)) qp qp;have o8:=u32_or8 hlt3 hv;refine jfQ ?_;refine jd2 ?_;refine cX ?_ ?_<;>intro h
   ·cases h
   refine G [3] ?_;refine zaa (a_shl qp s8) rfl rfl ?_;refine G [2] ?_;refine zaa (zaV qG o8) rfl rfl ?_;refine jdw ?_;refine⟨m-1,qp,_,zai id _ _ ?_ ?_ rfl,i+1,qp,hok hq,rfl⟩
   ·refine⟨⟨?_,rfl⟩,⟨rfl,rfl⟩,⟨rfl,rfl⟩,⟨rfl,rfl⟩,trivial⟩;exact jcB
   ·exact jbn
 have hge:i=4:=qw;clear h;subst hge;rw[qbC (by omega)]at hf⊢;rw[hg rfl hf];exact jbs
theorem refAddr_s(s:ByteArray)(hs:s.size<4294967281):Fn prog 187 [qc s] (adR s) []:=by
 have hSp:=split1_s s 46 hs;have hlen:=zgD s 46;have hsz:=spl_size s 46;have hcl:=cntB_le s 46;have hg:=@adR_good s;have hb1:=@adR_bad1 s;have hb2:=@adR_bad2 s;generalize adR s=R at*;generalize spl s 46=ps at*;generalize cntB s 46=N at*;refine fnI fun w0 A=>?_
 refine G [12] ?_;refine zaU (fun n=>11+1000*n) (hSp) rfl rfl func197 rfl rfl qW qW rfl rfl rfl qr rfl rfl rfl ?_;refine G [10] ?_;refine zag (fun m st=>∃i:Nat,m+i=N+1∧(i≠0→N=3)∧(∀q∈ps.take i,okP q=true)∧st=St.of [(4,qe (adN (ps.take i):Nat)),(5,.row 11),(12,.row 11),(13,qd (N+1:Nat)),(14,qd i)] [(11,.row 9 1 (N+1) (strs ps))]) (N+1) ?_ ?_
 ·refine⟨_,zai id _ _ ?_ ?_ rfl,0,qp,qG,qG,rfl⟩
  ·exact jap
  ·exact jbn
 rintro m st ⟨i,hi,h30,hf,rfl⟩;refine G [5] ?_;refine cX ?_ ?_<;>intro h
 ·have hlt:i<N+1:=qw;clear h;obtain⟨p,hp⟩:∃p,ps[i]?=some p:=⟨ps[i],List.getElem?_eq_getElem qp⟩;have hat:=strs_get hp;have hpm:=qbo hp;have hC:=refNum_s p 255 (by have:=hsz p hpm;omega);have hok:=takeP_ok hp hf;have hnx:=zkf hp;have hlt2:=adN_lt hf qp;have hsl:(strs ps).length=N+1:=by rw[strs_len,hlen]
  have hbad:=hb2 hpm;have hval:=@okP_val p;have hng:okP p=true→numR p 255=.tup [qd (valS p:Nat),qd 0]:=fun h=>zh1 h
  have hnb:okP p=false→numR p 255=.tup [qd 0,qd 3]:=fun h=>zhu h
  generalize strs ps=SP at*;generalize adN (ps.take i)=a at*;cases hq:okP p with
  |false=>
   rw[hbad hq];rw[hnb hq]at hC;refine jfQ ?_;refine G [17,9,0] ?_;exact jbi
  |true=>
   have hv:=hval hq;rw[hng hq]at hC;generalize valS p=v at*;refine jfQ ?_;refine G [10,1,6,9,0] ?_;refine cX ?_ ?_<;>intro h
   ·rw[hb1 (by simp at h;omega)];exact jaB
   have h3:N=3:=qw;clear h;subst h3
   have hlt3:a<16777216:=by
    have h1:256^i≤256^3:=qbS qS qp;omega
   clear hlt2;refine G [13,9,0] ?_;refine⟨m-1,qp,_,zai id _ _ ?_ ?_ rfl,i+1,qp,fun _=>rfl,hok hq,rfl⟩
   ·refine⟨⟨?_,rfl⟩,⟨rfl,rfl⟩,⟨rfl,rfl⟩,⟨rfl,rfl⟩,⟨rfl,rfl⟩,trivial⟩;exact jcB
   ·exact jbn
 have hge:i=N+1:=qw;clear h;subst hge;have h3:=h30 qp;rw[←hlen,qbL]at hf⊢;rw[hg h3 hf];exact jbs
end Go.Proofs.YtdiljgkijgiboaaGreatDoor
namespace Go.Proofs.YtdiljgkijgiboaaGreatDoor
open Go.RowKit Go.Sort
def adA(s:ByteArray):Int:=if adOk s=true then(adN (spl s 46):Nat)else 0
def adE(s:ByteArray):Int:=if adOk s=true then 0 else 3
theorem adR_eq(s:ByteArray):adR s=.tup [qe (adA s),qd (adE s)]:=by
 unfold adR adA adE
 split<;>rfl
theorem numV_nn(s:ByteArray)(most:Int):0≤numV s most:=by
 unfold numV
 split<;>omega
def enOk(s:ByteArray):Prop:=0≤ixB s 58∧adE (cutA s 58)=0∧numE (cutZ s 58) 65535=0∧numV (cutZ s 58) 65535≠0
instance enOk_dec(s:ByteArray):Decidable (enOk s):=by unfold enOk;infer_instance
def enE(s:ByteArray):Int:=if enOk s then 0 else 3
def enR(s:ByteArray):AV:=if enOk s then .tup [qe (adA (cutA s 58)),qd (numV (cutZ s 58) 65535),qd 0]else .tup [qe 0,qd 0,qd 3]
theorem end_s(s:ByteArray)(hs:s.size<4294967281):Fn Tryz.prog 130 [qc s] (enR s) []:=by
 have hK:=cut1_s s 58 qp;have zA:=cutA_size s 58;have zZ:=cutZ_size s 58;have hP:=parse_s (cutA s 58) qp;have hN:=number_s (cutZ s 58) 65535 qp;have hE:enOk s↔0≤ixB s 58∧adE (cutA s 58)=0∧numE (cutZ s 58) 65535=0∧numV (cutZ s 58) 65535≠0:=Iff.rfl;have hR1:enOk s→enR s=.tup [qe (adA (cutA s 58)),qd (numV (cutZ s 58) 65535),qd 0]:=fun h=>if_pos h
 have hR2:¬enOk s→enR s=.tup [qe 0,qd 0,qd 3]:=fun h=>if_neg h
 rw[adR_eq]at hP;unfold numR at hN;generalize enR s=R at*;generalize ixB s 58=ix at*;generalize adE (cutA s 58)=e1 at*;generalize adA (cutA s 58)=a1 at*;generalize numE (cutZ s 58) 65535=e2 at*;generalize numV (cutZ s 58) 65535=v2 at*;generalize cutA s 58=A at*;generalize cutZ s 58=Z at*;refine fnI fun w0 A=>?_
 refine G [9] ?_;refine cV hK ?_;refine G [11] ?_;refine cV hP ?_;refine G [9] ?_;refine cV hN ?_;refine G [14,2,3,2,3,2,1,9,0] ?_;refine cX ?_ ?_<;>intro h
 ·exact jcJ
 ·rw[hR1 (by rw[hE];simp at h;omega)];refine G [10,9,0] ?_;exact yE
theorem zjz(s:ByteArray)(hs:s.size<4294967281):Fn Tryz.prog 155 [qc s] (enR s) []:=by
 have hI:=index1_s s 58;have zA:=cutA_size s 58;have zZ:=cutZ_size s 58;have hP:=refAddr_s (cutA s 58) qp;have hN:=refNum_s (cutZ s 58) 65535 qp;have hE:enOk s↔0≤ixB s 58∧adE (cutA s 58)=0∧numE (cutZ s 58) 65535=0∧numV (cutZ s 58) 65535≠0:=Iff.rfl;have hR1:enOk s→enR s=.tup [qe (adA (cutA s 58)),qd (numV (cutZ s 58) 65535),qd 0]:=fun h=>if_pos h
 have hR2:¬enOk s→enR s=.tup [qe 0,qd 0,qd 3]:=fun h=>if_neg h
 have hA:0≤ixB s 58→cutA s 58=s.extract 0 (ixB s 58).toNat:=fun h=>if_pos h
 have hZ:0≤ixB s 58→cutZ s 58=s.extract ((ixB s 58).toNat+1) s.size:=fun h=>if_pos h
 have hnn:=numV_nn (cutZ s 58) 65535;have hlt:=ixB_lt s 58;rw[adR_eq]at hP;unfold numR at hN;generalize enR s=R at*;generalize ixB s 58=ix at*;generalize adE (cutA s 58)=e1 at*;generalize adA (cutA s 58)=a1 at*;generalize numE (cutZ s 58) 65535=e2 at*;generalize numV (cutZ s 58) 65535=v2 at*;generalize cutA s 58=A at*;generalize cutZ s 58=Z at*;refine fnI fun w0 A=>?_
 refine G [9] ?_;refine cV hI ?_;refine jdV ?_;refine cX ?_ ?_<;>intro h
 ·exact jcJ
 have h0:0≤ix:=qw;clear h;have hA:=hA h0;have hZ:=hZ h0;obtain⟨n,rfl⟩:=qbp h0;rw[qbt]at hA hZ;refine G [5] ?_;refine zaa (zej (L:=none) (H:=(some (_,_))) U9 rfl ⟨qp,(show _=n by omega)⟩ qp qp hA.symm) rfl rfl ?_;refine cV hP ?_;refine G [11] ?_;refine zaa (zej (L:=(some (_,_))) (H:=none) U9 ⟨qp,(show _=n+1 by omega)⟩ rfl qp qp hZ.symm) rfl rfl ?_;refine cV hN ?_;refine G [14,2,3,2,1,9,0] ?_;refine cX ?_ ?_<;>intro h
 ·exact jcJ
 ·rw[hR1 (by rw[hE];simp at h;omega)];refine G [10,9,0] ?_;exact yE
def npA(s:ByteArray):Int:=adA (cutA s 47)
def npN(s:ByteArray):Int:=numV (cutZ s 47) 32
def npOk(s:ByteArray):Prop:=0≤ixB s 47∧adE (cutA s 47)=0∧numE (cutZ s 47) 32=0∧zaD (npA s) (npN s)=0
instance npOk_dec(s:ByteArray):Decidable (npOk s):=by unfold npOk;infer_instance
end Go.Proofs.YtdiljgkijgiboaaGreatDoor
namespace Go.Proofs.YtdiljgkijgiboaaGreatDoor
open Tryz
open Go.RowKit Go.Sort
def DIG:ByteArray:=⟨#[48,49,50,51,52,53,54,55,56,57,97,98,99,100,101,102]⟩
def hx(x:Int):Int:=Lib.indexByte DIG.data.toList x.toNat.toUInt8
theorem ib_s(x:Int):Fn prog 161 [qc ⟨#[48,49,50,51,52,53,54,55,56,57,97,98,99,100,101,102]⟩,.p (.v (.int .u8 x))] (qd (hx x)) []:=
 zhy [.string ⟨#[48,49,50,51,52,53,54,55,56,57,97,98,99,100,101,102]⟩,.int .u8 x] rfl fun w=>strings_IndexByte _ x w
theorem hx_fin:∀n:_root_.Fin 256, -1≤Lib.indexByte DIG.data.toList n.val.toUInt8∧Lib.indexByte DIG.data.toList n.val.toUInt8≤15:=qaS
theorem hx_bd(x:Int): -1≤hx x∧hx x≤15:=by
 have h:=hx_fin ⟨x.toNat%256,Nat.mod_lt _ qS⟩
 have e:(x.toNat%256).toUInt8=x.toNat.toUInt8:=by
  apply UInt8.toNat_inj.1;show(UInt8.ofNat _).toNat=(UInt8.ofNat _).toNat;simp only[UInt8.toNat_ofNat'];omega
 unfold hx;simp only[e]at h;exact h
def hv(s:ByteArray)(i:Nat):Int:=hx (sAt s i)
def zax(s:ByteArray)(k:Nat):List Int:=(List.range k).map fun j=>16*hv s (2*j)+hv s (2*j+1)
theorem zhc(s:ByteArray)(k:Nat):zax s (k+1)=zax s k++[16*hv s (2*k)+hv s (2*k+1)]:=by simp[zax,qcw]
theorem zaX(s:ByteArray)(k:Nat):(zax s k).length=k:=by simp[zax]
def zcK(s:ByteArray):Bool:=(List.range s.size).all fun i=>decide (0≤hv s i)
theorem zcc(s:ByteArray):zcK s=true↔∀i,i<s.size→0≤hv s i:=by simp[zcK]
def hexE(s:ByteArray):Int:=if 2000<s.size then 1 else if s.size%2=0 then(if zcK s=true then 0 else 3)else 3
def zi4(s:ByteArray):AV:=if hexE s=0 then .tup [.row 0,qd 0]else .tup [qm,qd (hexE s)]
def zi5(s:ByteArray):List (Nat×AObj):=if hexE s=0 then [(0,.row 5 1 (s.size/2) (bs (zax s (s.size/2))))]else []
theorem zbI{s:ByteArray}{e:Int}(h:hexE s=e)(he:e≠0):zi4 s=.tup [qm,qd e]∧zi5 s=[]:=by
 unfold zi4 zi5;rw[h,if_neg he,if_neg he];exact⟨rfl,rfl⟩
theorem zbg{s:ByteArray}(h:hexE s=0):zi4 s=.tup [.row 0,qd 0]∧zi5 s=[(0,.row 5 1 (s.size/2) (bs (zax s (s.size/2))))]:=by
 unfold zi4 zi5;rw[h,if_pos rfl,if_pos rfl];exact⟨rfl,rfl⟩
theorem zcD(s:ByteArray):Fn prog 128 [qc s] (zi4 s) (zi5 s):=by
 refine fnI fun w0 A=>?_
 refine jd2 ?_;refine cX ?_ ?_<;>intro h
 ·exact jcg
 have hsz:s.size≤2000:=by have:=of_decide_eq_false h;omega
 clear h;refine G [6] ?_;refine jdE ?_;refine jdR ?_;refine cX ?_ ?_<;>intro h
 ·exact jb0
 have hev:s.size%2=0:=qw;clear h;refine G [5] ?_;refine jdB ?_;refine zab (zdD 18 U34 eo5 qp qp qy) rfl rfl ⟨rfl,trivial⟩ ?_;refine G [8] ?_;refine zag (fun m st=>∃k:Nat,m+k=s.size/2∧(∀i,i<2*k→0≤hv s i)∧st=St.of [(0,qc s),(4,.row 4),(5,qd (2*k))] [(4,.row 5 1 k (bs (zax s k)))]) (s.size/2) ?_ ?_
 ·refine⟨_,zai (fun _=>18) _ _ ?_ ?_ rfl,0,qp,fun i hi=>by omega,rfl⟩
  ·exact jap
  ·exact jbn
 rintro m st ⟨k,hk,hg,rfl⟩;refine jdV ?_;refine cX ?_ ?_<;>intro h
 ·have hlt:2*k<s.size:=qw;clear h;have g1:=zjv (s:=s) (i:=2*k) hlt;have g2:=zjv (s:=s) (i:=2*k+1) qp;refine G [7] ?_;refine zaa (zbS U9 qp (by exact g1)) rfl rfl ?_;refine cV (ib_s _) ?_;refine G [3] ?_;refine zaa (zbS U9 qp (by exact g2)) rfl rfl ?_;refine cV (ib_s _) ?_;refine G [11,2,1,9,0] ?_;have b1: -1≤hv s (2*k)∧hv s (2*k)≤15:=hx_bd _;have b2: -1≤hv s (2*k+1)∧hv s (2*k+1)≤15:=hx_bd _;refine cX ?_ ?_<;>intro h
  ·have h2:hv s (2*k)<0∨hv s (2*k+1)<0:=by simpa[hv]using h
   refine jdw ?_
   have hb:¬zcK s=true:=fun hh=>by
    have h3:=(zcc s).1 hh;have h4:=h3 (2*k) hlt;have h5:=h3 (2*k+1) qp;omega
   exact jcM
  ·have h2:0≤hv s (2*k)∧0≤hv s (2*k+1):=by simpa[hv]using h
   change 0≤hx (sAt s (2*k))∧0≤hx (sAt s (2*k+1))at h2;change -1≤hx (sAt s (2*k))∧hx (sAt s (2*k))≤15 at b1;change -1≤hx (sAt s (2*k+1))∧hx (sAt s (2*k+1))≤15 at b2;refine G [8] ?_;refine jf0 (zae 46 U34 sz5 zc5 (qbk rfl) (qbk rfl) rfl rfl rfl rfl (qbk rfl)) ?_;refine jeq ?_;refine jds ?_;refine⟨m-1,qp,_,zai (fun _=>47) _ _ ?_ ?_ rfl,k+1,qp,fun i hi=>?_,rfl⟩
   ·exact jap
   ·rw[zhc];simp only[bs,qbY];exact jbn
   ·by_cases e1:i=2*k
    ·subst e1;exact h2.1
    ·by_cases e2:i=2*k+1
     ·subst e2;exact h2.2
     ·exact hg i qp
 ·have hge:s.size≤2*k:=qw;clear h;have hb:zcK s=true:=(zcc s).2 fun i hi=>hg i qp
  obtain⟨e1,e2⟩:=zbg (s:=s) qaP;obtain rfl:k=s.size/2:=qp;refine G [8] ?_;rw[e1,e2];refine yT (fun _=>4) ?_ ?_
  ·exact rfl
  ·exact jbn
def keyE(s:ByteArray):Int:=if s.size=64 then hexE s else 1
theorem zbs(s:ByteArray):Fn prog 91 [qc s] (qd (keyE s)) []:=by
 refine fnI fun w0 A=>?_
 refine G [11,9,0] ?_;refine cX ?_ ?_<;>intro h
 ·exact jcX
 ·have h2:s.size=64:=qw;rw[show keyE s=hexE s by unfold keyE;rw[if_pos h2]]
  by_cases he:hexE s=0
  ·obtain⟨e1,e2⟩:=zbg he;have hc:=zcD s;rw[e1,e2]at hc;refine G [4] ?_;refine cK hc ?_;refine G [12] ?_;rw[he];exact yE
  ·obtain⟨e1,e2⟩:=zbI (e:=hexE s) rfl he;have hc:=zcD s;rw[e1,e2]at hc;refine G [4] ?_;refine cK hc ?_;refine jd2 ?_;exact yE
def zbG(s:ByteArray)(i:Nat):List Int:=zax s (i/2)++(if i%2=1 then [hv s (i-1)]else [])
theorem zib(s:ByteArray)(i:Nat):(zbG s i).length=(i+1)/2:=by
 unfold zbG;rw[qbm,zaX]
 split<;>simp<;>omega
theorem hexPart_even(s:ByteArray)(i:Nat)(h:i%2=0):(zbG s i++[0]).set (i/2) (hv s i)=zbG s (i+1):=by
 have h1:¬i%2=1:=qp;have h2:(i+1)%2=1:=qp;have h3:(i+1)/2=i/2:=qp;unfold zbG;rw[if_neg h1,if_pos h2,h3,List.append_nil];rw[qb2 _ _ (by rw[zaX];omega),zaX];simp
theorem hexPart_odd(s:ByteArray)(i:Nat)(h:i%2=1):(zbG s i).set (i/2) (hv s (i-1)*16+hv s i)=zbG s (i+1):=by
 have h2:¬(i+1)%2=1:=qp;have h3:(i+1)/2=i/2+1:=qp;unfold zbG;rw[if_pos h,if_neg h2,h3,List.append_nil,zhc];rw[qb2 _ _ (by rw[zaX];omega),zaX];have e1:2*(i/2)=i-1:=qp;have e2:2*(i/2)+1=i:=qp;rw[e2,e1,Int.mul_comm];simp
theorem hexPart_getE(s:ByteArray)(i:Nat)(h:i%2=0):(zbG s i++[0])[i/2]?=some 0:=by
 have hl:=zib s i;rw[qbZ (by omega)];have:i/2-(zbG s i).length=0:=qp;rw[this];rfl
theorem hexPart_getO(s:ByteArray)(i:Nat)(h:i%2=1):(zbG s i)[i/2]?=some (hv s (i-1)):=by
 unfold zbG;rw[if_pos h,qbZ (by rw[zaX];omega),zaX];simp
theorem hexPart_full(s:ByteArray)(h:s.size%2=0):zbG s s.size=zax s (s.size/2):=by
 unfold zbG;rw[if_neg (by omega),List.append_nil]
theorem zcR(s:ByteArray):Fn prog 122 [qc s] (zi4 s) (zi5 s):=by
 refine fnI fun w0 A=>?_
 refine jd2 ?_;refine cX ?_ ?_<;>intro h
 ·exact jcg
 have hsz:s.size≤2000:=qw;clear h;refine G [6] ?_;refine zaa (zaV qG (zfO _ qp)) rfl rfl ?_;refine jdR ?_;refine cX ?_ ?_<;>intro h
 ·exact jb0
 have hev:s.size%2=0:=qw;clear h;have hml:s.size≤maxLen:=qy;refine G [9] ?_;refine zab (zfr 16 U9 U34 U5 qP rfl rfl) rfl rfl ⟨rfl,trivial⟩ ?_;refine G [4] ?_;refine za3 (zca 4 4 5 1 rfl rfl) ?_;refine zag (fun m st=>∃k:Nat,m+k=s.size∧(∀i,i<k→0≤hv s i)∧st=St.of [(4,.row 4),(16,.row 16),(17,qd s.size),(18,qd k)] [(4,.row 5 1 ((k+1)/2) (bs (zbG s k))),(16,.row 5 1 s.size (bs (sb s)))]) s.size ?_ ?_
 ·refine⟨_,zai id _ _ ?_ ?_ rfl,0,qp,fun i hi=>by omega,rfl⟩
  ·exact jap
  ·exact jaJ
 rintro m st ⟨k,hk,hg,rfl⟩;refine G [5] ?_;refine cX ?_ ?_<;>intro h
 ·have hlt:k<s.size:=qw;clear h;have g1:=zfV (sb_at hlt);refine G [7] ?_;refine jet ?_;refine G [6] ?_;refine cV (ib_s _) ?_;refine G [4] ?_;have b1: -1≤hx (sAt s k)∧hx (sAt s k)≤15:=hx_bd _;refine jdY ?_;refine cX ?_ ?_<;>intro h
  ·have h2:hv s k<0:=by simpa[hv]using h
   refine jdw ?_
   have hb:¬zcK s=true:=fun hh=>by
    have h3:=(zcc s).1 hh k hlt;omega
   exact jcM
  have h2:0≤hx (sAt s k):=qB;clear h;have hpl:=zib s k;refine G [5] ?_;refine zaa (zaV qG (zfO _ qp)) rfl rfl ?_;refine jdR ?_;refine cX ?_ ?_<;>intro h
  ·have h3:k%2=0:=qw;clear h;have hn:(k+1)/2+1=(k+2)/2:=qp
   skip
   refine G [2] ?_;refine jf0 (zae 31 U34 sz5 zc5 (qbk rfl) (qbk rfl) rfl rfl rfl rfl (qbk rfl)) ?_;refine zab (zam 32 U34 eo5 (zas) qy qp hn rfl) rfl rfl ⟨rfl,rfl,rfl,trivial⟩ ?_;refine jdR ?_;have g2:(bs (zbG s k)++[PV.v (.int .u8 0)])[k/2]?=some (.v (.int .u8 0)):=by rw[zce];exact zfV (hexPart_getE s k h3)
   have q1:(bs (zbG s k)++[PV.v (.int .u8 0)]).length=(k+2)/2:=by rw[qbm,bs_length,hpl];simp;omega
   have q2:setR (bs (zbG s k)++[PV.v (.int .u8 0)]) (k/2) [.v (.int .u8 (0*16+hx (sAt s k)))]=bs (zbG s (k+1)):=by
    rw[zce,zeK (by rw[zce,bs_length]at q1;omega),Int.zero_mul,Int.zero_add];exact congrArg bs (hexPart_even s k h3)
   refine G [3] ?_;refine jdB ?_;refine G [2] ?_;refine jdB ?_;refine zab (zao U34 sz5 qp qp (show _=k/2 by omega)) rfl rfl ⟨rfl,trivial⟩ ?_;refine jf0 (zaQ U5 rfl g2) ?_;refine G [4] ?_;refine zab (zao U34 sz5 qp qp (show _=k/2 by omega)) rfl rfl ⟨rfl,trivial⟩ ?_;refine jfX ?_;refine⟨m-1,qp,_,zai (fun o=>bif Nat.beq o 4 then 32 else o) _ _ ?_ ?_ rfl,k+1,qp,fun i hi=>?_,rfl⟩
   ·exact jap
   ·exact⟨⟨by rw[show(k+1+1)/2=(k+2)/2 from rfl];rfl,rfl⟩,⟨rfl,rfl⟩,trivial⟩
   ·by_cases e1:i=k
    ·subst e1;exact h2
    ·exact hg i qp
  ·have h3:k%2=1:=qw;clear h;have g2:=zfV (hexPart_getO s k h3);have b2: -1≤hv s (k-1)∧hv s (k-1)≤15:=hx_bd _;have b3:=hg (k-1) qp;have q1:(bs (zbG s k)).length=(k+1)/2:=by rw[bs_length,hpl]
   have q2:setR (bs (zbG s k)) (k/2) [.v (.int .u8 (hv s (k-1)*16+hx (sAt s k)))]=bs (zbG s (k+1)):=by
    rw[zeK (by omega)];exact congrArg bs (hexPart_odd s k h3)
   refine G [4] ?_;refine jdB ?_;refine G [2] ?_;refine jdB ?_;refine zab (zao U34 sz5 qp qp (show _=k/2 by omega)) rfl rfl ⟨rfl,trivial⟩ ?_;refine jf0 (zaQ U5 rfl g2) ?_;refine G [4] ?_;refine zab (zao U34 sz5 qp qp (show _=k/2 by omega)) rfl rfl ⟨rfl,trivial⟩ ?_;refine jfX ?_;refine⟨m-1,qp,_,zai id _ _ ?_ ?_ rfl,k+1,qp,fun i hi=>?_,rfl⟩
   ·exact jap
   ·exact⟨⟨by rw[show(k+1+1)/2=(k+1)/2 by omega];rfl,rfl⟩,⟨rfl,rfl⟩,trivial⟩
   ·by_cases e1:i=k
    ·subst e1;exact h2
    ·exact hg i qp
 ·have hge:s.size≤k:=qw;clear h;have hb:zcK s=true:=(zcc s).2 fun i hi=>hg i qp
  obtain⟨e1,e2⟩:=zbg (s:=s) qaP;obtain rfl:k=s.size:=qp;refine G [8] ?_;rw[e1,e2];refine yT (fun _=>4) ?_ ?_
  ·exact rfl
  ·rw[←hexPart_full s hev,←show(s.size+1)/2=s.size/2 by omega];exact jbn
theorem zbh(s:ByteArray):Fn prog 110 [qc s] (qd (keyE s)) []:=by
 refine fnI fun w0 A=>?_
 refine G [11,9,0] ?_;refine cX ?_ ?_<;>intro h
 ·exact jcX
 ·have h2:s.size=64:=qw
  have hk:hexE s=0∨hexE s=3:=by
   unfold hexE;rw[if_neg (by omega),if_pos (by omega)]
   split
   ·exact .inl rfl
   ·exact .inr rfl
  rw[show keyE s=hexE s by unfold keyE;rw[if_pos h2]];rcases hk with he|he
  ·obtain⟨e1,e2⟩:=zbg he;have hc:=zcR s;rw[e1,e2]at hc;refine G [5] ?_;refine cK hc ?_;refine G [11,9,0] ?_;refine cX ?_ ?_<;>intro h
   ·cases h
   refine G [6] ?_;rw[he];exact yE
  ·obtain⟨e1,e2⟩:=zbI (s:=s) he qp;have hc:=zcR s;rw[e1,e2]at hc;refine G [5] ?_;refine cK hc ?_;refine G [11,9,0] ?_;refine cX ?_ ?_<;>intro h
   ·refine jdC ?_;rw[he];exact yE
   ·cases h
end Go.Proofs.YtdiljgkijgiboaaGreatDoor
