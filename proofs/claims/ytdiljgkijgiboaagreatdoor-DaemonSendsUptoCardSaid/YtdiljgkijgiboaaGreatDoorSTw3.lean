/- Used. -/
import Derived.Test.YtdiljgkijgiboaaGreatDoorSTrY
import Derived.Test.YtdiljgkijgiboaaGreatDoorSCf3
set_option linter.all false
set_option maxRecDepth 100000
set_option maxHeartbeats 16000000
namespace Go.Proofs.YtdiljgkijgiboaaGreatDoor
open Tryz
open Go.RowKit Go.Sort
theorem zjR(p q:Key)(hp:p.length≤32)(hq:q.length≤32):Fn prog 178 [.agg (netA (zaB p) p.length),.agg (netA (zaB q) q.length)] (qf (decide (p<+:q))) []:=by
 have h:=nHolds_s (zaB p) p.length (zaB q) q.length (zba p hp).1 (zba p hp).2 (zba q hq).1 (zba q hq).2;rw[holds_pre p q hp hq]at h;exact h
def bitN(q:Key)(i:Nat):Nat:=if zby q i=true then 1 else 0
theorem bitN_le(q:Key)(i:Nat):bitN q i≤1:=by unfold bitN;split<;>omega
theorem side_bits(p q:Key)(h:p.length<q.length)(hq:q.length≤32):bits .and .u32 ((zaB q).fdiv (2^min (31-(p.length:Int)).toNat IntKind.u32.bits)) 1=(bitN q p.length:Nat):=by
 have hm:min (31-(p.length:Int)).toNat IntKind.u32.bits=(31-(p.length:Int)).toNat:=Nat.min_eq_left (by simp only[IntKind.bits];omega);obtain⟨b0,b1⟩:=zba q hq;obtain⟨s0,s1⟩:=shr_bd (zaB q) (31-(p.length:Int)).toNat b0 b1;rw[hm,qbG _ (Int.le_of_lt (zdj _)),zhf _ s0 s1,bit_key q p.length hq h];unfold bitN;split<;>rfl
theorem side_s(p q:Key)(h:p.length<q.length)(hq:q.length≤32):Fn prog 53 [.agg (netA (zaB p) p.length),.agg (netA (zaB q) q.length)] (qd (bitN q p.length:Nat)) []:=by
 have hsb:=side_bits p q h hq;have hl:=bitN_le q p.length;generalize bitN q p.length=b at*;refine fnI fun w0 A=>?_
 refine G [13] ?_;refine jdJ ?_;refine zaa (zaV qG hsb) rfl rfl ?_;refine jdY ?_;exact yE
theorem below_s(p q:Key)(hp:p.length≤32)(hq:q.length≤32):Fn prog 137 [.agg (netA (zaB p) p.length),.agg (netA (zaB q) q.length)] (.p (.v (.bool (zfy p q)))) []:=by
 have hH:=zjR p q hp hq;have e:zfy p q=(decide ((p.length:Int)<(q.length:Int))&&decide (p<+:q)):=by unfold zfy;congr 1;exact decide_eq_decide.2 qp
 rw[e];generalize decide (p<+:q)=c at*;refine fnI fun w0 A=>?_
 refine G [14] ?_;refine mb2 _ rfl rfl (fun hb=>(zak U101 rfl zbw qu qC)) (fun _=>⟨rfl,trivial⟩) ?_;refine mb2 _ rfl rfl (fun hb=>(zak U101 rfl zbw qu qC)) (fun _=>⟨rfl,trivial⟩) ?_;refine mb2 _ rfl rfl (fun _=>zbl func178 rfl rfl (hH) qD rfl) (fun _=>trivial) ?_;exact jc9
def trP:TR→PV
 | .nil=>.v (.pointer none)
 | .nd p o l r=>.pt [.v (.int .u32 (zaB p)),.v (.int .i64 p.length),.v (.string o),trP l,trP r]
def nds(l:List ND):List PV:=l.flatMap ND.pv
def ndsV(l:List ND):PV:=.sl l.length 4 (nds l)
theorem zdM(x:ND)(l:List ND):nds (x::l)=qi x.a::qh x.n::qg x.o::qh x.s::nds l:=rfl
theorem zgN(l r:List ND):nds (l++r)=nds l++nds r:=by simp[nds]
theorem zc8:∀l:List ND,(nds l).length=l.length*4
 | []=>rfl
 |x::l=>by rw[zdM];simp only[qbE,zc8 l];omega
theorem zjH:∀(l:List ND) (k:Nat),(nds l).take (k*4)=nds (l.take k)
 |l,0=>by simp[nds]
 | [],k+1=>by simp[nds]
 |x::l,k+1=>by
  rw[zdM,qb5,zdM,←zjH l k,show(k+1)*4=k*4+1+1+1+1 by omega];simp only[qb5]
theorem zjI:∀(l:List ND) (k:Nat),(nds l).drop (k*4)=nds (l.drop k)
 |l,0=>by simp
 | [],k+1=>by simp[nds]
 |x::l,k+1=>by
  rw[zdM,qcg,←zjI l k,show(k+1)*4=k*4+1+1+1+1 by omega];simp only[qcg]
theorem nds_take_all(l:List ND):(nds l).take (l.length*4)=nds l:=by rw[zjH,qbL]
def growRes:Option (TR×List ND)→AV
 |none=>.tup [.p (.v (.pointer none)),.p (.v (.slice none 0 0)),.p (.v (.bool false))]
 |some (t,rest)=>.tup [.p (trP t),.p (ndsV rest),.p (.v (.bool true))]
section
variable {P:Program}{d:Option Tmp}{ty:TypeId}{pos:String}{af:Array Edge}{g:Option (Nat×Bool)}{x y:Operand}{xt yt e:TypeId}
theorem zkg{t:TR}(hu:P.underlying xt=some (.pointer e)):AOp P ⟨d,.binOp .neq xt x y yt,ty,pos,af,g⟩ [.p (trP t),.p (.v (.pointer none))] [] [] (qf (!t.isNil)):=by
 cases t
 ·exact a_pneNN hu
 ·exact a_pnePN hu
theorem a_peqTR{t:TR}(hu:P.underlying xt=some (.pointer e)):AOp P ⟨d,.binOp .eql xt x y yt,ty,pos,af,g⟩ [.p (trP t),.p (.v (.pointer none))] [] [] (qf t.isNil):=by
 cases t
 ·exact zkh hu
 ·exact a_peqPN hu
end
theorem grow_s:∀(n:Nat) (l:List ND),l.length≤n→(∀x∈l,x.OK)→l.length≤4611686018427387904→Fn prog 100 [.p (ndsV l)] (growRes (zdH n l)) []
 |0,l,hn,hok,hz=>by
  obtain rfl:=qbz (Nat.le_zero.1 hn);show Fn prog 100 [ql 0 4 []] (.tup [.p (.v (.pointer none)),qm,qf false]) [];refine fnI fun w0 A=>?_
  refine G [11,1,25,9,0] ?_;refine cX ?_ ?_<;>intro h
  ·refine G [7,9,0] ?_;exact yE
  ·cases h
 |n+1,[],hn,hok,hz=>by
  show Fn prog 100 [ql 0 4 []] (.tup [.p (.v (.pointer none)),qm,qf false]) [];refine fnI fun w0 A=>?_
  refine G [11,1,25,9,0] ?_;refine cX ?_ ?_<;>intro h
  ·refine G [7,9,0] ?_;exact yE
  ·cases h
 |n+1,x::l,hn,hok,hz=>by
  have ih:=grow_s n;have hx:=hok x qG;have hokl:∀y∈l,y.OK:=fun y hy=>hok y qa3
  obtain⟨a,b,o,s⟩:=x;have hC:=zdk a b hx.a0 hx.a1;have hz':l.length+1≤4611686018427387904:=qbi;have s0:=hx.s0;have s1:=hx.s1;simp only at s0 s1;rw[zdH];show Fn prog 100 [ql (l.length+1) 4 (qi a::qh b::qg o::qh s::nds l)] _ [];obtain⟨F,hF⟩:∃F,F=zaD a b:=⟨_,rfl⟩;rw[←hF]at hC;have hfz:(ND.fault ⟨a,b,o,s⟩)=F:=hF.symm;rw[hfz];refine fnI fun w0 A=>?_
  refine G [15] ?_;refine jfZ (zan zj1 rfl) ?_;refine zaa (zaz U3 rfl qt) rfl rfl ?_;refine G [4] ?_;refine mb2 _ rfl rfl (fun hb=>(zaL U25 zcZ qp qp rfl)) (fun _=>trivial) ?_;refine mb2 _ rfl rfl (fun hb=>(zan zj1 rfl)) (fun _=>trivial) ?_;refine mb2 _ rfl rfl (fun hb=>(zaz U3 rfl qt)) (fun _=>trivial) ?_;refine mb2 _ rfl rfl (fun hb=>(zah (r:=.p _))) (fun _=>trivial) ?_;refine mb2 _ rfl rfl (fun hb=>(zdd U25)) (fun _=>trivial) ?_
  refine G [1,2,2] ?_;refine mb2 _ rfl rfl (fun hb=>(zaL U25 zcZ qp qp rfl)) (fun _=>trivial) ?_;refine mb2 _ rfl rfl (fun hb=>(zan zgV rfl)) (fun _=>trivial) ?_;refine mb2 _ rfl rfl (fun hb=>(zay U101 rfl zbw qH (rfl))) (fun _=>trivial) ?_;refine mb2 _ rfl rfl (fun _=>zbl func99 rfl rfl (hC) qD rfl) (fun _=>trivial) ?_;refine G [1,2,1,9,0] ?_;refine cX ?_ ?_<;>intro h
  ·have hc:s<1∨((l.length+1:Nat):Int)<s∨F≠0:=by
    simp at h;omega
   rw[if_pos hc];refine G [7,9,0] ?_;exact yE
  have hc:¬(s<1∨((l.length+1:Nat):Int)<s∨F≠0):=by
   simp at h;omega
  clear h;rw[if_neg hc];simp only[not_or,Int.not_lt]at hc;obtain⟨c1,c2,c3⟩:=hc;replace c3:F=0:=qbq.1 c3;obtain⟨q1,q2,q3⟩:=ND.keyed hx.a0 hx.a1 (hfz.trans c3);generalize ND.key ⟨a,b,o,s⟩=p at q1 q2 q3⊢;simp only at q2 q3;subst q2;subst q3;obtain⟨k,rfl⟩:∃k:Nat,s=((k+1:Nat):Int):=⟨(s-1).toNat,qp⟩;have hk:k≤l.length:=qp;clear hC hfz hF c3;rw[show((k+1:Nat):Int).toNat-1=k by omega];obtain⟨K,hK⟩:∃K,K=zew (zdH n) p (l.take k).length .nil .nil (l.take k):=⟨_,rfl⟩
  rw[←hK];have hdl:(l.drop k).length=l.length-k:=qG;have htl:(l.take k).length=k:=qbg;have hnt:((k+1:Nat):Int).toNat-Int.toNat 1=(l.take k).length:=by rw[htl];simp
  have hst:(nds l).take ((l.take k).length*4)=nds (l.take k):=by rw[htl];exact zjH l k
  have hnn:l.length+1-((k+1:Nat):Int).toNat=(l.drop k).length:=qG
  have hsub:(List.drop (((k+1:Nat):Int).toNat*4) (nds (⟨zaB p,p.length,o,((k+1:Nat):Int)⟩::l))).take ((l.drop k).length*4)=nds (l.drop k):=by
   rw[qbt,zjI,qcg];exact nds_take_all _
  refine G [5] ?_;refine jfZ (zan zgV rfl) ?_;refine zaa (zay U101 rfl zbw qH (rfl)) rfl rfl ?_;refine G [2] ?_;refine jfZ (zan fi103_1 rfl) ?_;refine zaa (zaz U9 rfl qt) rfl rfl ?_;refine G [9] ?_;refine jfZ (zan zj1 rfl) ?_;refine zaa (zaz U3 rfl qt) rfl rfl ?_;refine zaa (zhB (L:=(some (_,_))) (H:=(some (_,_))) U25 zcZ ⟨qp,rfl⟩ ⟨qp,rfl⟩ qp qp hnt (by exact hst)) rfl rfl ?_;refine G [3] ?_;refine jfZ (zan zj1 rfl) ?_
  refine zaa (zaz U3 rfl qt) rfl rfl ?_;refine zaa (zhB (L:=(some (_,_))) (H:=none) U25 zcZ ⟨qp,rfl⟩ rfl qp qp hnn (by exact hsub)) rfl rfl ?_;refine G [5] ?_;refine zag (fun m st=>∃(k0 k1:TR) (mine:List ND),mine.length≤m∧mine.length≤l.length∧(∀y∈mine,y.OK)∧zew (zdH n) p m k0 k1 mine=K∧st=St.of [(5,.ref 48 0),(6,.p (ndsV mine)),(7,.p (ndsV (l.drop k)))] [(48,.box 115 [qe (zaB p),qd p.length,qc o,.p (trP k0),.p (trP k1)])]) (l.take k).length ?_ ?_
  ·refine⟨_,zai id _ _ ?_ ?_ rfl,.nil,.nil,l.take k,Nat.le_refl _,qp,fun y hy=>hokl y (qbI hy),hK.symm,rfl⟩
   ·exact⟨⟨rfl,rfl⟩,⟨rfl,rfl⟩,⟨rfl,rfl⟩,trivial⟩
   ·exact⟨⟨rfl,rfl⟩,trivial⟩
  rintro m st ⟨k0,k1,mine,hm,hmn,hmok,hmK,rfl⟩;refine G [7,9,0] ?_;refine cX ?_ ?_<;>intro h
  ·have hpos:0<mine.length:=qw;clear h;have hg:=ih mine (by simp at hn;omega) hmok qp;obtain⟨y,mine',rfl⟩:∃y m',mine=y::m':=by cases mine with|nil=>simp at hpos|cons y m'=>exact⟨y,m',rfl⟩
   obtain⟨m,rfl⟩:∃m',m=m'+1:=⟨m-1,qp⟩;simp only[zew]at hmK;cases hq:zdH n (y::mine')with
   |none=>
    rw[hq]at hmK hg;subst hmK;replace hg:Fn prog 100 [.p (ndsV (y::mine'))] (.tup [.p (.v (.pointer none)),qm,qf false]) []:=hg;refine G [5] ?_;refine cK hg ?_;refine G [26,9,0] ?_;refine cX ?_ ?_<;>intro h
    ·refine G [7,9,0] ?_;exact yE
    ·cases h
   |some r=>
    obtain⟨t',more⟩:=r;obtain⟨⟨gv,gs,gn⟩,gl⟩:=zez hmok hq;cases t' with
    |nil=>exact absurd rfl gn
    |nd q o' ka kb=>
     rw[hq]at hmK hg;simp only at hmK;have gq:=gs.1;replace hg:Fn prog 100 [.p (ndsV (y::mine'))] (.tup [.p (.pt [qi (zaB q),qh q.length,qg o',trP ka,trP kb]),.p (ndsV more),qf true]) []:=hg;have hB:=below_s p q q1 gq;refine G [5] ?_;refine cK hg ?_;refine G [8] ?_;cases hbw:zfy p q with
     |false=>
      rw[hbw,if_neg (by simp)]at hmK;rw[hbw]at hB;subst hmK;refine G [11] ?_;refine jfZ zbm ?_;refine jfZ (zan zb5 rfl) ?_;refine zaa (zay U101 rfl zbw qH (rfl)) rfl rfl ?_;refine cV hB ?_;refine G [3,9,0] ?_;refine cX ?_ ?_<;>intro h
      ·refine G [7,9,0] ?_;exact yE
      ·cases h
     |true=>
     rw[hbw,if_pos rfl]at hmK;rw[hbw]at hB;have hbl:p.length<q.length:=by unfold zfy at hbw;simp at hbw;exact hbw.1
     have hS:=side_s p q hbl gq;refine G [11] ?_;refine jfZ zbm ?_;refine jfZ (zan zb5 rfl) ?_;refine zaa (zay U101 rfl zbw qH (rfl)) rfl rfl ?_;refine cV hB ?_;refine G [3,9,0] ?_;refine cX ?_ ?_<;>intro h
     ·cases h
     have hml:more.length+1≤(y::mine').length:=by
      rw[gl,qbm,TR.list_nd];simp only[qbE];omega
     have hmore:∀z∈more,z.OK:=fun z hz=>hmok z (by rw[gl];exact qbD.2 (.inr hz))
     cases hbit:zby q p.length with
     |true=>
      rw[show bitN q p.length=1 by unfold bitN;rw[hbit];rfl]at hS;rw[hbit,if_pos rfl]at hmK;refine G [8] ?_;refine jfZ zbm ?_;refine jfZ (zan zb5 rfl) ?_;refine zaa (zay U101 rfl zbw qH (rfl)) rfl rfl ?_;refine cV hS ?_;refine G [9] ?_;refine zaa (zap U113 zde qp qp qE) rfl rfl ?_;refine l1 U110 rfl rfl rfl ⟨rfl,trivial⟩ ?_;refine jfZ (zkg U110) ?_;refine mP rfl rfl ?_;refine mb2 _ rfl rfl (fun hb=>(zah (r:=.ref _ _))) (fun _=>trivial) ?_
      refine mb2 _ rfl rfl (fun hb=>zeI) (fun _=>trivial) ?_;refine mb2 _ rfl rfl (fun hb=>(zaC zcV rfl)) (fun _=>trivial) ?_;refine mb2 _ rfl rfl (fun hb=>(zap U113 zde qp qp qE)) (fun _=>trivial) ?_;refine mb2 _ rfl rfl (fun hb=>(zcz U110 rfl qZ)) (fun _=>⟨rfl,trivial⟩) ?_;refine mb2 _ rfl rfl (fun hb=>zkg U110) (fun _=>trivial) ?_;refine G [0,2,1,9,0] ?_;refine cX ?_ ?_<;>intro h
      ·have hk1:k1.isNil=false:=qB;rw[if_neg (by simp[hk1])]at hmK;subst hmK;refine G [7,9,0] ?_;exact yE
      ·have hk1:k1.isNil=true:=qB;rw[if_pos hk1]at hmK;refine G [8] ?_;refine zaa (zap U113 zde qp qp qE) rfl rfl ?_;refine G [3,9,0] ?_;refine⟨m,qp,_,zai id _ _ ?_ ?_ rfl,k0,.nd q o' ka kb,more,qp,qp,hmore,hmK,rfl⟩
       ·exact⟨⟨rfl,rfl⟩,⟨rfl,rfl⟩,⟨rfl,rfl⟩,trivial⟩
       ·exact⟨⟨rfl,rfl⟩,trivial⟩
     |false=>
      rw[show bitN q p.length=0 by unfold bitN;rw[hbit];rfl]at hS;rw[hbit,if_neg (by simp)]at hmK;refine G [8] ?_;refine jfZ zbm ?_;refine jfZ (zan zb5 rfl) ?_;refine zaa (zay U101 rfl zbw qH (rfl)) rfl rfl ?_;refine cV hS ?_;refine G [9] ?_;refine zaa (zap U113 zde qp qp qE) rfl rfl ?_;refine l1 U110 rfl rfl rfl ⟨rfl,trivial⟩ ?_;refine jfZ (zkg U110) ?_;refine mP rfl rfl ?_;refine mb2 _ rfl rfl (fun hb=>(zah (r:=.ref _ _))) (fun _=>trivial) ?_
      refine mb2 _ rfl rfl (fun hb=>zeI) (fun _=>trivial) ?_;refine mb2 _ rfl rfl (fun hb=>(zaC zcV rfl)) (fun _=>trivial) ?_;refine mb2 _ rfl rfl (fun hb=>(zap U113 zde qp qp qE)) (fun _=>trivial) ?_;refine mb2 _ rfl rfl (fun hb=>(zcz U110 rfl qZ)) (fun _=>⟨rfl,trivial⟩) ?_;refine mb2 _ rfl rfl (fun hb=>zkg U110) (fun _=>trivial) ?_;refine G [0,2,1,9,0] ?_;refine cX ?_ ?_<;>intro h
      ·have hk1:¬(k0.isNil=true∧k1.isNil=true):=by
        intro hh;simp[hh.1,hh.2]at h
       rw[if_neg hk1]at hmK;subst hmK;refine G [7,9,0] ?_;exact yE
      ·have hk1:k0.isNil=true∧k1.isNil=true:=qB;rw[if_pos hk1]at hmK;refine G [8] ?_;refine zaa (zap U113 zde qp qp qE) rfl rfl ?_;refine G [3,9,0] ?_;refine⟨m,qp,_,zai id _ _ ?_ ?_ rfl,.nd q o' ka kb,k1,more,qp,qp,hmore,hmK,rfl⟩
       ·exact⟨⟨rfl,rfl⟩,⟨rfl,rfl⟩,⟨rfl,rfl⟩,trivial⟩
       ·exact⟨⟨rfl,rfl⟩,trivial⟩
  have hnil:mine=[]:=by
   cases mine with
   |nil=>rfl
   |cons y m'=>simp at h
  clear h;subst hnil;rw[zh4]at hmK;subst hmK;refine G [10] ?_;refine mb2 _ rfl rfl (fun hb=>(zah (r:=.ref _ _))) (fun _=>trivial) ?_;refine mb2 _ rfl rfl (fun hb=>zeI) (fun _=>trivial) ?_;refine mb2 _ rfl rfl (fun hb=>(zaC zcV rfl)) (fun _=>trivial) ?_;refine mb2 _ rfl rfl (fun hb=>(zap U113 zde qp qp qE)) (fun _=>trivial) ?_;refine mb2 _ rfl rfl (fun hb=>(zcz U110 rfl qZ)) (fun _=>⟨rfl,trivial⟩) ?_
  refine mb2 _ rfl rfl (fun hb=>a_peqTR U110) (fun _=>trivial) ?_;refine mb2 _ rfl rfl (fun hb=>(zah (r:=.p _))) (fun _=>trivial) ?_;refine mb2 _ rfl rfl (fun hb=>(zah (r:=.ref _ _))) (fun _=>trivial) ?_;refine mb2 _ rfl rfl (fun hb=>zeI) (fun _=>trivial) ?_;refine mb2 _ rfl rfl (fun hb=>(zaC zcV rfl)) (fun _=>trivial) ?_;refine mb2 _ rfl rfl (fun hb=>(zap U113 zde qp qp qE)) (fun _=>trivial) ?_;refine mb2 _ rfl rfl (fun hb=>(zcz U110 rfl qZ)) (fun _=>⟨rfl,trivial⟩) ?_
  refine mb2 _ rfl rfl (fun hb=>a_peqTR U110) (fun _=>trivial) ?_;refine r_mb3 _ rfl rfl (.mb _ _ _ _ qao (.keep _ _ _ (.keep _ _ _ .nil))) (fun hb=>(a_or qaf)) (fun _=>trivial) ?_;refine G [0,2,1,9,0] ?_;refine cX ?_ ?_<;>intro h
  ·have hc:o=noOwn∧(k0.isNil=true∨k1.isNil=true):=qB;rw[growTop_no hc];refine G [7,9,0] ?_;exact yE
  ·have hc:¬(o=noOwn∧(k0.isNil=true∨k1.isNil=true)):=by
    intro hh;simp[hh.1]at h;rcases hh.2 with h'|h'<;>simp[h']at h
   rw[zid hc];refine za1 (zeO (cs:=[qi (zaB p),qh p.length,qg o,trP k0,trP k1]) 48 rfl rfl) ?_;refine G [10,9,0] ?_;exact yE
noncomputable def eqB{α:Type}(x y:α):Bool:=@decide (x=y) (Classical.propDecidable _)
theorem zgW{α:Type}{x y:α}:eqB x y=true↔x=y:=by unfold eqB;simp
theorem ziD{α:Type}{x y:α}(h:x=y):eqB x y=true:=zgW.2 h
theorem zfU{α:Type}{x y:α}(h:x≠y):eqB x y=false:=by
 cases hq:eqB x y with
 |false=>rfl
 |true=>exact absurd (zgW.1 hq) h
theorem zhz{α:Type}(x:α):eqB x x=true:=ziD rfl
theorem zg5{α:Type}{l m:List α}{i:Nat}{x y:α}(h1:l[i]?=some x)(h2:m[i]?=some y)(h:x≠y):l≠m:=by
 rintro rfl;rw[h1]at h2;exact h (Option.some.inj h2)
theorem zg6{α:Type}{l m:List α}(h:l.length=m.length)(k:∀j,j<l.length→l[j]?=m[j]?):l=m:=by
 apply qcG;intro j;rcases qc2 j l.length with hj|hj
 ·exact k j hj
 ·rw[qcj hj,qcj (by omega)]
theorem eqNets_d(l m:List NtP)(hl:l.length≤4611686018427387904)(hm:m.length≤4611686018427387904):Fn prog 85 [ql l.length 2 (l.flatMap ntC),ql m.length 2 (m.flatMap ntC)] (qf (eqB l m)) []:=by
 by_cases hlen:l.length=m.length
 rotate_left
 ·rw[zfU (fun e=>hlen (by rw[e]))];generalize l.flatMap ntC=L;generalize m.flatMap ntC=M;exact jaM
 obtain⟨E,hE⟩:∃E,eqB l m=E:=⟨_,rfl⟩;rw[hE];refine fnI fun w0 A=>?_
 refine G [11,3,11] ?_;refine zag (fun u st=>∃i:Nat,u+i=l.length∧(∀j,j<i→l[j]?=m[j]?)∧st=St.of [(0,ql l.length 2 (l.flatMap ntC)),(1,ql m.length 2 (m.flatMap ntC)),(12,qd l.length),(13,qd i)] []) l.length ?_ ?_
 ·exact jaC
 rintro u st ⟨i,hi,hf,rfl⟩;refine G [5] ?_;refine cX ?_ ?_<;>intro h
 ·have hlt:i<l.length:=qw;clear h;obtain⟨x,hx⟩:=qo hlt;obtain⟨y,hy⟩:∃y,m[i]?=some y:=⟨m[i]'qp,List.getElem?_eq_getElem qp⟩;have hch:=zav (f:=ntC) (k:=2) (fun _=>rfl) hx;have hle:=zaw (f:=ntC) (k:=2) (fun _=>rfl) hlt;have hch2:=zav (f:=ntC) (k:=2) (fun _=>rfl) hy;have hle2:=zaw (f:=ntC) (k:=2) (fun _=>rfl) (show i<m.length by omega);have hbad:=zg5 hx hy;have hxy:x=y→l[i]?=m[i]?:=fun e=>by rw[hx,hy,e]
  generalize l.flatMap ntC=L at*;generalize m.flatMap ntC=M at*;obtain⟨a1,b1⟩:=x;obtain⟨a2,b2⟩:=y;refine G [8] ?_
  by_cases he:(⟨a1,b1⟩:NtP)=⟨a2,b2⟩
  ·refine G [10] ?_;refine zaa (zaK U101 (xs:=[.int .u32 a1,.int .i64 b1]) (ys:=[.int .u32 a2,.int .i64 b2]) rfl rfl qq qq qq (c:=false) qaE) rfl rfl ?_;refine jds ?_;exact jaw
  ·rw[zfU (hbad he)]at hE;subst hE;refine G [10] ?_;refine zaa (zaK U101 (xs:=[.int .u32 a1,.int .i64 b1]) (ys:=[.int .u32 a2,.int .i64 b2]) rfl rfl qq qq qq (c:=true) qaq) rfl rfl ?_;exact jaW
 have hge:i=l.length:=qw;clear h;subst hge;rw[ziD (zg6 hlen hf)]at hE;subst hE;refine jdw ?_;exact yE
theorem eqSets_d(l m:List SE)(hl:l.length≤4611686018427387904)(hm:m.length≤4611686018427387904):Fn prog 127 [ql l.length 5 (l.flatMap SE.pv),ql m.length 5 (m.flatMap SE.pv)] (qf (eqB l m)) []:=by
 by_cases hlen:l.length=m.length
 rotate_left
 ·rw[zfU (fun e=>hlen (by rw[e]))];generalize l.flatMap SE.pv=L;generalize m.flatMap SE.pv=M;exact jaM
 obtain⟨E,hE⟩:∃E,eqB l m=E:=⟨_,rfl⟩;rw[hE];refine fnI fun w0 A=>?_
 refine G [8] ?_
 (first|refine zaa (zdd U27) rfl rfl ?_|refine zaa (zgx U27) rfl rfl ?_)
 refine jdn ?_
 (first|refine zaa (zdd U27) rfl rfl ?_|refine zaa (zgx U27) rfl rfl ?_)
 refine G [0,3,11] ?_;refine zag (fun u st=>∃i:Nat,u+i=l.length∧(∀j,j<i→l[j]?=m[j]?)∧st=St.of [(0,ql l.length 5 (l.flatMap SE.pv)),(1,ql m.length 5 (m.flatMap SE.pv)),(12,qd l.length),(13,qd i)] []) l.length ?_ ?_
 ·exact jaC
 rintro u st ⟨i,hi,hf,rfl⟩;refine G [5] ?_;refine cX ?_ ?_<;>intro h
 ·have hlt:i<l.length:=qw;clear h;obtain⟨x,hx⟩:=qo hlt;obtain⟨y,hy⟩:∃y,m[i]?=some y:=⟨m[i]'qp,List.getElem?_eq_getElem qp⟩;have hch:=zav (f:=SE.pv) (k:=5) (fun _=>rfl) hx;have hle:=zaw (f:=SE.pv) (k:=5) (fun _=>rfl) hlt;have hch2:=zav (f:=SE.pv) (k:=5) (fun _=>rfl) hy;have hle2:=zaw (f:=SE.pv) (k:=5) (fun _=>rfl) (show i<m.length by omega);have hbad:=zg5 hx hy;have hxy:x=y→l[i]?=m[i]?:=fun e=>by rw[hx,hy,e]
  generalize l.flatMap SE.pv=L at*;generalize m.flatMap SE.pv=M at*;obtain⟨k1,t1,n1,a1,b1⟩:=x;obtain⟨k2,t2,n2,a2,b2⟩:=y;refine G [8] ?_
  by_cases he:(⟨k1,t1,n1,a1,b1⟩:SE)=⟨k2,t2,n2,a2,b2⟩
  ·refine G [10] ?_;refine zaa (zaK underlying153 (xs:=[.int .i64 k1,.string t1,.int .i64 n1,.int .u32 a1,.int .i64 b1]) (ys:=[.int .i64 k2,.string t2,.int .i64 n2,.int .u32 a2,.int .i64 b2]) rfl rfl qq qq qq (c:=false) qaE) rfl rfl ?_;refine jds ?_;exact jaw
  ·rw[zfU (hbad he)]at hE;subst hE;refine G [10] ?_;refine zaa (zaK underlying153 (xs:=[.int .i64 k1,.string t1,.int .i64 n1,.int .u32 a1,.int .i64 b1]) (ys:=[.int .i64 k2,.string t2,.int .i64 n2,.int .u32 a2,.int .i64 b2]) rfl rfl qq qq qq (c:=true) qaq) rfl rfl ?_;exact jaW
 have hge:i=l.length:=qw;clear h;subst hge;rw[ziD (zg6 hlen hf)]at hE;subst hE;refine jdw ?_;exact yE
theorem eqNodes_d(l m:List ND)(hl:l.length≤4611686018427387904)(hm:m.length≤4611686018427387904):Fn prog 45 [ql l.length 4 (l.flatMap ND.pv),ql m.length 4 (m.flatMap ND.pv)] (qf (eqB l m)) []:=by
 by_cases hlen:l.length=m.length
 rotate_left
 ·rw[zfU (fun e=>hlen (by rw[e]))];generalize l.flatMap ND.pv=L;generalize m.flatMap ND.pv=M;exact jaM
 obtain⟨E,hE⟩:∃E,eqB l m=E:=⟨_,rfl⟩;rw[hE];refine fnI fun w0 A=>?_
 refine G [8] ?_
 (first|refine zaa (zdd U25) rfl rfl ?_|refine zaa (zgx U25) rfl rfl ?_)
 refine jdn ?_
 (first|refine zaa (zdd U25) rfl rfl ?_|refine zaa (zgx U25) rfl rfl ?_)
 refine G [0,3,11] ?_;refine zag (fun u st=>∃i:Nat,u+i=l.length∧(∀j,j<i→l[j]?=m[j]?)∧st=St.of [(0,ql l.length 4 (l.flatMap ND.pv)),(1,ql m.length 4 (m.flatMap ND.pv)),(12,qd l.length),(13,qd i)] []) l.length ?_ ?_
 ·exact jaC
 rintro u st ⟨i,hi,hf,rfl⟩;refine G [5] ?_;refine cX ?_ ?_<;>intro h
 ·have hlt:i<l.length:=qw;clear h;obtain⟨x,hx⟩:=qo hlt;obtain⟨y,hy⟩:∃y,m[i]?=some y:=⟨m[i]'qp,List.getElem?_eq_getElem qp⟩;have hch:=zav (f:=ND.pv) (k:=4) (fun _=>rfl) hx;have hle:=zaw (f:=ND.pv) (k:=4) (fun _=>rfl) hlt;have hch2:=zav (f:=ND.pv) (k:=4) (fun _=>rfl) hy;have hle2:=zaw (f:=ND.pv) (k:=4) (fun _=>rfl) (show i<m.length by omega);have hbad:=zg5 hx hy;have hxy:x=y→l[i]?=m[i]?:=fun e=>by rw[hx,hy,e]
  generalize l.flatMap ND.pv=L at*;generalize m.flatMap ND.pv=M at*;obtain⟨a1,n1,o1,s1⟩:=x;obtain⟨a2,n2,o2,s2⟩:=y;refine G [8] ?_
  by_cases he:(⟨a1,n1,o1,s1⟩:ND)=⟨a2,n2,o2,s2⟩
  ·refine G [10] ?_;refine zaa (zaK U103 (xs:=[.int .u32 a1,.int .i64 n1,.string o1,.int .i64 s1]) (ys:=[.int .u32 a2,.int .i64 n2,.string o2,.int .i64 s2]) rfl rfl qq qq qq (c:=false) qaE) rfl rfl ?_;refine jds ?_;exact jaw
  ·rw[zfU (hbad he)]at hE;subst hE;refine G [10] ?_;refine zaa (zaK U103 (xs:=[.int .u32 a1,.int .i64 n1,.string o1,.int .i64 s1]) (ys:=[.int .u32 a2,.int .i64 n2,.string o2,.int .i64 s2]) rfl rfl qq qq qq (c:=true) qaq) rfl rfl ?_;exact jaW
 have hge:i=l.length:=qw;clear h;subst hge;rw[ziD (zg6 hlen hf)]at hE;subst hE;refine jdw ?_;exact yE
noncomputable def peB(x y:PE):Bool:=(((decide (x.key=y.key)&&decide (x.sh=y.sh))&&decide (x.ep=y.ep))&&(x.al==y.al))&&eqB x.nets y.nets
theorem peB_iff{x y:PE}:peB x y=true↔x=y:=by
 obtain⟨a,b,c,d,e⟩:=x;obtain⟨a',b',c',d',e'⟩:=y;unfold peB;simp[zgW,and_assoc]
theorem peB_T{x y:PE}(h:x=y):peB x y=true:=peB_iff.2 h
theorem peB_F{x y:PE}(h:x≠y):peB x y=false:=by
 cases hq:peB x y with
 |false=>rfl
 |true=>exact absurd (peB_iff.1 hq) h
theorem pel_d(x y:PE)(hx:x.nets.length≤1048576)(hy:y.nets.length≤1048576):Fn prog 84 [.agg x.cells,.agg y.cells] (qf (peB x y)) []:=by
 have hN:=eqNets_d x.nets y.nets qp qp;obtain⟨k1,s1,e1,a1,n1⟩:=x;obtain⟨k2,s2,e2,a2,n2⟩:=y;dsimp only at hN;show Fn prog _ [.agg [qc k1,qc s1,qc e1,qd a1,ql n1.length 2 (n1.flatMap ntC)],.agg [qc k2,qc s2,qc e2,qd a2,ql n2.length 2 (n2.flatMap ntC)]] (qf ((((decide (k1=k2)&&decide (s1=s2))&&decide (e1=e2))&&(a1==a2))&&eqB n1 n2)) _;clear hx hy;generalize eqB n1 n2=bn at*;generalize n1.flatMap ntC=L1 at*
 generalize n2.flatMap ntC=L2 at*;generalize n1.length=c1 at*;generalize n2.length=c2 at*;refine fnI fun w0 A=>?_
 refine G [19,2,6,2,6,2,5] ?_;refine mb2 _ rfl rfl (fun _=>zbl func85 rfl rfl (hN) qD rfl) (fun _=>trivial) ?_;exact jc9
theorem pesl_d(l m:List PE)(hl:l.length≤4611686018427387904)(hm:m.length≤4611686018427387904)(okl:∀p∈l,p.OK∧p.nets.length≤1048576)(okm:∀p∈m,p.OK∧p.nets.length≤1048576):Fn prog 83 [ql l.length 5 (l.flatMap PE.pv),ql m.length 5 (m.flatMap PE.pv),.fn 84 []] (qf (eqB l m)) []:=by
 by_cases hlen:l.length=m.length
 rotate_left
 ·rw[zfU (fun e=>hlen (by rw[e]))];generalize l.flatMap PE.pv=L;generalize m.flatMap PE.pv=M;exact jaM
 obtain⟨E,hE⟩:∃E,eqB l m=E:=⟨_,rfl⟩;rw[hE];refine fnI fun w0 A=>?_
 refine G [11,3,11] ?_;refine zag (fun u st=>∃i:Nat,u+i=l.length∧(∀j,j<i→l[j]?=m[j]?)∧st=St.of [(1,ql m.length 5 (m.flatMap PE.pv)),(2,.fn 84 []),(15,ql l.length 5 (l.flatMap PE.pv)),(16,qd l.length),(17,qd i)] []) l.length ?_ ?_
 ·exact jaC
 rintro u st ⟨i,hi,hf,rfl⟩;refine G [5] ?_;refine cX ?_ ?_<;>intro h
 ·have hlt:i<l.length:=qw;clear h;obtain⟨x,hx⟩:=qo hlt;obtain⟨y,hy⟩:∃y,m[i]?=some y:=⟨m[i]'qp,List.getElem?_eq_getElem qp⟩;have hch:=zav (f:=PE.pv) (k:=5) (fun _=>rfl) hx;have hle:=zaw (f:=PE.pv) (k:=5) (fun _=>rfl) hlt;have hch2:=zav (f:=PE.pv) (k:=5) (fun _=>rfl) hy;have hle2:=zaw (f:=PE.pv) (k:=5) (fun _=>rfl) (show i<m.length by omega);have hbad:=zg5 hx hy;have hxy:x=y→l[i]?=m[i]?:=fun e=>by rw[hx,hy,e]
  have hxm:=qbo hx;have hym:=qbo hy;have hC:=pel_d x y (okl x hxm).2 (okm y hym).2;generalize l.flatMap PE.pv=L at*;generalize m.flatMap PE.pv=M at*;refine G [10] ?_;refine jf0 (zaf (Y:=.agg x.cells) sz98 rfl rfl (qbn rfl)) ?_;refine G [8] ?_;refine jf0 (zaf (Y:=.agg y.cells) sz98 rfl rfl (qbn rfl)) ?_;refine zac ?_
  by_cases he:x=y
  ·rw[peB_T he]at hC;refine G [3] ?_;refine jeO ?_;exact jcm
  ·rw[zfU (hbad he)]at hE;subst hE;rw[peB_F he]at hC;refine G [3] ?_;refine jeO ?_;exact jb2
 have hge:i=l.length:=qw;clear h;subst hge;rw[ziD (zg6 hlen hf)]at hE;subst hE;refine jdw ?_;exact yE
noncomputable def cfB(c d:CF):Bool:=(decide (c.key=d.key)&&(c.port==d.port))&&eqB c.ps d.ps
theorem ziM(c d:CF)(ok:c.OK)(od:d.OK):Fn prog 31 [.agg c.cells,.agg d.cells] (qf (cfB c d)) []:=by
 have hQ:=pesl_d c.ps d.ps (by have:=ok.len;omega) (by have:=od.len;omega) ok.ps od.ps;obtain⟨k1,p1,l1'⟩:=c;obtain⟨k2,p2,l2'⟩:=d;dsimp only at hQ;show Fn prog _ [.agg [qc k1,qd p1,ql l1'.length 5 (l1'.flatMap PE.pv)],.agg [qc k2,qd p2,ql l2'.length 5 (l2'.flatMap PE.pv)]] (qf ((decide (k1=k2)&&(p1==p2))&&eqB l1' l2')) _;clear ok od;generalize eqB l1' l2'=bn at*;generalize l1'.flatMap PE.pv=L1 at*;generalize l2'.flatMap PE.pv=L2 at*
 generalize l1'.length=c1 at*;generalize l2'.length=c2 at*;refine fnI fun w0 A=>?_
 refine G [19,2,5] ?_;refine mb2 _ rfl rfl (fun _=>zbl func83 rfl rfl (hQ) qD rfl) (fun _=>trivial) ?_;exact jc9
noncomputable def pqB(x y:PQ):Bool:=((x.a==y.a)&&(x.b==y.b))&&decide (strOfNums x.xs=strOfNums y.xs)
theorem pqB_T{x y:PQ}(h:x=y):pqB x y=true:=by
 subst h;unfold pqB;simp
theorem pqB_F{x y:PQ}(hx:isB x.xs)(hy:isB y.xs)(h:x≠y):pqB x y=false:=by
 cases hq:pqB x y with
 |false=>rfl
 |true=>
  exfalso
  obtain⟨a,b,xs⟩:=x;obtain⟨c,d,ys⟩:=y;unfold pqB at hq;exact jc8
theorem pql_d(x y:PQ):Fn prog 89 [.agg x.cells,.agg y.cells] (qf (pqB x y)) []:=by
 obtain⟨a1,b1,x1⟩:=x;obtain⟨a2,b2,x2⟩:=y;have hS:=same_s x1.length x2.length x1 x2;show Fn prog _ [.agg [qe a1,qe b1,ql x1.length 1 (bs x1)],.agg [qe a2,qe b2,ql x2.length 1 (bs x2)]] (qf (((a1==a2)&&(b1==b2))&&decide (strOfNums x1=strOfNums x2))) _;exact jbH
theorem pqsl_d(l m:List PQ)(hl:l.length≤4611686018427387904)(hm:m.length≤4611686018427387904)(okl:∀p∈l,isB p.xs)(okm:∀p∈m,isB p.xs):Fn prog 88 [ql l.length 3 (l.flatMap PQ.pv),ql m.length 3 (m.flatMap PQ.pv),.fn 89 []] (qf (eqB l m)) []:=by
 by_cases hlen:l.length=m.length
 rotate_left
 ·rw[zfU (fun e=>hlen (by rw[e]))];generalize l.flatMap PQ.pv=L;generalize m.flatMap PQ.pv=M;exact jaM
 obtain⟨E,hE⟩:∃E,eqB l m=E:=⟨_,rfl⟩;rw[hE];refine fnI fun w0 A=>?_
 refine G [11,3,11] ?_;refine zag (fun u st=>∃i:Nat,u+i=l.length∧(∀j,j<i→l[j]?=m[j]?)∧st=St.of [(1,ql m.length 3 (m.flatMap PQ.pv)),(2,.fn 89 []),(15,ql l.length 3 (l.flatMap PQ.pv)),(16,qd l.length),(17,qd i)] []) l.length ?_ ?_
 ·exact jaC
 rintro u st ⟨i,hi,hf,rfl⟩;refine G [5] ?_;refine cX ?_ ?_<;>intro h
 ·have hlt:i<l.length:=qw;clear h;obtain⟨x,hx⟩:=qo hlt;obtain⟨y,hy⟩:∃y,m[i]?=some y:=⟨m[i]'qp,List.getElem?_eq_getElem qp⟩;have hch:=zav (f:=PQ.pv) (k:=3) (fun _=>rfl) hx;have hle:=zaw (f:=PQ.pv) (k:=3) (fun _=>rfl) hlt;have hch2:=zav (f:=PQ.pv) (k:=3) (fun _=>rfl) hy;have hle2:=zaw (f:=PQ.pv) (k:=3) (fun _=>rfl) (show i<m.length by omega);have hbad:=zg5 hx hy;have hxy:x=y→l[i]?=m[i]?:=fun e=>by rw[hx,hy,e]
  have hxm:=qbo hx;have hym:=qbo hy;have hC:=pql_d x y;generalize l.flatMap PQ.pv=L at*;generalize m.flatMap PQ.pv=M at*;refine G [10] ?_;refine jf0 (zaf (Y:=.agg x.cells) sz36 rfl rfl (qbn rfl)) ?_;refine G [8] ?_;refine jf0 (zaf (Y:=.agg y.cells) sz36 rfl rfl (qbn rfl)) ?_;refine zac ?_
  by_cases he:x=y
  ·rw[pqB_T he]at hC;refine G [3] ?_;refine jeP ?_;refine jeQ ?_;exact jbt
  ·rw[zfU (hbad he)]at hE;subst hE;rw[pqB_F (okl x hxm) (okm y hym) he]at hC;refine G [3] ?_;refine jeP ?_;refine jeQ ?_;exact ja5
 have hge:i=l.length:=qw;clear h;subst hge;rw[ziD (zg6 hlen hf)]at hE;subst hE;refine jdw ?_;exact yE
def slV(s:ST):List Value:=s.a.vals++s.b.vals++s.c.vals
def HS.vals(h:HS):List Value:=[.bool h.lv,.int .i64 h.mine,.string h.nc,.int .i64 h.b,.int .i64 h.s]
noncomputable def stB(x y:ST):Bool:=(((decide (x.key=y.key)&&decide (x.ep=y.ep))&&eqL (slV x) (slV y))&&eqL x.h.vals y.h.vals)&&eqB x.q y.q
theorem stB_iff{x y:ST}:stB x y=true↔x=y:=by
 obtain⟨k,e,a,b,c,h,q⟩:=x;obtain⟨k',e',a',b',c',h',q'⟩:=y;unfold stB;simp only[qbB,decide_eq_true_eq,zaY,zgW]
 constructor
 ·rintro⟨⟨⟨⟨h1,h2⟩,h3⟩,h4⟩,h5⟩;obtain⟨h6,h7⟩:=List.append_inj h3 rfl;obtain⟨h8,h9⟩:=List.append_inj h6 rfl;have ea:a=a':=KY.eqL_iff.1 (zaY.2 h8);have eb:b=b':=KY.eqL_iff.1 (zaY.2 h9);have ec:c=c':=KY.eqL_iff.1 (zaY.2 h7);obtain⟨v1,v2,v3,v4,v5⟩:=h;obtain⟨u1,u2,u3,u4,u5⟩:=h';simp[HS.vals]at h4;obtain⟨g1,g2,g3,g4,g5⟩:=h4;rw[h1,h2,ea,eb,ec,h5,g1,g2,g3,g4,g5]
 ·intro h;cases h;exact⟨⟨⟨⟨rfl,rfl⟩,rfl⟩,rfl⟩,rfl⟩
theorem stB_T{x y:ST}(h:x=y):stB x y=true:=stB_iff.2 h
theorem stB_F{x y:ST}(h:x≠y):stB x y=false:=by
 cases hq:stB x y with
 |false=>rfl
 |true=>exact absurd (stB_iff.1 hq) h
theorem stl_d(x y:ST)(hx:x.B)(hy:y.B):Fn prog 87 [.agg x.cells,.agg y.cells] (qf (stB x y)) []:=by
 have hQ:=pqsl_d x.q y.q (by have:=hx.1;omega) (by have:=hy.1;omega) hx.2 hy.2;clear hx hy;obtain⟨k1,e1,a1,b1,c1,h1,q1⟩:=x;obtain⟨k2,e2,a2,b2,c2,h2,q2⟩:=y;dsimp only at hQ;show Fn prog _ [.agg (stC k1 e1 a1 b1 c1 h1 q1.length (q1.flatMap PQ.pv)),.agg (stC k2 e2 a2 b2 c2 h2 q2.length (q2.flatMap PQ.pv))] (qf ((((decide (k1=k2)&&decide (e1=e2))&&eqL (a1.vals++b1.vals++c1.vals) (a2.vals++b2.vals++c2.vals))&&eqL h1.vals h2.vals)&&eqB q1 q2)) _
 generalize eqB q1 q2=bn at*;generalize q1.flatMap PQ.pv=L1 at*;generalize q2.flatMap PQ.pv=L2 at*;generalize q1.length=n1 at*;generalize q2.length=n2 at*;refine fnI fun w0 A=>?_
 refine G [19,2,2] ?_;refine mb2 _ rfl rfl (fun hb=>(zak U61 rfl sz61 qu (show _=zd3 a1 b1 c1 from rfl))) (fun _=>⟨rfl,trivial⟩) ?_;refine mb2 _ rfl rfl (fun hb=>(zaC zih rfl)) (fun _=>trivial) ?_;refine mb2 _ rfl rfl (fun hb=>(zak U61 rfl sz61 qu (show _=zd3 a2 b2 c2 from rfl))) (fun _=>⟨rfl,trivial⟩) ?_;refine mb2 _ rfl rfl (fun hb=>(zeH U61 rfl rfl qq qq qq)) (fun _=>trivial) ?_;refine G [0,2,2] ?_
 refine mb2 _ rfl rfl (fun hb=>(zak U63 rfl sz63 qu (show _=h1.cells from rfl))) (fun _=>⟨rfl,trivial⟩) ?_;refine mb2 _ rfl rfl (fun hb=>(zaC fi66_3 rfl)) (fun _=>trivial) ?_;refine mb2 _ rfl rfl (fun hb=>(zak U63 rfl sz63 qu (show _=h2.cells from rfl))) (fun _=>⟨rfl,trivial⟩) ?_;refine mb2 _ rfl rfl (fun hb=>(zeH U63 rfl rfl qq qq qq)) (fun _=>trivial) ?_;refine G [0,2,5] ?_;refine mb2 _ rfl rfl (fun _=>zbl func88 rfl rfl (hQ) qD rfl) (fun _=>trivial) ?_
 exact jc9
theorem stsl_d(l m:List ST)(hl:l.length≤4611686018427387904)(hm:m.length≤4611686018427387904)(okl:∀s∈l,s.B)(okm:∀s∈m,s.B):Fn prog 86 [ql l.length 41 (l.flatMap ST.pv),ql m.length 41 (m.flatMap ST.pv),.fn 87 []] (qf (eqB l m)) []:=by
 by_cases hlen:l.length=m.length
 rotate_left
 ·rw[zfU (fun e=>hlen (by rw[e]))];generalize l.flatMap ST.pv=L;generalize m.flatMap ST.pv=M;exact jaM
 obtain⟨E,hE⟩:∃E,eqB l m=E:=⟨_,rfl⟩;rw[hE];refine fnI fun w0 A=>?_
 refine G [11,3,11] ?_;refine zag (fun u st=>∃i:Nat,u+i=l.length∧(∀j,j<i→l[j]?=m[j]?)∧st=St.of [(1,ql m.length 41 (m.flatMap ST.pv)),(2,.fn 87 []),(15,ql l.length 41 (l.flatMap ST.pv)),(16,qd l.length),(17,qd i)] []) l.length ?_ ?_
 ·exact jaC
 rintro u st ⟨i,hi,hf,rfl⟩;refine G [5] ?_;refine cX ?_ ?_<;>intro h
 ·have hlt:i<l.length:=qw;clear h;obtain⟨x,hx⟩:=qo hlt;obtain⟨y,hy⟩:∃y,m[i]?=some y:=⟨m[i]'qp,List.getElem?_eq_getElem qp⟩;have hch:=zav (f:=ST.pv) (k:=41) (fun _=>rfl) hx;have hle:=zaw (f:=ST.pv) (k:=41) (fun _=>rfl) hlt;have hch2:=zav (f:=ST.pv) (k:=41) (fun _=>rfl) hy;have hle2:=zaw (f:=ST.pv) (k:=41) (fun _=>rfl) (show i<m.length by omega);have hbad:=zg5 hx hy;have hxy:x=y→l[i]?=m[i]?:=fun e=>by rw[hx,hy,e]
  have hxm:=qbo hx;have hym:=qbo hy;have hC:=stl_d x y (okl x hxm) (okm y hym);generalize l.flatMap ST.pv=L at*;generalize m.flatMap ST.pv=M at*;refine G [10] ?_;refine jf0 (zaf (Y:=.agg x.cells) sz66 rfl rfl (qbn rfl)) ?_;refine G [8] ?_;refine jf0 (zaf (Y:=.agg y.cells) sz66 rfl rfl (qbn rfl)) ?_;refine zac ?_
  by_cases he:x=y
  ·rw[stB_T he]at hC;refine G [3] ?_;refine jdU ?_;refine jeR ?_;exact jbt
  ·rw[zfU (hbad he)]at hE;subst hE;rw[stB_F he]at hC;refine G [3] ?_;refine jdU ?_;refine jeR ?_;exact ja5
 have hge:i=l.length:=qw;clear h;subst hge;rw[ziD (zg6 hlen hf)]at hE;subst hE;refine jdw ?_;exact yE
theorem sameStates_d(l m:List ST)(hl:l.length≤1048576)(hm:m.length≤1048576)(okl:∀s∈l,s.B)(okm:∀s∈m,s.B):Fn prog 33 [ql l.length 41 (l.flatMap ST.pv),ql m.length 41 (m.flatMap ST.pv)] (qf (eqB l m)) []:=by
 have hC:=stsl_d l m qp qp okl okm;clear hl hm okl okm;generalize eqB l m=bn at*;generalize l.flatMap ST.pv=L at*;generalize l.length=N at*;generalize m.flatMap ST.pv=L' at*;generalize m.length=N' at*;exact jcf
def rootRes:Option (TR×List ND)→TR
 |none=>.nil
 |some (t,_)=>t
theorem tree_s(l:List ND)(hok:∀x∈l,x.OK)(hz:l.length≤4611686018427387904):Fn prog 51 [.p (ndsV l)] (.p (trP (rootRes (zdH l.length l)))) []:=by
 have hg:=grow_s l.length l (Nat.le_refl _) hok hz;cases hq:zdH l.length l with
 |none=>
  rw[hq]at hg;replace hg:Fn prog 100 [.p (ndsV l)] (.tup [.p (.v (.pointer none)),qm,qf false]) []:=hg;refine fnI fun w0 A=>?_
  refine G [7] ?_;refine cK hg ?_;refine G [14,9,0] ?_;exact yE
 |some r=>
  obtain⟨t,rest⟩:=r;rw[hq]at hg;replace hg:Fn prog 100 [.p (ndsV l)] (.tup [.p (trP t),.p (ndsV rest),qf true]) []:=hg;refine fnI fun w0 A=>?_
  refine G [7] ?_;refine cK hg ?_;refine G [14,9,0] ?_;exact yE
def zeZ:List ND→Int
 | []=>0
 |x::l=>if x.fault≠0 then x.fault else zeZ l
def endsB:Option (TR×List ND)→Bool
 |some (_,[])=>true
 |_=>false
def zcu(l:List ND):Int:=if zeZ l≠0 then zeZ l else if l=[]then 0 else if endsB (zdH l.length l)=true then 0 else 14
theorem zij:∀{l:List ND} {i:Nat} {x:ND},l[i]?=some x→(∀j,j<i→∀y,l[j]?=some y→y.fault=0)→x.fault≠0→zeZ l=x.fault
 | [],i,x,h,_,_=>by simp at h
 |y::l,0,x,h,_,hx=>by simp at h;subst h;rw[zeZ,if_pos hx]
 |y::l,i+1,x,h,hj,hx=>by
  have h0:=hj 0 qp y qG;rw[zeZ,if_neg (by simp[h0])];exact zij (i:=i) qB (fun j hj' z hz=>hj (j+1) qp z qbi) hx
theorem zeC:∀{l:List ND},zeZ l=0↔∀x∈l,x.fault=0
 | []=>by simp[zeZ]
 |y::l=>by
  rw[zeZ]
  by_cases h:y.fault=0
  ·rw[if_neg (by simp[h]),zeC];simp[h]
  ·rw[if_pos h];simp[h]
theorem zi1(l:List ND)(i:Nat)(x:ND)(h:l[i]?=some x):((nds l).drop (i*4)).take 4=x.pv:=by
 rw[zjI];obtain⟨hi,rfl⟩:=qbl.1 h;rw[qbQ hi,zdM];rfl
theorem tcheck_s(l:List ND)(hok:∀x∈l,x.OK)(hz:l.length≤4611686018427387904):Fn prog 50 [.p (ndsV l)] (qd (zcu l)) []:=by
 refine fnI fun w0 A=>?_
 refine G [12] ?_;refine zag (fun m st=>∃i:Nat,m+i=l.length∧(∀j,j<i→∀y,l[j]?=some y→y.fault=0)∧st=St.of [(0,.p (ndsV l)),(9,.p (ndsV l)),(10,qd l.length),(11,qd i)] []) l.length ?_ ?_
 ·refine⟨_,zfu _ ?_,0,qp,qp,rfl⟩
  ·exact jbT
 rintro m st ⟨i,hi,hj,rfl⟩;refine G [5] ?_;refine cX ?_ ?_<;>intro h
 ·have hlt:i<l.length:=qw;clear h;obtain⟨x,hx⟩:=qo hlt;have hxo:=hok x (qbo hx);have hld:=zi1 l i x hx;have hln:=zc8 l;have hC:=zdk x.a x.n hxo.a0 hxo.a1;have hxf:zaD x.a x.n=x.fault:=rfl;rw[hxf]at hC;obtain⟨F,hF⟩:∃F,F=x.fault:=⟨_,rfl⟩;rw[←hF]at hC;refine jfT ?_;refine G [7] ?_;refine cV hC ?_;refine jds ?_;refine cX ?_ ?_<;>intro h
  ·exact jcu
  ·have he:x.fault=0:=qa6;refine jdC ?_;refine⟨m-1,qp,_,zfu _ ?_,i+1,qp,?_,rfl⟩
   ·exact jbT
   ·intro j hj' y hy
    by_cases hji:j=i
    ·subst hji;rw[hx]at hy;cases hy;exact he
    ·exact hj j qp y hy
 have hge:i=l.length:=qw;clear h;subst hge
 have h0:zeZ l=0:=zeC.2 fun x hx=>by
  exact jdj
 unfold zcu;rw[if_neg (by simp[h0])];refine jdV ?_;refine cX ?_ ?_<;>intro h
 ·have hl:l=[]:=qbz qB;rw[if_pos hl];exact jbo
 have hl:l≠[]:=by rintro rfl;simp at h
 rw[if_neg hl];have hg:=grow_s l.length l (Nat.le_refl _) hok hz;cases hq:zdH l.length l with
 |none=>
  rw[hq]at hg;replace hg:Fn prog 100 [.p (ndsV l)] (.tup [.p (.v (.pointer none)),qm,qf false]) []:=hg;rw[show endsB none=false from rfl,if_neg (by simp)];refine G [5] ?_;refine cK hg ?_;refine G [18,9,0] ?_;refine cX ?_ ?_<;>intro h
  ·exact jbo
  ·cases h
 |some r=>
  obtain⟨t,rest⟩:=r;rw[hq]at hg;replace hg:Fn prog 100 [.p (ndsV l)] (.tup [.p (trP t),.p (ndsV rest),qf true]) []:=hg;refine G [5] ?_;refine cK hg ?_;refine G [18,9,0] ?_;refine cX ?_ ?_<;>intro h
  ·have:endsB (some (t,rest))=false:=by
    cases rest with
    |nil=>simp at h
    |cons=>rfl
   rw[this,if_neg (by simp)];exact jbo
  ·have:endsB (some (t,rest))=true:=by
    cases rest with
    |nil=>rfl
    |cons=>simp at h
   rw[this,if_pos rfl];exact jaB
end Go.Proofs.YtdiljgkijgiboaaGreatDoor
