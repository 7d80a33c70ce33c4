/- Used. -/
import Derived.Test.YtdiljgkijgiboaaGreatDoorSSn1
set_option linter.all false
set_option maxRecDepth 100000
set_option maxHeartbeats 16000000
namespace Go.Proofs.YtdiljgkijgiboaaGreatDoor
open Tryz
open Go.RowKit Go.Sort
theorem moseal_s(d:DM)(ps:List ST)(ls:List LR)(i:Nat)(s:ST)(hs:ps[i]?=some s)(b:List Int)
 (hK:Fn prog 61 [.agg s.a.cells,qd d.now,ql b.length 1 (bs b)] (.tup [.agg (ksK s.a).cells,ql (b.length+16) 1 (bs (zdg s.a.send s.a.counter b)),qd 0]) [])
 (zs:List Int) (e:Int) (hW:Fn prog 106 [.agg (snM s.a b).cells] (.tup [ql zs.length 1 (bs zs),qd e]) []) (hp:ps.length≤1048576) (hl:ls.length≤1048576):
 FnO prog 14 [.ref 0 0,qd i,ql b.length 1 (bs b)] [(0,moB d 7),(1,moS ps),(7,moL ls),(5,.un),(8,.un),(29,.un),(30,.un)]
  [(0,moB d 30),(1,moS (ps.set i {s with a:=ksK s.a})),(7,.dead),(30,moL (ls++[⟨⟨#[]⟩,s.ep,zs⟩]))] (.tup []):=by
 refine zeB [5,8,29] (wrs:=[(0,moB d 30),(1,moS (ps.set i {s with a:=ksK s.a})),(7,.dead),(5,qj 129 (snM s.a b).cells),(8,qj 59 (ksK s.a).cells),(29,qk 75 3 1 (LR.pv ⟨⟨#[]⟩,s.ep,zs⟩)),(30,moL (ls++[⟨⟨#[]⟩,s.ep,zs⟩]))]) ?_ rfl rfl rfl rfl;have hi:i<ps.length:=(qbl.1 hs).1;have hs2:(ps.set i {s with a:=ksK s.a})[i]?=some {s with a:=ksK s.a}:=qat;have hS:=mosend_s d _ ls i _ hs2 (snM s.a b) zs e hW (by simpa using hp) hl
 have hst:setR (ps.flatMap ST.pv) (i*41+2+0) (ksK s.a).pv=(ps.set i {s with a:=ksK s.a}).flatMap ST.pv:=zgT (f:=ST.pv) (k:=41) (fun _=>rfl) hs (q:=2) (show 2+11≤41 by decide) rfl;have hco:(ps.flatMap ST.pv)[i*41+2+0+6]?=some (qh s.a.counter):=zeX (f:=ST.pv) (k:=41) (fun _=>rfl) hs (q:=8) qS;have hky:((ps.flatMap ST.pv).drop (i*41+2+0)).take 11=s.a.pv:=zfR (f:=ST.pv) (k:=41) (fun _=>rfl) hs (q:=2) (n:=11) qS
 have hsl:(ps.flatMap ST.pv).length=ps.length*41:=zaO (f:=ST.pv) (k:=41) (fun _=>rfl) ps;unfold moS at hS⊢;rw[qbP]at hS⊢;generalize (ps.set i {s with a:=ksK s.a}).flatMap ST.pv=S' at*;generalize ps.flatMap ST.pv=S at*;generalize ps.length=K at*;refine fnIO fun w0 A heap=>?_
 refine G [18] ?_;refine jf0 (zaQ U3 rfl hco) ?_;refine G [7] ?_;refine jev ?_;refine G [6] ?_;refine cK hK ?_;refine G [5] ?_;refine jf0 (zaf (Y:=.agg (ksK s.a).cells) sz59 rfl rfl (qbn rfl)) ?_;refine G [6] ?_;refine jeG ?_;refine G [2] ?_;refine zab (zbx (Y:=.agg (ksK s.a).cells) (ys:=(ksK s.a).pv) sz59 rfl rfl rfl qp hst) rfl rfl ⟨rfl,trivial⟩ ?_;refine G [9] ?_;exact jcU
def nonX(k:ByteArray)(n:Int):ByteArray:=if nonE k n=0 then nonS k n else⟨#[]⟩
theorem mohello_s(d d':DM)(hd:d'={d with last:=d.last+1})(hlast:0≤d.last∧d.last≤4294967235)(ps:List ST)(ls:List LR)(i:Nat)(s:ST)(hs:ps[i]?=some s)(p:PE)(hp:d.c.ps[i]?=some p)(m:MS)(e:Int)
 (hH:Fn prog 109 [qc d.c.key,qc p.key,qc p.sh,qd (d.last+1),qc (nonX d.c.key (d.last+1))] (.tup [.agg m.cells,qd e]) [])
 (zs:List Int) (e':Int) (hW:Fn prog 106 [.agg m.cells] (.tup [ql zs.length 1 (bs zs),qd e']) []) (hn:ps.length≤1048576) (hl:ls.length≤1048576) (hc:d.c.ps.length≤1048576):
 FnO prog 17 [.ref 0 0,qd i] [(0,moB d 7),(1,moS ps),(7,moL ls),(4,.un),(5,.un),(6,.un),(29,.un),(30,.un)]
  [(0,moB d' 30),(1,moS (ps.set i {s with h:=⟨true,d.last+1,nonX d.c.key (d.last+1),d.now,d.now⟩})),(7,.dead),(30,moL (ls++[⟨⟨#[]⟩,s.ep,zs⟩]))] (.tup []):=by
 refine zeB [4,5,6,29] (wrs:=[(0,moB d' 30),(1,moS (ps.set i {s with h:=⟨true,d.last+1,nonX d.c.key (d.last+1),d.now,d.now⟩})),(7,.dead),(30,moL (ls++[⟨⟨#[]⟩,s.ep,zs⟩])),(4,.un),(5,.un),(6,.un),(29,.un)]) ?_ rfl rfl rfl rfl;have hi:i<ps.length:=(qbl.1 hs).1;have hN:Fn prog 63 [qc d.c.key,qd (d.last+1)] (.tup [qc (nonX d.c.key (d.last+1)),qd (nonE d.c.key (d.last+1))]) []:=nonce_s d.c.key (d.last+1)
 generalize nonX d.c.key (d.last+1)=nc at*;generalize nonE d.c.key (d.last+1)=ne at*;have hs2:(ps.set i {s with h:=⟨true,d.last+1,nc,d.now,0⟩})[i]?=some {s with h:=⟨true,d.last+1,nc,d.now,0⟩}:=qat;have hA:=moagainD_s d' _ ls i _ hs2 p (by rw[hd];exact hp) m e (by rw[hd];exact hH) zs e' hW qbh hl (by rw[hd];exact hc);rw[List.set_set]at hA;have hnow:d'.now=d.now:=by rw[hd]
 rw[hnow]at hA;have hst:setR (ps.flatMap ST.pv) (i*41+35) (HS.pv ⟨true,d.last+1,nc,d.now,0⟩)=(ps.set i {s with h:=⟨true,d.last+1,nc,d.now,0⟩}).flatMap ST.pv:=zgT (f:=ST.pv) (k:=41) (fun _=>rfl) hs (q:=35) (show 35+5≤41 by decide) rfl;have hsl:(ps.flatMap ST.pv).length=ps.length*41:=zaO (f:=ST.pv) (k:=41) (fun _=>rfl) ps;have hm1:moV {d with last:=d.last+1} (.row 1) (.row 7)=moV d' (.row 1) (.row 7):=by rw[hd]
 have hlt:d'.last=d.last+1:=by rw[hd]
 have hkey:d'.c.key=d.c.key:=by rw[hd]
 dsimp only at hA;unfold moS moB at hA⊢;rw[qbP]at hA⊢;rw[qbP]at hA;generalize (ps.set i {s with h:=⟨true,d.last+1,nc,d.now,d.now⟩}).flatMap ST.pv=S2 at*;generalize (ps.set i {s with h:=⟨true,d.last+1,nc,d.now,0⟩}).flatMap ST.pv=S1 at*;generalize ps.flatMap ST.pv=S at*;generalize ps.length=K at*;refine fnIO fun w0 A heap=>?_
 refine G [7] ?_;refine zaa (zbf (show _=d.last+1 from qcd _ qp)) rfl rfl ?_;refine G [3] ?_;refine jf0 (zbt (Y:=qd (d.last+1)) (es:=moV {d with last:=d.last+1} (.row 1) (.row 7)) sz3 rfl rfl (qbk rfl) rfl) ?_;refine G [14] ?_;refine cK hN ?_;refine G [28] ?_;refine jeX ?_;refine zac ⟨qq,?_⟩;rw[hm1];refine zat (G [3] ?_);refine zbp (hA) rfl rfl func64 rfl rfl qL rfl ?_;refine zac ?_
 skip
 refine⟨qO,⟨_,.nil,?_⟩,?_,?_⟩
 ·exact rfl
 ·exact jbA
 ·exact jax
theorem sealedFor_s(d:DM)(ps:List ST)(i:Nat)(s:ST)(hs:ps[i]?=some s)(b:List Int)
 (hK:Fn prog 78 [.agg s.a.cells,qd d.now,ql b.length 1 (bs b)] (.tup [.agg (ksK s.a).cells,ql (b.length+16) 1 (bs (zdg s.a.send s.a.counter b)),qd 0]) [])
 (zs:List Int) (e:Int) (hW:Fn prog 121 [.agg (snM s.a b).cells] (.tup [.row 0,qd e]) [(0,.row 5 1 zs.length (bs zs))]) (hp:ps.length≤1048576):
 FnO prog 26 [.agg (moD d (.row 1)),qd i,ql b.length 1 (bs b)] [(1,moS ps),(3,.un),(6,.un),(7,.un),(8,.un),(9,.un),(44,.un)]
  [(1,moS (ps.set i {s with a:=ksK s.a})),(44,qk 5 1 zs.length (bs zs))] (.tup [.agg (moD d (.row 1)),.agg [qc ⟨#[]⟩,qc s.ep,.row 44]]):=by
 have hi:i<ps.length:=(qbl.1 hs).1;have hs2:(ps.set i {s with a:=ksK s.a})[i]?=some {s with a:=ksK s.a}:=qat;have hS:=zi3 d _ i _ hs2 (snM s.a b) zs e hW (by simpa using hp);have hst:setR (ps.flatMap ST.pv) (i*41+2+0) (ksK s.a).pv=(ps.set i {s with a:=ksK s.a}).flatMap ST.pv:=zgT (f:=ST.pv) (k:=41) (fun _=>rfl) hs (q:=2) (show 2+11≤41 by decide) rfl;have hky:((ps.flatMap ST.pv).drop (i*41+2+0)).take 11=s.a.pv:=zfR (f:=ST.pv) (k:=41) (fun _=>rfl) hs (q:=2) (n:=11) qS
 have hsl:(ps.flatMap ST.pv).length=ps.length*41:=zaO (f:=ST.pv) (k:=41) (fun _=>rfl) ps;refine zeB [3,6,7,8,9] (wrs:=[(1,moS (ps.set i {s with a:=ksK s.a})),(3,qj 32 (moD d (.row 1))),(6,qj 32 (moD d (.row 1))),(7,qj 75 [qc ⟨#[]⟩,qc s.ep,.row 44]),(8,qj 59 s.a.cells),(9,qj 59 (ksK s.a).cells),(44,qk 5 1 zs.length (bs zs))]) ?_ rfl rfl rfl rfl;dsimp only at hS;unfold moS at⊢;rw[qbP]at hS⊢;generalize (ps.set i {s with a:=ksK s.a}).flatMap ST.pv=S' at*
 generalize ps.flatMap ST.pv=S at*;generalize ps.length=K at*;refine fnIO fun w0 A heap=>?_
 refine G [2] ?_;refine jf0 (zhk (X:=.agg (moD d (.row 1))) 3 rfl) ?_;refine G [11] ?_;refine jev ?_;refine jf0 (zaT 8 zr59 rfl) ?_;refine je4 ?_;refine G [3] ?_;refine jek ?_;refine G [3] ?_;refine cK hK ?_;refine G [5] ?_;refine jf0 (zaf (Y:=.agg (ksK s.a).cells) sz59 rfl rfl (qbn rfl)) ?_;refine G [8] ?_;refine jeG ?_;refine G [3] ?_;refine zab (zbx (Y:=.agg (ksK s.a).cells) (ys:=(ksK s.a).pv) sz59 rfl rfl rfl qp hst) rfl rfl ⟨rfl,trivial⟩ ?_
 refine G [3] ?_;refine jdD ?_;refine jdD ?_;refine G [7] ?_;refine cV hS ?_;refine jfP ?_;exact ja9
theorem bounded_s(d:DM):Fn prog 30 [.agg (moD d (.p (stsV d.ps)))] (qf (decide (d.last<4294967236))) []:=by
 refine fnI fun w0 A=>?_
 refine G [2] ?_;refine jf0 (zhk (X:=.agg (moD d (.p (stsV d.ps)))) 1 rfl) ?_;refine G [10,9,0] ?_;exact yE
theorem zeo(e:Int):Fn prog 19 [qd e] (.tup [.agg zdmC,qm,qd e]) []:=by
 refine fnI fun w0 A=>?_
 refine G [15,9,0] ?_;exact yE
def arA(A:List PV)(s:ST)(q:Nat)(B:List PV):List AV:=A.map AV.p++(stA s.key s.ep s.a s.b s.c s.h (.row q)++B.map AV.p)
theorem arA_app(A:List PV)(s:ST)(q:Nat)(B C:List PV):arA A s q B++C.map AV.p=arA A s q (B++C):=by
 unfold arA;rw[qby,qby,qbY]
theorem zh0{K:List Nat}:∀(l r:List AV),AV.okInL K (l++r)=(AV.okInL K l&&AV.okInL K r)
 | [],r=>rfl
 |x::l,r=>by simp only[qbW,AV.okInL,zh0 l r,Bool.and_assoc]
theorem zjy{ρ:Nat→Nat}:∀(l r:List AV),AV.renL ρ (l++r)=AV.renL ρ l++AV.renL ρ r
 | [],r=>rfl
 |x::l,r=>by simp only[qbW,AV.renL,zjy l r]
theorem fzL_app{f:Fz}:∀(l r:List AV),fzL f (l++r)=fzL f l++fzL f r
 | [],r=>rfl
 |x::l,r=>by simp only[qbW,fzL,fzL_app l r]
theorem renL_p{ρ:Nat→Nat}:∀l:List PV,AV.renL ρ (l.map AV.p)=l.map AV.p
 | []=>rfl
 |x::l=>by simp only[qbu,AV.renL,AV.ren,renL_p l]
theorem fzL_p{f:Fz}:∀l:List PV,fzL f (l.map AV.p)=l.map AV.p
 | []=>rfl
 |x::l=>by simp only[qbu,fzL,fzA,fzL_p l]
theorem zeh{K:List Nat}{A:List PV}{s:ST}{q:Nat}{B:List PV}(h:K.elem q=true):AV.okInL K (arA A s q B)=true:=by
 have e:AV.okInL K (stA s.key s.ep s.a s.b s.c s.h (.row q))=K.elem q:=by
  show(true&&(K.elem q&&true))=_;simp
 unfold arA;rw[zh0,zh0,zaA,zaA,e,h];rfl
theorem zcy{ρ:Nat→Nat}{A:List PV}{s:ST}{q:Nat}{B:List PV}:AV.renL ρ (arA A s q B)=arA A s (ρ q) B:=by
 unfold arA;rw[zjy,zjy,renL_p,renL_p];rfl
theorem arA_fz{o:Nat}{x:PV}{A:List PV}{s:ST}{q:Nat}{B:List PV}(h:Nat.beq q o=false):fzL ⟨o,none,some x,none⟩ (arA A s q B)=arA A s q B:=by
 have e:fzL ⟨o,none,some x,none⟩ (stA s.key s.ep s.a s.b s.c s.h (.row q))=stA s.key s.ep s.a s.b s.c s.h (bif Nat.beq q o then .p x else .row q):=rfl;unfold arA;rw[fzL_app,fzL_app,fzL_p,fzL_p,e,h];rfl
theorem st_drop(l:List ST)(i i0:Nat)(s:ST)(h:l[i]?=some s)(hlt:i0<i):((l.take i).drop (i0+1)).flatMap ST.pv++s.pv=((l.take (i+1)).drop (i0+1)).flatMap ST.pv:=by
 obtain⟨h1,h2⟩:=qbl.1 h;rw[qbs h1,h2,List.drop_append_of_le_length (by rw[List.length_take];omega),qbV];simp
theorem st_drop0(l:List ST)(i0:Nat):((l.take (i0+1)).drop (i0+1)).flatMap ST.pv=[]:=by
 rw[List.drop_eq_nil_of_le (by rw[List.length_take];omega)];rfl
theorem tcopyA_s(l:List ST)(ok:∀s∈l,s.OK)(hn:l.length≤1048576)(i0:Nat)(s0:ST)(hs0:l[i0]?=some s0):Fn prog 58 [ql l.length 41 (l.flatMap ST.pv)] (.row 0) [(0,.rowA 66 41 l.length none (arA ((l.take i0).flatMap ST.pv) s0 1 ((l.drop (i0+1)).flatMap ST.pv))),(1,.row 36 3 s0.q.length (s0.q.flatMap PQ.pv))]:=by
 have hi0:i0<l.length:=(qbl.1 hs0).1;refine fnI fun w0 A=>?_
 refine G [8] ?_;refine zab (zdD 11 U26 eo66 qp qp qy) rfl rfl ⟨rfl,trivial⟩ ?_;refine G [10] ?_
 refine zag (fun m st=>∃i:Nat,m+i=l.length∧((i≤i0∧st=St.of [(3,.row 100),(12,ql l.length 41 (l.flatMap ST.pv)),(13,qd l.length),(14,qd i)] [(100,.row 66 41 i ((l.take i).flatMap ST.pv))])∨
  (i0<i∧st=St.of [(3,.row 100),(12,ql l.length 41 (l.flatMap ST.pv)),(13,qd l.length),(14,qd i)] [(100,.rowA 66 41 i none (arA ((l.take i0).flatMap ST.pv) s0 102 (((l.take i).drop (i0+1)).flatMap ST.pv))),(102,.row 36 3 s0.q.length (s0.q.flatMap PQ.pv))]))) l.length ?_ ?_
 ·refine⟨_,zai (fun _=>11) _ _ ?_ ?_ rfl,0,qp,.inl ⟨qp,rfl⟩⟩
  ·exact jap
  ·exact jbn
 rintro m st ⟨i,hi,hph⟩
 by_cases hlt:i<l.length
 rotate_left
 ·exact ja3
 obtain⟨s,hs⟩:=qo hlt;have hch:=zav (f:=ST.pv) (k:=41) (fun _=>rfl) hs;have hle:=zaw (f:=ST.pv) (k:=41) (fun _=>rfl) hlt;obtain⟨_,_,_,_,hq,hqx⟩:=ok s (qbo hs);have hpush:=zjo l i s hs;have hil:((l.take i).flatMap ST.pv).length=i*41:=qac;rcases hph with⟨hle0,rfl⟩|⟨hgt,rfl⟩
 ·by_cases hne:i<i0
  ·generalize hL:l.flatMap ST.pv=L at*;generalize (l.take i).flatMap ST.pv=T at*;obtain⟨key,ep,a,b,c,hh,q⟩:=s;dsimp only at hq hqx;refine jfC ?_;refine zag (fun m' st=>∃j:Nat,m'+j=q.length∧st=St.of [(3,.row 100),(5,.ref 5 0),(6,.row 101),(12,ql l.length 41 L),(13,qd l.length),(14,qd i),(23,ql q.length 3 (q.flatMap PQ.pv)),(24,qd q.length),(25,qd j)] [(5,.box 66 (stC key ep a b c hh q.length (q.flatMap PQ.pv))),(100,.row 66 41 i T),(101,.row 36 3 j ((q.take j).flatMap PQ.pv))]) q.length ?_ ?_
   ·exact jaX
   rintro m' st ⟨j,hj,rfl⟩
   by_cases hlj:j<q.length
   ·exact jbp
   have hge:j=q.length:=qp;subst hge;rw[qbL];refine G [2,3,5] ?_
   skip
   refine G [5] ?_;refine zcH (zbY (cs:=q.flatMap PQ.pv) 101 rfl) ?_
   skip
   refine jfq ?_;refine⟨m-1,qp,_,zai (fun o=>43) _ _ ?_ ?_ rfl,i+1,qp,.inl ⟨qp,rfl⟩⟩
   ·exact jap
   ·exact⟨⟨by rw[←hpush];rfl,rfl⟩,trivial⟩
  have hie:i=i0:=qp;subst hie;rw[hs]at hs0;cases hs0;have hd0:=st_drop0 l i;generalize hL:l.flatMap ST.pv=L at*;generalize (l.take i).flatMap ST.pv=T at*;obtain⟨key,ep,a,b,c,hh,q⟩:=s0;dsimp only at hq hqx;refine jfC ?_;refine zag (fun m' st=>∃j:Nat,m'+j=q.length∧st=St.of [(3,.row 100),(5,.ref 5 0),(6,.row 101),(12,ql l.length 41 L),(13,qd l.length),(14,qd i),(23,ql q.length 3 (q.flatMap PQ.pv)),(24,qd q.length),(25,qd j)] [(5,.box 66 (stC key ep a b c hh q.length (q.flatMap PQ.pv))),(100,.row 66 41 i T),(101,.row 36 3 j ((q.take j).flatMap PQ.pv))]) q.length ?_ ?_
  ·exact jaX
  rintro m' st ⟨j,hj,rfl⟩
  by_cases hlj:j<q.length
  ·exact jbp
  have hge:j=q.length:=qp;subst hge;rw[qbL];refine G [2,3,5] ?_
  skip
  refine G [3] ?_;refine jf0 (zbt (Y:=.row 101) (es:=stA key ep a b c hh (.row 101)) sz64 rfl rfl (qbk rfl) rfl) ?_;refine zac (zcH (reo_openR 100 rfl) ?_)
  skip
  refine G [2] ?_;refine jeB ?_;refine zab (xs:=[.agg (stA key ep a b c hh (.row 101))]) (zdm 42 (es:=stA key ep a b c hh (.row 101)) U26 sz66 zc66 (qbk rfl) (qbk rfl) rfl rfl (qbk rfl)) rfl rfl ⟨rfl,trivial⟩ ?_;refine zab (zgy (k:=i+1) (zs:=T.map AV.p++stA key ep a b c hh (.row 101)) 43 U26 eo66 rfl rfl qy qp rfl rfl) rfl rfl ⟨rfl,rfl,rfl,trivial⟩ ?_;refine jdw ?_;refine⟨m-1,qp,_,zai (fun o=>bif Nat.beq o 102 then 101 else 43) _ _ ?_ ?_ rfl,i+1,qp,.inr ⟨qp,rfl⟩⟩
  ·exact jap
  ·exact jbD
 have hdp:=st_drop l i i0 s hs hgt;generalize hL:l.flatMap ST.pv=L at*;generalize ((l.take i).drop (i0+1)).flatMap ST.pv=B at*;generalize (l.take i0).flatMap ST.pv=A at*;generalize s0.q.length=qn at*;generalize s0.q.flatMap PQ.pv=Q0 at*;obtain⟨key,ep,a,b,c,hh,q⟩:=s;dsimp only at hq hqx;refine jfC ?_;refine zag (fun m' st=>∃j:Nat,m'+j=q.length∧st=St.of [(3,.row 100),(5,.ref 5 0),(6,.row 101),(12,ql l.length 41 L),(13,qd l.length),(14,qd i),(23,ql q.length 3 (q.flatMap PQ.pv)),(24,qd q.length),(25,qd j)] [(5,.box 66 (stC key ep a b c hh q.length (q.flatMap PQ.pv))),(100,.rowA 66 41 i none (arA A s0 102 B)),(102,.row 36 3 qn Q0),(101,.row 36 3 j ((q.take j).flatMap PQ.pv))]) q.length ?_ ?_
 ·refine⟨_,zai (fun o=>bif Nat.beq o 101 then 21 else o) _ _ ?_ ?_ rfl,0,qp,rfl⟩
  ·exact jap
  ·exact ja7
 rintro m' st ⟨j,hj,rfl⟩
 by_cases hlj:j<q.length
 ·obtain⟨p,hp⟩:=qo hlj;have hch2:=zav (f:=PQ.pv) (k:=3) (fun _=>rfl) hp;have hle2:=zaw (f:=PQ.pv) (k:=3) (fun _=>rfl) hlj;have hC:=zgu p.xs.length p.xs rfl qaA;have hpp:=zeQ q j p hp;have hjl:((q.take j).flatMap PQ.pv).length=j*3:=qR;generalize hQ:q.flatMap PQ.pv=Q at*;generalize (q.take j).flatMap PQ.pv=V at*;obtain⟨pa,pb,xs⟩:=p;dsimp only at hC hpp;refine G [2,4,9] ?_;refine je0 ?_;refine jf0 (zaT 8 zr36 rfl) ?_
  refine jdX ?_;refine G [5] ?_;refine zbN (fun _=>31) (hC) rfl rfl func15 rfl rfl qD rfl rfl rfl qr rfl rfl rfl ?_;refine G [3] ?_;refine zcH (zbY (cs:=bs xs) 31 rfl) ?_
  skip
  refine G [3] ?_;refine jf0 (zae 35 U64 sz36 zc36 (qbk rfl) (qbk rfl) rfl rfl rfl rfl (qbk rfl)) ?_;refine zab (zam 36 U64 eo36 (zas) qy qp rfl rfl) rfl rfl ⟨rfl,rfl,rfl,trivial⟩ ?_;refine jdw ?_;refine⟨m'-1,qp,_,zai (fun o=>bif Nat.beq o 101 then 36 else o) _ _ ?_ ?_ rfl,j+1,qp,rfl⟩
  ·exact jap
  ·exact⟨⟨rfl,rfl⟩,⟨by show Slot.live (.rowA _ 41 i none (fzL _ (arA A s0 102 B)))=Slot.live (.rowA _ 41 i none (AV.renL _ (arA A s0 102 B)));rw[arA_fz rfl,zcy];rfl,zeh rfl⟩,⟨rfl,rfl⟩,⟨by rw[←hpp];rfl,rfl⟩,trivial⟩
 have hge:j=q.length:=qp;subst hge;rw[qbL];refine G [2,3,5] ?_
 skip
 refine G [5] ?_;refine zcH (zbY (cs:=q.flatMap PQ.pv) 101 rfl) ?_
 skip
 refine G [2] ?_;refine jdu ?_;refine zab (xs:=[.agg (stC key ep a b c hh q.length (q.flatMap PQ.pv))]) (zdm 42 (es:=stC key ep a b c hh q.length (q.flatMap PQ.pv)) U26 sz66 zc66 (qbk rfl) (qbk rfl) rfl rfl (qbk rfl)) rfl rfl ⟨rfl,trivial⟩ ?_;refine zab (zgy (k:=i+1) (zs:=arA A s0 102 B++stC key ep a b c hh q.length (q.flatMap PQ.pv)) 43 U26 eo66 rfl rfl qy qp rfl rfl) rfl rfl ⟨qar,rfl,rfl,trivial⟩ ?_
 refine jdw ?_;refine⟨m-1,qp,_,zai (fun o=>bif Nat.beq o 100 then 43 else o) _ _ ?_ ?_ rfl,i+1,qp,.inr ⟨qp,rfl⟩⟩
 ·exact jap
 ·exact jbB
end Go.Proofs.YtdiljgkijgiboaaGreatDoor
namespace Go.Proofs.YtdiljgkijgiboaaGreatDoor
open Go.RowKit Go.Sort
theorem rcopyA_s(l:List ST)(ok:∀s∈l,s.OK)(hn:l.length≤1048576)(i0:Nat)(s0:ST)(hs0:l[i0]?=some s0):Fn Tryz.prog 75 [ql l.length 41 (l.flatMap ST.pv)] (.row 0) [(0,.rowA 66 41 l.length none (arA ((l.take i0).flatMap ST.pv) s0 1 ((l.drop (i0+1)).flatMap ST.pv))),(1,.row 36 3 s0.q.length (s0.q.flatMap PQ.pv))]:=by
 have hi0:i0<l.length:=(qbl.1 hs0).1;refine fnI fun w0 A=>?_
 refine G [16] ?_;refine za3 (zca 3 100 66 41 rfl rfl) ?_
 refine zag (fun m st=>∃i:Nat,m+i=l.length∧((i≤i0∧st=St.of [(3,.row 100),(9,ql l.length 41 (l.flatMap ST.pv)),(10,qd l.length),(11,qd i)] [(100,.row 66 41 i ((l.take i).flatMap ST.pv))])∨
  (i0<i∧st=St.of [(3,.row 100),(9,ql l.length 41 (l.flatMap ST.pv)),(10,qd l.length),(11,qd i)] [(100,.rowA 66 41 i none (arA ((l.take i0).flatMap ST.pv) s0 102 (((l.take i).drop (i0+1)).flatMap ST.pv))),(102,.row 36 3 s0.q.length (s0.q.flatMap PQ.pv))]))) l.length ?_ ?_
 ·refine⟨_,zai id _ _ ?_ ?_ rfl,0,qp,.inl ⟨qp,rfl⟩⟩
  ·exact jap
  ·exact jbn
 rintro m st ⟨i,hi,hph⟩
 by_cases hlt:i<l.length
 rotate_left
 ·exact ja3
 obtain⟨s,hs⟩:=qo hlt;have hch:=zav (f:=ST.pv) (k:=41) (fun _=>rfl) hs;have hle:=zaw (f:=ST.pv) (k:=41) (fun _=>rfl) hlt;obtain⟨_,_,_,_,hq,hqx⟩:=ok s (qbo hs);have hpush:=zjo l i s hs;have hil:((l.take i).flatMap ST.pv).length=i*41:=qac;rcases hph with⟨hle0,rfl⟩|⟨hgt,rfl⟩
 ·by_cases hne:i<i0
  ·generalize hL:l.flatMap ST.pv=L at*;generalize (l.take i).flatMap ST.pv=T at*;obtain⟨key,ep,a,b,c,hh,q⟩:=s;dsimp only at hq hqx;refine G [2,4,9] ?_;refine jd1 ?_;refine je3 ?_;refine jfi ?_;refine zag (fun m' st=>∃j:Nat,m'+j=q.length∧st=St.of [(3,.row 100),(6,.ref 6 0),(9,ql l.length 41 L),(10,qd l.length),(11,qd i),(18,ql q.length 3 (q.flatMap PQ.pv)),(19,qd q.length),(20,qd j)] [(6,.box 66 (stA key ep a b c hh (.row 101))),(100,.row 66 41 i T),(101,.row 36 3 j ((q.take j).flatMap PQ.pv))]) q.length ?_ ?_
   ·exact jaO
   rintro m' st ⟨j,hj,rfl⟩
   by_cases hlj:j<q.length
   ·exact jbq
   have hge:j=q.length:=qp;subst hge;rw[qbL];refine G [2,3,4,9,0] ?_;refine za1 (zbY (cs:=q.flatMap PQ.pv) 101 rfl) ?_
   skip
   refine G [2] ?_;refine jdu ?_;refine jdS ?_;refine zab (zam 41 U26 eo66 (zas) qy qp (show _=i+1 by omega) hpush) rfl rfl ⟨rfl,rfl,rfl,trivial⟩ ?_;refine jdw ?_;refine⟨m-1,qp,_,zai (fun o=>41) _ _ ?_ ?_ rfl,i+1,qp,.inl ⟨qp,rfl⟩⟩
   ·exact jap
   ·exact jbn
  have hie:i=i0:=qp;subst hie;rw[hs]at hs0;cases hs0;have hd0:=st_drop0 l i;generalize hL:l.flatMap ST.pv=L at*;generalize (l.take i).flatMap ST.pv=T at*;obtain⟨key,ep,a,b,c,hh,q⟩:=s0;dsimp only at hq hqx;refine G [2,4,9] ?_;refine jd1 ?_;refine je3 ?_;refine jfi ?_;refine zag (fun m' st=>∃j:Nat,m'+j=q.length∧st=St.of [(3,.row 100),(6,.ref 6 0),(9,ql l.length 41 L),(10,qd l.length),(11,qd i),(18,ql q.length 3 (q.flatMap PQ.pv)),(19,qd q.length),(20,qd j)] [(6,.box 66 (stA key ep a b c hh (.row 101))),(100,.row 66 41 i T),(101,.row 36 3 j ((q.take j).flatMap PQ.pv))]) q.length ?_ ?_
  ·exact jaO
  rintro m' st ⟨j,hj,rfl⟩
  by_cases hlj:j<q.length
  ·exact jbq
  have hge:j=q.length:=qp;subst hge;rw[qbL];refine G [2,3,4,9,0] ?_;refine za1 (reo_openR 100 rfl) ?_
  skip
  refine G [2] ?_;refine jeB ?_;refine zab (xs:=[.agg (stA key ep a b c hh (.row 101))]) (zdm 40 (es:=stA key ep a b c hh (.row 101)) U26 sz66 zc66 (qbk rfl) (qbk rfl) rfl rfl (qbk rfl)) rfl rfl ⟨rfl,trivial⟩ ?_;refine zab (zgy (k:=i+1) (zs:=T.map AV.p++stA key ep a b c hh (.row 101)) 41 U26 eo66 rfl rfl qy qp rfl rfl) rfl rfl ⟨rfl,rfl,rfl,trivial⟩ ?_;refine jdw ?_;refine⟨m-1,qp,_,zai (fun o=>bif Nat.beq o 102 then 101 else 41) _ _ ?_ ?_ rfl,i+1,qp,.inr ⟨qp,rfl⟩⟩
  ·exact jap
  ·exact jbD
 have hdp:=st_drop l i i0 s hs hgt;generalize hL:l.flatMap ST.pv=L at*;generalize ((l.take i).drop (i0+1)).flatMap ST.pv=B at*;generalize (l.take i0).flatMap ST.pv=A at*;generalize s0.q.length=qn at*;generalize s0.q.flatMap PQ.pv=Q0 at*;obtain⟨key,ep,a,b,c,hh,q⟩:=s;dsimp only at hq hqx;refine G [2,4,9] ?_;refine jd1 ?_;refine je3 ?_;refine jfi ?_;refine zag (fun m' st=>∃j:Nat,m'+j=q.length∧st=St.of [(3,.row 100),(6,.ref 6 0),(9,ql l.length 41 L),(10,qd l.length),(11,qd i),(18,ql q.length 3 (q.flatMap PQ.pv)),(19,qd q.length),(20,qd j)] [(6,.box 66 (stA key ep a b c hh (.row 101))),(100,.rowA 66 41 i none (arA A s0 102 B)),(102,.row 36 3 qn Q0),(101,.row 36 3 j ((q.take j).flatMap PQ.pv))]) q.length ?_ ?_
 ·refine jdL ?_ ?_
  ·exact jap
  ·exact ja7
 rintro m' st ⟨j,hj,rfl⟩
 by_cases hlj:j<q.length
 ·obtain⟨p,hp⟩:=qo hlj;have hch2:=zav (f:=PQ.pv) (k:=3) (fun _=>rfl) hp;have hle2:=zaw (f:=PQ.pv) (k:=3) (fun _=>rfl) hlj;have hxl:=hqx p (qbo hp);have hpp:=zeQ q j p hp;have hjl:((q.take j).flatMap PQ.pv).length=j*3:=qR;generalize hQ:q.flatMap PQ.pv=Q at*;generalize (q.take j).flatMap PQ.pv=V at*;obtain⟨pa,pb,xs⟩:=p;dsimp only at hpp hxl;refine G [2,4,9] ?_;refine je0 ?_;refine jf0 (zaT 8 zr36 rfl) ?_
  refine jdX ?_;refine G [10] ?_;refine zab (zdS (zaP 32 U34 eo5 (zbc) qy qp)) rfl rfl ⟨rfl,trivial⟩ ?_;refine jfZ (zbO pl36 zr36 rfl rfl) ?_;refine jdG ?_;refine zab (zam 35 U64 eo36 (zas) qy qp (show _=j+1 by omega) hpp) rfl rfl ⟨rfl,rfl,rfl,trivial⟩ ?_;refine fA zig rfl rfl ?_;refine jf0 (zbt (es:=stA key ep a b c hh (.row 35)) sz64 rfl rfl (qbk rfl) rfl) ?_;refine jdC ?_;refine⟨m'-1,qp,_,zai (fun o=>bif Nat.beq o 101 then 35 else o) _ _ ?_ ?_ rfl,j+1,qp,rfl⟩
  ·exact jap
  ·exact ja7
 have hge:j=q.length:=qp;subst hge;rw[qbL];refine G [2,3,4,9,0] ?_;refine za1 (zbY (cs:=q.flatMap PQ.pv) 101 rfl) ?_
 skip
 refine G [2] ?_;refine jdu ?_;refine zab (xs:=[.agg (stC key ep a b c hh q.length (q.flatMap PQ.pv))]) (zdm 40 (es:=stC key ep a b c hh q.length (q.flatMap PQ.pv)) U26 sz66 zc66 (qbk rfl) (qbk rfl) rfl rfl (qbk rfl)) rfl rfl ⟨rfl,trivial⟩ ?_;refine zab (zgy (k:=i+1) (zs:=arA A s0 102 B++stC key ep a b c hh q.length (q.flatMap PQ.pv)) 41 U26 eo66 rfl rfl qy qp rfl rfl) rfl rfl ⟨qar,rfl,rfl,trivial⟩ ?_
 refine jdw ?_;refine⟨m-1,qp,_,zai (fun o=>bif Nat.beq o 100 then 41 else o) _ _ ?_ ?_ rfl,i+1,qp,.inr ⟨qp,rfl⟩⟩
 ·exact jap
 ·exact jbB
end Go.Proofs.YtdiljgkijgiboaaGreatDoor
namespace Go.Proofs.YtdiljgkijgiboaaGreatDoor
open Tryz
open Go.RowKit Go.Sort
def arS(l:List ST)(i:Nat)(s:ST)(q:Nat):List AV:=arA ((l.take i).flatMap ST.pv) s q ((l.drop (i+1)).flatMap ST.pv)
theorem dmCopyA_s(d:DM)(ok:d.OK)(i:Nat)(s:ST)(hs:d.ps[i]?=some s):Fn prog 12 [.agg d.cells] (.agg (moD d (.row 0))) [(0,.rowA 66 41 d.ps.length none (arS d.ps i s 1)),(1,.row 36 3 s.q.length (s.q.flatMap PQ.pv))]:=by
 have hC:Fn prog 56 [.agg d.c.cells] (.agg d.c.cells) []:=zfq (zj6 d.c ok.c) rfl rfl;have hT:Fn prog 57 [ql d.tree.length 4 (nds d.tree)] (ql d.tree.length 4 (nds d.tree)) []:=zfq (zj5 d.tree.length (nds d.tree) (zc8 _) qbc) rfl rfl;have hS:=tcopyA_s d.ps (fun s hs=>(ok.ps s hs).1) ok.psN i s hs;have hG:Fn prog 59 [.agg d.sg.cells] (.agg d.sg.cells) []:=zfq (sgCopy_s d.sg ok.sg) rfl rfl;unfold arS;generalize (d.ps.take i).flatMap ST.pv=HA at*
 generalize (d.ps.drop (i+1)).flatMap ST.pv=TB at*;refine fnI fun w0 A=>?_
 refine G [8] ?_;refine jdq ?_;refine cK hC ?_;refine G [2] ?_;refine cK hT ?_;refine G [2] ?_;refine jff ?_;refine G [3] ?_;refine jeF ?_;exact ja6
theorem rdmCopyA_s(d:DM)(ok:d.OK)(i:Nat)(s:ST)(hs:d.ps[i]?=some s):Fn prog 24 [.agg d.cells] (.agg (moD d (.row 0))) [(0,.rowA 66 41 d.ps.length none (arS d.ps i s 1)),(1,.row 36 3 s.q.length (s.q.flatMap PQ.pv))]:=by
 have hC:Fn prog 74 [.agg d.c.cells] (.agg d.c.cells) []:=zfq (zgH d.c ok.c) rfl rfl;have hS:=rcopyA_s d.ps (fun s hs=>(ok.ps s hs).1) ok.psN i s hs;have hG:=ziP d.sg ok.sg;have ht:=ok.treeN;unfold arS;generalize (d.ps.take i).flatMap ST.pv=HA at*;generalize (d.ps.drop (i+1)).flatMap ST.pv=TB at*;refine fnI fun w0 A=>?_
 refine jfu ?_;exact ja6
end Go.Proofs.YtdiljgkijgiboaaGreatDoor
namespace Go.Proofs.YtdiljgkijgiboaaGreatDoor
open Go.RowKit Go.Sort
theorem a_loadNRA{P:Program}{d:Option Tmp}{ty:TypeId}{pos:String}{af:Array Edge}{g:Option (Nat×Bool)}{x:Operand}{t e:TypeId}{ds:TypeDesc}{o off k size n:Nat}{c:Option Nat}{cs es:List AV}(hu:P.underlying t=some ds)(hd:ds.isRow=true)(hi:(P.info? t).map (·.size)=some k)
 (hk:off+k≤cs.length) (h:(cs.drop off).take k=es) (hc:es.all AV.cellOK=true):
 AOp P ⟨d,.load t x,ty,pos,af,g⟩ [.ref o off] [(o,.live (.rowA e size n c cs))] [] (.agg es):=
 zbQ fun w0 A S m heap w ev hm hR hrd=>by
  have ho:heap o=.live (.rowA e size n c cs):=rd1 hrd;have hx:=zco (u:=ev x) hR;simp only[Rep]at hx;obtain⟨b,v0,h1,h2,h3⟩:=hx;obtain⟨v,k1,k2,_⟩:=hm.live o _ ho;rw[h1]at k1;cases k1;obtain⟨us,j1,j3,_⟩:=k2;have hl:=j1.length;have hr:=zcs j3 h2;have hrun:=run_loadAt_mid (P:=P) w b off t ((us.drop off).take k) ds (zjA hr) hu hd qan;have he:RepL S m w es ((us.drop off).take k):=h▸(j1.drop off).take _;refine⟨.agg ((us.drop off).take k).toArray,by simp[execOp,h3,hrun],?_⟩
  simp only[Rep];exact⟨_,rfl,he,zjc hc he⟩
section
variable {l:List ST}{i:Nat}{s:ST}{q:Nat}
def stQ(s:ST)(q:Nat):List AV:=stA s.key s.ep s.a s.b s.c s.h (.row q)
theorem zjf(l:List ST)(i:Nat)(s:ST)(q:Nat):arS l i s q=((l.take i).flatMap ST.pv).map AV.p++(stQ s q++((l.drop (i+1)).flatMap ST.pv).map AV.p):=rfl
theorem arS_hd(h:l[i]?=some s):(((l.take i).flatMap ST.pv).map AV.p).length=i*41:=by
 have:=(qbl.1 h).1;rw[List.length_map,zaO (k:=41) (fun _=>rfl),List.length_take,Nat.min_eq_left (by omega)]
theorem zkc(h:l[i]?=some s):(arS l i s q).length=l.length*41:=by
 have h1:=(qbl.1 h).1;rw[zjf,qbm,qbm,arS_hd h,List.length_map,zaO (k:=41) (fun _=>rfl),qbH];show i*41+(41+_)=_;omega
theorem arS_at(h:l[i]?=some s){m:Nat}(hm:m<41):(arS l i s q)[i*41+m]?=(stQ s q)[m]?:=by
 rw[zjf,qbZ (by rw[arS_hd h];omega),arS_hd h,qcf (by show _<41;omega)]
 congr 1
 omega
theorem arS_dr(h:l[i]?=some s){m n:Nat}(hm:m+n≤41):((arS l i s q).drop (i*41+m)).take n=((stQ s q).drop m).take n:=by
 have hl:(stQ s q).length=41:=rfl;have hh:=arS_hd h;rw[zjf];generalize ((l.take i).flatMap ST.pv).map AV.p=X at*;rw[←qcE,←hh,List.drop_left,List.drop_append_of_le_length (by omega),List.take_append_of_le_length (by rw[qbH];omega)]
theorem arS_set(h:l[i]?=some s)(q':Nat):setR (arS l i s q) (i*41+40) [.row q']=arS l i s q':=by
 have hh:=arS_hd h;rw[zjf,zjf];generalize ((l.take i).flatMap ST.pv).map AV.p=X at*;generalize ((l.drop (i+1)).flatMap ST.pv).map AV.p=Y at*;have e:stQ s q=(stQ s q).take 40++[.row q]:=rfl;have e':stQ s q'=(stQ s q).take 40++[.row q']:=rfl;have hl:((stQ s q).take 40).length=40:=rfl;generalize (stQ s q).take 40=Z at*;rw[e',e];unfold setR;rw[show X++(Z++[AV.row q]++Y)=(X++Z)++([AV.row q]++Y)by simp,show i*41+40=(X++Z).length by rw[qbm,hh,hl],List.take_left,show(X++Z).length+[AV.row q'].length=(X++Z).length+1 from rfl,←qcE,List.drop_left]
 simp
theorem zj7{fam:List (Nat×Slot)}:∀ps:List PV,CellV fam (ps.map AV.p) ps
 | []=>.nil
 |x::ps=>.p x _ _ (zj7 ps)
theorem cellV_pq{fam:List (Nat×Slot)}{ps:List PV}{o e size n:Nat}{qs:List PV}(h:(o,Slot.live (.row e size n qs))∈fam):CellV fam (ps.map AV.p++[.row o]) (ps++[.sl n size qs]):=(zj7 ps).append (.row o e size n qs _ _ h .nil)
theorem arS_cv{fam:List (Nat×Slot)}{e:Nat}{q':List PQ}(h:l[i]?=some s)(hf:(q,Slot.live (.row e 3 q'.length (q'.flatMap PQ.pv)))∈fam):CellV fam (arS l i s q) ((l.set i {s with q:=q'}).flatMap ST.pv):=by
 obtain⟨hi,hx⟩:=qbl.1 h;rw[List.set_eq_take_append_cons_drop,if_pos hi,qbV,qb7,zjf];refine(zj7 _).append (CellV.append ?_ (zj7 _));have:=cellV_pq (ps:=(ST.pv s).take 40) hf;exact this
end
theorem arS_ok{K:List Nat}{l:List ST}{i:Nat}{s:ST}{q:Nat}(h:K.elem q=true):AV.okInL K (arS l i s q)=true:=zeh h
theorem ze7{ρ:Nat→Nat}{l:List ST}{i:Nat}{s:ST}{q:Nat}:AV.renL ρ (arS l i s q)=arS l i s (ρ q):=zcy
theorem ReO.re{a b:St}(h:ReO a b):Re a b:=fun w0 A nt x w hs=>h w0 (ctx0 A) nt x w hs
end Go.Proofs.YtdiljgkijgiboaaGreatDoor
namespace Go.Proofs.YtdiljgkijgiboaaGreatDoor
open Tryz
open Go.RowKit Go.Sort
theorem zcP{a b c:KY}:a.vals++b.vals++c.vals=KY0.vals++KY0.vals++KY0.vals↔(a=KY0∧b=KY0∧c=KY0):=by
 constructor
 ·intro h3;obtain⟨h6,h7⟩:=List.append_inj h3 rfl;obtain⟨h8,h9⟩:=List.append_inj h6 rfl;exact⟨KY.eqL_iff.1 (zaY.2 h8),KY.eqL_iff.1 (zaY.2 h9),KY.eqL_iff.1 (zaY.2 h7)⟩
 ·rintro⟨rfl,rfl,rfl⟩;rfl
def er3(a b c:Int)(i:Nat):Int:=if i=0 then a else if i=1 then b else c
theorem er3_at(a b c:Int)(i:Nat)(h:i<3):([qd a,qd b,qd c]:List AV)[i*1]?=some (qd (er3 a b c i)):=by
 exact jcE
theorem dmCheck_s(d:DM)(ok:d.OK):Fn prog 8 [.agg d.cells] (qd (dmE d)) []:=by
 have hC:=zim d.c ok.c;have hS:=tabCheck_s d.ps (fun s hs=>(ok.ps s hs).1) ok.psN;have hG:=sgCheck_s d.sg ok.sg;have hM:=tmost_s d.ps ok.psN;have hT:=fun h0=>ctree_s d.c ok.c h0
 have hK:=keys_d d.ps d.c.ps ok.psN ok.c.len;have hQ:=fun h:(tOf (zaH d.c.ps d.c.ps.length)).list.length≤4611686018427387904=>eqNodes_d (tOf (zaH d.c.ps d.c.ps.length)).list d.tree h qbc
 have hfew:cfE d.c=0→(tOf (zaH d.c.ps d.c.ps.length)).list.length≤4611686018427387904:=fun h0=>by
  exact jcr
 have hn:=ok.psN;have hvT:=fun h:Unit=>zdX (tOf (zaH d.c.ps d.c.ps.length)).list
 obtain⟨E,hE⟩:∃E,dmE d=E:=⟨_,rfl⟩;rw[hE];unfold dmE zfv goodD at hE;generalize cfE d.c=e0 at*;generalize stsE d.ps=e1' at*;generalize sgE d.sg=e2 at*;generalize mostD d.ps=mo at*;clear ok;obtain⟨⟨k1,p1,q1⟩,t1,s1,⟨v1,r1,⟨sk1,sp1,sq1⟩,a1,e1⟩,g1,w1,l1'⟩:=d;dsimp only at hC hS hG hM hT hK hQ hfew hn hE hvT;generalize (tOf (zaH q1 q1.length)).list=TL at*;change Fn prog _ [.agg [qc k1,qd p1,ql q1.length 5 (q1.flatMap PE.pv)]] _ _ at hC
 change∀h0,Fn prog _ [.agg [qc k1,qd p1,ql q1.length 5 (q1.flatMap PE.pv)]] _ _ at hT;change Fn prog _ [.agg (sgV v1 (sesV r1) sk1 sp1 (CF.row ⟨sk1,sp1,sq1⟩) a1 e1)] _ _ at hG;change∀h,Fn prog _ [ql TL.length 4 (nds TL),.p (ndsV t1)] _ _ at hQ;show Fn prog _ [.agg (dmC k1 p1 (.sl q1.length 5 (q1.flatMap PE.pv)) (ndsV t1) (.sl s1.length 41 (s1.flatMap ST.pv)) v1 (sesV r1) sk1 sp1 (CF.row ⟨sk1,sp1,sq1⟩) a1 e1 g1 w1 l1')] _ _
 generalize CF.row ⟨sk1,sp1,sq1⟩=SQ1 at*;generalize sesV r1=R1 at*;have hv:=hvT ();clear hvT;have hcT:(nds TL).length=TL.length*4:=zc8 TL;have heqB:eqB TL t1=true↔TL=t1:=zgW;generalize hkb:zhi s1 q1=kb at*;generalize hqb:eqB TL t1=qb at*;generalize ndsV t1=T1 at*;generalize q1.flatMap PE.pv=QL at*;generalize q1.length=qn at*;generalize nds TL=TN at*;generalize TL.length=tn at*;refine fnI fun w0 A=>?_
 refine G [10] ?_;refine cK hC ?_;refine G [2] ?_;refine cK hS ?_;refine G [2] ?_;refine cK hG ?_;refine zaa (xs:=[qd e0,qd e1',qd e2]) (zdn (es:=[qd e0,qd e1',qd e2]) underlying91 zr91 rfl sz28 qq) qF rfl ?_;refine G [3] ?_;refine zag (fun m st=>∃i:Nat,m+i=3∧(∀j,j<i→er3 e0 e1' e2 j=0)∧st=St.of [(1,.ref 1 0),(19,.agg [qd e0,qd e1',qd e2]),(20,qd i)] [(1,.box 32 (dmC k1 p1 (.sl qn 5 QL) T1 (.sl s1.length 41 (s1.flatMap ST.pv)) v1 R1 sk1 sp1 SQ1 a1 e1 g1 w1 l1'))]) 3 ?_ ?_
 ·exact jaA
 rintro m st ⟨i,hi,hf,rfl⟩;refine G [5] ?_;refine cX ?_ ?_<;>intro h
 ·have hlt:i<3:=qw;clear h;have hix:=er3_at e0 e1' e2 i hlt
  have hbad:er3 e0 e1' e2 i≠0→E=er3 e0 e1' e2 i:=by
   intro hne
   match i,hlt with
   |0,_=>rw[if_pos (show e0≠0 from hne)]at hE;exact hE.symm
   |1,_=>
    have z0:e0=0:=hf 0 qp;rw[if_neg (by rw[z0];simp),if_pos (show e1'≠0 from hne)]at hE;exact hE.symm
   |2,_=>
    have z0:e0=0:=hf 0 qp;have z1:e1'=0:=hf 1 qp;rw[if_neg (by rw[z0];simp),if_neg (by rw[z1];simp),if_pos (show e2≠0 from hne)]at hE;exact hE.symm
  generalize hee:er3 e0 e1' e2 i=ee at*;refine G [5] ?_;refine zaa (zeJ underlying91 sz28 underlying28 rfl qp qp (show _=some (qd ee)by rw[qbt];exact hix)) rfl rfl ?_;refine jds ?_;refine cX ?_ ?_<;>intro h
  ·have h7:ee≠0:=qB;rw[hbad h7];exact jaB
  have h7:ee=0:=qB;clear h;refine jdC ?_;refine⟨m-1,qp,_,zai id _ _ ?_ ?_ rfl,i+1,qp,fun j hj=>?_,rfl⟩
  ·exact jap
  ·exact jbn
  ·by_cases e:j=i
   ·rw[e,hee];exact h7
   ·exact hf j qp
 have hge:i=3:=qw;clear h;subst hge;have z0:e0=0:=hf 0 qp;have z1:e1'=0:=hf 1 qp;have z2:e2=0:=hf 2 qp;rw[if_neg (by rw[z0];simp),if_neg (by rw[z1];simp),if_neg (by rw[z2];simp)]at hE;have hT:=hT z0;have hQ:=hQ (hfew z0);clear hf hfew hC hS hG z0 z1 z2;refine G [11,2,4,2,4,2,5] ?_;refine mb2 _ rfl rfl (fun _=>zbl func41 rfl rfl (hM) qD rfl) (fun _=>trivial) ?_;refine G [1,2,4,2,1,9,0] ?_;refine cX ?_ ?_<;>intro h
 ·have h1:g1<0∨1099511627776<g1∨w1<0∨1099511627776<w1∨l1'<mo∨4294967235<l1':=by
   simp at h;simp only[or_assoc]at h;exact h
  exact jc0
 have h1:¬(g1<0∨1099511627776<g1∨w1<0∨1099511627776<w1∨l1'<mo∨4294967235<l1'):=by
  simp at h;omega
 clear h;rw[if_neg h1]at hE;refine G [5] ?_;refine cK hT ?_;refine G [13] ?_;refine cK hK ?_;refine G [2] ?_
 by_cases hq:qb=true∧kb=true
 rotate_left
 ·have hng:¬((TL=t1∧kb=true)∧∀s∈s1,okSt k1 w1 s):=fun h=>hq ⟨heqB.2 h.1.1,h.1.2⟩
  rw[if_neg hng]at hE;subst hE;refine G [6] ?_;refine cV hQ ?_;refine G [4,2,1,9,0] ?_;refine cX ?_ ?_<;>intro h
  ·exact jbo
  ·exact absurd qB hq
 obtain⟨hq1,hq2⟩:=hq;subst hq1 hq2;refine G [6] ?_;refine cV hQ ?_;refine jdw ?_;refine cX ?_ ?_<;>intro h
 ·cases h
 refine G [10] ?_;refine zag (fun m st=>∃i:Nat,m+i=s1.length∧(∀j,j<i→∀s,s1[j]?=some s→okSt k1 w1 s)∧st=St.of [(1,.ref 1 0),(80,ql s1.length 41 (s1.flatMap ST.pv)),(81,qd s1.length),(82,qd i)] [(1,.box 32 (dmC k1 p1 (.sl qn 5 QL) T1 (.sl s1.length 41 (s1.flatMap ST.pv)) v1 R1 sk1 sp1 SQ1 a1 e1 g1 w1 l1'))]) s1.length ?_ ?_
 ·exact jaA
 rintro m st ⟨i,hi,hf,rfl⟩;refine G [5] ?_;refine cX ?_ ?_<;>intro h
 ·have hlt:i<s1.length:=qw;clear h;obtain⟨x,hx⟩:=qo hlt;have hch:=zav (f:=ST.pv) (k:=41) (fun _=>rfl) hx;have hle:=zaw (f:=ST.pv) (k:=41) (fun _=>rfl) hlt;have hmem:=qbo hx
  have hbad:¬okSt k1 w1 x→E=14:=fun hno=>by
   rw[if_neg (fun h=>hno (h.2 x hmem))]at hE;exact hE.symm
  generalize s1.flatMap ST.pv=L at*;obtain⟨key,ep,a,b,c,⟨lv,mine,nc,hb,hs⟩,q⟩:=x;refine G [8] ?_;refine jfN ?_
  by_cases hk:k1=⟨#[]⟩
  ·by_cases hz:a=KY0∧b=KY0∧c=KY0
   ·cases lv with
    |true=>
     rw[hbad (fun h=>h (.inl ⟨hk,.inr rfl⟩))];refine jfD ?_;refine jdy ?_;refine je5 ?_;refine jd7 ?_;refine G [21,9,0] ?_;exact yE
    |false=>
     by_cases ht:w1<hs
     ·rw[hbad (fun h=>h (.inr ht))];refine jfD ?_;refine jdy ?_;refine je5 ?_;refine jd7 ?_;refine G [12,4,8,9,0] ?_;exact yE
     ·have HOK:okSt k1 w1 ⟨key,ep,a,b,c,⟨false,mine,nc,hb,hs⟩,q⟩:=by
       rintro(⟨_,h|h⟩|h)
       ·exact h hz
       ·cases h
       ·exact ht h
      refine jfD ?_;refine jdy ?_;refine je5 ?_;refine jd7 ?_;refine G [12,3,8,9,0] ?_;exact jbk
   ·rw[hbad (fun h=>h (.inl ⟨hk,.inl hz⟩))];refine jfD ?_;refine jdy ?_;refine je5 ?_;refine zaa (zaK U61 (xs:=a.vals++b.vals++c.vals) (ys:=KY0.vals++KY0.vals++KY0.vals) rfl rfl qq qq qq (c:=true) (by rw[zeg.2 (fun e=>hz (zcP.1 e))];rfl)) rfl rfl ?_;refine G [21,9,0] ?_;exact yE
  ·by_cases ht:w1<hs
   ·rw[hbad (fun h=>h (.inr ht))];refine G [5] ?_;refine je7 ?_;refine G [17,4,8,9,0] ?_;exact yE
   ·have HOK:okSt k1 w1 ⟨key,ep,a,b,c,⟨lv,mine,nc,hb,hs⟩,q⟩:=by
     rintro(⟨h,_⟩|h)
     ·exact hk h
     ·exact ht h
    refine G [5] ?_;refine je7 ?_;refine G [17,3,8,9,0] ?_;exact jbk
 have hge:i=s1.length:=qw;clear h;subst hge
 have hall:∀s∈s1,okSt k1 w1 s:=fun s hs=>by
  obtain⟨j,hj,rfl⟩:=List.getElem_of_mem hs;exact hf j hj _ (List.getElem?_eq_getElem hj)
 rw[if_pos ⟨⟨heqB.1 rfl,rfl⟩,hall⟩]at hE;subst hE;refine jdw ?_;exact yE
end Go.Proofs.YtdiljgkijgiboaaGreatDoor
namespace Go.Proofs.YtdiljgkijgiboaaGreatDoor
open Go.RowKit Go.Sort
theorem zcJ{f:FuncId}{args:List AV}{e:Int}(h:Fn Tryz.prog f args (.tup [.agg zdmC,qm,qd e]) []):Fn Tryz.prog f args (.tup [.agg dm0.cells,ql 0 3 [],qd e]) []:=
 fn_nzT h ⟨.inr ⟨_,_,rfl,rfl,zdm_nz⟩,.inl (.inr ⟨3,rfl,rfl⟩),.inl (.inl rfl),trivial⟩
end Go.Proofs.YtdiljgkijgiboaaGreatDoor
