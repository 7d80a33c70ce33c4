/- Used. -/
import Derived.Test.YtdiljgkijgiboaaGreatDoorSSg3
import Derived.Test.YtdiljgkijgiboaaGreatDoorSTw8
set_option linter.all false
set_option maxRecDepth 100000
set_option maxHeartbeats 16000000
namespace Go.Proofs.YtdiljgkijgiboaaGreatDoor
open Tryz
open Go.RowKit Go.Sort
structure DM where
 c:CF
 tree:List ND
 ps:List ST
 sg:SG
 gen:Int
 now:Int
 last:Int
def dmC(key:ByteArray)(port:Int)(P T S:PV)(lv:Bool)(R:PV)(sk:ByteArray)(sp:Int)(Q:PV)(at_:ByteArray)(err gen now last:Int):List AV:=
 [qc key,qd port,.p P,.p T,.p S,qf lv,.p R,qc sk,qd sp,.p Q,qc at_,qd err,qd gen,qd now,qd last]
def CF.row(c:CF):PV:=.sl c.ps.length 5 (c.ps.flatMap PE.pv)
def stsV(l:List ST):PV:=.sl l.length 41 (l.flatMap ST.pv)
def sesV(l:List SE):PV:=.sl l.length 5 (l.flatMap SE.pv)
def DM.cells(d:DM):List AV:=dmC d.c.key d.c.port d.c.row (ndsV d.tree) (stsV d.ps) d.sg.lv (sesV d.sg.rest) d.sg.c.key d.sg.c.port d.sg.c.row d.sg.at_ d.sg.err d.gen d.now d.last
def DM.pv(d:DM):List PV:=d.c.pv++[ndsV d.tree,stsV d.ps]++d.sg.pv++[qh d.gen,qh d.now,qh d.last]
structure DM.OK(d:DM):Prop where
 c:d.c.OK
 tree:∀x∈d.tree,x.OK
 treeN:d.tree.length*40≤140737488351232
 ps:∀s∈d.ps,s.OK∧s.B
 psN:d.ps.length≤1048576
 sg:d.sg.OK
theorem DM.of_ty{n:Nat}{ps:List PV}(h:Ty prog (n+9) 32 ps)(hb:PV.bdL 1048576 ps):∃d:DM,d.OK∧ps=d.pv:=by
 obtain⟨_,rfl,x0,_,rfl,t0,x1,_,rfl,t1,x2,_,rfl,t2,x3,_,rfl,t3,x4,_,rfl,t4,x5,_,rfl,t5,x6,_,rfl,t6,rfl⟩:=zbu (ts:=[24,25,26,30,3,3,3]) qq h;obtain⟨c,okc,rfl⟩:=CF.of_ty t0 (zbK hb x0 qG);obtain⟨tr,okt,hz,rfl⟩:=nodes_of_ty t1;obtain⟨l,okl,hl,rfl⟩:=ST.list_tyB t2 (zbK hb x2 qG);obtain⟨s,oks,rfl⟩:=SG.of_ty t3 (zbK hb x3 qG);obtain⟨a4,rfl,_⟩:=zbz U3 t4;obtain⟨a5,rfl,_⟩:=zbz U3 t5;obtain⟨a6,rfl,_⟩:=zbz U3 t6
 exact⟨⟨c,tr,l,s,a4,a5,a6⟩,⟨okc,okt,hz,okl,hl,oks⟩,by simp[DM.pv,stsV]⟩
noncomputable def sgB(s t:SG):Bool:=((((s.lv==t.lv)&&eqB s.rest t.rest)&&cfB s.c t.c)&&decide (s.at_=t.at_))&&(s.err==t.err)
noncomputable def dmB(d o:DM):Bool:=(((((cfB d.c o.c&&eqB d.tree o.tree)&&eqB d.ps o.ps)&&sgB d.sg o.sg)&&(d.gen==o.gen))&&(d.now==o.now))&&(d.last==o.last)
theorem cfB_self(c:CF):cfB c c=true:=by simp[cfB,zhz]
theorem sgB_self(s:SG):sgB s s=true:=by simp[sgB,zhz,cfB_self]
theorem dmB_self(d:DM):dmB d d=true:=by simp[dmB,zhz,cfB_self,sgB_self]
theorem sameNodes_d(l m:List ND)(hl:l.length≤4611686018427387904)(hm:m.length≤4611686018427387904):Fn prog 32 [.p (ndsV l),.p (ndsV m)] (qf (eqB l m)) []:=by
 have hC:=eqNodes_d l m hl hm;change Fn prog _ [.p (ndsV l),.p (ndsV m)] _ _ at hC;generalize eqB l m=b at*;generalize ndsV l=L at*;generalize ndsV m=M at*;exact jcf
theorem sameSets_d(l m:List SE)(hl:l.length≤4611686018427387904)(hm:m.length≤4611686018427387904):Fn prog 90 [.p (sesV l),.p (sesV m)] (qf (eqB l m)) []:=by
 have hC:=eqSets_d l m hl hm;change Fn prog _ [.p (sesV l),.p (sesV m)] _ _ at hC;generalize eqB l m=b at*;generalize sesV l=L at*;generalize sesV m=M at*;exact jcf
def sgV(lv:Bool)(R:PV)(sk:ByteArray)(sp:Int)(Q:PV)(at_:ByteArray)(err:Int):List AV:=[qf lv,.p R,qc sk,qd sp,.p Q,qc at_,qd err]
def cfV(k:ByteArray)(p:Int)(Q:PV):List AV:=[qc k,qd p,.p Q]
theorem sameStage_q(s t:SG)(l1:s.rest.length≤1048576)(l2:t.rest.length≤1048576)(c1:s.c.OK)(c2:t.c.OK):Fn prog 34 [.agg s.cells,.agg t.cells] (qf (sgB s t)) []:=by
 have hS:=sameSets_d s.rest t.rest qp qp;have hC:=ziM s.c t.c c1 c2;clear l1 l2 c1 c2;obtain⟨v1,r1,⟨k1,p1,q1⟩,a1,e1⟩:=s;obtain⟨v2,r2,⟨k2,p2,q2⟩,a2,e2⟩:=t;dsimp only at hS hC;change Fn prog _ [.agg (cfV k1 p1 (CF.row ⟨k1,p1,q1⟩)),.agg (cfV k2 p2 (CF.row ⟨k2,p2,q2⟩))] _ _ at hC;show Fn prog _ [.agg (sgV v1 (sesV r1) k1 p1 (CF.row ⟨k1,p1,q1⟩) a1 e1),.agg (sgV v2 (sesV r2) k2 p2 (CF.row ⟨k2,p2,q2⟩) a2 e2)] (qf (((((v1==v2)&&eqB r1 r2)&&cfB ⟨k1,p1,q1⟩ ⟨k2,p2,q2⟩)&&decide (a1=a2))&&(e1==e2))) _
 generalize cfB ⟨k1,p1,q1⟩ ⟨k2,p2,q2⟩=cb at*;generalize CF.row ⟨k1,p1,q1⟩=Q1 at*;generalize CF.row ⟨k2,p2,q2⟩=Q2 at*;generalize eqB r1 r2=rb at*;generalize sesV r1=R1 at*;generalize sesV r2=R2 at*;refine fnI fun w0 A=>?_
 refine G [12] ?_;refine jfZ (a_beql U4) ?_;refine G [5] ?_;refine mb2 _ rfl rfl (fun _=>zbl func90 rfl rfl (hS) qD rfl) (fun _=>trivial) ?_;refine G [0,2,2] ?_;refine mb2 _ rfl rfl (fun hb=>(zak U24 rfl sz24 qu qC)) (fun _=>⟨rfl,trivial⟩) ?_;refine mb2 _ rfl rfl (fun hb=>(zaC fi30_2 rfl)) (fun _=>trivial) ?_;refine mb2 _ rfl rfl (fun hb=>(zak U24 rfl sz24 qu qC)) (fun _=>⟨rfl,trivial⟩) ?_;refine mb2 _ rfl rfl (fun _=>zbl func31 rfl rfl (hC) qD rfl) (fun _=>trivial) ?_
 refine G [0,2,6,2,6,2,3,9,0] ?_;exact yE
structure DM.Q(d:DM):Prop where
 c:d.c.OK
 treeN:d.tree.length*40≤140737488351232
 ps:∀s∈d.ps,s.B
 psN:d.ps.length≤1048576
 rest:d.sg.rest.length≤1048576
 sgc:d.sg.c.OK
theorem DM.OK.q{d:DM}(h:d.OK):d.Q:=⟨h.c,h.treeN,fun s hs=>(h.ps s hs).2,h.psN,h.sg.len,h.sg.c⟩
theorem sameDaemon_q(d o:DM)(od:d.Q)(oo:o.Q):Fn prog 6 [.agg d.cells,.agg o.cells] (qf (dmB d o)) []:=by
 have hC:=ziM d.c o.c od.c oo.c;have hT:=sameNodes_d d.tree o.tree (by have:=od.treeN;omega) (by have:=oo.treeN;omega);have hS:=sameStates_d d.ps o.ps od.psN oo.psN od.ps oo.ps;have hG:=sameStage_q d.sg o.sg od.rest oo.rest od.sgc oo.sgc;clear od oo;obtain⟨⟨k1,p1,q1⟩,t1,s1,⟨v1,r1,⟨sk1,sp1,sq1⟩,a1,e1⟩,g1,w1,l1'⟩:=d;obtain⟨⟨k2,p2,q2⟩,t2,s2,⟨v2,r2,⟨sk2,sp2,sq2⟩,a2,e2⟩,g2,w2,l2'⟩:=o;dsimp only at hC hT hS hG
 change Fn prog _ [.agg (cfV k1 p1 (CF.row ⟨k1,p1,q1⟩)),.agg (cfV k2 p2 (CF.row ⟨k2,p2,q2⟩))] _ _ at hC;change Fn prog _ [.p (stsV s1),.p (stsV s2)] _ _ at hS;change Fn prog _ [.agg (sgV v1 (sesV r1) sk1 sp1 (CF.row ⟨sk1,sp1,sq1⟩) a1 e1),.agg (sgV v2 (sesV r2) sk2 sp2 (CF.row ⟨sk2,sp2,sq2⟩) a2 e2)] _ _ at hG;show Fn prog _ [.agg (dmC k1 p1 (CF.row ⟨k1,p1,q1⟩) (ndsV t1) (stsV s1) v1 (sesV r1) sk1 sp1 (CF.row ⟨sk1,sp1,sq1⟩) a1 e1 g1 w1 l1'),.agg (dmC k2 p2 (CF.row ⟨k2,p2,q2⟩) (ndsV t2) (stsV s2) v2 (sesV r2) sk2 sp2 (CF.row ⟨sk2,sp2,sq2⟩) a2 e2 g2 w2 l2')] (qf ((((((cfB ⟨k1,p1,q1⟩ ⟨k2,p2,q2⟩&&eqB t1 t2)&&eqB s1 s2)&&sgB ⟨v1,r1,⟨sk1,sp1,sq1⟩,a1,e1⟩ ⟨v2,r2,⟨sk2,sp2,sq2⟩,a2,e2⟩)&&(g1==g2))&&(w1==w2))&&(l1'==l2'))) _
 generalize sgB ⟨v1,r1,⟨sk1,sp1,sq1⟩,a1,e1⟩ ⟨v2,r2,⟨sk2,sp2,sq2⟩,a2,e2⟩=gb at*;generalize cfB ⟨k1,p1,q1⟩ ⟨k2,p2,q2⟩=cb at*;generalize CF.row ⟨k1,p1,q1⟩=Q1 at*;generalize CF.row ⟨k2,p2,q2⟩=Q2 at*;generalize eqB t1 t2=tb at*;generalize ndsV t1=T1 at*;generalize ndsV t2=T2 at*;generalize eqB s1 s2=pb at*;generalize stsV s1=S1 at*;generalize stsV s2=S2 at*;generalize CF.row ⟨sk1,sp1,sq1⟩=SQ1 at*;generalize CF.row ⟨sk2,sp2,sq2⟩=SQ2 at*
 generalize sesV r1=R1 at*;generalize sesV r2=R2 at*;refine fnI fun w0 A=>?_
 refine G [12] ?_;refine cK hC ?_;refine G [5] ?_;refine mb2 _ rfl rfl (fun _=>zbl func32 rfl rfl (hT) qD rfl) (fun _=>trivial) ?_;refine G [0,2,5] ?_;refine mb2 _ rfl rfl (fun _=>zbl func33 rfl rfl (hS) qD rfl) (fun _=>trivial) ?_;refine G [0,2,2] ?_;refine mb2 _ rfl rfl (fun hb=>(zak U30 rfl sz30 qu qC)) (fun _=>⟨rfl,trivial⟩) ?_;refine mb2 _ rfl rfl (fun hb=>(zaC zii rfl)) (fun _=>trivial) ?_;refine mb2 _ rfl rfl (fun hb=>(zak U30 rfl sz30 qu qC)) (fun _=>⟨rfl,trivial⟩) ?_
 refine mb2 _ rfl rfl (fun _=>zbl func34 rfl rfl (hG) qD rfl) (fun _=>trivial) ?_;refine G [0,2,6,2,6,2,6,2,3,9,0] ?_;exact yE
end Go.Proofs.YtdiljgkijgiboaaGreatDoor
namespace Go.Proofs.YtdiljgkijgiboaaGreatDoor
open Go.RowKit Go.Sort
theorem flat_at{α:Type}{s:Nat}:∀{L:List (List α)} {k:Nat} {e:List α},(∀x∈L,x.length=s)→L[k]?=some e→(L.flatten.drop (k*s)).take s=e∧k*s+s≤L.flatten.length
 | [],k,e,_,h=>by simp at h
 |x::L,0,e,hs,h=>by
  simp only[List.getElem?_cons_zero,Option.some.injEq]at h;subst h;have hx:=hs x qG;simp only[qbT,qc6,qcc,qbO,qbm];exact⟨by rw[←hx];exact List.take_left,qp⟩
 |x::L,k+1,e,hs,h=>by
  have hx:=hs x qG;obtain⟨h1,h2⟩:=flat_at (fun y hy=>hs y qa3) (by simpa using h:L[k]?=some e);have e1:(k+1)*s=x.length+k*s:=by rw[hx,qcJ,Nat.one_mul,Nat.add_comm]
  rw[e1,qbT,List.drop_length_add_append,qbm];exact⟨h1,qp⟩
abbrev Four:=Int×Int×Int×Int
def Four.l5(q:Four):List Int:=[0,q.1,q.2.1,q.2.2.1,q.2.2.2]
structure StP(e:List PV)(q:Four):Prop where
 len:e.length=41
 h5:e[5]?=some (.v (.int .i64 q.1))
 h16:e[16]?=some (.v (.int .i64 q.2.1))
 h27:e[27]?=some (.v (.int .i64 q.2.2.1))
 h36:e[36]?=some (.v (.int .i64 q.2.2.2))
def mx(n:Int)(xs:List Int):Int:=xs.foldl max n
def Four.l4(q:Four):List Int:=[q.1,q.2.1,q.2.2.1,q.2.2.2]
def most(Q:List Four):Int:=Q.foldl (fun n q=>mx n q.l5) 0
def iv(xs:List Int):List AV:=xs.map fun x=>.p (.v (.int .i64 x))
theorem mx_take{n:Int}{xs:List Int}{j:Nat}(h:j<xs.length):max (mx n (xs.take j)) xs[j]=mx n (xs.take (j+1)):=by
 unfold mx;rw[qbs h,qcH];rfl
theorem most_take{Q:List Four}{k:Nat}{q:Four}(h:Q[k]?=some q):mx (most (Q.take k)) q.l5=most (Q.take (k+1)):=by
 unfold most;have hk:=(qbl.1 h);rw[qbs hk.1,qcH,hk.2];rfl
theorem mx_ge(n:Int)(xs:List Int):n≤mx n xs:=by
 induction xs generalizing n with
 |nil=>exact qda _
 |cons x xs ih=>exact Int.le_trans qp (ih (max n x))
theorem zjL(Q:List Four):0≤most Q:=by
 have:∀(Q:List Four) (n:Int),0≤n→0≤Q.foldl (fun n q=>mx n q.l5) n:=by
  intro Q
  induction Q with
  |nil=>intro n h;exact h
  |cons q Q ih=>intro n h;exact ih _ (Int.le_trans h (mx_ge _ _))
 exact this Q 0 (qda _)
set_option maxRecDepth 100000 in
theorem most_s(L:List (List PV))(Q:List Four)(N:Nat)(hL:L.length=N)(hQ:Q.length=N)(hm:N≤9223372036854775807)(hst:∀(k:Nat) e q,L[k]?=some e→Q[k]?=some q→StP e q):
 Fn Tryz.prog 41 [.p (.sl N 41 L.flatten)] (.p (.v (.int .i64 (most Q)))) []:=by
 have hlen:∀e∈L,e.length=41:=by
  intro e he;obtain⟨k,hk,rfl⟩:=qcp.1 he;exact(hst k _ (Q[k]'qp) (List.getElem?_eq_getElem hk) (List.getElem?_eq_getElem qp)).len
 refine zb0 Tryz.func41 rfl (qbk rfl) fun w0 A=>?_
 refine zad (zaN qq ?_)
 (refine zaa (zaG (r:=.p _)) rfl rfl ?_)
 refine zac (zad (zaN qq ?_))
 (refine zaa (zaG (r:=.p _)) rfl rfl ?_)
 refine zac (zad (zad (zaN qq ?_)))
 (refine zaa (zah (r:=.p _)) rfl rfl ?_)
 (refine zaa (zdd Tryz.underlying26) rfl rfl ?_)
 (refine zaa (zah (r:=.p _)) rfl rfl ?_)
 refine zac (zaj (zag (fun m st=>∃k:Nat,m+k=N∧st=St.of [(3,.p (.v (.int .i64 (most (Q.take k))))),(8,.p (.sl N 41 L.flatten)),(9,.p (.v (.int .i64 N))),(10,.p (.v (.int .i64 k)))] []) N ?_ ?_))
 ·refine⟨_,zai id _ _ ?_ ?_ rfl,0,qp,rfl⟩
  ·(repeat(first|exact trivial|(refine⟨⟨qJ,rfl⟩,?_⟩)))
  ·exact trivial
 rintro m st ⟨k,hk,rfl⟩;refine zad (zaN qq ?_)
 (refine zaa zcM rfl rfl ?_)
 refine zac (zad (zaI _ rfl (fun h=>?_) (fun h=>?_)))
 ·have hlt:k<N:=by simpa using h
  clear h;obtain⟨e,he⟩:∃e,L[k]?=some e:=⟨L[k]'qp,List.getElem?_eq_getElem qp⟩;obtain⟨q,hq⟩:∃q,Q[k]?=some q:=⟨Q[k]'qp,List.getElem?_eq_getElem qp⟩;obtain⟨g0,g5,g16,g27,g36⟩:=hst k e q he hq;obtain⟨f1,f2⟩:=flat_at hlen he;have f3:41≤(L.flatten.drop (k*41)).length:=qab;have k5:(e.map AV.p)[5]?=some (.p (.v (.int .i64 q.1))):=by simp[g5]
  have k16:(e.map AV.p)[16]?=some (.p (.v (.int .i64 q.2.1))):=by simp[g16]
  have k27:(e.map AV.p)[27]?=some (.p (.v (.int .i64 q.2.2.1))):=by simp[g27]
  have k36:(e.map AV.p)[36]?=some (.p (.v (.int .i64 q.2.2.2))):=by simp[g36]
  refine zal (zad (zaj (zad (zaN qq ?_))))
  (refine zaa (zaL Tryz.underlying26 sz66 qp qp (by rw[qbt])) rfl rfl ?_)
  (refine zaa (zay Tryz.underlying66 rfl sz66 f3 (f1)) rfl rfl ?_)
  (refine zab (zaT 5 zr66 rfl) rfl rfl ⟨rfl,trivial⟩ ?_)
  (refine zab (zaf (Y:=.agg _) sz66 rfl qI (qbn rfl)) rfl rfl ⟨rfl,trivial⟩ ?_)
  refine zac (zad (zaN qq ?_))
  (refine zab (zak Tryz.underlying66 rfl sz66 qu qC) rfl rfl ⟨rfl,trivial⟩ ?_)
  (refine zbN (fun n=>15+1000*n) (numbers_s _ _ _ _ _ k5 k16 k27 k36) rfl rfl Tryz.func95 rfl rfl qD rfl rfl rfl qr rfl rfl rfl ?_)
  (refine zaa (zah (r:=.p _)) rfl rfl ?_)
  refine zac (zaj (zag (fun m2 st=>∃j:Nat,m2+j=5∧st=St.of [(3,.p (.v (.int .i64 (mx (most (Q.take k)) (q.l5.take j))))),(8,.p (.sl N 41 L.flatten)),(9,.p (.v (.int .i64 N))),(10,.p (.v (.int .i64 k))),(15,.agg (iv q.l5)),(16,.p (.v (.int .i64 j)))] []) 5 ?_ ?_))
  ·refine⟨_,zai id _ _ ?_ ?_ rfl,0,qp,rfl⟩
   ·(repeat(first|exact trivial|(refine⟨⟨qJ,rfl⟩,?_⟩)))
   ·exact trivial
  rintro m2 st ⟨j,hj,rfl⟩;refine zad (zaN qq ?_)
  (refine zaa zcM rfl rfl ?_)
  refine zac (zad (zaI _ rfl (fun h=>?_) (fun h=>?_)))
  ·have hj5 : j < 5 := by have : (j : Int) < 5 := by simpa using h
                          omega
   clear h;have hx5:j<q.l5.length:=hj5;have hat:(iv q.l5)[j]?=some (.p (.v (.int .i64 q.l5[j]))):=by simp[iv,hx5]
   refine zal (zad (zaj (zad (zaN qq ?_))))
   (refine zaa (zeJ Tryz.underlying149 sz3 Tryz.underlying3 rfl qp qp qV) rfl rfl ?_)
   (refine zaa (zaG (r:=.p _)) rfl rfl ?_)
   refine zac (zat (zaN qq ?_))
   (refine zaa (zah (r:=.p _)) rfl rfl ?_)
   (refine zaa (zah (r:=.p _)) rfl rfl ?_)
   (refine zaa a_max rfl rfl ?_)
   (refine zaa (zaG (r:=.p _)) rfl rfl ?_)
   refine zac (zaW (zat (zaN qq ?_)))
   (refine zaa (zbf qN) rfl rfl ?_)
   (refine zaa (zah (r:=.p _)) rfl rfl ?_)
   refine zac (zat (⟨m2-1,qp,_,zai id _ _ ?_ ?_ rfl,j+1,qp,rfl⟩))
   ·rw[←mx_take hx5]
    (repeat(first|exact trivial|(refine⟨⟨qJ,rfl⟩,?_⟩)))
   ·exact trivial
  ·have hj5 : ¬ j < 5 := by have : ¬ (j : Int) < 5 := by simpa using h
                            omega
   obtain rfl:j=5:=qp;refine zar (za8 (za8 (zbi (zaW (zat (zaN qq ?_))))))
   (refine zaa (zbf qN) rfl rfl ?_)
   (refine zaa (zah (r:=.p _)) rfl rfl ?_)
   refine zac (zat (⟨m-1,qp,_,zai id _ _ ?_ ?_ rfl,k+1,qp,rfl⟩))
   ·rw[←most_take hq]
    (repeat(first|exact trivial|(refine⟨⟨qJ,rfl⟩,?_⟩)))
   ·exact trivial
 ·have hge:¬k<N:=by simpa using h
  refine zar (zad (zaN qq ?_))
  (refine zaa (zah (r:=.p _)) rfl rfl ?_)
  (refine zaa (zaG (r:=.p _)) rfl rfl ?_)
  refine zac (zaq (⟨qO,_,(fun o=>o),(.tmp _ _ _ _ rfl .nil),?_,rfl,?_,rfl⟩))
  ·rw[qbC (show Q.length≤k by omega)];first|done|(refine(?_:_=_);kernel_rfl)
  ·exact trivial
set_option maxRecDepth 100000 in
theorem given6_s(X:List AV)(a b c d:Int)(h5:X[5]?=some (.p (.v (.int .i64 a))))(h16:X[16]?=some (.p (.v (.int .i64 b))))(h27:X[27]?=some (.p (.v (.int .i64 c))))(h36:X[36]?=some (.p (.v (.int .i64 d)))):
 Fn Tryz.prog 113 [.agg X] (.row 0) [(0,.row 3 1 4 (is [a,b,c,d]))]:=by
 refine zb0 Tryz.func113 rfl (qbk rfl) fun w0 A=>?_
 refine zad (zaN qq ?_)
 (refine zab (zhk (X:=.agg _) 1 rfl) rfl rfl ⟨rfl,trivial⟩ ?_)
 (refine zaa (zaG (r:=.p _)) rfl rfl ?_)
 refine zac (zad (zaN qq ?_))
 (refine zaa (zaC zih rfl) rfl rfl ?_)
 (refine zaa (zaC fi61_0 rfl) rfl rfl ?_)
 (refine zaa (zaC zi9 rfl) rfl rfl ?_)
 (refine zab (zcz Tryz.underlying3 rfl qZ) rfl rfl ⟨rfl,trivial⟩ ?_)
 (refine zaa (zaC zih rfl) rfl rfl ?_)
 (refine zaa (zaC fi61_1 rfl) rfl rfl ?_)
 (refine zaa (zaC zi9 rfl) rfl rfl ?_)
 (refine zab (zcz Tryz.underlying3 rfl qZ) rfl rfl ⟨rfl,trivial⟩ ?_)
 (refine zaa (zaC zih rfl) rfl rfl ?_)
 (refine zaa (zaC fi61_2 rfl) rfl rfl ?_)
 (refine zaa (zaC zi9 rfl) rfl rfl ?_)
 (refine zab (zcz Tryz.underlying3 rfl qZ) rfl rfl ⟨rfl,trivial⟩ ?_)
 (refine zaa (zaC fi66_3 rfl) rfl rfl ?_)
 (refine zaa (zaC fi63_1 rfl) rfl rfl ?_)
 (refine zab (zcz Tryz.underlying3 rfl qZ) rfl rfl ⟨rfl,trivial⟩ ?_)
 (refine zab (zae 18 Tryz.underlying147 sz3 zc3 (qbk rfl) (qbk rfl) rfl rfl rfl rfl (qbk rfl)) rfl rfl ⟨rfl,trivial⟩ ?_)
 (refine zaa (zaG (r:=.row _)) rfl rfl ?_)
 refine zac (zaq (⟨qO,_,(fun _=>18),(.tmp _ _ _ _ rfl .nil),?_,rfl,?_,rfl⟩))
 ·rfl
 ·exact⟨⟨rfl,rfl⟩,trivial⟩
theorem mx_l5{n:Int}(hn:0≤n)(q:Four):mx n q.l5=mx n q.l4:=by
 show mx (max n 0) q.l4=mx n q.l4;rw[show max n 0=n by omega]
set_option maxRecDepth 100000 in
theorem statesMost_s(L:List (List PV))(Q:List Four)(N:Nat)(hL:L.length=N)(hQ:Q.length=N)(hm:N≤9223372036854775807)(hst:∀(k:Nat) e q,L[k]?=some e→Q[k]?=some q→StP e q):
 Fn Tryz.prog 68 [.p (.sl N 41 L.flatten)] (.p (.v (.int .i64 (most Q)))) []:=by
 have hlen:∀e∈L,e.length=41:=by
  intro e he;obtain⟨k,hk,rfl⟩:=qcp.1 he;exact(hst k _ (Q[k]'qp) (List.getElem?_eq_getElem hk) (List.getElem?_eq_getElem qp)).len
 refine zb0 Tryz.func68 rfl (qbk rfl) fun w0 A=>?_
 refine zad (zaN qq ?_)
 (refine zaa (zaG (r:=.p _)) rfl rfl ?_)
 refine zac (zad (zaN qq ?_))
 (refine zaa (zaG (r:=.p _)) rfl rfl ?_)
 refine zac (zad (zad (zaN qq ?_)))
 (refine zaa (zah (r:=.p _)) rfl rfl ?_)
 (refine zaa (zdd Tryz.underlying26) rfl rfl ?_)
 (refine zaa (zah (r:=.p _)) rfl rfl ?_)
 refine zac (zaj (zag (fun m st=>∃k:Nat,m+k=N∧st=St.of [(3,.p (.v (.int .i64 (most (Q.take k))))),(8,.p (.sl N 41 L.flatten)),(9,.p (.v (.int .i64 N))),(10,.p (.v (.int .i64 k)))] []) N ?_ ?_))
 ·refine⟨_,zai id _ _ ?_ ?_ rfl,0,qp,rfl⟩
  ·(repeat(first|exact trivial|(refine⟨⟨qJ,rfl⟩,?_⟩)))
  ·exact trivial
 rintro m st ⟨k,hk,rfl⟩;refine zad (zaN qq ?_)
 (refine zaa zcM rfl rfl ?_)
 refine zac (zad (zaI _ rfl (fun h=>?_) (fun h=>?_)))
 ·have hlt:k<N:=by simpa using h
  clear h;obtain⟨e,he⟩:∃e,L[k]?=some e:=⟨L[k]'qp,List.getElem?_eq_getElem qp⟩;obtain⟨q,hq⟩:∃q,Q[k]?=some q:=⟨Q[k]'qp,List.getElem?_eq_getElem qp⟩;obtain⟨g0,g5,g16,g27,g36⟩:=hst k e q he hq;obtain⟨f1,f2⟩:=flat_at hlen he;have f3:41≤(L.flatten.drop (k*41)).length:=qab;have k5:(e.map AV.p)[5]?=some (.p (.v (.int .i64 q.1))):=by simp[g5]
  have k16:(e.map AV.p)[16]?=some (.p (.v (.int .i64 q.2.1))):=by simp[g16]
  have k27:(e.map AV.p)[27]?=some (.p (.v (.int .i64 q.2.2.1))):=by simp[g27]
  have k36:(e.map AV.p)[36]?=some (.p (.v (.int .i64 q.2.2.2))):=by simp[g36]
  refine zal (zad (zaj (zad (zaN qq ?_))))
  (refine zaa (zaL Tryz.underlying26 sz66 qp qp (by rw[qbt])) rfl rfl ?_)
  (refine zaa (zay Tryz.underlying66 rfl sz66 f3 (f1)) rfl rfl ?_)
  (refine zab (zaT 5 zr66 rfl) rfl rfl ⟨rfl,trivial⟩ ?_)
  (refine zab (zaf (Y:=.agg _) sz66 rfl qI (qbn rfl)) rfl rfl ⟨rfl,trivial⟩ ?_)
  refine zac (zad (zaN qq ?_))
  (refine zab (zak Tryz.underlying66 rfl sz66 qu qC) rfl rfl ⟨rfl,trivial⟩ ?_)
  (refine zbN (fun n=>15+1000*n) (given6_s _ _ _ _ _ k5 k16 k27 k36) rfl rfl Tryz.func113 rfl rfl qD rfl rfl rfl qr rfl rfl rfl ?_)
  (refine zab (a_lenR Tryz.underlying147) rfl rfl ⟨rfl,trivial⟩ ?_)
  (refine zaa (zah (r:=.p _)) rfl rfl ?_)
  refine zac (zaj (zag (fun m2 st=>∃j:Nat,m2+j=4∧st=St.of [(3,.p (.v (.int .i64 (mx (most (Q.take k)) (q.l4.take j))))),(8,.p (.sl N 41 L.flatten)),(9,.p (.v (.int .i64 N))),(10,.p (.v (.int .i64 k))),(15,.row 15),(16,.p (.v (.int .i64 4))),(17,.p (.v (.int .i64 j)))] [(15,.row 3 1 4 (is q.l4))]) 4 ?_ ?_))
  ·refine⟨_,zai id _ _ ?_ ?_ rfl,0,qp,rfl⟩
   ·(repeat(first|exact trivial|(refine⟨⟨qJ,rfl⟩,?_⟩)))
   ·exact⟨⟨rfl,rfl⟩,trivial⟩
  rintro m2 st ⟨j,hj,rfl⟩;refine zad (zaN qq ?_)
  (refine zaa zcM rfl rfl ?_)
  refine zac (zad (zaI _ rfl (fun h=>?_) (fun h=>?_)))
  ·have hj4 : j < 4 := by have : (j : Int) < 4 := by simpa using h
                          omega
   clear h;have hx4:j<q.l4.length:=hj4;have hat:=is_at hx4;refine zal (zad (zaj (zad (zaN qq ?_))))
   (refine zab (zao Tryz.underlying147 sz3 qp qp qE) rfl rfl ⟨rfl,trivial⟩ ?_)
   (refine zab (zaQ Tryz.underlying3 rfl qt) rfl rfl ⟨rfl,trivial⟩ ?_)
   (refine zaa (zaG (r:=.p _)) rfl rfl ?_)
   refine zac (zad (zaN qq ?_))
   (refine zaa (zah (r:=.p _)) rfl rfl ?_)
   (refine zaa (zah (r:=.p _)) rfl rfl ?_)
   (refine zaa a_gtr rfl rfl ?_)
   refine zac (zat (zaI _ rfl (fun h=>?_) (fun h=>?_)))
   ·have h2:mx (most (Q.take k)) (q.l4.take j)<q.l4[j]:=by simpa using h
    have h3:=mx_take (n:=most (Q.take k)) hx4;rw[show max (mx (most (Q.take k)) (q.l4.take j)) q.l4[j]=q.l4[j]by omega]at h3
    skip
    refine zaN qq ?_
    (refine zaa (zah (r:=.p _)) rfl rfl ?_)
    (refine zaa (zaG (r:=.p _)) rfl rfl ?_)
    refine zac (zaW (zat (zaN qq ?_)))
    (refine zaa (zbf qN) rfl rfl ?_)
    (refine zaa (zah (r:=.p _)) rfl rfl ?_)
    refine zac (zat (⟨m2-1,qp,_,zai id _ _ ?_ ?_ rfl,j+1,qp,rfl⟩))
    ·rw[←h3]
     (repeat(first|exact trivial|(refine⟨⟨qJ,rfl⟩,?_⟩)))
    ·exact⟨⟨rfl,rfl⟩,trivial⟩
   ·have h2:¬mx (most (Q.take k)) (q.l4.take j)<q.l4[j]:=by simpa using h
    have h3:=mx_take (n:=most (Q.take k)) hx4;rw[show max (mx (most (Q.take k)) (q.l4.take j)) q.l4[j]=mx (most (Q.take k)) (q.l4.take j)by omega]at h3;refine zal (zaW (zat (zaN qq ?_)))
    (refine zaa (zbf qN) rfl rfl ?_)
    (refine zaa (zah (r:=.p _)) rfl rfl ?_)
    refine zac (zat (⟨m2-1,qp,_,zai id _ _ ?_ ?_ rfl,j+1,qp,rfl⟩))
    ·rw[←h3]
     (repeat(first|exact trivial|(refine⟨⟨qJ,rfl⟩,?_⟩)))
    ·exact⟨⟨rfl,rfl⟩,trivial⟩
  ·have hj4 : ¬ j < 4 := by have : ¬ (j : Int) < 4 := by simpa using h
                            omega
   obtain rfl:j=4:=qp;refine zar (za8 (za8 (zbi (zaW (zat (zaN qq ?_))))))
   (refine zaa (zbf qN) rfl rfl ?_)
   (refine zaa (zah (r:=.p _)) rfl rfl ?_)
   refine zac (zat (⟨m-1,qp,_,zai id _ _ ?_ ?_ rfl,k+1,qp,rfl⟩))
   ·rw[←most_take hq,mx_l5 (zjL _)]
    (repeat(first|exact trivial|(refine⟨⟨qJ,rfl⟩,?_⟩)))
   ·exact trivial
 ·have hge:¬k<N:=by simpa using h
  refine zar (zad (zaN qq ?_))
  (refine zaa (zah (r:=.p _)) rfl rfl ?_)
  (refine zaa (zaG (r:=.p _)) rfl rfl ?_)
  refine zac (zaq (⟨qO,_,(fun o=>o),(.tmp _ _ _ _ rfl .nil),?_,rfl,?_,rfl⟩))
  ·rw[qbC (show Q.length≤k by omega)];first|done|(refine(?_:_=_);kernel_rfl)
  ·exact trivial
def nkey(n:NtP):Key:=zeW n.1.toNat n.2.toNat
structure TM(T:TR)(M:List (Key×Own)):Prop where
 v:T.valid
 s:T.short
 p:M.Perm T.pairs
 l:T.list.length≤2*M.length
 k:∀x∈M,x.1.length≤32
 o:∀x∈M,x.2.size≤140737488351232
theorem TM.nil:TM .nil []:=⟨trivial,trivial,.nil,Nat.le_refl _,qG,qG⟩
theorem TM.put{T:TR}{M:List (Key×Own)}(h:TM T M){n:Key}{o:Own}(hn:n.length≤32)(ho:o≠noOwn)(hz:o.size≤140737488351232)(hk:∀x∈M,x.1≠n):TM (T.put n o) (M++[(n,o)]):=by
 have hp:=TR.put_pairs (n:=n) h.v ho;rw[zeu (fun x hx=>hk x (h.p.mem_iff.2 hx))]at hp;refine⟨(TR.put_valid h.v ho).1,put_short h.v h.s hn ho,?_,?_,?_,?_⟩
 ·exact(List.perm_append_singleton _ _).trans ((List.Perm.cons _ h.p).trans hp.symm)
 ·have:=TR.put_len T n o;have:=h.l;rw[qbm];simp only[qbE,qcQ];omega
 ·intro x hx;rcases qbD.1 hx with hx|hx
  ·exact h.k x hx
  ·have:x=(n,o):=by simpa using hx
   rw[this];exact hn
 ·intro x hx;rcases qbD.1 hx with hx|hx
  ·exact h.o x hx
  ·have:x=(n,o):=by simpa using hx
   rw[this];exact hz
theorem TM.ok{T:TR}{M:List (Key×Own)}(h:TM T M)(hM:M.length≤1000):∀x∈T.list,x.OK:=
 TR.list_ok h.s (fun x hx=>h.o x (h.p.mem_iff.2 hx)) (by have:=h.l;omega)
theorem TM.grown{T:TR}{M:List (Key×Own)}(h:TM T M):zgm M=T.list:=zfP h.v h.p
theorem zgL{a b:Int}(h0:0≤a)(h1:a<4294967296)(hf:zaD a b=0):(nkey (a,b)).length≤32∧a=zaB (nkey (a,b))∧b=((nkey (a,b)).length:Int):=
 ND.keyed (x:=⟨a,b,noOwn,0⟩) h0 h1 hf
theorem nkey_inj{n m:NtP}(hn:ntOK n)(hm:ntOK m)(fn:zaD n.1 n.2=0)(fm:zaD m.1 m.2=0)(h:nkey n=nkey m):n=m:=by
 obtain⟨a,b⟩:=n;obtain⟨c,d⟩:=m;obtain⟨_,h1,h2⟩:=zgL hn.1 hn.2 fn;obtain⟨_,h3,h4⟩:=zgL hm.1 hm.2 fm;rw[h]at h1 h2;have e1:a=c:=h1.trans h3.symm;have e2:b=d:=h2.trans h4.symm;rw[e1,e2]
def zbA(p:PE)(j:Nat):List (Key×Own):=(p.nets.take j).map fun n=>(nkey n,p.key)
def zaH(l:List PE)(i:Nat):List (Key×Own):=(l.take i).flatMap fun p=>p.nets.map fun n=>(nkey n,p.key)
theorem zfM{l:List PE}{i:Nat}{p:PE}(h:l[i]?=some p):zaH l (i+1)=zaH l i++zbA p p.nets.length:=by
 obtain⟨h1,h2⟩:=qbl.1 h;unfold zaH zbA;rw[qbs h1,h2,qbV,qbL];simp
theorem zfK{p:PE}{j:Nat}{n:NtP}(h:p.nets[j]?=some n):zbA p (j+1)=zbA p j++[(nkey n,p.key)]:=by
 obtain⟨h1,h2⟩:=qbl.1 h;unfold zbA;rw[qbs h1,h2,qbY];rfl
theorem pairs_keys(l:List PE)(i:Nat)(p:PE)(j:Nat):∀x∈zaH l i++zbA p j,∃m,m∈zcE l i++p.nets.take j∧x.1=nkey m:=by
 intro x hx;rcases qbD.1 hx with hx|hx
 ·unfold zaH at hx;obtain⟨q,hq,hx⟩:=qcA.1 hx;obtain⟨m,hm,rfl⟩:=qbv.1 hx;exact⟨m,qbD.2 (.inl (qcA.2 ⟨q,hq,hm⟩)),rfl⟩
 ·unfold zbA at hx;obtain⟨m,hm,rfl⟩:=qbv.1 hx;exact⟨m,qbD.2 (.inr hm),rfl⟩
theorem pairsB_len(l:List PE):∀i,(zaH l i).length=(zcE l i).length:=by
 intro i;unfold zaH zcE
 induction (l.take i)with
 |nil=>rfl
 |cons p r ih=>simp[qb7,ih]
theorem dupN_no:∀(ns acc:List NtP),dupN acc ns=false→∀j (n:NtP),ns[j]?=some n→n∉acc++ns.take j
 | [],_,_,j,n,h=>by simp at h
 |x::r,acc,hd,0,n,h=>by
  unfold dupN at hd;rw[Bool.or_eq_false_iff]at hd;simp at h;subst h;simpa using hd.1
 |x::r,acc,hd,j+1,n,h=>by
  unfold dupN at hd;rw[Bool.or_eq_false_iff]at hd;have:=dupN_no r (acc++[x]) hd.2 j n qB
  rwa [qby,qb3]at this
structure CfGood(l:List PE):Prop where
 n6:l.length≤6
 pe:∀p∈l,peE p=0
 nd:∀i p,l[i]?=some p→dupN (zcE l i) p.nets=false
theorem zgY{c:CF}(h:cfE c=0):CfGood c.ps:=by
 unfold cfE at h
 split at h
 ·rename_i h2;exact absurd h h2.2
 split at h
 ·cases h
 split at h
 ·cases h
 have key:∀i p,c.ps[i]?=some p→peE p=0∧dupN (zcE c.ps i) p.nets=false:=by
  intro i p hp;have hi:=(qbl.1 hp).1;have h1:=zfp h i hi;unfold ze1 at h1;rw[zhY hp]at h1
  split at h1
  ·exact absurd h1 qah
  ·rename_i h2
   split at h1
   ·cases h1
   split at h1
   ·cases h1
   ·rename_i h3;exact⟨qbq.1 h2,by simpa using h3⟩
 refine⟨qp,fun p hp=>?_,fun i p hp=>(key i p hp).2⟩;obtain⟨i,hi,rfl⟩:=List.getElem_of_mem hp;exact(key i _ (List.getElem?_eq_getElem hi)).1
theorem CfGood.net{l:List PE}(h:CfGood l){p:PE}(hp:p∈l):∀n∈p.nets,zaD n.1 n.2=0:=by
 have h1:=h.pe p hp;unfold peE at h1
 split at h1
 ·exact absurd h1 qah
 split at h1
 ·rename_i h2;exact absurd h1 h2.2
 split at h1
 ·cases h1
 split at h1
 ·rename_i h2;exact absurd h1 h2.2
 split at h1
 ·cases h1
 split at h1
 ·cases h1
 intro n hn;obtain⟨j,hj,rfl⟩:=List.getElem_of_mem hn;have h2:=zfp h1 j hj;unfold zdb at h2;have hg:ntG p.nets j=p.nets[j]:=by unfold ntG;rw[List.getD_eq_getElem?_getD,List.getElem?_eq_getElem hj];rfl
 rw[hg]at h2
 split at h2
 ·exact absurd h2 qah
 ·rename_i h3;exact qbq.1 h3
theorem CfGood.netB{l:List PE}(h:CfGood l)(ok:∀p∈l,p.OK)(i:Nat):∀n∈zcE l i,ntOK n∧zaD n.1 n.2=0:=by
 intro n hn;obtain⟨p,hp,hn⟩:=qcA.1 hn;have hm:=qbI hp;exact⟨(ok p hm).nets n hn,h.net hm n hn⟩
theorem CfGood.new{l:List PE}(h:CfGood l)(ok:∀p∈l,p.OK){i j:Nat}{p:PE}{n:NtP}(hp:l[i]?=some p)(hn:p.nets[j]?=some n):∀x∈zaH l i++zbA p j,x.1≠nkey n:=by
 intro x hx he;obtain⟨m,hm,hk⟩:=pairs_keys l i p j x hx;have hpm:=qbo hp;have hnm:=qbo hn
 have hmok:ntOK m∧zaD m.1 m.2=0:=by
  rcases qbD.1 hm with hm|hm
  ·exact h.netB ok i m hm
  ·have hm:=qbI hm;exact⟨(ok p hpm).nets m hm,h.net hpm m hm⟩
 have:m=n:=nkey_inj hmok.1 ((ok p hpm).nets n hnm) hmok.2 (h.net hpm n hnm) (hk.symm.trans he);subst this;exact dupN_no _ _ (h.nd i p hp) j m hn hm
theorem zjP{s:ByteArray}(h:keyE s=0):s.size≤140737488351232:=by
 unfold keyE at h
 split at h
 ·omega
 ·cases h
theorem key_own{s:ByteArray}(h:keyE s=0):s≠noOwn:=by
 intro e;rw[e]at h;exact absurd h qaS
def tOf(M:List (Key×Own)):TR:=M.foldl (fun t x=>t.put x.1 x.2) .nil
theorem tOf_snoc(M:List (Key×Own))(x:Key×Own):tOf (M++[x])=(tOf M).put x.1 x.2:=by
 unfold tOf;rw[qcH];rfl
theorem zfJ(p:PE):zbA p 0=[]:=by simp[zbA]
theorem zfL(l:List PE):zaH l 0=[]:=by simp[zaH]
theorem zgK(p:PE){j:Nat}(h:j≤p.nets.length):(zbA p j).length=j:=by
 unfold zbA;rw[List.length_map,List.length_take];omega
theorem tOf_in{l:List PE}(h:CfGood l)(ok:∀p∈l,p.OK){i:Nat}{p:PE}(hp:l[i]?=some p)(hT:TM (tOf (zaH l i)) (zaH l i)):∀j,j≤p.nets.length→TM (tOf (zaH l i++zbA p j)) (zaH l i++zbA p j)
 |0,_=>by rw[zfJ,List.append_nil];exact hT
 |j+1,hj=>by
  have ih:=tOf_in h ok hp hT j qp;have hm:=qbo hp;have hn:p.nets[j]?=some p.nets[j]:=List.getElem?_eq_getElem qp;have hnm:=qbo hn;have hk:=(zdK (h.pe p hm)).2;have hno:=(ok p hm).nets _ hnm;rw[zfK hn,←qby,tOf_snoc];exact ih.put (zgL hno.1 hno.2 (h.net hm _ hnm)).1 (key_own hk) (zjP hk) (h.new ok hp hn)
theorem zgC{l:List PE}(h:CfGood l)(ok:∀p∈l,p.OK):∀i,i≤l.length→TM (tOf (zaH l i)) (zaH l i)
 |0,_=>by rw[zfL];exact TM.nil
 |i+1,hi=>by
  have hp:l[i]?=some l[i]:=List.getElem?_eq_getElem qp;rw[zfM hp];exact tOf_in h ok hp (zgC h ok i qp) _ (Nat.le_refl _)
theorem zeS{l:List PE}(h:CfGood l){i:Nat}(hi:i≤l.length):(zaH l i).length≤8*i:=by
 rw[pairsB_len];refine netsB_len (fun j hj=>?_) hi;have hj':l[j]?=some l[j]:=List.getElem?_eq_getElem qp;rw[zhY hj'];exact(zdK (h.pe _ (qbo hj'))).1
end Go.Proofs.YtdiljgkijgiboaaGreatDoor
namespace Go.Proofs.YtdiljgkijgiboaaGreatDoor
open Tryz
open Go.RowKit Go.Sort
def zcF(l:List ND)(a:Int):ByteArray:=(zcq l).find (zeW a.toNat 32) noOwn
def zfS(l:List ND)(a:Int):Int:=if zcu l≠0 then zcu l else if zcF l a=noOwn then 11 else 0
def findR(l:List ND)(a:Int):AV:=.tup [qc (if zfS l a=0 then zcF l a else noOwn),qd (zfS l a)]
theorem nrAddr{a:Int}(h0:0≤a)(h1:a<4294967296):(zeW a.toNat 32).length=32∧a=zaB (zeW a.toNat 32):=by
 refine⟨zd9 _ _,?_⟩;have:=zh6 a.toNat 32 qp qp;unfold zaB zei;rw[zd9,this];simp;omega
theorem kHas_s(p q:Key)(hp:p.length≤32)(hq:q.length=32):Fn prog 52 [.agg (keyA p),qe (zaB q)] (qf (decide (p<+:q))) []:=by
 have h:=nHas_s (zaB p) p.length (zaB q) (zba p hp).1 (zba p hp).2 (zba q qp).1 (zba q qp).2;rw[has_pre p q hp hq]at h;exact h
theorem trfind_s(l:List ND)(hok:∀x∈l,x.OK)(hz:l.length*40≤140737488351232)(a:Int)(a0:0≤a)(a1:a<4294967296):Fn prog 10 [.p (ndsV l),qe a] (findR l a) []:=by
 have hC:=tcheck_s l hok qp;have hT:=tree_s l hok qp;have hTi:=zd2 hok;unfold findR zfS
 by_cases h1:zcu l≠0
 ·rw[if_pos h1,if_neg h1];generalize zcu l=e at*;refine fnI fun w0 A=>?_
  refine G [9] ?_;exact jc1
 rw[if_neg h1];replace h1:zcu l=0:=qbq.1 h1;rw[h1]at hC;obtain⟨hv,hs,hl⟩:=hTi.1 h1;have hT':Fn prog 51 [.p (ndsV l)] (.p (trP (zcq l))) []:=hT;obtain⟨q32,qa⟩:=nrAddr a0 a1;obtain⟨R,hR⟩:∃R,R=zcF l a:=⟨_,rfl⟩;rw[←hR];unfold zcF at hR;generalize zeW a.toNat 32=q at*;subst qa;have q32':(32:Int)=(q.length:Int):=by rw[q32];rfl
 generalize zcq l=t0 at*;clear hTi hT hl;refine fnI fun w0 A=>?_
 refine G [9] ?_;refine cV hC ?_;refine G [5,1,1,9,0] ?_;refine cX ?_ ?_<;>intro h
 ·cases h
 refine G [16] ?_;refine cK hT' ?_;refine G [3] ?_;refine ze4 (St.of [(7,qc R)] []) ?_ ?_
 ·refine zag (fun m st=>∃(t:TR) (acc:ByteArray),t.list.length≤m∧t.short∧t.find q acc=R∧st=St.of [(1,qe (zaB q)),(7,qc acc),(8,.ref 8 0),(9,.p (trP t))] [(8,.box 101 [qe (zaB q),qd 32])]) t0.list.length ?_ ?_
  ·refine⟨_,zai id _ _ qv qv rfl,t0,noOwn,Nat.le_refl _,hs,hR.symm,rfl⟩
  rintro m st ⟨t,acc,hm,hts,htR,rfl⟩;cases t with
  |nil=>
   rw[TR.find]at htR;subst htR;show awp _ _ _ (St.of [(1,qe (zaB q)),(7,qc acc),(8,.ref 8 0),(9,.p (.v (.pointer none)))] _);refine G [4] ?_;refine jfZ (a_pneNN U110) ?_;refine G [9,9,0] ?_;refine cX ?_ ?_<;>intro h
   ·cases h
   ·refine zar (za8 (za8 (zbi (zat ?_))));exact zfu _ qv
  |nd p o tl tr=>
   have hH:=kHas_s p q hts.1 q32;have hEq:=keyEq (q:=q) hts.1;show awp _ _ _ (St.of [(1,qe (zaB q)),(7,qc acc),(8,.ref 8 0),(9,.p (.pt [qi (zaB p),qh p.length,qg o,trP tl,trP tr]))] _);unfold keyA netA at hH;rw[TR.list_nd]at hm;simp only[qbE,qbm]at hm;rw[TR.find]at htR;rw[←q32']at hEq;refine G [4] ?_;refine jfZ (a_pnePN U110) ?_;refine G [2] ?_;refine jfZ zbm ?_;refine jfZ (zan zb5 rfl) ?_;refine jeH ?_
   refine jdn ?_
   (first|refine zbR rfl ?_|refine zaU (fun n=>27+1000*n) (hH) rfl rfl func52 rfl rfl qA qA rfl rfl rfl qr rfl rfl rfl ?_)
   refine jdR ?_;refine cX ?_ ?_<;>intro h
   ·have hpq:p<+:q:=qB;clear h;rw[if_pos hpq]at htR;refine G [7] ?_;refine jfZ zbm ?_;refine jfZ (zan fi115_1 rfl) ?_;refine jd3 ?_;refine jdR ?_;refine zb3 (St.of [(1,qe (zaB q)),(7,qc (if o≠noOwn then o else acc)),(8,.ref 8 0),(9,.p (.pt [qi (zaB p),qh p.length,qg o,trP tl,trP tr]))] [(8,.box 101 [qe (zaB q),qd 32])]) ?_ ?_
    ·refine cX ?_ ?_<;>intro h
     ·have ho:o≠noOwn:=qB;rw[if_pos ho]
      skip
      refine G [2] ?_;refine jfZ zbm ?_;refine jfZ (zan fi115_1 rfl) ?_;refine jd3 ?_;refine jdR ?_;exact jar
     ·have ho:¬o≠noOwn:=qB;rw[if_neg ho];exact jbW
    generalize (if o≠noOwn then o else acc)=acc' at htR⊢;refine G [3] ?_;refine jfZ zbm ?_;refine jfZ (zan zb5 rfl) ?_;refine jeH ?_;refine lN U101 rfl zbw rfl rfl ⟨rfl,trivial⟩ ?_;refine zaa (zeH U101 rfl rfl qq qq qq) rfl rfl ?_;refine zac ⟨qq,?_⟩;refine zat (cX (fun h=>?_) fun h=>?_)
    ·have he:p=q:=by
      exact jdf
     rw[if_pos he]at htR;exact jbE
    ·have he:p≠q:=by
      exact jdf
     clear h;rw[if_neg he]at htR;have hx:=zb7 hpq (fun e=>he e.symm);have hlt:p.length<q.length:=qaH;have hS:=side_s p q hlt qp;rw[←q32']at hS;cases hb:zby q p.length with
     |true=>
      rw[show bitN q p.length=1 by unfold bitN;rw[hb];rfl]at hS;rw[hb,if_pos rfl]at htR;refine jfp ?_;refine⟨m-1,qp,_,zai id _ _ qv qv rfl,tr,acc',qp,hts.2.2,htR,rfl⟩
     |false=>
      rw[show bitN q p.length=0 by unfold bitN;rw[hb];rfl]at hS;rw[hb,if_neg (by simp)]at htR;refine jfp ?_;refine⟨m-1,qp,_,zai id _ _ qv qv rfl,tl,acc',qp,hts.2.1,htR,rfl⟩
   ·have hpq:¬p<+:q:=qB;clear h;rw[if_neg hpq]at htR;exact jbE
 refine jdw ?_;refine cX ?_ ?_<;>intro h
 ·have hRn:R=noOwn:=qB;rw[if_pos hRn];exact jaB
 ·have hRn:R≠noOwn:=qB;rw[if_neg hRn];exact jbs
end Go.Proofs.YtdiljgkijgiboaaGreatDoor
namespace Go.Proofs.YtdiljgkijgiboaaGreatDoor
open Go.RowKit Go.Sort
theorem trie_few{l:List ND}(hok:∀x∈l,x.OK)(h:zcu l=0):(∀x∈l,x.fault=0)∧prs l=(zcq l).pairs∧(prs l).length≤8589934592:=by
 obtain⟨hv,hs,hl⟩:=(zd2 hok).1 h
 have hp : prs l = (zcq l).pairs := by conv => lhs; rw [hl]
                                       exact zgc hs
 refine⟨fun x hx=>TR.list_fault hs x (by rw[←hl];exact hx),hp,?_⟩;rw[hp]
 have:=keys_few (TR.pairs_nodup hv) fun p hp=>by
  obtain⟨x,hx,rfl⟩:=qbv.1 hp;exact TR.pairs_short hs x hx
 rwa [List.length_map]at this
end Go.Proofs.YtdiljgkijgiboaaGreatDoor
