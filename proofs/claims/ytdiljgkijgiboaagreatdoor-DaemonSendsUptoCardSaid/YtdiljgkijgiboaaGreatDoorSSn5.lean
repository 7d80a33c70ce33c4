/- Used. -/
import Derived.Test.YtdiljgkijgiboaaGreatDoorSTi3
set_option linter.all false
set_option maxRecDepth 100000
set_option maxHeartbeats 16000000
namespace Go.Proofs.YtdiljgkijgiboaaGreatDoor
open Tryz
open Go.RowKit Go.Sort
def pkB(p:PQ):List Int:=packB p.a.toNat p.b.toNat p.xs.length p.xs
noncomputable def snS(now:Int)(s:ST)(p:PQ):ST:=if zbv s.a now=true then {s with a:=ksK s.a} else {s with q:=s.q++[p]}
noncomputable def snL(now:Int)(s:ST)(zs:List Int):List LR:=if zbv s.a now=true then [⟨⟨#[]⟩,s.ep,zs⟩]else []
noncomputable def snB(now:Int)(s:ST):Bool:=(!s.h.lv&&oldB s.a now)&&(s.a.first|| !zbv s.a now)
def snHd(d:DM)(s:ST):ST:={s with h:=⟨true,d.last+1,nonX d.c.key (d.last+1),d.now,d.now⟩}
def snDD(d:DM)(h:Bool):DM:=if h=true then {d with last:=d.last+1} else d
def snSS(d:DM)(h:Bool)(s:ST):ST:=if h=true then snHd d s else s
def snLL(h:Bool)(l:List LR)(ep:ByteArray)(ys:List Int):List LR:=if h=true then l++[⟨⟨#[]⟩,ep,ys⟩]else l
noncomputable def snF(d:DM)(i:Nat)(s:ST)(p:PQ)(zs ys:List Int):DM×List LR×Int:=
 if(snDD d (snB d.now (snS d.now s p))).last≤4294967235 then({snDD d (snB d.now (snS d.now s p))with ps:=d.ps.set i (snSS d (snB d.now (snS d.now s p)) (snS d.now s p))},snLL (snB d.now (snS d.now s p)) (snL d.now s zs) s.ep ys,0)else(dm0,[],4)
noncomputable def snR(d:DM)(p:PQ)(zs ys:List Int):DM×List LR×Int:=
 if dmE d≠0 then(dm0,[],dmE d)else if 200<p.xs.length then(dm0,[],1)else if zfS d.tree p.b≠0 then(dm0,[],zfS d.tree p.b)else if d.c.key=⟨#[]⟩then(dm0,[],13)else
 match d.ps[peN (zcF d.tree p.b) d.c.ps]? with
 |none=>(dm0,[],0)
 |some s=>if s.ep=⟨#[]⟩then(dm0,[],5)else if zbv s.a d.now=false∧s.q.length=3 then(dm0,[],7)else snF d (peN (zcF d.tree p.b) d.c.ps) s p zs ys
def snV(x:DM×List LR×Int):AV:=.tup [.agg x.1.cells,ql x.2.1.length 3 (x.2.1.flatMap LR.pv),qd x.2.2]
structure SnH(d:DM)(p:PQ)(i:Nat)(s:ST)(pe:PE)(zs ys:List Int):Prop where
 sl:zbv s.a d.now=true→∃e:Int,
  Fn prog 106 [.agg (snM s.a (pkB p)).cells] (.tup [ql zs.length 1 (bs zs),qd e]) []∧
  Fn prog 121 [.agg (snM s.a (pkB p)).cells] (.tup [.row 0,qd e]) [(0,.row 5 1 zs.length (bs zs))]
 hello:∃(m:MS) (e e':Int),
  Fn prog 109 [qc d.c.key,qc pe.key,qc pe.sh,qd (d.last+1),qc (nonX d.c.key (d.last+1))] (.tup [.agg m.cells,qd e]) []∧
  Fn prog 82 [qc d.c.key,qc pe.key,qc pe.sh,qd (d.last+1),qc (nonX d.c.key (d.last+1))] (.tup [.agg m.cells,qd e]) []∧
  Fn prog 106 [.agg m.cells] (.tup [ql ys.length 1 (bs ys),qd e']) []∧
  Fn prog 121 [.agg m.cells] (.tup [.row 0,qd e']) [(0,.row 5 1 ys.length (bs ys))]
theorem pcheckC_s(p:PQ)(hn:p.xs.length≤1048576)(hp:0≤p.a∧p.a<4294967296∧0≤p.b∧p.b<4294967296):Fn prog 46 [.agg p.cells] (qd (if 200<p.xs.length then 1 else 0)) []:=by
 have h:=pcheck_s p.a.toNat p.b.toNat p.xs.length p.xs qp;unfold pkt at h;rw[show((p.a.toNat:Nat):Int)=p.a by omega,show((p.b.toNat:Nat):Int)=p.b by omega]at h;exact h
theorem encD_s(p:PQ)(hn:p.xs.length≤200)(hB:isB p.xs)(hp:0≤p.a∧p.a<4294967296∧0≤p.b∧p.b<4294967296):Fn prog 9 [.agg p.cells] (.tup [ql (pkB p).length 1 (bs (pkB p)),qd 0]) []:=by
 have h:=enc_s p.a.toNat p.b.toNat p.xs.length p.xs qp qp rfl hB hn;exact jb7
theorem encX_s(p:PQ)(h:200<p.xs.length)(hn:p.xs.length≤1048576)(hp:0≤p.a∧p.a<4294967296∧0≤p.b∧p.b<4294967296):Fn prog 9 [.agg p.cells] (.tup [qm,qd 1]) []:=by
 have hC:=pcheckC_s p hn hp;rw[if_pos h]at hC;refine fnI fun w0 A=>?_
 refine G [9] ?_;refine jdp ?_;refine cK hC ?_;refine G [15,9,0] ?_;exact yE
theorem sn_done{f:FuncId}{args:List AV}{d:DM}{N:Nat}{P:List ST}{L:List LR}(hN:N=P.length)(h:Fn prog f args (.tup [.agg (moD d (.row 0)),.row 1,qd 0]) [(0,.row 66 41 N (P.flatMap ST.pv)),(1,.row 75 3 L.length (L.flatMap LR.pv))]):
 Fn prog f args (snV ({d with ps:=P},L,0)) []:=by
 subst hN;exact zfq h rfl rfl
theorem send_s(d:DM)(ok:d.OK)(p:PQ)(hn:p.xs.length≤1048576)(hB:isB p.xs)(hp:0≤p.a∧p.a<4294967296∧0≤p.b∧p.b<4294967296)(zs ys:List Int)(hZ:dmE d=0→p.xs.length≤200→∀(i:Nat) (s:ST) (pe:PE),i=peN (zcF d.tree p.b) d.c.ps→d.ps[i]?=some s→d.c.ps[i]?=some pe→SnH d p i s pe zs ys):
 Fn prog 4 [.agg d.cells,.agg p.cells] (snV (snR d p zs ys)) []:=by
 have hC:=dmCheck_s d ok;unfold snR
 by_cases h0:dmE d≠0
 ·rw[if_pos h0];refine zcJ ?_;generalize dmE d=e at*;refine fnI fun w0 A=>?_
  refine G [11] ?_;refine jdo ?_;refine cK hC ?_;refine G [5,4,11,9,0] ?_;exact yE
 rw[if_neg h0];have h0:dmE d=0:=qbq.1 h0;have hZ:=hZ h0;have g:=dm_tk h0;have hop:=fun h2=>ziW (a:=p.b) ok h0 h2
 rw[h0]at hC
 by_cases h1:200<p.xs.length
 ·rw[if_pos h1];refine zcJ ?_;have hE:=encX_s p h1 hn hp;refine fnI fun w0 A=>?_
  refine G [11] ?_;refine jdo ?_;refine cK hC ?_;refine G [5,1,5] ?_;refine jdp ?_;refine cK hE ?_;refine G [22,9,0] ?_;exact yE
 rw[if_neg h1];have hZ:=hZ qp;have hE:=encD_s p qp hB hp
 have hbl:(pkB p).length≤220:=by
  exact jcY
 have hbB:isB (pkB p):=packB_B _ _ _ _ hB;have hF:=trfind_s d.tree ok.tree ok.treeN p.b hp.2.2.1 hp.2.2.2;unfold findR at hF
 by_cases h2:zfS d.tree p.b≠0
 ·rw[if_pos h2];refine zcJ ?_;rw[if_neg h2]at hF;generalize zfS d.tree p.b=e at*;refine fnI fun w0 A=>?_
  refine G [11] ?_;refine jfd ?_;refine G [10,4,11,9,0] ?_;exact yE
 rw[if_neg h2];have h2:zfS d.tree p.b=0:=qbq.1 h2;rw[if_pos h2,h2]at hF;have hi:=hop h2;have hP:=find_s d.c ok.c (zcF d.tree p.b);rw[if_pos hi]at hP;have hiN:peN (zcF d.tree p.b) d.c.ps<d.ps.length:=by rw[g.same];exact hi
 obtain⟨s,hs⟩:∃s,d.ps[peN (zcF d.tree p.b) d.c.ps]?=some s:=⟨_,List.getElem?_eq_getElem hiN⟩;obtain⟨pe,hpe⟩:∃pe,d.c.ps[peN (zcF d.tree p.b) d.c.ps]?=some pe:=⟨_,List.getElem?_eq_getElem hi⟩;have hH:=hZ _ s pe rfl hs hpe;rw[hs];dsimp only;clear hop hZ;obtain⟨i,hie⟩:∃i,peN (zcF d.tree p.b) d.c.ps=i:=⟨_,rfl⟩;rw[hie]at hP hi hiN hs hpe hH⊢;generalize zcF d.tree p.b=ow at*;have hnow:=g.now;have hoks:=(ok.ps s (qbo hs)).1
 have hFr:=zjY s.a hoks.a d.now qp qp;have hsl:(d.ps.flatMap ST.pv).length=d.ps.length*41:=zaO (f:=ST.pv) (k:=41) (fun _=>rfl) d.ps;have hky:((d.ps.flatMap ST.pv).drop (i*41+2+0)).take 11=s.a.pv:=zfR (f:=ST.pv) (k:=41) (fun _=>rfl) hs (q:=2) (n:=11) qS;have hep:(d.ps.flatMap ST.pv)[i*41+1]?=some (qg s.ep):=zeX (f:=ST.pv) (k:=41) (fun _=>rfl) hs qS;have hqu:(d.ps.flatMap ST.pv)[i*41+40]?=some (.sl s.q.length 3 (s.q.flatMap PQ.pv)):=zeX (f:=ST.pv) (k:=41) (fun _=>rfl) hs qS
 by_cases h3:d.c.key=⟨#[]⟩
 ·rw[if_pos h3];refine zcJ ?_;have hK:=zik d ok;generalize d.ps.flatMap ST.pv=SP at*;generalize zbv s.a d.now=f at*;refine fnI fun w0 A=>?_
  refine jfK ?_
  skip
  refine G [7] ?_;refine jfZ (za2 (c:=true) (decide_eq_true h3)) ?_;refine G [11,9,0] ?_;exact yE
 rw[if_neg h3]
 by_cases h4:s.ep=⟨#[]⟩
 ·rw[if_pos h4];refine zcJ ?_;have hK:=zik d ok;generalize d.ps.flatMap ST.pv=SP at*;generalize zbv s.a d.now=f at*;refine fnI fun w0 A=>?_
  refine jfK ?_
  skip
  refine G [7] ?_;refine jeV ?_;refine G [8] ?_;refine jf0 (zaQ U9 rfl hep) ?_;refine jfZ (za2 (c:=true) (decide_eq_true h4)) ?_;refine G [11,9,0] ?_;exact yE
 rw[if_neg h4]
 by_cases h5:zbv s.a d.now=false∧s.q.length=3
 ·rw[if_pos h5];refine zcJ ?_;have hK:=zik d ok;rw[h5.1]at hFr;generalize d.ps.flatMap ST.pv=SP at*;refine fnI fun w0 A=>?_
  refine jfK ?_
  skip
  refine G [7] ?_;refine jeV ?_;refine G [8] ?_;refine jf0 (zaQ U9 rfl hep) ?_;refine jfZ (za2 (c:=false) (decide_eq_false h4)) ?_;refine G [11] ?_;refine jf0 (zaQ U64 rfl hqu) ?_;refine jfZ (zdd U64) ?_;refine zaa (a_eqlV (c:=true) (by simp[h5.2])) rfl rfl ?_;refine jd2 ?_;exact yE
 rw[if_neg h5];obtain⟨s1,h6⟩:∃s1,snS d.now s p=s1:=⟨_,rfl⟩;obtain⟨L1,h7⟩:∃L1,snL d.now s zs=L1:=⟨_,rfl⟩;unfold snF;rw[h6,h7]
 have hlast:0≤d.last∧d.last≤4294967235:=by
  exact jcv
 have hs1p:s1.ep=s.ep∧s1.a.OK:=by
  exact jbh
 obtain⟨he1,hok1⟩:=hs1p;have hFr1:=zjY s1.a hok1 d.now qp qp;have hOl1:=old_s s1.a hok1 d.now qp qp;have hs1:(d.ps.set i s1)[i]?=some s1:=qaZ;have hky1:(((d.ps.set i s1).flatMap ST.pv).drop (i*41+2+0)).take 11=s1.a.pv:=zfR (f:=ST.pv) (k:=41) (fun _=>rfl) hs1 (q:=2) (n:=11) qS;have hlv1:((d.ps.set i s1).flatMap ST.pv)[i*41+35+0]?=some (.v (.bool s1.h.lv)):=zeX (f:=ST.pv) (k:=41) (fun _=>rfl) hs1 (q:=35) qS
 have hsl1:((d.ps.set i s1).flatMap ST.pv).length=d.ps.length*41:=qak
 have hL1:L1.length≤1:=by
  rw[←h7];unfold snL
  split<;>simp
 have hpn:=ok.psN;have hcn:=ok.c.len;obtain⟨hb,hhb⟩:∃hb,snB d.now s1=hb:=⟨_,rfl⟩;rw[hhb];obtain⟨d2,hd2⟩:∃d2,snDD d hb=d2:=⟨_,rfl⟩;obtain⟨s2,hs2⟩:∃s2,snSS d hb s1=s2:=⟨_,rfl⟩;obtain⟨L2,hL2⟩:∃L2,snLL hb L1 s.ep ys=L2:=⟨_,rfl⟩;rw[hd2,hs2,hL2];have hK:=dmCopyA_s d ok i s hs;have hdr:((arS d.ps i s 1052).drop (i*41+2+0)).take 11=s.a.cells:=arS_dr hs (m:=2) (n:=11) qS;have hae:(arS d.ps i s 9)[i*41+1]?=some (qc s.ep):=arS_at hs qS
 have haq:(arS d.ps i s 9)[i*41+40]?=some (.row 9):=arS_at hs qS;have hset:=arS_set (q:=9) hs 87
 have hcv0:CellV [(9,Slot.live (.row 36 3 s.q.length (s.q.flatMap PQ.pv)))] (arS d.ps i s 9) (d.ps.flatMap ST.pv):=by
  have:=arS_cv (q:=9) (q':=s.q) (fam:=[(9,Slot.live (.row 36 3 s.q.length (s.q.flatMap PQ.pv)))]) hs (qbN.2 rfl)
  rwa [zjt hs]at this
 have hcv1:CellV [(87,Slot.live (.row 36 3 (s.q++[p]).length ((s.q++[p]).flatMap PQ.pv)))] (arS d.ps i s 87) ((d.ps.set i {s with q:=s.q++[p]}).flatMap ST.pv):=arS_cv hs (qbN.2 rfl);have hq2:(s.q++[p]).flatMap PQ.pv=s.q.flatMap PQ.pv++PQ.pv p:=qG;have hql:=hoks.q;rw[hq2,qbm]at hcv1;have hCl:Fn prog 15 [ql p.xs.length 1 (bs p.xs)] (ql p.xs.length 1 (bs p.xs)) []:=zfq (zgu p.xs.length p.xs rfl qp) rfl rfl
 have hMain:Fn prog 4 [.agg d.cells,.agg p.cells] (if d2.last≤4294967235 then .tup [.agg (moD d2 (.row 0)),.row 1,qd 0]else .tup [.agg zdmC,qm,qd 4]) (if d2.last≤4294967235 then [(0,.row 66 41 d.ps.length ((d.ps.set i s2).flatMap ST.pv)),(1,.row 75 3 L2.length (L2.flatMap LR.pv))]else []):=by
  refine fnI fun w0 A=>?_
  refine jfh ?_;refine jdR ?_;refine za3 (zgJ 54 15 7 75 3 rfl rfl rfl) ?_;refine G [8] ?_;refine zab (zcN (o:=52) (i:=(i:Int)) (n:=d.ps.length) (size:=41) (c:=none) (cs:=arS d.ps i s 1052) (q:=i*41) U26 sz66 qp qp rfl) rfl rfl ⟨qX,trivial⟩ ?_;refine G [9] ?_;refine zab (a_loadNRA (o:=52) (off:=i*41+2+0) (n:=d.ps.length) (size:=41) (c:=none) (cs:=arS d.ps i s 1052) (es:=s.a.cells) U59 rfl sz59 (by rw[zkc hs];omega) hdr rfl) rfl rfl ⟨qX,trivial⟩ ?_
  refine G [5] ?_;refine cK hFr ?_;refine G [2] ?_;refine zat (za3 (show Re _ (St.of [(3,.ref 203 0),(4,.ref 204 0),(8,ql (pkB p).length 1 (bs (pkB p))),(11,qd i),(13,.ref 0 0),(14,.ref 1 (i*41)),(15,qf (zbv s.a d.now))] [(0,.box 53 (moV d (.row 1) (.row 7))),(1,.rowA 66 41 d.ps.length none (arS d.ps i s 9)),(7,.row 75 3 0 []),(9,.row 36 3 s.q.length (s.q.flatMap PQ.pv)),(203,.box 36 p.cells),(204,.box 32 zdmC)])from zai (fun o=>bif Nat.beq o 0 then 54 else bif Nat.beq o 1 then 52 else bif Nat.beq o 9 then 1052 else bif Nat.beq o 203 then 3 else bif Nat.beq o 204 then 4 else o) _ _ ?_ ?_ rfl) ?_)
  ·exact jap
  ·exact⟨⟨rfl,rfl⟩,⟨by show Slot.live (.rowA _ 41 d.ps.length none (AV.renL _ (arS d.ps i s 1)))=Slot.live (.rowA _ 41 d.ps.length none (AV.renL _ (arS d.ps i s 9)));rw[ze7,ze7];rfl,arS_ok rfl⟩,⟨rfl,rfl⟩,⟨rfl,rfl⟩,⟨rfl,rfl⟩,⟨rfl,rfl⟩,trivial⟩
  refine zaj (ze4 (St.of [(4,.ref 204 0),(11,qd i),(13,.ref 0 0),(14,.ref 1 (i*41))] [(0,.box 53 (moV d (.row 1) (.row 7))),(1,.row 66 41 d.ps.length ((d.ps.set i s1).flatMap ST.pv)),(7,.row 75 3 L1.length (L1.flatMap LR.pv)),(204,.box 32 zdmC)]) ?_ ?_)
  ·refine zad ?_
   skip
   refine G [7] ?_;refine jeV ?_;refine G [8] ?_;refine jf0 (zfa U9 rfl hae) ?_;refine jfZ (za2 (c:=false) (decide_eq_false h4)) ?_;refine G [3] ?_;cases hfr:zbv s.a d.now with
   |true=>
    obtain⟨e,hW,_⟩:=hH.sl hfr;have hSe:=moseal_s d d.ps [] i s hs (pkB p) (kSealD_s hoks.a hfr qp qp hbB hbl) zs e hW hpn qG;have e1:s1={s with a:=ksK s.a}:=by rw[←h6];exact if_pos hfr
    have e2:L1=[⟨⟨#[]⟩,s.ep,zs⟩]:=by rw[←h7];exact if_pos hfr
    rw[e1,e2];unfold moS moL moB at hSe;rw[qbP]at hSe;refine za1 (zdh (o:=1) (fam:=[(9,Slot.live (.row 36 3 s.q.length (s.q.flatMap PQ.pv)))]) hcv0 (fun q hq=>by rw[qbN.1 hq];rfl) rfl rfl qG) ?_;generalize (d.ps.set i {s with a:=ksK s.a}).flatMap ST.pv=S1 at*;generalize d.ps.flatMap ST.pv=S0 at*;refine G [21] ?_
    skip
    refine G [4] ?_;refine zbp (hSe) rfl rfl func14 rfl rfl qL rfl ?_;refine zac (zaW (zat ?_));exact zai (fun o=>bif Nat.beq o 7 then 30 else o) _ _ qv qv rfl
   |false=>
    have hq3:s.q.length≠3:=fun e=>h5 ⟨hfr,e⟩
    have e1:s1={s with q:=s.q++[p]}:=by rw[←h6];exact if_neg (by simp[hfr])
    have e2:L1=[]:=by rw[←h7];exact if_neg (by simp[hfr])
    rw[e1,e2];refine G [8] ?_;refine jf0 (zfa U64 rfl haq) ?_;refine G [1,3,10] ?_
    skip
    refine G [5] ?_;refine jf0 (zfa U64 rfl haq) ?_;refine G [6] ?_;refine cK hCl ?_;refine jfZ (zbO pl36 zr36 rfl rfl) ?_;refine zab (xs:=[.agg p.cells]) (zae (es:=(p.cells)) (cs:=(p.pv)) 86 U64 sz36 zc36 (qbk rfl) (qbk rfl) rfl qq qq qq (qbk rfl)) qF rfl ⟨rfl,trivial⟩ ?_;refine zab (zam 87 U64 eo36 (zas) qy qp rfl rfl) rfl rfl ⟨rfl,rfl,rfl,trivial⟩ ?_;refine G [2] ?_;refine zab (a_storeRA (Y:=.row 87) (es:=arS d.ps i s 87) sz64 rfl rfl (by rw[zkc hs];show _+1≤_;omega) hset) rfl rfl ⟨rfl,trivial⟩ ?_
    refine zac ⟨qq,?_⟩;refine zaW (zat (Re.trans (ReO.re (zdh (o:=1) (fam:=[(87,Slot.live (.row 36 3 (s.q.length+1) (s.q.flatMap PQ.pv++PQ.pv p)))]) hcv1 (fun q hq=>by rw[qbN.1 hq];rfl) rfl rfl qG)) ?_));exact zai id _ _ qv qv rfl
  have hS2:(d.ps.set i s2).flatMap ST.pv=(if hb=true then((d.ps.set i s1).set i (snHd d s1)).flatMap ST.pv else(d.ps.set i s1).flatMap ST.pv):=by
   rw[←hs2];unfold snSS
   split
   ·rw[List.set_set]
   ·rfl
  obtain⟨m0,e0,e1,hHe,_,hWy,_⟩:=hH.hello;have hHl:=mohello_s d {d with last:=d.last+1} rfl hlast (d.ps.set i s1) L1 i s1 hs1 pe hpe m0 e0 hHe ys e1 hWy (by rw[qbP];exact hpn) qp hcn;change FnO _ _ _ _ [_,(1,moS ((d.ps.set i s1).set i (snHd d s1))),_,_] _ at hHl;unfold moS moL moB at hHl;simp only[qbP]at hHl;refine zad (zb3 (St.of [(4,.ref 204 0),(13,.ref 0 0)] [(0,.box 53 (moV d2 (.row 1) (.row 7))),(1,.row 66 41 d.ps.length ((d.ps.set i s2).flatMap ST.pv)),(7,.row 75 3 L2.length (L2.flatMap LR.pv)),(204,.box 32 zdmC)]) ?_ ?_)
  ·rw[hS2];generalize (d.ps.set i s1).flatMap ST.pv=S1 at*;refine zad ?_
   skip
   refine G [5] ?_;refine zab (zb1 U59 rfl sz59 qp (hky1)) rfl rfl ⟨rfl,trivial⟩ ?_;refine jf0 (zaT 16 zr59 rfl) ?_;refine jf0 (zaf (Y:=.agg s1.a.cells) sz59 rfl rfl (qbn rfl)) ?_;refine G [7] ?_;refine jf0 (zaQ U4 rfl hlv1) ?_;refine G [2] ?_;refine mb2 _ rfl rfl (fun hb=>(zak U59 rfl sz59 qu (show _=s1.a.cells from rfl))) (fun _=>⟨rfl,trivial⟩) ?_;refine mb2 _ rfl rfl (fun hb=>(zah (r:=.ref _ _))) (fun _=>trivial) ?_
   refine mb2 _ rfl rfl (fun hb=>zeI) (fun _=>trivial) ?_;refine G [3] ?_;refine mb2 _ rfl rfl (fun _=>zbl func16 rfl rfl (hOl1) qD rfl) (fun _=>trivial) ?_;refine G [0,2,4] ?_;refine mb2 _ rfl rfl (fun hb=>(zak U59 rfl sz59 qu (show _=s1.a.cells from rfl))) (fun _=>⟨rfl,trivial⟩) ?_;refine mb2 _ rfl rfl (fun hb=>(zah (r:=.ref _ _))) (fun _=>trivial) ?_;refine mb2 _ rfl rfl (fun hb=>zeI) (fun _=>trivial) ?_
   refine G [3] ?_;refine mb2 _ rfl rfl (fun _=>zbl func13 rfl rfl (hFr1) qD rfl) (fun _=>trivial) ?_;refine mb2 _ rfl rfl (fun hb=>a_not) (fun _=>trivial) ?_;refine r_mb3 _ rfl rfl (.mb _ _ _ _ qao (.keep _ _ _ (.keep _ _ _ .nil))) (fun hb=>(a_or qaf)) (fun _=>trivial) ?_;refine G [0,2,1,9,0] ?_;refine cX ?_ ?_<;>intro h
   ·have hbt:hb=true:=by rw[←hhb];unfold snB;simpa using h
    have g1:d2={d with last:=d.last+1}:=by rw[←hd2,hbt];rfl
    have g2:L2=L1++[⟨⟨#[]⟩,s1.ep,ys⟩]:=by rw[←hL2,hbt,he1];rfl
    rw[g1,g2,if_pos hbt];generalize ((d.ps.set i s1).set i (snHd d s1)).flatMap ST.pv=S3 at*
    skip
    refine G [3] ?_;refine zbp (hHl) rfl rfl func17 rfl rfl qL rfl ?_;refine jfg ?_;exact zai (fun o=>bif Nat.beq o 7 then 30 else o) _ _ qv qv rfl
   ·have hbf:hb=false:=by rw[←hhb];unfold snB;simpa using h
    exact jcL
  generalize (d.ps.set i s2).flatMap ST.pv=S2 at*
  by_cases h8:d2.last≤4294967235
  ·rw[if_pos h8,if_pos h8];have hD:=modone_s d2 h8;unfold moB at hD;refine G [3] ?_;refine zbp (hD) rfl rfl func18 rfl rfl qL rfl ?_;refine G [3] ?_;refine jf0 (zaf (Y:=.agg (moD d2 (.row 1))) sz32 rfl rfl (qbn rfl)) ?_;refine jdY ?_;refine yT (fun o=>bif Nat.beq o 0 then 1 else 7) ?_ ?_
   ·exact rfl
   ·exact jaJ
  ·rw[if_neg h8,if_neg h8];have hD:=modoneX_s d2 h8;unfold moB at hD;refine G [3] ?_;refine zbp (hD) rfl rfl func18 rfl rfl qL rfl ?_;exact jbs
 by_cases h8:d2.last≤4294967235
 ·rw[if_pos h8];rw[if_pos h8,if_pos h8]at hMain;exact sn_done (by rw[qbP]) hMain
 ·rw[if_neg h8];rw[if_neg h8,if_neg h8]at hMain;exact zcJ hMain
theorem refDm_s(d:DM)(ok:d.OK):Fn prog 20 [.agg d.cells] (qd (dmE d)) []:=by
 have hC:=zhW d.c ok.c;have hS:=refStates_s d.ps (fun s hs=>(ok.ps s hs).1) ok.psN;have hG:=refStage_s d.sg ok.sg;have hM:=rmost_s d.ps ok.psN;have hT:=fun h0=>rtree_s d.c ok.c h0
 have hfew:cfE d.c=0→(tOf (zaH d.c.ps d.c.ps.length)).list.length≤4611686018427387904:=fun h0=>by
  exact jcr
 have hn:=ok.psN;have hnq:=ok.c.len;have hnt:d.tree.length≤4611686018427387904:=qbc;obtain⟨E,hE⟩:∃E,dmE d=E:=⟨_,rfl⟩;rw[hE];unfold dmE zfv goodD at hE;generalize cfE d.c=e0 at*;generalize stsE d.ps=e1' at*;generalize sgE d.sg=e2 at*;generalize mostD d.ps=mo at*;clear ok;obtain⟨⟨k1,p1,q1⟩,t1,s1,⟨v1,r1,⟨sk1,sp1,sq1⟩,a1,e1⟩,g1,w1,l1'⟩:=d;dsimp only at hC hS hG hM hT hfew hn hnq hnt hE;generalize (tOf (zaH q1 q1.length)).list=TL at*
 change Fn prog _ [.agg [qc k1,qd p1,ql q1.length 5 (q1.flatMap PE.pv)]] _ _ at hC;change∀h0,Fn prog _ [.agg [qc k1,qd p1,ql q1.length 5 (q1.flatMap PE.pv)]] _ _ at hT;change Fn prog _ [.agg (sgV v1 (sesV r1) sk1 sp1 (CF.row ⟨sk1,sp1,sq1⟩) a1 e1)] _ _ at hG;show Fn prog _ [.agg (dmC k1 p1 (.sl q1.length 5 (q1.flatMap PE.pv)) (.sl t1.length 4 (nds t1)) (.sl s1.length 41 (s1.flatMap ST.pv)) v1 (sesV r1) sk1 sp1 (CF.row ⟨sk1,sp1,sq1⟩) a1 e1 g1 w1 l1')] _ _
 generalize CF.row ⟨sk1,sp1,sq1⟩=SQ1 at*;generalize sesV r1=R1 at*;have hchT:=fun(i:Nat) (x:ND) (h:TL[i]?=some x)=>zav (f:=ND.pv) (k:=4) (fun _=>rfl) h
 have hleT:=fun(i:Nat) (h:i<TL.length)=>zaw (f:=ND.pv) (k:=4) (fun _=>rfl) h
 have hcht:=fun(i:Nat) (x:ND) (h:t1[i]?=some x)=>zav (f:=ND.pv) (k:=4) (fun _=>rfl) h
 have hlet:=fun(i:Nat) (h:i<t1.length)=>zaw (f:=ND.pv) (k:=4) (fun _=>rfl) h
 have hchS:=fun(i:Nat) (x:ST) (h:s1[i]?=some x)=>zav (f:=ST.pv) (k:=41) (fun _=>rfl) h
 have hleS:=fun(i:Nat) (h:i<s1.length)=>zaw (f:=ST.pv) (k:=41) (fun _=>rfl) h
 have hchQ:=fun(i:Nat) (x:PE) (h:q1[i]?=some x)=>zav (f:=PE.pv) (k:=5) (fun _=>rfl) h
 have hleQ:=fun(i:Nat) (h:i<q1.length)=>zaw (f:=PE.pv) (k:=5) (fun _=>rfl) h
 change∀(i:Nat) (x:ND),TL[i]?=some x→((nds TL).drop (i*4)).take 4=x.pv at hchT;change∀(i:Nat),i<TL.length→i*4+4≤(nds TL).length at hleT;change∀(i:Nat) (x:ND),t1[i]?=some x→((nds t1).drop (i*4)).take 4=x.pv at hcht;change∀(i:Nat),i<t1.length→i*4+4≤(nds t1).length at hlet;generalize nds TL=TN at*;generalize nds t1=T1 at*;generalize s1.flatMap ST.pv=L at*;generalize q1.flatMap PE.pv=QL at*;refine fnI fun w0 A=>?_
 refine G [10] ?_;refine cK hC ?_;refine jds ?_;refine cX ?_ ?_<;>intro h
 ·have h1:e0≠0:=qB;exact jbR
 have z0:e0=0:=qB;clear h;rw[if_neg (by rw[z0];simp)]at hE;refine G [6] ?_;refine cK hS ?_;refine jds ?_;refine cX ?_ ?_<;>intro h
 ·have h1:e1'≠0:=qB;exact jbR
 have z1:e1'=0:=qB;clear h;rw[if_neg (by rw[z1];simp)]at hE;refine G [6] ?_;refine cK hG ?_;refine jds ?_;refine cX ?_ ?_<;>intro h
 ·have h1:e2≠0:=qB;exact jbR
 have z2:e2=0:=qB;clear h;rw[if_neg (by rw[z2];simp)]at hE;have hT:=hT z0;have hfew:=hfew z0;clear hC hS hG z0 z1 z2;refine G [11,2,4,2,4,2,5] ?_;refine mb2 _ rfl rfl (fun _=>zbl func68 rfl rfl (hM) qD rfl) (fun _=>trivial) ?_;refine G [1,2,4,2,1,9,0] ?_;refine cX ?_ ?_<;>intro h
 ·have h1:g1<0∨1099511627776<g1∨w1<0∨1099511627776<w1∨l1'<mo∨4294967235<l1':=by
   simp at h;simp only[or_assoc]at h;omega
  exact jc0
 have h1:¬(g1<0∨1099511627776<g1∨w1<0∨1099511627776<w1∨l1'<mo∨4294967235<l1'):=by
  simp at h;omega
 clear h;rw[if_neg h1]at hE;clear h1;refine G [5] ?_;refine cK hT ?_;refine G [6] ?_;refine zcH (zbY (cs:=TN) 64 rfl) ?_;clear hT hM;obtain⟨g0,hg0⟩:∃g0:Bool,decide (TL.length=t1.length∧s1.length=q1.length)=g0:=⟨_,rfl⟩;refine zad (zb3 (St.of [(1,.ref 1 0),(6,ql TL.length 4 TN),(8,qf g0)] [(1,.box 32 (dmC k1 p1 (.sl q1.length 5 QL) (.sl t1.length 4 T1) (.sl s1.length 41 L) v1 R1 sk1 sp1 SQ1 a1 e1 g1 w1 l1'))]) ?_ ?_)
 ·by_cases h1:TL.length=t1.length
  ·by_cases h2:s1.length=q1.length
   ·have:g0=true:=by rw[←hg0];exact decide_eq_true ⟨h1,h2⟩
    subst this
    skip
    refine G [6,4,8,4,3,9,0] ?_;exact jar
   ·have:g0=false:=by rw[←hg0];exact decide_eq_false fun h=>h2 h.2
    subst this
    skip
    refine G [6,4,8,3,3,9,0] ?_;exact jar
  ·have:g0=false:=by rw[←hg0];exact decide_eq_false fun h=>h1 h.1
   subst this
   skip
   refine G [6,3,12,9,0] ?_;exact jar
 have hg0T:g0=true→TL.length=t1.length∧s1.length=q1.length:=fun h=>by rw[h]at hg0;exact of_decide_eq_true hg0
 have hg0F:g0=false→¬(TL.length=t1.length∧s1.length=q1.length):=fun h=>by rw[h]at hg0;exact of_decide_eq_false hg0
 clear hg0;obtain⟨gA,hgA⟩:∃gA:Bool,(g0&&eqB TL t1)=gA:=⟨_,rfl⟩;refine G [6] ?_;refine ze4 (St.of [(1,.ref 1 0),(8,qf gA)] [(1,.box 32 (dmC k1 p1 (.sl q1.length 5 QL) (.sl t1.length 4 T1) (.sl s1.length 41 L) v1 R1 sk1 sp1 SQ1 a1 e1 g1 w1 l1'))]) ?_ ?_
 ·refine zag (fun m st=>∃(i:Nat) (g:Bool),m+i=TL.length∧(g=true→g0=true∧∀j,j<i→TL[j]?=t1[j]?)∧(g=false→gA=false)∧st=St.of [(1,.ref 1 0),(6,ql TL.length 4 TN),(8,qf g),(9,qd i)] [(1,.box 32 (dmC k1 p1 (.sl q1.length 5 QL) (.sl t1.length 4 T1) (.sl s1.length 41 L) v1 R1 sk1 sp1 SQ1 a1 e1 g1 w1 l1'))]) TL.length ?_ ?_
  ·refine⟨_,zai id _ _ ?_ ?_ rfl,0,g0,qp,fun h=>⟨h,fun j hj=>by omega⟩,fun h=>?_,rfl⟩
   ·exact jap
   ·exact jbn
   ·rw[←hgA,h];rfl
  rintro m st ⟨i,g,hi,hgt,hgf,rfl⟩;cases g with
  |false=>
   have hA:=hgf rfl;subst hA;refine G [13,9,0] ?_;exact jar
  |true=>
   obtain⟨hg1,hpre⟩:=hgt rfl;obtain⟨hlt',hls⟩:=hg0T hg1
   by_cases hlt:i<TL.length
   ·obtain⟨x,hx⟩:=qo hlt;obtain⟨y,hy⟩:∃y,t1[i]?=some y:=⟨t1[i]'qp,List.getElem?_eq_getElem qp⟩;have hch:=hchT i x hx;have hle:=hleT i hlt;have hch2:=hcht i y hy;have hle2:=hlet i qp;have hbad:=zg5 hx hy;have hxy:x=y→TL[i]?=t1[i]?:=fun e=>by rw[hx,hy,e]
    obtain⟨xa,xn,xo,xs⟩:=x;obtain⟨ya,yn,yo,ys⟩:=y;refine G [8,4,3] ?_
    by_cases he:(⟨xa,xn,xo,xs⟩:ND)=⟨ya,yn,yo,ys⟩
    ·refine G [13] ?_;refine zaa (zcL U103 (xs:=[.int .u32 xa,.int .i64 xn,.string xo,.int .i64 xs]) (ys:=[.int .u32 ya,.int .i64 yn,.string yo,.int .i64 ys]) rfl rfl qq qq qq (c:=true) (zaY.2 (by simp at he;simp[he]))) rfl rfl ?_;refine jds ?_;refine⟨m-1,qp,_,zai id _ _ ?_ ?_ rfl,i+1,true,qp,fun _=>⟨hg1,fun j hj=>?_⟩,fun h=>(by cases h),rfl⟩
     ·exact jap
     ·exact jbn
     ·by_cases e:j=i
      ·rw[e];exact hxy he
      ·exact hpre j qp
    ·refine G [13] ?_;refine zaa (zcL U103 (xs:=[.int .u32 xa,.int .i64 xn,.string xo,.int .i64 xs]) (ys:=[.int .u32 ya,.int .i64 yn,.string yo,.int .i64 ys]) rfl rfl qq qq qq (c:=false) (zeg.2 (fun e=>he (by simp at e;simp[e])))) rfl rfl ?_;refine jds ?_;refine⟨m-1,qp,_,zai id _ _ ?_ ?_ rfl,i+1,false,qp,fun h=>(by cases h),fun _=>?_,rfl⟩
     ·exact jap
     ·exact jbn
     ·rw[←hgA,zfU (hbad he)];simp
   ·have hge:i=TL.length:=qp;subst hge;have hA:gA=true:=by rw[←hgA,hg1,ziD (zg6 hlt' hpre)];rfl
    subst hA;refine G [8,3,4,9,0] ?_;exact jar
 have hgAT:gA=true→(TL=t1∧TL.length=t1.length∧s1.length=q1.length):=fun h=>by
  rw[h,qbB]at hgA;exact⟨zgW.1 hgA.2,hg0T hgA.1⟩
 have hgAF:gA=false→¬((TL=t1∧zhi s1 q1=true)∧∀s∈s1,okSt k1 w1 s):=fun h hgood=>by
  have h1:g0=true:=by
   cases hq:g0 with
   |true=>rfl
   |false=>
    exfalso
    refine hg0F hq ⟨by rw[hgood.1.1],?_⟩
    by_cases hl:s1.length=q1.length
    ·exact hl
    ·have:=zh5 hl;rw[this]at hgood;cases hgood.1.2
  rw[h,h1,ziD hgood.1.1]at hgA;cases hgA
 clear hgA hg0T hg0F hchT hleT hcht hlet;refine G [6] ?_;refine zag (fun m st=>∃(i:Nat) (g:Bool),m+i=s1.length∧(g=true→gA=true∧∀j,j<i→∀s p,s1[j]?=some s→q1[j]?=some p→s.key=p.key∧okSt k1 w1 s)∧(g=false→¬((TL=t1∧zhi s1 q1=true)∧∀s∈s1,okSt k1 w1 s))∧st=St.of [(1,.ref 1 0),(8,qf g),(10,qd i)] [(1,.box 32 (dmC k1 p1 (.sl q1.length 5 QL) (.sl t1.length 4 T1) (.sl s1.length 41 L) v1 R1 sk1 sp1 SQ1 a1 e1 g1 w1 l1'))]) s1.length ?_ ?_
 ·refine⟨_,zai id _ _ ?_ ?_ rfl,0,gA,qp,fun h=>⟨h,fun j hj=>by omega⟩,hgAF,rfl⟩
  ·exact jap
  ·exact jbn
 rintro m st ⟨i,g,hi,hgt0,hgf,rfl⟩;cases g with
 |false=>
  rw[if_neg (hgf rfl)]at hE;subst hE;refine G [26,9,0] ?_;exact yE
 |true=>
  obtain⟨hgt,hpre⟩:=hgt0 rfl;obtain⟨hTt,hlt',hls⟩:=hgAT hgt
  by_cases hlt:i<s1.length
  ·obtain⟨x,hx⟩:=qo hlt;obtain⟨y,hy⟩:∃y,q1[i]?=some y:=⟨q1[i]'qp,List.getElem?_eq_getElem qp⟩;have hch:=hchS i x hx;have hle:=hleS i hlt;have hch2:=hchQ i y hy;have hle2:=hleQ i qp;have hmem:=qbo hx
   have hpk:(QL.drop (i*5))[0]?=some (qg y.key):=by
    have:=congrArg (fun x=>x[0]?) hch2;exact jcG
   have hkn:=@keysB_ne s1 q1 i x y hx hy;have hkbad:x.key≠y.key→¬((TL=t1∧zhi s1 q1=true)∧∀s∈s1,okSt k1 w1 s):=fun hne h=>by rw[hkn hne]at h;cases h.1.2
   have hsbad:¬okSt k1 w1 x→¬((TL=t1∧zhi s1 q1=true)∧∀s∈s1,okSt k1 w1 s):=fun hno h=>hno (h.2 x hmem)
   clear hkn hch2;obtain⟨key,ep,a,b,c,⟨lv,mine,nc,hb,hs⟩,q⟩:=x;dsimp only at hkbad hsbad;refine G [9,4,14] ?_;refine jfN ?_
   by_cases hkk:key=y.key
   rotate_left
   ·refine G [9] ?_;refine jfw ?_;refine jfZ (za2 (c:=false) (decide_eq_false hkk)) ?_;refine G [10] ?_
    by_cases hk:k1=⟨#[]⟩
    ·refine jfD ?_
     skip
     refine G [21,9,0] ?_;exact jcb
    ·refine G [5] ?_;refine je7 ?_;refine jd4 ?_
     skip
     refine jdC ?_;exact jcb
   by_cases ht:hs≤w1
   rotate_left
   ·refine G [9] ?_;refine jfw ?_;refine je9 ?_;refine G [6,3,3] ?_;have hno:¬okSt k1 w1 ⟨key,ep,a,b,c,⟨lv,mine,nc,hb,hs⟩,q⟩:=fun h=>h (.inr (by show w1<hs;omega))
    by_cases hk:k1=⟨#[]⟩
    ·refine jfD ?_
     skip
     refine G [21,9,0] ?_;exact jaK
    ·refine G [5] ?_;refine je7 ?_;refine jd4 ?_
     skip
     refine jdC ?_;exact jaK
   refine G [9] ?_;refine jfw ?_;refine je9 ?_;refine G [6,4,3] ?_
   by_cases hk:k1=⟨#[]⟩
   ·refine jfD ?_
    by_cases hz:a=KY0∧b=KY0∧c=KY0
    ·cases lv with
     |true=>
      skip
      refine G [4] ?_;refine jdy ?_;refine je5 ?_;refine jeE ?_;refine G [9] ?_;have hno:¬okSt k1 w1 ⟨key,ep,a,b,c,⟨true,mine,nc,hb,hs⟩,q⟩:=fun h=>h (.inl ⟨hk,.inr rfl⟩)
      refine zaW (zat (jdC ?_));exact jaK
     |false=>
      skip
      refine G [4] ?_;refine jdy ?_;refine je5 ?_;refine jeE ?_;refine G [9] ?_
      have HOK:okSt k1 w1 ⟨key,ep,a,b,c,⟨false,mine,nc,hb,hs⟩,q⟩:=by
       rintro(⟨_,h|h⟩|h)
       ·exact h hz
       ·cases h
       ·have h':w1<hs:=h;omega
      exact jaP
    ·skip
     refine G [4] ?_;refine jdy ?_;refine je5 ?_;refine zaa (zcL U61 (xs:=a.vals++b.vals++c.vals) (ys:=KY0.vals++KY0.vals++KY0.vals) rfl rfl qq qq qq (c:=false) (zeg.2 (fun e=>hz (zcP.1 e)))) rfl rfl ?_;refine G [9] ?_;have hno:¬okSt k1 w1 ⟨key,ep,a,b,c,⟨lv,mine,nc,hb,hs⟩,q⟩:=fun h=>h (.inl ⟨hk,.inl hz⟩)
     refine zaW (zat (jdC ?_));exact jaK
   ·refine G [5] ?_;refine je7 ?_;refine jd4 ?_
    have HOK:okSt k1 w1 ⟨key,ep,a,b,c,⟨lv,mine,nc,hb,hs⟩,q⟩:=by
     rintro(⟨h,_⟩|h)
     ·exact hk h
     ·have h':w1<hs:=h;omega
    exact jaP
  ·have hge:i=s1.length:=qp;subst hge
   have hkall:zhi s1 q1=true:=keysB_all hls fun j hj=>by
    have h1:s1[j]?=some s1[j]:=List.getElem?_eq_getElem hj;have h2:q1[j]?=some (q1[j]'qp):=List.getElem?_eq_getElem qp;rw[h1,h2];simp[(hpre j hj _ _ h1 h2).1]
   have hall:∀s∈s1,okSt k1 w1 s:=fun s hs=>by
    obtain⟨j,hj,rfl⟩:=List.getElem_of_mem hs;exact(hpre j hj _ (q1[j]'qp) (List.getElem?_eq_getElem hj) (List.getElem?_eq_getElem qp)).2
   rw[if_pos ⟨⟨hTt,hkall⟩,hall⟩]at hE;subst hE;refine G [9,3,17,9,0] ?_;exact yE
theorem sn_q3{d:DM}(h0:dmE d=0){i:Nat}{s:ST}(hs:d.ps[i]?=some s):s.q.length≤3:=by
 have h8:=zjm (zgX h0).2.1 hs;unfold stE at h8
 by_cases q1:keyE s.key≠0
 ·rw[if_pos q1]at h8;exact absurd h8 q1
 rw[if_neg q1]at h8
 by_cases q2:ksE s.a s.b s.c≠0
 ·rw[if_pos q2]at h8;exact absurd h8 q2
 rw[if_neg q2]at h8
 by_cases q3:hsE s.h≠0
 ·rw[if_pos q3]at h8;exact absurd h8 q3
 rw[if_neg q3]at h8
 by_cases q4:s.ep≠⟨#[]⟩∧enE s.ep≠0
 ·rw[if_pos q4]at h8;exact absurd h8 q4.2
 rw[if_neg q4]at h8
 by_cases q5:3<s.q.length
 ·rw[if_pos q5]at h8;omega
 omega
theorem encRD_s(p:PQ)(hn:p.xs.length≤200)(hB:isB p.xs)(hp:0≤p.a∧p.a<4294967296∧0≤p.b∧p.b<4294967296):Fn prog 21 [.agg p.cells] (.tup [ql (pkB p).length 1 (bs (pkB p)),qd 0]) []:=by
 have h:=refPack_s p.a.toNat p.b.toNat p.xs.length p.xs qp qp rfl hB hn;exact jb7
theorem encRX_s(p:PQ)(h:200<p.xs.length)(hn:p.xs.length≤1048576):Fn prog 21 [.agg p.cells] (.tup [qm,qd 1]) []:=by
 refine fnI fun w0 A=>?_
 refine G [12,4,8,9,0] ?_;exact yE
theorem sent_s(d:DM)(ok:d.OK)(p:PQ)(hn:p.xs.length≤1048576)(hB:isB p.xs)(hp:0≤p.a∧p.a<4294967296∧0≤p.b∧p.b<4294967296)(zs ys:List Int)(hZ:dmE d=0→p.xs.length≤200→∀(i:Nat) (s:ST) (pe:PE),i=peN (zcF d.tree p.b) d.c.ps→d.ps[i]?=some s→d.c.ps[i]?=some pe→SnH d p i s pe zs ys):
 Fn prog 5 [.agg d.cells,.agg p.cells] (snV (snR d p zs ys)) []:=by
 have hC:=refDm_s d ok;unfold snR
 by_cases h0:dmE d≠0
 ·rw[if_pos h0];refine zcJ ?_;have hN:=zeo (dmE d);generalize dmE d=e at*;refine fnI fun w0 A=>?_
  refine G [15] ?_;refine jdo ?_;refine cK hC ?_;refine G [5,4,6] ?_;refine cK hN ?_;exact jbs
 rw[if_neg h0];have h0:dmE d=0:=qbq.1 h0;have hZ:=hZ h0;have g:=dm_tk h0;have hop:=fun h2=>ziW (a:=p.b) ok h0 h2
 rw[h0]at hC
 by_cases h1:200<p.xs.length
 ·rw[if_pos h1];refine zcJ ?_;have hE:=encRX_s p h1 hn;have hN:=zeo 1;refine fnI fun w0 A=>?_
  refine G [15] ?_;refine jdo ?_;refine cK hC ?_;refine G [5,1,5] ?_;refine jdp ?_;refine cK hE ?_;refine G [17] ?_;refine cK hN ?_;exact jbs
 rw[if_neg h1];have hZ:=hZ qp;have hE:=encRD_s p qp hB hp
 have hbl:(pkB p).length≤220:=by
  exact jcY
 have hbB:isB (pkB p):=packB_B _ _ _ _ hB;have hF:=refFind_s d.tree ok.tree ok.treeN p.b hp.2.2.1 hp.2.2.2;unfold findR at hF
 by_cases h2:zfS d.tree p.b≠0
 ·rw[if_pos h2];refine zcJ ?_;rw[if_neg h2]at hF;have hN:=zeo (zfS d.tree p.b);generalize zfS d.tree p.b=e at*;refine fnI fun w0 A=>?_
  refine G [15] ?_;refine jfd ?_;refine G [10,4,6] ?_;refine cK hN ?_;exact jbs
 rw[if_neg h2];have h2:zfS d.tree p.b=0:=qbq.1 h2;rw[if_pos h2,h2]at hF;have hi:=hop h2;have hP:=peerAt_s d.c ok.c (zcF d.tree p.b);have hiN:peN (zcF d.tree p.b) d.c.ps<d.ps.length:=by rw[g.same];exact hi
 obtain⟨s,hs⟩:∃s,d.ps[peN (zcF d.tree p.b) d.c.ps]?=some s:=⟨_,List.getElem?_eq_getElem hiN⟩;obtain⟨pe,hpe⟩:∃pe,d.c.ps[peN (zcF d.tree p.b) d.c.ps]?=some pe:=⟨_,List.getElem?_eq_getElem hi⟩;have hH:=hZ _ s pe rfl hs hpe;rw[hs];dsimp only;clear hop hZ;obtain⟨i,hie⟩:∃i,peN (zcF d.tree p.b) d.c.ps=i:=⟨_,rfl⟩;rw[hie]at hP hi hiN hs hpe hH⊢;generalize zcF d.tree p.b=ow at*;have hnow:=g.now;have hoks:=(ok.ps s (qbo hs)).1
 have hFr:=zff s.a hoks.a d.now qp qp;have hsl:(d.ps.flatMap ST.pv).length=d.ps.length*41:=zaO (f:=ST.pv) (k:=41) (fun _=>rfl) d.ps;have hky:((d.ps.flatMap ST.pv).drop (i*41+2+0)).take 11=s.a.pv:=zfR (f:=ST.pv) (k:=41) (fun _=>rfl) hs (q:=2) (n:=11) qS;have hep:(d.ps.flatMap ST.pv)[i*41+1]?=some (qg s.ep):=zeX (f:=ST.pv) (k:=41) (fun _=>rfl) hs qS;have hqu:(d.ps.flatMap ST.pv)[i*41+40]?=some (.sl s.q.length 3 (s.q.flatMap PQ.pv)):=zeX (f:=ST.pv) (k:=41) (fun _=>rfl) hs qS
 by_cases h3:d.c.key=⟨#[]⟩
 ·rw[if_pos h3];refine zcJ ?_;have hN:=zeo 13;refine fnI fun w0 A=>?_
  refine G [15] ?_;refine jfd ?_;refine G [10,1,9] ?_;refine jfZ (za2 (c:=true) (decide_eq_true h3)) ?_;refine G [5] ?_;refine cK hN ?_;exact jbs
 rw[if_neg h3]
 by_cases h4:s.ep=⟨#[]⟩
 ·rw[if_pos h4];refine zcJ ?_;have hN:=zeo 5;refine fnI fun w0 A=>?_
  refine jfm ?_;refine jfZ (za2 (c:=true) (decide_eq_true h4)) ?_;refine G [5] ?_;refine cK hN ?_;exact jbs
 rw[if_neg h4]
 by_cases h5:zbv s.a d.now=false∧s.q.length=3
 ·rw[if_pos h5];refine zcJ ?_;have hN:=zeo 7;have hK:=rdmCopy_s d ok;rw[h5.1]at hFr;refine fnI fun w0 A=>?_
  refine jfs ?_;refine zac ?_;generalize d.ps.flatMap ST.pv=SP at*;refine G [8] ?_;refine jev ?_;refine jf0 (zaT 14 zr59 rfl) ?_;refine je4 ?_;refine G [3] ?_;refine jek ?_;refine G [2] ?_;refine cK hFr ?_;refine G [20] ?_;refine jf0 (zaQ U64 rfl hqu) ?_;refine G [1,4,5] ?_;refine cK hN ?_;exact jbs
 rw[if_neg h5];obtain⟨s1,h6⟩:∃s1,snS d.now s p=s1:=⟨_,rfl⟩;obtain⟨L1,h7⟩:∃L1,snL d.now s zs=L1:=⟨_,rfl⟩;unfold snF;rw[h6,h7]
 have hlast:0≤d.last∧d.last≤4294967235:=by
  exact jcv
 have hs1p:s1.ep=s.ep∧s1.a.OK:=by
  exact jbh
 obtain⟨he1,hok1⟩:=hs1p;have hFr1:=zff s1.a hok1 d.now qp qp;have hOl1:=refOld_s s1.a hok1 d.now qp qp;have hs1:(d.ps.set i s1)[i]?=some s1:=qaZ;have hky1:(((d.ps.set i s1).flatMap ST.pv).drop (i*41+2+0)).take 11=s1.a.pv:=zfR (f:=ST.pv) (k:=41) (fun _=>rfl) hs1 (q:=2) (n:=11) qS;have hlv1:((d.ps.set i s1).flatMap ST.pv)[i*41+35+0]?=some (.v (.bool s1.h.lv)):=zeX (f:=ST.pv) (k:=41) (fun _=>rfl) hs1 (q:=35) qS
 have hsl1:((d.ps.set i s1).flatMap ST.pv).length=d.ps.length*41:=qak
 have hL1:L1.length≤1:=by
  rw[←h7];unfold snL
  split<;>simp
 have hpn:=ok.psN;have hcn:=ok.c.len;obtain⟨hb,hhb⟩:∃hb,snB d.now s1=hb:=⟨_,rfl⟩;rw[hhb];obtain⟨d2,hd2⟩:∃d2,snDD d hb=d2:=⟨_,rfl⟩;obtain⟨s2,hs2⟩:∃s2,snSS d hb s1=s2:=⟨_,rfl⟩;obtain⟨L2,hL2⟩:∃L2,snLL hb L1 s.ep ys=L2:=⟨_,rfl⟩;rw[hd2,hs2,hL2];have hq3:=sn_q3 h0 hs;have hK:=rdmCopyA_s d ok i s hs;have hdr:((arS d.ps i s 1087).drop (i*41+2+0)).take 11=s.a.cells:=arS_dr hs (m:=2) (n:=11) qS;have haq:(arS d.ps i s 109)[i*41+40]?=some (.row 109):=arS_at hs qS
 have hset:=arS_set (q:=109) hs 143
 have hcv0:CellV [(109,Slot.live (.row 36 3 s.q.length (s.q.flatMap PQ.pv)))] (arS d.ps i s 109) (d.ps.flatMap ST.pv):=by
  have:=arS_cv (q:=109) (q':=s.q) (fam:=[(109,Slot.live (.row 36 3 s.q.length (s.q.flatMap PQ.pv)))]) hs (qbN.2 rfl)
  rwa [zjt hs]at this
 have hcv1:CellV [(143,Slot.live (.row 36 3 (s.q++[p]).length ((s.q++[p]).flatMap PQ.pv)))] (arS d.ps i s 143) ((d.ps.set i {s with q:=s.q++[p]}).flatMap ST.pv):=arS_cv hs (qbN.2 rfl);have hq2:(s.q++[p]).flatMap PQ.pv=s.q.flatMap PQ.pv++PQ.pv p:=qG;have hql:=hoks.q;rw[hq2,qbm]at hcv1;have hN4:=zeo 4
 have hMain:Fn prog 5 [.agg d.cells,.agg p.cells] (if d2.last≤4294967235 then .tup [.agg (moD d2 (.row 0)),.row 1,qd 0]else .tup [.agg zdmC,qm,qd 4]) (if d2.last≤4294967235 then [(0,.row 66 41 d.ps.length ((d.ps.set i s2).flatMap ST.pv)),(1,.row 75 3 L2.length (L2.flatMap LR.pv))]else []):=by
  refine fnI fun w0 A=>?_
  refine jfs ?_;refine G [6] ?_;refine zab (zcN (o:=87) (i:=(i:Int)) (n:=d.ps.length) (size:=41) (c:=none) (cs:=arS d.ps i s 1087) (q:=i*41) U26 sz66 qp qp rfl) rfl rfl ⟨qX,trivial⟩ ?_;refine G [2] ?_;refine zab (a_loadNRA (o:=87) (off:=i*41+2+0) (n:=d.ps.length) (size:=41) (c:=none) (cs:=arS d.ps i s 1087) (es:=s.a.cells) U59 rfl sz59 (by rw[zkc hs];omega) hdr rfl) rfl rfl ⟨qX,trivial⟩ ?_;refine jf0 (zaT 14 zr59 rfl) ?_
  refine je4 ?_;refine G [3] ?_;refine jek ?_;refine G [2] ?_;refine cK hFr ?_;refine jdw ?_;refine za3 (zca 16 107 75 3 rfl rfl) ?_;refine za3 (show Re _ (St.of [(2,.ref 202 0),(3,.ref 203 0),(4,.ref 204 0),(7,.fn 19 []),(9,ql (pkB p).length 1 (bs (pkB p))),(12,qd i),(13,.ref 113 0),(14,.ref 114 0),(15,qf (zbv s.a d.now)),(16,.row 107)] [(1,.rowA 66 41 d.ps.length none (arS d.ps i s 109)),(107,.row 75 3 0 []),(109,.row 36 3 s.q.length (s.q.flatMap PQ.pv)),(113,.box 32 (moD d (.row 1))),(114,.box 59 s.a.cells),(202,.box 32 d.cells),(203,.box 36 p.cells),(204,.box 32 zdmC)])from zai (fun o=>bif Nat.beq o 1 then 87 else bif Nat.beq o 109 then 1087 else bif Nat.beq o 113 then 13 else bif Nat.beq o 114 then 14 else bif Nat.beq o 202 then 2 else bif Nat.beq o 203 then 3 else bif Nat.beq o 204 then 4 else o) _ _ ?_ ?_ rfl) ?_
  ·exact jap
  ·exact⟨⟨by show Slot.live (.rowA _ 41 d.ps.length none (AV.renL _ (arS d.ps i s 1)))=Slot.live (.rowA _ 41 d.ps.length none (AV.renL _ (arS d.ps i s 109)));rw[ze7,ze7];rfl,arS_ok rfl⟩,⟨rfl,rfl⟩,⟨rfl,rfl⟩,⟨rfl,rfl⟩,⟨rfl,rfl⟩,⟨rfl,rfl⟩,⟨rfl,rfl⟩,⟨rfl,rfl⟩,trivial⟩
  refine zad (zb3 (St.of [(2,.ref 202 0),(4,.ref 204 0),(7,.fn 19 []),(12,qd i),(13,.ref 113 0),(14,.ref 114 0),(16,.row 107)] [(1,.row 66 41 d.ps.length ((d.ps.set i s1).flatMap ST.pv)),(107,.row 75 3 L1.length (L1.flatMap LR.pv)),(113,.box 32 (moD d (.row 1))),(114,.box 59 s.a.cells),(202,.box 32 d.cells),(204,.box 32 zdmC)]) ?_ ?_)
  ·refine zad ?_;cases hfr:zbv s.a d.now with
   |true=>
    obtain⟨e,_,hW⟩:=hH.sl hfr;have hSe:=sealedFor_s d d.ps i s hs (pkB p) (refKSealD_s hoks.a hfr qp qp hbB hbl) zs e hW hpn;have e1:s1={s with a:=ksK s.a}:=by rw[←h6];exact if_pos hfr
    have e2:L1=[⟨⟨#[]⟩,s.ep,zs⟩]:=by rw[←h7];exact if_pos hfr
    rw[e1,e2];unfold moS at hSe;rw[qbP]at hSe;refine za1 (zdh (o:=1) (fam:=[(109,Slot.live (.row 36 3 s.q.length (s.q.flatMap PQ.pv)))]) hcv0 (fun q hq=>by rw[qbN.1 hq];rfl) rfl rfl qG) ?_;generalize (d.ps.set i {s with a:=ksK s.a}).flatMap ST.pv=S1 at*;generalize d.ps.flatMap ST.pv=S0 at*
    skip
    refine G [12] ?_;refine jdD ?_;refine G [2] ?_;refine zbp (hSe) rfl rfl func26 rfl rfl qL rfl ?_;refine G [3] ?_;refine jfP ?_;refine zac (zcH (zbY (cs:=bs zs) 44 rfl) ?_)
    skip
    refine G [2] ?_;refine zab (zak U75 rfl sz75 qu (show _=LR.cells ⟨⟨#[]⟩,s.ep,zs⟩from rfl)) rfl rfl ⟨rfl,trivial⟩ ?_;refine zab (xs:=[.agg (LR.cells ⟨⟨#[]⟩,s.ep,zs⟩)]) (zae (es:=(LR.cells ⟨⟨#[]⟩,s.ep,zs⟩)) (cs:=(LR.pv ⟨⟨#[]⟩,s.ep,zs⟩)) 110 U37 sz75 zc75 (qbk rfl) (qbk rfl) rfl qq qq qq (qbk rfl)) qF rfl ⟨rfl,trivial⟩ ?_;refine zab (zam 111 U37 eo75 (zas) qy qp rfl rfl) rfl rfl ⟨rfl,rfl,rfl,trivial⟩ ?_
    refine jdR ?_;exact zai (fun o=>bif Nat.beq o 107 then 111 else o) _ _ qv qv rfl
   |false=>
    have hq4:s.q.length≠3:=fun e=>h5 ⟨hfr,e⟩
    have e1:s1={s with q:=s.q++[p]}:=by rw[←h6];exact if_neg (by simp[hfr])
    have e2:L1=[]:=by rw[←h7];exact if_neg (by simp[hfr])
    rw[e1,e2]
    skip
    refine G [10] ?_;refine jem ?_;refine fA zig rfl rfl ?_;refine jf0 (zfa U64 rfl haq) ?_;refine G [1,3,10] ?_;refine jem ?_;refine fA zig rfl rfl ?_;refine jf0 (zfa U64 rfl haq) ?_;refine G [6] ?_;refine zab (zdS (zaP 140 U34 eo5 (zbc) qy qp)) rfl rfl ⟨rfl,trivial⟩ ?_;refine jfZ (zbO pl36 zr36 rfl rfl) ?_;refine zab (xs:=[.agg p.cells]) (zae (es:=(p.cells)) (cs:=(p.pv)) 142 U64 sz36 zc36 (qbk rfl) (qbk rfl) rfl qq qq qq (qbk rfl)) qF rfl ⟨rfl,trivial⟩ ?_
    refine zab (zam 143 U64 eo36 (zas) qy qp rfl rfl) rfl rfl ⟨rfl,rfl,rfl,trivial⟩ ?_;refine jem ?_;refine fA zig rfl rfl ?_;refine zab (a_storeRA (Y:=.row 143) (es:=arS d.ps i s 143) sz64 rfl rfl (by rw[zkc hs];show _+1≤_;omega) hset) rfl rfl ⟨rfl,trivial⟩ ?_;refine zac ⟨qq,?_⟩;refine zat (Re.trans (ReO.re (zdh (o:=1) (fam:=[(143,Slot.live (.row 36 3 (s.q.length+1) (s.q.flatMap PQ.pv++PQ.pv p)))]) hcv1 (fun q hq=>by rw[qbN.1 hq];rfl) rfl rfl qG)) ?_)
    exact zai id _ _ qv qv rfl
  refine G [8] ?_;refine zab (zb1 U59 rfl sz59 qp (hky1)) rfl rfl ⟨rfl,trivial⟩ ?_;refine jf0 (zaf (Y:=.agg s1.a.cells) sz59 rfl rfl (qbn rfl)) ?_;refine G [3] ?_;refine zab (zak U59 rfl sz59 qu (show _=s1.a.cells from rfl)) rfl rfl ⟨rfl,trivial⟩ ?_;refine G [2] ?_;refine cK hFr1 ?_;refine G [5] ?_;refine mb2 _ rfl rfl (fun hb=>(zak U59 rfl sz59 qu (show _=s1.a.cells from rfl))) (fun _=>⟨rfl,trivial⟩) ?_
  refine G [2] ?_;refine mb2 _ rfl rfl (fun _=>zbl func27 rfl rfl (hOl1) qD rfl) (fun _=>trivial) ?_;refine r_mb3 _ rfl rfl (.mb _ _ _ _ qao (.keep _ _ _ (.keep _ _ _ .nil))) (fun hb=>(zki qaf)) (fun _=>trivial) ?_;refine G [0,2,2] ?_
  have hS2:(d.ps.set i s2).flatMap ST.pv=(if hb=true then(d.ps.set i (snHd d s1)).flatMap ST.pv else(d.ps.set i s1).flatMap ST.pv):=by
   rw[←hs2];unfold snSS
   split<;>rfl
  obtain⟨m0,e0,e1,_,hHe,_,hWy⟩:=hH.hello;have hN2:Fn prog 28 [qc d.c.key,qd (d.last+1)] (.tup [qc (nonX d.c.key (d.last+1)),qd (nonE d.c.key (d.last+1))]) []:=refNonce_s d.c.key (d.last+1);have hs3:(d.ps.set i {s1 with h:=⟨true,d.last+1,nonX d.c.key (d.last+1),d.now,0⟩})[i]?=some {s1 with h:=⟨true,d.last+1,nonX d.c.key (d.last+1),d.now,0⟩}:=qaZ;have hHl:=helloed_s {d with last:=d.last+1} _ i _ hs3 pe hpe m0 e0 hHe ys e1 hWy (by rw[qbP];exact hpn) (by show d.c.ps.length≤1048576;omega)
  rw[List.set_set]at hHl;change FnO _ _ _ _ [(1,moS (d.ps.set i (snHd d s1))),_] _ at hHl;have hst:setR ((d.ps.set i s1).flatMap ST.pv) (i*41+35) (HS.pv ⟨true,d.last+1,nonX d.c.key (d.last+1),d.now,0⟩)=((d.ps.set i s1).set i {s1 with h:=⟨true,d.last+1,nonX d.c.key (d.last+1),d.now,0⟩}).flatMap ST.pv:=zgT (f:=ST.pv) (k:=41) (fun _=>rfl) hs1 (q:=35) (show 35+5≤41 by decide) rfl;rw[List.set_set]at hst
  unfold moS at hHl;simp only[qbP]at hHl;generalize nonX d.c.key (d.last+1)=nc at*;generalize nonE d.c.key (d.last+1)=ne at*;refine zat (zad (zb3 (St.of [(4,.ref 204 0),(7,.fn 19 []),(13,.ref 113 0),(16,.row 107)] [(1,.row 66 41 d.ps.length ((d.ps.set i s2).flatMap ST.pv)),(107,.row 75 3 L2.length (L2.flatMap LR.pv)),(113,.box 32 (moD d2 (.row 1))),(204,.box 32 zdmC)]) ?_ ?_))
  ·rw[hS2];generalize (d.ps.set i s1).flatMap ST.pv=S1 at*;refine G [7] ?_;refine mb2 _ rfl rfl (fun hb=>(zao U26 sz66 qp qp qE)) (fun _=>⟨rfl,trivial⟩) ?_;refine G [2] ?_;refine mb2 _ rfl rfl (fun hb=>(zaQ U4 rfl hlv1)) (fun _=>⟨rfl,trivial⟩) ?_;refine G [1,2,1,9,0] ?_;refine cX ?_ ?_<;>intro h
   ·have hbt:hb=true:=by
     rw[←hhb];unfold snB oldB
     revert h
     cases s1.h.lv<;>cases hfq:zbv s1.a d.now<;>cases s1.a.first<;>simp[oldB,hfq]
    have g1:d2={d with last:=d.last+1}:=by rw[←hd2,hbt];rfl
    have g2:L2=L1++[⟨⟨#[]⟩,s1.ep,ys⟩]:=by rw[←hL2,hbt,he1];rfl
    rw[g1,g2,if_pos hbt];generalize (d.ps.set i (snHd d s1)).flatMap ST.pv=S3 at*;generalize (d.ps.set i {s1 with h:=⟨true,d.last+1,nc,d.now,0⟩}).flatMap ST.pv=S4 at*;refine G [4] ?_;refine zaa (zbf (show _=d.last+1 from qcd _ qp)) rfl rfl ?_;refine fA fi32_6 rfl rfl ?_;refine jf0 (zbt (Y:=qd (d.last+1)) (es:=moD {d with last:=d.last+1} (.row 1)) sz3 rfl rfl (qbk rfl) rfl) ?_;refine G [8] ?_;refine cK hN2 ?_
    refine G [19] ?_;refine jeX ?_;refine G [9] ?_;refine zab (zak U32 rfl sz32 qu (show _=moD {d with last:=d.last+1} (.row 1)from rfl)) rfl rfl ⟨rfl,trivial⟩ ?_;refine jdn ?_;refine zbp (hHl) rfl rfl func29 rfl rfl qL rfl ?_;refine G [3] ?_;refine jf0 (zaf (Y:=.agg (moD {d with last:=d.last+1} (.row 1))) sz32 rfl rfl (qbn rfl)) ?_;refine jf0 (zaf (Y:=.agg [qc ⟨#[]⟩,qc s1.ep,.row 49]) sz75 rfl rfl (qbn rfl)) ?_
    refine zac (zcH (zbY (cs:=bs ys) 49 rfl) ?_);have hap:(L1++[(⟨⟨#[]⟩,s1.ep,ys⟩:LR)]).flatMap LR.pv=L1.flatMap LR.pv++LR.pv ⟨⟨#[]⟩,s1.ep,ys⟩:=by rw[qbV];rfl
    have hap2:(L1++[(⟨⟨#[]⟩,s1.ep,ys⟩:LR)]).length=L1.length+1:=by rw[qbm];rfl
    rw[hap,hap2]
    skip
    refine G [2] ?_;refine zab (zak U75 rfl sz75 qu (show _=LR.cells ⟨⟨#[]⟩,s1.ep,ys⟩from rfl)) rfl rfl ⟨rfl,trivial⟩ ?_;refine zab (xs:=[.agg (LR.cells ⟨⟨#[]⟩,s1.ep,ys⟩)]) (zae (es:=(LR.cells ⟨⟨#[]⟩,s1.ep,ys⟩)) (cs:=(LR.pv ⟨⟨#[]⟩,s1.ep,ys⟩)) 212 U37 sz75 zc75 (qbk rfl) (qbk rfl) rfl qq qq qq (qbk rfl)) qF rfl ⟨rfl,trivial⟩ ?_;refine zab (zam 213 U37 eo75 (zas) qy qp rfl rfl) rfl rfl ⟨rfl,rfl,rfl,trivial⟩ ?_
    refine jdR ?_;exact zai (fun o=>bif Nat.beq o 107 then 213 else o) _ _ qv qv rfl
   ·have hbf:hb=false:=by
     rw[←hhb];unfold snB
     revert h
     cases s1.h.lv<;>cases hfq:zbv s1.a d.now<;>cases s1.a.first<;>simp[oldB,hfq]
    exact jcL
  have hBo:=bounded_s {d2 with ps:=d.ps.set i s2};change Fn _ _ [.agg (moD d2 (ql (d.ps.set i s2).length 41 ((d.ps.set i s2).flatMap ST.pv)))] (qf (decide (d2.last<4294967236))) []at hBo;rw[qbP]at hBo;generalize (d.ps.set i s2).flatMap ST.pv=S2 at*
  by_cases h8:d2.last≤4294967235
  ·rw[if_pos h8,if_pos h8];rw[decide_eq_true (show d2.last<4294967236 by omega)]at hBo;refine G [3] ?_;refine jeh ?_;refine cV hBo ?_;refine G [6] ?_;refine jeh ?_;refine jdz ?_;refine jf0 (zaf (Y:=.agg (moD d2 (.row 1))) sz32 rfl rfl (qbn rfl)) ?_;refine jdY ?_;refine yT (fun o=>bif Nat.beq o 0 then 1 else 107) ?_ ?_
   ·exact rfl
   ·exact jaJ
  ·rw[if_neg h8,if_neg h8];rw[decide_eq_false (show¬d2.last<4294967236 by omega)]at hBo;refine G [3] ?_;refine jeh ?_;refine cV hBo ?_;refine G [6] ?_;refine cK hN4 ?_;exact jbs
 by_cases h8:d2.last≤4294967235
 ·rw[if_pos h8];rw[if_pos h8,if_pos h8]at hMain;exact sn_done (by rw[qbP]) hMain
 ·rw[if_neg h8];rw[if_neg h8,if_neg h8]at hMain;exact zcJ hMain
theorem q_with'{d:DM}(ok:d.OK)(n:Int)(P:List ST)(hP:∀s∈P,s.B)(hN:P.length≤1048576):DM.Q {d with ps:=P,last:=n}:=⟨ok.c,ok.treeN,hP,hN,ok.sg.len,ok.sg.c⟩
theorem snF_q{d:DM}(ok:d.OK){i:Nat}{s:ST}(hs:d.ps[i]?=some s){p:PQ}(hB:isB p.xs)(h5:¬(zbv s.a d.now=false∧s.q.length=3))(hq:s.q.length≤3)(zs ys:List Int):(snF d i s p zs ys).1.Q:=by
 obtain⟨_,hsB⟩:=ok.ps s (qbo hs)
 have h1:(snS d.now s p).B:=by
  unfold snS
  split
  ·exact hsB
  ·refine⟨by show(s.q++[p]).length≤_;rw[qbm];show _+1≤_;omega,fun x hx=>?_⟩;rcases qbD.1 hx with h|h
   ·exact hsB.2 x h
   ·rw[qbN.1 h];exact hB
 unfold snF;generalize snB d.now (snS d.now s p)=hb
 have h2:(snSS d hb (snS d.now s p)).B:=by
  unfold snSS
  split
  ·exact h1
  ·exact h1
 generalize snSS d hb (snS d.now s p)=s2 at*
 split
 ·have h3:∀x∈d.ps.set i s2,x.B:=fun x hx=>by
   rcases List.mem_or_eq_of_mem_set hx with h|h
   ·exact(ok.ps x h).2
   ·rw[h];exact h2
  have h4:(d.ps.set i s2).length≤1048576:=by rw[qbP];exact ok.psN
  unfold snDD
  split
  ·exact q_with' ok _ _ h3 h4
  ·exact q_with' ok _ _ h3 h4
 ·exact dm0_ok.q
theorem snF_l(d:DM)(i:Nat)(s:ST)(p:PQ){zs ys:List Int}(hz:isB zs)(hy:isB ys):(snF d i s p zs ys).2.1.length≤2∧∀x∈(snF d i s p zs ys).2.1,isB x.xs:=by
 have h1:(snL d.now s zs).length≤1∧∀x∈snL d.now s zs,isB x.xs:=by
  unfold snL
  split
  ·exact⟨Nat.le_refl _,fun x hx=>by rw[qbN.1 hx];exact hz⟩
  ·exact⟨qc3 _,fun x hx=>by cases hx⟩
 unfold snF;generalize snB d.now (snS d.now s p)=hb;generalize snL d.now s zs=L at*
 split
 ·show(snLL hb L s.ep ys).length≤2∧∀x∈snLL hb L s.ep ys,isB x.xs;unfold snLL
  split
  ·refine⟨by rw[qbm];show _+1≤_;omega,fun x hx=>?_⟩;rcases qbD.1 hx with h|h
   ·exact h1.2 x h
   ·rw[qbN.1 h];exact hy
  ·exact⟨qp,h1.2⟩
 ·exact⟨qc3 _,fun x hx=>by cases hx⟩
theorem snR_ok{d:DM}(ok:d.OK){p:PQ}(hB:isB p.xs){zs ys:List Int}(hz:isB zs)(hy:isB ys):(snR d p zs ys).1.Q∧(snR d p zs ys).2.1.length≤2∧∀x∈(snR d p zs ys).2.1,isB x.xs:=by
 have hno:∀e:Int,((dm0,[],e):DM×List LR×Int).1.Q∧((dm0,[],e):DM×List LR×Int).2.1.length≤2∧∀x∈((dm0,[],e):DM×List LR×Int).2.1,isB x.xs:=fun e=>⟨dm0_ok.q,qc3 _,fun x hx=>by cases hx⟩
 unfold snR
 by_cases h0:dmE d≠0
 ·rw[if_pos h0];exact hno _
 rw[if_neg h0];have h0:dmE d=0:=qbq.1 h0
 split
 ·exact hno _
 split
 ·exact hno _
 split
 ·exact hno _
 cases hs:d.ps[peN (zcF d.tree p.b) d.c.ps]? with
 |none=>exact hno _
 |some s=>
  dsimp only
  split
  ·exact hno _
  split
  ·exact hno _
  ·rename_i h5;exact⟨snF_q ok hs hB h5 (sn_q3 h0 hs) zs ys,snF_l d _ s p hz hy⟩
theorem sn_both{d:DM}(ok:d.OK)(p:PQ)(hB:isB p.xs):∃zs ys:List Int,isB zs∧isB ys∧(dmE d=0→p.xs.length≤200→∀(i:Nat) (s:ST) (pe:PE),i=peN (zcF d.tree p.b) d.c.ps→d.ps[i]?=some s→d.c.ps[i]?=some pe→SnH d p i s pe zs ys):=by
 by_cases hh:dmE d=0∧p.xs.length≤200
 case neg=>exact⟨[],[],(fun x h=>by cases h),(fun x h=>by cases h),fun a b=>absurd ⟨a,b⟩ hh⟩
 obtain⟨h0,hn⟩:=hh;have g:=dm_tk h0
 have hbl:(pkB p).length≤220:=by
  exact jcY
 have hlast:0≤d.last∧d.last≤4294967235:=by
  exact jcv
 cases hs:d.ps[peN (zcF d.tree p.b) d.c.ps]? with
 |none=>exact⟨[],[],(fun x h=>by cases h),(fun x h=>by cases h),fun _ _ i s pe hi h1 _=>by rw[hi,hs]at h1;cases h1⟩
 |some s=>
  cases hp:d.c.ps[peN (zcF d.tree p.b) d.c.ps]? with
  |none=>exact⟨[],[],(fun x h=>by cases h),(fun x h=>by cases h),fun _ _ i s pe hi _ h2=>by rw[hi,hp]at h2;cases h2⟩
  |some pe=>
   have hsh:=g.sh _ pe hp;have hok:=helX_ok d.c.key pe.key pe.sh (nonX d.c.key (d.last+1)) (d.last+1);obtain⟨zs,hz,w1,w2⟩:=snM_wire s.a (pkB p) hbl;obtain⟨ys,hy,v1,v2⟩:=wenc_both _ hok.1 hok.2.1 qp;refine⟨zs,ys,hz,hy,fun _ _ i s' pe' hi h1 h2=>?_⟩;subst hi;rw[hs]at h1;rw[hp]at h2;cases h1;cases h2;exact⟨fun _=>⟨_,w1,w2⟩,⟨_,_,_,helloD_s _ _ _ _ _ hsh,refHelloD_s _ _ _ _ _ qp qp hsh,v1,v2⟩⟩
theorem PQ.of_tyR{n:Nat}{ps:List PV}(h:Ty prog (n+5) 36 ps)(hb:PV.bdL 1048576 ps):∃p:PQ,p.xs.length≤1048576∧isB p.xs∧(0≤p.a∧p.a<4294967296∧0≤p.b∧p.b<4294967296)∧ps=p.pv:=by
 obtain⟨_,rfl,x0,_,rfl,t0,x1,_,rfl,t1,x2,_,rfl,t2,rfl⟩:=zbu (ts:=[33,33,34]) qq h;obtain⟨a0,rfl,w0⟩:=zbz U33 t0;obtain⟨a1,rfl,w1⟩:=zbz U33 t1;obtain⟨xs,rfl,_,hB⟩:=ty_bytes U34 U5 qq t2;simp only[qbT,List.flatten_nil,List.append_nil,qb3,qbW,qb0,PV.bdL,PV.bd,and_true]at hb;have v0:=wf_u32 w0;have v1:=wf_u32 w1;exact⟨⟨a0,a1,xs⟩,hb.2.2.1,hB,⟨v0.1,v0.2,v1.1,v1.2⟩,rfl⟩
theorem dm_cells(d:DM):∃k p P T S lv R sk sp Q a e g w l,d.cells=dmC k p P T S lv R sk sp Q a e g w l:=⟨_,_,_,_,_,_,_,_,_,_,_,_,_,_,_,rfl⟩
theorem law_DaemonSends(x0:List PV)(ty0:Ty prog 10 32 x0)(hb0:PV.bdL 1048576 x0)(x1:List PV)(ty1:Ty prog 10 36 x1)(hb1:PV.bdL 1048576 x1):
 Fn prog 3 [argAV true x0,argAV true x1] (qf true) []:=by
 obtain⟨d,od,rfl⟩:=DM.of_ty ty0 hb0;obtain⟨p,hn,hB,hp,rfl⟩:=PQ.of_tyR ty1 hb1;change Fn prog _ [.agg d.cells,.agg p.cells] _ _;obtain⟨zs,ys,hz,hy,hZ⟩:=sn_both od p hB;have p1:=send_s d od p hn hB hp zs ys hZ;have q1:=sent_s d od p hn hB hp zs ys hZ;obtain⟨k1,k2,k3⟩:=snR_ok od hB hz hy;have s1:=sameDaemon_q _ _ k1 k1;have s2:=sameLetters_d _ _ qp qp k3 k3;rw[dmB_self]at s1;rw[zhz]at s2;generalize snR d p zs ys=x at*
 obtain⟨x,l,e⟩:=x;dsimp only[snV]at p1 q1 s1 s2;generalize l.flatMap LR.pv=L at*;generalize l.length=N at*;obtain⟨k0,p0,P0,T0,S0,v0,R0,sk0,sp0,Q0,a0,r0,g0,w0,l0,hx0⟩:=dm_cells d;obtain⟨k1,p1',P1,T1,S1,v1,R1,sk1,sp1,Q1,a1,r1,g1,w1,l1,hx1⟩:=dm_cells x;obtain⟨pa,pb,xs⟩:=p;change Fn prog _ [.agg d.cells,.agg [qe pa,qe pb,ql xs.length 1 (bs xs)]] _ _ at p1 q1⊢;rw[hx0]at p1 q1⊢;rw[hx1]at p1 q1 s1;clear hx0 hx1 od hb0 ty0
 refine fnI fun w0 A=>?_
 refine G [10] ?_;refine cK p1 ?_;refine G [13] ?_;refine cK q1 ?_;refine G [13] ?_;refine cK s1 ?_;refine G [3] ?_;refine cK s2 ?_;refine G [4,1,4,9,0] ?_;exact yE
end Go.Proofs.YtdiljgkijgiboaaGreatDoor
