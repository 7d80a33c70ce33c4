/- Used. -/
import Derived.Test.YtdiljgkijgiboaaGreatDoorSHx
set_option linter.all false
set_option maxRecDepth 100000
set_option maxHeartbeats 16000000
namespace Go.Proofs.YtdiljgkijgiboaaGreatDoor
open Tryz
open Go.RowKit Go.Sort
def zg2:ByteArray:=⟨(Lib.repeatL [48] 64).toArray⟩
theorem zeros_ne:zg2≠⟨#[]⟩:=by
 intro h;have:=congrArg ByteArray.size h
 revert this
 decide+kernel
theorem zjw:Fn prog 129 [qc ⟨#[48]⟩,qd 64] (qc zg2) []:=by
 refine fn_below rfl fun w A us hA hus=>?_
 rw[repL_vs (vs:=[.string ⟨#[48]⟩,.int .i64 64]) hus];exact(strings_Repeat ⟨#[48]⟩ 64 w qS qaS).mono fun e w' ⟨he,hb⟩=>⟨he,hb⟩
theorem netOrd_turn(a n b m:Int):0≤zdL a n b m↔zdL b m a n≠1:=by
 unfold zdL ord3
 by_cases h:a=b
 ·subst h;rw[if_pos rfl,if_pos rfl]
  split<;>split<;>(try split)<;>omega
 ·rw[if_neg h,if_neg (Ne.symm h)]
  split<;>split<;>(try split)<;>omega
abbrev NtP:=Int×Int
def ntC(p:NtP):List PV:=[qi p.1,qh p.2]
def ntOK(p:NtP):Prop:=0≤p.1∧p.1<4294967296
def ntG(l:List NtP)(i:Nat):NtP:=l.getD i (0,0)
def zdb(l:List NtP)(i:Nat):Int:=
 if zaD (ntG l i).1 (ntG l i).2≠0 then zaD (ntG l i).1 (ntG l i).2
 else if 0<i∧0≤zdL (ntG l (i-1)).1 (ntG l (i-1)).2 (ntG l i).1 (ntG l i).2 then 6 else 0
def ntsE(l:List NtP):Int:=fnz (zdb l) l.length
structure PE where
 key:ByteArray
 sh:ByteArray
 ep:ByteArray
 al:Int
 nets:List NtP
def PE.cells(p:PE):List AV:=[qc p.key,qc p.sh,qc p.ep,qd p.al,ql p.nets.length 2 (p.nets.flatMap ntC)]
def PE.pv(p:PE):List PV:=[qg p.key,qg p.sh,qg p.ep,qh p.al,.sl p.nets.length 2 (p.nets.flatMap ntC)]
structure PE.OK(p:PE):Prop where
 ep:p.ep.size<4294967281
 len:p.nets.length≤140737488351232
 nets:∀n∈p.nets,ntOK n
def peE(p:PE):Int:=
 if keyE p.key≠0 then keyE p.key else if p.sh≠⟨#[]⟩∧keyE p.sh≠0 then keyE p.sh else if p.sh=zg2 then 3
 else if p.ep≠⟨#[]⟩∧enE p.ep≠0 then enE p.ep else if p.al<0∨65535<p.al then 4 else if 8<p.nets.length then 1 else ntsE p.nets
theorem enR_e(s:ByteArray):∃a b:Int,enR s=.tup [qe a,qd b,qd (enE s)]:=by
 unfold enR enE
 split<;>exact⟨_,_,rfl⟩
theorem right_s(p:PE)(ok:p.OK):Fn prog 92 [.agg p.cells] (.p (.v (.int .i64 (peE p)))) []:=by
 obtain⟨key,sh,ep,al,nets⟩:=p;obtain⟨ok1,ok2,ok3⟩:=ok;dsimp only at ok1 ok2 ok3;obtain⟨E,hE⟩:∃E,peE ⟨key,sh,ep,al,nets⟩=E:=⟨_,rfl⟩;rw[hE];unfold peE at hE;dsimp only at hE;have hK:=zbs key;have hS:=zbs sh;have hZ:=zjw;have hEn:=end_s ep ok1;obtain⟨ea,eb,hen⟩:=enR_e ep;rw[hen]at hEn;clear hen;show Fn prog _ [.agg [.p (.v (.string key)),.p (.v (.string sh)),.p (.v (.string ep)),.p (.v (.int .i64 al)),.p (.sl nets.length 2 (nets.flatMap ntC))]] _ _
 have hzn:=zeros_ne;have hNE:ntsE nets=fnz (zdb nets) nets.length:=rfl;generalize keyE key=k1 at*;generalize keyE sh=k2 at*;generalize enE ep=e1 at*;generalize zg2=ZZ at*;refine fnI fun w0 A=>?_
 refine G [10] ?_;refine cV hK ?_;refine jds ?_;refine cX ?_ ?_<;>intro h
 ·exact jc2
 have h1:k1=0:=qB;clear h;rw[if_neg (by simp[h1])]at hE
 by_cases h2:sh≠⟨#[]⟩∧k2≠0
 ·rw[if_pos h2]at hE;subst hE;refine jdV ?_;refine cX ?_ ?_<;>intro h
  ·refine G [5] ?_;refine cV hS ?_;refine jds ?_;refine cX ?_ ?_<;>intro h
   ·exact jaB
   ·exact absurd qB h2.2
  ·exact absurd qB h2.1
 rw[if_neg h2]at hE
 by_cases h3:sh=ZZ
 ·rw[if_pos h3]at hE;subst hE;refine jdV ?_;refine cX ?_ ?_<;>intro h
  ·refine G [5] ?_;refine cV hS ?_;refine jds ?_;refine cX ?_ ?_<;>intro h
   ·exact absurd ⟨by rw[h3];exact hzn,by simpa using h⟩ h2
   ·refine G [5] ?_;refine cK hZ ?_;refine jdR ?_;refine cX ?_ ?_<;>intro h
    ·exact jbo
    ·exact absurd h3 qB
  ·exact absurd qB (show¬sh=⟨#[]⟩by rw[h3];exact hzn)
 rw[if_neg h3]at hE;refine jdV ?_;refine zb3 (St.of [(1,.ref 1 0)] [(1,.box 98 [.p (.v (.string key)),.p (.v (.string sh)),.p (.v (.string ep)),.p (.v (.int .i64 al)),.p (.sl nets.length 2 (nets.flatMap ntC))])]) ?_ ?_
 ·skip
  refine cX ?_ ?_<;>intro h
  ·refine G [5] ?_;refine cV hS ?_;refine jds ?_;refine cX ?_ ?_<;>intro h
   ·exact absurd ⟨by simp_all,by simpa using h⟩ h2
   ·refine G [5] ?_;refine cK hZ ?_;refine jdR ?_;refine cX ?_ ?_<;>intro h
    ·exact absurd qB h3
    ·exact jbW
  ·exact jbW
 clear h2 h3 hzn
 by_cases h4:ep≠⟨#[]⟩∧e1≠0
 ·rw[if_pos h4]at hE;subst hE;refine jds ?_;exact ja1
 rw[if_neg h4]at hE;refine jds ?_;refine zb3 (St.of [(1,.ref 1 0)] [(1,.box 98 [.p (.v (.string key)),.p (.v (.string sh)),.p (.v (.string ep)),.p (.v (.int .i64 al)),.p (.sl nets.length 2 (nets.flatMap ntC))])]) ?_ ?_
 ·exact jaH
 clear h4;refine G [10,2,1,9,0] ?_;refine cX ?_ ?_<;>intro h
 ·have h5:al<0∨65535<al:=qB;exact jbf
 have h5:¬(al<0∨65535<al):=qw;clear h;rw[if_neg h5]at hE;refine G [9,9,0] ?_;refine cX ?_ ?_<;>intro h
 ·have h6:8<nets.length:=qw;rw[if_pos h6]at hE;subst hE;exact jbo
 have h6:¬8<nets.length:=qw;clear h;rw[if_neg h6,hNE]at hE;refine G [10] ?_;refine zag (fun m st=>∃i:Nat,m+i=nets.length∧(∀j,j<i→zdb nets j=0)∧st=St.of [(1,.ref 1 0),(56,.p (.sl nets.length 2 (nets.flatMap ntC))),(57,.p (.v (.int .i64 nets.length))),(58,.p (.v (.int .i64 i)))] [(1,.box 98 [.p (.v (.string key)),.p (.v (.string sh)),.p (.v (.string ep)),.p (.v (.int .i64 al)),.p (.sl nets.length 2 (nets.flatMap ntC))])]) nets.length ?_ ?_
 ·exact jaA
 rintro m st ⟨i,hi,hf,rfl⟩;refine G [5] ?_;refine cX ?_ ?_<;>intro h
 ·have hlt:i<nets.length:=qw;clear h;obtain⟨q,hq⟩:=qo hlt;have hch:=zav (f:=ntC) (k:=2) (fun _=>rfl) hq;have hle:=zaw (f:=ntC) (k:=2) (fun _=>rfl) hlt;have hqk:=ok3 q (qbo hq);have hC:=zdk q.1 q.2 hqk.1 hqk.2;have hhit:=@zcx (zdb nets) i nets.length hf hlt;have hgq:ntG nets i=q:=qaU;have hst:zdb nets i=if zaD q.1 q.2≠0 then zaD q.1 q.2 else if 0<i∧0≤zdL (ntG nets (i-1)).1 (ntG nets (i-1)).2 q.1 q.2 then 6 else 0:=by unfold zdb;rw[hgq]
  obtain⟨qa,qn⟩:=q;dsimp only at hst hC;change Fn prog _ [.agg [.p (.v (.int .u32 qa)),.p (.v (.int .i64 qn))]] _ _ at hC
  have hprev:∀j,i=j+1→(((nets.flatMap ntC).drop (j*2)).take 2=ntC (ntG nets j))∧j*2+2≤(nets.flatMap ntC).length:=by
   exact jbC
  generalize hL:nets.flatMap ntC=L at*;generalize hFl:zaD qa qn=fe at*;refine jfr ?_;refine cX ?_ ?_<;>intro h
  ·have h7:fe≠0:=qB;exact jbv
  have h7:fe=0:=qB;clear h;rw[if_neg (by simp[h7])]at hst
  have hnext:∀st,zdb nets i=0→Re st (St.of [(1,.ref 1 0),(56,.p (.sl nets.length 2 L)),(57,.p (.v (.int .i64 nets.length))),(58,.p (.v (.int .i64 ((i+1:Nat):Int))))] [(1,.box 98 [.p (.v (.string key)),.p (.v (.string sh)),.p (.v (.string ep)),.p (.v (.int .i64 al)),.p (.sl nets.length 2 L)])])→
   ∃n',n'<m∧∃st1,Re st st1∧∃i:Nat,n'+i=nets.length∧(∀j,j<i→zdb nets j=0)∧st1=St.of [(1,.ref 1 0),(56,.p (.sl nets.length 2 L)),(57,.p (.v (.int .i64 nets.length))),(58,.p (.v (.int .i64 i)))] [(1,.box 98 [.p (.v (.string key)),.p (.v (.string sh)),.p (.v (.string ep)),.p (.v (.int .i64 al)),.p (.sl nets.length 2 L)])]:=fun st hz hre=>by
   refine⟨m-1,qp,_,hre,i+1,qp,fun j hj=>?_,rfl⟩
   by_cases e:j=i
   ·rw[e];exact hz
   ·exact hf j qp
  have hcase:i=0∨∃j,i=j+1:=by
   exact jb4
  rcases hcase with hi0|⟨j,hij⟩
  ·exact jbX
  ·obtain⟨hpv,hple⟩:=hprev j hij;rw[show i-1=j by omega]at hst;generalize hpp:ntG nets j=pp at*;obtain⟨pa,pn⟩:=pp;have hCm:=nCmp_s pa pn qa qn;dsimp only at hst;change Fn prog _ [.agg [.p (.v (.int .u32 pa)),.p (.v (.int .i64 pn))],.agg [.p (.v (.int .u32 qa)),.p (.v (.int .i64 qn))]] _ _ at hCm;generalize zdL pa pn qa qn=o at*;refine G [4,4,5] ?_;refine zaa (zaL U96 zbw qp qp (show _=L.drop (j*2)by congr 2;omega)) rfl rfl ?_
   refine zaa (zay U101 rfl zbw qab (hpv)) rfl rfl ?_;refine lN U101 rfl zbw rfl rfl ⟨rfl,trivial⟩ ?_
   (first|refine zbR rfl ?_|refine zbN (fun n=>78+1000*n) (hCm) rfl rfl func131 rfl rfl qD rfl rfl rfl qr rfl rfl rfl ?_)
   refine jd4 ?_;refine cX ?_ ?_<;>intro h
   ·have h8:0≤o:=qB;exact jcn
   have h8:¬0≤o:=qB;rw[if_neg (by intro ⟨_,h9⟩;exact h8 h9)]at hst;refine jdC ?_;refine hnext _ hst (zai id _ _ ?_ ?_ rfl)
   ·exact jap
   ·exact jbn
 have hge:i=nets.length:=qw;clear h;subst hge;rw[zdc hf]at hE;subst hE;refine jdw ?_;exact yE
theorem ziQ:Fn prog 154 [] (qc zg2) []:=by
 have hZ:=zjw;generalize zg2=Z at*;refine fnI fun w0 A=>?_
 refine G [6] ?_;refine cK hZ ?_;exact jbb
theorem refPeer_s(p:PE)(ok:p.OK):Fn prog 111 [.agg p.cells] (.p (.v (.int .i64 (peE p)))) []:=by
 obtain⟨key,sh,ep,al,nets⟩:=p;obtain⟨ok1,ok2,ok3⟩:=ok;dsimp only at ok1 ok2 ok3;obtain⟨E,hE⟩:∃E,peE ⟨key,sh,ep,al,nets⟩=E:=⟨_,rfl⟩;rw[hE];unfold peE at hE;dsimp only at hE;have hK:=zbh key;have hS:=zbh sh;have hZ:=ziQ;have hEn:=zjz ep ok1;obtain⟨ea,eb,hen⟩:=enR_e ep;rw[hen]at hEn;clear hen;show Fn prog _ [.agg [.p (.v (.string key)),.p (.v (.string sh)),.p (.v (.string ep)),.p (.v (.int .i64 al)),.p (.sl nets.length 2 (nets.flatMap ntC))]] _ _
 have hzn:=zeros_ne;have hNE:ntsE nets=fnz (zdb nets) nets.length:=rfl;generalize keyE key=k1 at*;generalize keyE sh=k2 at*;generalize enE ep=e1 at*;generalize zg2=ZZ at*;refine fnI fun w0 A=>?_
 refine G [10] ?_;refine cV hK ?_;refine jds ?_;refine cX ?_ ?_<;>intro h
 ·exact jc2
 have h1:k1=0:=qB;clear h;rw[if_neg (by simp[h1])]at hE;refine G [10] ?_;refine mb2 _ rfl rfl (fun _=>zbl F110 rfl rfl (hS) qD rfl) (fun _=>trivial) ?_;refine G [1,2,1,9,0] ?_;refine cX ?_ ?_<;>intro h
 ·have h2:sh≠⟨#[]⟩∧k2≠0:=qB;rw[if_pos h2]at hE;subst hE;refine G [4] ?_;refine cV hS ?_;exact jbb
 have h2:¬(sh≠⟨#[]⟩∧k2≠0):=by
  intro ⟨h3,h4⟩;simp[h3,h4]at h
 clear h;rw[if_neg h2]at hE;refine G [6] ?_;refine cK hZ ?_;refine jdR ?_;refine cX ?_ ?_<;>intro h
 ·have h3:sh=ZZ:=qB;rw[if_pos h3]at hE;subst hE;exact jbo
 have h3:¬sh=ZZ:=qB;clear h;rw[if_neg h3]at hE;refine G [6] ?_;refine cV hEn ?_;refine G [16,2,1,9,0] ?_;refine cX ?_ ?_<;>intro h
 ·exact jb9
 have h4:¬(ep≠⟨#[]⟩∧e1≠0):=by
  intro ⟨h5,h6⟩;simp[h5,h6]at h
 clear h;rw[if_neg h4]at hE;refine G [11,2,1,9,0] ?_;refine cX ?_ ?_<;>intro h
 ·have h5:al<0∨65535<al:=qB;exact jbf
 have h5:¬(al<0∨65535<al):=qw;clear h;rw[if_neg h5]at hE;refine G [9,9,0] ?_;refine cX ?_ ?_<;>intro h
 ·have h6:8<nets.length:=qw;rw[if_pos h6]at hE;subst hE;exact jbo
 have h6:¬8<nets.length:=qw;clear h;rw[if_neg h6,hNE]at hE;refine G [10] ?_;refine zag (fun m st=>∃i:Nat,m+i=nets.length∧(∀j,j<i→zdb nets j=0)∧st=St.of [(1,.ref 1 0),(60,.p (.sl nets.length 2 (nets.flatMap ntC))),(61,.p (.v (.int .i64 nets.length))),(62,.p (.v (.int .i64 i)))] [(1,.box 98 [.p (.v (.string key)),.p (.v (.string sh)),.p (.v (.string ep)),.p (.v (.int .i64 al)),.p (.sl nets.length 2 (nets.flatMap ntC))])]) nets.length ?_ ?_
 ·exact jaA
 rintro m st ⟨i,hi,hf,rfl⟩;refine G [5] ?_;refine cX ?_ ?_<;>intro h
 ·have hlt:i<nets.length:=qw;clear h;obtain⟨q,hq⟩:=qo hlt;have hch:=zav (f:=ntC) (k:=2) (fun _=>rfl) hq;have hle:=zaw (f:=ntC) (k:=2) (fun _=>rfl) hlt;have hqk:=ok3 q (qbo hq);have hC:=zdy q.1 q.2 hqk.1 hqk.2;have hhit:=@zcx (zdb nets) i nets.length hf hlt;have hgq:ntG nets i=q:=qaU;have hst:zdb nets i=if zaD q.1 q.2≠0 then zaD q.1 q.2 else if 0<i∧0≤zdL (ntG nets (i-1)).1 (ntG nets (i-1)).2 q.1 q.2 then 6 else 0:=by unfold zdb;rw[hgq]
  obtain⟨qa,qn⟩:=q;dsimp only at hst hC;change Fn prog _ [.agg [.p (.v (.int .u32 qa)),.p (.v (.int .i64 qn))]] _ _ at hC
  have hprev:∀j,i=j+1→(((nets.flatMap ntC).drop (j*2)).take 2=ntC (ntG nets j))∧j*2+2≤(nets.flatMap ntC).length:=by
   exact jbC
  generalize hL:nets.flatMap ntC=L at*;generalize hFl:zaD qa qn=fe at*;refine jfr ?_;refine cX ?_ ?_<;>intro h
  ·have h7:fe≠0:=qB;exact jbv
  have h7:fe=0:=qB;clear h;rw[if_neg (by simp[h7])]at hst
  have hnext:∀st,zdb nets i=0→Re st (St.of [(1,.ref 1 0),(60,.p (.sl nets.length 2 L)),(61,.p (.v (.int .i64 nets.length))),(62,.p (.v (.int .i64 ((i+1:Nat):Int))))] [(1,.box 98 [.p (.v (.string key)),.p (.v (.string sh)),.p (.v (.string ep)),.p (.v (.int .i64 al)),.p (.sl nets.length 2 L)])])→
   ∃n',n'<m∧∃st1,Re st st1∧∃i:Nat,n'+i=nets.length∧(∀j,j<i→zdb nets j=0)∧st1=St.of [(1,.ref 1 0),(60,.p (.sl nets.length 2 L)),(61,.p (.v (.int .i64 nets.length))),(62,.p (.v (.int .i64 i)))] [(1,.box 98 [.p (.v (.string key)),.p (.v (.string sh)),.p (.v (.string ep)),.p (.v (.int .i64 al)),.p (.sl nets.length 2 L)])]:=fun st hz hre=>by
   refine⟨m-1,qp,_,hre,i+1,qp,fun j hj=>?_,rfl⟩
   by_cases e:j=i
   ·rw[e];exact hz
   ·exact hf j qp
  have hcase:i=0∨∃j,i=j+1:=by
   exact jb4
  rcases hcase with hi0|⟨j,hij⟩
  ·exact jbX
  ·obtain⟨hpv,hple⟩:=hprev j hij;rw[show i-1=j by omega]at hst;generalize hpp:ntG nets j=pp at*;obtain⟨pa,pn⟩:=pp;have hCm:=nOrd_s qa qn pa pn;have htn:=netOrd_turn pa pn qa qn;dsimp only at hst;change Fn prog _ [.agg [.p (.v (.int .u32 qa)),.p (.v (.int .i64 qn))],.agg [.p (.v (.int .u32 pa)),.p (.v (.int .i64 pn))]] _ _ at hCm;generalize zdL pa pn qa qn=o at*;generalize zdL qa qn pa pn=o' at*;refine G [4,4,6] ?_
   refine zaa (zaL U96 zbw qp qp (show _=L.drop (j*2)by congr 2;omega)) rfl rfl ?_;refine zaa (zay U101 rfl zbw qab (hpv)) rfl rfl ?_
   (first|refine zbR rfl ?_|refine zbN (fun n=>82+1000*n) (hCm) rfl rfl func156 rfl rfl qD rfl rfl rfl qr rfl rfl rfl ?_)
   refine jd4 ?_;refine cX ?_ ?_<;>intro h
   ·have h8:0≤o:=htn.2 qB;exact jcn
   have h8:¬0≤o:=fun h9=>htn.1 h9 qB
   rw[if_neg (by intro ⟨_,h9⟩;exact h8 h9)]at hst;refine jdC ?_;refine hnext _ hst (zai id _ _ ?_ ?_ rfl)
   ·exact jap
   ·exact jbn
 have hge:i=nets.length:=qw;exact jcO
theorem PE.of_ty{n:Nat}{ps:List PV}(h:Ty prog (n+5) 98 ps)(hb:PV.bdL 1048576 ps):∃p:PE,p.OK∧ps=p.pv:=by
 obtain⟨_,rfl,x0,_,rfl,t0,x1,_,rfl,t1,x2,_,rfl,t2,x3,_,rfl,t3,x4,_,rfl,t4,rfl⟩:=zbu (ts:=[9,9,9,3,96]) qq h;obtain⟨a0,rfl,_⟩:=zb2 U9 t0;obtain⟨a1,rfl,_⟩:=zb2 U9 t1;obtain⟨a2,rfl,_⟩:=zb2 U9 t2;obtain⟨a3,rfl,w3⟩:=zbz U3 t3
 obtain⟨l,rfl,hl,hok⟩:=ty_recs (f:=ntC) (Q:=ntOK) (sz:=2) U96 qq t4 fun x hx=>by
  obtain⟨_,rfl,y0,_,rfl,u0,y1,_,rfl,u1,rfl⟩:=zbu (ts:=[33,3]) qq hx;obtain⟨a,rfl,ha⟩:=zbz U33 u0;obtain⟨b,rfl,hb⟩:=zbz U3 u1;obtain⟨q0,q1⟩:=wf_u32 ha;exact⟨(a,b),⟨q0,q1⟩,rfl⟩
 simp only[qbT,List.flatten_nil,List.append_nil,qb3,qbW,qb0,PV.bdL,PV.bd,and_true]at hb;refine⟨⟨a0,a1,a2,a3,l⟩,⟨?_,?_,hok⟩,rfl⟩
 ·show a2.size<_;omega
 ·show l.length≤_;omega
structure SE where
 k:Int
 t:ByteArray
 n:Int
 a:Int
 b:Int
def SE.cells(s:SE):List AV:=[qd s.k,qc s.t,qd s.n,qe s.a,qd s.b]
def SE.pv(s:SE):List PV:=[qh s.k,qg s.t,qh s.n,qi s.a,qh s.b]
structure SE.OK(s:SE):Prop where
 t:s.t.size<4294967281
 n0: -9223372036854775808≤s.n
 n1:s.n≤9223372036854775807
 a0:0≤s.a
 a1:s.a<4294967296
def isT(k:Int):Bool:=k==1||k==4||k==6||k==7
def isN(k:Int):Bool:=k==2||k==8
def isC(k:Int):Bool:=k==10
def seF(s:SE):Prop:=(isT s.k=false∧s.t≠⟨#[]⟩)∨(isN s.k=false∧s.n≠0)∨(isC s.k=false∧¬(s.a=0∧s.b=0))
instance seF_dec(s:SE):Decidable (seF s):=by unfold seF;infer_instance
def seV(s:SE):Int:=
 if isN s.k=true then(if s.n<0∨65535<s.n then 4 else 0)
 else if isC s.k=true then zaD s.a s.b
 else if s.k=7 then enE s.t
 else if s.k=6 then(if s.t=⟨#[]⟩then 0 else if s.t=zg2 then 3 else keyE s.t)
 else if isT s.k=true then keyE s.t else 0
def seE(s:SE):Int:=if s.k<1∨10<s.k then 2 else if seF s then 3 else seV s
theorem zbB(a b:Int):eqL [.int .u32 a,.int .i64 b] [.int .u32 0,.int .i64 0]=(a==0&&b==0):=by
 rw[qb1,zaY];simp
theorem seV_1(t:ByteArray)(n a b:Int):seV ⟨1,t,n,a,b⟩=(keyE t):=qag
theorem seV_2(t:ByteArray)(n a b:Int):seV ⟨2,t,n,a,b⟩=(if n<0∨65535<n then 4 else 0):=qag
theorem seV_3(t:ByteArray)(n a b:Int):seV ⟨3,t,n,a,b⟩=(0):=qag
theorem seV_4(t:ByteArray)(n a b:Int):seV ⟨4,t,n,a,b⟩=(keyE t):=qag
theorem seV_5(t:ByteArray)(n a b:Int):seV ⟨5,t,n,a,b⟩=(0):=qag
theorem seV_6(t:ByteArray)(n a b:Int):seV ⟨6,t,n,a,b⟩=(if t=⟨#[]⟩then 0 else if t=zg2 then 3 else keyE t):=qag
theorem seV_7(t:ByteArray)(n a b:Int):seV ⟨7,t,n,a,b⟩=(enE t):=qag
theorem seV_8(t:ByteArray)(n a b:Int):seV ⟨8,t,n,a,b⟩=(if n<0∨65535<n then 4 else 0):=qag
theorem seV_9(t:ByteArray)(n a b:Int):seV ⟨9,t,n,a,b⟩=(0):=qag
theorem seV_10(t:ByteArray)(n a b:Int):seV ⟨10,t,n,a,b⟩=(zaD a b):=qag
theorem mostN_s(k:Int)(hk:k=2∨k=8):Fn prog 134 [qd k] (qd 65535) []:=by
 rcases hk with rfl|rfl
 ·refine fnI fun w0 A=>?_
  refine G [12,1,8,9,0] ?_;exact yE
 ·refine fnI fun w0 A=>?_
  refine G [18,1,8,9,0] ?_;exact yE
theorem most1_s:Fn prog 134 [qd 1] (qd (-1)) []:=by
 exact jbm
theorem most3_s:Fn prog 134 [qd 3] (qd (-1)) []:=by
 exact jbm
theorem most4_s:Fn prog 134 [qd 4] (qd (-1)) []:=by
 exact jbm
theorem most5_s:Fn prog 134 [qd 5] (qd (-1)) []:=by
 exact jbm
theorem most6_s:Fn prog 134 [qd 6] (qd (-1)) []:=by
 exact jbm
theorem most7_s:Fn prog 134 [qd 7] (qd (-1)) []:=by
 exact jbm
theorem most9_s:Fn prog 134 [qd 9] (qd (-1)) []:=by
 exact jbm
theorem most10_s:Fn prog 134 [qd 10] (qd (-1)) []:=by
 exact jbm
theorem check1_s(t:ByteArray)(n a b:Int)(ok:SE.OK ⟨1,t,n,a,b⟩):Fn prog 97 [.agg (SE.cells ⟨1,t,n,a,b⟩)] (qd (seE ⟨1,t,n,a,b⟩)) []:=by
 obtain⟨hz,hn0,hn1,ha0,ha1⟩:=ok;dsimp only at hz hn0 hn1 ha0 ha1;obtain⟨E,hE⟩:∃E,seE ⟨1,t,n,a,b⟩=E:=⟨_,rfl⟩;rw[hE];unfold seE at hE;rw[if_neg (by dsimp only;decide)]at hE;show Fn prog _ [.agg [qd 1,qc t,qd n,qe a,qd b]] _ _;have hM:=most1_s;have hH:=zbs t;refine fnI fun w0 A=>?_
 refine G [23] ?_;refine cK hM ?_;refine G [18,1,5] ?_
 skip
 refine G [3] ?_
 by_cases hn:n≠0
 ·rw[if_pos (show seF ⟨1,t,n,a,b⟩by simp[seF,isT,isN,isC, *])]at hE;exact jc4
 replace hn:n=0:=qbq.1 hn;refine G [16,3,9] ?_;refine jdM ?_;refine jd4 ?_;refine cX ?_ ?_<;>intro h
 ·have hq:¬(a=0∧b=0):=by
   exact ja4
  rw[if_pos (show seF ⟨1,t,n,a,b⟩by simp[seF,isT,isN,isC];omega)]at hE;subst hE;exact jbo
 have hq:a=0∧b=0:=by
  exact ja4
 clear h;rw[if_neg (show¬seF ⟨1,t,n,a,b⟩by simp[seF,isT,isN,isC, *])]at hE;rw[seV_1]at hE;refine G [11,1,5] ?_;subst hE;refine G [4] ?_;refine cV hH ?_;refine jd4 ?_;exact yE
theorem check2_s(t:ByteArray)(n a b:Int)(ok:SE.OK ⟨2,t,n,a,b⟩):Fn prog 97 [.agg (SE.cells ⟨2,t,n,a,b⟩)] (qd (seE ⟨2,t,n,a,b⟩)) []:=by
 obtain⟨hz,hn0,hn1,ha0,ha1⟩:=ok;dsimp only at hz hn0 hn1 ha0 ha1;obtain⟨E,hE⟩:∃E,seE ⟨2,t,n,a,b⟩=E:=⟨_,rfl⟩;rw[hE];unfold seE at hE;rw[if_neg (by dsimp only;decide)]at hE;show Fn prog _ [.agg [qd 2,qc t,qd n,qe a,qd b]] _ _;have hM:=mostN_s 2 qS;refine fnI fun w0 A=>?_
 refine jfy ?_
 skip
 refine G [5] ?_
 by_cases ht:t≠⟨#[]⟩
 ·rw[if_pos (show seF ⟨2,t,n,a,b⟩by simp[seF,isT,isN,isC, *])]at hE;exact jcc
 replace ht:t=⟨#[]⟩:=qbq.1 ht;refine G [9,3,17] ?_;refine jdM ?_;refine jd4 ?_;refine cX ?_ ?_<;>intro h
 ·have hq:¬(a=0∧b=0):=by
   exact ja4
  rw[if_pos (show seF ⟨2,t,n,a,b⟩by simp[seF,isT,isN,isC];omega)]at hE;subst hE;exact jbo
 have hq:a=0∧b=0:=by
  exact ja4
 clear h;rw[if_neg (show¬seF ⟨2,t,n,a,b⟩by simp[seF,isT,isN,isC, *])]at hE;rw[seV_2]at hE;refine G [15] ?_
 skip
 refine G [23] ?_
 by_cases hl:n<0
 ·rw[if_pos (.inl hl)]at hE;subst hE;refine G [8,4,16,9,0] ?_;exact yE
 refine G [8,3,5] ?_
 (first|refine zbR rfl ?_|refine zbN (fun n=>102+1000*n) (hM) rfl rfl func134 rfl rfl qD rfl rfl rfl qr rfl rfl rfl ?_)
 refine jdY ?_;refine cX ?_ ?_<;>intro h
 ·exact jcw
 have h1:¬65535<n:=qB;clear h;rw[if_neg (by omega)]at hE;subst hE;refine jdw ?_;exact yE
theorem check3_s(t:ByteArray)(n a b:Int)(ok:SE.OK ⟨3,t,n,a,b⟩):Fn prog 97 [.agg (SE.cells ⟨3,t,n,a,b⟩)] (qd (seE ⟨3,t,n,a,b⟩)) []:=by
 obtain⟨hz,hn0,hn1,ha0,ha1⟩:=ok;dsimp only at hz hn0 hn1 ha0 ha1;obtain⟨E,hE⟩:∃E,seE ⟨3,t,n,a,b⟩=E:=⟨_,rfl⟩;rw[hE];unfold seE at hE;rw[if_neg (by dsimp only;decide)]at hE;show Fn prog _ [.agg [qd 3,qc t,qd n,qe a,qd b]] _ _;have hM:=most3_s;refine fnI fun w0 A=>?_
 refine jfy ?_
 skip
 refine G [5] ?_
 by_cases ht:t≠⟨#[]⟩
 ·rw[if_pos (show seF ⟨3,t,n,a,b⟩by simp[seF,isT,isN,isC, *])]at hE;exact jcc
 replace ht:t=⟨#[]⟩:=qbq.1 ht
 by_cases hn:n≠0
 ·rw[if_pos (show seF ⟨3,t,n,a,b⟩by simp[seF,isT,isN,isC, *])]at hE;exact jcT
 replace hn:n=0:=qbq.1 hn;refine G [9,3,7,3,9] ?_;refine jdM ?_;refine jd4 ?_;refine cX ?_ ?_<;>intro h
 ·have hq:¬(a=0∧b=0):=by
   exact ja4
  rw[if_pos (show seF ⟨3,t,n,a,b⟩by simp[seF,isT,isN,isC];omega)]at hE;subst hE;exact jbo
 have hq:a=0∧b=0:=by
  exact ja4
 clear h;rw[if_neg (show¬seF ⟨3,t,n,a,b⟩by simp[seF,isT,isN,isC, *])]at hE;rw[seV_3]at hE;refine G [15] ?_
 skip
 refine G [23] ?_;subst hE;refine G [26,9,0] ?_;exact yE
theorem check4_s(t:ByteArray)(n a b:Int)(ok:SE.OK ⟨4,t,n,a,b⟩):Fn prog 97 [.agg (SE.cells ⟨4,t,n,a,b⟩)] (qd (seE ⟨4,t,n,a,b⟩)) []:=by
 obtain⟨hz,hn0,hn1,ha0,ha1⟩:=ok;dsimp only at hz hn0 hn1 ha0 ha1;obtain⟨E,hE⟩:∃E,seE ⟨4,t,n,a,b⟩=E:=⟨_,rfl⟩;rw[hE];unfold seE at hE;rw[if_neg (by dsimp only;decide)]at hE;show Fn prog _ [.agg [qd 4,qc t,qd n,qe a,qd b]] _ _;have hM:=most4_s;have hH:=zbs t;refine fnI fun w0 A=>?_
 refine G [23] ?_;refine cK hM ?_;refine G [24,1,5] ?_
 skip
 refine G [3] ?_
 by_cases hn:n≠0
 ·rw[if_pos (show seF ⟨4,t,n,a,b⟩by simp[seF,isT,isN,isC, *])]at hE;exact jc4
 replace hn:n=0:=qbq.1 hn;refine G [16,3,9] ?_;refine jdM ?_;refine jd4 ?_;refine cX ?_ ?_<;>intro h
 ·have hq:¬(a=0∧b=0):=by
   exact ja4
  rw[if_pos (show seF ⟨4,t,n,a,b⟩by simp[seF,isT,isN,isC];omega)]at hE;subst hE;exact jbo
 have hq:a=0∧b=0:=by
  exact ja4
 clear h;rw[if_neg (show¬seF ⟨4,t,n,a,b⟩by simp[seF,isT,isN,isC, *])]at hE;rw[seV_4]at hE;refine G [15] ?_
 skip
 refine G [1,1,3] ?_;subst hE;refine G [4] ?_;refine cV hH ?_;refine jd4 ?_;exact yE
theorem check5_s(t:ByteArray)(n a b:Int)(ok:SE.OK ⟨5,t,n,a,b⟩):Fn prog 97 [.agg (SE.cells ⟨5,t,n,a,b⟩)] (qd (seE ⟨5,t,n,a,b⟩)) []:=by
 obtain⟨hz,hn0,hn1,ha0,ha1⟩:=ok;dsimp only at hz hn0 hn1 ha0 ha1;obtain⟨E,hE⟩:∃E,seE ⟨5,t,n,a,b⟩=E:=⟨_,rfl⟩;rw[hE];unfold seE at hE;rw[if_neg (by dsimp only;decide)]at hE;show Fn prog _ [.agg [qd 5,qc t,qd n,qe a,qd b]] _ _;have hM:=most5_s;refine fnI fun w0 A=>?_
 refine jfy ?_
 skip
 refine G [5] ?_
 by_cases ht:t≠⟨#[]⟩
 ·rw[if_pos (show seF ⟨5,t,n,a,b⟩by simp[seF,isT,isN,isC, *])]at hE;exact jcc
 replace ht:t=⟨#[]⟩:=qbq.1 ht
 by_cases hn:n≠0
 ·rw[if_pos (show seF ⟨5,t,n,a,b⟩by simp[seF,isT,isN,isC, *])]at hE;exact jcT
 replace hn:n=0:=qbq.1 hn;refine G [9,3,7,3,9] ?_;refine jdM ?_;refine jd4 ?_;refine cX ?_ ?_<;>intro h
 ·have hq:¬(a=0∧b=0):=by
   exact ja4
  rw[if_pos (show seF ⟨5,t,n,a,b⟩by simp[seF,isT,isN,isC];omega)]at hE;subst hE;exact jbo
 have hq:a=0∧b=0:=by
  exact ja4
 clear h;rw[if_neg (show¬seF ⟨5,t,n,a,b⟩by simp[seF,isT,isN,isC, *])]at hE;rw[seV_5]at hE;refine G [15] ?_
 skip
 refine G [23] ?_;subst hE;refine G [26,9,0] ?_;exact yE
theorem check6_s(t:ByteArray)(n a b:Int)(ok:SE.OK ⟨6,t,n,a,b⟩):Fn prog 97 [.agg (SE.cells ⟨6,t,n,a,b⟩)] (qd (seE ⟨6,t,n,a,b⟩)) []:=by
 obtain⟨hz,hn0,hn1,ha0,ha1⟩:=ok;dsimp only at hz hn0 hn1 ha0 ha1;obtain⟨E,hE⟩:∃E,seE ⟨6,t,n,a,b⟩=E:=⟨_,rfl⟩;rw[hE];unfold seE at hE;rw[if_neg (by dsimp only;decide)]at hE;show Fn prog _ [.agg [qd 6,qc t,qd n,qe a,qd b]] _ _;have hM:=most6_s;have hH:=zbs t;have hZ:=zjw;refine fnI fun w0 A=>?_
 refine G [23] ?_;refine cK hM ?_;refine G [30,1,5] ?_
 skip
 refine G [3] ?_
 by_cases hn:n≠0
 ·rw[if_pos (show seF ⟨6,t,n,a,b⟩by simp[seF,isT,isN,isC, *])]at hE;exact jc4
 replace hn:n=0:=qbq.1 hn;refine G [16,3,9] ?_;refine jdM ?_;refine jd4 ?_;refine cX ?_ ?_<;>intro h
 ·have hq:¬(a=0∧b=0):=by
   exact ja4
  rw[if_pos (show seF ⟨6,t,n,a,b⟩by simp[seF,isT,isN,isC];omega)]at hE;subst hE;exact jbo
 have hq:a=0∧b=0:=by
  exact ja4
 clear h;rw[if_neg (show¬seF ⟨6,t,n,a,b⟩by simp[seF,isT,isN,isC, *])]at hE;rw[seV_6]at hE;refine G [15] ?_
 skip
 refine G [7,1,10,9,0] ?_;refine cX ?_ ?_<;>intro h
 ·have h1:t=⟨#[]⟩:=qB;exact jc0
 have h1:¬t=⟨#[]⟩:=qB;clear h;rw[if_neg h1]at hE;refine G [6] ?_;refine cK hZ ?_;refine jdR ?_;refine cX ?_ ?_<;>intro h
 ·have h2:t=zg2:=qB;rw[if_pos h2]at hE;subst hE;exact jbo
 have h2:¬t=zg2:=qB;rw[if_neg h2]at hE;subst hE;refine G [5] ?_;refine cV hH ?_;refine jd4 ?_;exact yE
theorem check7_s(t:ByteArray)(n a b:Int)(ok:SE.OK ⟨7,t,n,a,b⟩):Fn prog 97 [.agg (SE.cells ⟨7,t,n,a,b⟩)] (qd (seE ⟨7,t,n,a,b⟩)) []:=by
 obtain⟨hz,hn0,hn1,ha0,ha1⟩:=ok;dsimp only at hz hn0 hn1 ha0 ha1;obtain⟨E,hE⟩:∃E,seE ⟨7,t,n,a,b⟩=E:=⟨_,rfl⟩;rw[hE];unfold seE at hE;rw[if_neg (by dsimp only;decide)]at hE;show Fn prog _ [.agg [qd 7,qc t,qd n,qe a,qd b]] _ _;have hM:=most7_s;have hEn:=end_s t hz;obtain⟨ea,eb,hen⟩:=enR_e t;rw[hen]at hEn;refine fnI fun w0 A=>?_
 refine jfy ?_
 skip
 refine G [1,1,3] ?_
 skip
 refine G [3] ?_
 by_cases hn:n≠0
 ·rw[if_pos (show seF ⟨7,t,n,a,b⟩by simp[seF,isT,isN,isC, *])]at hE;exact jc4
 replace hn:n=0:=qbq.1 hn;refine G [16,3,9] ?_;refine jdM ?_;refine jd4 ?_;refine cX ?_ ?_<;>intro h
 ·have hq:¬(a=0∧b=0):=by
   exact ja4
  rw[if_pos (show seF ⟨7,t,n,a,b⟩by simp[seF,isT,isN,isC];omega)]at hE;subst hE;exact jbo
 have hq:a=0∧b=0:=by
  exact ja4
 clear h;rw[if_neg (show¬seF ⟨7,t,n,a,b⟩by simp[seF,isT,isN,isC, *])]at hE;rw[seV_7]at hE;refine G [15] ?_
 skip
 refine G [13,1,3] ?_;subst hE;refine G [4] ?_;refine cV hEn ?_;refine G [14,9,0] ?_;exact yE
theorem check8_s(t:ByteArray)(n a b:Int)(ok:SE.OK ⟨8,t,n,a,b⟩):Fn prog 97 [.agg (SE.cells ⟨8,t,n,a,b⟩)] (qd (seE ⟨8,t,n,a,b⟩)) []:=by
 obtain⟨hz,hn0,hn1,ha0,ha1⟩:=ok;dsimp only at hz hn0 hn1 ha0 ha1;obtain⟨E,hE⟩:∃E,seE ⟨8,t,n,a,b⟩=E:=⟨_,rfl⟩;rw[hE];unfold seE at hE;rw[if_neg (by dsimp only;decide)]at hE;show Fn prog _ [.agg [qd 8,qc t,qd n,qe a,qd b]] _ _;have hM:=mostN_s 8 qS;refine fnI fun w0 A=>?_
 refine jfy ?_
 skip
 refine G [5] ?_
 by_cases ht:t≠⟨#[]⟩
 ·rw[if_pos (show seF ⟨8,t,n,a,b⟩by simp[seF,isT,isN,isC, *])]at hE;exact jcc
 replace ht:t=⟨#[]⟩:=qbq.1 ht;refine G [9,3,17] ?_;refine jdM ?_;refine jd4 ?_;refine cX ?_ ?_<;>intro h
 ·have hq:¬(a=0∧b=0):=by
   exact ja4
  rw[if_pos (show seF ⟨8,t,n,a,b⟩by simp[seF,isT,isN,isC];omega)]at hE;subst hE;exact jbo
 have hq:a=0∧b=0:=by
  exact ja4
 clear h;rw[if_neg (show¬seF ⟨8,t,n,a,b⟩by simp[seF,isT,isN,isC, *])]at hE;rw[seV_8]at hE;refine G [15] ?_
 skip
 refine G [23] ?_
 by_cases hl:n<0
 ·rw[if_pos (.inl hl)]at hE;subst hE;refine G [8,4,16,9,0] ?_;exact yE
 refine G [8,3,5] ?_
 (first|refine zbR rfl ?_|refine zbN (fun n=>102+1000*n) (hM) rfl rfl func134 rfl rfl qD rfl rfl rfl qr rfl rfl rfl ?_)
 refine jdY ?_;refine cX ?_ ?_<;>intro h
 ·exact jcw
 have h1:¬65535<n:=qB;clear h;rw[if_neg (by omega)]at hE;subst hE;refine jdw ?_;exact yE
theorem check9_s(t:ByteArray)(n a b:Int)(ok:SE.OK ⟨9,t,n,a,b⟩):Fn prog 97 [.agg (SE.cells ⟨9,t,n,a,b⟩)] (qd (seE ⟨9,t,n,a,b⟩)) []:=by
 obtain⟨hz,hn0,hn1,ha0,ha1⟩:=ok;dsimp only at hz hn0 hn1 ha0 ha1;obtain⟨E,hE⟩:∃E,seE ⟨9,t,n,a,b⟩=E:=⟨_,rfl⟩;rw[hE];unfold seE at hE;rw[if_neg (by dsimp only;decide)]at hE;show Fn prog _ [.agg [qd 9,qc t,qd n,qe a,qd b]] _ _;have hM:=most9_s;refine fnI fun w0 A=>?_
 refine jfy ?_
 skip
 refine G [5] ?_
 by_cases ht:t≠⟨#[]⟩
 ·rw[if_pos (show seF ⟨9,t,n,a,b⟩by simp[seF,isT,isN,isC, *])]at hE;exact jcc
 replace ht:t=⟨#[]⟩:=qbq.1 ht
 by_cases hn:n≠0
 ·rw[if_pos (show seF ⟨9,t,n,a,b⟩by simp[seF,isT,isN,isC, *])]at hE;exact jcT
 replace hn:n=0:=qbq.1 hn;refine G [9,3,7,3,9] ?_;refine jdM ?_;refine jd4 ?_;refine cX ?_ ?_<;>intro h
 ·have hq:¬(a=0∧b=0):=by
   exact ja4
  rw[if_pos (show seF ⟨9,t,n,a,b⟩by simp[seF,isT,isN,isC];omega)]at hE;subst hE;exact jbo
 have hq:a=0∧b=0:=by
  exact ja4
 clear h;rw[if_neg (show¬seF ⟨9,t,n,a,b⟩by simp[seF,isT,isN,isC, *])]at hE;rw[seV_9]at hE;refine G [15] ?_
 skip
 refine G [23] ?_;subst hE;refine G [26,9,0] ?_;exact yE
theorem check10_s(t:ByteArray)(n a b:Int)(ok:SE.OK ⟨10,t,n,a,b⟩):Fn prog 97 [.agg (SE.cells ⟨10,t,n,a,b⟩)] (qd (seE ⟨10,t,n,a,b⟩)) []:=by
 obtain⟨hz,hn0,hn1,ha0,ha1⟩:=ok;dsimp only at hz hn0 hn1 ha0 ha1;obtain⟨E,hE⟩:∃E,seE ⟨10,t,n,a,b⟩=E:=⟨_,rfl⟩;rw[hE];unfold seE at hE;rw[if_neg (by dsimp only;decide)]at hE;show Fn prog _ [.agg [qd 10,qc t,qd n,qe a,qd b]] _ _;have hM:=most10_s;have hC:=zdk a b ha0 ha1;change Fn prog _ [.agg [qe a,qd b]] _ _ at hC;refine fnI fun w0 A=>?_
 refine jfy ?_
 skip
 refine G [5] ?_
 by_cases ht:t≠⟨#[]⟩
 ·rw[if_pos (show seF ⟨10,t,n,a,b⟩by simp[seF,isT,isN,isC, *])]at hE;exact jcc
 replace ht:t=⟨#[]⟩:=qbq.1 ht
 by_cases hn:n≠0
 ·rw[if_pos (show seF ⟨10,t,n,a,b⟩by simp[seF,isT,isN,isC, *])]at hE;exact jcT
 replace hn:n=0:=qbq.1 hn;refine G [9,3,7,3,14] ?_;rw[if_neg (show¬seF ⟨10,t,n,a,b⟩by simp[seF,isT,isN,isC, *])]at hE;rw[seV_10]at hE;refine G [15] ?_
 skip
 refine G [19,1,3] ?_;subst hE;refine G [4] ?_;refine cV hC ?_;refine jd4 ?_;exact yE
theorem checkBad_s(s:SE)(hk:s.k<1∨10<s.k):Fn prog 97 [.agg s.cells] (qd (seE s)) []:=by
 exact jba
theorem check_s(s:SE)(ok:s.OK):Fn prog 97 [.agg s.cells] (qd (seE s)) []:=by
 by_cases hk:s.k<1∨10<s.k
 ·exact checkBad_s s hk
 obtain⟨k,t,n,a,b⟩:=s;dsimp only at hk;have:k=1∨k=2∨k=3∨k=4∨k=5∨k=6∨k=7∨k=8∨k=9∨k=10:=qp;rcases this with rfl|rfl|rfl|rfl|rfl|rfl|rfl|rfl|rfl|rfl
 ·exact check1_s t n a b ok
 ·exact check2_s t n a b ok
 ·exact check3_s t n a b ok
 ·exact check4_s t n a b ok
 ·exact check5_s t n a b ok
 ·exact check6_s t n a b ok
 ·exact check7_s t n a b ok
 ·exact check8_s t n a b ok
 ·exact check9_s t n a b ok
 ·exact check10_s t n a b ok
end Go.Proofs.YtdiljgkijgiboaaGreatDoor
