/- Used. -/
import Derived.Test.YtdiljgkijgiboaaGreatDoorSTw3
set_option linter.all false
set_option maxRecDepth 100000
set_option maxHeartbeats 16000000
namespace Go.Proofs.YtdiljgkijgiboaaGreatDoor
open Tryz
open Go.RowKit Go.Sort
theorem list_s:∀(t:TR),t.list.length*40≤140737488355328→Fn prog 136 [.p (trP t)] (.row 0) [(0,.row 103 4 t.list.length (nds t.list))]
 | .nil,hz=>by
  show Fn prog 136 [.p (.v (.pointer none))] (.row 0) [(0,.row 103 4 0 [])];refine fnI fun w0 A=>?_
  refine G [8] ?_;refine jfZ (zkh U110) ?_;refine zac (zat (cX (fun h=>?_) fun h=>?_))
  ·refine G [4,9,0] ?_;refine za3 (zca 2 100 103 4 rfl rfl) ?_;refine zaq (zaZ (yT (fun _=>100) ?_ ?_))
   ·exact rfl
   ·exact⟨⟨rfl,rfl⟩,trivial⟩
  ·cases h
 | .nd p o l r,hz=>by
  rw[TR.list_nd]at hz⊢;simp only[qbE,qbm]at hz;have hl:=list_s l qp;have hr:=list_s r qp;show Fn prog 136 [.p (.pt [qi (zaB p),qh p.length,qg o,trP l,trP r])] (.row 0) _;rw[zdM,zgN];simp only[qbE,qbm];generalize nds l.list=cl at*;generalize nds r.list=cr at*;generalize l.list.length=nl at*;generalize r.list.length=nr at*;have hk1:1+nl=nl+1:=qp;have hk2:nl+1+nr=nl+nr+1:=qp;have hst:setR (([qi (zaB p),qh p.length,qg o,qh 0]++cl)++cr) 3 [qh ((nl+nr+1:Nat):Int)]=qi (zaB p)::qh p.length::qg o::qh ((nl+nr+1:Nat):Int)::(cl++cr):=by simp[setR]
  refine fnI fun w0 A=>?_
  refine G [8] ?_;refine jfZ (a_peqPN U110) ?_;refine zac (zat (cX (fun h=>?_) fun h=>?_))
  ·cases h
  refine G [4] ?_;refine jfZ zbm ?_;refine jfZ (zan zb5 rfl) ?_;refine zaa (zay U101 rfl zbw qH (rfl)) rfl rfl ?_;refine mP rfl rfl ?_;refine jfZ zbm ?_;refine jfZ (zan fi115_1 rfl) ?_;refine zaa (zaz U9 rfl qt) rfl rfl ?_;refine jfZ (zbO pl103 zr103 rfl rfl) ?_;refine jf0 (zae 15 U25 zcZ zc103 (qbk rfl) (qbk rfl) rfl rfl rfl rfl (qbk rfl)) ?_;refine G [3] ?_;refine za9 8 qq ?_;refine G [2] ?_;refine jfZ zbm ?_
  refine jfZ (zan zcV rfl) ?_;refine zaa (zcm U113 zde qp qp rfl) rfl rfl ?_;refine zaa (zaz U110 rfl qt) rfl rfl ?_;refine cK hl ?_;refine zab (zam 23 U25 zhj (zas) qy qp hk1 rfl) rfl rfl ⟨rfl,rfl,rfl,trivial⟩ ?_;refine mP rfl rfl ?_;refine jfZ zbm ?_;refine jfZ (zan zcV rfl) ?_;refine zaa (zcm U113 zde qp qp rfl) rfl rfl ?_;refine zaa (zaz U110 rfl qt) rfl rfl ?_;refine cK hr ?_;refine zab (zam 30 U25 zhj (zas) qy qp hk2 rfl) rfl rfl ⟨rfl,rfl,rfl,trivial⟩ ?_
  refine G [9] ?_;refine zab (zbx (Y:=.p _) sz3 rfl rfl qam qH hst) rfl rfl ⟨rfl,trivial⟩ ?_;refine G [7,9,0] ?_;refine yT (fun _=>30) ?_ ?_
  ·exact rfl
  ·exact⟨⟨rfl,rfl⟩,trivial⟩
theorem zj5(n:Nat)(cs:List PV)(hx:cs.length=n*4)(hn:n*40≤140737488355328):Fn prog 57 [ql n 4 cs] (.row 0) [(0,.row 103 4 n cs)]:=by
 refine fnI fun w0 A=>?_
 refine G [4] ?_
 by_cases h0:n=0
 ·subst h0;obtain rfl:cs=[]:=qbz qp;refine G [4] ?_;refine jfZ (a_seqX U25) ?_;refine jfg ?_;refine ze5 rfl ?_ ?_
  ·refine jdY ?_;refine za3 (zca 2 100 103 4 rfl rfl) ?_;refine zaq (zaZ ?_);exact jbu
  ·refine G [3] ?_;refine jf0 (zbe 5 U25 zcZ) ?_;refine jdn ?_;refine zab (zam 7 U25 zhj (zbc) qy qp rfl rfl) rfl rfl ⟨rfl,rfl,trivial⟩ ?_;exact jbw
 ·refine G [4] ?_;refine zaa (a_seqS U25 qp) rfl rfl ?_;refine jfg ?_;refine cX ?_ ?_<;>intro h
  ·cases h
  ·refine G [3] ?_;refine jf0 (zbe 5 U25 zcZ) ?_;refine jdn ?_;refine zab (zam 7 U25 zhj (zbc) qy qp (show _=n by omega) rfl) rfl rfl ⟨rfl,rfl,trivial⟩ ?_;refine jd4 ?_;refine yT (fun _=>7) ?_ ?_
   ·exact rfl
   ·exact jbn
def keyA(p:Key):List AV:=netA (zaB p) p.length
theorem keyEq{p q:Key}(hp:p.length≤32):eqL [.int .u32 (zaB p),.int .i64 p.length] [.int .u32 (zaB q),.int .i64 q.length]=decide (p=q):=by
 rw[qb1,zaY,decide_eq_true_eq]
 constructor
 ·intro h;simp only[List.cons.injEq,Value.int.injEq,true_and,and_true]at h;exact zit hp qp h.1
 ·intro h;rw[h]
theorem kJoin_s(p q:Key)(hp:p.length≤32)(hq:q.length≤32):Fn prog 179 [.agg (keyA p),.agg (keyA q)] (.tup [.agg (keyA (lcpL p q)),qd 0]) []:=by
 have h:=nJoin_s (zaB p) p.length (zaB q) q.length (zbJ p hp) (zbJ q hq) (zba p hp).1 (zba p hp).2 (zba q hq).1 (zba q hq).2;exact jcW
theorem put_s:∀(t:TR) (n:Key) (o:ByteArray),t.short→n.length≤32→Fn prog 135 [.p (trP t),.agg (keyA n),qc o] (.p (trP (t.put n o))) []
 | .nil,n,o,hs,hn=>by
  rw[TR.put];show Fn prog 135 [.p (.v (.pointer none)),.agg (netA (zaB n) n.length),qc o] _ [];refine fnI fun w0 A=>?_
  refine G [18] ?_;refine jfZ (zkh U110) ?_;refine G [2,9,0] ?_;refine cX ?_ ?_<;>intro h
  ·refine za1 (zeO (cs:=[qi (zaB n),qh n.length,qg o,.v (.pointer none),.v (.pointer none)]) 15 rfl rfl) ?_;refine G [6,9,0] ?_;exact yE
  ·cases h
 | .nd p q l r,n,o,hs,hn=>by
  obtain⟨hp,hsl,hsr⟩:=hs;have hH:=zjR p n hp hn;have hH2:=zjR n p hn hp;have hEq:=keyEq (q:=n) hp;rw[TR.put];show Fn prog 135 [.p (.pt [qi (zaB p),qh p.length,qg q,trP l,trP r]),.agg (netA (zaB n) n.length),qc o] _ [];refine fnI fun w0 A=>?_
  refine G [18] ?_;refine jfZ (a_peqPN U110) ?_;refine G [2,9,0] ?_;refine cX ?_ ?_<;>intro h
  ·cases h
  refine G [3] ?_;refine jfZ zbm ?_;refine jfZ (zan zb5 rfl) ?_;refine zaa (zay U101 rfl zbw qH (rfl)) rfl rfl ?_;refine lN U101 rfl zbw rfl rfl ⟨rfl,trivial⟩ ?_;refine zaa (zeH U101 rfl rfl qq qq qq) rfl rfl ?_;refine G [2,9,0] ?_;refine cX ?_ ?_<;>intro h
  ·have he:p=n:=by
    have h':=h;rw[hEq]at h';simpa using h'
   rw[if_pos he];refine G [5] ?_;refine jfZ zbm ?_;refine jfZ (zan zcV rfl) ?_;refine zaa (zay U113 rfl sz113 qH (rfl)) rfl rfl ?_;refine G [4,9,0] ?_;refine za1 (zeO (cs:=[qi (zaB n),qh n.length,qg o,trP l,trP r]) 34 rfl rfl) ?_;refine zaq (zbd (zaZ ?_));exact yE
  have hne:p≠n:=by
   have h':=h;rw[hEq]at h';simpa using h'
  clear h;rw[if_neg hne];refine G [3] ?_;refine jfZ zbm ?_;refine jfZ (zan zb5 rfl) ?_;refine zaa (zay U101 rfl zbw qH (rfl)) rfl rfl ?_;refine lN U101 rfl zbw rfl rfl ⟨rfl,trivial⟩ ?_;refine cV hH ?_;refine G [2,9,0] ?_;refine cX ?_ ?_<;>intro h
  ·have hpn:p<+:n:=qB;clear h;rw[if_pos hpn];have hx:=zb7 hpn (fun e=>hne e.symm);have hlt:p.length<n.length:=qaH;have hS:=side_s p n hlt hn;cases hb:zby n p.length with
   |true=>
    have hP:=put_s r n o hsr hn;rw[show bitN n p.length=1 by unfold bitN;rw[hb];rfl]at hS;rw[if_pos rfl];refine G [3] ?_;refine jfZ zbm ?_;refine zaa (zay underlying115 rfl sz115 qH (rfl)) rfl rfl ?_;refine G [6] ?_;refine jfZ zbm ?_;refine jfZ (zan zb5 rfl) ?_;refine zaa (zay U101 rfl zbw qH (rfl)) rfl rfl ?_;refine lN U101 rfl zbw rfl rfl ⟨rfl,trivial⟩ ?_;refine cV hS ?_;refine G [7] ?_;refine jfZ zbm ?_
    refine jfZ (zan zcV rfl) ?_;refine zaa (zcm U113 zde qp qp rfl) rfl rfl ?_;refine zaa (zaz U110 rfl qt) rfl rfl ?_;refine G [2] ?_;refine cK hP ?_;refine fA zcV rfl rfl ?_;refine zaa (zap U113 zde qp qp qE) rfl rfl ?_;refine G [6,9,0] ?_;refine za1 (zeO (cs:=[qi (zaB p),qh p.length,qg q,trP l,trP (r.put n o)]) 8 rfl rfl) ?_;refine zaq (zbd (zaZ ?_));exact yE
   |false=>
    have hP:=put_s l n o hsl hn;rw[show bitN n p.length=0 by unfold bitN;rw[hb];rfl]at hS;rw[if_neg (by simp)];refine G [3] ?_;refine jfZ zbm ?_;refine zaa (zay underlying115 rfl sz115 qH (rfl)) rfl rfl ?_;refine G [6] ?_;refine jfZ zbm ?_;refine jfZ (zan zb5 rfl) ?_;refine zaa (zay U101 rfl zbw qH (rfl)) rfl rfl ?_;refine lN U101 rfl zbw rfl rfl ⟨rfl,trivial⟩ ?_;refine cV hS ?_;refine G [7] ?_;refine jfZ zbm ?_
    refine jfZ (zan zcV rfl) ?_;refine zaa (zcm U113 zde qp qp rfl) rfl rfl ?_;refine zaa (zaz U110 rfl qt) rfl rfl ?_;refine G [2] ?_;refine cK hP ?_;refine fA zcV rfl rfl ?_;refine zaa (zap U113 zde qp qp qE) rfl rfl ?_;refine G [6,9,0] ?_;refine za1 (zeO (cs:=[qi (zaB p),qh p.length,qg q,trP (l.put n o),trP r]) 8 rfl rfl) ?_;refine zaq (zbd (zaZ ?_));exact yE
  have hpn:¬p<+:n:=qB;clear h;rw[if_neg hpn];refine G [4] ?_;refine jfZ zbm ?_;refine jfZ (zan zb5 rfl) ?_;refine zaa (zay U101 rfl zbw qH (rfl)) rfl rfl ?_;refine cV hH2 ?_;refine G [2,9,0] ?_;refine cX ?_ ?_<;>intro h
  ·have hnp:n<+:p:=qB;clear h;rw[if_pos hnp];have hx:=zb7 hnp (fun e=>hne e);have hlt:n.length<p.length:=qaH;have hS:=side_s n p hlt hp;cases hb:zby p n.length with
   |true=>
    rw[show bitN p n.length=1 by unfold bitN;rw[hb];rfl]at hS;rw[if_pos rfl];refine G [5] ?_;refine jfZ zbm ?_;refine jfZ (zan zb5 rfl) ?_;refine zaa (zay U101 rfl zbw qH (rfl)) rfl rfl ?_;refine cV hS ?_;refine G [3] ?_;refine zaa (zap U113 zde qp qp qE) rfl rfl ?_;refine G [7,9,0] ?_;refine za1 (zeO (cs:=[qi (zaB n),qh n.length,qg o,.v (.pointer none),.pt [qi (zaB p),qh p.length,qg q,trP l,trP r]]) 15 rfl rfl) ?_
    refine zaq (zbd (zaZ ?_));exact yE
   |false=>
    rw[show bitN p n.length=0 by unfold bitN;rw[hb];rfl]at hS;rw[if_neg (by simp)];refine G [5] ?_;refine jfZ zbm ?_;refine jfZ (zan zb5 rfl) ?_;refine zaa (zay U101 rfl zbw qH (rfl)) rfl rfl ?_;refine cV hS ?_;refine G [3] ?_;refine zaa (zap U113 zde qp qp qE) rfl rfl ?_;refine G [7,9,0] ?_;refine za1 (zeO (cs:=[qi (zaB n),qh n.length,qg o,.pt [qi (zaB p),qh p.length,qg q,trP l,trP r],.v (.pointer none)]) 15 rfl rfl) ?_
    refine zaq (zbd (zaZ ?_));exact yE
  have hnp:¬n<+:p:=qB;clear h;rw[if_neg hnp];have hJ:=kJoin_s p n hp hn;have f2:=(fork_bits hpn hnp).2.1;have hlt:(lcpL p n).length<n.length:=by have:=f2.length_le;simp at this;omega
  have hS:=side_s (lcpL p n) n hlt hn;generalize hj:lcpL p n=j at*;cases hb:zby n j.length with
  |true=>
   rw[show bitN n j.length=1 by unfold bitN;rw[hb];rfl]at hS;rw[if_pos rfl];refine G [11] ?_;refine jfZ zbm ?_;refine jfZ (zan zb5 rfl) ?_;refine zaa (zay U101 rfl zbw qH (rfl)) rfl rfl ?_;refine lN U101 rfl zbw rfl rfl ⟨rfl,trivial⟩ ?_;refine cV hJ ?_;refine G [14] ?_;refine cV hS ?_;refine G [13] ?_;refine zaa (zap U113 zde qp qp qE) rfl rfl ?_;refine zab (zbt (Y:=.ref _ _) zde rfl qI qu qM) rfl rfl ⟨rfl,trivial⟩ ?_
   refine G [2] ?_;refine zaa (zap U113 zde qp qp qE) rfl rfl ?_;refine G [2,9,0] ?_;refine za1 (zeO (cs:=[qi (zaB n),qh n.length,qg o,.v (.pointer none),.v (.pointer none)]) 15 rfl rfl) ?_;refine za1 (zeO (cs:=[qi (zaB j),qh j.length,qg ⟨#[]⟩,.pt [qi (zaB p),qh p.length,qg q,trP l,trP r],.pt [qi (zaB n),qh n.length,qg o,.v (.pointer none),.v (.pointer none)]]) 83 rfl rfl) ?_;refine G [6,9,0] ?_;exact yE
  |false=>
   rw[show bitN n j.length=0 by unfold bitN;rw[hb];rfl]at hS;rw[if_neg (by simp)];refine G [11] ?_;refine jfZ zbm ?_;refine jfZ (zan zb5 rfl) ?_;refine zaa (zay U101 rfl zbw qH (rfl)) rfl rfl ?_;refine lN U101 rfl zbw rfl rfl ⟨rfl,trivial⟩ ?_;refine cV hJ ?_;refine G [14] ?_;refine cV hS ?_;refine G [13] ?_;refine zaa (zap U113 zde qp qp qE) rfl rfl ?_;refine zab (zbt (Y:=.ref _ _) zde rfl qI qu qM) rfl rfl ⟨rfl,trivial⟩ ?_
   refine G [2] ?_;refine zaa (zap U113 zde qp qp qE) rfl rfl ?_;refine G [2,9,0] ?_;refine za1 (zeO (cs:=[qi (zaB n),qh n.length,qg o,.v (.pointer none),.v (.pointer none)]) 15 rfl rfl) ?_;refine za1 (zeO (cs:=[qi (zaB j),qh j.length,qg ⟨#[]⟩,.pt [qi (zaB n),qh n.length,qg o,.v (.pointer none),.v (.pointer none)],.pt [qi (zaB p),qh p.length,qg q,trP l,trP r]]) 83 rfl rfl) ?_;refine G [6,9,0] ?_;exact yE
def zcq(l:List ND):TR:=rootRes (zdH l.length l)
theorem zd2{l:List ND}(hok:∀x∈l,x.OK):zcu l=0↔isTrie l (zcq l):=by
 unfold zcu
 constructor
 ·intro h
  split at h
  ·rename_i h';exact absurd h h'
  ·split at h
   ·rename_i h1 h2;subst h2;exact⟨trivial,trivial,rfl⟩
   ·split at h
    ·rename_i h1 h2 h3;unfold zcq;cases hq:zdH l.length l with
     |none=>rw[hq]at h3;cases h3
     |some r=>
      obtain⟨t,rest⟩:=r;rw[hq]at h3;obtain⟨⟨hv,hs,_⟩,hl⟩:=zez hok hq;cases rest with
      |cons=>cases h3
      |nil=>exact⟨hv,hs,by rw[List.append_nil]at hl;exact hl⟩
    ·exact absurd h qS
 ·rintro⟨hv,hs,hl⟩;have h0:zeZ l=0:=zeC.2 fun x hx=>TR.list_fault hs x (by rw[←hl];exact hx)
  rw[if_neg (by simp[h0])]
  by_cases hne:l=[]
  ·rw[if_pos hne]
  ·rw[if_neg hne];obtain⟨t,ht⟩:=(isTrie_grow hok hne).1 ⟨_,hv,hs,hl⟩;rw[ht];rfl
theorem zgz{t:TR}(hok:∀x∈t.list,x.OK)(hv:t.valid)(hs:t.short):zcu t.list=0∧zcq t.list=t:=by
 have h2:zcq t.list=t:=by
  unfold zcq
  by_cases hn:t=.nil
  ·subst hn;rfl
  ·have:=zfo (t:=t) (n:=t.list.length) (rest:=[]) ⟨hv,hs,hn⟩ (Nat.le_refl _);rw[List.append_nil]at this;rw[this];rfl
 exact⟨(zd2 hok).2 (by rw[h2];exact⟨hv,hs,rfl⟩),h2⟩
theorem TR.put_len:∀(t:TR) (n:Key) (o:Own),(t.put n o).list.length≤t.list.length+2
 | .nil,n,o=>by simp[TR.put,TR.list_nd,TR.list_nil]
 | .nd p q l r,n,o=>by
  have h1:=TR.put_len l n o;have h2:=TR.put_len r n o;rw[TR.put]
  split
  ·simp[TR.list_nd]
  ·split
   ·split
    ·simp only[TR.list_nd,qbE,qbm]at*;omega
    ·simp only[TR.list_nd,qbE,qbm]at*;omega
   ·split
    ·split<;>simp[TR.list_nd,TR.list_nil]
    ·split<;>(simp only[TR.list_nd,TR.list_nil,qbE,qbm,qcQ];omega)
def nRes(e:Int):AV:=if e=0 then .tup [.row 0,qd 0]else .tup [qm,qd e]
def nNew(e:Int)(l:List ND):List (Nat×AObj):=if e=0 then [(0,.row 103 4 l.length (nds l))]else []
theorem zjJ{e:Int}(he:e≠0)(l:List ND):nRes e=.tup [qm,qd e]∧nNew e l=[]:=by unfold nRes nNew;rw[if_neg he,if_neg he];exact⟨rfl,rfl⟩
theorem zh2(l:List ND):nRes 0=.tup [.row 0,qd 0]∧nNew 0 l=[(0,.row 103 4 l.length (nds l))]:=by unfold nRes nNew;rw[if_pos rfl,if_pos rfl];exact⟨rfl,rfl⟩
theorem zdX(l:List ND):(nds l).all PV.isV=true:=by
 induction l with
 |nil=>rfl
 |cons x l ih=>rw[zdM];simp[PV.isV,ih]
def putE(l:List ND)(n:ND):Int:=if zcu l≠0 then zcu l else if n.fault≠0 then n.fault else if n.o=noOwn then 3 else 0
def putL(l:List ND)(n:ND):List ND:=((zcq l).put n.key n.o).list
theorem Put_s(l:List ND)(hok:∀x∈l,x.OK)(hz:l.length*40≤140737488351232)(n:ND)(hn:n.OK):Fn prog 98 [.p (ndsV l),.agg (netA n.a n.n),qc n.o] (nRes (putE l n)) (nNew (putE l n) (putL l n)):=by
 have hC:=tcheck_s l hok qp;have hT:=tree_s l hok qp;have hTi:=zd2 hok;have hN:=zdk n.a n.n hn.a0 hn.a1;have hK:=@ND.keyed n hn.a0 hn.a1;have e0:zaD n.a n.n=n.fault:=rfl;rw[e0]at hN;unfold putE
 by_cases h1:zcu l≠0
 ·rw[if_pos h1];obtain⟨e1,e2⟩:=zjJ h1 (putL l n);rw[e1,e2];generalize zcu l=e at*;refine fnI fun w0 A=>?_
  refine G [10] ?_;exact jc1
 rw[if_neg h1];replace h1:zcu l=0:=qbq.1 h1;rw[h1]at hC
 by_cases h2:n.fault≠0
 ·rw[if_pos h2];obtain⟨e1,e2⟩:=zjJ h2 (putL l n);rw[e1,e2];generalize n.fault=e at*;refine fnI fun w0 A=>?_
  refine G [10] ?_;refine cV hC ?_;refine G [5,1,1,9,0] ?_;refine cX ?_ ?_<;>intro h
  ·cases h
  refine G [5] ?_;refine cV hN ?_;refine jds ?_;refine cX ?_ ?_<;>intro h
  ·exact jaW
  ·exact absurd qB h2
 rw[if_neg h2];replace h2:n.fault=0:=qbq.1 h2;rw[h2]at hN
 by_cases h3:n.o=noOwn
 ·rw[if_pos h3];obtain⟨e1,e2⟩:=zjJ (show(3:Int)≠0 by decide) (putL l n);rw[e1,e2,h3];refine fnI fun w0 A=>?_
  refine G [10] ?_;refine cV hC ?_;refine G [5,1,1,9,0] ?_;refine cX ?_ ?_<;>intro h
  ·cases h
  refine G [5] ?_;refine cV hN ?_;refine G [5,1,1,9,0] ?_;refine cX ?_ ?_<;>intro h
  ·cases h
  refine G [5,1,1,9,0] ?_;exact jbi
 rw[if_neg h3];obtain⟨e1,e2⟩:=zh2 (putL l n);rw[e1,e2];clear e1 e2;obtain⟨hv,hs,hl⟩:=hTi.1 h1;obtain⟨k1,k2,k3⟩:=hK h2;have hP:=put_s (zcq l) n.key n.o hs k1;have hlen:=TR.put_len (zcq l) n.key n.o;rw[←hl]at hlen;have hL:=list_s ((zcq l).put n.key n.o) qp;have hCl:=zj5 ((zcq l).put n.key n.o).list.length (nds ((zcq l).put n.key n.o).list) (zc8 _) qp;have hT':Fn prog 51 [.p (ndsV l)] (.p (trP (zcq l))) []:=hT
 have hiv:=zdX ((zcq l).put n.key n.o).list;unfold putL;unfold keyA at hP;rw[←k2,←k3]at hP;generalize ((zcq l).put n.key n.o)=u at*;generalize zcq l=t at*;generalize nds u.list=cs at*;generalize u.list.length=m at*;refine fnI fun w0 A=>?_
 refine G [10] ?_;refine cV hC ?_;refine G [5,1,1,9,0] ?_;refine cX ?_ ?_<;>intro h
 ·cases h
 refine G [5] ?_;refine cV hN ?_;refine G [5,1,1,9,0] ?_;refine cX ?_ ?_<;>intro h
 ·cases h
 refine jds ?_;refine cX ?_ ?_<;>intro h
 ·exact absurd qB h3
 refine G [2] ?_;refine za9 8 qq ?_;refine jdn ?_;refine cK hT' ?_;refine G [2] ?_;refine cK hP ?_;refine cK hL ?_;refine zaU (fun n=>28+1000*n) (hCl) rfl rfl func57 rfl rfl (by simp[AV.noSl,AV.noSlL,AObj.noSl,hiv]) (by simp[AV.noSl,AV.noSlL,AObj.noSl,hiv]) rfl rfl rfl qr rfl rfl rfl ?_;refine jdY ?_;refine yT (fun _=>28) ?_ ?_
 ·exact rfl
 ·exact jbn
theorem krJoin_s(p q:Key)(hp:p.length≤32)(hq:q.length≤32):Fn prog 157 [.agg (keyA p),.agg (keyA q)] (.tup [.agg (keyA (lcpL p q)),qd 0]) []:=by
 have h:=nrJoin_s (zaB p) p.length (zaB q) q.length (zbJ p hp) (zbJ q hq) (zba p hp).1 (zba p hp).2 (zba q hq).1 (zba q hq).2;exact jcW
theorem kbit_s(q:Key)(i:Nat)(hq:q.length≤32)(hi:i<q.length):Fn prog 158 [qe (zaB q),qd (i:Nat)] (qe (bitN q i:Nat)) []:=by
 have h:=nbit_s (zaB q) (i:Nat) qp qp (zba q hq).1 (zba q hq).2
 have e:bitI (zaB q) (i:Nat)=((bitN q i:Nat):Int):=by
  unfold bitI bitN;rw[bit_key q i hq hi]
  split<;>rfl
 rwa [e]at h
theorem owned_s(l:List ND)(hz:l.length*40≤140737488355328):Fn prog 72 [.p (ndsV l)] (.row 0) [(0,.row 103 4 (zdw l).length (nds (zdw l)))]:=by
 refine fnI fun w0 A=>?_
 refine jdV ?_;refine za3 (zca 3 3 103 4 rfl rfl) ?_;refine G [8] ?_;refine zag (fun m st=>∃i:Nat,m+i=l.length∧st=St.of [(3,.row 3),(6,.p (ndsV l)),(7,qd l.length),(8,qd i)] [(3,.row 103 4 (zdw (l.take i)).length (nds (zdw (l.take i))))]) l.length ?_ ?_
 ·exact jb6
 rintro m st ⟨i,hi,rfl⟩;refine G [5] ?_;refine cX ?_ ?_<;>intro h
 ·have hlt:i<l.length:=qw;clear h;obtain⟨x,hx⟩:=qo hlt;have hld:=zi1 l i x hx;have hln:=zc8 l;have hnx:=ownedL_take hx;have hb:=ziY (l.take i);have hb2:(l.take i).length=i:=qad;refine jfT ?_;refine G [9,9,0] ?_;refine cX ?_ ?_<;>intro h
  ·have hne:x.o≠noOwn:=qB;rw[if_pos hne]at hnx;have hl2:(zdw (l.take i)).length+1=(zdw (l.take (i+1))).length:=by rw[hnx];simp
   have happ:nds (zdw (l.take i))++[qi x.a,qh x.n,qg x.o,qh 1]=nds (zdw (l.take (i+1))):=by rw[hnx,zgN];rfl
   skip
   refine G [7] ?_;refine zab (xs:=[.agg [qe x.a,qd x.n,qc x.o,qd 1]]) (zae (es:=[qe x.a,qd x.n,qc x.o,qd 1]) (cs:=[qi x.a,qh x.n,qg x.o,qh 1]) 21 U25 zcZ zc103 (qbk rfl) (qbk rfl) rfl qq qq qq (qbk rfl)) qF rfl ⟨rfl,trivial⟩ ?_;refine zab (zam 22 U25 zhj (zas) qy qp hl2 happ) rfl rfl ⟨rfl,rfl,rfl,trivial⟩ ?_;refine jdw ?_;refine⟨m-1,qp,_,zai (fun _=>22) _ _ qv qv rfl,i+1,qp,rfl⟩
  ·have hne:x.o=noOwn:=qB;rw[if_neg (by simp[hne]),List.append_nil]at hnx;rw[←hnx];refine jdC ?_;refine⟨m-1,qp,_,zai id _ _ qv qv rfl,i+1,qp,rfl⟩
 have hge:i=l.length:=qw;clear h;subst hge;rw[qbL];refine jds ?_;refine yT (fun _=>3) ?_ ?_
 ·exact rfl
 ·exact jbn
theorem ziZ{M:List (Key×Own)}{i:Nat}{x:Key×Own}(h:M[i]?=some x):((nds (M.map one)).drop (i*4)).take 4=[qi (zaB x.1),qh x.1.length,qg x.2,qh 1]:=
 zi1 _ i (one x) (by rw[qbM,h];rfl)
theorem one_len(M:List (Key×Own)):(nds (M.map one)).length=M.length*4:=by rw[zc8,List.length_map]
theorem toND_len(n:Nat)(M:List (Key×Own)):((zbF n M).map toND).length≤2*M.length:=by
 have:=zed n M;rw[List.length_map];omega
theorem grown_s:∀(n:Nat) (M:List (Key×Own)),M.length≤n→(∀x∈M,x.1.length≤32)→M.length≤17179869184→
 Fn prog 115 [ql M.length 4 (nds (M.map one))] (.row 0) [(0,.row 103 4 ((zbF n M).map toND).length (nds ((zbF n M).map toND)))]
 |n,[],hn,hK,hz=>by
  have e:(zbF n []).map toND=[]:=by cases n<;>rfl
  rw[e];show Fn prog 115 [ql 0 4 []] (.row 0) [(0,.row 103 4 0 [])];refine fnI fun w0 A=>?_
  refine G [9,1,1,9,0] ?_;refine cX ?_ ?_<;>intro h
  ·refine G [4,9,0] ?_;refine za3 (zca 2 100 103 4 rfl rfl) ?_;refine zaq (zaZ (yT (fun _=>100) ?_ ?_))
   ·exact rfl
   ·exact⟨⟨rfl,rfl⟩,trivial⟩
  ·cases h
 |0,_::_,hn,_,_=>by simp at hn
 |n+1,x0::l,hn,hK,hz=>by
  have ih:=grown_s n;have hL:=zed n (zaR (za0 (x0::l)) false (x0::l));have hR:=zed n (zaR (za0 (x0::l)) true (x0::l));have hside:=zjr (za0 (x0::l)) (x0::l);have hlt:=side_lt (M:=x0::l) qG;have hjp:=zdA (l:=x0::l);have hx0:=hK x0 qG;have hgr:zbF (n+1) (x0::l)=(za0 (x0::l),zdW (za0 (x0::l)) (x0::l),1+(zbF n (zaR (za0 (x0::l)) false (x0::l))++zbF n (zaR (za0 (x0::l)) true (x0::l))).length)::(zbF n (zaR (za0 (x0::l)) false (x0::l))++zbF n (zaR (za0 (x0::l)) true (x0::l))):=rfl
  rw[hgr];clear hgr;have hJ:za0 (x0::l)=zh7 x0.1 ((x0::l).map Prod.fst):=rfl;have hJl:=joinAll_le (M:=x0::l) hK;obtain⟨top,htop⟩:∃top,top=za0 (x0::l):=⟨_,rfl⟩;rw[←htop]at hL hR hside hlt hjp hJ hJl⊢;have hfst:∃cs,nds ((x0::l).map one)=qi (zaB x0.1)::qh x0.1.length::cs:=⟨_,rfl⟩;have hM0:(x0::l)[0]?=some x0:=rfl;have hpos:0<(x0::l).length:=qG;generalize x0::l=M at*;have hlen:=one_len M;obtain⟨cs,hcs⟩:=hfst
  refine fnI fun w0 A=>?_
  refine G [11,9,0] ?_;refine cX ?_ ?_<;>intro h
  ·exfalso;simp at h;rw[h]at hpos;simp at hpos
  clear h;have h0at:((nds (M.map one)).drop (Int.toNat 0*4)).take 4=[qi (zaB x0.1),qh x0.1.length,qg x0.2,qh 1]:=ziZ hM0;have h0d:(nds (M.map one)).drop (Int.toNat 0*4)=qi (zaB x0.1)::qh x0.1.length::cs:=hcs;generalize hB:nds (M.map one)=B at*;refine G [4] ?_;refine zaa (zaL U25 zcZ qp qp h0d) rfl rfl ?_;refine jfZ (zan zgV rfl) ?_;refine zaa (zay U101 rfl zbw qG (rfl)) rfl rfl ?_;refine G [11] ?_;refine ze4 (St.of [(0,ql M.length 4 B),(3,.ref 3 0)] [(3,.box 101 (keyA top))]) ?_ ?_
  ·refine zag (fun m st=>∃i:Nat,m+i=M.length∧st=St.of [(0,ql M.length 4 B),(3,.ref 3 0),(19,ql M.length 4 B),(20,qd M.length),(21,qd i)] [(3,.box 101 (keyA (zh7 x0.1 ((M.take i).map Prod.fst))))]) M.length ?_ ?_
   ·refine⟨_,zai id _ _ qv qv rfl,0,qp,rfl⟩
   rintro m st ⟨i,hi,rfl⟩;refine G [5] ?_;refine cX ?_ ?_<;>intro h
   ·have hlt:i<M.length:=qw;clear h;obtain⟨x,hx⟩:=qo hlt;have hld:=ziZ hx;rw[hB]at hld;have hxl:=hK x (qbo hx);have hnx:=joinK_take (p:=x0.1) hx;have hJp:=(zgP ((M.take i).map Prod.fst) x0.1).length_le;have hC:=krJoin_s (zh7 x0.1 ((M.take i).map Prod.fst)) x.1 qp hxl;rw[←hnx]at hC;generalize zh7 x0.1 ((M.take i).map Prod.fst)=j at*;refine G [6] ?_;refine zaa (zay U103 rfl zcZ qY (hld)) rfl rfl ?_;refine G [7] ?_
    refine cV hC ?_;refine G [9,9,0] ?_;refine⟨m-1,qp,_,zai id _ _ qv qv rfl,i+1,qp,rfl⟩
   ·have hge:i=M.length:=qw;subst hge;rw[qbL,←hJ];refine zar (za8 (za8 (zbi (zat ?_))));exact zai id _ _ qv qv rfl
  refine G [12,9,0] ?_;refine za3 (zca 7 7 103 4 rfl rfl) ?_;refine za3 (zca 8 8 103 4 rfl rfl) ?_;refine G [8] ?_;refine ze4 (St.of [(6,.ref 6 0),(7,.row 7),(8,.row 8)] [(6,.box 103 [qe (zaB top),qd top.length,qc (zdW top M),qd 0]),(7,.row 103 4 (zaR top false M).length (nds ((zaR top false M).map one))),(8,.row 103 4 (zaR top true M).length (nds ((zaR top true M).map one)))]) ?_ ?_
  ·refine zag (fun m st=>∃i:Nat,m+i=M.length∧st=St.of [(3,.ref 3 0),(6,.ref 6 0),(7,.row 7),(8,.row 8),(35,ql M.length 4 B),(36,qd M.length),(37,qd i)] [(3,.box 101 (keyA top)),(6,.box 103 [qe (zaB top),qd top.length,qc (zdW top (M.take i)),qd 0]),(7,.row 103 4 (zaR top false (M.take i)).length (nds ((zaR top false (M.take i)).map one))),(8,.row 103 4 (zaR top true (M.take i)).length (nds ((zaR top true (M.take i)).map one)))]) M.length ?_ ?_
   ·refine⟨_,zai id _ _ qv qv rfl,0,qp,rfl⟩
   rintro m st ⟨i,hi,rfl⟩;refine G [5] ?_;refine cX ?_ ?_<;>intro h
   ·have hlt':i<M.length:=qw;clear h;obtain⟨x,hx⟩:=qo hlt';have hld:=ziZ hx;rw[hB]at hld;have hxl:=hK x (qbo hx);have hxp:=hjp x (qbo hx);have n1:=rootOwn_take (top:=top) hx;have n2:=ziJ (top:=top) (b:=false) hx;have n3:=ziJ (top:=top) (b:=true) hx;have hEq:=keyEq (p:=x.1) (q:=top) hxl;have hsd:=zjr top (M.take i);have htk:=take_len M i;generalize zdW top (M.take i)=ow at*;generalize zaR top false (M.take i)=sl at*
    generalize zaR top true (M.take i)=sr at*;obtain⟨xk,xo⟩:=x;simp only at n1 n2 n3 hEq hxp hxl hld
    by_cases hxt:xk=top
    ·rw[if_pos hxt]at n1;rw[if_neg (by simp[hxt]),List.append_nil]at n2 n3;rw[hxt]at hEq hld;subst n1;subst n2;subst n3;refine G [6] ?_;refine zaa (zay U103 rfl zcZ qY (hld)) rfl rfl ?_;refine G [9] ?_;refine zaa (a_steqT U101 rfl qq qq) rfl rfl ?_;refine G [2,9,0] ?_;refine cX ?_ ?_<;>intro h
     ·skip
      refine G [10,9,0] ?_;refine⟨m-1,qp,_,zai id _ _ qv qv rfl,i+1,qp,rfl⟩
     ·cases h
    ·rw[if_neg hxt]at n1;rw[decide_eq_false hxt]at hEq;have hx1:=zb7 hxp hxt;have hxlt:top.length<xk.length:=by have:=hx1.length_le;simp at this;omega
     have hbit:=kbit_s xk top.length hxl hxlt;cases hb:zby xk top.length with
     |false=>
      rw[if_pos ⟨hxt,hb⟩]at n2;rw[if_neg (by simp[hb]),List.append_nil]at n3;subst n1;subst n3;rw[show bitN xk top.length=0 by unfold bitN;rw[hb];rfl]at hbit;have hl2:sl.length+1=(zaR top false (M.take (i+1))).length:=by rw[n2];simp
      have happ:nds (sl.map one)++[qi (zaB xk),qh xk.length,qg xo,qh 1]=nds ((zaR top false (M.take (i+1))).map one):=by rw[n2,qbY,zgN];rfl
      refine G [6] ?_;refine zaa (zay U103 rfl zcZ qY (hld)) rfl rfl ?_;refine G [9] ?_;refine zaa (zeH U101 rfl rfl qq qq qq) rfl rfl ?_;refine G [2,9,0] ?_;refine cX ?_ ?_<;>intro h
      ·have h':=h;rw[hEq]at h';cases h'
      refine G [7] ?_;refine cV hbit ?_;refine G [0,1,2,9,0] ?_;refine cX ?_ ?_<;>intro h
      ·skip
       refine G [3] ?_;refine zab (xs:=[.agg [qe (zaB xk),qd xk.length,qc xo,qd 1]]) (zae (es:=[qe (zaB xk),qd xk.length,qc xo,qd 1]) (cs:=[qi (zaB xk),qh xk.length,qg xo,qh 1]) 63 U25 zcZ zc103 (qbk rfl) (qbk rfl) rfl qq qq qq (qbk rfl)) qF rfl ⟨rfl,trivial⟩ ?_;refine zab (zam 64 U25 zhj (zas) qy qp hl2 happ) rfl rfl ⟨rfl,rfl,rfl,trivial⟩ ?_;refine G [6,9,0] ?_;refine⟨m-1,qp,_,zai (fun o=>bif Nat.beq o 7 then 64 else o) _ _ qv qv rfl,i+1,qp,rfl⟩
      ·cases h
     |true=>
      rw[if_pos ⟨hxt,hb⟩]at n3;rw[if_neg (by simp[hb]),List.append_nil]at n2;subst n1;subst n2;rw[show bitN xk top.length=1 by unfold bitN;rw[hb];rfl]at hbit;have hl2:sr.length+1=(zaR top true (M.take (i+1))).length:=by rw[n3];simp
      have happ:nds (sr.map one)++[qi (zaB xk),qh xk.length,qg xo,qh 1]=nds ((zaR top true (M.take (i+1))).map one):=by rw[n3,qbY,zgN];rfl
      refine G [6] ?_;refine zaa (zay U103 rfl zcZ qY (hld)) rfl rfl ?_;refine G [9] ?_;refine zaa (zeH U101 rfl rfl qq qq qq) rfl rfl ?_;refine G [2,9,0] ?_;refine cX ?_ ?_<;>intro h
      ·have h':=h;rw[hEq]at h';cases h'
      refine G [7] ?_;refine cV hbit ?_;refine G [3,9,0] ?_;refine cX ?_ ?_<;>intro h
      ·cases h
      ·skip
       refine G [3] ?_;refine zab (xs:=[.agg [qe (zaB xk),qd xk.length,qc xo,qd 1]]) (zae (es:=[qe (zaB xk),qd xk.length,qc xo,qd 1]) (cs:=[qi (zaB xk),qh xk.length,qg xo,qh 1]) 43 U25 zcZ zc103 (qbk rfl) (qbk rfl) rfl qq qq qq (qbk rfl)) qF rfl ⟨rfl,trivial⟩ ?_;refine zab (zam 44 U25 zhj (zas) qy qp hl2 happ) rfl rfl ⟨rfl,rfl,rfl,trivial⟩ ?_;refine G [6,9,0] ?_;refine⟨m-1,qp,_,zai (fun o=>bif Nat.beq o 8 then 44 else o) _ _ qv qv rfl,i+1,qp,rfl⟩
   ·have hge:i=M.length:=qw;subst hge;rw[qbL];refine zar (za8 (za8 (zbi (zat ?_))));exact zai id _ _ qv qv rfl
  have gl:=ih (zaR top false M) (by have:=hlt false;omega) (fun x hx=>hK x (zc0.1 hx).1) qp;have gr:=ih (zaR top true M) (by have:=hlt true;omega) (fun x hx=>hK x (zc0.1 hx).1) qp;have b1:=zdX ((zaR top false M).map one);have b2:=zdX ((zaR top true M).map one);have b3:=zdX ((zbF n (zaR top false M)).map toND);have b4:=zdX ((zbF n (zaR top true M)).map toND);have l1:=toND_len n (zaR top false M);have l2:=toND_len n (zaR top true M)
  rw[qbu,qbY,zdM,zgN];have e1:1+(zbF n (zaR top false M)++zbF n (zaR top true M)).length=1+(((zbF n (zaR top false M)).map toND).length+((zbF n (zaR top true M)).map toND).length):=qG;rw[e1];simp only[qbE,qbm]at*;clear e1 hJ;generalize (zbF n (zaR top false M)).map toND=L1 at*;generalize (zbF n (zaR top true M)).map toND=L2 at*;generalize zaR top false M=M1 at*;generalize zaR top true M=M2 at*;generalize zdW top M=ow at*
  refine G [3] ?_;refine zaU (fun n=>67+1000*n) (gl) rfl rfl func115 rfl rfl (by simp[AV.noSl,AV.noSlL,AObj.noSl,b3]) (by simp[AV.noSl,AV.noSlL,AObj.noSl,b3]) rfl rfl rfl qr rfl rfl rfl ?_;refine jfZ (zah (r:=.row _)) ?_;refine zaU (fun n=>69+1000*n) (gr) rfl rfl func115 rfl rfl (by simp[AV.noSl,AV.noSlL,AObj.noSl,b4]) (by simp[AV.noSl,AV.noSlL,AObj.noSl,b4]) rfl rfl rfl qr rfl rfl rfl ?_;refine zab (zam 70 U25 zhj (zas) qy qp rfl rfl) rfl rfl ⟨rfl,rfl,rfl,trivial⟩ ?_
  refine G [2] ?_;have hsz:IntKind.i64.wrap (1+((L1.length+L2.length:Nat):Int))=((1+(L1.length+L2.length):Nat):Int):=by rw[qcd _ (by omega)];omega
  have hk1:1+(L1.length+L2.length)=L1.length+L2.length+1:=qp;refine G [4] ?_;refine jfZ (zbf hsz) ?_;refine G [6] ?_;refine zab (xs:=[.agg [qe (zaB top),qd top.length,qc ow,qd ((1+(L1.length+L2.length):Nat):Int)]]) (zae (es:=[qe (zaB top),qd top.length,qc ow,qd ((1+(L1.length+L2.length):Nat):Int)]) (cs:=[qi (zaB top),qh top.length,qg ow,qh ((1+(L1.length+L2.length):Nat):Int)]) 76 U25 zcZ zc103 (qbk rfl) (qbk rfl) rfl qq qq qq (qbk rfl)) qF rfl ⟨rfl,trivial⟩ ?_
  refine jfZ (zah (r:=.row _)) ?_;refine zab (zam 78 U25 zhj (zas) qy qp hk1 rfl) rfl rfl ⟨rfl,rfl,rfl,trivial⟩ ?_;refine G [3,9,0] ?_;refine yT (fun _=>78) ?_ ?_
  ·exact rfl
  ·exact⟨⟨rfl,rfl⟩,trivial⟩
theorem trieE_cases{l:List ND}(hf:∀x∈l,x.fault=0):zcu l=0∨zcu l=14:=by
 unfold zcu;rw[if_neg (by rw[qbq];exact zeC.2 hf)]
 split
 ·exact .inl rfl
 ·split
  ·exact .inl rfl
  ·exact .inr rfl
theorem trieE_no{l:List ND}(hok:∀x∈l,x.OK)(hf:∀x∈l,x.fault=0)(h:¬(((prs l).map Prod.fst).Nodup∧zgm (prs l)=l)):zcu l=14:=by
 rcases trieE_cases hf with h0|h0
 ·exact absurd ((zg8 hok hf).1 ⟨_,(zd2 hok).1 h0⟩) h
 ·exact h0
theorem trieE_yes{l:List ND}(hok:∀x∈l,x.OK)(hf:∀x∈l,x.fault=0)(h:((prs l).map Prod.fst).Nodup∧zgm (prs l)=l):zcu l=0:=by
 obtain⟨t,hv,hs,hl⟩:=(zg8 hok hf).2 h;have:=(zgz (t:=t) (by rw[←hl];exact hok) hv hs).1;rw[hl];exact this
def zgf(x:ND):List Value:=[.int .u32 x.a,.int .i64 x.n,.string x.o,.int .i64 x.s]
theorem ndEq{x y:ND}:eqL (zgf x) (zgf y)=true↔x=y:=by
 rw[zaY]
 constructor
 ·intro h;simp only[zgf,List.cons.injEq,Value.int.injEq,Value.string.injEq,true_and,and_true]at h;exact ND.ext' h.1 h.2.1 h.2.2.1 h.2.2.2
 ·intro h;rw[h]
theorem rcheck_s(l:List ND)(hok:∀x∈l,x.OK)(hz:l.length*40≤140737488351232):Fn prog 71 [.p (ndsV l)] (qd (zcu l)) []:=by
 have hlnl:=zc8 l;refine fnI fun w0 A=>?_
 refine G [12] ?_;refine zag (fun m st=>∃i:Nat,m+i=l.length∧(∀j,j<i→∀y,l[j]?=some y→y.fault=0)∧st=St.of [(0,.p (ndsV l)),(12,.p (ndsV l)),(13,qd l.length),(14,qd i)] []) l.length ?_ ?_
 ·refine⟨_,zfu _ qv,0,qp,qp,rfl⟩
 rintro m st ⟨i,hi,hj,rfl⟩;refine G [5] ?_;refine cX ?_ ?_<;>intro h
 ·have hlt:i<l.length:=qw;clear h;obtain⟨x,hx⟩:=qo hlt;have hxo:=hok x (qbo hx);have hld:=zi1 l i x hx;have hC:=zdy x.a x.n hxo.a0 hxo.a1;have hxf:zaD x.a x.n=x.fault:=rfl;rw[hxf]at hC;obtain⟨F,hF⟩:∃F,F=x.fault:=⟨_,rfl⟩;rw[←hF]at hC;refine G [6] ?_;refine zaa (zay U103 rfl zcZ qap ((show _=x.pv from hld))) rfl rfl ?_;refine G [7] ?_;refine cV hC ?_;refine jds ?_;refine cX ?_ ?_<;>intro h
  ·exact jcu
  ·have he:x.fault=0:=qa6;refine jdC ?_;refine⟨m-1,qp,_,zfu _ qv,i+1,qp,?_,rfl⟩;intro j hj' y hy
   by_cases hji:j=i
   ·subst hji;rw[hx]at hy;cases hy;exact he
   ·exact hj j qp y hy
 have hge:i=l.length:=qw;clear h;subst hge
 have hf:∀x∈l,x.fault=0:=fun x hx=>by
  exact jdj
 have hO:=owned_s l qp;have hprs:=ziX hok hf;have hKs:=zhX hok hf;have hno:=@trieE_no l hok hf;have hyes:=@trieE_yes l hok hf
 have hKl:(prs l).length≤l.length:=by
  have:=ziY l;rw[hprs,List.length_map]at this;exact this
 rw[hprs]at hO;generalize hK:prs l=K at*;have hOi:=zdX (K.map one);have hKn:=one_len K;rw[List.length_map]at hO;generalize hB:nds (K.map one)=B at*;refine G [4] ?_;refine cK hO ?_;refine G [9] ?_
 have hdup:∀(i j:Nat) (x y:Key×Own),i<j→K[i]?=some x→K[j]?=some y→x.1=y.1→zcu l=14:=fun i j x y hij hx hy e=>hno fun hh=>by
  have hn:=hh.1;have h1:(K.map Prod.fst)[i]?=some x.1:=by rw[qbM,hx];rfl
  have h2:(K.map Prod.fst)[j]?=some x.1:=by rw[qbM,hy,e];rfl
  obtain⟨b1,c1⟩:=qbl.1 h1;obtain⟨b2,c2⟩:=qbl.1 h2;have:=(List.pairwise_iff_getElem.1 hn) i j b1 b2 hij;exact this (c1.trans c2.symm)
 refine zaj (zag (fun m st=>∃i:Nat,m+i=K.length∧(∀(a b:Nat) (x y:Key×Own),a<b→b<i→K[a]?=some x→K[b]?=some y→x.1≠y.1)∧st=St.of [(0,.p (ndsV l)),(6,.row 6),(27,.row 6),(28,qd K.length),(29,qd i)] [(6,.row 103 4 K.length B)]) K.length ?_ ?_)
 ·refine⟨_,zai (fun _=>26) _ _ qv qv rfl,0,qp,qp,rfl⟩
 rintro m st ⟨i,hi,hj2,rfl⟩;refine G [5] ?_;refine cX ?_ ?_<;>intro h
 ·have hlt:i<K.length:=qw;clear h;obtain⟨x,hx⟩:=qo hlt;have hld:=ziZ hx;rw[hB]at hld;have hxs:=hKs x (qbo hx);refine G [7] ?_;refine zab (zb1 U103 rfl zcZ qp (hld)) rfl rfl ⟨rfl,trivial⟩ ?_;refine G [9] ?_;refine zag (fun m st=>∃k:Nat,m+k=i∧(∀a y,a<k→K[a]?=some y→y.1≠x.1)∧st=St.of [(0,.p (ndsV l)),(6,.row 6),(7,qd i),(8,.ref 8 0),(9,qd k),(27,.row 6),(28,qd K.length),(29,qd i)] [(6,.row 103 4 K.length B),(8,.box 103 [qe (zaB x.1),qd x.1.length,qc x.2,qd 1])]) i ?_ ?_
  ·refine⟨_,zai id _ _ qv qv rfl,0,qp,qp,rfl⟩
  rintro m2 st ⟨k,hk,hk2,rfl⟩;refine jds ?_;refine cX ?_ ?_<;>intro h
  ·have hklt:k<i:=qw;clear h;obtain⟨y,hy⟩:∃y,K[k]?=some y:=⟨K[k],List.getElem?_eq_getElem qp⟩;have hld2:=ziZ hy;rw[hB]at hld2;have hys:=hKs y (qbo hy);have hEq:=keyEq (p:=y.1) (q:=x.1) hys
   have hld3:(B.drop (k*4)).take 2=[qi (zaB y.1),qh y.1.length]:=by
    have:=congrArg (List.take 2) hld2;rw[qcP]at this;exact this
   refine G [9] ?_;refine zab (zb1 U101 rfl zbw qp (hld3)) rfl rfl ⟨rfl,trivial⟩ ?_;refine G [2] ?_;refine zaa (zeH U101 rfl rfl qq qq qq) rfl rfl ?_;refine zac ⟨qq,?_⟩;refine zat (cX (fun h=>?_) fun h=>?_)
   ·have he:y.1=x.1:=by
     exact jdf
    rw[hdup k i y x hklt hy hx he];refine G [4] ?_;exact jaR
   ·have he:y.1≠x.1:=by
     exact jdf
    refine jdw ?_;refine⟨m2-1,qp,_,zai id _ _ qv qv rfl,k+1,qp,?_,rfl⟩;intro a z ha hz
    by_cases hak:a=k
    ·subst hak;rw[hy]at hz;cases hz;exact he
    ·exact hk2 a z qp hz
  ·have hge:k=i:=qw;subst hge;clear h;refine jdC ?_;refine⟨m-1,qp,_,zai id _ _ qv qv rfl,k+1,qp,?_,rfl⟩;intro a b y z hab hb hy hz
   by_cases hbk:b=k
   ·subst hbk;rw[hx]at hz;cases hz;exact hk2 a y hab hy
   ·exact hj2 a b y z hab qp hy hz
 have hge:i=K.length:=qw;clear h;subst hge
 have hnd:(K.map Prod.fst).Nodup:=by
  refine List.pairwise_iff_getElem.2 fun a b ha hb hab=>?_
  simp only[List.length_map]at ha hb;rw[qcZ,qcZ];exact hj2 a b _ _ hab hb (List.getElem?_eq_getElem ha) (List.getElem?_eq_getElem hb)
 have hfew:K.length≤8589934592:=by
  have:=keys_few hnd fun p hp=>by
   obtain⟨x,hx,rfl⟩:=qbv.1 hp;exact hKs x hx
  rwa [List.length_map]at this
 have hG:=grown_s K.length K (Nat.le_refl _) hKs qp;have hGL:(zbF K.length K).map toND=zgm K:=rfl;rw[hGL]at hG;rw[hB]at hG;have hGi:=zdX (zgm K);generalize hL:zgm K=L at*;refine G [4] ?_;refine zaU (fun n=>49+1000*n) (hG) rfl rfl func115 rfl rfl (by simp[AV.noSl,AV.noSlL,AObj.noSl,hGi]) (by simp[AV.noSl,AV.noSlL,AObj.noSl,hGi]) rfl rfl rfl qr rfl rfl rfl ?_;refine G [11,9,0] ?_;refine cX ?_ ?_<;>intro h
 ·have hne:L.length≠l.length:=qw;rw[hno fun hh=>hne (by rw[hh.2])];exact jbo
 have hll:L.length=l.length:=qw;clear h;have hlnL:=zc8 L;refine G [9] ?_;refine zag (fun m st=>∃i:Nat,m+i=L.length∧(∀j,j<i→L[j]?=l[j]?)∧st=St.of [(0,.p (ndsV l)),(10,.row 10),(56,qd L.length),(57,qd i)] [(10,.row 103 4 L.length (nds L))]) L.length ?_ ?_
 ·refine⟨_,zai (fun _=>49) _ _ qv qv rfl,0,qp,qp,rfl⟩
 rintro m st ⟨i,hi,hj3,rfl⟩;refine G [5] ?_;refine cX ?_ ?_<;>intro h
 ·have hlt:i<L.length:=qw;clear h;obtain⟨x,hx⟩:=qo hlt;obtain⟨y,hy⟩:∃y,l[i]?=some y:=⟨l[i],List.getElem?_eq_getElem qp⟩;have hl1:=zi1 L i x hx;have hl2:=zi1 l i y hy;have hEq:=@ndEq x y;refine G [13] ?_;refine zab (zb1 U103 rfl zcZ qp ((show _=x.pv from hl1))) rfl rfl ⟨rfl,trivial⟩ ?_;refine G [3] ?_;refine zaa (zay U103 rfl zcZ qap ((show _=y.pv from hl2))) rfl rfl ?_;refine zaa (zcW U103 rfl rfl qq qq qq) rfl rfl ?_
  refine zac ⟨qq,?_⟩;refine zat (cX (fun h=>?_) fun h=>?_)
  ·have hne:x≠y:=fun e=>by
    have h':(!eqL (zgf x) (zgf y))=true:=h;rw[hEq.2 e]at h';cases h'
   rw[hno fun hh=>hne (by
    have:=hh.2;rw[this,hy]at hx
    exact(Option.some.inj hx).symm)]
   exact jbo
  ·have he:x=y:=hEq.1 (by
    have h':(!eqL (zgf x) (zgf y))=false:=h;cases hq:eqL (zgf x) (zgf y)with
    |true=>rfl
    |false=>rw[hq]at h';cases h')
   refine jdC ?_;refine⟨m-1,qp,_,zai id _ _ qv qv rfl,i+1,qp,?_,rfl⟩;intro j hj4
   by_cases hji:j=i
   ·subst hji;rw[hx,hy,he]
   ·exact hj3 j qp
 have hge:i=L.length:=qw;clear h;subst hge
 have hLl:L=l:=qcG fun j=>by
  by_cases hj5:j<L.length
  ·exact hj3 j hj5
  ·rw[qcj (by omega),qcj (by omega)]
 rw[hyes ⟨hnd,hLl⟩];exact jaB
theorem ND.of_ty{n:Nat}{ps:List PV}(h:Ty prog (n+3) 103 ps):∃x:ND,x.OK∧ps=x.pv:=by
 obtain⟨_,rfl,x0,_,rfl,t0,x1,_,rfl,t1,x2,_,rfl,t2,rfl⟩:=zbu (ts:=[101,9,3]) qq h;obtain⟨_,rfl,y0,_,rfl,u0,y1,_,rfl,u1,rfl⟩:=zbu (ts:=[33,3]) qq t0;obtain⟨a1,rfl,w1⟩:=zb2 U9 t1;obtain⟨a2,rfl,w2⟩:=zbz U3 t2;obtain⟨b0,rfl,v0⟩:=zbz U33 u0;obtain⟨b1,rfl,v1⟩:=zbz U3 u1;refine⟨⟨b0,b1,a1,a2⟩,?_,rfl⟩;have:=zfZ w2;have:=zfZ v1;have:=wf_u32 v0;exact jdi
theorem nodes_of_ty{n:Nat}{ps:List PV}(h:Ty prog (n+4) 25 ps):∃l:List ND,(∀x∈l,x.OK)∧l.length*40≤140737488351232∧ps=[ndsV l]:=by
 obtain⟨L,rfl,hz,hL⟩:=zhH U25 (sz:=4) qq h;have hb:prog.bytesOf 103=40:=qq;rw[hb]at hz;have:reachBytes≤140737488351232:=qbk rfl
 have hex:∃l:List ND,(∀x∈l,x.OK)∧L=l.map ND.pv:=by
  clear hz this h
  induction L with
  |nil=>exact⟨[],qG,rfl⟩
  |cons y L ih=>
   obtain⟨l,h1,h2⟩:=ih (fun x hx=>hL x (by simp[hx]));obtain⟨x,hx,e⟩:=ND.of_ty (hL y qG).1;refine⟨x::l,fun z hz=>?_,by rw[h2,e];rfl⟩;rcases qbA.1 hz with rfl|hz
   ·exact hx
   ·exact h1 z hz
 obtain⟨l,h1,rfl⟩:=hex;rw[List.length_map]at hz;refine⟨l,h1,qp,?_⟩;rw[List.length_map];unfold ndsV nds;rw[List.flatMap_def]
end Go.Proofs.YtdiljgkijgiboaaGreatDoor
