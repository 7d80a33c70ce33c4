/- Used. -/
import Derived.Test.YtdiljgkijgiboaaGreatDoorSTw9
set_option linter.all false
set_option maxRecDepth 100000
set_option maxHeartbeats 16000000
namespace Go.Proofs.YtdiljgkijgiboaaGreatDoor
open Tryz
open Go.RowKit Go.Sort
theorem ctree_s(c:CF)(ok:c.OK)(h0:cfE c=0):Fn prog 42 [.agg c.cells] (.tup [.row 0,qd 0]) [(0,.row 103 4 (tOf (zaH c.ps c.ps.length)).list.length (nds (tOf (zaH c.ps c.ps.length)).list))]:=by
 have hC:=zim c ok;rw[h0]at hC;have hg:=zgY h0;obtain⟨key,port,ps⟩:=c;have hok:=ok.ps;dsimp only at hg hok;change Fn prog _ [.agg [qc key,qd port,ql ps.length 5 (ps.flatMap PE.pv)]] _ _ at hC;refine jeD ?_;have hok1:∀p∈ps,p.OK:=fun p hp=>(hok p hp).1
 have hall:=zgC hg hok1;have h6:=hg.n6;clear ok h0;refine fnI fun w0 A=>?_
 refine G [10] ?_;refine cK hC ?_;refine G [5,1,1,9,0] ?_;refine cX ?_ ?_<;>intro h
 ·cases h
 refine jdC ?_;refine za3 (zca 5 100 103 4 rfl rfl) ?_;refine G [9] ?_;refine zag (fun m st=>∃i:Nat,m+i=ps.length∧st=St.of [(5,.row 100),(16,ql ps.length 5 (ps.flatMap PE.pv)),(17,qd ps.length),(18,qd i)] [(100,.row 103 4 (tOf (zaH ps i)).list.length (nds (tOf (zaH ps i)).list))]) ps.length ?_ ?_
 ·refine jdL ?_ ?_
  ·exact jap
  ·rw[zfL];exact jbn
 rintro m st ⟨i,hi,rfl⟩;refine G [5] ?_;refine cX ?_ ?_<;>intro h
 ·have hlt:i<ps.length:=qw;clear h;obtain⟨p,hp⟩:=qo hlt;have hch:=zav (f:=PE.pv) (k:=5) (fun _=>rfl) hp;have hle:=zaw (f:=PE.pv) (k:=5) (fun _=>rfl) hlt;have hmem:=qbo hp;have hpn:=(hok p hmem).2;have hin:=tOf_in hg hok1 hp (hall i qp);have hnx:=zfM hp;have hkey:=(zdK (hg.pe p hmem)).2;have h8:=(zdK (hg.pe p hmem)).1;have hBl:=zeS hg (Nat.le_of_lt hlt);have hnet:=hg.net hmem;have hnok:=(hok1 p hmem).nets
  generalize ps.flatMap PE.pv=L at*;refine G [8] ?_;refine jd9 ?_;refine G [9] ?_;refine zag (fun m' st=>∃j:Nat,m'+j=p.nets.length∧st=St.of [(5,.row 100),(7,.ref 7 0),(16,ql ps.length 5 L),(17,qd ps.length),(18,qd i),(23,ql p.nets.length 2 (p.nets.flatMap ntC)),(24,qd p.nets.length),(25,qd j)] [(7,.box 98 p.cells),(100,.row 103 4 (tOf (zaH ps i++zbA p j)).list.length (nds (tOf (zaH ps i++zbA p j)).list))]) p.nets.length ?_ ?_
  ·exact jde
  rintro m' st ⟨j,hj,rfl⟩;refine G [5] ?_;refine cX ?_ ?_<;>intro h
  ·have hlj:j<p.nets.length:=qw;clear h;obtain⟨q,hq⟩:=qo hlj;have hch2:=zav (f:=ntC) (k:=2) (fun _=>rfl) hq;have hle2:=zaw (f:=ntC) (k:=2) (fun _=>rfl) hlj;have hqm:=qbo hq;have hq0:=hnok q hqm;have hqf:=hnet q hqm;have hTM:=hin j qp;have hML:(zaH ps i++zbA p j).length≤1000:=by rw[qbm,zgK p (by omega)];omega
   have hTok:=hTM.ok hML;obtain⟨hE,hTo⟩:=zgz hTok hTM.v hTM.s;have hTl:=hTM.l;have hPut:=Put_s (tOf (zaH ps i++zbA p j)).list hTok qp ⟨q.1,q.2,p.key,1⟩ ⟨hq0.1,hq0.2,by have:=zgL hq0.1 hq0.2 hqf;show(-9223372036854775808:Int)≤q.2;omega,by have:=zgL hq0.1 hq0.2 hqf;show q.2≤(9223372036854775807:Int);omega,by show(-9223372036854775808:Int)≤1;omega,by show(1:Int)≤9223372036854775807;omega,zjP hkey⟩
   have hPE:putE (tOf (zaH ps i++zbA p j)).list ⟨q.1,q.2,p.key,1⟩=0:=by
    unfold putE;rw[if_neg (by rw[hE];simp),if_neg (by show¬zaD q.1 q.2≠0;rw[hqf];simp),if_neg (key_own hkey)]
   have hPL:putL (tOf (zaH ps i++zbA p j)).list ⟨q.1,q.2,p.key,1⟩=(tOf (zaH ps i++zbA p (j+1))).list:=by
    rw[zfK hq,←qby,tOf_snoc];unfold putL;rw[hTo];rfl
   rw[hPE,hPL]at hPut;rw[(zh2 []).1,(zh2 (tOf (zaH ps i++zbA p (j+1))).list).2]at hPut;have hv:=zdX (tOf (zaH ps i++zbA p (j+1))).list;clear hPE hPL hTo hE hTl hTok hTM hML;obtain⟨a,b⟩:=q;dsimp only at hPut;change Fn prog _ [ql (tOf (zaH ps i++zbA p j)).list.length 4 (nds (tOf (zaH ps i++zbA p j)).list),.agg [qe a,qd b],qc p.key] _ _ at hPut;generalize hN1:nds (tOf (zaH ps i++zbA p (j+1))).list=N1 at*
   generalize hn1:(tOf (zaH ps i++zbA p (j+1))).list.length=n1 at*;generalize nds (tOf (zaH ps i++zbA p j)).list=N0 at*;generalize (tOf (zaH ps i++zbA p j)).list.length=n0 at*;generalize hNL:p.nets.flatMap ntC=NL at*;refine G [8] ?_;refine jf0 (zaf (Y:=.agg [qe a,qd b]) zbw rfl rfl (qbn rfl)) ?_;refine G [6] ?_;refine zaU (fun n=>34+1000*n) (hPut) rfl rfl func98 rfl rfl qaj qaj rfl rfl rfl qr rfl rfl rfl ?_
   refine G [9,9,0] ?_;refine⟨m'-1,qp,_,zai (fun o=>bif Nat.beq o 100 then 34 else o) _ _ ?_ ?_ rfl,j+1,qp,rfl⟩
   ·exact jap
   ·exact⟨⟨rfl,rfl⟩,⟨by rw[hn1,hN1];rfl,rfl⟩,trivial⟩
  have hge:j=p.nets.length:=qw;clear h;subst hge;rw[←hnx];refine jdC ?_;refine⟨m-1,qp,_,zai id _ _ ?_ ?_ rfl,i+1,qp,rfl⟩
  ·exact jap
  ·exact jbn
 have hge:i=ps.length:=qw;clear h;subst hge;refine jdV ?_;exact jbu
theorem ones_push(M:List (Key×Own))(a b:Int)(o:Own)(h:one (nkey (a,b),o)=⟨a,b,o,1⟩):nds (M.map one)++[qi a,qh b,qg o,qh 1]=nds ((M++[(nkey (a,b),o)]).map one):=by
 rw[qbY,zgN,qbu,h];rfl
theorem rtree_s(c:CF)(ok:c.OK)(h0:cfE c=0):Fn prog 69 [.agg c.cells] (.tup [.row 0,qd 0]) [(0,.row 103 4 (tOf (zaH c.ps c.ps.length)).list.length (nds (tOf (zaH c.ps c.ps.length)).list))]:=by
 have hC:=zhW c ok;rw[h0]at hC;have hg:=zgY h0;obtain⟨key,port,ps⟩:=c;have hok:=ok.ps;dsimp only at hg hok;change Fn prog _ [.agg [qc key,qd port,ql ps.length 5 (ps.flatMap PE.pv)]] _ _ at hC;refine jeD ?_;have hok1:∀p∈ps,p.OK:=fun p hp=>(hok p hp).1
 have hall:=zgC hg hok1;have h6:=hg.n6;clear ok h0;refine fnI fun w0 A=>?_
 refine G [10] ?_;refine cK hC ?_;refine G [5,1,1,9,0] ?_;refine cX ?_ ?_<;>intro h
 ·cases h
 refine jdC ?_;refine za3 (zca 5 100 103 4 rfl rfl) ?_;refine G [9] ?_;refine zag (fun m st=>∃i:Nat,m+i=ps.length∧st=St.of [(5,.row 100),(16,ql ps.length 5 (ps.flatMap PE.pv)),(17,qd ps.length),(18,qd i)] [(100,.row 103 4 (zaH ps i).length (nds ((zaH ps i).map one)))]) ps.length ?_ ?_
 ·refine jdL ?_ ?_
  ·exact jap
  ·rw[zfL];exact jbn
 rintro m st ⟨i,hi,rfl⟩;refine G [5] ?_;refine cX ?_ ?_<;>intro h
 ·have hlt:i<ps.length:=qw;clear h;obtain⟨p,hp⟩:=qo hlt;have hch:=zav (f:=PE.pv) (k:=5) (fun _=>rfl) hp;have hle:=zaw (f:=PE.pv) (k:=5) (fun _=>rfl) hlt;have hmem:=qbo hp;have hpn:=(hok p hmem).2;have hnx:=zfM hp;have h8:=(zdK (hg.pe p hmem)).1;have hBl:=zeS hg (Nat.le_of_lt hlt);have hnet:=hg.net hmem;have hnok:=(hok1 p hmem).nets;generalize ps.flatMap PE.pv=L at*;refine G [8] ?_;refine jd9 ?_;refine G [9] ?_
  refine zag (fun m' st=>∃j:Nat,m'+j=p.nets.length∧st=St.of [(5,.row 100),(7,.ref 7 0),(16,ql ps.length 5 L),(17,qd ps.length),(18,qd i),(23,ql p.nets.length 2 (p.nets.flatMap ntC)),(24,qd p.nets.length),(25,qd j)] [(7,.box 98 p.cells),(100,.row 103 4 ((zaH ps i).length+j) (nds ((zaH ps i++zbA p j).map one)))]) p.nets.length ?_ ?_
  ·exact jde
  rintro m' st ⟨j,hj,rfl⟩;refine G [5] ?_;refine cX ?_ ?_<;>intro h
  ·have hlj:j<p.nets.length:=qw;clear h;obtain⟨q,hq⟩:=qo hlj;have hch2:=zav (f:=ntC) (k:=2) (fun _=>rfl) hq;have hle2:=zaw (f:=ntC) (k:=2) (fun _=>rfl) hlj;have hqm:=qbo hq;have hq0:=hnok q hqm;have hqf:=hnet q hqm;have hpx:=zfK hq;have hcl:(nds ((zaH ps i++zbA p j).map one)).length=((zaH ps i).length+j)*4:=by rw[zc8,List.length_map,qbm,zgK p (by omega)]
   obtain⟨a,b⟩:=q
   have hone:one (nkey (a,b),p.key)=⟨a,b,p.key,1⟩:=by
    obtain⟨_,k1,k2⟩:=zgL hq0.1 hq0.2 hqf;dsimp only at k1 k2;unfold one;dsimp only;rw[←k1,←k2]
   have hpush:=ones_push (zaH ps i++zbA p j) a b p.key hone;rw[qby (zaH ps i),←hpx]at hpush;generalize nds ((zaH ps i++zbA p j).map one)=N0 at*;generalize hNL:p.nets.flatMap ntC=NL at*;refine G [8] ?_;refine jf0 (zaf (Y:=.agg [qe a,qd b]) zbw rfl rfl (qbn rfl)) ?_;refine G [7] ?_;refine zab (xs:=[.agg [qe a,qd b,qc p.key,qd 1]]) (zae (es:=[qe a,qd b,qc p.key,qd 1]) (cs:=[qi a,qh b,qg p.key,qh 1]) 34 U25 zcZ zc103 (qbk rfl) (qbk rfl) rfl qq qq qq (qbk rfl)) qF rfl ⟨rfl,trivial⟩ ?_
   refine zab (zam 35 U25 zhj (zas) qy qp rfl rfl) rfl rfl ⟨rfl,rfl,rfl,trivial⟩ ?_;refine jdw ?_;refine⟨m'-1,qp,_,zai (fun o=>bif Nat.beq o 100 then 35 else o) _ _ ?_ ?_ rfl,j+1,qp,rfl⟩
   ·exact jap
   ·exact⟨⟨rfl,rfl⟩,⟨by rw[←hpush];rfl,rfl⟩,trivial⟩
  have hge:j=p.nets.length:=qw;clear h;subst hge;rw[←hnx];refine jdC ?_;refine⟨m-1,qp,_,zai id _ _ ?_ ?_ rfl,i+1,qp,rfl⟩
  ·exact jap
  ·refine⟨⟨?_,rfl⟩,trivial⟩;rw[show(zaH ps (i+1)).length=(zaH ps i).length+p.nets.length by rw[hnx,qbm,zgK p (Nat.le_refl _)]];rfl
 have hge:i=ps.length:=qw;clear h;subst hge;have hT:=hall ps.length (Nat.le_refl _);have hfew:=zeS hg (Nat.le_refl ps.length);have hG:=grown_s (zaH ps ps.length).length (zaH ps ps.length) (Nat.le_refl _) hT.k qp;rw[show(zbF (zaH ps ps.length).length (zaH ps ps.length)).map toND=(tOf (zaH ps ps.length)).list from hT.grown]at hG;have hcl:(nds ((zaH ps ps.length).map one)).length=(zaH ps ps.length).length*4:=by rw[zc8,List.length_map]
 have hv:=zdX (tOf (zaH ps ps.length)).list;generalize nds (tOf (zaH ps ps.length)).list=N1 at*;generalize (tOf (zaH ps ps.length)).list.length=n1 at*;generalize nds ((zaH ps ps.length).map one)=N0 at*;generalize (zaH ps ps.length).length=n0 at*;refine G [4] ?_;refine zaU (fun n=>39+1000*n) (hG) rfl rfl func115 rfl rfl qaj qaj rfl rfl rfl qr rfl rfl rfl ?_;refine jdY ?_;refine yT (fun _=>39) ?_ ?_
 ·exact rfl
 ·exact jbn
theorem app_empty(a b:ByteArray):(a++b=⟨#[]⟩)↔(a=⟨#[]⟩∧b=⟨#[]⟩):=by
 constructor
 ·intro h;have hs:=congrArg ByteArray.size h;rw[ByteArray.size_append]at hs;have h0:(ByteArray.mk #[]).size=0:=rfl;rw[h0]at hs
  have f:∀x:ByteArray,x.size=0→x=⟨#[]⟩:=fun x hx=>by
   obtain⟨d⟩:=x;have:d= #[]:=Array.eq_empty_of_size_eq_zero hx;rw[this]
  exact⟨f a qp,f b qp⟩
 ·rintro⟨rfl,rfl⟩;rfl
theorem refStage_s(s:SG)(ok:s.OK):Fn prog 67 [.agg s.cells] (qd (sgE s)) []:=by
 obtain⟨lv,rest,c,at_,err⟩:=s;obtain⟨okr,hl,okc,haz,hkz⟩:=ok;dsimp only at okr hl okc haz hkz;obtain⟨E,hE⟩:∃E,sgE ⟨lv,rest,c,at_,err⟩=E:=⟨_,rfl⟩;rw[hE];unfold sgE at hE;dsimp only at hE;have hCf:=zhW c okc;have hK:=zbh at_;have hrE:restE rest=fnz (fun i=>seE (seG rest i)) rest.length:=rfl;have hpl:=okc.len;generalize cfE c=ce at*;generalize keyE at_=k1 at*;obtain⟨key,port,ps⟩:=c;dsimp only at hE hpl hkz
 change Fn prog _ [.agg [qc key,qd port,ql ps.length 5 (ps.flatMap PE.pv)]] _ _ at hCf;show Fn prog _ [.agg (sgC lv rest.length (rest.flatMap SE.pv) key port ps.length (ps.flatMap PE.pv) at_ err)] _ _;clear okc;generalize ps.flatMap PE.pv=L at*;generalize ps.length=M at*;refine fnI fun w0 A=>?_
 refine jd2 ?_;refine cX ?_ ?_<;>intro h
 ·have h0:lv=false:=qB;clear h;rw[if_pos h0]at hE;refine G [17,2,6] ?_;refine mb2 _ rfl rfl (fun hb=>(zb8 (s:=at_) (t:=key) qp rfl)) (fun _=>trivial) ?_;refine G [1,2,4,2,1,9,0] ?_;refine cX ?_ ?_<;>intro h
  ·have h1:0<rest.length∨at_≠⟨#[]⟩∨err≠0∨key≠⟨#[]⟩∨port≠0∨0<M:=by
    simp at h;rcases h with((q|q)|q)|q
    ·by_cases h2:0<rest.length
     ·exact .inl h2
     ·exact .inr (.inr (.inr (.inr (.inr qp))))
    ·exact .inr (.inr (.inr (.inr (.inl q))))
    ·by_cases h2:at_=⟨#[]⟩
     ·exact .inr (.inr (.inr (.inl fun h3=>q ((app_empty at_ key).2 ⟨h2,h3⟩))))
     ·exact .inr (.inl h2)
    ·exact .inr (.inr (.inl q))
   exact jc0
  ·have h1:¬(0<rest.length∨at_≠⟨#[]⟩∨err≠0∨key≠⟨#[]⟩∨port≠0∨0<M):=by
    simp at h;obtain⟨⟨⟨q1,q2⟩,q3⟩,q4⟩:=h;obtain⟨q5,q6⟩:=(app_empty at_ key).1 q3;rintro(p|p|p|p|p|p)
    ·omega
    ·exact p q5
    ·exact p q4
    ·exact p q6
    ·exact p q2
    ·omega
   rw[if_neg h1]at hE;subst hE;exact jaB
 have h0:¬lv=false:=qB;clear h;rw[if_neg h0]at hE;refine G [6] ?_;refine cK hCf ?_;refine jds ?_;refine cX ?_ ?_<;>intro h
 ·have h1:ce≠0:=qB;exact jbR
 have h1:ce=0:=qB;clear h;rw[if_neg (by simp[h1])]at hE;refine G [9,9,0] ?_;refine cX ?_ ?_<;>intro h
 ·have h2:60<rest.length:=qw;rw[if_pos h2]at hE;subst hE;exact jbo
 have h2:¬60<rest.length:=qw;clear h;rw[if_neg h2]at hE;refine G [10] ?_;refine zag (fun m st=>∃i:Nat,m+i=rest.length∧(∀j,j<i→seE (seG rest j)=0)∧st=St.of [(1,.ref 1 0),(50,ql rest.length 5 (rest.flatMap SE.pv)),(51,qd rest.length),(52,qd i)] [(1,.box 30 (sgC lv rest.length (rest.flatMap SE.pv) key port M L at_ err))]) rest.length ?_ ?_
 ·exact jaA
 rintro m st ⟨i,hi,hf,rfl⟩;refine G [5] ?_;refine cX ?_ ?_<;>intro h
 ·have hlt:i<rest.length:=qw;clear h;obtain⟨x,hx⟩:=qo hlt;have hch:=zav (f:=SE.pv) (k:=5) (fun _=>rfl) hx;have hle:=zaw (f:=SE.pv) (k:=5) (fun _=>rfl) hlt;have hC:=refCheck_s x (okr x (qbo hx));exact jaG
 have hge:i=rest.length:=qw;clear h;subst hge;rw[hrE,zdc hf,if_neg (by simp)]at hE;clear hf hrE;refine G [10] ?_;refine mb2 _ rfl rfl (fun _=>zbl F110 rfl rfl (hK) qD rfl) (fun _=>trivial) ?_;exact jaU
def four(s:ST):Four:=(s.a.mine,s.b.mine,s.c.mine,s.h.mine)
def mostD(l:List ST):Int:=most (l.map four)
theorem four_ok(l:List ST):∀(k:Nat) e q,(l.map ST.pv)[k]?=some e→(l.map four)[k]?=some q→StP e q:=by
 intro k e q he hq;rw[qbM]at he hq;cases hs:l[k]? with
 |none=>rw[hs]at he;cases he
 |some s=>
  rw[hs]at he hq;simp only[qcx,Option.some.injEq]at he hq;subst he hq;exact⟨rfl,rfl,rfl,rfl,rfl⟩
theorem tmost_s(l:List ST)(hn:l.length≤1048576):Fn prog 41 [ql l.length 41 (l.flatMap ST.pv)] (qd (mostD l)) []:=by
 have h:=most_s (l.map ST.pv) (l.map four) l.length qG qG qp (four_ok l)
 rwa [←List.flatMap_def]at h
theorem rmost_s(l:List ST)(hn:l.length≤1048576):Fn prog 68 [ql l.length 41 (l.flatMap ST.pv)] (qd (mostD l)) []:=by
 have h:=statesMost_s (l.map ST.pv) (l.map four) l.length qG qG qp (four_ok l)
 rwa [←List.flatMap_def]at h
def zhi(l:List ST)(m:List PE):Bool:=decide (l.map ST.key=m.map PE.key)
theorem zh5{l:List ST}{m:List PE}(h:l.length≠m.length):zhi l m=false:=by
 refine decide_eq_false fun e=>h ?_
 have:=congrArg List.length e;simpa using this
theorem keysB_ne{l:List ST}{m:List PE}{i:Nat}{x:ST}{y:PE}(h1:l[i]?=some x)(h2:m[i]?=some y)(h:x.key≠y.key):zhi l m=false:=by
 refine decide_eq_false fun e=>h ?_
 have:=congrArg (fun z:List ByteArray=>z[i]?) e;simpa[h1,h2]using this
theorem keysB_all{l:List ST}{m:List PE}(h:l.length=m.length)(k:∀j,j<l.length→(l[j]?).map ST.key=(m[j]?).map PE.key):zhi l m=true:=by
 refine decide_eq_true ?_;apply qcG;intro j;rw[qbM,qbM];rcases qc2 j l.length with hj|hj
 ·exact k j hj
 ·rw[qcj hj,qcj (by omega)];rfl
theorem chk1_s(s:ST)(p:PE):Fn prog 44 [.agg s.cells,.agg p.cells] (qf (decide (s.key=p.key))) []:=by
 obtain⟨k1,e1,a1,b1,c1,h1,q1⟩:=s;obtain⟨k2,s2,e2,a2,n2⟩:=p;show Fn prog _ [.agg (stC k1 e1 a1 b1 c1 h1 q1.length (q1.flatMap PQ.pv)),.agg [qc k2,qc s2,qc e2,qd a2,ql n2.length 2 (n2.flatMap ntC)]] (qf (decide (k1=k2))) _;generalize q1.flatMap PQ.pv=L1 at*;generalize q1.length=c at*;generalize n2.flatMap ntC=L2 at*;generalize n2.length=d at*;refine fnI fun w0 A=>?_
 refine G [16,9,0] ?_;exact yE
theorem keys_d(l:List ST)(m:List PE)(hl:l.length≤1048576)(hm:m.length≤1048576):Fn prog 43 [ql l.length 41 (l.flatMap ST.pv),ql m.length 5 (m.flatMap PE.pv),.fn 44 []] (qf (zhi l m)) []:=by
 by_cases hlen:l.length=m.length
 rotate_left
 ·rw[zh5 hlen];generalize l.flatMap ST.pv=L;generalize m.flatMap PE.pv=M;exact jaM
 obtain⟨E,hE⟩:∃E,zhi l m=E:=⟨_,rfl⟩;rw[hE];refine fnI fun w0 A=>?_
 refine G [11,3,11] ?_;refine zag (fun u st=>∃i:Nat,u+i=l.length∧(∀j,j<i→(l[j]?).map ST.key=(m[j]?).map PE.key)∧st=St.of [(1,ql m.length 5 (m.flatMap PE.pv)),(2,.fn 44 []),(15,ql l.length 41 (l.flatMap ST.pv)),(16,qd l.length),(17,qd i)] []) l.length ?_ ?_
 ·exact jaC
 rintro u st ⟨i,hi,hf,rfl⟩;refine G [5] ?_;refine cX ?_ ?_<;>intro h
 ·have hlt:i<l.length:=qw;clear h;obtain⟨x,hx⟩:=qo hlt;obtain⟨y,hy⟩:∃y,m[i]?=some y:=⟨m[i]'qp,List.getElem?_eq_getElem qp⟩;have hch:=zav (f:=ST.pv) (k:=41) (fun _=>rfl) hx;have hle:=zaw (f:=ST.pv) (k:=41) (fun _=>rfl) hlt;have hch2:=zav (f:=PE.pv) (k:=5) (fun _=>rfl) hy;have hle2:=zaw (f:=PE.pv) (k:=5) (fun _=>rfl) (show i<m.length by omega);have hbad:=@keysB_ne l m i x y hx hy;have hxy:x.key=y.key→(l[i]?).map ST.key=(m[i]?).map PE.key:=fun e=>by rw[hx,hy];simp[e]
  have hC:=chk1_s x y;generalize l.flatMap ST.pv=L at*;generalize m.flatMap PE.pv=M at*;refine G [10] ?_;refine jf0 (zaf (Y:=.agg x.cells) sz66 rfl rfl (qbn rfl)) ?_;refine G [8] ?_;refine jf0 (zaf (Y:=.agg y.cells) sz98 rfl rfl (qbn rfl)) ?_;refine zac ?_
  by_cases he:x.key=y.key
  ·rw[decide_eq_true he]at hC;refine G [3] ?_;refine jdU ?_;exact jcm
  ·rw[hbad he]at hE;subst hE;rw[decide_eq_false he]at hC;refine G [3] ?_;refine jdU ?_;exact jb2
 have hge:i=l.length:=qw;clear h;subst hge;rw[keysB_all hlen hf]at hE;subst hE;refine jdw ?_;exact yE
def okSt(ck:ByteArray)(now:Int)(s:ST):Prop:=¬((ck=⟨#[]⟩∧(¬(s.a=KY0∧s.b=KY0∧s.c=KY0)∨s.h.lv=true))∨now<s.h.s)
def zfv(d:DM):Prop:=d.gen<0∨1099511627776<d.gen∨d.now<0∨1099511627776<d.now∨d.last<mostD d.ps∨4294967235<d.last
def goodD(d:DM):Prop:=((tOf (zaH d.c.ps d.c.ps.length)).list=d.tree∧zhi d.ps d.c.ps=true)∧∀s∈d.ps,okSt d.c.key d.now s
open Classical in
noncomputable def dmE(d:DM):Int:=
 if cfE d.c≠0 then cfE d.c else if stsE d.ps≠0 then stsE d.ps else if sgE d.sg≠0 then sgE d.sg else if zfv d then 4 else if goodD d then 0 else 14
end Go.Proofs.YtdiljgkijgiboaaGreatDoor
namespace Go.Proofs.YtdiljgkijgiboaaGreatDoor
open Go.RowKit Go.Sort
theorem zeX{α β:Type}{f:α→List β}{k:Nat}(hf:∀x,(f x).length=k){l:List α}{i:Nat}{x:α}(hx:l[i]?=some x){q:Nat}(hq:q<k):(l.flatMap f)[i*k+q]?=(f x)[q]?:=by
 have h:=zav (f:=f) (k:=k) hf hx;rw[←h,qbR,if_pos hq,qbF]
theorem zfR{α β:Type}{f:α→List β}{k:Nat}(hf:∀x,(f x).length=k){l:List α}{i:Nat}{x:α}(hx:l[i]?=some x){q n:Nat}(hq:q+n≤k):((l.flatMap f).drop (i*k+q)).take n=((f x).drop q).take n:=by
 have h:=zav (f:=f) (k:=k) hf hx;rw[←h,List.drop_take,qcP,qcE,Nat.min_eq_left (by omega)]
theorem zgT{α β:Type}{f:α→List β}{k:Nat}(hf:∀x,(f x).length=k){l:List α}{i:Nat}{x:α}(hx:l[i]?=some x){q:Nat}{ys:List β}{x':α}(hq:q+ys.length≤k)(h:setR (f x) q ys=f x'):setR (l.flatMap f) (i*k+q) ys=(l.set i x').flatMap f:=by
 obtain⟨hi,rfl⟩:=qbl.1 hx;have e:l=l.take i++l[i]::l.drop (i+1):=by rw[List.getElem_cons_drop,qb9]
 have hl:((l.take i).flatMap f).length=i*k:=by rw[zaO hf,List.length_take,Nat.min_eq_left (by omega)]
 rw[List.set_eq_take_append_cons_drop,if_pos hi,qbV,qb7,←h]
 conv=>lhs;rw[e,qbV,qb7]
 generalize (l.take i).flatMap f=T at*;generalize (l.drop (i+1)).flatMap f=D at*;have hk:=hf l[i];generalize f l[i]=M at*;unfold setR;rw[List.take_append,List.drop_append,List.take_append,List.drop_append,hl];rw[qbC (by omega),List.drop_eq_nil_of_le (by omega)];rw[show i*k+q-i*k=q by omega,show i*k+q+ys.length-i*k=q+ys.length by omega];rw[show q-M.length=0 by omega,show q+ys.length-M.length=0 by omega]
 simp
def moV(d:DM)(S L:AV):List AV:=[qc d.c.key,qd d.c.port,ql d.c.ps.length 5 (d.c.ps.flatMap PE.pv),.p (ndsV d.tree),S,qf d.sg.lv,.p (sesV d.sg.rest),qc d.sg.c.key,qd d.sg.c.port,.p d.sg.c.row,qc d.sg.at_,qd d.sg.err,qd d.gen,qd d.now,qd d.last,L]
def moD(d:DM)(S:AV):List AV:=(moV d S .any).take 15
def zdmC:List AV:=dmC ⟨#[]⟩ 0 (.v (.slice none 0 0)) (.v (.slice none 0 0)) (.v (.slice none 0 0)) false (.v (.slice none 0 0)) ⟨#[]⟩ 0 (.v (.slice none 0 0)) ⟨#[]⟩ 0 0 0 0
def dm0:DM:=⟨⟨⟨#[]⟩,0,[]⟩,[],[],⟨false,[],⟨⟨#[]⟩,0,[]⟩,⟨#[]⟩,0⟩,0,0,0⟩
theorem zdm_nz:nzL zdmC dm0.cells:=
 ⟨.inl rfl,.inl rfl,.inr ⟨5,rfl,rfl⟩,.inr ⟨4,rfl,rfl⟩,.inr ⟨41,rfl,rfl⟩,.inl rfl,.inr ⟨5,rfl,rfl⟩,.inl rfl,.inl rfl,.inr ⟨5,rfl,rfl⟩,.inl rfl,.inl rfl,.inl rfl,.inl rfl,.inl rfl,trivial⟩
theorem cf0_ok:CF.OK ⟨⟨#[]⟩,0,[]⟩:=⟨qG,fun p h=>by cases h⟩
theorem dm0_ok:dm0.OK:=⟨cf0_ok,(fun x h=>by cases h),by simp[dm0],(fun x h=>by cases h),by simp[dm0],⟨(fun x h=>by cases h),by simp[dm0],cf0_ok,qS,qS⟩⟩
theorem zgX{d:DM}(h:dmE d=0):cfE d.c=0∧stsE d.ps=0∧sgE d.sg=0∧¬zfv d∧goodD d:=by
 unfold dmE at h
 by_cases h1:cfE d.c=0
 ·rw[if_neg (by simp[h1])]at h
  by_cases h2:stsE d.ps=0
  ·rw[if_neg (by simp[h2])]at h
   by_cases h3:sgE d.sg=0
   ·rw[if_neg (by simp[h3])]at h
    by_cases h4:zfv d
    ·rw[if_pos h4]at h;omega
    ·rw[if_neg h4]at h
     by_cases h5:goodD d
     ·exact⟨h1,h2,h3,h4,h5⟩
     ·rw[if_neg h5]at h;omega
   ·rw[if_pos h3]at h;exact absurd h h3
  ·rw[if_pos h2]at h;exact absurd h h2
 ·exact jc5
end Go.Proofs.YtdiljgkijgiboaaGreatDoor
namespace Go.Proofs.YtdiljgkijgiboaaGreatDoor
open Tryz
open Go.RowKit Go.Sort
theorem ziP(s:SG)(ok:s.OK):Fn prog 76 [.agg s.cells] (.agg s.cells) []:=by
 have hC:Fn prog 74 [.agg s.c.cells] (.agg s.c.cells) []:=zfq (zgH s.c ok.c) rfl rfl;have hl:=ok.len;refine fnI fun w0 A=>?_
 refine G [11] ?_;refine zab (zdS (zaP 7 U27 eo153 (zbc) qy qp)) rfl rfl ⟨rfl,trivial⟩ ?_;refine fA fi30_2 rfl rfl ?_;refine zab (zak U24 rfl sz24 qu (show _=s.c.cells from rfl)) rfl rfl ⟨rfl,trivial⟩ ?_;refine cK hC ?_;refine G [5] ?_;refine jf0 (zaf (Y:=.agg s.cells) sz30 rfl rfl (qbn rfl)) ?_;refine jdR ?_;exact yE
theorem rdmCopy_s(d:DM)(ok:d.OK):Fn prog 24 [.agg d.cells] (.agg (moD d (.row 0))) [(0,.row 66 41 d.ps.length (d.ps.flatMap ST.pv))]:=by
 have hC:Fn prog 74 [.agg d.c.cells] (.agg d.c.cells) []:=zfq (zgH d.c ok.c) rfl rfl;have hS:=rcopy_s d.ps (fun s hs=>(ok.ps s hs).1) ok.psN;have hG:=ziP d.sg ok.sg;have ht:=ok.treeN;refine fnI fun w0 A=>?_
 refine jfu ?_;exact jbV
theorem dmCopyP_s(d:DM)(okc:d.c.OK)(okt:d.tree.length*40≤140737488351232)(okp:∀s∈d.ps,s.OK)(okn:d.ps.length≤1048576)(okg:d.sg.OK):Fn prog 12 [.agg d.cells] (.agg (moD d (.row 0))) [(0,.row 66 41 d.ps.length (d.ps.flatMap ST.pv))]:=by
 have hC:Fn prog 56 [.agg d.c.cells] (.agg d.c.cells) []:=zfq (zj6 d.c okc) rfl rfl;have hT:Fn prog 57 [ql d.tree.length 4 (nds d.tree)] (ql d.tree.length 4 (nds d.tree)) []:=zfq (zj5 d.tree.length (nds d.tree) (zc8 _) (by have:=okt;omega)) rfl rfl;have hS:=tcopy_s d.ps okp okn;have hG:Fn prog 59 [.agg d.sg.cells] (.agg d.sg.cells) []:=zfq (sgCopy_s d.sg okg) rfl rfl;refine fnI fun w0 A=>?_
 refine G [8] ?_;refine jdq ?_;refine cK hC ?_;refine G [2] ?_;refine cK hT ?_;refine G [2] ?_;refine jff ?_;refine G [3] ?_;refine jeF ?_;exact jbV
theorem zik(d:DM)(ok:d.OK):Fn prog 12 [.agg d.cells] (.agg (moD d (.row 0))) [(0,.row 66 41 d.ps.length (d.ps.flatMap ST.pv))]:=dmCopyP_s d ok.c ok.treeN (fun s hs=>(ok.ps s hs).1) ok.psN ok.sg
structure LR where
 f:ByteArray
 t:ByteArray
 xs:List Int
def LR.cells(l:LR):List AV:=[qc l.f,qc l.t,ql l.xs.length 1 (bs l.xs)]
def LR.pv(l:LR):List PV:=[qg l.f,qg l.t,.sl l.xs.length 1 (bs l.xs)]
noncomputable def lrB(x y:LR):Bool:=(decide (x.f=y.f)&&decide (x.t=y.t))&&decide (strOfNums x.xs=strOfNums y.xs)
theorem lrB_T{x y:LR}(h:x=y):lrB x y=true:=by
 subst h;unfold lrB;simp
theorem lrB_F{x y:LR}(hx:isB x.xs)(hy:isB y.xs)(h:x≠y):lrB x y=false:=by
 cases hq:lrB x y with
 |false=>rfl
 |true=>
  exfalso
  obtain⟨a,b,xs⟩:=x;obtain⟨c,d,ys⟩:=y;unfold lrB at hq;exact jc8
theorem lr_d(x y:LR):Fn prog 36 [.agg x.cells,.agg y.cells] (qf (lrB x y)) []:=by
 obtain⟨a1,b1,x1⟩:=x;obtain⟨a2,b2,x2⟩:=y;have hS:=same_s x1.length x2.length x1 x2;show Fn prog _ [.agg [qc a1,qc b1,ql x1.length 1 (bs x1)],.agg [qc a2,qc b2,ql x2.length 1 (bs x2)]] (qf ((decide (a1=a2)&&decide (b1=b2))&&decide (strOfNums x1=strOfNums x2))) _;exact jbH
theorem lrs_d(l m:List LR)(hl:l.length≤4611686018427387904)(hm:m.length≤4611686018427387904)(okl:∀p∈l,isB p.xs)(okm:∀p∈m,isB p.xs):Fn prog 35 [ql l.length 3 (l.flatMap LR.pv),ql m.length 3 (m.flatMap LR.pv),.fn 36 []] (qf (eqB l m)) []:=by
 by_cases hlen:l.length=m.length
 rotate_left
 ·rw[zfU (fun e=>hlen (by rw[e]))];generalize l.flatMap LR.pv=L;generalize m.flatMap LR.pv=M;exact jaM
 obtain⟨E,hE⟩:∃E,eqB l m=E:=⟨_,rfl⟩;rw[hE];refine fnI fun w0 A=>?_
 refine G [11,3,11] ?_;refine zag (fun u st=>∃i:Nat,u+i=l.length∧(∀j,j<i→l[j]?=m[j]?)∧st=St.of [(1,ql m.length 3 (m.flatMap LR.pv)),(2,.fn 36 []),(15,ql l.length 3 (l.flatMap LR.pv)),(16,qd l.length),(17,qd i)] []) l.length ?_ ?_
 ·exact jaC
 rintro u st ⟨i,hi,hf,rfl⟩;refine G [5] ?_;refine cX ?_ ?_<;>intro h
 ·have hlt:i<l.length:=qw;clear h;obtain⟨x,hx⟩:=qo hlt;obtain⟨y,hy⟩:∃y,m[i]?=some y:=⟨m[i]'qp,List.getElem?_eq_getElem qp⟩;have hch:=zav (f:=LR.pv) (k:=3) (fun _=>rfl) hx;have hle:=zaw (f:=LR.pv) (k:=3) (fun _=>rfl) hlt;have hch2:=zav (f:=LR.pv) (k:=3) (fun _=>rfl) hy;have hle2:=zaw (f:=LR.pv) (k:=3) (fun _=>rfl) (show i<m.length by omega);have hbad:=zg5 hx hy;have hxy:x=y→l[i]?=m[i]?:=fun e=>by rw[hx,hy,e]
  have hxm:=qbo hx;have hym:=qbo hy;have hC:=lr_d x y;generalize l.flatMap LR.pv=L at*;generalize m.flatMap LR.pv=M at*;refine G [10] ?_;refine jf0 (zaf (Y:=.agg x.cells) sz75 rfl rfl (qbn rfl)) ?_;refine G [8] ?_;refine jf0 (zaf (Y:=.agg y.cells) sz75 rfl rfl (qbn rfl)) ?_;refine zac ?_
  by_cases he:x=y
  ·rw[lrB_T he]at hC;refine G [3] ?_;refine jeS ?_;refine jeT ?_;exact jbt
  ·rw[zfU (hbad he)]at hE;subst hE;rw[lrB_F (okl x hxm) (okm y hym) he]at hC;refine G [3] ?_;refine jeS ?_;refine jeT ?_;exact ja5
 have hge:i=l.length:=qw;clear h;subst hge;rw[ziD (zg6 hlen hf)]at hE;subst hE;refine jdw ?_;exact yE
theorem sameLetters_d(l m:List LR)(hl:l.length≤4611686018427387904)(hm:m.length≤4611686018427387904)(okl:∀p∈l,isB p.xs)(okm:∀p∈m,isB p.xs):Fn prog 7 [ql l.length 3 (l.flatMap LR.pv),ql m.length 3 (m.flatMap LR.pv)] (qf (eqB l m)) []:=by
 have hC:=lrs_d l m hl hm okl okm;clear hl hm okl okm;generalize eqB l m=bn at*;generalize l.flatMap LR.pv=L at*;generalize l.length=N at*;generalize m.flatMap LR.pv=L' at*;generalize m.length=N' at*;exact jcf
structure SH where
 lo:Int
 hi:Int
 s:Bool
 r:Bool
 c:Bool
 ok:Bool
def ofS(t:Int):SH:=if t=1 then⟨32,32,true,false,false,true⟩else if t=2 then⟨24,24,true,true,false,true⟩else if t=4 then⟨16,236,false,true,true,true⟩else⟨0,0,false,false,false,false⟩
def SH.cells(x:SH):List AV:=[qd x.lo,qd x.hi,qf x.s,qf x.r,qf x.c]
theorem of_s(t:Int):Fn prog 142 [qd t] (.tup [.agg (ofS t).cells,qf (ofS t).ok]) []:=by
 unfold ofS;refine fnI fun w0 A=>?_
 refine G [16,9,0] ?_;refine cX ?_ ?_<;>intro h
 ·have h1:t=1:=qB;rw[if_pos h1];exact jaW
 have h1:¬t=1:=qB;clear h;rw[if_neg h1];refine jdC ?_;refine cX ?_ ?_<;>intro h
 ·have h2:t=2:=qB;rw[if_pos h2];exact jaW
 have h2:¬t=2:=qB;clear h;rw[if_neg h2];refine jdC ?_;refine cX ?_ ?_<;>intro h
 ·have h3:t=4:=qB;rw[if_pos h3];exact jaW
 have h3:¬t=4:=qB;clear h;rw[if_neg h3];exact jbs
structure MS where
 t:Int
 s:Int
 r:Int
 c:Int
 n:Nat
 xs:List Int
def MS.cells(m:MS):List AV:=[qd m.t,qd m.s,qd m.r,qd m.c,ql m.n 1 (bs m.xs)]
def MS.pv(m:MS):List PV:=[qh m.t,qh m.s,qh m.r,qh m.c,.sl m.n 1 (bs m.xs)]
def ziC(x:SH)(m:MS):Bool:=((!x.s&&(m.s != 0))||(!x.r&&(m.r != 0)))||(!x.c&&(m.c != 0))
def rngB(m:MS):Bool:=((((decide (m.s<0)||decide (4294967295<m.s))||decide (m.r<0))||decide (4294967295<m.r))||decide (m.c<0))||decide (1099511627776<m.c)
def sizB(x:SH)(m:MS):Bool:=decide ((m.n:Int)<x.lo)||decide (x.hi<(m.n:Int))
def wE(m:MS):Int:=if(ofS m.t).ok=false then 2 else if ziC (ofS m.t) m=true then 3 else if rngB m=true then 4 else if sizB (ofS m.t) m=true then 1 else 0
theorem zf0(m:MS)(hn:m.n≤140737488355328):Fn prog 141 [.agg m.cells] (qd (wE m)) []:=by
 have hO:=of_s m.t;unfold wE;generalize ofS m.t=x at*;refine fnI fun w0 A=>?_
 refine G [9] ?_;refine cV hO ?_;refine G [13,9,0] ?_;refine cX ?_ ?_<;>intro h
 ·have h1:x.ok=false:=qB;rw[if_pos h1];exact jbo
 have h1:¬x.ok=false:=qB;clear h;rw[if_neg h1];refine G [11,2,8] ?_;refine r_mb3 _ rfl rfl (.mb _ _ _ _ qao (.keep _ _ _ (.keep _ _ _ .nil))) (fun hb=>(zki qaf)) (fun _=>trivial) ?_;refine G [0,2,8] ?_;refine r_mb3 _ rfl rfl (.mb _ _ _ _ qao (.keep _ _ _ (.keep _ _ _ .nil))) (fun hb=>(zki qaf)) (fun _=>trivial) ?_;refine G [0,2,1,9,0] ?_;refine cX ?_ ?_<;>intro h
 ·rw[if_pos (show ziC x m=true from h)];exact jbo
 rw[if_neg (show¬ziC x m=true by have h':ziC x m=false:=h;simp[h'])];clear h;refine G [11,2,4,2,4,2,4,2,4,2,1,9,0] ?_;refine cX ?_ ?_<;>intro h
 ·rw[if_pos (show rngB m=true from h)];exact jbo
 rw[if_neg (show¬rngB m=true by have h':rngB m=false:=h;simp[h'])];clear h;refine G [13] ?_;refine mb2 _ rfl rfl (fun hb=>(zdd U34)) (fun _=>trivial) ?_;refine G [3,2,1,9,0] ?_;refine cX ?_ ?_<;>intro h
 ·rw[if_pos (show sizB x m=true from h)];exact jbo
 rw[if_neg (show¬sizB x m=true by have h':sizB x m=false:=h;simp[h'])];exact jaB
def leN(m n:Nat):List Int:=(List.range m).map fun i=>((n/256^i%256:Nat):Int)
theorem zbZ(m n:Nat):(leN m n).length=m:=by simp[leN]
theorem ziz(m n:Nat):isB (leN m n):=by
 intro x hx;simp only[leN,qbv]at hx;obtain⟨i,_,rfl⟩:=hx;omega
theorem zcl(m n:Nat):leN (m+1) n=leN m n++[((n/256^m%256:Nat):Int)]:=by simp[leN,qcw]
theorem put4_s(a:Nat)(ys:List Int)(n:Nat)(hy:ys.length=a)(ha:a≤1000)(hn:n<9223372036854775808):FnO prog 143 [.row 1,qd n,qd 4] ((1,qk 5 1 a (bs ys))::[(100,.un),(101,.un),(102,.un),(103,.un),(104,.un),(105,.un),(106,.un),(107,.un)]) ((107,qk 5 1 (a+4) (bs (ys++leN 4 n)))::(1,.dead)::[(100,.dead),(101,.dead),(102,.dead),(103,.dead),(104,.dead),(105,.dead),(106,.dead)]) (.row 107):=by
 rw[show qd (n:Int)=qd ((n/256^0:Nat):Int)by simp];rw[show bs ys=bs (ys++leN 0 n)by simp[leN]];refine zif func143 rfl (qbk rfl) fun w0 A heap=>?_
 refine jfv ?_;refine jfx ?_;refine jdn ?_;refine zac (zaj (ze3 5 ?_));refine zhg ?_;refine jfn ?_;refine zaI _ rfl (fun h=>?_) (fun h=>?_)
 rotate_left
 ·cases h
 clear h;have g0:IntKind.u8.wrap ((n/256^0:Nat):Int)=((n/256^0%256:Nat):Int):=qQ
 have f0:((n/256^0:Nat):Int).fdiv (2^min (8:Int).toNat IntKind.i64.bits)=((n/256^1:Nat):Int):=by
  exact jaz
 have L0:leN 1 n=leN 0 n++[((n/256^0%256:Nat):Int)]:=zcl 0 n;refine jfk ?_;refine jfZ (zbn U3 U5 g0) ?_;refine jdN ?_;refine zab (zam 101 U34 eo5 (zas) qy qp (show _=a+1 by omega) (show _=bs (ys++leN 1 n)by rw[za5,L0,←qby])) rfl rfl ⟨rfl,rfl,rfl,trivial⟩ ?_;refine jfA ?_;refine zat (za1 (zb6 100) ?_)
 skip
 refine jfe ?_;refine zaa (zbH qp f0) rfl rfl ?_;refine jfc ?_;refine zaI _ rfl (fun h=>?_) (fun h=>?_)
 rotate_left
 ·cases h
 clear h;have g1:IntKind.u8.wrap ((n/256^1:Nat):Int)=((n/256^1%256:Nat):Int):=qQ
 have f1:((n/256^1:Nat):Int).fdiv (2^min (8:Int).toNat IntKind.i64.bits)=((n/256^2:Nat):Int):=by
  exact jaz
 have L1:leN 2 n=leN 1 n++[((n/256^1%256:Nat):Int)]:=zcl 1 n;refine jfk ?_;refine jfZ (zbn U3 U5 g1) ?_;refine jdO ?_;refine zab (zam 103 U34 eo5 (zas) qy qp (show _=a+2 by omega) (show _=bs (ys++leN 2 n)by rw[za5,L1,←qby])) rfl rfl ⟨rfl,rfl,rfl,trivial⟩ ?_;refine jfA ?_;refine zat (za1 (zb6 102) ?_)
 skip
 refine jfe ?_;refine zaa (zbH qp f1) rfl rfl ?_;refine jfc ?_;refine zaI _ rfl (fun h=>?_) (fun h=>?_)
 rotate_left
 ·cases h
 clear h;have g2:IntKind.u8.wrap ((n/256^2:Nat):Int)=((n/256^2%256:Nat):Int):=qQ
 have f2:((n/256^2:Nat):Int).fdiv (2^min (8:Int).toNat IntKind.i64.bits)=((n/256^3:Nat):Int):=by
  exact jaz
 have L2:leN 3 n=leN 2 n++[((n/256^2%256:Nat):Int)]:=zcl 2 n;refine jfk ?_;refine jfZ (zbn U3 U5 g2) ?_;refine jdP ?_;refine zab (zam 105 U34 eo5 (zas) qy qp (show _=a+3 by omega) (show _=bs (ys++leN 3 n)by rw[za5,L2,←qby])) rfl rfl ⟨rfl,rfl,rfl,trivial⟩ ?_;refine jfA ?_;refine zat (za1 (zb6 104) ?_)
 skip
 refine jfe ?_;refine zaa (zbH qp f2) rfl rfl ?_;refine jfc ?_;refine zaI _ rfl (fun h=>?_) (fun h=>?_)
 rotate_left
 ·cases h
 clear h;have g3:IntKind.u8.wrap ((n/256^3:Nat):Int)=((n/256^3%256:Nat):Int):=qQ
 have f3:((n/256^3:Nat):Int).fdiv (2^min (8:Int).toNat IntKind.i64.bits)=((n/256^4:Nat):Int):=by
  exact jaz
 have L3:leN 4 n=leN 3 n++[((n/256^3%256:Nat):Int)]:=zcl 3 n;refine jfk ?_;refine jfZ (zbn U3 U5 g3) ?_;refine jdQ ?_;refine zab (zam 107 U34 eo5 (zas) qy qp (show _=a+4 by omega) (show _=bs (ys++leN 4 n)by rw[za5,L3,←qby])) rfl rfl ⟨rfl,rfl,rfl,trivial⟩ ?_;refine jfA ?_;refine zat (za1 (zb6 106) ?_)
 skip
 refine jfe ?_;refine zaa (zbH qp f3) rfl rfl ?_;refine jfc ?_;refine zaI _ rfl (fun h=>?_) (fun h=>?_)
 ·cases h
 clear h;refine zar (zad (tx (jdz ?_)));refine jfA ?_;refine zaq (jeI ?_ ?_ ?_)
 ·exact rfl
 ·exact jbA
 ·exact jax
theorem put8_s(a:Nat)(ys:List Int)(n:Nat)(hy:ys.length=a)(ha:a≤1000)(hn:n<9223372036854775808):FnO prog 143 [.row 1,qd n,qd 8] ((1,qk 5 1 a (bs ys))::[(100,.un),(101,.un),(102,.un),(103,.un),(104,.un),(105,.un),(106,.un),(107,.un),(108,.un),(109,.un),(110,.un),(111,.un),(112,.un),(113,.un),(114,.un),(115,.un)]) ((115,qk 5 1 (a+8) (bs (ys++leN 8 n)))::(1,.dead)::[(100,.dead),(101,.dead),(102,.dead),(103,.dead),(104,.dead),(105,.dead),(106,.dead),(107,.dead),(108,.dead),(109,.dead),(110,.dead),(111,.dead),(112,.dead),(113,.dead),(114,.dead)]) (.row 115):=by
 rw[show qd (n:Int)=qd ((n/256^0:Nat):Int)by simp];rw[show bs ys=bs (ys++leN 0 n)by simp[leN]];refine zif func143 rfl (qbk rfl) fun w0 A heap=>?_
 refine jfv ?_;refine jfx ?_;refine jdn ?_;refine zac (zaj (ze3 9 ?_));refine zhg ?_;refine jfn ?_;refine zaI _ rfl (fun h=>?_) (fun h=>?_)
 rotate_left
 ·cases h
 clear h;have g0:IntKind.u8.wrap ((n/256^0:Nat):Int)=((n/256^0%256:Nat):Int):=qQ
 have f0:((n/256^0:Nat):Int).fdiv (2^min (8:Int).toNat IntKind.i64.bits)=((n/256^1:Nat):Int):=by
  exact jaz
 have L0:leN 1 n=leN 0 n++[((n/256^0%256:Nat):Int)]:=zcl 0 n;refine jfk ?_;refine jfZ (zbn U3 U5 g0) ?_;refine jdN ?_;refine zab (zam 101 U34 eo5 (zas) qy qp (show _=a+1 by omega) (show _=bs (ys++leN 1 n)by rw[za5,L0,←qby])) rfl rfl ⟨rfl,rfl,rfl,trivial⟩ ?_;refine jfA ?_;refine zat (za1 (zb6 100) ?_)
 skip
 refine jfe ?_;refine zaa (zbH qp f0) rfl rfl ?_;refine jfc ?_;refine zaI _ rfl (fun h=>?_) (fun h=>?_)
 rotate_left
 ·cases h
 clear h;have g1:IntKind.u8.wrap ((n/256^1:Nat):Int)=((n/256^1%256:Nat):Int):=qQ
 have f1:((n/256^1:Nat):Int).fdiv (2^min (8:Int).toNat IntKind.i64.bits)=((n/256^2:Nat):Int):=by
  exact jaz
 have L1:leN 2 n=leN 1 n++[((n/256^1%256:Nat):Int)]:=zcl 1 n;refine jfk ?_;refine jfZ (zbn U3 U5 g1) ?_;refine jdO ?_;refine zab (zam 103 U34 eo5 (zas) qy qp (show _=a+2 by omega) (show _=bs (ys++leN 2 n)by rw[za5,L1,←qby])) rfl rfl ⟨rfl,rfl,rfl,trivial⟩ ?_;refine jfA ?_;refine zat (za1 (zb6 102) ?_)
 skip
 refine jfe ?_;refine zaa (zbH qp f1) rfl rfl ?_;refine jfc ?_;refine zaI _ rfl (fun h=>?_) (fun h=>?_)
 rotate_left
 ·cases h
 clear h;have g2:IntKind.u8.wrap ((n/256^2:Nat):Int)=((n/256^2%256:Nat):Int):=qQ
 have f2:((n/256^2:Nat):Int).fdiv (2^min (8:Int).toNat IntKind.i64.bits)=((n/256^3:Nat):Int):=by
  exact jaz
 have L2:leN 3 n=leN 2 n++[((n/256^2%256:Nat):Int)]:=zcl 2 n;refine jfk ?_;refine jfZ (zbn U3 U5 g2) ?_;refine jdP ?_;refine zab (zam 105 U34 eo5 (zas) qy qp (show _=a+3 by omega) (show _=bs (ys++leN 3 n)by rw[za5,L2,←qby])) rfl rfl ⟨rfl,rfl,rfl,trivial⟩ ?_;refine jfA ?_;refine zat (za1 (zb6 104) ?_)
 skip
 refine jfe ?_;refine zaa (zbH qp f2) rfl rfl ?_;refine jfc ?_;refine zaI _ rfl (fun h=>?_) (fun h=>?_)
 rotate_left
 ·cases h
 clear h;have g3:IntKind.u8.wrap ((n/256^3:Nat):Int)=((n/256^3%256:Nat):Int):=qQ
 have f3:((n/256^3:Nat):Int).fdiv (2^min (8:Int).toNat IntKind.i64.bits)=((n/256^4:Nat):Int):=by
  exact jaz
 have L3:leN 4 n=leN 3 n++[((n/256^3%256:Nat):Int)]:=zcl 3 n;refine jfk ?_;refine jfZ (zbn U3 U5 g3) ?_;refine jdQ ?_;refine zab (zam 107 U34 eo5 (zas) qy qp (show _=a+4 by omega) (show _=bs (ys++leN 4 n)by rw[za5,L3,←qby])) rfl rfl ⟨rfl,rfl,rfl,trivial⟩ ?_;refine jfA ?_;refine zat (za1 (zb6 106) ?_)
 skip
 refine jfe ?_;refine zaa (zbH qp f3) rfl rfl ?_;refine jfc ?_;refine zaI _ rfl (fun h=>?_) (fun h=>?_)
 rotate_left
 ·cases h
 clear h;have g4:IntKind.u8.wrap ((n/256^4:Nat):Int)=((n/256^4%256:Nat):Int):=qQ
 have f4:((n/256^4:Nat):Int).fdiv (2^min (8:Int).toNat IntKind.i64.bits)=((n/256^5:Nat):Int):=by
  exact jaz
 have L4:leN 5 n=leN 4 n++[((n/256^4%256:Nat):Int)]:=zcl 4 n;refine jfk ?_;refine jfZ (zbn U3 U5 g4) ?_;refine zab (xs:=[.p (.v (.int .u8 ((n/256^4%256:Nat):Int)))]) (zae (es:=[.p (.v (.int .u8 ((n/256^4%256:Nat):Int)))]) (cs:=(bs [((n/256^4%256:Nat):Int)])) 108 U34 sz5 zc5 (qbk rfl) (qbk rfl) rfl qq qq qq (qbk rfl)) qF rfl ⟨rfl,trivial⟩ ?_;refine zab (zam 109 U34 eo5 (zas) qy qp (show _=a+5 by omega) (show _=bs (ys++leN 5 n)by rw[za5,L4,←qby])) rfl rfl ⟨rfl,rfl,rfl,trivial⟩ ?_
 refine jfA ?_;refine zat (za1 (zb6 108) ?_)
 skip
 refine jfe ?_;refine zaa (zbH qp f4) rfl rfl ?_;refine jfc ?_;refine zaI _ rfl (fun h=>?_) (fun h=>?_)
 rotate_left
 ·cases h
 clear h;have g5:IntKind.u8.wrap ((n/256^5:Nat):Int)=((n/256^5%256:Nat):Int):=qQ
 have f5:((n/256^5:Nat):Int).fdiv (2^min (8:Int).toNat IntKind.i64.bits)=((n/256^6:Nat):Int):=by
  exact jaz
 have L5:leN 6 n=leN 5 n++[((n/256^5%256:Nat):Int)]:=zcl 5 n;refine jfk ?_;refine jfZ (zbn U3 U5 g5) ?_;refine zab (xs:=[.p (.v (.int .u8 ((n/256^5%256:Nat):Int)))]) (zae (es:=[.p (.v (.int .u8 ((n/256^5%256:Nat):Int)))]) (cs:=(bs [((n/256^5%256:Nat):Int)])) 110 U34 sz5 zc5 (qbk rfl) (qbk rfl) rfl qq qq qq (qbk rfl)) qF rfl ⟨rfl,trivial⟩ ?_;refine zab (zam 111 U34 eo5 (zas) qy qp (show _=a+6 by omega) (show _=bs (ys++leN 6 n)by rw[za5,L5,←qby])) rfl rfl ⟨rfl,rfl,rfl,trivial⟩ ?_
 refine jfA ?_;refine zat (za1 (zb6 110) ?_)
 skip
 refine jfe ?_;refine zaa (zbH qp f5) rfl rfl ?_;refine jfc ?_;refine zaI _ rfl (fun h=>?_) (fun h=>?_)
 rotate_left
 ·cases h
 clear h;have g6:IntKind.u8.wrap ((n/256^6:Nat):Int)=((n/256^6%256:Nat):Int):=qQ
 have f6:((n/256^6:Nat):Int).fdiv (2^min (8:Int).toNat IntKind.i64.bits)=((n/256^7:Nat):Int):=by
  exact jaz
 have L6:leN 7 n=leN 6 n++[((n/256^6%256:Nat):Int)]:=zcl 6 n;refine jfk ?_;refine jfZ (zbn U3 U5 g6) ?_;refine zab (xs:=[.p (.v (.int .u8 ((n/256^6%256:Nat):Int)))]) (zae (es:=[.p (.v (.int .u8 ((n/256^6%256:Nat):Int)))]) (cs:=(bs [((n/256^6%256:Nat):Int)])) 112 U34 sz5 zc5 (qbk rfl) (qbk rfl) rfl qq qq qq (qbk rfl)) qF rfl ⟨rfl,trivial⟩ ?_;refine zab (zam 113 U34 eo5 (zas) qy qp (show _=a+7 by omega) (show _=bs (ys++leN 7 n)by rw[za5,L6,←qby])) rfl rfl ⟨rfl,rfl,rfl,trivial⟩ ?_
 refine jfA ?_;refine zat (za1 (zb6 112) ?_)
 skip
 refine jfe ?_;refine zaa (zbH qp f6) rfl rfl ?_;refine jfc ?_;refine zaI _ rfl (fun h=>?_) (fun h=>?_)
 rotate_left
 ·cases h
 clear h;have g7:IntKind.u8.wrap ((n/256^7:Nat):Int)=((n/256^7%256:Nat):Int):=qQ
 have f7:((n/256^7:Nat):Int).fdiv (2^min (8:Int).toNat IntKind.i64.bits)=((n/256^8:Nat):Int):=by
  exact jaz
 have L7:leN 8 n=leN 7 n++[((n/256^7%256:Nat):Int)]:=zcl 7 n;refine jfk ?_;refine jfZ (zbn U3 U5 g7) ?_;refine zab (xs:=[.p (.v (.int .u8 ((n/256^7%256:Nat):Int)))]) (zae (es:=[.p (.v (.int .u8 ((n/256^7%256:Nat):Int)))]) (cs:=(bs [((n/256^7%256:Nat):Int)])) 114 U34 sz5 zc5 (qbk rfl) (qbk rfl) rfl qq qq qq (qbk rfl)) qF rfl ⟨rfl,trivial⟩ ?_;refine zab (zam 115 U34 eo5 (zas) qy qp (show _=a+8 by omega) (show _=bs (ys++leN 8 n)by rw[za5,L7,←qby])) rfl rfl ⟨rfl,rfl,rfl,trivial⟩ ?_
 refine jfA ?_;refine zat (za1 (zb6 114) ?_)
 skip
 refine jfe ?_;refine zaa (zbH qp f7) rfl rfl ?_;refine jfc ?_;refine zaI _ rfl (fun h=>?_) (fun h=>?_)
 ·cases h
 clear h;refine zar (zad (tx (jdz ?_)));refine jfA ?_;refine zaq (jeI ?_ ?_ ?_)
 ·exact rfl
 ·exact jbA
 ·exact jax
end Go.Proofs.YtdiljgkijgiboaaGreatDoor
