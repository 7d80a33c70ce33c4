/- Used. -/
import Derived.Test.YtdiljgkijgiboaaGreatDoorSCf3
set_option linter.all false
set_option maxRecDepth 100000
set_option maxHeartbeats 16000000
namespace Go.Proofs.YtdiljgkijgiboaaGreatDoor
open Tryz
open Go.RowKit Go.Sort
def CK(P:Program)(kt:TypeId)(kv:Value):Prop:=∀(b:Bool) (w:World),(Instr.checkKey b 10000 kt kv).run P w=.ok () w
def FK(P:Program)(kt:TypeId)(kv:Value)(es:List (Value×Value))(f:Option (Nat×Value)):Prop:=
 ∀(l:List MapEntry) (w:World),(l.map fun e=>(e.key,e.val))=es→(Instr.findKey kt kv l).run P w=.ok f w
section
variable {P:Program}{d:Option Tmp}{ty:TypeId}{pos:String}{af:Array Edge}{g:Option (Nat×Bool)}
theorem a_lookupF{t kt et:TypeId}{o:Nat}{kv z r:Value}{X:AV}{f:Option (Nat×Value)}{es:List (Value×Value)}{x y:Operand}(hu:P.underlying t=some (.map kt et))(hX:∀S m w u,Rep S m w X u→u=kv)(hc:CK P kt kv)
 (hz:(P.info? et).map (·.zero)=some (some z)) (hf:FK P kt kv es f) (hr:gotV z f=r) (h1:r.oneCell'=true):
 AOp P ⟨d,.lookup t x y false,ty,pos,af,g⟩ [.mp o,X] [(o,.live (.map es))] [] (.p (.v r)):=
 zbQ fun w0 A S m heap w ev hm hR hrd=>by
  obtain⟨q1,q2⟩:=zb9 (u:=ev x) (v:=ev y) hR;have ho:=rd1 hrd;simp only[Rep]at q1;obtain⟨hx,b,hb⟩:=q1;obtain⟨v,k1,k2,k3⟩:=hm.live o _ ho;rw[hx]at k1;cases k1;obtain⟨r',arr,ck,e1,g1,g2,g3⟩:=k2;have hfk:=hf arr.toList w g3;have hck:=hc arr.isEmpty w
  have hzv:(zeroValue et).run P w=.ok z w:=by
   cases hq:P.info? et with
   |none=>simp[hq]at hz
   |some i=>
    simp[hq]at hz;simp[zeroValue,typeInfo,hq,hz]
  refine⟨r,?_,za7 h1⟩;simp only[execOp,e1,hX _ _ _ _ q2,Instr.lookup,qbw,run_underlying hu,qbr,MapKept.run_getObj_map g2,hck,hfk,qbx];cases f with
  |none=>simp only[qbw,hzv,qbr,qbx,qbJ,if_false];rw[←hr];rfl
  |some p=>simp only[qbw,qbr,qbx,qbJ,if_false];rw[←hr];rfl
theorem a_mapUpdateF{t kt et:TypeId}{o:Nat}{kv xv:Value}{X:AV}{es:List (Value×Value)}{x y z:Operand}(hu:P.underlying t=some (.map kt et))(hX:∀S m w u,Rep S m w X u→u=kv)(hc:CK P kt kv)(hf:FK P kt kv es none):
 AOp P ⟨d,.mapUpdate t x y z,ty,pos,af,g⟩ [.mp o,X,.p (.v xv)] [(o,.live (.map es))] [(o,.live (.map (es++[(kv,xv)])))] .any:=by
 intro w0 A S m heap w ev hm hR hrd;obtain⟨h1,h2,h3⟩:=ziy (u:=ev x) (v:=ev y) (t:=ev z) hR;have ho:=rd1 hrd;simp only[Rep]at h1;obtain⟨hx,r,hmv⟩:=h1;obtain⟨v,k1,k2,k3⟩:=hm.live o _ ho;rw[hx]at k1;cases k1;obtain⟨r',arr,ck,e1,g1,g2,g3⟩:=k2;obtain rfl:r'=r:=by rw[hmv]at e1;simpa using e1.symm
 have hfk:=hf arr.toList w g3;have hck:=hc false w;have hlt:r'<w.heap.size:=(qbK.1 g2).1
 have hrun:(Instr.mapUpdate t (.map (some r')) kv xv).run P w=.ok () {w with heap:=w.heap.setIfInBounds r' (.map (arr.push {key:=kv,val:=xv,born:=ck}) (ck+1))}:=by
  exact jcC
 have q5:∀k,k≠r'→(w.heap.setIfInBounds r' (.map (arr.push {key:=kv,val:=xv,born:=ck}) (ck+1)))[k]?=w.heap[k]?:=fun k hk=>by
  rw[qcs (Ne.symm hk)]
 rw[hmv]at hx
 obtain⟨q1,q2⟩:=zhw hm (w':={w with heap:=w.heap.setIfInBounds r' (.map (arr.push {key:=kv,val:=xv,born:=ck}) (ck+1))}) (ob':=.map (es++[(kv,xv)])) (v:=.map (some r')) ho hx rfl rfl rfl rfl qG q5
  ⟨r',arr.push {key:=kv,val:=xv,born:=ck},ck+1,rfl,g1,by simp[hlt],by simp[g3]⟩
 have hex:(execOp ev ⟨d,.mapUpdate t x y z,ty,pos,af,g⟩).run P w=.ok .skip {w with heap:=w.heap.setIfInBounds r' (.map (arr.push {key:=kv,val:=xv,born:=ck}) (ck+1))}:=by
  simp only[execOp,hX _ _ _ _ h2,zbb h3,hmv,qbw,hrun,qbr];rfl
 unfold Out;rw[hex];exact⟨S,m,by simp only[Rep],q1,q2⟩
end
def netK(n:NtP):Value:=.agg #[.int .u32 n.1,.int .i64 n.2]
def netE(D:List NtP):List (Value×Value):=D.map fun n=>(netK n,.bool true)
theorem netX(n:NtP):∀S m w u,Rep S m w (.agg [qe n.1,qd n.2]) u→u=netK n:=by
 intro S m w u h;simp only[Rep]at h;obtain⟨us,rfl,h2,_⟩:=h;have:=zd1 (cs:=[qe n.1,qd n.2]) (xs:=[.int .u32 n.1,.int .i64 n.2]) rfl h2;rw[this];rfl
theorem netEq(n m:NtP)(w:World):(Op.equal 101 (netK n) (netK m)).run prog w=.ok (decide (n=m)) w:=by
 have h:=zfT (P:=prog) 20 10000 qp 101 [.int .u32 n.1,.int .i64 n.2] [.int .u32 m.1,.int .i64 m.2] w qq qq
 have e:eqL [Value.int .u32 n.1,.int .i64 n.2] [.int .u32 m.1,.int .i64 m.2]=decide (n=m):=by
  rw[qb1,zaY,decide_eq_true_eq];obtain⟨a,b⟩:=n;obtain⟨c,d⟩:=m;simp
 rw[e]at h;exact h
theorem netCK(n:NtP):CK prog 101 (netK n):=by
 intro b w;show(Instr.checkKey b (9998+1+1) _ _).run _ _=_;generalize 9998=k;simp[Instr.checkKey,run_underlying U101,netK];simp[part,zeM U33,zeM U3,TypeDesc.isRow]
def atN(n:NtP):List NtP→Nat→Option (Nat×Value)
 | [],_=>none
 |m::D,i=>if n=m then some (i,.bool true)else atN n D (i+1)
theorem atN_got(n:NtP):∀(D:List NtP) (i:Nat),gotV (.bool false) (atN n D i)=.bool (decide (n∈D))
 | [],i=>rfl
 |m::D,i=>by
  unfold atN
  by_cases e:n=m
  ·simp[e,gotV]
  ·rw[if_neg e,atN_got n D (i+1)];simp[e]
theorem atN_none{n:NtP}:∀{D:List NtP} (i:Nat),n∉D→atN n D i=none
 | [],i,h=>rfl
 |m::D,i,h=>by
  have h1:n≠m:=fun e=>h (by simp[e])
  unfold atN;rw[if_neg h1];exact atN_none (i+1) fun hh=>h (by simp[hh])
theorem netAsk(n:NtP):∀(l:List MapEntry) (D:List NtP) (i:Nat) (w:World),(l.map fun e=>(e.key,e.val))=netE D→
 (Instr.findAsking 101 (netK n) l i).run prog w=.ok (atN n D i) w
 | [],D,i,w,h=>by
  have hD:D=[]:=by simpa[netE]using h.symm
  subst hD;rfl
 |e::l,D,i,w,h=>by
  match D,h with
  | [],h=>simp[netE]at h
  |m::D,h=>
   simp only[netE,qbu,List.cons.injEq,Prod.mk.injEq]at h;obtain⟨⟨h1,h2⟩,h3⟩:=h;have ih:=netAsk n l D (i+1) w h3;have hq:=netEq n m w;rw[←h1]at hq;simp only[Instr.findAsking,qbw,hq,qbr,atN]
   by_cases e:n=m
   ·simp only[e,decide_true,if_true,h2,qbx]
   ·simp only[e,decide_false,qbJ,if_false,ih]
theorem netFK(n:NtP)(D:List NtP):FK prog 101 (netK n) (netE D) (atN n D 0):=by
 intro l w hl;have h2:=netAsk n l D 0 w hl;unfold Instr.findKey;rw[qbw,run_underlying U101];simp only[qbr];cases l with
 |nil=>
  have hD:D=[]:=by simpa[netE]using hl.symm
  subst hD;rfl
 |cons e l=>exact h2
theorem netFN{n:NtP}{D:List NtP}(h:n∉D):FK prog 101 (netK n) (netE D) none:=by
 have:=netFK n D
 rwa [atN_none 0 h]at this
theorem key_ne':¬keyE ⟨#[]⟩=0:=qaS
def lastP(l:List PE)(i:Nat):ByteArray:=if i=0 then⟨#[]⟩else(peG l (i-1)).key
theorem lastP_le(l:List PE)(i:Nat)(k:ByteArray)(hk:k≠⟨#[]⟩):leK k (lastP l i)=true↔(0<i∧leK k (peG l (i-1)).key=true):=by
 unfold lastP
 by_cases h:i=0
 ·rw[if_pos h]
  constructor
  ·intro h1;unfold leK at h1;rw[sLt_empty]at h1;simp at h1;exact absurd h1 hk
  ·rintro⟨h1,_⟩;omega
 ·rw[if_neg h]
  constructor
  ·exact fun h1=>⟨qp,h1⟩
  ·exact fun h1=>h1.2
theorem netE_push(X:List NtP)(q:NtP):netE X++[(netK q,Value.bool true)]=netE (X++[q]):=by simp[netE]
theorem zhW(c:CF)(ok:c.OK):Fn prog 65 [.agg c.cells] (qd (cfE c)) []:=by
 obtain⟨key,port,l⟩:=c;obtain⟨hn,ok⟩:=ok;dsimp only at hn ok;obtain⟨E,hE⟩:∃E,cfE ⟨key,port,l⟩=E:=⟨_,rfl⟩;rw[hE];unfold cfE at hE;dsimp only at hE;have hK:=zbh key;show Fn prog _ [.agg (cfC key port l.length (l.flatMap PE.pv))] _ _;generalize keyE key=k1 at*;refine fnI fun w0 A=>?_
 refine G [5] ?_
 by_cases hk:key≠⟨#[]⟩∧k1≠0
 ·rw[if_pos hk]at hE;subst hE;refine G [5] ?_;refine zaa (a_sneqV (c:=true) (by simp[hk.1])) rfl rfl ?_;refine G [3] ?_
  (first|refine zbR rfl ?_|refine zaU (fun n=>16+1000*n) (hK) rfl rfl F110 rfl rfl qA qA rfl rfl rfl qr rfl rfl rfl ?_)
  refine zaa (a_neqV (c:=true) (by simp[hk.2])) rfl rfl ?_;refine G [7] ?_;refine cV hK ?_;refine jd4 ?_;exact yE
 rw[if_neg hk]at hE;refine G [2] ?_;refine awp_joinS (St.of [(1,.ref 1 0)] [(1,.box 24 (cfC key port l.length (l.flatMap PE.pv)))]) ?_ ?_
 ·by_cases hk0:key=⟨#[]⟩
  ·skip
   refine G [3,3,9,9,0] ?_;exact jar
  ·have hk1:k1=0:=qbq.1 fun e=>hk ⟨hk0,e⟩
   skip
   refine G [3,4,3] ?_
   (first|refine zbR rfl ?_|refine zaU (fun n=>16+1000*n) (hK) rfl rfl F110 rfl rfl qA qA rfl rfl rfl qr rfl rfl rfl ?_)
   refine G [0,3,4,9,0] ?_;exact zai id _ _ qv qv rfl
 clear hk hK;refine G [10,2,1,9,0] ?_;refine cX ?_ ?_<;>intro h
 ·have h5:port<0∨65535<port:=qB;exact jbf
 have h5:¬(port<0∨65535<port):=qw;clear h;rw[if_neg h5]at hE;refine G [9,9,0] ?_;refine cX ?_ ?_<;>intro h
 ·exact jcl
 have h6:¬6<l.length:=qw;clear h;rw[if_neg h6]at hE;refine G [3] ?_;refine jf0 (a_makeMap 34) ?_;refine G [15] ?_;refine zag (fun m st=>∃i:Nat,m+i=l.length∧(∀j,j<i→ze1 key l j=0)∧st=St.of [(1,.ref 1 0),(3,.mp 34),(4,qc (lastP l i)),(36,ql l.length 5 (l.flatMap PE.pv)),(37,qd l.length),(38,qd i)] [(1,.box 24 (cfC key port l.length (l.flatMap PE.pv))),(34,.map (netE (zcE l i)))]) l.length ?_ ?_
 ·exact jaQ
 rintro m st ⟨i,hi,hf,rfl⟩;refine G [5] ?_;refine cX ?_ ?_<;>intro h
 ·have hlt:i<l.length:=qw;clear h;obtain⟨p,hp⟩:=qo hlt;have hch:=zav (f:=PE.pv) (k:=5) (fun _=>rfl) hp;have hle:=zaw (f:=PE.pv) (k:=5) (fun _=>rfl) hlt;obtain⟨hok,hpl⟩:=ok p (qbo hp);have hC:=refPeer_s p hok;have hhit:=@zcx (ze1 key l) i l.length hf hlt;have hst:ze1 key l i=if peE p≠0 then peE p else if(0<i∧leK p.key (peG l (i-1)).key=true)∨p.key=key then 6 else if dupN (zcE l i) p.nets=true then 6 else 0:=by unfold ze1;rw[zhY hp]
  have hgood:=@zdK p;have hnx:=zgM hp;have hlN:lastP l (i+1)=p.key:=by unfold lastP;rw[if_neg (by omega),Nat.add_sub_cancel,zhY hp]
  generalize hL:l.flatMap PE.pv=L at*;generalize peE p=e at*;refine G [8] ?_;refine jd9 ?_;refine G [4] ?_;refine jeN ?_;refine cK hC ?_;refine jds ?_;refine cX ?_ ?_<;>intro h
  ·exact jc3
  have h7:e=0:=qB;clear h;rw[if_neg (by simp[h7])]at hst;obtain⟨hn8,hkey⟩:=hgood h7;have hkne:p.key≠⟨#[]⟩:=fun e=>key_ne' (by rw[e]at hkey;exact hkey)
  simp only[←lastP_le l i p.key hkne]at hst;generalize hLK:lastP l i=lk at*
  by_cases hlk:leK p.key lk=true
  ·rw[if_pos (.inl hlk)]at hst;rw[hhit (by rw[hst];decide),hst]at hE;subst hE;refine G [7] ?_;refine jfZ (zg1 (c:=true) (hlk)) ?_;refine G [14,9,0] ?_;exact yE
  by_cases hkk:p.key=key
  ·rw[if_pos (.inr hkk)]at hst;rw[hhit (by rw[hst];decide),hst]at hE;subst hE;refine G [7] ?_;refine zaa (zg1 (c:=false) qbe) rfl rfl ?_;refine G [5] ?_;refine je9 ?_;exact jbs
  rw[if_neg (by simp[hlk,hkk])]at hst;refine G [7] ?_;refine zaa (zg1 (c:=false) qbe) rfl rfl ?_;refine G [5] ?_;refine jfZ (za2 (c:=false) (decide_eq_false hkk)) ?_;refine G [3] ?_;obtain⟨DD,hDD⟩:∃b,dupN (zcE l i) p.nets=b:=⟨_,rfl⟩;rw[hDD]at hst;refine G [15] ?_;refine zag (fun m' st=>∃j:Nat,m'+j=p.nets.length∧∃X:List NtP,DD=dupN X (p.nets.drop j)∧X=zcE l i++p.nets.take j∧st=St.of [(1,.ref 1 0),(3,.mp 34),(4,qc p.key),(36,ql l.length 5 L),(37,qd l.length),(38,qd i),(61,ql p.nets.length 2 (p.nets.flatMap ntC)),(62,qd p.nets.length),(63,qd j)] [(1,.box 24 (cfC key port l.length L)),(34,.map (netE X))]) p.nets.length ?_ ?_
  ·refine⟨_,zai id _ _ ?_ ?_ rfl,0,qp,zcE l i,by rw[qcc];exact hDD.symm,qG,rfl⟩
   ·exact jap
   ·exact jaJ
  rintro m' st ⟨j,hj,X,hdp,hXe,rfl⟩;refine G [5] ?_;refine cX ?_ ?_<;>intro h
  ·have hlj:j<p.nets.length:=qw;clear h;obtain⟨q,hq⟩:=qo hlj;have hch2:=zav (f:=ntC) (k:=2) (fun _=>rfl) hq;have hle2:=zaw (f:=ntC) (k:=2) (fun _=>rfl) hlj
   have hdr:p.nets.drop j=q::p.nets.drop (j+1):=by
    obtain⟨q1,q2⟩:=qbl.1 hq;rw[qbQ q1,q2]
   have htk:p.nets.take (j+1)=p.nets.take j++[q]:=by
    obtain⟨q1,q2⟩:=qbl.1 hq;exact jda
   rw[hdr,dupN]at hdp;obtain⟨qa,qb⟩:=q;have hpush:=netE_push X (qa,qb);have hgot:=atN_got (qa,qb) X 0;generalize hNL:p.nets.flatMap ntC=NL at*;refine jfO ?_
   by_cases hm:(qa,qb)∈X
   ·rw[show(decide ((qa,qb)∈X)||dupN (X++[(qa,qb)]) (p.nets.drop (j+1)))=true by simp[hm]]at hdp;rw[if_pos hdp]at hst;rw[hhit (by rw[hst];decide),hst]at hE;subst hE;rw[decide_eq_true hm]at hgot;refine G [5] ?_;refine jf0 (a_lookupF underlying167 (netX (qa,qb)) (netCK _) zr4 (netFK (qa,qb) X) hgot rfl) ?_;refine G [6] ?_;exact jaR
   ·rw[show(decide ((qa,qb)∈X)||dupN (X++[(qa,qb)]) (p.nets.drop (j+1)))=dupN (X++[(qa,qb)]) (p.nets.drop (j+1))by simp[hm]]at hdp;rw[decide_eq_false hm]at hgot;refine G [5] ?_;refine jf0 (a_lookupF underlying167 (netX (qa,qb)) (netCK _) zr4 (netFK (qa,qb) X) hgot rfl) ?_;refine G [6] ?_;refine jf0 (a_mapUpdateF underlying167 (netX (qa,qb)) (netCK _) (netFN hm)) ?_;refine jdC ?_;refine⟨m'-1,qp,_,zai id _ _ ?_ ?_ rfl,j+1,qp,X++[(qa,qb)],hdp,by rw[htk,←qby,hXe],rfl⟩
    ·exact jap
    ·exact⟨⟨rfl,rfl⟩,⟨congrArg (fun x=>Slot.live (AObj.map x)) hpush,rfl⟩,trivial⟩
  have hge:j=p.nets.length:=qw;clear h;subst hge;rw[qbL]at hXe;have hz:dupN X (p.nets.drop p.nets.length)=false:=by rw[List.drop_length];rfl
  rw[hz]at hdp;rw[if_neg (by rw[hdp];decide)]at hst;refine jdC ?_;refine⟨m-1,qp,_,zai id _ _ ?_ ?_ rfl,i+1,qp,fun q hq=>?_,rfl⟩
  ·refine⟨⟨rfl,rfl⟩,⟨rfl,rfl⟩,⟨?_,rfl⟩,⟨rfl,rfl⟩,⟨rfl,rfl⟩,⟨rfl,rfl⟩,trivial⟩;rw[hlN];rfl
  ·refine⟨⟨rfl,rfl⟩,⟨?_,rfl⟩,trivial⟩;rw[hnx,←hXe];rfl
  ·exact jbU
 have hge:i=l.length:=qw;clear h;subst hge;rw[zdc hf]at hE;subst hE;refine jdw ?_;exact yE
end Go.Proofs.YtdiljgkijgiboaaGreatDoor
namespace Go.Proofs.YtdiljgkijgiboaaGreatDoor
open Go.RowKit Go.Sort
theorem SE.of_ty{n:Nat}{ps:List PV}(h:Ty Tryz.prog (n+3) 153 ps)(hb:PV.bdL 1048576 ps):∃s:SE,s.OK∧ps=s.pv:=by
 obtain⟨_,rfl,x0,_,rfl,t0,x1,_,rfl,t1,x2,_,rfl,t2,x3,_,rfl,t3,rfl⟩:=zbu (ts:=[3,9,3,101]) qq h;obtain⟨k,rfl,hk⟩:=zbz U3 t0;obtain⟨t,rfl,_⟩:=zb2 U9 t1;obtain⟨m,rfl,hm⟩:=zbz U3 t2;obtain⟨_,rfl,y0,_,rfl,u0,y1,_,rfl,u1,rfl⟩:=zbu (ts:=[33,3]) qq t3;obtain⟨a,rfl,ha⟩:=zbz U33 u0;obtain⟨b,rfl,hb'⟩:=zbz U3 u1;obtain⟨m0,m1⟩:=zfZ hm;obtain⟨a0,a1⟩:=wf_u32 ha;refine⟨⟨k,t,m,a,b⟩,⟨?_,m0,m1,a0,a1⟩,rfl⟩;simp[PV.bdL,PV.bd]at hb
 show t.size<_;omega
theorem SE.list_ty{n:Nat}{ps:List PV}(h:Ty Tryz.prog (n+4) 27 ps)(hb:PV.bdL 1048576 ps):∃l:List SE,(∀s∈l,s.OK)∧l.length≤1048576∧ps=[.sl l.length 5 (l.flatMap SE.pv)]:=by
 obtain⟨L,rfl,h2,h3⟩:=zf2 (sz:=5) U27 qq h;simp only[PV.bdL,PV.bd,and_true]at hb
 obtain⟨l,k1,k2,k3⟩:=zgI (f:=SE.pv) (Q:=SE.OK) (L:=L) fun x hx=>by
  obtain⟨s,h4,h5⟩:=SE.of_ty (n:=n) (h3 x hx).1 (zbK hb.2 x hx);exact⟨s,h4,h5⟩
 exact jdg
end Go.Proofs.YtdiljgkijgiboaaGreatDoor
namespace Go.Proofs.YtdiljgkijgiboaaGreatDoor
open Tryz
open Go.RowKit Go.Sort
theorem refCheck1_s(t:ByteArray)(n a b:Int)(ok:SE.OK ⟨1,t,n,a,b⟩):Fn prog 114 [.agg (SE.cells ⟨1,t,n,a,b⟩)] (qd (seE ⟨1,t,n,a,b⟩)) []:=by
 obtain⟨hz,hn0,hn1,ha0,ha1⟩:=ok;dsimp only at hz hn0 hn1 ha0 ha1;obtain⟨E,hE⟩:∃E,seE ⟨1,t,n,a,b⟩=E:=⟨_,rfl⟩;rw[hE];unfold seE at hE;rw[if_neg (by dsimp only;decide)]at hE;show Fn prog _ [.agg [qd 1,qc t,qd n,qe a,qd b]] _ _;have hH:=zbh t;refine fnI fun w0 A=>?_
 refine jfo ?_;refine zab (zao U208 sz9 qp qp (show _=1 from rfl)) rfl rfl ⟨rfl,trivial⟩ ?_;refine G [3] ?_
 by_cases ht:t≠⟨#[]⟩
 ·by_cases hn:n≠0
  ·rw[if_pos (show seF ⟨1,t,n,a,b⟩by simp[seF,isT,isN,isC, *])]at hE;exact jcp
  replace hn:n=0:=qbq.1 hn
  by_cases hq:a=0∧b=0
  ·refine G [5,4,2,3,4,3,9] ?_;exact jby
  ·rw[if_pos (show seF ⟨1,t,n,a,b⟩by simp[seF,isT,isN,isC];omega)]at hE;exact jcS
 replace ht:t=⟨#[]⟩:=qbq.1 ht
 by_cases hn:n≠0
 ·rw[if_pos (show seF ⟨1,t,n,a,b⟩by simp[seF,isT,isN,isC, *])]at hE;exact jbl
 replace hn:n=0:=qbq.1 hn
 by_cases hq:a=0∧b=0
 ·refine G [5,3,7,3,9] ?_;exact jby
 ·rw[if_pos (show seF ⟨1,t,n,a,b⟩by simp[seF,isT,isN,isC];omega)]at hE;exact jbG
theorem refCheck2_s(t:ByteArray)(n a b:Int)(ok:SE.OK ⟨2,t,n,a,b⟩):Fn prog 114 [.agg (SE.cells ⟨2,t,n,a,b⟩)] (qd (seE ⟨2,t,n,a,b⟩)) []:=by
 obtain⟨hz,hn0,hn1,ha0,ha1⟩:=ok;dsimp only at hz hn0 hn1 ha0 ha1;obtain⟨E,hE⟩:∃E,seE ⟨2,t,n,a,b⟩=E:=⟨_,rfl⟩;rw[hE];unfold seE at hE;rw[if_neg (by dsimp only;decide)]at hE;show Fn prog _ [.agg [qd 2,qc t,qd n,qe a,qd b]] _ _;refine fnI fun w0 A=>?_
 refine jfo ?_;refine zab (zao U208 sz9 qp qp (show _=2 from rfl)) rfl rfl ⟨rfl,trivial⟩ ?_;refine G [3] ?_
 by_cases ht:t≠⟨#[]⟩
 ·rw[if_pos (show seF ⟨2,t,n,a,b⟩by simp[seF,isT,isN,isC, *])]at hE;exact jbY
 replace ht:t=⟨#[]⟩:=qbq.1 ht
 by_cases hn:n≠0
 ·by_cases hq:a=0∧b=0
  ·refine G [5,3,7,4,2,3,6] ?_;exact jbM
  ·rw[if_pos (show seF ⟨2,t,n,a,b⟩by simp[seF,isT,isN,isC];omega)]at hE;subst hE;refine G [5,3,7,4,2,3,6] ?_;exact jav
 replace hn:n=0:=qbq.1 hn
 by_cases hq:a=0∧b=0
 ·refine G [5,3,7,3,9] ?_;exact jbM
 ·rw[if_pos (show seF ⟨2,t,n,a,b⟩by simp[seF,isT,isN,isC];omega)]at hE;exact jbG
theorem refCheck3_s(t:ByteArray)(n a b:Int)(ok:SE.OK ⟨3,t,n,a,b⟩):Fn prog 114 [.agg (SE.cells ⟨3,t,n,a,b⟩)] (qd (seE ⟨3,t,n,a,b⟩)) []:=by
 obtain⟨hz,hn0,hn1,ha0,ha1⟩:=ok;dsimp only at hz hn0 hn1 ha0 ha1;obtain⟨E,hE⟩:∃E,seE ⟨3,t,n,a,b⟩=E:=⟨_,rfl⟩;rw[hE];unfold seE at hE;rw[if_neg (by dsimp only;decide)]at hE;show Fn prog _ [.agg [qd 3,qc t,qd n,qe a,qd b]] _ _;refine fnI fun w0 A=>?_
 refine jfo ?_;refine zab (zao U208 sz9 qp qp (show _=3 from rfl)) rfl rfl ⟨rfl,trivial⟩ ?_;refine G [3] ?_
 by_cases ht:t≠⟨#[]⟩
 ·rw[if_pos (show seF ⟨3,t,n,a,b⟩by simp[seF,isT,isN,isC, *])]at hE;exact jbY
 replace ht:t=⟨#[]⟩:=qbq.1 ht
 by_cases hn:n≠0
 ·rw[if_pos (show seF ⟨3,t,n,a,b⟩by simp[seF,isT,isN,isC, *])]at hE;exact jbl
 replace hn:n=0:=qbq.1 hn
 by_cases hq:a=0∧b=0
 ·refine G [5,3,7,3,9] ?_;refine jdA ?_;refine G [7] ?_;rw[if_neg (show¬seF ⟨3,t,n,a,b⟩by simp[seF,isT,isN,isC, *])]at hE;rw[seV_3]at hE;exact jcQ
 ·rw[if_pos (show seF ⟨3,t,n,a,b⟩by simp[seF,isT,isN,isC];omega)]at hE;exact jbG
theorem refCheck4_s(t:ByteArray)(n a b:Int)(ok:SE.OK ⟨4,t,n,a,b⟩):Fn prog 114 [.agg (SE.cells ⟨4,t,n,a,b⟩)] (qd (seE ⟨4,t,n,a,b⟩)) []:=by
 obtain⟨hz,hn0,hn1,ha0,ha1⟩:=ok;dsimp only at hz hn0 hn1 ha0 ha1;obtain⟨E,hE⟩:∃E,seE ⟨4,t,n,a,b⟩=E:=⟨_,rfl⟩;rw[hE];unfold seE at hE;rw[if_neg (by dsimp only;decide)]at hE;show Fn prog _ [.agg [qd 4,qc t,qd n,qe a,qd b]] _ _;have hH:=zbh t;refine fnI fun w0 A=>?_
 refine jfo ?_;refine zab (zao U208 sz9 qp qp (show _=4 from rfl)) rfl rfl ⟨rfl,trivial⟩ ?_;refine G [3] ?_
 by_cases ht:t≠⟨#[]⟩
 ·by_cases hn:n≠0
  ·rw[if_pos (show seF ⟨4,t,n,a,b⟩by simp[seF,isT,isN,isC, *])]at hE;exact jcp
  replace hn:n=0:=qbq.1 hn
  by_cases hq:a=0∧b=0
  ·refine G [5,4,2,3,4,3,9] ?_;exact jbz
  ·rw[if_pos (show seF ⟨4,t,n,a,b⟩by simp[seF,isT,isN,isC];omega)]at hE;exact jcS
 replace ht:t=⟨#[]⟩:=qbq.1 ht
 by_cases hn:n≠0
 ·rw[if_pos (show seF ⟨4,t,n,a,b⟩by simp[seF,isT,isN,isC, *])]at hE;exact jbl
 replace hn:n=0:=qbq.1 hn
 by_cases hq:a=0∧b=0
 ·refine G [5,3,7,3,9] ?_;exact jbz
 ·rw[if_pos (show seF ⟨4,t,n,a,b⟩by simp[seF,isT,isN,isC];omega)]at hE;exact jbG
theorem refCheck5_s(t:ByteArray)(n a b:Int)(ok:SE.OK ⟨5,t,n,a,b⟩):Fn prog 114 [.agg (SE.cells ⟨5,t,n,a,b⟩)] (qd (seE ⟨5,t,n,a,b⟩)) []:=by
 obtain⟨hz,hn0,hn1,ha0,ha1⟩:=ok;dsimp only at hz hn0 hn1 ha0 ha1;obtain⟨E,hE⟩:∃E,seE ⟨5,t,n,a,b⟩=E:=⟨_,rfl⟩;rw[hE];unfold seE at hE;rw[if_neg (by dsimp only;decide)]at hE;show Fn prog _ [.agg [qd 5,qc t,qd n,qe a,qd b]] _ _;refine fnI fun w0 A=>?_
 refine jfo ?_;refine zab (zao U208 sz9 qp qp (show _=5 from rfl)) rfl rfl ⟨rfl,trivial⟩ ?_;refine G [3] ?_
 by_cases ht:t≠⟨#[]⟩
 ·rw[if_pos (show seF ⟨5,t,n,a,b⟩by simp[seF,isT,isN,isC, *])]at hE;exact jbY
 replace ht:t=⟨#[]⟩:=qbq.1 ht
 by_cases hn:n≠0
 ·rw[if_pos (show seF ⟨5,t,n,a,b⟩by simp[seF,isT,isN,isC, *])]at hE;exact jbl
 replace hn:n=0:=qbq.1 hn
 by_cases hq:a=0∧b=0
 ·refine G [5,3,7,3,9] ?_;refine jdA ?_;refine G [7] ?_;rw[if_neg (show¬seF ⟨5,t,n,a,b⟩by simp[seF,isT,isN,isC, *])]at hE;rw[seV_5]at hE;exact jcQ
 ·rw[if_pos (show seF ⟨5,t,n,a,b⟩by simp[seF,isT,isN,isC];omega)]at hE;exact jbG
theorem refCheck6_s(t:ByteArray)(n a b:Int)(ok:SE.OK ⟨6,t,n,a,b⟩):Fn prog 114 [.agg (SE.cells ⟨6,t,n,a,b⟩)] (qd (seE ⟨6,t,n,a,b⟩)) []:=by
 obtain⟨hz,hn0,hn1,ha0,ha1⟩:=ok;dsimp only at hz hn0 hn1 ha0 ha1;obtain⟨E,hE⟩:∃E,seE ⟨6,t,n,a,b⟩=E:=⟨_,rfl⟩;rw[hE];unfold seE at hE;rw[if_neg (by dsimp only;decide)]at hE;show Fn prog _ [.agg [qd 6,qc t,qd n,qe a,qd b]] _ _;have hH:=zbh t;have hZ:=ziQ;refine fnI fun w0 A=>?_
 refine jfo ?_;refine zab (zao U208 sz9 qp qp (show _=6 from rfl)) rfl rfl ⟨rfl,trivial⟩ ?_;refine G [3] ?_
 by_cases ht:t≠⟨#[]⟩
 ·by_cases hn:n≠0
  ·rw[if_pos (show seF ⟨6,t,n,a,b⟩by simp[seF,isT,isN,isC, *])]at hE;exact jcp
  replace hn:n=0:=qbq.1 hn
  by_cases hq:a=0∧b=0
  ·refine G [5,4,2,3,4,3,9] ?_;exact jaD
  ·rw[if_pos (show seF ⟨6,t,n,a,b⟩by simp[seF,isT,isN,isC];omega)]at hE;exact jcS
 replace ht:t=⟨#[]⟩:=qbq.1 ht
 by_cases hn:n≠0
 ·rw[if_pos (show seF ⟨6,t,n,a,b⟩by simp[seF,isT,isN,isC, *])]at hE;exact jbl
 replace hn:n=0:=qbq.1 hn
 by_cases hq:a=0∧b=0
 ·refine G [5,3,7,3,9] ?_;exact jaD
 ·rw[if_pos (show seF ⟨6,t,n,a,b⟩by simp[seF,isT,isN,isC];omega)]at hE;exact jbG
theorem refCheck7_s(t:ByteArray)(n a b:Int)(ok:SE.OK ⟨7,t,n,a,b⟩):Fn prog 114 [.agg (SE.cells ⟨7,t,n,a,b⟩)] (qd (seE ⟨7,t,n,a,b⟩)) []:=by
 obtain⟨hz,hn0,hn1,ha0,ha1⟩:=ok;dsimp only at hz hn0 hn1 ha0 ha1;obtain⟨E,hE⟩:∃E,seE ⟨7,t,n,a,b⟩=E:=⟨_,rfl⟩;rw[hE];unfold seE at hE;rw[if_neg (by dsimp only;decide)]at hE;show Fn prog _ [.agg [qd 7,qc t,qd n,qe a,qd b]] _ _;have hEn:=zjz t hz;obtain⟨ea,eb,hen⟩:=enR_e t;rw[hen]at hEn;refine fnI fun w0 A=>?_
 refine jfo ?_;refine zab (zao U208 sz9 qp qp (show _=7 from rfl)) rfl rfl ⟨rfl,trivial⟩ ?_;refine G [3] ?_
 by_cases ht:t≠⟨#[]⟩
 ·by_cases hn:n≠0
  ·rw[if_pos (show seF ⟨7,t,n,a,b⟩by simp[seF,isT,isN,isC, *])]at hE;exact jcp
  replace hn:n=0:=qbq.1 hn
  by_cases hq:a=0∧b=0
  ·refine G [5,4,2,3,4,3,9] ?_;exact jbj
  ·rw[if_pos (show seF ⟨7,t,n,a,b⟩by simp[seF,isT,isN,isC];omega)]at hE;exact jcS
 replace ht:t=⟨#[]⟩:=qbq.1 ht
 by_cases hn:n≠0
 ·rw[if_pos (show seF ⟨7,t,n,a,b⟩by simp[seF,isT,isN,isC, *])]at hE;exact jbl
 replace hn:n=0:=qbq.1 hn
 by_cases hq:a=0∧b=0
 ·refine G [5,3,7,3,9] ?_;exact jbj
 ·rw[if_pos (show seF ⟨7,t,n,a,b⟩by simp[seF,isT,isN,isC];omega)]at hE;exact jbG
theorem refCheck8_s(t:ByteArray)(n a b:Int)(ok:SE.OK ⟨8,t,n,a,b⟩):Fn prog 114 [.agg (SE.cells ⟨8,t,n,a,b⟩)] (qd (seE ⟨8,t,n,a,b⟩)) []:=by
 obtain⟨hz,hn0,hn1,ha0,ha1⟩:=ok;dsimp only at hz hn0 hn1 ha0 ha1;obtain⟨E,hE⟩:∃E,seE ⟨8,t,n,a,b⟩=E:=⟨_,rfl⟩;rw[hE];unfold seE at hE;rw[if_neg (by dsimp only;decide)]at hE;show Fn prog _ [.agg [qd 8,qc t,qd n,qe a,qd b]] _ _;refine fnI fun w0 A=>?_
 refine jfo ?_;refine zab (zao U208 sz9 qp qp (show _=8 from rfl)) rfl rfl ⟨rfl,trivial⟩ ?_;refine G [3] ?_
 by_cases ht:t≠⟨#[]⟩
 ·rw[if_pos (show seF ⟨8,t,n,a,b⟩by simp[seF,isT,isN,isC, *])]at hE;exact jbY
 replace ht:t=⟨#[]⟩:=qbq.1 ht
 by_cases hn:n≠0
 ·by_cases hq:a=0∧b=0
  ·refine G [5,3,7,4,2,3,6] ?_;exact jbN
  ·rw[if_pos (show seF ⟨8,t,n,a,b⟩by simp[seF,isT,isN,isC];omega)]at hE;subst hE;refine G [5,3,7,4,2,3,6] ?_;exact jav
 replace hn:n=0:=qbq.1 hn
 by_cases hq:a=0∧b=0
 ·refine G [5,3,7,3,9] ?_;exact jbN
 ·rw[if_pos (show seF ⟨8,t,n,a,b⟩by simp[seF,isT,isN,isC];omega)]at hE;exact jbG
theorem refCheck9_s(t:ByteArray)(n a b:Int)(ok:SE.OK ⟨9,t,n,a,b⟩):Fn prog 114 [.agg (SE.cells ⟨9,t,n,a,b⟩)] (qd (seE ⟨9,t,n,a,b⟩)) []:=by
 obtain⟨hz,hn0,hn1,ha0,ha1⟩:=ok;dsimp only at hz hn0 hn1 ha0 ha1;obtain⟨E,hE⟩:∃E,seE ⟨9,t,n,a,b⟩=E:=⟨_,rfl⟩;rw[hE];unfold seE at hE;rw[if_neg (by dsimp only;decide)]at hE;show Fn prog _ [.agg [qd 9,qc t,qd n,qe a,qd b]] _ _;refine fnI fun w0 A=>?_
 refine jfo ?_;refine zab (zao U208 sz9 qp qp (show _=9 from rfl)) rfl rfl ⟨rfl,trivial⟩ ?_;refine G [3] ?_
 by_cases ht:t≠⟨#[]⟩
 ·rw[if_pos (show seF ⟨9,t,n,a,b⟩by simp[seF,isT,isN,isC, *])]at hE;exact jbY
 replace ht:t=⟨#[]⟩:=qbq.1 ht
 by_cases hn:n≠0
 ·rw[if_pos (show seF ⟨9,t,n,a,b⟩by simp[seF,isT,isN,isC, *])]at hE;exact jbl
 replace hn:n=0:=qbq.1 hn
 by_cases hq:a=0∧b=0
 ·refine G [5,3,7,3,9] ?_;refine jdA ?_;refine G [7] ?_;rw[if_neg (show¬seF ⟨9,t,n,a,b⟩by simp[seF,isT,isN,isC, *])]at hE;rw[seV_9]at hE;exact jcQ
 ·rw[if_pos (show seF ⟨9,t,n,a,b⟩by simp[seF,isT,isN,isC];omega)]at hE;exact jbG
theorem refCheck10_s(t:ByteArray)(n a b:Int)(ok:SE.OK ⟨10,t,n,a,b⟩):Fn prog 114 [.agg (SE.cells ⟨10,t,n,a,b⟩)] (qd (seE ⟨10,t,n,a,b⟩)) []:=by
 obtain⟨hz,hn0,hn1,ha0,ha1⟩:=ok;dsimp only at hz hn0 hn1 ha0 ha1;obtain⟨E,hE⟩:∃E,seE ⟨10,t,n,a,b⟩=E:=⟨_,rfl⟩;rw[hE];unfold seE at hE;rw[if_neg (by dsimp only;decide)]at hE;show Fn prog _ [.agg [qd 10,qc t,qd n,qe a,qd b]] _ _;have hC:=zdy a b ha0 ha1;change Fn prog _ [.agg [qe a,qd b]] _ _ at hC;refine fnI fun w0 A=>?_
 refine jfo ?_;refine zab (zao U208 sz9 qp qp (show _=10 from rfl)) rfl rfl ⟨rfl,trivial⟩ ?_;refine G [3] ?_
 by_cases ht:t≠⟨#[]⟩
 ·rw[if_pos (show seF ⟨10,t,n,a,b⟩by simp[seF,isT,isN,isC, *])]at hE;exact jbY
 replace ht:t=⟨#[]⟩:=qbq.1 ht
 by_cases hn:n≠0
 ·rw[if_pos (show seF ⟨10,t,n,a,b⟩by simp[seF,isT,isN,isC, *])]at hE;exact jbl
 replace hn:n=0:=qbq.1 hn
 by_cases hq:a=0∧b=0
 ·refine G [5,3,7,3,9] ?_;refine jdA ?_;refine G [7] ?_;exact jce
 ·refine G [5,3,7,3,9] ?_;refine zaa (zaK U101 rfl rfl qq qq qq (c:=true) (by rw[zbB];simp;omega)) rfl rfl ?_;refine G [2,3,4] ?_;exact jce
theorem refCheckBad_s(s:SE)(hk:s.k<1∨10<s.k):Fn prog 114 [.agg s.cells] (qd (seE s)) []:=by
 exact jba
theorem refCheck_s(s:SE)(ok:s.OK):Fn prog 114 [.agg s.cells] (qd (seE s)) []:=by
 by_cases hk:s.k<1∨10<s.k
 ·exact refCheckBad_s s hk
 obtain⟨k,t,n,a,b⟩:=s;dsimp only at hk;have:k=1∨k=2∨k=3∨k=4∨k=5∨k=6∨k=7∨k=8∨k=9∨k=10:=qp;rcases this with rfl|rfl|rfl|rfl|rfl|rfl|rfl|rfl|rfl|rfl
 ·exact refCheck1_s t n a b ok
 ·exact refCheck2_s t n a b ok
 ·exact refCheck3_s t n a b ok
 ·exact refCheck4_s t n a b ok
 ·exact refCheck5_s t n a b ok
 ·exact refCheck6_s t n a b ok
 ·exact refCheck7_s t n a b ok
 ·exact refCheck8_s t n a b ok
 ·exact refCheck9_s t n a b ok
 ·exact refCheck10_s t n a b ok
structure SG where
 lv:Bool
 rest:List SE
 c:CF
 at_:ByteArray
 err:Int
def sgC(lv:Bool)(n:Nat)(R:List PV)(key:ByteArray)(port:Int)(m:Nat)(L:List PV)(at_:ByteArray)(err:Int):List AV:=
 [qf lv,ql n 5 R,qc key,qd port,ql m 5 L,qc at_,qd err]
def SG.cells(s:SG):List AV:=sgC s.lv s.rest.length (s.rest.flatMap SE.pv) s.c.key s.c.port s.c.ps.length (s.c.ps.flatMap PE.pv) s.at_ s.err
def SG.pv(s:SG):List PV:=[.v (.bool s.lv),.sl s.rest.length 5 (s.rest.flatMap SE.pv)]++s.c.pv++[qg s.at_,qh s.err]
structure SG.OK(s:SG):Prop where
 rest:∀x∈s.rest,x.OK
 len:s.rest.length≤1048576
 c:s.c.OK
 az:s.at_.size≤1048576
 kz:s.c.key.size≤1048576
theorem SG.of_ty{n:Nat}{ps:List PV}(h:Ty prog (n+8) 30 ps)(hb:PV.bdL 1048576 ps):∃s:SG,s.OK∧ps=s.pv:=by
 obtain⟨_,rfl,x0,_,rfl,t0,x1,_,rfl,t1,x2,_,rfl,t2,x3,_,rfl,t3,x4,_,rfl,t4,rfl⟩:=zbu (ts:=[4,27,24,9,28]) qq h;obtain⟨a0,rfl⟩:=zhI U4 t0;obtain⟨l,okl,hl,rfl⟩:=SE.list_ty t1 (zbK hb x1 qG);have hb2:=zbK hb x2 qG;have hb3:=zbK hb x3 qG;obtain⟨c,okc,rfl⟩:=CF.of_ty t2 hb2;obtain⟨a3,rfl,_⟩:=zb2 U9 t3;obtain⟨a4,rfl,_⟩:=zbz underlying28 t4;simp only[CF.pv,PV.bdL,PV.bd]at hb2 hb3;exact⟨⟨a0,l,c,a3,a4⟩,⟨okl,hl,okc,hb3.1,hb2.1⟩,by simp[SG.pv]⟩
def seG(l:List SE)(i:Nat):SE:=l.getD i ⟨0,⟨#[]⟩,0,0,0⟩
theorem seG_at{l:List SE}{i:Nat}{p:SE}(h:l[i]?=some p):seG l i=p:=by unfold seG;rw[List.getD_eq_getElem?_getD,h];rfl
def restE(l:List SE):Int:=fnz (fun i=>seE (seG l i)) l.length
def sgE(s:SG):Int:=
 if s.lv=false then(if 0<s.rest.length∨s.at_≠⟨#[]⟩∨s.err≠0∨s.c.key≠⟨#[]⟩∨s.c.port≠0∨0<s.c.ps.length then 14 else 0)
 else if cfE s.c≠0 then cfE s.c else if 60<s.rest.length then 1 else if restE s.rest≠0 then restE s.rest
 else if(s.at_≠⟨#[]⟩∧keyE s.at_≠0)∨s.err<0∨14<s.err then 4 else 0
theorem sgCheck_s(s:SG)(ok:s.OK):Fn prog 40 [.agg s.cells] (qd (sgE s)) []:=by
 obtain⟨lv,rest,c,at_,err⟩:=s;obtain⟨okr,hl,okc,haz,hkz⟩:=ok;dsimp only at okr hl okc haz hkz;obtain⟨E,hE⟩:∃E,sgE ⟨lv,rest,c,at_,err⟩=E:=⟨_,rfl⟩;rw[hE];unfold sgE at hE;dsimp only at hE;have hCf:=zim c okc;have hK:=zbs at_;have hrE:restE rest=fnz (fun i=>seE (seG rest i)) rest.length:=rfl;have hpl:=okc.len;generalize cfE c=ce at*;generalize keyE at_=k1 at*;obtain⟨key,port,ps⟩:=c;dsimp only at hE hpl hkz
 change Fn prog _ [.agg [qc key,qd port,ql ps.length 5 (ps.flatMap PE.pv)]] _ _ at hCf;show Fn prog _ [.agg (sgC lv rest.length (rest.flatMap SE.pv) key port ps.length (ps.flatMap PE.pv) at_ err)] _ _;clear okc;generalize ps.flatMap PE.pv=L at*;generalize ps.length=M at*;refine fnI fun w0 A=>?_
 refine jd2 ?_;refine cX ?_ ?_<;>intro h
 ·have h0:lv=false:=qB;clear h;rw[if_pos h0]at hE;refine G [11,2,4,2,5,2,5,2,4] ?_;refine mb2 _ rfl rfl (fun hb=>(zdd U22)) (fun _=>trivial) ?_;refine G [1,2,1,9,0] ?_;refine cX ?_ ?_<;>intro h
  ·have h1:0<rest.length∨at_≠⟨#[]⟩∨err≠0∨key≠⟨#[]⟩∨port≠0∨0<M:=by
    simp at h;simp only[or_assoc]at h;exact h
   exact jc0
  ·have h1:¬(0<rest.length∨at_≠⟨#[]⟩∨err≠0∨key≠⟨#[]⟩∨port≠0∨0<M):=by
    simp at h;simp only[not_or];simp only[and_assoc]at h;obtain⟨q1,q2,q3,q4,q5,q6⟩:=h;refine⟨by simp[q1],by simpa using q2,by simpa using q3,by simpa using q4,by simpa using q5,qp⟩
   rw[if_neg h1]at hE;subst hE;exact jaB
 have h0:¬lv=false:=qB;clear h;rw[if_neg h0]at hE;refine G [6] ?_;refine cK hCf ?_;refine jds ?_;refine cX ?_ ?_<;>intro h
 ·have h1:ce≠0:=qB;exact jbR
 have h1:ce=0:=qB;clear h;rw[if_neg (by simp[h1])]at hE;refine G [9,9,0] ?_;refine cX ?_ ?_<;>intro h
 ·have h2:60<rest.length:=qw;rw[if_pos h2]at hE;subst hE;exact jbo
 have h2:¬60<rest.length:=qw;clear h;rw[if_neg h2]at hE;refine G [10] ?_;refine zag (fun m st=>∃i:Nat,m+i=rest.length∧(∀j,j<i→seE (seG rest j)=0)∧st=St.of [(1,.ref 1 0),(54,ql rest.length 5 (rest.flatMap SE.pv)),(55,qd rest.length),(56,qd i)] [(1,.box 30 (sgC lv rest.length (rest.flatMap SE.pv) key port M L at_ err))]) rest.length ?_ ?_
 ·exact jaA
 rintro m st ⟨i,hi,hf,rfl⟩;refine G [5] ?_;refine cX ?_ ?_<;>intro h
 ·have hlt:i<rest.length:=qw;clear h;obtain⟨x,hx⟩:=qo hlt;have hch:=zav (f:=SE.pv) (k:=5) (fun _=>rfl) hx;have hle:=zaw (f:=SE.pv) (k:=5) (fun _=>rfl) hlt;have hC:=check_s x (okr x (qbo hx));exact jaG
 have hge:i=rest.length:=qw;clear h;subst hge;rw[hrE,zdc hf,if_neg (by simp)]at hE;clear hf hrE;refine G [10] ?_;refine mb2 _ rfl rfl (fun _=>zbl func91 rfl rfl (hK) qD rfl) (fun _=>trivial) ?_;exact jaU
end Go.Proofs.YtdiljgkijgiboaaGreatDoor
namespace Go.Proofs.YtdiljgkijgiboaaGreatDoor
open Go.RowKit Go.Sort
end Go.Proofs.YtdiljgkijgiboaaGreatDoor
namespace Go.Proofs.YtdiljgkijgiboaaGreatDoor
open Tryz
open Go.RowKit Go.Sort
theorem sclone_s(l:List SE)(hn:l.length≤1048576):Fn prog 103 [ql l.length 5 (l.flatMap SE.pv)] (.row 0) [(0,.row 153 5 l.length (l.flatMap SE.pv))]:=by
 have hL:(l.flatMap SE.pv).length=l.length*5:=zaO (f:=SE.pv) (k:=5) (fun _=>rfl) l
 by_cases h0:l.length=0
 ·obtain rfl:l=[]:=qbz h0;show Fn prog _ [ql 0 5 []] (.row 0) [(0,.row 153 5 0 [])];refine fnI fun w0 A=>?_
  refine G [8] ?_;refine jfZ (a_seqX U27) ?_;refine jfg ?_;refine ze5 rfl ?_ ?_
  ·refine jdY ?_;refine za3 (zca 2 100 153 5 rfl rfl) ?_;refine zaq (zaZ ?_);exact jbu
  ·refine G [3] ?_;refine jf0 (zbe 5 U27 sz153) ?_;refine jdn ?_;refine zab (zam 7 U27 eo153 (zbc) qy qp rfl rfl) rfl rfl ⟨rfl,rfl,trivial⟩ ?_;exact jbw
 ·generalize l.flatMap SE.pv=L at*;generalize l.length=n at*;refine fnI fun w0 A=>?_
  refine G [8] ?_;refine zaa (a_seqS U27 qp) rfl rfl ?_;refine jfg ?_;refine cX ?_ ?_<;>intro h
  ·cases h
  ·refine G [3] ?_;refine jf0 (zbe 5 U27 sz153) ?_;refine jdn ?_;refine zab (zam 7 U27 eo153 (zbc) qy qp (show _=n by omega) rfl) rfl rfl ⟨rfl,rfl,trivial⟩ ?_;refine jd4 ?_;refine yT (fun _=>7) ?_ ?_
   ·exact rfl
   ·exact jbn
theorem sgCopy_s(s:SG)(ok:s.OK):Fn prog 59 [.agg s.cells] (.agg [qf s.lv,.row 0,qc s.c.key,qd s.c.port,.row 1,qc s.at_,qd s.err]) [(0,.row 153 5 s.rest.length (s.rest.flatMap SE.pv)),(1,.row 98 5 s.c.ps.length (s.c.ps.flatMap PE.pv))]:=by
 obtain⟨lv,rest,c,at_,err⟩:=s;obtain⟨okr,hl,okc,haz,hkz⟩:=ok;dsimp only at hl okc;have hC:=zj6 c okc;have hS:=sclone_s rest hl;obtain⟨key,port,ps⟩:=c;dsimp only at hC;change Fn prog _ [.agg [qc key,qd port,ql ps.length 5 (ps.flatMap PE.pv)]] _ _ at hC;show Fn prog _ [.agg (sgC lv rest.length (rest.flatMap SE.pv) key port ps.length (ps.flatMap PE.pv) at_ err)] (.agg [qf lv,.row 0,qc key,qd port,.row 1,qc at_,qd err]) [(0,.row 153 5 rest.length (rest.flatMap SE.pv)),(1,.row 98 5 ps.length (ps.flatMap PE.pv))]
 clear okc okr haz hkz hl;generalize ps.flatMap PE.pv=L at*;generalize ps.length=M at*;generalize rest.flatMap SE.pv=R at*;generalize rest.length=N at*;refine fnI fun w0 A=>?_
 refine G [9] ?_;refine zbN (fun _=>105) (hS) rfl rfl func103 rfl rfl qD rfl rfl rfl qr rfl rfl rfl ?_;refine G [2] ?_;refine zbN (fun _=>108) (hC) rfl rfl func56 rfl rfl qD rfl rfl rfl qr rfl rfl rfl ?_;refine G [11,9,0] ?_;refine yT (fun o=>bif Nat.beq o 0 then 105 else 108) ?_ ?_
 ·exact rfl
 ·exact jaJ
end Go.Proofs.YtdiljgkijgiboaaGreatDoor
