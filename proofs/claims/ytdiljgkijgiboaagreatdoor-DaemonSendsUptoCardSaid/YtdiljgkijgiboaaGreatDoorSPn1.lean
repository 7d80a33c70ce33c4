/- Used. -/
import Derived.Test.YtdiljgkijgiboaaGreatDoorSSl1
set_option linter.all false
set_option maxRecDepth 100000
set_option maxHeartbeats 16000000
namespace Go.Proofs.YtdiljgkijgiboaaGreatDoor
open Go.RowKit Go.Sort
def zc1(s:ByteArray)(c:Int)(n:Nat):Int:=if 220<n then 1 else strE s c n
def sealO(s:ByteArray)(c:Int)(b:List Int):List Int:=mixD b (strD s c b.length)
def sealT(s:ByteArray)(c:Int)(o:List Int):List Int:=macD s (SEAL++be8 c.toNat++o)
def zdg(s:ByteArray)(c:Int)(b:List Int):List Int:=sealO s c b++(sealT s c (sealO s c b)).take 16
theorem bs_hd(xs:List Int)(k:Nat):bs (xs.take k)=((bs xs).drop 0).take (k*1):=by simp[bs,qc9]
theorem zjn(s:ByteArray)(c n:Int)(h:0≤n):(strD s c n).length=n.toNat:=by
 unfold strD;rw[List.length_take,zel];unfold nbl;omega
theorem mixD_comm(a b:List Int):mixD a b=mixD b a:=by
 unfold mixD;rw[List.zipWith_comm]
 congr 1;funext x y;exact xb_comm _ _
theorem strm_B(s:ByteArray)(c j:Nat):isB (strm s c j):=by
 intro x hx;simp only[strm,qcA]at hx;obtain⟨k,_,hx⟩:=hx;exact zg7 _ _ x hx
theorem strD_B(s:ByteArray)(c n:Int):isB (strD s c n):=fun x hx=>strm_B _ _ _ x (qbI hx)
theorem strE_good{s:ByteArray}{c n:Int}(h:strE s c n=0):keyE s=0∧0≤c∧c≤1099511627776∧0≤n∧n≤232:=by
 unfold strE at h
 split at h
 ·rename_i hk
  split at h
  ·omega
  ·rename_i h2;exact⟨hk,qp⟩
 ·rename_i hk;exact absurd h hk
theorem sealO_len(s:ByteArray)(c:Int)(b:List Int):(sealO s c b).length=b.length:=zdl rfl (zjn s c _ qp)
theorem sealT_len(s:ByteArray)(c:Int)(b:List Int):(sealT s c b).length=32:=zcj _ _
theorem seal_s(s:ByteArray)(c:Int)(n:Nat)(b:List Int)(hb:b.length=n)(hB:isB b):Fn Tryz.prog 105 [qc s,qd c,ql n 1 (bs b)] (bRes (zc1 s c n)) (bNew (zc1 s c n) (n+16) (zdg s c b)):=by
 refine fnI fun w0 A=>?_
 refine jd2 ?_;refine cX ?_ ?_<;>intro h
 ·exact jco
 have h2:n≤220:=qw;clear h;have hE:zc1 s c n=strE s c n:=by unfold zc1;rw[if_neg (by omega)]
 have hS:=stream_s s c n;have hSl:=zjn s c n qp
 by_cases hz:strE s c n≠0
 ·exact jbe
 have hz:strE s c n=0:=qbi;obtain⟨e1,e2⟩:=zaM (show zc1 s c n=0 by rw[hE,hz]) (n+16) (zdg s c b);rw[e1,e2];obtain⟨e1,e2⟩:=zaM hz (n:Int).toNat (strD s c n);rw[e1,e2,qbt]at hS;clear e1 e2;obtain⟨hk,hc0,hc1,hn0,hn1⟩:=strE_good hz;obtain⟨cn,rfl⟩:=qbp hc0;rw[qbt]at hSl;have hM:=mixed_s n b (strD s cn n) hb hSl qp;have hG:=signed_s cn n (mixD b (strD s cn n)) (zdl hb hSl) qp;have hT:=tag_s s (12+n) (SEAL++be8 cn++mixD b (strD s cn n)) qaD (za4 (za4 SEAL_B (ziF _)) (mixD_B _ _))
 obtain⟨e1,e2⟩:=zaM (show macE s (12+n)=0 by unfold macE;rw[if_pos hk,if_neg (by omega)]) 32 (macD s (SEAL++be8 cn++mixD b (strD s cn n)));rw[e1,e2]at hT;clear e1 e2;have hMl:=zdl hb hSl;have hTl:=zcj s (SEAL++be8 cn++mixD b (strD s cn n));unfold zdg sealT sealO;rw[hb,qbt];generalize strD s cn n=SD at*;generalize mixD b SD=MD at*;generalize SEAL++be8 cn++MD=GD at*;generalize macD s GD=TD at*;have hMl2:(bs MD).length=n:=by rw[bs_length];exact hMl
 have hTl2:(bs TD).length=32:=by rw[bs_length];exact hTl
 refine G [7] ?_;refine cV hS ?_;refine jd2 ?_;refine cX ?_ ?_<;>intro h
 ·simp at h
 clear h;refine G [5] ?_;refine cV hM ?_;refine G [7] ?_;refine cV hG ?_;refine cV hT ?_;refine G [9] ?_;refine zab (zaP 39 U34 eo5 (zas) qy qp) rfl rfl ⟨rfl,rfl,trivial⟩ ?_;refine jdz ?_;refine zab (zcY (L:=none) (H:=(some (_,_))) U34 sz5 rfl ⟨qp,rfl⟩ qp qp rfl rfl) rfl rfl ⟨rfl,trivial⟩ ?_;refine zab (zam 42 U34 eo5 (zdU qp rfl) qy qp (show _=n+16 by omega) rfl) rfl rfl ⟨rfl,rfl,rfl,trivial⟩ ?_;refine G [4] ?_
 rw[←za5,bs_hd];refine yT (fun _=>42) ?_ ?_
 ·exact rfl
 ·exact jbn
theorem refSeal_s(s:ByteArray)(c:Int)(n:Nat)(b:List Int)(hb:b.length=n)(hB:isB b):Fn Tryz.prog 120 [qc s,qd c,ql n 1 (bs b)] (bRes (zc1 s c n)) (bNew (zc1 s c n) (n+16) (zdg s c b)):=by
 refine fnI fun w0 A=>?_
 refine jd2 ?_;refine cX ?_ ?_<;>intro h
 ·exact jco
 have h2:n≤220:=qw;clear h;have hE:zc1 s c n=strE s c n:=by unfold zc1;rw[if_neg (by omega)]
 have hS:=refStream_s s c n;have hSl:=zjn s c n qp;have hSB:=strD_B s c n
 by_cases hz:strE s c n≠0
 ·exact jbe
 have hz:strE s c n=0:=qbi;obtain⟨e1,e2⟩:=zaM (show zc1 s c n=0 by rw[hE,hz]) (n+16) (zdg s c b);rw[e1,e2];obtain⟨e1,e2⟩:=zaM hz (n:Int).toNat (strD s c n);rw[e1,e2,qbt]at hS;clear e1 e2;obtain⟨hk,hc0,hc1,hn0,hn1⟩:=strE_good hz;obtain⟨cn,rfl⟩:=qbp hc0;rw[qbt]at hSl;have hT:=zga s (12+n) (SEAL++be8 cn++mixD b (strD s cn n)) qaD (za4 (za4 SEAL_B (ziF _)) (mixD_B _ _));obtain⟨e1,e2⟩:=zaM (show macE s (12+n)=0 by unfold macE;rw[if_pos hk,if_neg (by omega)]) 32 (macD s (SEAL++be8 cn++mixD b (strD s cn n)))
 rw[e1,e2]at hT;clear e1 e2;have hMl:=zdl hb hSl;have hMB:=mixD_B b (strD s cn n);have hTl:=zcj s (SEAL++be8 cn++mixD b (strD s cn n));unfold zdg sealT sealO;rw[hb,qbt];generalize strD s cn n=SD at*;have hfull:=mixK_full hSl hb hSl;rw[mixD_comm]at hfull;generalize mixD b SD=MD at*;obtain⟨u1,hu1⟩:∃u,(⟨#[115,101,97,108]⟩:ByteArray)++strOfNums (be8 cn)=u:=⟨_,rfl⟩;obtain⟨u2,hu2⟩:∃u,u1++strOfNums MD=u:=⟨_,rfl⟩
 have s1:u1.size=12:=by rw[←hu1,zbM,zau,zcp];rfl
 have s2:u2.size=12+n:=by rw[←hu2,zbM,s1,zau,hMl]
 have s3:sb u2=SEAL++be8 cn++MD:=by
  rw[←hu2,←hu1,zd4,zd4,zbW (ziF _),zbW hMB];rfl
 have s4:u2.size≤maxLen:=by rw[s2];simp only[maxLen];omega
 generalize SEAL++be8 cn++MD=GD at*;generalize macD s GD=TD at*;have hMl2:(bs MD).length=n:=by rw[bs_length];exact hMl
 have hTl2:(bs TD).length=32:=by rw[bs_length];exact hTl
 refine G [7] ?_;refine cV hS ?_;refine jd2 ?_;refine cX ?_ ?_<;>intro h
 ·simp at h
 clear h;refine G [9] ?_;have hz0:mixK SD b SD 0=SD:=by simp[mixK]
 refine zag (fun m st=>∃k:Nat,m+k=n∧st=St.of [(0,qc s),(1,qd cn),(8,.row 8),(28,ql n 1 (bs b)),(29,qd n),(30,qd k)] [(8,.row 5 1 n (bs (mixK SD b SD k)))]) n ?_ ?_
 ·refine⟨_,zai (fun _=>22) _ _ ?_ ?_ rfl,0,qp,rfl⟩
  ·exact jap
  ·rw[hz0];exact jbn
 rintro m st ⟨k,hk2,rfl⟩;refine G [5] ?_;refine cX ?_ ?_<;>intro h
 ·have hlt:k<n:=qw;clear h;obtain⟨x,hx⟩:∃x,SD[k]?=some x:=⟨SD[k]'qp,List.getElem?_eq_getElem qp⟩;obtain⟨y,hy⟩:∃y,b[k]?=some y:=⟨b[k]'qp,List.getElem?_eq_getElem qp⟩;obtain⟨g1,g2⟩:=mixK_step hSl hb hSl hlt hx hy;have g3:=zfV hy;have g4:=zfV (g1.trans hx);have g5:(bs (mixK SD b SD k)).length=n:=by rw[bs_length];exact mixK_len hSl hb hSl qp
  have g6:setR (bs (mixK SD b SD k)) k [.v (.int .u8 (xb x y))]=bs (mixK SD b SD (k+1)):=qaB;refine G [6] ?_;refine jef ?_;refine zaa (zaz U5 rfl (by rw[qbF];exact g3)) rfl rfl ?_;refine G [6] ?_;refine zab (zao U34 sz5 qp qp (show _=k by omega)) rfl rfl ⟨rfl,trivial⟩ ?_;refine jf0 (zaQ U5 rfl g4) ?_;refine jdn ?_;refine zaa (zaV qG (show _=xb x y from rfl)) rfl rfl ?_;refine zab (zao U34 sz5 qp qp (show _=k by omega)) rfl rfl ⟨rfl,trivial⟩ ?_
  refine jfY ?_;refine⟨m-1,qp,_,zai id _ _ ?_ ?_ rfl,k+1,qp,rfl⟩
  ·exact jap
  ·exact jbn
 have hge:k=n:=qw;clear h;subst hge;rw[hfull];refine G [2] ?_;refine za9 6 qq ?_;refine G [2] ?_;refine cV (big_s cn qp) ?_;refine jdK ?_;refine zaa (zb8 (by rw[zau,zcp];decide) hu1) rfl rfl ?_;refine jdz ?_;refine jdK ?_;refine zaa (zb8 (by rw[zau,hMl];omega) hu2) rfl rfl ?_;refine zab (zfr 52 U9 U34 U5 qP s2 s3) rfl rfl ⟨rfl,trivial⟩ ?_;refine cV hT ?_;refine G [10] ?_;refine zab (zcY (L:=none) (H:=(some (_,_))) U34 sz5 rfl ⟨qp,rfl⟩ qp qp rfl rfl) rfl rfl ⟨rfl,trivial⟩ ?_
 refine zab (zam 59 U34 eo5 (zdU qp rfl) qy qp (show _=k+16 by omega) rfl) rfl rfl ⟨rfl,rfl,rfl,trivial⟩ ?_;refine G [4] ?_;rw[←za5,bs_hd];refine yT (fun _=>59) ?_ ?_
 ·exact rfl
 ·exact jbn
end Go.Proofs.YtdiljgkijgiboaaGreatDoor
namespace Go.Proofs.YtdiljgkijgiboaaGreatDoor
open Tryz
open Go.RowKit Go.Sort
def ziG:AObj:=.box 198 [.p (.v (.pointer none)),qm]
def bdAt(o r:Nat):AObj:=.box 198 [.ref o 0,.row r]
theorem check_new(B:AV):FnO prog 183 [.ref 1 0] [(1,qj 198 [.p (.v (.pointer none)),B])] [(1,qj 198 [.ref 1 0,B])] (.tup []):=by
 refine fnIO fun w0 A heap=>?_
 refine G [6] ?_;refine jfZ (zkh underlying196) ?_;refine jfg ?_;refine cX ?_ ?_<;>intro h
 ·skip
  refine G [3] ?_;refine jf0 (a_toUnsafe underlying196 underlying250 sz198) ?_;refine zaa (a_noEscape func206 qq rfl rfl rfl) rfl rfl ?_;refine zab (a_fromUnsafe underlying250 underlying196 sz198 qq) rfl rfl ⟨rfl,trivial⟩ ?_;refine G [2] ?_;refine zab (zbt (Y:=.ref _ _) sz196 rfl qI qu qM) rfl rfl ⟨rfl,trivial⟩ ?_;refine zac ?_
  skip
  exact jaI
 ·cases h
theorem check_used(B:AV):FnO prog 183 [.ref 1 0] [(1,qj 198 [.ref 1 0,B])] [(1,qj 198 [.ref 1 0,B])] (.tup []):=by
 refine fnIO fun w0 A heap=>?_
 refine G [6] ?_;refine jfZ (a_peqRN underlying196) ?_;refine jfg ?_;refine cX ?_ ?_<;>intro h
 ·cases h
 ·refine G [7] ?_;refine jfZ (a_pneRR underlying196 sz198) ?_;refine jfg ?_;refine cX ?_ ?_<;>intro h
  ·cases h
  ·refine zal ?_;exact jaI
theorem writeByte_new(c:Int):FnO prog 146 [.ref 1 0,.p (.v (.int .u8 c))] [(1,.live ziG),(13,.un),(14,.un)]
 [(1,.live (bdAt 1 14)),(13,.dead),(14,qk 5 1 1 (bs [c]))] (.p (.v .nilIface)):=by
 refine fnIO fun w0 A heap=>?_
 have hck:=check_new (qm);unfold ziG bdAt;refine G [7] ?_;refine zbp (hck) rfl rfl func183 rfl rfl qL rfl ?_;refine G [9] ?_;refine jeb ?_;refine zab (zaP 14 U34 eo5 (zas) qy qp) rfl rfl ⟨rfl,rfl,trivial⟩ ?_;refine G [8] ?_;refine za1 (zb6 13) ?_;refine zaq ?_;exact jaT
theorem zdT(n:Nat)(xs:List Int)(c:Int)(hn:n≤10000000):FnO prog 146 [.ref 1 0,.p (.v (.int .u8 c))] [(1,.live (bdAt 1 2)),(2,qk 5 1 n (bs xs)),(13,.un),(14,.un)]
 [(1,.live (bdAt 1 14)),(2,.dead),(13,.dead),(14,qk 5 1 (n+1) (bs (xs++[c])))] (.p (.v .nilIface)):=by
 refine fnIO fun w0 A heap=>?_
 have hck:=check_used (.row 2);unfold bdAt;refine G [7] ?_;refine zbp (hck) rfl rfl func183 rfl rfl qL rfl ?_;refine G [9] ?_;refine jeb ?_;refine zab (zam 14 U34 eo5 (zas) qy qp (show _=n+1 by omega) rfl) rfl rfl ⟨rfl,rfl,rfl,trivial⟩ ?_;refine G [8] ?_;refine za1 (zb6 13) ?_;rw[←zce];refine zaq (jeI ?_ ?_ ?_)
 ·exact rfl
 ·exact jbA
 ·exact jax
theorem string_new:FnO prog 147 [.ref 1 0] [(1,.live ziG)] [(1,.live ziG)] (qc ⟨#[]⟩):=by
 refine fnIO fun w0 A heap=>?_
 unfold ziG;refine G [5] ?_;refine za9 6 qq ?_;refine G [4] ?_;refine jfZ a_sdNil ?_;refine G [4] ?_;refine jfZ (zgx U34) ?_;refine jfZ a_usNil ?_;refine G [3] ?_;exact jaT
theorem string_used(n:Nat)(xs:List Int)(hn:0<n)(hB:isB xs):FnO prog 147 [.ref 1 0] [(1,.live (bdAt 1 2)),(2,qk 5 1 n (bs xs))] [(1,.live (bdAt 1 2)),(2,.dead)] (qc (strOfNums xs)):=by
 refine fnIO fun w0 A heap=>?_
 unfold bdAt;refine G [5] ?_;refine za9 6 qq ?_;refine G [4] ?_;refine zab (a_sdRow qp) rfl rfl ⟨rfl,trivial⟩ ?_;refine G [5] ?_;refine zab (a_usRow underlying235 qq qp qah) rfl rfl ⟨rfl,trivial⟩ ?_;refine G [3] ?_;exact jaT
def dg(d:Int):Int:=if 9<d then 87+d else 48+d
theorem dg_B{d:Int}(h0:0≤d)(h1:d<16):0≤dg d∧dg d<256:=by unfold dg;split<;>omega
theorem dg_fin:∀d:_root_.Fin 16,(DIG.data.toList[d.val]?).map (fun b:UInt8=>((b.toNat:Nat):Int))=some (dg d.val):=qS
theorem dg_at{d:Int}(h0:0≤d)(h1:d<16):(DIG.data.toList[d.toNat]?).map (fun b:UInt8=>((b.toNat:Nat):Int))=some (dg d):=by
 have h:=dg_fin ⟨d.toNat,qp⟩;simp only at h;rw[h,Int.toNat_of_nonneg h0]
def hexT(xs:List Int):List Int:=xs.flatMap fun x=>[dg (x/16),dg (x%16)]
def hexS(xs:List Int):ByteArray:=strOfNums (hexT xs)
theorem hexT_next{xs:List Int}{k:Nat}{x:Int}(h:xs[k]?=some x):hexT (xs.take (k+1))=hexT (xs.take k)++[dg (x/16)]++[dg (x%16)]:=by
 obtain⟨hk,e⟩:=qbl.1 h;rw[qbs hk,hexT,qbV,e];simp[hexT]
theorem hexT_len(xs:List Int):(hexT xs).length=2*xs.length:=by
 induction xs with
 |nil=>rfl
 |cons x xs ih=>simp only[hexT,qb7,qbm,qbE,qcQ]at ih⊢;omega
theorem hexT_B{xs:List Int}(h:isB xs):isB (hexT xs):=by
 intro y hy;simp only[hexT,qcA]at hy;obtain⟨x,hx,hy⟩:=hy;have:=h x hx;simp only[qbA,qcB,or_false]at hy;rcases hy with rfl|rfl
 ·exact dg_B qp qp
 ·exact dg_B qp qp
def bdK(xs:List Int):Nat→List (Nat×AObj)
 |0=>[(3,ziG)]
 |k+1=>[(3,bdAt 3 4),(4,.row 5 1 (2*(k+1)) (bs (hexT (xs.take (k+1)))))]
theorem bdK_zero(xs:List Int):bdK xs 0=[(3,ziG)]:=rfl
theorem zhA(xs:List Int)(k:Nat):bdK xs (k+1)=[(3,bdAt 3 4),(4,.row 5 1 (2*(k+1)) (bs (hexT (xs.take (k+1)))))]:=rfl
theorem zjU(n:Nat)(xs:List Int)(hx:xs.length=n)(hB:isB xs)(hn:n≤1048576):Fn prog 108 [ql n 1 (bs xs)] (qc (hexS xs)) []:=by
 refine fnI fun w0 A=>?_
 refine G [16] ?_;refine zag (fun m st=>∃k:Nat,m+k=n∧st=St.of [(3,.ref 3 0),(6,ql n 1 (bs xs)),(7,qd n),(8,qd k)] (bdK xs k)) n ?_ ?_
 ·refine jdL ?_ ?_
  ·exact jap
  ·exact jbn
 rintro m st ⟨k,hk,rfl⟩
 by_cases hlt:k<n
 ·obtain⟨x,hxk⟩:∃x,xs[k]?=some x:=⟨xs[k]'qp,List.getElem?_eq_getElem qp⟩;have hxB:=hB x (qbo hxk);have g1:=zfV hxk;have d1:(DIG.data.toList[(x/16).toNat]?).map (fun b:UInt8=>((b.toNat:Nat):Int))=some (dg (x/16)):=dg_at qp qp;have d2:(DIG.data.toList[(x%16).toNat]?).map (fun b:UInt8=>((b.toNat:Nat):Int))=some (dg (x%16)):=dg_at qp qp;have hnext:=hexT_next hxk;generalize dg (x/16)=y1 at d1 hnext;generalize dg (x%16)=y2 at d2 hnext
  cases k with
  |zero=>
   rw[bdK_zero];rw[qcb,show hexT []=[]from rfl,qb0]at hnext
   have w1:FnO prog 146 [.ref 3 0,.p (.v (.int .u8 y1))] [(3,.live ziG),(15013,.un),(15014,.un)] [(3,.live (bdAt 3 15014)),(15013,.dead),(15014,qk 5 1 1 (bs [y1]))] (.p (.v .nilIface)):=
    (writeByte_new y1).renamed [(1,3),(13,15013),(14,15014)] rfl
   have w2:FnO prog 146 [.ref 3 0,.p (.v (.int .u8 y2))] [(3,.live (bdAt 3 15014)),(15014,qk 5 1 1 (bs [y1])),(19013,.un),(19014,.un)] [(3,.live (bdAt 3 19014)),(15014,.dead),(19013,.dead),(19014,qk 5 1 (1+1) (bs ([y1]++[y2])))] (.p (.v .nilIface)):=
    (zdT 1 [y1] y2 qp).renamed [(1,3),(2,15014),(13,19013),(14,19014)] rfl
   refine G [5] ?_;refine cX ?_ ?_<;>intro h
   ·refine jfj ?_;refine⟨m-1,qp,_,zai (fun o=>bif Nat.beq o 4 then 19014 else o) _ _ ?_ ?_ rfl,0+1,qp,rfl⟩
    ·exact jap
    ·rw[zhA,hnext];exact jaJ
   ·simp at h;omega
  |succ k=>
   rw[zhA]
   have w1:FnO prog 146 [.ref 3 0,.p (.v (.int .u8 y1))] [(3,.live (bdAt 3 4)),(4,qk 5 1 (2*(k+1)) (bs (hexT (xs.take (k+1))))),(15013,.un),(15014,.un)] [(3,.live (bdAt 3 15014)),(4,.dead),(15013,.dead),(15014,qk 5 1 (2*(k+1)+1) (bs (hexT (xs.take (k+1))++[y1])))] (.p (.v .nilIface)):=
    (zdT (2*(k+1)) _ y1 qp).renamed [(1,3),(2,4),(13,15013),(14,15014)] rfl
   have w2:FnO prog 146 [.ref 3 0,.p (.v (.int .u8 y2))] [(3,.live (bdAt 3 15014)),(15014,qk 5 1 (2*(k+1)+1) (bs (hexT (xs.take (k+1))++[y1]))),(19013,.un),(19014,.un)] [(3,.live (bdAt 3 19014)),(15014,.dead),(19013,.dead),(19014,qk 5 1 (2*(k+1)+1+1) (bs (hexT (xs.take (k+1))++[y1]++[y2])))] (.p (.v .nilIface)):=
    (zdT (2*(k+1)+1) _ y2 qp).renamed [(1,3),(2,15014),(13,19013),(14,19014)] rfl
   generalize hexT (xs.take (k+1))=T at w1 w2 hnext⊢;refine G [5] ?_;refine cX ?_ ?_<;>intro h
   ·refine jfj ?_;refine⟨m-1,qp,_,zai (fun o=>bif Nat.beq o 4 then 19014 else o) _ _ ?_ ?_ rfl,k+1+1,qp,rfl⟩
    ·exact jap
    ·rw[zhA,hnext];exact jaJ
   ·simp at h;omega
 have hge:k=n:=qp;have hT:=hexT_B hB;unfold hexS;subst hge;cases k with
 |zero=>
  rw[bdK_zero];obtain rfl:xs=[]:=qbz hx;have w3:FnO prog 147 [.ref 3 0] [(3,.live ziG)] [(3,.live ziG)] (qc ⟨#[]⟩):=string_new.renamed [(1,3)] rfl;exact jb1
 |succ k=>
  rw[zhA];rw[←hx,qbL,hx];have w3:FnO prog 147 [.ref 3 0] [(3,.live (bdAt 3 4)),(4,qk 5 1 (2*(k+1)) (bs (hexT xs)))] [(3,.live (bdAt 3 4)),(4,.dead)] (qc (strOfNums (hexT xs))):=(string_used (2*(k+1)) _ qp hT).renamed [(1,3),(2,4)] rfl;exact jb1
def zef{α:Type}(T z:List α)(i:Nat):List α:=T.take i++z.drop i
theorem fillK_len{α:Type}{T z:List α}{N i:Nat}(hT:T.length=N)(hz:z.length=N)(hi:i≤N):(zef T z i).length=N:=by
 simp only[zef,qbm,List.length_take,qbH];omega
theorem fillK_step{α:Type}{T z:List α}{N i:Nat}{t:α}(hT:T.length=N)(hz:z.length=N)(h:T[i]?=some t):(zef T z i).set i t=zef T z (i+1):=by
 obtain⟨hi,e⟩:=qbl.1 h;have h2:(T.take i).length=i:=qad;rw[zef,zef,qb2 _ _ (by omega),h2,qcS,qbQ (by omega),qcn,qbs hi,e,qby];rfl
theorem fillK_full{α:Type}{T z:List α}{N:Nat}(hT:T.length=N)(hz:z.length=N):zef T z N=T:=by
 rw[zef,qbC (by omega),qcM (by omega),List.append_nil]
theorem hexT_at{xs:List Int}{i:Nat}{x:Int}(h:xs[i/2]?=some x):(hexT xs)[i]?=some (if i%2=1 then dg (x%16)else dg (x/16)):=by
 induction xs generalizing i with
 |nil=>simp at h
 |cons y ys ih=>
  rw[hexT,qb7]
  match i with
  |0=>simp at h;subst h;rfl
  |1=>simp at h;subst h;rfl
  |j+2=>
   have h2:ys[j/2]?=some x:=by rw[show(j+2)/2=j/2+1 by omega]at h;simpa using h
   have:=ih h2;rw[show(j+2)%2=j%2 by omega];simpa[hexT]using this
theorem u8_and15(x:Int)(h0:0≤x)(h1:x<256):bits .and .u8 x 15=x%16:=by
 have key:∀n:_root_.Fin 256,bits .and .u8 (n.val:Int) 15=((n.val:Nat):Int)%16:=qaS;have:=key ⟨x.toNat,qp⟩;simp only[Int.toNat_of_nonneg h0]at this;exact this
theorem zfH(n:Nat)(xs:List Int)(hx:xs.length=n)(hB:isB xs)(hn:n≤1048576):Fn prog 81 [ql n 1 (bs xs)] (qc (hexS xs)) []:=by
 refine zb0 func81 rfl (qbk rfl) fun w0 A=>?_
 refine jfv ?_;refine jfI ?_;refine jfZ (zdd U34) ?_;refine zaa (a_mul qN) rfl rfl ?_;refine zab (zfW 9 U34 eo5 zr5 rfl qp qp qp qy (show _=2*n by omega)) rfl rfl ⟨rfl,trivial⟩ ?_;refine jfA ?_;refine zad (zad (tx (jdz ?_)));refine jf0 (a_lenR U34) ?_;refine jdn ?_;refine zac (zaj ?_);have hTl:=hexT_len xs;rw[hx]at hTl;obtain⟨z,hz,hz0⟩:∃z:List Int,z.length=2*n∧bs (zef (hexT xs) z 0)=List.replicate (2*n) (PV.v (.int .u8 0)):=⟨List.replicate (2*n) 0,qG,by simp[zef,bs]⟩
 refine zag (fun m st=>∃i:Nat,m+i=2*n∧st=St.of [(0,ql n 1 (bs xs)),(3,.row 3),(11,qd (2*n:Nat)),(12,qd i)] [(3,.row 5 1 (2*n) (bs (zef (hexT xs) z i)))]) (2*n) ?_ ?_
 ·refine⟨_,zai (fun _=>9) _ _ ?_ ?_ rfl,0,qp,rfl⟩
  ·exact jap
  ·rw[hz0];exact jbn
 rintro m st ⟨i,hi,rfl⟩;refine jfn ?_;refine zaI _ rfl (fun h=>?_) (fun h=>?_)
 ·have hlt:i<2*n:=qw;clear h;obtain⟨x,hxk⟩:∃x,xs[i/2]?=some x:=⟨xs[i/2]'qp,List.getElem?_eq_getElem qp⟩;have hxB:=hB x (qbo hxk);have g1:=zfV hxk;have hT:=hexT_at hxk;have hlen:(bs (zef (hexT xs) z i)).length=2*n:=by rw[bs_length];exact fillK_len hTl hz qp
  have hlen':i<(zef (hexT xs) z i).length:=by rw[bs_length]at hlen;omega
  have hq:((i:Int)/2)=((i/2:Nat):Int):=qp;obtain⟨v,hv,hv0,hv1⟩:∃v:Int,v=(if i%2=1 then x%16 else x/16)∧0≤v∧v<16:=⟨_,rfl,by split<;>omega,by split<;>omega⟩;have hT2:(hexT xs)[i]?=some (dg v):=by rw[hT,hv];split<;>rfl
  have hstep:=fillK_step hTl hz hT2;generalize hexT xs=T at*;refine jel ?_;refine jfe ?_;refine jfI ?_;refine jdn ?_;refine jdB ?_;refine zaa (zaL U34 sz5 qp qp (by rw[hq,qbt,qbU])) rfl rfl ?_;refine jeW ?_;refine zaa (zbH qp (show _=x/16 from qbG _ qS)) rfl rfl ?_;refine jfx ?_;refine zaa (zaV qG (zfO _ qp)) rfl rfl ?_;refine jfZ a_eql ?_;refine jfg ?_;refine awp_join (St.of [(0,ql n 1 (bs xs)),(3,.row 3),(4,qd i),(5,.p (.v (.int .u8 v))),(11,qd (2*n:Nat)),(12,qd i)] [(3,.row 5 1 (2*n) (bs (zef T z i)))]) ?_ ?_
  ·refine zaI _ rfl (fun h=>?_) (fun h=>?_)
   ·have h1:i%2=1:=qw;rw[if_pos h1]at hv
    skip
    refine jfe ?_;refine jdn ?_;refine jdB ?_;refine zaa (zaL U34 sz5 qp qp (by rw[hq,qbt,qbU])) rfl rfl ?_;refine jeW ?_;refine zaa (zaV qG (u8_and15 x hxB.1 hxB.2)) rfl rfl ?_;refine jfl ?_;refine⟨rfl,zai id _ _ ?_ ⟨⟨rfl,rfl⟩,trivial⟩ rfl⟩;rw[hv];exact jap
   ·have h1:¬i%2=1:=qw;rw[if_neg h1]at hv;refine zal (⟨rfl,zai id _ _ ?_ ⟨⟨rfl,rfl⟩,trivial⟩ rfl⟩);rw[hv];exact jap
  clear hv;have hs1:setR (bs (zef T z i)) i [.v (.int .u8 (48+v))]=bs ((zef T z i).set i (48+v)):=zeK hlen';refine jfv ?_;refine jdz ?_;refine jdn ?_;refine jdn ?_;refine zaa (zbf qaa) rfl rfl ?_;refine zab (zao U34 sz5 qp qp (show _=i by omega)) rfl rfl ⟨rfl,trivial⟩ ?_;refine zab (zbx (Y:=.p _) sz5 rfl rfl qam qH hs1) rfl rfl ⟨rfl,trivial⟩ ?_;refine zac (zad (jfe ?_));refine jfZ a_gtr ?_;refine jfg ?_
  refine awp_joinK (St.of [(0,ql n 1 (bs xs)),(3,.row 3),(11,qd (2*n:Nat)),(12,qd i)] [(3,.row 5 1 (2*n) (bs (zef T z (i+1))))]) ?_ (fun st' r=>za3 r ?_)
  ·refine zaI _ rfl (fun h=>?_) (fun h=>?_)
   ·have h1:9<v:=qB;have hdv:dg v=97+v-10:=by unfold dg;rw[if_pos h1];omega
    rw[hdv]at hstep
    have hs2:setR (bs ((zef T z i).set i (48+v))) i [.v (.int .u8 (97+v-10))]=bs (zef T z (i+1)):=by
     rw[zeK (by rw[qbP];exact hlen'),List.set_set,hstep]
    have hlen2:(bs ((zef T z i).set i (48+v))).length=2*n:=by rw[bs_length,qbP,←bs_length];exact hlen
    skip
    refine tx (jdz ?_);refine jdn ?_;refine jdn ?_;refine zaa (zbf qaa) rfl rfl ?_;refine zaa (ziu qaa) rfl rfl ?_;refine zab (zao U34 sz5 qp qp (show _=i by omega)) rfl rfl ⟨rfl,trivial⟩ ?_;refine zab (zbx (Y:=.p _) sz5 rfl rfl qam qH hs2) rfl rfl ⟨rfl,trivial⟩ ?_;refine zac ?_;exact⟨rfl,zai id _ _ qU ⟨⟨rfl,rfl⟩,trivial⟩ rfl⟩
   ·have h1:¬9<v:=qw;have hdv:dg v=48+v:=by unfold dg;rw[if_neg h1]
    rw[hdv]at hstep;rw[←hstep];refine zal ?_;exact⟨rfl,zai id _ _ qU ⟨⟨rfl,rfl⟩,trivial⟩ rfl⟩
  skip
  refine jfz ?_;refine⟨m-1,qp,_,zai id _ _ ?_ ?_ rfl,i+1,qp,rfl⟩
  ·exact jap
  ·exact jbn
 have hge:i=2*n:=qw;clear h;subst hge;rw[fillK_full hTl hz];unfold hexS;generalize hexT xs=T;refine zar (zad (tx (jdz ?_)));refine jdK ?_;refine jfl ?_;refine zaq (fT (fun o=>o) (.tmp _ _ _ _ rfl .nil) ?_ ?_)
 ·exact rfl
 ·exact trivial
end Go.Proofs.YtdiljgkijgiboaaGreatDoor
namespace Go.Proofs.YtdiljgkijgiboaaGreatDoor
open Go.RowKit Go.Sort
def sRes(e:Int)(t:ByteArray):AV:=.tup [qc (if e=0 then t else⟨#[]⟩),qd e]
theorem zbX{e e':Int}(h:e=e')(he:e'≠0)(t:ByteArray):sRes e t=.tup [qc ⟨#[]⟩,qd e']:=by subst h;unfold sRes;rw[if_neg he]
theorem zd5{e:Int}(h:e=0)(t:ByteArray):sRes e t=.tup [qc t,qd 0]:=by subst h;rfl
def KEY4:List Int:=[107,101,121,32]
theorem KEY4_B:isB KEY4:=by intro x hx;simp[KEY4]at hx;omega
def derE(s l:ByteArray):Int:=macE s (4+l.size)
def derS(s l:ByteArray):ByteArray:=hexS (macD s (KEY4++sb l))
theorem zgl(xs:List Int):(hexS xs).size=2*xs.length:=by rw[hexS,zau,hexT_len]
theorem derive_s(s l:ByteArray)(hl:l.size≤140737488351232):Fn Tryz.prog 184 [qc s,qc l] (sRes (derE s l) (derS s l)) []:=by
 refine fnI fun w0 A=>?_
 obtain⟨u,hu⟩:∃u,(⟨#[107,101,121,32]⟩:ByteArray)++l=u:=⟨_,rfl⟩;have s1:u.size=4+l.size:=by rw[←hu,zbM];rfl
 have s3:u.size≤maxLen:=by rw[s1];simp only[maxLen];omega
 have s2:sb u=KEY4++sb l:=by rw[←hu,zd4];rfl
 have hT:=tag_s s (4+l.size) (KEY4++sb l) (by rw[qbm,zdt];rfl) (za4 KEY4_B (sb_isB l));have hD:=zcj s (KEY4++sb l);have hB:=zg7 s (KEY4++sb l);unfold derE derS;generalize macD s (KEY4++sb l)=D at hT hD hB⊢;generalize KEY4++sb l=Z at hT s2
 by_cases he:macE s (4+l.size)≠0
 ·exact jaZ
 have he:macE s (4+l.size)=0:=qbj;obtain⟨e1,e2⟩:=zaM he 32 D;rw[zd5 he];rw[e1,e2]at hT;have hX:=zjU 32 D hD hB qp;refine jdm ?_;refine G [8] ?_;refine je1 ?_;refine jeZ ?_;refine cV hT ?_;refine G [10,1,1,9,0] ?_;refine cX ?_ ?_<;>intro h
 ·cases h
 refine G [4] ?_;refine cV hX ?_;refine jdY ?_;exact yE
theorem refDerive_s(s l:ByteArray)(hl:l.size≤140737488351232):Fn Tryz.prog 165 [qc s,qc l] (sRes (derE s l) (derS s l)) []:=by
 refine fnI fun w0 A=>?_
 obtain⟨u,hu⟩:∃u,(⟨#[107,101,121,32]⟩:ByteArray)++l=u:=⟨_,rfl⟩;have s1:u.size=4+l.size:=by rw[←hu,zbM];rfl
 have s3:u.size≤maxLen:=by rw[s1];simp only[maxLen];omega
 have s2:sb u=KEY4++sb l:=by rw[←hu,zd4];rfl
 have hT:=zga s (4+l.size) (KEY4++sb l) (by rw[qbm,zdt];rfl) (za4 KEY4_B (sb_isB l));have hD:=zcj s (KEY4++sb l);have hB:=zg7 s (KEY4++sb l);unfold derE derS;generalize macD s (KEY4++sb l)=D at hT hD hB⊢;generalize KEY4++sb l=Z at hT s2
 by_cases he:macE s (4+l.size)≠0
 ·exact jaZ
 have he:macE s (4+l.size)=0:=qbj;obtain⟨e1,e2⟩:=zaM he 32 D;rw[zd5 he];rw[e1,e2]at hT;have hX:=zfH 32 D hD hB qp;refine jdm ?_;refine G [8] ?_;refine je1 ?_;refine jeZ ?_;refine cV hT ?_;refine G [10,1,1,9,0] ?_;refine cX ?_ ?_<;>intro h
 ·cases h
 refine G [4] ?_;refine cV hX ?_;refine jdY ?_;exact yE
end Go.Proofs.YtdiljgkijgiboaaGreatDoor
namespace Go.Proofs.YtdiljgkijgiboaaGreatDoor
open Tryz
open Go.RowKit Go.Sort
def zhl:List Int:=[109,97,114,107]
theorem MARK4_B:isB zhl:=by intro x hx;simp[zhl]at hx;omega
theorem zdB{s:ByteArray}(h:hexE s=0):zcK s=true:=by
 unfold hexE at h
 split at h
 ·omega
 ·split at h
  ·split at h
   ·assumption
   ·omega
  ·omega
def markW(s:ByteArray):List Int:=shaD (zhl++zax s 32)
def zdG(s:ByteArray):List Int:=(markW s).take 8
theorem zh3(s:ByteArray):(markW s).length=32:=zf7 _
theorem zd8(s:ByteArray):(zdG s).length=8:=by rw[zdG,List.length_take,zh3];rfl
theorem zgO(s:ByteArray):isB (zdG s):=fun x hx=>ziL _ x (qbI hx)
def pRes(e:Int)(n:Nat)(xs:List Int):AV:=if e=0 then .tup [ql n 1 (bs xs),qd 0]else .tup [qm,qd e]
theorem zhs{e e':Int}(h:e=e')(he:e'≠0)(n:Nat)(xs:List Int):pRes e n xs=.tup [qm,qd e']:=by subst h;unfold pRes;rw[if_neg he]
theorem zgd{e:Int}(h:e=0)(n:Nat)(xs:List Int):pRes e n xs=.tup [ql n 1 (bs xs),qd 0]:=by subst h;rfl
theorem mark_s(s:ByteArray):Fn prog 150 [qc s] (bRes (keyE s)) (bNew (keyE s) 8 (zdG s)):=by
 refine fnI fun w0 A=>?_
 refine G [9] ?_;refine cV (zbs s) ?_;refine jds ?_;refine cX ?_ ?_<;>intro h
 ·have h2:keyE s≠0:=qB;obtain⟨e1,e2⟩:=za6 (e':=keyE s) rfl h2 8 (zdG s);rw[e1,e2];exact jaW
 have h2:keyE s=0:=qB;obtain⟨e1,e2⟩:=zaM h2 8 (zdG s);rw[e1,e2];obtain⟨hsz,hE⟩:=zct h2;have hH:=zcD s;obtain⟨e1,e2⟩:=zbg hE;rw[e1,e2,hsz]at hH;clear e1 e2;have hkl:(zax s 32).length=32:=zaX s 32;have hkB:=zeb (k:=32) (zdB hE) qp;have hS:=sum_s 36 (zhl++zax s 32) (by rw[qbm,hkl];rfl) (za4 MARK4_B hkB);obtain⟨e1,e2⟩:=zaM (show padE 36=0 from rfl) 32 (shaD (zhl++zax s 32));rw[e1,e2,←za5]at hS;clear e1 e2
 change Fn prog 144 _ _ [(0,.row 5 1 32 (bs (markW s)))]at hS;change Fn prog 128 _ _ [(0,.row 5 1 32 (bs (zax s 32)))]at hH;have hWl:=zh3 s;unfold zdG;generalize markW s=W at hS hWl⊢;generalize zax s 32=K at hH hS hkl;have hWl2:(bs W).length=32:=by rw[bs_length];exact hWl
 refine G [4] ?_;refine cV hH ?_;refine G [8] ?_;refine zab (xs:=((bs zhl).map AV.p)) (zae (es:=((bs zhl).map AV.p)) (cs:=(bs zhl)) 20 U34 sz5 zc5 (qbk rfl) (qbk rfl) rfl qq qq qq (qbk rfl)) qF rfl ⟨rfl,trivial⟩ ?_;refine jfa ?_;refine jdz ?_;refine zab (zam 23 U34 eo5 (zas) qy qp rfl rfl) rfl rfl ⟨rfl,rfl,rfl,trivial⟩ ?_;refine cV hS ?_;refine G [10,1,1,9,0] ?_;refine cX ?_ ?_<;>intro h
 ·cases h
 refine G [4] ?_;refine zab (zcY (L:=none) (H:=(some (_,_))) U34 sz5 rfl ⟨qp,rfl⟩ qp qp rfl rfl) rfl rfl ⟨rfl,trivial⟩ ?_;refine zab (zaP 32 U34 eo5 (zdU qp rfl) qy qp) rfl rfl ⟨rfl,rfl,trivial⟩ ?_;refine G [4] ?_;rw[bs_hd];refine yT (fun _=>32) ?_ ?_
 ·exact rfl
 ·exact jbn
theorem view_psl2{keep:Nat→Bool}{h:Nat→Slot}{o off n size n' size':Nat}{e:TypeId}{cs ys:List PV}{y:PV}(hk:keep o=false)(ho:h o=qk e size' n' cs)(hl:off+n*size≤cs.length)(hy:(cs.drop off).take (n*size)=ys):
 (oneA [.psl o off n size,.p y]).view keep h=.tup [ql n size ys,.p y]:=by
 have:zcI (h o) off n size=ql n size ys:=by rw[ho];simp only[zcI,hl,if_true,hy]
 simp only[oneA,AV.view,AV.viewL,hk,cond_false,this]
theorem refMark_s(s:ByteArray):Fn prog 125 [qc s] (pRes (keyE s) 8 (zdG s)) []:=by
 refine fnI fun w0 A=>?_
 refine G [9] ?_;refine cV (zbh s) ?_;refine jds ?_;refine cX ?_ ?_<;>intro h
 ·have h2:keyE s≠0:=qB;rw[zhs (e':=keyE s) rfl h2];exact jaW
 have h2:keyE s=0:=qB;rw[zgd h2];obtain⟨hsz,hE⟩:=zct h2;have hH:=zcR s;obtain⟨e1,e2⟩:=zbg hE;rw[e1,e2,hsz]at hH;clear e1 e2;have hkl:(zax s 32).length=32:=zaX s 32;have hkB:=zeb (k:=32) (zdB hE) qp;have hS:=zhq 36 (zhl++zax s 32) (by rw[qbm,hkl];rfl) (za4 MARK4_B hkB);obtain⟨e1,e2⟩:=zaM (show padE 36=0 from rfl) 32 (shaD (zhl++zax s 32));rw[e1,e2]at hS;clear e1 e2;change Fn prog 123 _ _ [(0,.row 5 1 32 (bs (markW s)))]at hS
 change Fn prog 122 _ _ [(0,.row 5 1 32 (bs (zax s 32)))]at hH;have hWl:=zh3 s;unfold zdG;generalize markW s=W at hS hWl⊢;generalize zax s 32=K at hH hS hkl hkB;have hWl2:(bs W).length=32:=by rw[bs_length];exact hWl
 obtain⟨u,hu⟩:∃u,(⟨#[109,97,114,107]⟩:ByteArray)++strOfNums K=u:=⟨_,rfl⟩;have s1:u.size=36:=by rw[←hu,zbM,zau,hkl];rfl
 have s2:sb u=zhl++K:=by rw[←hu,zd4,zbW hkB];rfl
 have s3:u.size≤maxLen:=by rw[s1];simp[maxLen]
 generalize zhl++K=Z at hS s2;refine G [4] ?_;refine cV hH ?_;refine G [9] ?_;refine jdK ?_;refine zaa (zb8 (by rw[zau,hkl];decide) hu) rfl rfl ?_;refine zab (zfr 23 U9 U34 U5 qP s1 s2) rfl rfl ⟨rfl,trivial⟩ ?_;refine cV hS ?_;refine G [9] ?_;refine zab (zcY (L:=none) (H:=(some (_,_))) U34 sz5 rfl ⟨qp,rfl⟩ qp qp rfl rfl) rfl rfl ⟨rfl,trivial⟩ ?_;refine G [4] ?_;rw[bs_hd];refine yT (fun o=>o) ?_ ?_
 ·exact view_psl2 rfl rfl qp rfl
 ·exact trivial
def nonE(s:ByteArray)(n:Int):Int:=if n<0∨4294967295<n then 4 else macE s 5
def nonW(s:ByteArray)(n:Int):List Int:=macD s (110::beN 4 n.toNat)
def nonS(s:ByteArray)(n:Int):ByteArray:=hexS ((nonW s n).take 8)
theorem beN4(n:Nat):beN 4 n=[((n/2^24%256:Nat):Int),((n/2^16%256:Nat):Int),((n/2^8%256:Nat):Int),((n/2^0%256:Nat):Int)]:=rfl
theorem nonce_s(s:ByteArray)(n:Int):Fn prog 63 [qc s,qd n] (sRes (nonE s n) (nonS s n)) []:=by
 refine fnI fun w0 A=>?_
 refine jdm ?_;refine G [4] ?_;refine jdm ?_;refine G [4] ?_
 (first|refine zbR rfl ?_|refine mP rfl rfl ?_|refine zaa (zah (r:=.row _)) rfl rfl ?_|refine zaa (zah (r:=.ref _ _)) rfl rfl ?_|refine zaa (zah (r:=.agg _)) rfl rfl ?_|refine zaa (zah (r:=.psl _ _ _ _)) rfl rfl ?_|refine zaa (zah (r:=.ptr _)) rfl rfl ?_|refine zaa (zah (r:=.tup _)) rfl rfl ?_|refine zaa (zah (r:=.fn _ _)) rfl rfl ?_|refine zaa (zah (r:=.mb _ _)) rfl rfl ?_|refine zaa (zah (r:=.mp _)) rfl rfl ?_|refine zaa (zah (r:=.sat _)) rfl rfl ?_|refine zaa (zah (r:=.any)) rfl rfl ?_|refine mb2 _ rfl rfl (fun hb=>(zah (r:=.p _))) (fun _=>trivial) ?_|refine mb2 _ rfl rfl (fun hb=>(zah (r:=.row _))) (fun _=>trivial) ?_|refine mb2 _ rfl rfl (fun hb=>(zah (r:=.ref _ _))) (fun _=>trivial) ?_|refine mb2 _ rfl rfl (fun hb=>(zah (r:=.agg _))) (fun _=>trivial) ?_|refine mb2 _ rfl rfl (fun hb=>(zah (r:=.psl _ _ _ _))) (fun _=>trivial) ?_|refine mb2 _ rfl rfl (fun hb=>(zah (r:=.ptr _))) (fun _=>trivial) ?_|refine mb2 _ rfl rfl (fun hb=>(zah (r:=.tup _))) (fun _=>trivial) ?_|refine mb2 _ rfl rfl (fun hb=>(zah (r:=.fn _ _))) (fun _=>trivial) ?_|refine mb2 _ rfl rfl (fun hb=>(zah (r:=.mb _ _))) (fun _=>trivial) ?_|refine mb2 _ rfl rfl (fun hb=>(zah (r:=.mp _))) (fun _=>trivial) ?_|refine mb2 _ rfl rfl (fun hb=>(zah (r:=.sat _))) (fun _=>trivial) ?_|refine mb2 _ rfl rfl (fun hb=>(zah (r:=.any))) (fun _=>trivial) ?_)
 (first|refine zbR rfl ?_|refine zaa a_gtr rfl rfl ?_|refine mb2 _ rfl rfl (fun hb=>a_gtr) (fun _=>trivial) ?_)
 (first|refine zaa a_pickT rfl rfl ?_|refine zaa a_pickF rfl rfl ?_|refine zaa (zki qae) rfl rfl ?_|refine zaa (a_or qae) rfl rfl ?_|refine zaa (a_pick rfl rfl) rfl rfl ?_)
 refine zac (jdm ?_);refine cX ?_ ?_<;>intro h
 ·have h2:n<0∨4294967295<n:=qB;exact ja0
 have h2:¬(n<0∨4294967295<n):=qw;clear h;have hE:nonE s n=macE s 5:=by unfold nonE;rw[if_neg h2]
 obtain⟨k,rfl⟩:=qbp (show 0≤n by omega)
 have hT:=tag_s s 5 (110::beN 4 k) (by simp[zcf]) (by
  intro x hx;rcases qbA.1 hx with rfl|hx
  ·omega
  ·exact beN_B _ _ x hx)
 have hD:=zcj s (110::beN 4 k);have hB:=zg7 s (110::beN 4 k);unfold nonS nonW;rw[qbt,hE];have hv0:IntKind.u8.wrap (k:Int)=((k/2^0%256:Nat):Int):=by rw[IntKind.wrap_u8];simp
 have hv1:=ze2 k 8;have hv2:=ze2 k 16;have hv3:=ze2 k 24;rw[beN4]at hT hD hB⊢;generalize ((k/2^0%256:Nat):Int)=y0 at*;generalize ((k/2^8%256:Nat):Int)=y1 at*;generalize ((k/2^16%256:Nat):Int)=y2 at*;generalize ((k/2^24%256:Nat):Int)=y3 at*;generalize macD s [110,y3,y2,y1,y0]=D at*;have hcv:∀{d:Option Tmp} {ty:TypeId} {pos:String} {af:Array Edge} {g:Option (Nat×Bool)} {x:Operand} {a c:Int},IntKind.u8.wrap a=c→AOp prog ⟨d,.convert 3 5 x,ty,pos,af,g⟩ [qd a] [] [] (.p (.v (.int .u8 c))):=fun h=>zbn U3 U5 h
 by_cases he:macE s 5≠0
 ·obtain⟨e1,e2⟩:=za6 (e':=macE s 5) rfl he 32 D;rw[zbX rfl he];rw[e1,e2]at hT;generalize macE s 5=e at hT he;refine jdm ?_;refine G [3] ?_;refine jdJ ?_;refine jfZ (hcv hv3) ?_
  (first|refine mP rfl rfl ?_|refine zaa (zah (r:=.row _)) rfl rfl ?_|refine zaa (zah (r:=.ref _ _)) rfl rfl ?_|refine zaa (zah (r:=.agg _)) rfl rfl ?_|refine zaa (zah (r:=.psl _ _ _ _)) rfl rfl ?_|refine zaa (zah (r:=.ptr _)) rfl rfl ?_|refine zaa (zah (r:=.tup _)) rfl rfl ?_|refine zaa (zah (r:=.fn _ _)) rfl rfl ?_|refine zaa (zah (r:=.mb _ _)) rfl rfl ?_|refine zaa (zah (r:=.mp _)) rfl rfl ?_|refine zaa (zah (r:=.sat _)) rfl rfl ?_|refine zaa (zah (r:=.any)) rfl rfl ?_)
  refine jdJ ?_;refine jfZ (hcv hv2) ?_
  (first|refine mP rfl rfl ?_|refine zaa (zah (r:=.row _)) rfl rfl ?_|refine zaa (zah (r:=.ref _ _)) rfl rfl ?_|refine zaa (zah (r:=.agg _)) rfl rfl ?_|refine zaa (zah (r:=.psl _ _ _ _)) rfl rfl ?_|refine zaa (zah (r:=.ptr _)) rfl rfl ?_|refine zaa (zah (r:=.tup _)) rfl rfl ?_|refine zaa (zah (r:=.fn _ _)) rfl rfl ?_|refine zaa (zah (r:=.mb _ _)) rfl rfl ?_|refine zaa (zah (r:=.mp _)) rfl rfl ?_|refine zaa (zah (r:=.sat _)) rfl rfl ?_|refine zaa (zah (r:=.any)) rfl rfl ?_)
  refine jdJ ?_;refine jfZ (hcv hv1) ?_
  (first|refine mP rfl rfl ?_|refine zaa (zah (r:=.row _)) rfl rfl ?_|refine zaa (zah (r:=.ref _ _)) rfl rfl ?_|refine zaa (zah (r:=.agg _)) rfl rfl ?_|refine zaa (zah (r:=.psl _ _ _ _)) rfl rfl ?_|refine zaa (zah (r:=.ptr _)) rfl rfl ?_|refine zaa (zah (r:=.tup _)) rfl rfl ?_|refine zaa (zah (r:=.fn _ _)) rfl rfl ?_|refine zaa (zah (r:=.mb _ _)) rfl rfl ?_|refine zaa (zah (r:=.mp _)) rfl rfl ?_|refine zaa (zah (r:=.sat _)) rfl rfl ?_|refine zaa (zah (r:=.any)) rfl rfl ?_)
  refine jfZ (hcv hv0) ?_;refine jdZ ?_;refine jfS ?_
  (first|refine zaa zjj rfl rfl ?_|refine zaa ziw rfl rfl ?_)
  refine zac (jdm ?_);refine cX ?_ ?_<;>intro h
  ·exact ja2
  ·exact absurd qB he
 have he:macE s 5=0:=qbj;obtain⟨e1,e2⟩:=zaM he 32 D;rw[zd5 he];rw[e1,e2]at hT;have hX:=zjU 8 (D.take 8) (by rw[List.length_take,hD];rfl) (fun x hx=>hB x (qbI hx)) qp;have hc:=bs_hd D 8;have hDl2:(bs D).length=32:=qba;refine jdm ?_;refine G [3] ?_;refine jdJ ?_;refine jfZ (hcv hv3) ?_
 (first|refine mP rfl rfl ?_|refine zaa (zah (r:=.row _)) rfl rfl ?_|refine zaa (zah (r:=.ref _ _)) rfl rfl ?_|refine zaa (zah (r:=.agg _)) rfl rfl ?_|refine zaa (zah (r:=.psl _ _ _ _)) rfl rfl ?_|refine zaa (zah (r:=.ptr _)) rfl rfl ?_|refine zaa (zah (r:=.tup _)) rfl rfl ?_|refine zaa (zah (r:=.fn _ _)) rfl rfl ?_|refine zaa (zah (r:=.mb _ _)) rfl rfl ?_|refine zaa (zah (r:=.mp _)) rfl rfl ?_|refine zaa (zah (r:=.sat _)) rfl rfl ?_|refine zaa (zah (r:=.any)) rfl rfl ?_)
 refine jdJ ?_;refine jfZ (hcv hv2) ?_
 (first|refine mP rfl rfl ?_|refine zaa (zah (r:=.row _)) rfl rfl ?_|refine zaa (zah (r:=.ref _ _)) rfl rfl ?_|refine zaa (zah (r:=.agg _)) rfl rfl ?_|refine zaa (zah (r:=.psl _ _ _ _)) rfl rfl ?_|refine zaa (zah (r:=.ptr _)) rfl rfl ?_|refine zaa (zah (r:=.tup _)) rfl rfl ?_|refine zaa (zah (r:=.fn _ _)) rfl rfl ?_|refine zaa (zah (r:=.mb _ _)) rfl rfl ?_|refine zaa (zah (r:=.mp _)) rfl rfl ?_|refine zaa (zah (r:=.sat _)) rfl rfl ?_|refine zaa (zah (r:=.any)) rfl rfl ?_)
 refine jdJ ?_;refine jfZ (hcv hv1) ?_
 (first|refine mP rfl rfl ?_|refine zaa (zah (r:=.row _)) rfl rfl ?_|refine zaa (zah (r:=.ref _ _)) rfl rfl ?_|refine zaa (zah (r:=.agg _)) rfl rfl ?_|refine zaa (zah (r:=.psl _ _ _ _)) rfl rfl ?_|refine zaa (zah (r:=.ptr _)) rfl rfl ?_|refine zaa (zah (r:=.tup _)) rfl rfl ?_|refine zaa (zah (r:=.fn _ _)) rfl rfl ?_|refine zaa (zah (r:=.mb _ _)) rfl rfl ?_|refine zaa (zah (r:=.mp _)) rfl rfl ?_|refine zaa (zah (r:=.sat _)) rfl rfl ?_|refine zaa (zah (r:=.any)) rfl rfl ?_)
 refine jfZ (hcv hv0) ?_;refine jdZ ?_;refine jfS ?_
 (first|refine zaa zjj rfl rfl ?_|refine zaa ziw rfl rfl ?_)
 refine zac (jdm ?_);refine cX ?_ ?_<;>intro h
 ·cases h
 refine jdm ?_;refine G [2] ?_
 (first|refine zaa (zhB (L:=none) (H:=(some (_,_))) U34 sz5 rfl ⟨qp,rfl⟩ qp qp rfl rfl) rfl rfl ?_|refine zab (zcY (L:=none) (H:=(some (_,_))) U34 sz5 rfl ⟨qp,rfl⟩ qp qp rfl rfl) rfl rfl ⟨rfl,trivial⟩ ?_|refine zaa (a_sliceV (L:=none) (H:=(some (_,_))) U34 sz5 rfl ⟨qp,rfl⟩ qp qp rfl rfl) rfl rfl ?_)
 refine zaU (fun n=>36+1000*n) (hX) rfl (vl_psl rfl qp hc.symm rfl) func108 rfl rfl qA qA rfl rfl rfl qr rfl rfl rfl ?_;refine G [3] ?_;refine jdm ?_;exact yE
theorem strOf_extract(xs:List Int)(k:Nat):(strOfNums xs).extract 0 k=strOfNums (xs.take k):=by
 apply ByteArray.ext;simp[strOfNums,ByteArray.data_extract,qc9,List.extract_eq_take_drop]
theorem hexT_take(xs:List Int)(k:Nat):(hexT xs).take (2*k)=hexT (xs.take k):=by
 induction xs generalizing k with
 |nil=>simp[hexT]
 |cons x xs ih=>
  cases k with
  |zero=>simp[hexT]
  |succ k=>
   have:=ih k;simp only[hexT]at this⊢;rw[qb7,qb5,qb7,←this,show 2*(k+1)=2*k+1+1 by omega];simp
theorem hexS_cut(xs:List Int)(k:Nat):(hexS xs).extract 0 (2*k)=hexS (xs.take k):=by
 rw[hexS,strOf_extract,hexT_take];rfl
theorem refNonce_s(s:ByteArray)(n:Int):Fn prog 28 [qc s,qd n] (sRes (nonE s n) (nonS s n)) []:=by
 refine fnI fun w0 A=>?_
 refine jdm ?_;refine G [4] ?_;refine jdm ?_;refine G [4] ?_
 (first|refine zbR rfl ?_|refine mP rfl rfl ?_|refine zaa (zah (r:=.row _)) rfl rfl ?_|refine zaa (zah (r:=.ref _ _)) rfl rfl ?_|refine zaa (zah (r:=.agg _)) rfl rfl ?_|refine zaa (zah (r:=.psl _ _ _ _)) rfl rfl ?_|refine zaa (zah (r:=.ptr _)) rfl rfl ?_|refine zaa (zah (r:=.tup _)) rfl rfl ?_|refine zaa (zah (r:=.fn _ _)) rfl rfl ?_|refine zaa (zah (r:=.mb _ _)) rfl rfl ?_|refine zaa (zah (r:=.mp _)) rfl rfl ?_|refine zaa (zah (r:=.sat _)) rfl rfl ?_|refine zaa (zah (r:=.any)) rfl rfl ?_|refine mb2 _ rfl rfl (fun hb=>(zah (r:=.p _))) (fun _=>trivial) ?_|refine mb2 _ rfl rfl (fun hb=>(zah (r:=.row _))) (fun _=>trivial) ?_|refine mb2 _ rfl rfl (fun hb=>(zah (r:=.ref _ _))) (fun _=>trivial) ?_|refine mb2 _ rfl rfl (fun hb=>(zah (r:=.agg _))) (fun _=>trivial) ?_|refine mb2 _ rfl rfl (fun hb=>(zah (r:=.psl _ _ _ _))) (fun _=>trivial) ?_|refine mb2 _ rfl rfl (fun hb=>(zah (r:=.ptr _))) (fun _=>trivial) ?_|refine mb2 _ rfl rfl (fun hb=>(zah (r:=.tup _))) (fun _=>trivial) ?_|refine mb2 _ rfl rfl (fun hb=>(zah (r:=.fn _ _))) (fun _=>trivial) ?_|refine mb2 _ rfl rfl (fun hb=>(zah (r:=.mb _ _))) (fun _=>trivial) ?_|refine mb2 _ rfl rfl (fun hb=>(zah (r:=.mp _))) (fun _=>trivial) ?_|refine mb2 _ rfl rfl (fun hb=>(zah (r:=.sat _))) (fun _=>trivial) ?_|refine mb2 _ rfl rfl (fun hb=>(zah (r:=.any))) (fun _=>trivial) ?_)
 (first|refine zbR rfl ?_|refine zaa a_geq rfl rfl ?_|refine mb2 _ rfl rfl (fun hb=>a_geq) (fun _=>trivial) ?_)
 (first|refine zaa a_pickT rfl rfl ?_|refine zaa a_pickF rfl rfl ?_|refine zaa (zki qae) rfl rfl ?_|refine zaa (a_or qae) rfl rfl ?_|refine zaa (a_pick rfl rfl) rfl rfl ?_)
 refine zac (jdm ?_);refine cX ?_ ?_<;>intro h
 ·have h2:n<0∨4294967295<n:=qw;exact ja0
 have h2:¬(n<0∨4294967295<n):=qw;clear h;have hE:nonE s n=macE s 5:=by unfold nonE;rw[if_neg h2]
 obtain⟨k,rfl⟩:=qbp (show 0≤n by omega)
 have hT:=zga s 5 (110::beN 4 k) (by simp[zcf]) (by
  intro x hx;rcases qbA.1 hx with rfl|hx
  ·omega
  ·exact beN_B _ _ x hx)
 have hD:=zcj s (110::beN 4 k);have hB:=zg7 s (110::beN 4 k);unfold nonS nonW;rw[qbt,hE];have hG:Fn prog 70 [qd k,qd 4] (.row 0) [(0,.row 5 1 4 (bs (beN 4 k)))]:=zjd 4 k qp qp;rw[show(110:Int)::beN 4 k=[110]++beN 4 k from rfl]at*;rw[←za5]at hT;have hBe:=zcf 4 k;generalize macD s ([110]++beN 4 k)=D at*;generalize beN 4 k=Y at*
 by_cases he:macE s 5≠0
 ·obtain⟨e1,e2⟩:=za6 (e':=macE s 5) rfl he 32 D;rw[zbX rfl he];rw[e1,e2]at hT;generalize macE s 5=e at hT he;refine jdm ?_;refine G [2] ?_;refine jec ?_;refine jfa ?_
  (first|refine mP rfl rfl ?_|refine zaa (zah (r:=.row _)) rfl rfl ?_|refine zaa (zah (r:=.ref _ _)) rfl rfl ?_|refine zaa (zah (r:=.agg _)) rfl rfl ?_|refine zaa (zah (r:=.psl _ _ _ _)) rfl rfl ?_|refine zaa (zah (r:=.ptr _)) rfl rfl ?_|refine zaa (zah (r:=.tup _)) rfl rfl ?_|refine zaa (zah (r:=.fn _ _)) rfl rfl ?_|refine zaa (zah (r:=.mb _ _)) rfl rfl ?_|refine zaa (zah (r:=.mp _)) rfl rfl ?_|refine zaa (zah (r:=.sat _)) rfl rfl ?_|refine zaa (zah (r:=.any)) rfl rfl ?_)
  refine cV hG ?_
  (first|refine zab (zam 20 U34 eo5 (zas) qy qp rfl rfl) rfl rfl ⟨rfl,rfl,rfl,trivial⟩ ?_|refine zab (zaP 20 U34 eo5 (zas) qy qp) rfl rfl ⟨rfl,rfl,trivial⟩ ?_|refine zab (zam 20 U34 eo5 (zbc) qy qp rfl rfl) rfl rfl ⟨rfl,rfl,trivial⟩ ?_|refine zab (zaP 20 U34 eo5 (zbc) qy qp) rfl rfl ⟨rfl,trivial⟩ ?_|refine zab (zam 20 U34 eo5 (zdU qp rfl) qy qp rfl rfl) rfl rfl ⟨rfl,rfl,rfl,trivial⟩ ?_|refine zab (zaP 20 U34 eo5 (zdU qp rfl) qy qp) rfl rfl ⟨rfl,rfl,trivial⟩ ?_|refine zab (zam 20 U34 eo5 (zjq rfl (qbk rfl) rfl) qy qp rfl rfl) rfl rfl ⟨rfl,rfl,rfl,trivial⟩ ?_|refine zab (zaP 20 U34 eo5 (zjq rfl (qbk rfl) rfl) qy qp) rfl rfl ⟨rfl,rfl,trivial⟩ ?_|refine zab (zam 20 U34 eo5 (zjp (size:=1)) qy qp rfl rfl) rfl rfl ⟨rfl,rfl,trivial⟩ ?_|refine zab (zaP 20 U34 eo5 (zjp (size:=1)) qy qp) rfl rfl ⟨rfl,trivial⟩ ?_)
  refine jfS ?_
  (first|refine zaa zjj rfl rfl ?_|refine zaa ziw rfl rfl ?_)
  refine zac (jdm ?_);refine cX ?_ ?_<;>intro h
  ·exact ja2
  ·exact absurd qB he
 have he:macE s 5=0:=qbj;obtain⟨e1,e2⟩:=zaM he 32 D;rw[zd5 he];rw[e1,e2]at hT;have hX:=zfH 32 D hD hB qp;have hS:=zgl D;have hcut:=hexS_cut D 8;generalize hexS D=SD at hX hS hcut;generalize hexS (D.take 8)=S8 at hcut⊢;refine jdm ?_;refine G [2] ?_;refine jec ?_;refine jfa ?_
 (first|refine mP rfl rfl ?_|refine zaa (zah (r:=.row _)) rfl rfl ?_|refine zaa (zah (r:=.ref _ _)) rfl rfl ?_|refine zaa (zah (r:=.agg _)) rfl rfl ?_|refine zaa (zah (r:=.psl _ _ _ _)) rfl rfl ?_|refine zaa (zah (r:=.ptr _)) rfl rfl ?_|refine zaa (zah (r:=.tup _)) rfl rfl ?_|refine zaa (zah (r:=.fn _ _)) rfl rfl ?_|refine zaa (zah (r:=.mb _ _)) rfl rfl ?_|refine zaa (zah (r:=.mp _)) rfl rfl ?_|refine zaa (zah (r:=.sat _)) rfl rfl ?_|refine zaa (zah (r:=.any)) rfl rfl ?_)
 refine cV hG ?_
 (first|refine zab (zam 20 U34 eo5 (zas) qy qp rfl rfl) rfl rfl ⟨rfl,rfl,rfl,trivial⟩ ?_|refine zab (zaP 20 U34 eo5 (zas) qy qp) rfl rfl ⟨rfl,rfl,trivial⟩ ?_|refine zab (zam 20 U34 eo5 (zbc) qy qp rfl rfl) rfl rfl ⟨rfl,rfl,trivial⟩ ?_|refine zab (zaP 20 U34 eo5 (zbc) qy qp) rfl rfl ⟨rfl,trivial⟩ ?_|refine zab (zam 20 U34 eo5 (zdU qp rfl) qy qp rfl rfl) rfl rfl ⟨rfl,rfl,rfl,trivial⟩ ?_|refine zab (zaP 20 U34 eo5 (zdU qp rfl) qy qp) rfl rfl ⟨rfl,rfl,trivial⟩ ?_|refine zab (zam 20 U34 eo5 (zjq rfl (qbk rfl) rfl) qy qp rfl rfl) rfl rfl ⟨rfl,rfl,rfl,trivial⟩ ?_|refine zab (zaP 20 U34 eo5 (zjq rfl (qbk rfl) rfl) qy qp) rfl rfl ⟨rfl,rfl,trivial⟩ ?_|refine zab (zam 20 U34 eo5 (zjp (size:=1)) qy qp rfl rfl) rfl rfl ⟨rfl,rfl,trivial⟩ ?_|refine zab (zaP 20 U34 eo5 (zjp (size:=1)) qy qp) rfl rfl ⟨rfl,trivial⟩ ?_)
 refine jfS ?_
 (first|refine zaa zjj rfl rfl ?_|refine zaa ziw rfl rfl ?_)
 refine zac (jdm ?_);refine cX ?_ ?_<;>intro h
 ·cases h
 refine jdm ?_;refine G [2] ?_;refine cV hX ?_;refine zaa (zej (L:=none) (H:=(some (_,_))) U9 rfl ⟨qp,rfl⟩ qp qp hcut) rfl rfl ?_;refine G [3] ?_;refine jdm ?_;exact yE
end Go.Proofs.YtdiljgkijgiboaaGreatDoor
