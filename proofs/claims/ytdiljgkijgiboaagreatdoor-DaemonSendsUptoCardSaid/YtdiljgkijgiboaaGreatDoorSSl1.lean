/- Used. -/
import Derived.Test.YtdiljgkijgiboaaGreatDoorSShb
set_option linter.all false
set_option maxRecDepth 100000
set_option maxHeartbeats 16000000
namespace Go.Proofs.YtdiljgkijgiboaaGreatDoor
open Tryz
open Go.RowKit Go.Sort
def xb(x c:Int):Int:=bits .xor .u8 x c
theorem xb_B(x c:Int):0≤xb x c∧xb x c<256:=by
 have e:xb x c=IntKind.u8.wrap ((BitVec.ofInt 8 x ^^^ BitVec.ofInt 8 c).toNat:Int):=rfl;rw[e,IntKind.wrap_u8];omega
def kz(ks:List Int):List Int:=ks++List.replicate 32 0
def kyd(ks:List Int)(c:Int):List Int:=(kz ks).map fun x=>xb x c
def kyK(L:List Int)(c:Int)(k:Nat):List Int:=(L.take k).map (fun x=>xb x c)++L.drop k
theorem kyd_B(ks:List Int)(c:Int):isB (kyd ks c):=by
 intro x hx;obtain⟨y,_,rfl⟩:=qbv.1 hx;exact xb_B _ _
theorem kz_len{ks:List Int}(h:ks.length=32):(kz ks).length=64:=by simp[kz,h]
theorem zjO{ks:List Int}(c:Int)(h:ks.length=32):(kyd ks c).length=64:=by simp[kyd,kz_len h]
theorem kyK_len(L:List Int)(c:Int)(k:Nat)(h:k≤L.length):(kyK L c k).length=L.length:=by simp[kyK];omega
theorem kyK_at{L:List Int}{c:Int}{k:Nat}{x:Int}(h:L[k]?=some x):(kyK L c k)[k]?=some x∧(kyK L c k).set k (xb x c)=kyK L c (k+1):=by
 have hk:=(qbl.1 h).1;have e:=(qbl.1 h).2;have hl:((L.take k).map fun x=>xb x c).length=k:=qbg
 constructor
 ·rw[kyK,qbZ (by omega),hl,qcS,qbF,qb4,h]
 ·rw[kyK,qb2 _ _ (by omega),hl,qcS,qbQ hk,qcn,kyK,qbs hk,qbY,e];simp
theorem keyed_s(ks:List Int)(c:Int)(hl:ks.length=32):Fn prog 145 [ql 32 1 (bs ks),.p (.v (.int .u8 c))] (.row 0) [(0,.row 5 1 64 (bs (kyd ks c)))]:=by
 have hcp:setR (List.replicate 64 (PV.v (.int .u8 0))) 0 (bs ks)=bs (kz ks):=by
  simp[setR,kz,bs,hl]
 have hzl:=kz_len hl;have hfin:kyd ks c=kyK (kz ks) c 64:=by simp only[kyd,kyK];rw[qbC (by omega),qcM (by omega),List.append_nil]
 rw[hfin];clear hfin;refine fnI fun w0 A=>?_
 refine G [6] ?_;refine zab (zfW 7 U34 eo5 zr5 rfl qp qp qp qy (show _=64 from rfl)) rfl rfl ⟨rfl,trivial⟩ ?_;refine G [6] ?_;refine zab (a_copy U34 sz5 (zbc) qp qp (qck) hcp) rfl rfl ⟨rfl,trivial⟩ ?_;refine G [3] ?_;generalize kz ks=L at hzl;refine G [6] ?_;refine zag (fun m st=>∃k:Nat,m+k=64∧st=St.of [(1,.p (.v (.int .u8 c))),(5,.row 5),(12,qd 64),(13,qd k)] [(5,.row 5 1 64 (bs (kyK L c k)))]) 64 ?_ ?_
 ·refine⟨_,zai (fun _=>7) _ _ ?_ ?_ rfl,0,qp,rfl⟩
  ·exact jap
  ·exact jbn
 rintro m st ⟨k,hk,rfl⟩;refine G [5] ?_;refine cX ?_ ?_<;>intro h
 ·have hlt:k<64:=qw;clear h;obtain⟨x,hx⟩:∃x,L[k]?=some x:=⟨L[k]'qp,List.getElem?_eq_getElem qp⟩;obtain⟨g1,g2⟩:=kyK_at (c:=c) hx;have g3:=zfV g1;have g5:(bs (kyK L c k)).length=64:=by rw[bs_length,kyK_len _ _ _ (by omega),hzl]
  have g4:setR (bs (kyK L c k)) k [.v (.int .u8 (xb x c))]=bs (kyK L c (k+1)):=qaB;refine G [11] ?_;refine zab (zao U34 sz5 qp qp (show _=k by omega)) rfl rfl ⟨rfl,trivial⟩ ?_;refine jf0 (zaQ U5 rfl g3) ?_;refine jdn ?_;refine zaa (zaV qG (show _=xb x c from rfl)) rfl rfl ?_;refine zab (zao U34 sz5 qp qp (show _=k by omega)) rfl rfl ⟨rfl,trivial⟩ ?_;refine jei ?_;refine jdC ?_;refine⟨m-1,qp,_,zai id _ _ ?_ ?_ rfl,k+1,qp,rfl⟩
  ·exact jap
  ·exact jbn
 have hge:k=64:=qw;clear h;subst hge;exact jbK
def macE(s:ByteArray)(n:Nat):Int:=if keyE s=0 then(if 936<n then 1 else 0)else keyE s
def macD(s:ByteArray)(b:List Int):List Int:=shaD (kyd (zax s 32) 92++shaD (kyd (zax s 32) 54++b))
theorem zeb{s:ByteArray}{k:Nat}(hg:zcK s=true)(hk:2*k≤s.size):isB (zax s k):=by
 intro x hx;simp only[zax,qbv,List.mem_range]at hx;obtain⟨j,hj,rfl⟩:=hx;have h1:=(zcc s).1 hg (2*j) qp;have h2:=(zcc s).1 hg (2*j+1) qp;have h3:hv s (2*j)≤15:=(hx_bd _).2;have h4:hv s (2*j+1)≤15:=(hx_bd _).2;omega
theorem zct{s:ByteArray}(h:keyE s=0):s.size=64∧hexE s=0:=by
 unfold keyE at h
 split at h
 ·exact⟨qah,h⟩
 ·omega
theorem za4{xs ys:List Int}(h:isB xs)(k:isB ys):isB (xs++ys):=fun x hx=>(qbD.1 hx).elim (h x) (k x)
theorem tag_s(s:ByteArray)(n:Nat)(b:List Int)(hn:b.length=n)(hb:isB b):Fn prog 107 [qc s,ql n 1 (bs b)] (bRes (macE s n)) (bNew (macE s n) 32 (macD s b)):=by
 refine fnI fun w0 A=>?_
 refine G [9] ?_;refine cV (zbs s) ?_;refine jds ?_;refine cX ?_ ?_<;>intro h
 ·exact jcs
 have h2:keyE s=0:=qB;clear h;refine jdV ?_;refine cX ?_ ?_<;>intro h
 ·exact jch
 have h3:n≤936:=qw;clear h;obtain⟨e1,e2⟩:=zaM (show macE s n=0 by unfold macE;rw[if_pos h2,if_neg (by omega)]) 32 (macD s b);rw[e1,e2];clear e1 e2;obtain⟨hsz,hE⟩:=zct h2;have hH:=zcD s;obtain⟨e1,e2⟩:=zbg hE;rw[e1,e2,hsz]at hH;clear e1 e2;have hkl:(zax s 32).length=32:=zaX s 32;have hc1:=keyed_s (zax s 32) 54 hkl;have hc2:=keyed_s (zax s 32) 92 hkl;have hl1:=zjO 54 hkl;have hl2:=zjO 92 hkl;have hb1:=kyd_B (zax s 32) 54
 have hb2:=kyd_B (zax s 32) 92;unfold macD;change Fn prog 128 _ _ [(0,.row 5 1 32 (bs (zax s 32)))]at hH;generalize zax s 32=K at hH hkl hc1 hc2 hl1 hl2 hb1 hb2⊢;generalize kyd K 54=K1 at hc1 hl1 hb1⊢;generalize kyd K 92=K2 at hc2 hl2 hb2⊢;have hs1:=sum_s (64+n) (K1++b) qaI (za4 hb1 hb);obtain⟨e1,e2⟩:=zaM (show padE (64+n)=0 by unfold padE;rw[if_neg (by omega)]) 32 (shaD (K1++b));rw[e1,e2,←za5]at hs1
 clear e1 e2;have hD:=ziL (K1++b);have hDl:=zf7 (K1++b);generalize shaD (K1++b)=D at hs1 hD hDl⊢;have hs2:=sum_s (64+32) (K2++D) qaI (za4 hb2 hD);obtain⟨e1,e2⟩:=zaM (show padE (64+32)=0 from rfl) 32 (shaD (K2++D));rw[e1,e2,←za5]at hs2;clear e1 e2;generalize shaD (K2++D)=E at hs2⊢;refine G [4] ?_;refine cV hH ?_;refine G [9] ?_;refine cV hc1 ?_;refine jdn ?_;refine zab (zam 28 U34 eo5 (zbc) qy qp rfl rfl) rfl rfl ⟨rfl,rfl,trivial⟩ ?_
 refine cV hs1 ?_;refine G [9] ?_;refine cV hc2 ?_;refine jdz ?_;refine zab (zam 35 U34 eo5 (zas) qy qp rfl rfl) rfl rfl ⟨rfl,rfl,rfl,trivial⟩ ?_;refine cV hs2 ?_;refine jdw ?_;refine yT (fun _=>36) ?_ ?_
 ·exact rfl
 ·exact jbn
end Go.Proofs.YtdiljgkijgiboaaGreatDoor
namespace Go.Proofs.YtdiljgkijgiboaaGreatDoor
open Go.RowKit Go.Sort
def kx(ks:List Int)(c:Int)(i:Nat):List Int:=((kz ks).take i).map fun x=>xb x c
theorem kx_next{ks:List Int}{c:Int}{i:Nat}{x:Int}(h:(kz ks)[i]?=some x):kx ks c (i+1)=kx ks c i++[xb x c]:=by
 have hk:=(qbl.1 h).1;have e:=(qbl.1 h).2;rw[kx,qbs hk,qbY,e];rfl
theorem kx_full{ks:List Int}(c:Int)(h:ks.length=32):kx ks c 64=kyd ks c:=by
 rw[kx,qbC (by rw[kz_len h];omega)];rfl
theorem zga(s:ByteArray)(n:Nat)(b:List Int)(hn:b.length=n)(hb:isB b):Fn Tryz.prog 80 [qc s,ql n 1 (bs b)] (bRes (macE s n)) (bNew (macE s n) 32 (macD s b)):=by
 refine fnI fun w0 A=>?_
 refine G [9] ?_;refine cV (zbh s) ?_;refine jds ?_;refine cX ?_ ?_<;>intro h
 ·exact jcs
 have h2:keyE s=0:=qB;clear h;refine jdV ?_;refine cX ?_ ?_<;>intro h
 ·exact jch
 have h3:n≤936:=qw;clear h;obtain⟨e1,e2⟩:=zaM (show macE s n=0 by unfold macE;rw[if_pos h2,if_neg (by omega)]) 32 (macD s b);rw[e1,e2];clear e1 e2;obtain⟨hsz,hE⟩:=zct h2;have hH:=zcR s;obtain⟨e1,e2⟩:=zbg hE;rw[e1,e2,hsz]at hH;clear e1 e2;have hkl:(zax s 32).length=32:=zaX s 32;have hl1:=zjO 54 hkl;have hl2:=zjO 92 hkl;have hb1:=kyd_B (zax s 32) 54;have hb2:=kyd_B (zax s 32) 92;have hf1:=kx_full 54 hkl
 have hf2:=kx_full 92 hkl;unfold macD;change Fn Tryz.prog 122 _ _ [(0,.row 5 1 32 (bs (zax s 32)))]at hH;generalize zax s 32=K at hH hkl hl1 hl2 hb1 hb2 hf1 hf2⊢;generalize kyd K 54=K1 at hl1 hb1 hf1⊢;generalize kyd K 92=K2 at hl2 hb2 hf2⊢;have hs1:=zhq (64+n) (K1++b) qaI (za4 hb1 hb);obtain⟨e1,e2⟩:=zaM (show padE (64+n)=0 by unfold padE;rw[if_neg (by omega)]) 32 (shaD (K1++b));rw[e1,e2,←za5]at hs1
 clear e1 e2;have hD:=ziL (K1++b);have hDl:=zf7 (K1++b);generalize shaD (K1++b)=D at hs1 hD hDl⊢;have hs2:=zhq (64+32) (K2++D) qaI (za4 hb2 hD);obtain⟨e1,e2⟩:=zaM (show padE (64+32)=0 from rfl) 32 (shaD (K2++D));rw[e1,e2,←za5]at hs2;clear e1 e2;generalize shaD (K2++D)=E at hs2⊢;have hzl:=kz_len hkl;refine G [4] ?_;refine cV hH ?_;refine G [13] ?_;refine za3 (zca 9 9 5 1 rfl rfl) ?_;refine za3 (zca 10 10 5 1 rfl rfl) ?_
 refine G [4] ?_;refine zag (fun m st=>∃i:Nat,m+i=64∧st=St.of [(1,ql n 1 (bs b)),(7,.row 7),(9,.row 9),(10,.row 10),(11,qd i)] [(7,.row 5 1 32 (bs K)),(9,.row 5 1 i (bs (kx K 54 i))),(10,.row 5 1 i (bs (kx K 92 i)))]) 64 ?_ ?_
 ·refine⟨_,zai (fun o=>bif Nat.beq o 7 then 25 else o) _ _ ?_ ?_ rfl,0,qp,rfl⟩
  ·exact jap
  ·exact jbr
 rintro m st ⟨i,hi,rfl⟩;refine jdw ?_;refine cX ?_ ?_<;>intro h
 ·have hlt:i<64:=qw;clear h;obtain⟨x,hx⟩:∃x,(kz K)[i]?=some x:=⟨(kz K)[i]'qp,List.getElem?_eq_getElem qp⟩;have n1:=kx_next (c:=54) hx;have n2:=kx_next (c:=92) hx;refine G [13,9,0] ?_;refine cX ?_ ?_<;>intro h
  ·have h32:i<32:=qw;clear h;have hxk:K[i]?=some x:=by rw[kz,qcf (by omega)]at hx;exact hx
   have g1:=zfV hxk
   skip
   refine G [3] ?_;refine zab (zao U34 sz5 qp qp (show _=i by omega)) rfl rfl ⟨rfl,trivial⟩ ?_;refine jf0 (zaQ U5 rfl g1) ?_;refine G [6] ?_;refine zaa (zaV qG (show _=xb x 54 from rfl)) rfl rfl ?_;refine zab (xs:=[.p (.v (.int .u8 (xb x 54)))]) (zae (es:=[.p (.v (.int .u8 (xb x 54)))]) (cs:=[.v (.int .u8 (xb x 54))]) 41 U34 sz5 zc5 (qbk rfl) (qbk rfl) rfl qq qq qq (qbk rfl)) qF rfl ⟨rfl,trivial⟩ ?_
   refine zab (zam 42 U34 eo5 (zas) qy qp rfl rfl) rfl rfl ⟨rfl,rfl,rfl,trivial⟩ ?_;refine G [5] ?_;refine zaa (zaV qG (show _=xb x 92 from rfl)) rfl rfl ?_;refine zab (xs:=[.p (.v (.int .u8 (xb x 92)))]) (zae (es:=[.p (.v (.int .u8 (xb x 92)))]) (cs:=[.v (.int .u8 (xb x 92))]) 46 U34 sz5 zc5 (qbk rfl) (qbk rfl) rfl qq qq qq (qbk rfl)) qF rfl ⟨rfl,trivial⟩ ?_;refine jeq ?_;refine jds ?_;refine⟨m-1,qp,_,zai (fun o=>bif Nat.beq o 9 then 42 else bif Nat.beq o 10 then 47 else o) _ _ ?_ ?_ rfl,i+1,qp,rfl⟩
   ·exact jap
   ·rw[n1,n2,←zce,←zce];exact jbr
  ·have h32:32≤i:=qw;clear h
   have hx0:x=0:=by
    rw[kz,qbZ (by omega)]at hx;exact List.eq_of_mem_replicate (qbo hx)
   subst hx0;refine G [5] ?_;refine zaa (zaV qG (show _=xb 0 54 from rfl)) rfl rfl ?_;refine zab (xs:=[.p (.v (.int .u8 (xb 0 54)))]) (zae (es:=[.p (.v (.int .u8 (xb 0 54)))]) (cs:=[.v (.int .u8 (xb 0 54))]) 41 U34 sz5 zc5 (qbk rfl) (qbk rfl) rfl qq qq qq (qbk rfl)) qF rfl ⟨rfl,trivial⟩ ?_;refine zab (zam 42 U34 eo5 (zas) qy qp rfl rfl) rfl rfl ⟨rfl,rfl,rfl,trivial⟩ ?_;refine G [5] ?_;refine zaa (zaV qG (show _=xb 0 92 from rfl)) rfl rfl ?_
   refine zab (xs:=[.p (.v (.int .u8 (xb 0 92)))]) (zae (es:=[.p (.v (.int .u8 (xb 0 92)))]) (cs:=[.v (.int .u8 (xb 0 92))]) 46 U34 sz5 zc5 (qbk rfl) (qbk rfl) rfl qq qq qq (qbk rfl)) qF rfl ⟨rfl,trivial⟩ ?_;refine jeq ?_;refine jds ?_;refine⟨m-1,qp,_,zai (fun o=>bif Nat.beq o 9 then 42 else bif Nat.beq o 10 then 47 else o) _ _ ?_ ?_ rfl,i+1,qp,rfl⟩
   ·exact jap
   ·rw[n1,n2,←zce,←zce];exact jbr
 have hge:i=64:=qw;clear h;subst hge;rw[hf1,hf2];refine G [5] ?_;refine zab (zam 51 U34 eo5 (zbc) qy qp rfl rfl) rfl rfl ⟨rfl,rfl,trivial⟩ ?_;refine cV hs1 ?_;refine G [10] ?_;refine zab (zam 57 U34 eo5 (zas) qy qp rfl rfl) rfl rfl ⟨rfl,rfl,rfl,trivial⟩ ?_;refine cV hs2 ?_;refine jdw ?_;refine yT (fun _=>58) ?_ ?_
 ·exact rfl
 ·exact jbn
theorem ssnum_s(n:Nat):Fn Tryz.prog 180 [qd n] (.row 0) [(0,.row 5 1 8 (bs (be8 n)))]:=by
 refine fnI fun w0 A=>?_
 refine G [6] ?_;refine zab (zdD 5 U34 eo5 qp qp qy) rfl rfl ⟨rfl,trivial⟩ ?_;refine G [8] ?_;refine zag (fun m st=>∃k:Nat,m+k=8∧st=St.of [(0,qd n),(3,.row 3),(4,qd (7-k))] [(3,.row 5 1 k (bs ((be8 n).take k)))]) 8 ?_ ?_
 ·refine⟨_,zai (fun _=>5) _ _ ?_ ?_ rfl,0,qp,rfl⟩
  ·exact jap
  ·rw[qcb];exact jbn
 rintro m st ⟨k,hk,rfl⟩;refine jdw ?_;refine cX ?_ ?_<;>intro h
 ·have hlt:k<8:=qw;clear h
  have hv:IntKind.u8.wrap ((n:Int).fdiv (2^min (8*(7-(k:Int))).toNat IntKind.i64.bits))=((n/2^(8*(7-k))%256:Nat):Int):=by
   have e1:min (8*(7-(k:Int))).toNat IntKind.i64.bits=8*(7-k):=by
    show min (8*(7-(k:Int))).toNat 64=_;omega
   rw[e1];exact ze2 n _
  have ht:=zgs n k hlt;generalize ((n/2^(8*(7-k))%256:Nat):Int)=y at hv ht;refine G [8] ?_;refine jdJ ?_;refine jfZ (zbn U3 U5 hv) ?_;refine zab (xs:=[.p (.v (.int .u8 y))]) (zae (es:=[.p (.v (.int .u8 y))]) (cs:=[.v (.int .u8 y)]) 16 U34 sz5 zc5 (qbk rfl) (qbk rfl) rfl qq qq qq (qbk rfl)) qF rfl ⟨rfl,trivial⟩ ?_;refine zab (zam 17 U34 eo5 (zas) qy qp rfl rfl) rfl rfl ⟨rfl,rfl,rfl,trivial⟩ ?_;refine jds ?_
  refine⟨m-1,qp,_,zai (fun _=>17) _ _ ?_ ?_ rfl,k+1,qp,rfl⟩
  ·refine je6 ?_;exact jbZ
  ·rw[ht,←zce];exact jbn
 have hge:k=8:=qw;clear h;subst hge;rw[qbC (by rw[zcp];omega)];refine jds ?_;refine yT (fun _=>3) ?_ ?_
 ·exact rfl
 ·exact jbn
def bigK(n k:Nat):List Int:=List.replicate (8-k) 0++(be8 n).drop (8-k)
theorem bigK_len(n k:Nat)(hk:k≤8):(bigK n k).length=8:=by
 rw[bigK,qbm,qck,qbH,zcp];omega
theorem bigK_set(n k:Nat)(hk:k<8):(bigK n k).set (7-k) ((n/256^k%256:Nat):Int)=bigK n (k+1):=by
 have e:8-k=(7-k)+1:=qp;have hl:7-k<(be8 n).length:=by rw[zcp];omega
 have hb:(be8 n)[7-k]=((n/256^k%256:Nat):Int):=by
  simp only[be8,qcZ,List.getElem_range];rw[show 8*(7-(7-k))=8*k by omega,Nat.pow_mul]
 rw[bigK,bigK,show 8-(k+1)=7-k by omega,e,List.replicate_succ',qby,qb2 _ _ (by simp),qck,qcS,qb3,qcn,qbQ hl,hb]
theorem and255(n:Nat)(hn:n<9223372036854775808):bits .and .i64 (n:Int) 255=((n%256:Nat):Int):=by
 have h1:(BitVec.ofInt 64 (n:Int)).toNat=n:=by
  exact jaV
 have h2:(BitVec.ofInt 64 (255:Int)).toNat=255:=qS;show IntKind.i64.wrap ((BitVec.ofInt 64 (n:Int) &&& BitVec.ofInt 64 255).toNat:Int)=_;have h3:n &&& 255=n%256:=qcu n 8;rw[qcN,h1,h2,h3,IntKind.wrap_i64];omega
theorem big_s(n:Nat)(hn:n<9223372036854775808):Fn Tryz.prog 70 [qd n,qd 8] (.row 0) [(0,.row 5 1 8 (bs (be8 n)))]:=by
 refine fnI fun w0 A=>?_
 refine G [7] ?_;refine zab (zfW 8 U34 eo5 zr5 rfl qp qp qp qy (show _=8 from rfl)) rfl rfl ⟨rfl,trivial⟩ ?_;refine G [10] ?_;refine zag (fun m st=>∃k:Nat,m+k=8∧st=St.of [(0,qd (n/256^k:Nat)),(5,.row 5),(6,qd (7-k))] [(5,.row 5 1 8 (bs (bigK n k)))]) 8 ?_ ?_
 ·refine⟨_,zai (fun _=>8) _ _ ?_ ?_ rfl,0,qp,rfl⟩
  ·rw[Nat.pow_zero,Nat.div_one];exact jap
  ·rw[show bigK n 0=List.replicate 8 0 by simp[bigK,zcp]];exact jbn
 rintro m st ⟨k,hk,rfl⟩;refine jdw ?_;refine cX ?_ ?_<;>intro h
 ·have hlt:k<8:=qw;clear h;have hq:n/256^k<9223372036854775808:=Nat.lt_of_le_of_lt (Nat.div_le_self _ _) hn;have hset:=bigK_set n k hlt;have hnx:n/256^(k+1)=n/256^k/256:=by rw[qci,qcL]
  have hlen:=bigK_len n k qp;generalize n/256^k=q at hq hset hnx⊢;have g4:setR (bs (bigK n k)) (7-k) [.v (.int .u8 ((q%256:Nat):Int))]=bs (bigK n (k+1)):=qa8;have g5:(bs (bigK n k)).length=8:=qa7
  have g6:(q:Int).fdiv (2^min (8:Int).toNat IntKind.i64.bits)=((q/256:Nat):Int):=by
   exact jbS
  refine G [8] ?_;refine zaa (zaV qG (and255 q hq)) rfl rfl ?_;refine zaa (zbn U3 U5 qaa) rfl rfl ?_;refine zab (zao U34 sz5 qp qp (show _=7-k by omega)) rfl rfl ⟨rfl,trivial⟩ ?_;refine jfW ?_;refine⟨m-1,qp,_,zai id _ _ ?_ ?_ rfl,k+1,qp,rfl⟩
  ·refine⟨⟨?_,rfl⟩,⟨rfl,rfl⟩,⟨?_,rfl⟩,trivial⟩
   ·exact jc7
   ·exact jbZ
  ·exact jbn
 have hge:k=8:=qw;clear h;subst hge;rw[show bigK n 8=be8 n by simp[bigK]];exact jbK
def FLOW:List Int:=[102,108,111,119]
def blkS(s:ByteArray)(c j:Nat):List Int:=macD s (FLOW++be8 c++be8 j)
def strm(s:ByteArray)(c j:Nat):List Int:=(List.range j).flatMap (blkS s c)
theorem zcj(s:ByteArray)(b:List Int):(macD s b).length=32:=zf7 _
theorem zg7(s:ByteArray)(b:List Int):isB (macD s b):=ziL _
theorem zhK(s:ByteArray)(c j:Nat):strm s c (j+1)=strm s c j++blkS s c j:=by simp[strm,qcw]
theorem zel(s:ByteArray)(c:Nat):∀j,(strm s c j).length=32*j
 |0=>rfl
 |j+1=>by rw[zhK,qbm,zel s c j,blkS,zcj];omega
def strE(s:ByteArray)(c n:Int):Int:=if keyE s=0 then(if c<0∨1099511627776<c∨n<0∨232<n then 4 else 0)else keyE s
def nbl(n:Nat):Nat:=(n+31)/32
def strD(s:ByteArray)(c n:Int):List Int:=(strm s c.toNat (nbl n.toNat)).take n.toNat
theorem stream_s(s:ByteArray)(c n:Int):Fn Tryz.prog 138 [qc s,qd c,qd n] (bRes (strE s c n)) (bNew (strE s c n) n.toNat (strD s c n)):=by
 refine fnI fun w0 A=>?_
 refine G [9] ?_;refine cV (zbs s) ?_;refine jds ?_;refine cX ?_ ?_<;>intro h
 ·exact jcj
 have h2:keyE s=0:=qB;clear h;refine G [9,2,3,2,3,2,1,9,0] ?_;refine cX ?_ ?_<;>intro h
 ·exact jbQ
 have h3:¬(c<0∨1099511627776<c∨n<0∨232<n):=qw;clear h;obtain⟨e1,e2⟩:=zaM (show strE s c n=0 by unfold strE;rw[if_pos h2,if_neg h3]) n.toNat (strD s c n);rw[e1,e2];clear e1 e2;obtain⟨cn,rfl⟩:=qbp (show 0≤c by omega);obtain⟨nn,rfl⟩:=qbp (show 0≤n by omega);have hnn:nn≤232:=qp;have hcn:cn≤1099511627776:=qp;unfold strD;rw[qbt,qbt];have hnb:nn≤32*nbl nn∧32*nbl nn<nn+32:=by unfold nbl;omega
 refine G [5] ?_;refine zab (zdD 34 U34 eo5 qp qp qy) rfl rfl ⟨rfl,trivial⟩ ?_;refine G [8] ?_;refine zag (fun m st=>∃j:Nat,m+j=nbl nn∧st=St.of [(0,qc s),(1,qd cn),(2,qd nn),(9,.row 9),(10,qd j)] [(9,.row 5 1 (32*j) (bs (strm s cn j)))]) (nbl nn) ?_ ?_
 ·refine⟨_,zai (fun _=>34) _ _ ?_ ?_ rfl,0,qp,rfl⟩
  ·exact jap
  ·exact jbn
 rintro m st ⟨j,hj,rfl⟩;refine jdV ?_;refine cX ?_ ?_<;>intro h
 ·have hlt:j<nbl nn:=qw;clear h;have ht:=tag_s s 20 (FLOW++be8 cn++be8 j) (by simp[zcp,FLOW]) (za4 (za4 (by intro x hx;simp[FLOW]at hx;omega) (ziF _)) (ziF _));obtain⟨e1,e2⟩:=zaM (show macE s 20=0 by unfold macE;rw[if_pos h2,if_neg (by omega)]) 32 (macD s (FLOW++be8 cn++be8 j));rw[e1,e2,←za5,←za5]at ht;clear e1 e2;have hs:=zhK s cn j;unfold blkS at hs;generalize macD s (FLOW++be8 cn++be8 j)=D at ht hs
  refine jdm ?_;refine G [2] ?_;refine zab (xs:=((bs FLOW).map AV.p)) (zae (es:=((bs FLOW).map AV.p)) (cs:=(bs FLOW)) 43 U34 sz5 zc5 (qbk rfl) (qbk rfl) rfl qq qq qq (qbk rfl)) qF rfl ⟨rfl,trivial⟩ ?_;refine jfa ?_;refine jdn ?_;refine cV (ssnum_s cn) ?_;refine jeq ?_;refine jdn ?_;refine cV (ssnum_s j) ?_;refine zab (zam 50 U34 eo5 (zas) qy qp rfl rfl) rfl rfl ⟨rfl,rfl,rfl,trivial⟩ ?_;refine cV ht ?_
  refine G [6] ?_;refine jdm ?_;refine G [3] ?_;refine zab (zam 56 U34 eo5 (zas) qy qp (show _=32*(j+1)by omega) rfl) rfl rfl ⟨rfl,rfl,rfl,trivial⟩ ?_;refine jds ?_;refine⟨m-1,qp,_,zai (fun _=>56) _ _ ?_ ?_ rfl,j+1,qp,rfl⟩
  ·exact jap
  ·rw[hs,←za5];exact jbn
 have hge:j=nbl nn:=qw;clear h;subst hge;have hl:=zel s cn (nbl nn);generalize strm s cn (nbl nn)=D at hl⊢;have hlb:(bs D).length=32*nbl nn:=by rw[bs_length];exact hl
 rw[show bs (D.take nn)=((bs D).drop 0).take (nn*1)by simp[bs,qc9]];refine G [5] ?_;refine zab (zcY (L:=none) (H:=(some (_,_))) U34 sz5 rfl ⟨qp,(show _=nn by omega)⟩ qp qp (show _=nn by omega) rfl) rfl rfl ⟨rfl,trivial⟩ ?_;refine zab (zaP 60 U34 eo5 (zdU qp rfl) qy qp) rfl rfl ⟨rfl,rfl,trivial⟩ ?_;refine jdY ?_;refine yT (fun _=>60) ?_ ?_
 ·exact rfl
 ·exact jbn
theorem blkS_len(s:ByteArray)(c j:Nat):(blkS s c j).length=32:=zcj _ _
theorem strm_at(s:ByteArray)(c:Nat):∀(J i:Nat),i<32*J→(strm s c J)[i]?=(blkS s c (i/32))[i%32]?
 |0,i,h=>by omega
 |J+1,i,h=>by
  rw[zhK]
  by_cases h2:i<32*J
  ·rw[qcf (by rw[zel];exact h2)];exact strm_at s c J i h2
  ·rw[qbZ (by rw[zel];omega),zel,show i-32*J=i%32 by omega,show i/32=J by omega]
def bbS(s:ByteArray)(c i:Nat):List Int:=if i=0 then []else blkS s c ((i-1)/32)
def blS(i:Nat):Nat:=if i=0 then 0 else 32
theorem refStream_s(s:ByteArray)(c n:Int):Fn Tryz.prog 159 [qc s,qd c,qd n] (bRes (strE s c n)) (bNew (strE s c n) n.toNat (strD s c n)):=by
 refine fnI fun w0 A=>?_
 refine G [9] ?_;refine cV (zbh s) ?_;refine jds ?_;refine cX ?_ ?_<;>intro h
 ·exact jcj
 have h2:keyE s=0:=qB;clear h;refine G [9,2,3,2,3,2,1,9,0] ?_;refine cX ?_ ?_<;>intro h
 ·exact jbQ
 have h3:¬(c<0∨1099511627776<c∨n<0∨232<n):=qw;clear h;obtain⟨e1,e2⟩:=zaM (show strE s c n=0 by unfold strE;rw[if_pos h2,if_neg h3]) n.toNat (strD s c n);rw[e1,e2];clear e1 e2;obtain⟨cn,rfl⟩:=qbp (show 0≤c by omega);obtain⟨nn,rfl⟩:=qbp (show 0≤n by omega);have hnn:nn≤232:=qp;have hcn:cn≤1099511627776:=qp;unfold strD;rw[qbt,qbt];have hnb:nn≤32*nbl nn∧32*nbl nn<nn+32:=by unfold nbl;omega
 have hSl:=zel s cn (nbl nn);have hSa:=strm_at s cn (nbl nn);generalize strm s cn (nbl nn)=SS at hSl hSa⊢;refine G [8] ?_;refine za3 (zca 9 9 5 1 rfl rfl) ?_;refine za3 (zca 10 10 5 1 rfl rfl) ?_;refine G [4] ?_;refine zag (fun m st=>∃i:Nat,m+i=nn∧st=St.of [(0,qc s),(1,qd cn),(2,qd nn),(9,.row 9),(10,.row 10),(11,qd i)] [(9,.row 5 1 i (bs (SS.take i))),(10,.row 5 1 (blS i) (bs (bbS s cn i)))]) nn ?_ ?_
 ·refine jdL ?_ ?_
  ·exact jap
  ·rw[qcb];exact jaJ
 rintro m st ⟨i,hi,rfl⟩;refine jds ?_;refine cX ?_ ?_<;>intro h
 ·have hlt:i<nn:=qw;clear h;obtain⟨x,hx⟩:∃x,SS[i]?=some x:=⟨SS[i]'qp,List.getElem?_eq_getElem qp⟩;have hxb:(blkS s cn (i/32))[i%32]?=some x:=by rw[←hSa i (by omega)];exact hx
  have g1:=zfV hxb
  have hnx:SS.take (i+1)=SS.take i++[x]:=by
   have hil:i<SS.length:=qp;rw[qbs hil,(qbl.1 hx).2]
  have hb1:bbS s cn (i+1)=blkS s cn (i/32):=by unfold bbS;rw[if_neg (by omega)];rfl
  have hb2:blS (i+1)=32:=by unfold blS;rw[if_neg (by omega)]
  refine G [7] ?_;refine jdE ?_;refine jdR ?_;refine cX ?_ ?_<;>intro h
  ·have hm0:i%32=0:=qw;clear h;obtain⟨u1,hu1⟩:∃u,(⟨#[102,108,111,119]⟩:ByteArray)++strOfNums (be8 cn)=u:=⟨_,rfl⟩;obtain⟨u2,hu2⟩:∃u,u1++strOfNums (be8 (i/32))=u:=⟨_,rfl⟩;have s1:u1.size=12:=by rw[←hu1,zbM,zau,zcp];rfl
   have s2:u2.size=20:=by rw[←hu2,zbM,s1,zau,zcp]
   have s3:sb u2=FLOW++be8 cn++be8 (i/32):=by
    rw[←hu2,←hu1,zd4,zd4,zbW (ziF _),zbW (ziF _)];rfl
   have s4:u2.size≤maxLen:=by rw[s2];simp[maxLen]
   have ht:=zga s 20 (FLOW++be8 cn++be8 (i/32)) (by simp[zcp,FLOW]) (za4 (za4 (by intro x hx;simp[FLOW]at hx;omega) (ziF _)) (ziF _));obtain⟨e1,e2⟩:=zaM (show macE s 20=0 by unfold macE;rw[if_pos h2,if_neg (by omega)]) 32 (macD s (FLOW++be8 cn++be8 (i/32)));rw[e1,e2]at ht;clear e1 e2;change Fn _ _ _ _ [(0,.row 5 1 32 (bs (blkS s cn (i/32))))]at ht;have hbl:=blkS_len s cn (i/32);generalize blkS s cn (i/32)=D at ht hxb g1 hb1 hbl
   generalize FLOW++be8 cn++be8 (i/32)=Z at ht s3
   skip
   refine za9 6 qq ?_;refine G [2] ?_;refine cV (big_s cn qp) ?_;refine jdK ?_;refine zaa (zb8 (by rw[zau,zcp];decide) hu1) rfl rfl ?_;refine jdn ?_;refine jdB ?_;refine cV (big_s (i/32) qp) ?_;refine jdK ?_;refine zaa (zb8 (by rw[zau,zcp];omega) hu2) rfl rfl ?_;refine zab (zfr 50 U9 U34 U5 qP s2 s3) rfl rfl ⟨rfl,trivial⟩ ?_;refine cV ht ?_;refine G [9] ?_;refine jdE ?_;refine zab (zao U34 sz5 qp qp (show _=i%32 by omega)) rfl rfl ⟨rfl,trivial⟩ ?_
   refine jfH ?_;refine⟨m-1,qp,_,zai (fun o=>bif Nat.beq o 9 then 61 else 51) _ _ ?_ ?_ rfl,i+1,qp,rfl⟩
   ·exact jap
   ·rw[hb1,hb2,hnx,←zce];exact jaJ
  ·have hm0:i%32≠0:=qw;clear h;have hb3:bbS s cn i=blkS s cn (i/32):=by unfold bbS;rw[if_neg (by omega),show(i-1)/32=i/32 by omega]
   have hb4:blS i=32:=by unfold blS;rw[if_neg (by omega)]
   rw[hb3,hb4];have hbl:=blkS_len s cn (i/32);generalize blkS s cn (i/32)=D at hxb g1 hb1 hbl⊢;refine G [5] ?_;refine jdE ?_;refine zab (zao U34 sz5 qp qp (show _=i%32 by omega)) rfl rfl ⟨rfl,trivial⟩ ?_;refine jfH ?_;refine⟨m-1,qp,_,zai (fun o=>bif Nat.beq o 9 then 61 else o) _ _ ?_ ?_ rfl,i+1,qp,rfl⟩
   ·exact jap
   ·rw[hb1,hb2,hnx,←zce];exact jaJ
 have hge:i=nn:=qw;clear h;subst hge;refine jdV ?_;refine yT (fun _=>9) ?_ ?_
 ·exact rfl
 ·exact jbn
theorem xb_comm(a b:Int):xb a b=xb b a:=by
 show IntKind.u8.wrap ((BitVec.ofInt 8 a ^^^ BitVec.ofInt 8 b).toNat:Int)=IntKind.u8.wrap ((BitVec.ofInt 8 b ^^^ BitVec.ofInt 8 a).toNat:Int);rw[BitVec.xor_comm]
def mixD(a b:List Int):List Int:=List.zipWith xb a b
theorem mixD_B(a b:List Int):isB (mixD a b):=by
 intro x hx;obtain⟨i,hi,rfl⟩:=qcp.1 hx;simp only[mixD,List.getElem_zipWith];exact xb_B _ _
theorem zdl{a b:List Int}{n:Nat}(ha:a.length=n)(hb:b.length=n):(mixD a b).length=n:=by simp[mixD,ha,hb]
def mixK(a b z:List Int)(k:Nat):List Int:=(mixD a b).take k++z.drop k
theorem mixK_len{a b z:List Int}{n k:Nat}(ha:a.length=n)(hb:b.length=n)(hz:z.length=n)(hk:k≤n):(mixK a b z k).length=n:=by
 rw[mixK,qbm,List.length_take,qbH,zdl ha hb];omega
theorem mixK_step{a b z:List Int}{n k:Nat}{x y:Int}(ha:a.length=n)(hb:b.length=n)(hz:z.length=n)(hk:k<n)(hx:a[k]?=some x)(hy:b[k]?=some y):
 (mixK a b z k)[k]?=z[k]?∧(mixK a b z k).set k (xb x y)=mixK a b z (k+1):=by
 have hl:=zdl ha hb;have h1:k<(mixD a b).length:=qp
 have e:(mixD a b)[k]=xb x y:=by
  simp only[mixD,List.getElem_zipWith];rw[(qbl.1 hx).2,(qbl.1 hy).2]
 have h2:((mixD a b).take k).length=k:=qad
 constructor
 ·rw[mixK,qbZ (by omega),h2,qcS,qbF,qb4]
 ·rw[mixK,mixK,qb2 _ _ (by omega),h2,qcS,qbQ (by omega),qcn,qbs h1,e,qby];rfl
theorem mixK_full{a b z:List Int}{n:Nat}(ha:a.length=n)(hb:b.length=n)(hz:z.length=n):mixK a b z n=mixD a b:=by
 rw[mixK,qbC (by rw[zdl ha hb];omega),qcM (by omega),List.append_nil]
theorem mixed_s(n:Nat)(a b:List Int)(ha:a.length=n)(hb:b.length=n)(hn:n≤1000):Fn Tryz.prog 139 [ql n 1 (bs a),ql n 1 (bs b)] (.row 0) [(0,.row 5 1 n (bs (mixD a b)))]:=by
 refine fnI fun w0 A=>?_
 refine G [8] ?_;refine zab (zfW 9 U34 eo5 zr5 rfl qp qp qp qy (show _=n by omega)) rfl rfl ⟨rfl,trivial⟩ ?_;refine G [10] ?_;have hz:(List.replicate n (0:Int)).length=n:=qG;have hz0:bs (mixK a b (List.replicate n 0) 0)=List.replicate n (PV.v (.int .u8 0)):=by simp[mixK,bs]
 generalize List.replicate n (0:Int)=z at hz hz0;refine zag (fun m st=>∃k:Nat,m+k=n∧st=St.of [(0,ql n 1 (bs a)),(1,ql n 1 (bs b)),(5,.row 5),(11,qd n),(12,qd k)] [(5,.row 5 1 n (bs (mixK a b z k)))]) n ?_ ?_
 ·refine⟨_,zai (fun _=>9) _ _ ?_ ?_ rfl,0,qp,rfl⟩
  ·exact jap
  ·rw[hz0];exact jbn
 rintro m st ⟨k,hk,rfl⟩;refine G [5] ?_;refine cX ?_ ?_<;>intro h
 ·have hlt:k<n:=qw;clear h;obtain⟨x,hx⟩:∃x,a[k]?=some x:=⟨a[k]'qp,List.getElem?_eq_getElem qp⟩;obtain⟨y,hy⟩:∃y,b[k]?=some y:=⟨b[k]'qp,List.getElem?_eq_getElem qp⟩;obtain⟨g1,g2⟩:=mixK_step ha hb hz hlt hx hy;have g3:=zfV hx;have g4:=zfV hy;have g5:(bs (mixK a b z k)).length=n:=by rw[bs_length];exact mixK_len ha hb hz qp
  have g6:setR (bs (mixK a b z k)) k [.v (.int .u8 (xb x y))]=bs (mixK a b z (k+1)):=qaB;refine jdV ?_;refine za9 6 qq ?_;refine G [4] ?_;refine jef ?_;refine zaa (zaz U5 rfl (by rw[qbF];exact g3)) rfl rfl ?_;refine G [2] ?_;refine jef ?_;refine zaa (zaz U5 rfl (by rw[qbF];exact g4)) rfl rfl ?_;refine zaa (zaV qG (show _=xb x y from rfl)) rfl rfl ?_;refine zab (zao U34 sz5 qp qp (show _=k by omega)) rfl rfl ⟨rfl,trivial⟩ ?_
  refine jfY ?_;refine⟨m-1,qp,_,zai id _ _ ?_ ?_ rfl,k+1,qp,rfl⟩
  ·exact jap
  ·exact jbn
 have hge:k=n:=qw;clear h;subst hge;rw[mixK_full ha hb hz];refine jds ?_;refine yT (fun _=>5) ?_ ?_
 ·exact rfl
 ·exact jbn
def SEAL:List Int:=[115,101,97,108]
theorem SEAL_B:isB SEAL:=by intro x hx;simp[SEAL]at hx;omega
theorem signed_s(c n:Nat)(b:List Int)(hb:b.length=n)(hn:n≤1000):Fn Tryz.prog 140 [qd c,ql n 1 (bs b)] (.row 0) [(0,.row 5 1 (12+n) (bs (SEAL++be8 c++b)))]:=by
 refine fnI fun w0 A=>?_
 refine G [4] ?_;refine jdm ?_;refine tx (zab (xs:=((bs SEAL).map AV.p)) (zae (es:=((bs SEAL).map AV.p)) (cs:=(bs SEAL)) 5 U34 sz5 zc5 (qbk rfl) (qbk rfl) rfl qq qq qq (qbk rfl)) qF rfl ⟨rfl,trivial⟩ ?_);refine jfa ?_;refine jdn ?_;refine cV (ssnum_s c) ?_;refine zab (zam 9 U34 eo5 (zas) qy qp rfl rfl) rfl rfl ⟨rfl,rfl,rfl,trivial⟩ ?_;refine jdn ?_;refine zab (zam 11 U34 eo5 (zbc) qy qp rfl rfl) rfl rfl ⟨rfl,rfl,trivial⟩ ?_
 refine G [2] ?_;refine jdm ?_;rw[←za5,←za5];refine yT (fun _=>11) ?_ ?_
 ·exact rfl
 ·exact jbn
end Go.Proofs.YtdiljgkijgiboaaGreatDoor
