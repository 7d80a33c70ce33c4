/- Used. -/
import Derived.Test.YtdiljgkijgiboaaGreatDoorSCf3
set_option linter.all false
set_option maxRecDepth 100000
set_option maxHeartbeats 16000000
namespace Go.Proofs.YtdiljgkijgiboaaGreatDoor
open Tryz
open Go.RowKit Go.Sort
def bRes(e:Int):AV:=if e=0 then .tup [.row 0,qd 0]else .tup [qm,qd e]
def bNew(e:Int)(n:Nat)(xs:List Int):List (Nat×AObj):=if e=0 then [(0,.row 5 1 n (bs xs))]else []
theorem za6{e e':Int}(h:e=e')(he:e'≠0)(n:Nat)(xs:List Int):bRes e=.tup [qm,qd e']∧bNew e n xs=[]:=by
 subst h;unfold bRes bNew;rw[if_neg he,if_neg he];exact⟨rfl,rfl⟩
theorem zaM{e:Int}(h:e=0)(n:Nat)(xs:List Int):bRes e=.tup [.row 0,qd 0]∧bNew e n xs=[(0,.row 5 1 n (bs xs))]:=by
 subst h;exact⟨rfl,rfl⟩
def padZ(n:Nat):Nat:=(119-n%64)%64
def be8(n:Nat):List Int:=(List.range 8).map fun i=>((n/2^(8*(7-i))%256:Nat):Int)
def zeU(xs:List Int)(j:Nat):List Int:=xs++[128]++List.replicate j 0
def zcn(xs:List Int):List Int:=zeU xs (padZ xs.length)++be8 (8*xs.length)
theorem padTo_len(xs:List Int)(j:Nat):(zeU xs j).length=xs.length+1+j:=by simp[zeU];omega
theorem ziV(xs:List Int)(j:Nat):zeU xs j++[0]=zeU xs (j+1):=by
 simp[zeU,List.replicate_succ']
theorem zcp(n:Nat):(be8 n).length=8:=by simp[be8]
theorem zgs(n k:Nat)(hk:k<8):(be8 n).take (k+1)=(be8 n).take k++[((n/2^(8*(7-k))%256:Nat):Int)]:=by
 rw[qbs (by rw[zcp];omega)];simp[be8]
theorem ziF(n:Nat):isB (be8 n):=by
 intro x hx;simp[be8]at hx;omega
theorem padTo_B(xs:List Int)(j:Nat)(h:isB xs):isB (zeU xs j):=by
 intro x hx;simp[zeU]at hx;rcases hx with h1|h1|⟨_,h1⟩
 ·exact h x h1
 ·omega
 ·omega
theorem shaPad_B{xs:List Int}(h:isB xs):isB (zcn xs):=by
 intro x hx;rcases qbD.1 hx with h1|h1
 ·exact padTo_B _ _ h x h1
 ·exact ziF _ x h1
def zbE(n:Nat):Nat:=n+9+padZ n
theorem ziK(xs:List Int):(zcn xs).length=zbE xs.length:=by
 simp[zcn,padTo_len,be8,zbE];omega
theorem padLen_64(n:Nat):zbE n%64=0:=by unfold zbE padZ;omega
theorem zjE(n:Nat):padZ n<64:=by unfold padZ;omega
def padE(n:Nat):Int:=if 1000<n then 1 else 0
theorem ze2(n k:Nat):IntKind.u8.wrap ((n:Int).fdiv (2^k))=((n/2^k%256:Nat):Int):=by
 rw[IntKind.wrap_u8,qbG _ (by exact Int.le_of_lt (Int.pow_pos (by omega)))];simp
theorem pad_s(n:Nat)(xs:List Int)(hn:xs.length=n):Fn prog 181 [ql n 1 (bs xs)] (bRes (padE n)) (bNew (padE n) (zbE n) (zcn xs)):=by
 refine fnI fun w0 A=>?_
 refine jd2 ?_;refine cX ?_ ?_<;>intro h
 ·exact jb3
 have h2:n≤1000:=qw;clear h;have hpz:=zjE n;obtain⟨e1,e2⟩:=zaM (show padE n=0 by unfold padE;rw[if_neg (by omega)]) (zbE n) (zcn xs);rw[e1,e2];clear e1 e2;refine G [4] ?_;refine zab (zaP 11 U34 eo5 (zbc) qy qp) rfl rfl ⟨rfl,trivial⟩ ?_;refine jft ?_;refine zag (fun m st=>∃j:Nat,m+j=padZ n∧st=St.of [(0,ql n 1 (bs xs)),(4,.row 4)] [(4,.row 5 1 (n+1+j) (bs (zeU xs j)))]) (padZ n) ?_ ?_
 ·exact jcF
 rintro m st ⟨j,hj,rfl⟩;refine G [5] ?_;refine jdE ?_;refine jdR ?_;refine cX ?_ ?_<;>intro h
 ·have hlt:j<padZ n:=by
   simp at h;unfold padZ at*;omega
  clear h;refine G [4] ?_;refine jf0 (zae 19 U34 sz5 zc5 (qbk rfl) (qbk rfl) rfl rfl rfl rfl (qbk rfl)) ?_;refine zab (zam 20 U34 eo5 (zas) qy qp rfl rfl) rfl rfl ⟨rfl,rfl,rfl,trivial⟩ ?_;refine jdR ?_;refine⟨m-1,qp,_,zai (fun _=>20) _ _ ?_ ?_ rfl,j+1,qp,rfl⟩
  ·exact jap
  ·rw[←ziV,←zce];exact jbn
 have hge:j=padZ n:=by
  simp at h;unfold padZ at*;omega
 clear h;subst hge;refine G [14] ?_;refine zag (fun m st=>∃k:Nat,m+k=8∧st=St.of [(4,.row 4),(5,qd (8*n)),(6,qd (7-k))] [(4,.row 5 1 (n+1+padZ n+k) (bs (zeU xs (padZ n)++(be8 (8*n)).take k)))]) 8 ?_ ?_
 ·refine jdL ?_ ?_
  ·exact jap
  ·rw[qcb,List.append_nil];exact jbn
 rintro m st ⟨k,hk,rfl⟩;refine jdw ?_;refine cX ?_ ?_<;>intro h
 ·have hlt:k<8:=qw;clear h;refine G [3] ?_
  have hv:IntKind.u8.wrap ((8*(n:Int)).fdiv (2^min (8*(7-(k:Int))).toNat IntKind.i64.bits))=((8*n/2^(8*(7-k))%256:Nat):Int):=by
   have e1:min (8*(7-(k:Int))).toNat IntKind.i64.bits=8*(7-k):=by
    show min (8*(7-(k:Int))).toNat 64=_;omega
   rw[e1];exact ze2 (8*n) _
  refine G [5] ?_;refine jdJ ?_;refine⟨_,_,OkStep.run _ _ _ rfl (zbn U3 U5 hv) qG,?_⟩;refine jf0 (zae 34 U34 sz5 zc5 (qbk rfl) (qbk rfl) rfl rfl rfl rfl (qbk rfl)) ?_;refine zab (zam 35 U34 eo5 (zas) qy qp rfl rfl) rfl rfl ⟨rfl,rfl,rfl,trivial⟩ ?_;refine jds ?_;refine⟨m-1,qp,_,zai (fun _=>35) _ _ ?_ ?_ rfl,k+1,qp,rfl⟩
  ·refine je6 ?_;exact jbZ
  ·rw[zgs _ _ hlt,←qby,←zce];exact jbn
 have hge:k=8:=qw;clear h;subst hge;refine G [4] ?_;refine zab (zaP 37 U34 eo5 (zas) qy qp) rfl rfl ⟨rfl,rfl,trivial⟩ ?_;refine G [4] ?_
 have hp:zeU xs (padZ n)++List.take 8 (be8 (8*n))=zcn xs:=by
  rw[qbC (by rw[zcp];omega),zcn,hn]
 have hl:zbE n=n+1+padZ n+8:=by unfold zbE;omega
 rw[←hp,hl];refine yT (fun _=>37) ?_ ?_
 ·exact rfl
 ·exact jbn
theorem refPad_s(n:Nat)(xs:List Int)(hn:xs.length=n):Fn prog 162 [.p (.sl n 1 (bs xs))] (bRes (padE n)) (bNew (padE n) (zbE n) (zcn xs)):=by
 refine fnI fun w0 A=>?_
 refine jd2 ?_;refine cX ?_ ?_<;>intro h
 ·exact jb3
 have h2:n≤1000:=qw;clear h;have hpz:=zjE n;obtain⟨e1,e2⟩:=zaM (show padE n=0 by unfold padE;rw[if_neg (by omega)]) (zbE n) (zcn xs);rw[e1,e2];clear e1 e2;refine G [3] ?_;refine jf0 (zbe 9 U34 sz5) ?_;refine jdn ?_;refine zab (zam 11 U34 eo5 (zbc) qy qp (qbO n) rfl) rfl rfl ⟨rfl,rfl,trivial⟩ ?_;refine jft ?_;refine zag (fun m st=>∃j:Nat,m+j=padZ n∧st=St.of [(0,.p (.sl n 1 (bs xs))),(4,.row 4)] [(4,.row 5 1 (n+1+j) (bs (zeU xs j)))]) (padZ n) ?_ ?_
 ·exact jcF
 rintro m st ⟨j,hj,rfl⟩;refine G [6] ?_;refine jdE ?_;refine jdR ?_;refine cX ?_ ?_<;>intro h
 ·have hlt:j<padZ n:=by
   simp at h;unfold padZ at*;omega
  clear h;refine G [4] ?_;refine jf0 (zae 20 U34 sz5 zc5 (qbk rfl) (qbk rfl) rfl rfl rfl rfl (qbk rfl)) ?_;refine zab (zam 21 U34 eo5 (zas) qy qp rfl rfl) rfl rfl ⟨rfl,rfl,rfl,trivial⟩ ?_;refine jdR ?_;refine⟨m-1,qp,_,zai (fun _=>21) _ _ ?_ ?_ rfl,j+1,qp,rfl⟩
  ·exact jap
  ·rw[←ziV,←zce];exact jbn
 have hge:j=padZ n:=by
  simp at h;unfold padZ at*;omega
 clear h;subst hge;refine G [9] ?_
 have hp:zcn xs=zeU xs (padZ n)++[0,0,0,0,IntKind.u8.wrap (((n:Int)*8).fdiv (2^24)),IntKind.u8.wrap (((n:Int)*8).fdiv (2^16)),IntKind.u8.wrap (((n:Int)*8).fdiv (2^8)),IntKind.u8.wrap ((n:Int)*8)]:=by
  have e:((n:Int)*8)=((8*n:Nat):Int):=qp;have e0:IntKind.u8.wrap ((n:Int)*8)=((8*n/2^0%256:Nat):Int):=by rw[IntKind.wrap_u8,e];simp
  rw[e0,e,ze2,ze2,ze2,zcn,hn]
  congr 1
  simp only[be8,List.range,List.range.loop,qbu,List.map_nil]
  have z:∀k,14≤k→8*n/2^k%256=0:=fun k hk=>by
   rw[Nat.div_eq_of_lt];exact qca (by omega:8*n<2^14) (qbS qp hk)
  rw[z (8*(7-0)) (by omega),z (8*(7-1)) (by omega),z (8*(7-2)) (by omega),z (8*(7-3)) (by omega)];rfl
 refine G [3] ?_;refine jdJ ?_;refine G [2] ?_;refine jdJ ?_;refine G [2] ?_;refine jdJ ?_;refine G [3] ?_;refine jf0 (zae 37 U34 sz5 zc5 (qbk rfl) (qbk rfl) rfl rfl rfl rfl (qbk rfl)) ?_;refine zab (zam 38 U34 eo5 (zas) qy qp rfl rfl) rfl rfl ⟨rfl,rfl,rfl,trivial⟩ ?_;refine G [4] ?_;have hl:zbE n=n+1+padZ n+8:=by unfold zbE;omega
 rw[hp,hl,←za5];refine yT (fun _=>38) ?_ ?_
 ·exact rfl
 ·exact jbn
def ad(a b:Int):Int:=IntKind.u32.wrap (a+b)
def xr(a b:Int):Int:=bits .xor .u32 a b
def an(a b:Int):Int:=bits .and .u32 a b
def sr(x:Int)(k:Nat):Int:=x.fdiv (2^k)
def rlS(n:Int):Int:=bits .and .u64 (IntKind.u64.wrap (IntKind.i64.wrap (0-n))) 31
def rl(x n:Int):Int:=bits .or .u32 (IntKind.u32.wrap (x*2^min (rlS n).toNat 32)) (x.fdiv (2^min (32-rlS n).toNat 32))
theorem u64_and_bd(a:Int):0≤bits .and .u64 a 31∧bits .and .u64 a 31≤31:=by
 have h2:(BitVec.ofInt 64 (31:Int)).toNat=31:=qS;have e:bits .and .u64 a 31=IntKind.u64.wrap ((BitVec.ofInt 64 a &&& BitVec.ofInt 64 31).toNat:Int):=rfl;rw[e,qcN,h2];have h3:(BitVec.ofInt 64 a).toNat &&& 31≤31:=Nat.and_le_right;rw[IntWalk.u64_in _ (by omega)];omega
theorem rotL_s(x n:Int):Fn prog 211 [qe x,qd (IntKind.i64.wrap (0-n))] (qe (rl x n)) []:=by
 have hb:=u64_and_bd (IntKind.u64.wrap (IntKind.i64.wrap (0-n)));change 0≤rlS n∧rlS n≤31 at hb;refine fnI fun w0 A=>?_
 refine G [8] ?_;refine zaa (zaV qG (show _=rlS n from rfl)) rfl rfl ?_;refine G [6] ?_;refine zaa (a_shl qp qay) rfl rfl ?_;refine G [3] ?_;refine jdJ ?_;refine zaa (zaV qG (show _=rl x n from rfl)) rfl rfl ?_;exact jbb
theorem zfx(x n:Int):Fn prog 205 [qe x,qd n] (qe (rl x n)) []:=by
 exact jcx
theorem zcr(x n:Int):Fn prog 191 [qe x,qd n] (qe (rl x n)) []:=by
 exact jcx
def iu(xs:List Int):List AV:=xs.map fun x=>qe x
def pu(xs:List Int):List PV:=xs.map fun x=>qi x
@[simp] theorem iu_len (xs:List Int):(iu xs).length=xs.length:=by simp[iu]
@[simp] theorem pu_len (xs:List Int):(pu xs).length=xs.length:=by simp[pu]
theorem iu_at{xs:List Int}{i:Nat}{x:Int}(h:xs[i]?=some x):(iu xs)[i]?=some (qe x):=by simp[iu,h]
theorem pu_at{xs:List Int}{i:Nat}{x:Int}(h:xs[i]?=some x):(pu xs)[i]?=some (qi x):=by simp[pu,h]
theorem iu_set{xs:List Int}{i:Nat}{x:Int}(h:i<xs.length):setR (iu xs) i [qe x]=iu (xs.set i x):=by
 rw[zju (by simpa using h),iu,iu,List.map_set]
theorem pu_set{xs:List Int}{i:Nat}{x:Int}(h:i<xs.length):setR (pu xs) i [qi x]=pu (xs.set i x):=by
 rw[zju (by simpa using h),pu,pu,List.map_set]
theorem pu_push{xs:List Int}{x:Int}:pu xs++[qi x]=pu (xs++[x]):=by simp[pu]
def RK:List Int:=1116352408::1899447441::3049323471::3921009573::961987163::1508970993::2453635748::2870763221::3624381080::310598401::607225278::1426881987::1925078388::2162078206::2614888103::3248222580::3835390401::4022224774::264347078::604807628::770255983::1249150122::1555081692::1996064986::2554220882::2821834349::2952996808::3210313671::3336571891::3584528711::113926993::338241895::666307205::773529912::1294757372::1396182291::1695183700::1986661051::2177026350::2456956037::2730485921::2820302411::3259730800::3345764771::3516065817::3600352804::4094571909::275423344::430227734::506948616::659060556::883997877::958139571::1322822218::1537002063::1747873779::1955562222::2024104815::2227730452::2361852424::2428436474::2756734187::3204031479::3329325298::[]
theorem rounds_s:Fn prog 203 [] (.agg (iu RK)) []:=by
 refine fnI fun w0 A=>?_
 refine G [6] ?_;refine zaa (xs:=iu RK) (zdn (es:=iu RK) U247 zr247 rfl sz33 qq) qq rfl ?_;exact jbb
theorem refRounds_s:Fn prog 163 [] (.row 0) [(0,.row 33 1 64 (pu RK))]:=by
 refine fnI fun w0 A=>?_
 refine G [6] ?_;refine zab (xs:=iu RK) (zae (es:=iu RK) (cs:=pu RK) 1 U213 sz33 zc33 (qbk rfl) (qbk rfl) rfl qq qq qq (qbk rfl)) qq rfl ⟨rfl,trivial⟩ ?_;refine jd4 ?_;refine yT (fun _=>1) ?_ ?_
 ·exact rfl
 ·exact jbn
def acc(l:List Int):Int:=l.foldl (fun a b=>a*256+b) 0
theorem acc_push(l:List Int)(x:Int):acc (l++[x])=acc l*256+x:=by simp[acc]
theorem acc_bd:∀(n:Nat) (l:List Int),l.length=n→isB l→0≤acc l∧acc l<256^n
 |0,l,hl,_=>by
  obtain rfl:=qbz hl;simp[acc]
 |n+1,l,hl,hb=>by
  obtain⟨l',x,rfl⟩:∃l' x,l=l'++[x]:=⟨l.dropLast,l.getLast (by intro h;subst h;simp at hl),(List.dropLast_concat_getLast _).symm⟩;obtain⟨h1,h2⟩:=acc_bd n l' qaQ fun y hy=>hb y qa3
  have h3:=hb x qG;rw[acc_push,Int.pow_succ];omega
def wd(xs:List Int)(i j:Nat):Int:=acc (((xs.take i).drop (4*j)).take 4)
def wp(xs:List Int)(i:Nat):List Int:=(List.range 16).map (wd xs i)
theorem wp_len(xs:List Int)(i:Nat):(wp xs i).length=16:=by simp[wp]
theorem wp_zero(xs:List Int):wp xs 0=List.replicate 16 0:=by
 simp[wp,wd,acc];rfl
theorem wp_at{xs:List Int}{i:Nat}(hi:i<64):(wp xs i)[i/4]?=some (wd xs i (i/4)):=by
 have:i/4<16:=qp;simp[wp,this]
theorem wd_next{xs:List Int}{i:Nat}{x:Int}(hx:xs[i]?=some x):wd xs (i+1) (i/4)=wd xs i (i/4)*256+x:=by
 have hi:i<xs.length:=(qbl.1 hx).1;have e:xs[i]=x:=(qbl.1 hx).2;unfold wd;rw[←acc_push,qbs hi,List.drop_append_of_le_length (by rw[List.length_take];omega),e];have hl:((xs.take i).drop (4*(i/4))).length≤3:=by rw[qbH,List.length_take];omega
 generalize List.drop (4*(i/4)) (List.take i xs)=L at hl⊢;have a1:(L++[x]).take 4=L++[x]:=qbC qbg;have a2:L.take 4=L:=qbC qp;rw[a1,a2]
theorem wd_other{xs:List Int}{i j:Nat}(hj:j≠i/4):wd xs (i+1) j=wd xs i j:=by
 unfold wd
 congr 1
 refine qcG fun k=>?_
 simp only[qbR,qbF]
 by_cases hk:k<4
 ·rw[if_pos hk,if_pos hk]
  by_cases h1:4*j+k<i
  ·rw[if_pos h1,if_pos (by omega)]
  ·rw[if_neg h1,if_neg (by omega)]
 ·rw[if_neg hk,if_neg hk]
theorem wp_step{xs:List Int}{i:Nat}{x:Int}(hi:i<64)(hx:xs[i]?=some x):(wp xs i).set (i/4) (wd xs i (i/4)*256+x)=wp xs (i+1):=by
 apply List.ext_getElem (by simp[wp]);intro j h1 h2;have hj:j<16:=by simpa[wp]using h2
 rw[List.getElem_set]
 split
 ·rename_i e;subst e;simp[wp,wd_next hx]
 ·rename_i e;simp only[wp,qcZ,List.getElem_range];exact(wd_other (Ne.symm e)).symm
theorem wd_bd{xs:List Int}{i:Nat}(hb:isB xs):0≤wd xs i (i/4)∧wd xs i (i/4)<16777216:=by
 have h:=acc_bd _ (((xs.take i).drop (4*(i/4))).take 4) rfl fun y hy=>hb y (qbI (qcC (qbI hy)))
 refine⟨h.1,Int.lt_of_lt_of_le h.2 ?_⟩
 have hl:(((xs.take i).drop (4*(i/4))).take 4).length≤3:=by
  rw[List.length_take,qbH,List.length_take];omega
 have:(256:Int)^(((xs.take i).drop (4*(i/4))).take 4).length≤256^3:=by
  exact_mod_cast qbS (n:=256) qp hl
 exact this
theorem or_byte{a x:Int}(ha:0≤a∧a<16777216)(hx:0≤x∧x<256):bits .or .u32 (a*256) x=a*256+x:=by
 obtain⟨n,rfl⟩:=qbp ha.1;obtain⟨m,rfl⟩:=qbp hx.1;have e:bits .or .u32 ((n:Int)*256) (m:Int)=IntKind.u32.wrap ((BitVec.ofInt 32 ((n:Int)*256) ||| BitVec.ofInt 32 (m:Int)).toNat:Int):=rfl;have e1:(n:Int)*256=((n*256:Nat):Int):=qp
 have h1:(BitVec.ofInt 32 ((n:Int)*256)).toNat=n*256:=by
  rw[e1,BitVec.ofInt_natCast,BitVec.toNat_ofNat];exact Nat.mod_eq_of_lt qp
 have h2:(BitVec.ofInt 32 (m:Int)).toNat=m:=by
  exact jaV
 rw[e,BitVec.toNat_or,h1,h2]
 have h3:n*256 ||| m=n*256+m:=by
  have:=Nat.shiftLeft_add_eq_or_of_lt (b:=m) (i:=8) qp n;rw[Nat.shiftLeft_eq]at this;exact this.symm
 rw[h3,qcl _ (by omega)];omega
def s0(a:Int):Int:=xr (xr (rl a 7) (rl a 18)) (sr a 3)
def s1(b:Int):Int:=xr (xr (rl b 17) (rl b 19)) (sr b 10)
def nx(l:List Int)(t:Nat):Int:=ad (ad (ad (l.getD (t-16) 0) (s0 (l.getD (t-15) 0))) (l.getD (t-7) 0)) (s1 (l.getD (t-2) 0))
def ext(l:List Int):Nat→List Int
 |0=>l
 |k+1=>ext l k++[nx (ext l k) (16+k)]
theorem ze0{l:List Int}(h:l.length=16):∀k,(ext l k).length=16+k
 |0=>h
 |k+1=>by simp only[ext,qbm,ze0 h k];rfl
def wds(xs:List Int):List Int:=ext (wp xs 64) 48
theorem wds_len(xs:List Int):(wds xs).length=64:=ze0 (wp_len _ _) 48
def exz(W:List Int)(k:Nat):List Int:=ext W k++List.replicate (48-k) 0
theorem exz_len{W:List Int}(h:W.length=16){k:Nat}(hk:k≤48):(exz W k).length=64:=by
 rw[exz,qbm,ze0 h,qck];omega
theorem exz_at{W:List Int}(h:W.length=16){k j:Nat}(hj:j<16+k):(iu (exz W k))[j]?=some (qe ((ext W k).getD j 0)):=by
 have h1:j<(ext W k).length:=by rw[ze0 h];exact hj
 refine iu_at ?_;rw[exz,qcf h1,List.getD_eq_getElem?_getD,List.getElem?_eq_getElem h1];rfl
theorem exz_set{W:List Int}(h:W.length=16){k:Nat}(hk:k<48):setR (iu (exz W k)) (16+k) [qe (nx (ext W k) (16+k))]=iu (exz W (k+1)):=by
 rw[iu_set (by rw[exz_len h (by omega)];omega),exz,qb2 _ _ (by rw[ze0 h];omega),ze0 h,qcS];obtain⟨m,hm⟩:∃m,48-k=m+1:=⟨47-k,qp⟩;rw[hm,List.replicate_succ,qcn,exz,ext,show 48-(k+1)=m by omega,qby];rfl
theorem zcU(K:List Nat):∀xs:List Int,AV.okInL K (iu xs)=true
 | []=>rfl
 |x::xs=>by simp only[iu,qbu,AV.okInL,AV.okIn,Bool.true_and];exact zcU K xs
theorem iu_ren(ρ:Nat→Nat):∀xs:List Int,AV.renL ρ (iu xs)=iu xs
 | []=>rfl
 |x::xs=>by
  have:=iu_ren ρ xs;simp only[iu,qbu,AV.renL,AV.ren]at this⊢;rw[this]
theorem zjS(K:Nat→Bool)(h:Nat→Slot):∀xs:List Int,AV.viewL K h (iu xs)=iu xs
 | []=>rfl
 |x::xs=>by
  have:=zjS K h xs;simp only[iu,qbu,AV.viewL,AV.view]at this⊢;rw[this]
theorem iu_view(K:Nat→Bool)(h:Nat→Slot)(ρ:Nat→Nat)(xs:List Int):(AV.agg (iu xs)).view K h=(AV.agg (iu xs)).ren ρ:=by rw[AV.view,AV.ren,zjS,iu_ren]
theorem zbD{h:Slot}{ty:TypeId}{ρ:Nat→Nat}{xs:List Int}(e:h=qj ty (iu xs)):h=.live ((AObj.box ty (iu xs)).ren ρ):=by rw[e,AObj.ren,iu_ren]
theorem shwords_s(xs:List Int)(hl:xs.length=64)(hb:isB xs):Fn prog 204 [.p (.sl 64 1 (bs xs))] (.agg (iu (wds xs))) []:=by
 refine zb0 func204 rfl (qbk rfl) fun w0 A=>?_
 refine jfv ?_;refine jf0 (zaT 2 zr247 rfl) ?_;refine zac (jfv ?_);refine jf0 (zaT 3 zr247 rfl) ?_;refine zac (zad (zad (jfe ?_)));refine jfZ (zdd U34) ?_;refine jdn ?_;refine zac (zaj (zag (fun m st=>∃k:Nat,m+k=64∧st=St.of [(2,.ref 2 0),(3,.ref 3 0),(9,.p (.sl 64 1 (bs xs))),(10,.p (.v (.int .i64 64))),(11,.p (.v (.int .i64 k)))] [(2,.box 247 (iu (List.replicate 64 0))),(3,.box 247 (iu (wp xs k++List.replicate 48 0)))]) 64 ?_ ?_))
 ·refine jdL ?_ ?_
  ·exact jap
  ·rw[wp_zero];exact jaJ
 rintro m st ⟨k,hk,rfl⟩;refine jfn ?_;refine zaI _ rfl (fun h=>?_) (fun h=>?_)
 ·have hlt:k<64:=qw;clear h;obtain⟨x,hx⟩:∃x,xs[k]?=some x:=⟨xs[k]'qp,List.getElem?_eq_getElem qp⟩;have hxb:=hb x (qbo hx);have g1:=zfV hx;have hwb:=wd_bd (i:=k) hb;have hlen:=wp_len xs k;refine jel ?_;refine jfe ?_;refine zaa (zaL U34 sz5 qp qp rfl) rfl rfl ?_;refine zaa (zaz U5 rfl qt) rfl rfl ?_;refine jdx ?_;refine jdx ?_;refine jfg ?_;have g2:(iu (wp xs k++List.replicate 48 0))[k/4]?=some (.p (.v (.int .u32 (wd xs k (k/4))))):=iu_at (by rw[qcf (by rw[hlen];omega)];exact wp_at hlt)
  have g3:IntKind.u32.wrap (wd xs k (k/4)*2^min (8:Int).toNat IntKind.u32.bits)=wd xs k (k/4)*256:=by
   rw[show(2:Int)^min (8:Int).toNat IntKind.u32.bits=256 from rfl];exact qcl _ qp
  have g4:setR (iu (wp xs k++List.replicate 48 0)) (k/4) [.p (.v (.int .u32 (wd xs k (k/4)*256+x)))]=iu (wp xs (k+1)++List.replicate 48 0):=by
   rw[iu_set (by simp[hlen];omega),List.set_append_left _ _ (by rw[hlen];omega),wp_step hlt hx]
  have g5:(iu (wp xs k++List.replicate 48 0)).length=64:=by simp[hlen]
  refine jfe ?_;refine jdB ?_;refine jdn ?_;refine jdB ?_;refine zaa (zap U247 sz33 qp qp (show 0+_=k/4 by omega)) rfl rfl ?_;refine jdF ?_;refine zaa (a_shl qp g3) rfl rfl ?_;refine jdn ?_;refine zaa (zbn U5 U33 qay) rfl rfl ?_;refine zaa (zaV qG (or_byte hwb hxb)) rfl rfl ?_;refine zaa (zap U247 sz33 qp qp (show 0+_=k/4 by omega)) rfl rfl ?_;refine zab (zbt (Y:=.p _) sz33 rfl qI qu g4) rfl rfl ⟨rfl,trivial⟩ ?_
  refine zac (zaW (zat (jfz ?_)));refine⟨m-1,qp,_,zai id _ _ ?_ ?_ rfl,k+1,qp,rfl⟩
  ·exact jap
  ·exact jcZ
 have hge:k=64:=qw;clear h;subst hge;refine zar (zad (zad (tx (jfl ?_))));refine zaj ?_;have hW:=wp_len xs 64;refine zag (fun m st=>∃k:Nat,m+k=48∧st=St.of [(2,.ref 2 0),(3,.ref 3 0),(6,.p (.v (.int .i64 (16+k))))] [(2,.box 247 (iu (List.replicate 64 0))),(3,.box 247 (iu (exz (wp xs 64) k)))]) 48 ?_ ?_
 ·refine jdL ?_ ?_
  ·exact jap
  ·exact jcZ
 rintro m st ⟨k,hk,rfl⟩;refine zad (zad (jfe ?_));refine jen ?_;refine jfg ?_;refine zaI _ rfl (fun h=>?_) (fun h=>?_)
 ·have hlt:k<48:=qw;clear h;have g15:=exz_at (k:=k) hW (j:=16+k-15) qp;have g16:=exz_at (k:=k) hW (j:=16+k-16) qp;have g7:=exz_at (k:=k) hW (j:=16+k-7) qp;have g2:=exz_at (k:=k) hW (j:=16+k-2) qp;have gs:=exz_set (k:=k) hW hlt;have gl:(iu (exz (wp xs 64) k)).length=64:=by rw[iu_len];exact exz_len hW qp
  refine jel ?_;refine za9 4 qq ?_;refine jdn ?_;refine je2 ?_;refine zaa (zap U247 sz33 qp qp (show 0+_=16+k-15 by omega)) rfl rfl ?_;refine jdF ?_;refine jdn ?_;refine je2 ?_;refine zaa (zap U247 sz33 qp qp (show 0+_=16+k-2 by omega)) rfl rfl ?_;refine jdF ?_;refine jdx ?_;refine jdx ?_;refine zac ⟨qq,?_⟩;refine zat (za9 4 qq ?_);refine jdn ?_;refine jdn ?_;refine je2 ?_;refine zaa (zap U247 sz33 qp qp (show 0+_=16+k-16 by omega)) rfl rfl ?_
  refine jdF ?_;refine jdn ?_;refine zaU (fun n=>46+1000*n) (zfx _ _) rfl rfl F205 rfl rfl qA qA rfl rfl rfl qr rfl rfl rfl ?_;refine jdn ?_;refine zaU (fun n=>48+1000*n) (zfx _ _) rfl rfl F205 rfl rfl qA qA rfl rfl rfl qr rfl rfl rfl ?_;refine jd0 ?_;refine jdn ?_;refine jdJ ?_;refine jd0 ?_;refine jep ?_;refine jdn ?_;refine je2 ?_;refine zaa (zap U247 sz33 qp qp (show 0+_=16+k-7 by omega)) rfl rfl ?_
  refine jdF ?_;refine jep ?_;refine jdn ?_;refine zaU (fun n=>60+1000*n) (zfx _ _) rfl rfl F205 rfl rfl qA qA rfl rfl rfl qr rfl rfl rfl ?_;refine jdn ?_;refine zaU (fun n=>62+1000*n) (zfx _ _) rfl rfl F205 rfl rfl qA qA rfl rfl rfl qr rfl rfl rfl ?_;refine jd0 ?_;refine jdn ?_;refine jdJ ?_;refine jd0 ?_;refine jep ?_;refine zaa (zap U247 sz33 qp qp (show 0+_=16+k by omega)) rfl rfl ?_;refine zab (zbt (Y:=.p _) sz33 rfl qI qu gs) rfl rfl ⟨rfl,trivial⟩ ?_
  refine zac ⟨qq,?_⟩;refine zaW (zat (jfe ?_));refine jdt ?_;refine jdx ?_;refine jfg ?_;refine⟨m-1,qp,_,zai id _ _ ?_ ?_ rfl,k+1,qp,rfl⟩
  ·refine je6 ?_;show AV.p (.v (.int .i64 (16+(k:Int)+1)))=AV.p (.v (.int .i64 (16+((k+1:Nat):Int))))
   congr 3<;>omega
  ·exact jcZ
 have hge:k=48:=qw;clear h;subst hge;have he:exz (wp xs 64) 48=wds xs:=by simp[exz,wds]
 rw[he];have gl:=wds_len xs;generalize wds xs=D at gl⊢;have gl2:(iu D).length=64:=by rw[iu_len];exact gl
 refine zar (zad (tx (lN U247 rfl sz247 rfl rfl ⟨rfl,trivial⟩ ?_)));refine jd5 ?_;refine zac (zaq (⟨qO,_,(fun o=>o),(.cellN _ _ _ _ _ _ _ _ _ rfl rfl U247 rfl sz247 qaY .nil),?_,zcU _ _,?_,rfl⟩))
 ·exact iu_view _ _ _ _
 ·exact trivial
theorem iuA_ren(ρ:Nat→Nat)(xs:List Int):(AV.agg (iu xs)).ren ρ=.agg (iu xs):=congrArg AV.agg (iu_ren ρ xs)
structure V8 where
 a:Int
 b:Int
 c:Int
 d:Int
 e:Int
 f:Int
 g:Int
 h:Int
def V8.l(v:V8):List Int:=[v.a,v.b,v.c,v.d,v.e,v.f,v.g,v.h]
def nt(e:Int):Int:=bits .xor .u32 (if IntKind.u32.signed then -1 else IntKind.u32.max) e
def ch(e f g:Int):Int:=xr (an e f) (an (nt e) g)
def mj(a b c:Int):Int:=xr (xr (an a b) (an a c)) (an b c)
def shOne(k w:Int)(v:V8):Int:=ad (ad (ad (ad v.h (xr (xr (rl v.e 6) (rl v.e 11)) (rl v.e 25))) (ch v.e v.f v.g)) k) w
def two(v:V8):Int:=ad (xr (xr (rl v.a 2) (rl v.a 13)) (rl v.a 22)) (mj v.a v.b v.c)
def rnd(k w:Int)(v:V8):V8:=⟨ad (shOne k w v) (two v),v.a,v.b,v.c,ad v.d (shOne k w v),v.e,v.f,v.g⟩
def rn(K W:List Int)(v:V8):Nat→V8
 |0=>v
 |t+1=>rnd (K.getD t 0) (W.getD t 0) (rn K W v t)
def V8.plus(v h:V8):V8:=⟨ad v.a h.a,ad v.b h.b,ad v.c h.c,ad v.d h.d,ad v.e h.e,ad v.f h.f,ad v.g h.g,ad v.h h.h⟩
def blk8(h:V8)(xs:List Int):V8:=(rn RK (wds xs) h 64).plus h
theorem zjT{xs:List Int}{i:Nat}(h:i<xs.length):(iu xs)[i]?=some (qe (xs.getD i 0)):=
 iu_at qaF
def mx8(v h:V8)(k:Nat):List Int:=(v.plus h).l.take k++v.l.drop k
theorem mx8_step(v h:V8):∀k,k<8→(iu (mx8 v h k))[k]?=some (qe (v.l.getD k 0))∧setR (iu (mx8 v h k)) k [qe (ad (v.l.getD k 0) (h.l.getD k 0))]=iu (mx8 v h (k+1)):=by
 intro k hk
 match k,hk with
 |0,_=>exact⟨rfl,rfl⟩
 |1,_=>exact⟨rfl,rfl⟩
 |2,_=>exact⟨rfl,rfl⟩
 |3,_=>exact⟨rfl,rfl⟩
 |4,_=>exact⟨rfl,rfl⟩
 |5,_=>exact⟨rfl,rfl⟩
 |6,_=>exact⟨rfl,rfl⟩
 |7,_=>exact⟨rfl,rfl⟩
theorem mx8_len(v h:V8)(k:Nat):(iu (mx8 v h k)).length=8:=by
 rw[iu_len,mx8,qbm,List.length_take,qbH];show min k 8+(8-k)=8;omega
theorem block_s(v0:V8)(xs:List Int)(hl:xs.length=64)(hb:isB xs):Fn prog 182 [.agg (iu v0.l),ql 64 1 (bs xs)] (.agg (iu (blk8 v0 xs).l)) []:=by
 refine zb0 func182 rfl (qbk rfl) fun w0 A=>?_
 refine jfv ?_;refine jf0 (zhk (X:=.agg _) 2 rfl) ?_;refine jf0 (zaT 4 zr233 rfl) ?_;refine zac (jdm ?_);have hw:=shwords_s xs hl hb;have hwl:=wds_len xs;have hwl2:(iu (wds xs)).length=64:=by rw[iu_len];exact hwl
 unfold blk8;generalize wds xs=W at hw hwl hwl2⊢;refine za9 4 qq ?_;refine zaU (fun n=>14+1000*n) (rounds_s) rfl rfl func203 rfl rfl qA qA rfl rfl rfl qr rfl rfl rfl ?_;refine jdn ?_;refine zbN (fun n=>16+1000*n) (hw) rfl rfl func204 rfl rfl qD (zcU _ _) rfl rfl qr rfl (iuA_ren _ _) rfl ?_;refine lN U233 rfl sz233 rfl rfl ⟨rfl,trivial⟩ ?_;refine jf0 (zaT 5 zr247 rfl) ?_;refine jf0 (zaT 6 zr247 rfl) ?_
 refine jf0 (zaT 7 zr233 rfl) ?_;refine jd5 ?_;refine jd5 ?_;refine jd6 ?_;refine zac ⟨qq,?_⟩;refine zad (zad (jfe ?_));refine zac (zaj (zag (fun m st=>∃k:Nat,m+k=64∧st=St.of [(2,.ref 2 0),(4,.ref 4 0),(5,.ref 5 0),(6,.ref 6 0),(7,.ref 7 0),(18,qd k)] [(2,.box 233 (iu v0.l)),(4,.box 233 (iu (List.replicate 8 0))),(5,.box 247 (iu RK)),(6,.box 247 (iu W)),(7,.box 233 (iu (rn RK W v0 k).l))]) 64 ?_ ?_))
 ·refine jdL ?_ ?_
  ·exact jap
  ·exact jcP
 rintro m st ⟨k,hk,rfl⟩;refine jfn ?_;refine zaI _ rfl (fun h=>?_) (fun h=>?_)
 ·have hlt:k<64:=qw;clear h;have gk:=zjT (xs:=RK) (i:=k) hlt;have gw:=zjT (xs:=W) (i:=k) qp;have hs:(rn RK W v0 (k+1)).l=(rnd (RK.getD k 0) (W.getD k 0) (rn RK W v0 k)).l:=rfl;generalize rn RK W v0 k=v at hs⊢;generalize RK.getD k 0=ck at gk hs;generalize W.getD k 0=wk at gw hs;refine jel ?_;refine jfe ?_;refine jfl ?_;refine zad (za9 4 qq ?_);refine jfF ?_;refine jfF ?_;refine jdx ?_;refine jdx ?_;refine zac ⟨qq,?_⟩
  refine jdm ?_;refine za9 4 qq ?_;refine jfF ?_;refine jdn ?_;refine zaU (fun n=>28+1000*n) (zfx _ _) rfl rfl F205 rfl rfl qA qA rfl rfl rfl qr rfl rfl rfl ?_;refine jdn ?_;refine zaU (fun n=>30+1000*n) (zfx _ _) rfl rfl F205 rfl rfl qA qA rfl rfl rfl qr rfl rfl rfl ?_;refine jd0 ?_;refine jdn ?_;refine zaU (fun n=>33+1000*n) (zfx _ _) rfl rfl F205 rfl rfl qA qA rfl rfl rfl qr rfl rfl rfl ?_;refine jd0 ?_
  refine jep ?_;refine jdn ?_;refine jfF ?_;refine jd0 ?_;refine jdn ?_;refine jfZ (a_inv rfl) ?_;refine jfF ?_;refine jd0 ?_;refine jd0 ?_;refine jep ?_;refine jdn ?_;refine zaa (zap U247 sz33 qp qp (show 0+_=k by omega)) rfl rfl ?_;refine jdF ?_;refine jep ?_;refine jdn ?_;refine zaa (zap U247 sz33 qp qp (show 0+_=k by omega)) rfl rfl ?_;refine jdF ?_;refine jfZ (zbf (show _=shOne ck wk v from rfl)) ?_
  refine jdx ?_;refine zac ⟨qq,?_⟩;refine jdm ?_;refine za9 4 qq ?_;refine jdn ?_;refine zaU (fun n=>56+1000*n) (zfx _ _) rfl rfl F205 rfl rfl qA qA rfl rfl rfl qr rfl rfl rfl ?_;refine jdn ?_;refine zaU (fun n=>58+1000*n) (zfx _ _) rfl rfl F205 rfl rfl qA qA rfl rfl rfl qr rfl rfl rfl ?_;refine jd0 ?_;refine jdn ?_;refine zaU (fun n=>61+1000*n) (zfx _ _) rfl rfl F205 rfl rfl qA qA rfl rfl rfl qr rfl rfl rfl ?_
  refine jd0 ?_;refine jdn ?_;refine jfF ?_;refine jd0 ?_;refine jdn ?_;refine jfF ?_;refine jd0 ?_;refine jd0 ?_;refine jfF ?_;refine jfF ?_;refine jd0 ?_;refine jd0 ?_;refine jfZ (zbf (show _=two v from rfl)) ?_;refine jdx ?_;refine zac ⟨qq,?_⟩;refine jdm ?_;refine jfe ?_;refine jdn ?_;refine jfZ (zbf (show _=ad (shOne ck wk v) (two v)from rfl)) ?_;refine jdn ?_;refine jfF ?_;refine jfF ?_;refine jfF ?_
  refine jdn ?_;refine jfZ (zbf (show _=ad v.d (shOne ck wk v)from rfl)) ?_;refine jdn ?_;refine jfF ?_;refine jfF ?_;refine zaa (xs:=(iu (rnd ck wk v).l)) (zdn (es:=(iu (rnd ck wk v).l)) U233 zr233 rfl sz33 qq) qF rfl ?_;refine jd6 ?_;refine zac (jdm ?_);refine jfz ?_;refine⟨m-1,qp,_,zai id _ _ ?_ ?_ rfl,k+1,qp,rfl⟩
  ·exact jap
  ·rw[hs];exact jcP
 have hge:k=64:=qw;clear h;subst hge;generalize rn RK W v0 64=v;refine zar (zad (zad (jfe ?_)));refine zac (zaj (zag (fun m st=>∃k:Nat,m+k=8∧st=St.of [(2,.ref 2 0),(4,.ref 4 0),(7,.ref 7 0),(98,qd k)] [(2,.box 233 (iu v0.l)),(4,.box 233 (iu (List.replicate 8 0))),(7,.box 233 (iu (mx8 v v0 k)))]) 8 ?_ ?_))
 ·refine jdL ?_ ?_
  ·exact jap
  ·exact⟨⟨zbD rfl,zcU _ _⟩,⟨zbD rfl,zcU _ _⟩,⟨zbD rfl,zcU _ _⟩,trivial⟩
 rintro m st ⟨k,hk,rfl⟩;refine jfn ?_;refine zaI _ rfl (fun h=>?_) (fun h=>?_)
 ·have hlt:k<8:=qw;clear h;obtain⟨g1,g2⟩:=mx8_step v v0 k hlt;have g3:=zjT (xs:=v0.l) (i:=k) hlt;have g4:=mx8_len v v0 k;refine jel ?_;refine jfe ?_;refine jdx ?_;refine jfg ?_;refine za9 4 qq ?_;refine jdn ?_;refine zaa (zap U233 sz33 qp qp (show 0+_=k by omega)) rfl rfl ?_;refine jdF ?_;refine jdn ?_;refine zaa (zap U233 sz33 qp qp (show 0+_=k by omega)) rfl rfl ?_;refine jdF ?_;refine jfZ (zbf (show _=ad _ _ from rfl)) ?_
  refine zaa (zap U233 sz33 qp qp (show 0+_=k by omega)) rfl rfl ?_;refine zab (zbt (Y:=.p _) sz33 rfl qI qu g2) rfl rfl ⟨rfl,trivial⟩ ?_;refine zac ⟨qq,?_⟩;refine zaW (zat (jfz ?_));refine⟨m-1,qp,_,zai id _ _ ?_ ?_ rfl,k+1,qp,rfl⟩
  ·exact jap
  ·exact⟨⟨zbD rfl,zcU _ _⟩,⟨zbD rfl,zcU _ _⟩,⟨zbD rfl,zcU _ _⟩,trivial⟩
 have hge:k=8:=qw;clear h;subst hge;have he:mx8 v v0 8=(v.plus v0).l:=rfl;rw[he];refine zar (zad (tx (lN U233 rfl sz233 rfl rfl ⟨rfl,trivial⟩ ?_)));refine jd6 ?_;refine zac (zaq (fT (fun o=>o) (.cellN _ _ _ _ _ _ _ _ _ rfl rfl U233 rfl sz233 qaY .nil) ?_ ?_))
 ·exact iu_view _ _ _ _
 ·exact trivial
theorem vl_cons{K:Nat→Bool}{h:Nat→Slot}{x y:AV}{xs zs:List AV}(h1:x.view K h=y)(h2:AV.viewL K h xs=zs):AV.viewL K h (x::xs)=y::zs:=by rw[AV.viewL,h1,h2]
theorem vl_psl{h:Nat→Slot}{o off n size n' size':Nat}{e:TypeId}{cs ys:List PV}{xs zs:List AV}(ho:h o=qk e size' n' cs)(hl:off+n*size≤cs.length)(hy:(cs.drop off).take (n*size)=ys)(h2:AV.viewL (fun _=>false) h xs=zs):
 AV.viewL (fun _=>false) h (.psl o off n size::xs)=ql n size ys::zs:=by
 have:zcI (h o) off n size=ql n size ys:=by rw[ho];simp only[zcI,hl,if_true,hy]
 rw[AV.viewL,h2,AV.view,cond_false,this]
theorem iuA_view(K:Nat→Bool)(h:Nat→Slot)(xs:List Int):(AV.agg (iu xs)).view K h=.agg (iu xs):=by rw[AV.view,zjS]
theorem bs_cut{xs:List Int}{a b:Nat}:((bs xs).drop a).take b=bs ((xs.drop a).take b):=by simp[bs,List.map_drop,qc9]
def H0:V8:=⟨1779033703,3144134277,1013904242,2773480762,1359893119,2600822924,528734635,1541459225⟩
def sumH(P:List Int):Nat→V8
 |0=>H0
 |k+1=>blk8 (sumH P k) ((P.drop (64*k)).take 64)
def w4(x:Int):List Int:=[IntKind.u8.wrap (sr x 24),IntKind.u8.wrap (sr x 16),IntKind.u8.wrap (sr x 8),IntKind.u8.wrap x]
def shaV(xs:List Int):V8:=sumH (zcn xs) (zbE xs.length/64)
def shaD(xs:List Int):List Int:=(shaV xs).l.flatMap w4
def outK(v:V8)(k:Nat):List Int:=(v.l.take k).flatMap w4
theorem outK_next(v:V8)(k:Nat)(hk:k<8):outK v k++w4 (v.l.getD k 0)=outK v (k+1):=by
 have hl:k<v.l.length:=hk;rw[outK,outK,qbs hl,qbV,List.getD_eq_getElem?_getD,List.getElem?_eq_getElem hl];simp
theorem w4_B(x:Int):isB (w4 x):=by
 intro y hy;simp only[w4,qbA,qcB,or_false]at hy;have h:∀z,0≤IntKind.u8.wrap z∧IntKind.u8.wrap z<256:=fun z=>by rw[IntKind.wrap_u8];omega
 rcases hy with rfl|rfl|rfl|rfl<;>exact h _
theorem ziL(xs:List Int):isB (shaD xs):=by
 intro y hy;obtain⟨x,_,h⟩:=qcA.1 hy;exact w4_B x y h
theorem zf7(xs:List Int):(shaD xs).length=32:=rfl
theorem sum_s(n:Nat)(xs:List Int)(hn:xs.length=n)(hb:isB xs):Fn prog 144 [.p (.sl n 1 (bs xs))] (bRes (padE n)) (bNew (padE n) 32 (shaD xs)):=by
 have hP:=pad_s n xs hn;have hpl:=ziK xs;have hpb:=shaPad_B hb;have hv:shaV xs=sumH (zcn xs) (zbE n/64):=by unfold shaV;rw[hn]
 have hd:shaD xs=outK (shaV xs) 8:=rfl;rw[hn]at hpl;refine fnI fun w0 A=>?_
 by_cases hbig:1000<n
 ·exact jbg
 have he:padE n=0:=by unfold padE;rw[if_neg hbig]
 obtain⟨e1,e2⟩:=zaM he 32 (shaD xs);obtain⟨e3,e4⟩:=zaM he (zbE n) (zcn xs);rw[e3,e4]at hP;rw[e1,e2];have hpd:64*(zbE n/64)=zbE n:=by have:=padLen_64 n;omega
 have hpm:zbE n≤2000:=by have:=zjE n;unfold zbE;omega
 clear e1 e2 e3 e4;generalize zcn xs=Pd at hP hpl hpb hv;rw[hd,hv];clear hd hv;generalize zbE n=pn at hP hpl hpd hpm⊢;obtain⟨nb,hnb⟩:∃nb,pn/64=nb:=⟨_,rfl⟩;rw[hnb]at hpd⊢;refine G [8] ?_;refine cV hP ?_;refine jd2 ?_;refine cX ?_ ?_<;>intro h
 ·cases h
 clear h;refine G [3] ?_;refine zaa (xs:=(iu H0.l)) (zdn (es:=(iu H0.l)) U233 zr233 rfl sz33 qq) qF rfl ?_;refine G [9] ?_;refine zag (fun m st=>∃k:Nat,m+k=nb∧st=St.of [(4,.row 4),(6,.ref 6 0),(7,.p (.v (.int .i64 (64*k))))] [(4,.row 5 1 pn (bs Pd)),(6,.box 233 (iu (sumH Pd k).l))]) nb ?_ ?_
 ·refine⟨_,zai (fun o=>bif Nat.beq o 4 then 13 else o) _ _ ?_ ?_ rfl,0,qp,rfl⟩
  ·exact jap
  ·exact⟨⟨rfl,rfl⟩,⟨zbD rfl,zcU _ _⟩,trivial⟩
 rintro m st ⟨k,hk,rfl⟩;refine jdV ?_;refine cX ?_ ?_<;>intro h
 ·have hlt:k<nb:=qw;clear h;have hnx:sumH Pd (k+1)=blk8 (sumH Pd k) ((Pd.drop (64*k)).take 64):=rfl;have hcl:((Pd.drop (64*k)).take 64).length=64:=qal;have hcb:isB ((Pd.drop (64*k)).take 64):=fun y hy=>hpb y (qcC (qbI hy))
  have hcut:=bs_cut (xs:=Pd) (a:=64*k) (b:=64*1);generalize (Pd.drop (64*k)).take 64=Bl at hnx hcl hcb hcut;generalize sumH Pd k=v at hnx⊢;refine G [9] ?_;refine zab (zcY (L:=(some (_,_))) (H:=(some (_,_))) U34 sz5 ⟨qp,(show _=64*k by omega)⟩ ⟨qp,(show _=64*k+64 by omega)⟩ qp qp (show _=64 by omega) (show _=64*k by omega)) rfl rfl ⟨rfl,trivial⟩ ?_;refine zaU (fun n=>32+1000*n) (block_s v Bl hcl hcb) rfl (vl_cons (iuA_view _ _ _) (vl_psl rfl (by rw[bs_length];omega) hcut rfl)) func182 rfl rfl qA qA rfl rfl rfl qr rfl rfl rfl ?_
  refine jds ?_;refine⟨m-1,qp,_,zai id _ _ ?_ ?_ rfl,k+1,qp,rfl⟩
  ·refine je6 ?_;show AV.p (.v (.int .i64 (64*(k:Int)+64)))=AV.p (.v (.int .i64 (64*((k+1:Nat):Int))))
   congr 3<;>omega
  ·rw[hnx];exact⟨⟨rfl,rfl⟩,⟨zbD rfl,zcU _ _⟩,trivial⟩
 have hge:k=nb:=qw;clear h;subst hge;generalize sumH Pd k=v;refine G [3] ?_;refine zab (zdD 33 U34 eo5 qp qp qy) rfl rfl ⟨rfl,trivial⟩ ?_;refine G [9] ?_;refine zag (fun m st=>∃k:Nat,m+k=8∧st=St.of [(8,.row 8),(34,.agg (iu v.l)),(35,.p (.v (.int .i64 k)))] [(8,.row 5 1 (4*k) (bs (outK v k)))]) 8 ?_ ?_
 ·refine⟨_,zai (fun _=>33) _ _ ?_ ?_ rfl,0,qp,rfl⟩
  ·exact jap
  ·exact jbn
 rintro m st ⟨k,hk,rfl⟩;refine G [5] ?_;refine cX ?_ ?_<;>intro h
 ·have hlt:k<8:=qw;clear h;have g1:=zjT (xs:=v.l) (i:=k) hlt;have g2:=outK_next v k hlt;generalize v.l.getD k 0=x at g1 g2;refine G [5] ?_;refine zaa (zeJ U233 sz33 U33 rfl qp qp qV) rfl rfl ?_;refine G [5] ?_;refine jdJ ?_;refine G [2] ?_;refine jdJ ?_;refine G [2] ?_;refine jdJ ?_;refine G [3] ?_;refine zab (xs:=((bs (w4 x)).map AV.p)) (zae (es:=((bs (w4 x)).map AV.p)) (cs:=(bs (w4 x))) 50 U34 sz5 zc5 (qbk rfl) (qbk rfl) rfl qq qq qq (qbk rfl)) qF rfl ⟨rfl,trivial⟩ ?_
  refine zab (zam 51 U34 eo5 (zas) qy qp (show _=4*(k+1)by omega) rfl) rfl rfl ⟨rfl,rfl,rfl,trivial⟩ ?_;refine jdw ?_;refine⟨m-1,qp,_,zai (fun _=>51) _ _ ?_ ?_ rfl,k+1,qp,rfl⟩
  ·exact jap
  ·rw[←g2,bs_append];exact jbn
 have hge:k=8:=qw;clear h;subst hge;refine jdV ?_;refine yT (fun _=>8) ?_ ?_
 ·exact rfl
 ·exact jbn
theorem zi0(x:BitVec 32):BitVec.ofInt 32 (IntKind.u32.wrap (x.toNat:Int))=x:=by
 rw[qcl _ (by have:=x.isLt;omega),BitVec.ofInt_natCast,BitVec.ofNat_toNat,BitVec.setWidth_eq]
theorem bx(a b:Int):bits .xor .u32 a b=IntKind.u32.wrap ((BitVec.ofInt 32 a ^^^ BitVec.ofInt 32 b).toNat:Int):=rfl
theorem ba(a b:Int):bits .and .u32 a b=IntKind.u32.wrap ((BitVec.ofInt 32 a &&& BitVec.ofInt 32 b).toNat:Int):=rfl
theorem bo(a b:Int):bits .or .u32 a b=IntKind.u32.wrap ((BitVec.ofInt 32 a ||| BitVec.ofInt 32 b).toNat:Int):=rfl
theorem chR(e f g:Int):bits .xor .u32 g (bits .and .u32 e (bits .xor .u32 f g))=ch e f g:=by
 have hm:BitVec.ofInt 32 (if IntKind.u32.signed then -1 else IntKind.u32.max)=BitVec.allOnes 32:=qS;unfold ch xr an nt;simp only[bx,ba,zi0,hm]
 congr 2
 apply congrArg;apply BitVec.eq_of_getLsbD_eq;intro i hi;simp only[BitVec.getLsbD_xor,BitVec.getLsbD_and,BitVec.getLsbD_allOnes,hi,decide_true];cases (BitVec.ofInt 32 e).getLsbD i<;>cases (BitVec.ofInt 32 f).getLsbD i<;>cases (BitVec.ofInt 32 g).getLsbD i<;>rfl
theorem mjR(a b c:Int):bits .or .u32 (bits .and .u32 a b) (bits .and .u32 c (bits .or .u32 a b))=mj a b c:=by
 unfold mj xr an;simp only[bx,ba,bo,zi0]
 congr 2
 apply congrArg;apply BitVec.eq_of_getLsbD_eq;intro i hi;simp only[BitVec.getLsbD_xor,BitVec.getLsbD_and,BitVec.getLsbD_or];cases (BitVec.ofInt 32 a).getLsbD i<;>cases (BitVec.ofInt 32 b).getLsbD i<;>cases (BitVec.ofInt 32 c).getLsbD i<;>rfl
theorem ze9(a b:Int):ad a b=ad b a:=by unfold ad;rw[Int.add_comm]
theorem zfI{xs:List Int}{i:Nat}(h:i<xs.length):(pu xs)[i]?=some (qi (xs.getD i 0)):=
 pu_at qaF
theorem re_rowpsl{st:St}(t:Nat){o n size:Nat}{e:TypeId}{cs:List PV}(ht:st.tmps t=.row o)(ho:st.heap o=qk e size n cs):Re st (st.put (some t) (.psl o 0 n size)):=by
 rintro w0 A nt a w ⟨⟨S,m,hm,hj,hr⟩,hsz,hd⟩;refine⟨⟨S,m,by rw[zes];exact hm,hj,fun t'=>?_⟩,hsz,hd⟩
 by_cases e1:t'=t
 ·subst e1;have h1:=hr t';rw[ht]at h1;simp only[Rep]at h1;obtain⟨v,h2,h3,h4⟩:=hm.live o _ ho;rw[h1.1]at h2;cases h2;simp only[St.put,qcq,cond_true,Rep];obtain⟨us,_,_,h5⟩:=h3;rcases h5 with⟨h6,h7⟩|⟨g,cap,cur,fz,h6,_,_,_,h7,_⟩
  ·subst h7;exact⟨none,0,h6,Nat.le_refl _,.inl rfl⟩
  ·exact⟨some ⟨g,0,none⟩,cap,h6,h7,.inr ⟨g,_,h1.1,by rw[h6];rfl,rfl⟩⟩
 ·have hb:Nat.beq t' t=false:=nbeq e1;simp only[St.put,hb,cond_false];exact hr t'
theorem compr_s(v0:V8)(xs:List Int):Fn prog 164 [ql 8 1 (pu v0.l),ql 16 1 (pu (wp xs 64)),ql 64 1 (pu RK)] (.row 0) [(0,.row 33 1 8 (pu (blk8 v0 xs).l))]:=by
 have hW:=wp_len xs 64;unfold blk8 wds;generalize wp xs 64=W at hW⊢;refine fnI fun w0 A=>?_
 refine G [6] ?_;refine jf0 (zbe 22 U213 sz33) ?_;refine mP rfl rfl ?_;refine zab (zam 24 U213 eo33 (zbc) qy qp rfl rfl) rfl rfl ⟨rfl,rfl,trivial⟩ ?_;refine G [4] ?_;refine zag (fun m st=>∃k:Nat,m+k=48∧st=St.of [(0,ql 8 1 (pu v0.l)),(2,ql 64 1 (pu RK)),(7,.row 7)] [(7,.row 33 1 (16+k) (pu (ext W k)))]) 48 ?_ ?_
 ·refine⟨_,zai (fun _=>24) _ _ ?_ ?_ rfl,0,qp,rfl⟩
  ·(repeat(first|exact trivial|(refine⟨⟨qJ,rfl⟩,?_⟩)))
  ·exact⟨⟨rfl,rfl⟩,trivial⟩
 rintro m st ⟨k,hk,rfl⟩;refine G [7,9,0] ?_;refine cX ?_ ?_<;>intro h
 ·have hlt:k<48:=qw;clear h;have hel:=ze0 hW k;have g15:=zfI (xs:=ext W k) (i:=16+k-15) qp;have g16:=zfI (xs:=ext W k) (i:=16+k-16) qp;have g7:=zfI (xs:=ext W k) (i:=16+k-7) qp;have g2:=zfI (xs:=ext W k) (i:=16+k-2) qp;have hnx:pu (ext W (k+1))=pu (ext W k)++[qi (nx (ext W k) (16+k))]:=by rw[pu_push];rfl
  refine G [13] ?_;refine zab (zao U213 sz33 qp qp (show _=16+k-15 by omega)) rfl rfl ⟨rfl,trivial⟩ ?_;refine jf0 (zaQ U33 rfl g15) ?_;refine cV (zcr _ _) ?_;refine G [3] ?_;refine zab (zao U213 sz33 qp qp (show _=16+k-15 by omega)) rfl rfl ⟨rfl,trivial⟩ ?_;refine jf0 (zaQ U33 rfl g15) ?_;refine cV (zcr _ _) ?_;refine zaa (zaV qG rfl) rfl rfl ?_;refine G [3] ?_;refine zab (zao U213 sz33 qp qp (show _=16+k-15 by omega)) rfl rfl ⟨rfl,trivial⟩ ?_
  refine jf0 (zaQ U33 rfl g15) ?_;refine zaa (zbH qp rfl) rfl rfl ?_;refine zaa (zaV qG (show _=s0 _ from rfl)) rfl rfl ?_;refine G [7] ?_;refine zab (zao U213 sz33 qp qp (show _=16+k-2 by omega)) rfl rfl ⟨rfl,trivial⟩ ?_;refine jf0 (zaQ U33 rfl g2) ?_;refine cV (zcr _ _) ?_;refine G [3] ?_;refine zab (zao U213 sz33 qp qp (show _=16+k-2 by omega)) rfl rfl ⟨rfl,trivial⟩ ?_;refine jf0 (zaQ U33 rfl g2) ?_
  refine cV (zcr _ _) ?_;refine zaa (zaV qG rfl) rfl rfl ?_;refine G [3] ?_;refine zab (zao U213 sz33 qp qp (show _=16+k-2 by omega)) rfl rfl ⟨rfl,trivial⟩ ?_;refine jf0 (zaQ U33 rfl g2) ?_;refine zaa (zbH qp rfl) rfl rfl ?_;refine zaa (zaV qG (show _=s1 _ from rfl)) rfl rfl ?_;refine G [2,9,0] ?_;refine za9 7 qq ?_;refine G [4] ?_;refine zab (zao U213 sz33 qp qp (show _=16+k-16 by omega)) rfl rfl ⟨rfl,trivial⟩ ?_
  refine jf0 (zaQ U33 rfl g16) ?_;refine G [5] ?_;refine zab (zao U213 sz33 qp qp (show _=16+k-7 by omega)) rfl rfl ⟨rfl,trivial⟩ ?_;refine jf0 (zaQ U33 rfl g7) ?_;refine G [2] ?_;refine jfZ (zbf (show _=nx (ext W k) (16+k)from rfl)) ?_;refine zab (xs:=[qe (nx (ext W k) (16+k))]) (zae (es:=[qe (nx (ext W k) (16+k))]) (cs:=[qi (nx (ext W k) (16+k))]) 86 U213 sz33 zc33 (qbk rfl) (qbk rfl) rfl qq qq qq (qbk rfl)) qF rfl ⟨rfl,trivial⟩ ?_
  refine zab (zam 87 U213 eo33 (zas) qy qp rfl rfl) rfl rfl ⟨rfl,rfl,rfl,trivial⟩ ?_;refine G [2,9,0] ?_;refine⟨m-1,qp,_,zai (fun _=>87) _ _ ?_ ?_ rfl,k+1,qp,rfl⟩
  ·(repeat(first|exact trivial|(refine⟨⟨qJ,rfl⟩,?_⟩)))
  ·rw[hnx];exact⟨⟨rfl,rfl⟩,trivial⟩
 have hge:k=48:=qw;clear h;subst hge;have hWl:=ze0 hW 48;generalize ext W 48=W2 at hWl⊢;refine G [5] ?_;refine zaa (zaz U33 rfl qt) rfl rfl ?_;refine G [2] ?_;refine zaa (zaz U33 rfl qt) rfl rfl ?_;refine G [2] ?_;refine zaa (zaz U33 rfl qt) rfl rfl ?_;refine G [2] ?_;refine zaa (zaz U33 rfl qt) rfl rfl ?_;refine G [2] ?_;refine zaa (zaz U33 rfl qt) rfl rfl ?_;refine G [2] ?_;refine zaa (zaz U33 rfl qt) rfl rfl ?_
 refine G [2] ?_;refine zaa (zaz U33 rfl qt) rfl rfl ?_;refine G [2] ?_;refine zaa (zaz U33 rfl qt) rfl rfl ?_;refine G [15] ?_;refine zag (fun m st=>∃k:Nat,m+k=64∧st=St.of [(0,ql 8 1 (pu v0.l)),(2,ql 64 1 (pu RK)),(7,.row 7),(11,qe (rn RK W2 v0 k).a),(12,qe (rn RK W2 v0 k).b),(13,qe (rn RK W2 v0 k).c),(14,qe (rn RK W2 v0 k).d),(15,qe (rn RK W2 v0 k).e),(16,qe (rn RK W2 v0 k).f),(17,qe (rn RK W2 v0 k).g),(18,qe (rn RK W2 v0 k).h),(19,qd k)] [(7,.row 33 1 64 (pu W2))]) 64 ?_ ?_
 ·refine⟨_,zai id _ _ ?_ ?_ rfl,0,qp,rfl⟩
  ·(repeat(first|exact trivial|(refine⟨⟨qJ,rfl⟩,?_⟩)))
  ·exact⟨⟨rfl,rfl⟩,trivial⟩
 rintro m st ⟨k,hk,rfl⟩;refine G [6,9,0] ?_;refine cX ?_ ?_<;>intro h
 ·have hlt:k<64:=qw;clear h;have gk:=zfI (xs:=RK) (i:=k) hlt;have gw:=zfI (xs:=W2) (i:=k) qp;have hs:rn RK W2 v0 (k+1)=rnd (RK.getD k 0) (W2.getD k 0) (rn RK W2 v0 k):=rfl;generalize rn RK W2 v0 k=v at hs⊢;generalize RK.getD k 0=ck at gk hs;generalize W2.getD k 0=wk at gw hs
  (repeat(first|refine zad ?_|refine zaj ?_|refine zal ?_|refine zaq ?_|refine zar ?_|refine zat ?_|refine zaZ ?_|refine za8 ?_|refine zaW ?_|refine zbd ?_|refine zbi ?_|refine zbq rfl ?_))
  refine G [3] ?_;refine cV (zcr _ _) ?_;refine mP rfl rfl ?_;refine cV (zcr _ _) ?_;refine zaa (zaV qG rfl) rfl rfl ?_;refine mP rfl rfl ?_;refine cV (zcr _ _) ?_;refine zaa (zaV qG rfl) rfl rfl ?_;refine G [5] ?_;refine zaa (zaV qG rfl) rfl rfl ?_;refine zaa (zaV qG rfl) rfl rfl ?_;refine zaa (zaV qG (chR _ _ _)) rfl rfl ?_;refine G [3] ?_;refine zaa (zaL U213 sz33 qp qp (by rw[qbt,qbU])) rfl rfl ?_
  refine zaa (zaz U33 rfl (by rw[qbF];exact gk)) rfl rfl ?_;refine G [3] ?_;refine zab (zao U213 sz33 qp qp (show _=k by omega)) rfl rfl ⟨rfl,trivial⟩ ?_;refine jf0 (zaQ U33 rfl gw) ?_;refine jfZ (zbf (show _=shOne ck wk v from rfl)) ?_;refine G [2] ?_
  (repeat(first|refine zad ?_|refine zaj ?_|refine zal ?_|refine zaq ?_|refine zar ?_|refine zat ?_|refine zaZ ?_|refine za8 ?_|refine zaW ?_|refine zbd ?_|refine zbi ?_|refine zbq rfl ?_))
  refine G [2] ?_;refine cV (zcr _ _) ?_;refine mP rfl rfl ?_;refine cV (zcr _ _) ?_;refine zaa (zaV qG rfl) rfl rfl ?_;refine mP rfl rfl ?_;refine cV (zcr _ _) ?_;refine zaa (zaV qG rfl) rfl rfl ?_;refine G [2] ?_;refine zaa (zaV qG rfl) rfl rfl ?_;refine G [3] ?_;refine zaa (zaV qG rfl) rfl rfl ?_;refine zaa (zaV qG rfl) rfl rfl ?_;refine zaa (zaV qG (mjR _ _ _)) rfl rfl ?_;refine jfZ (zbf (show _=two v from rfl)) ?_
  refine G [2] ?_
  (repeat(first|refine zad ?_|refine zaj ?_|refine zal ?_|refine zaq ?_|refine zar ?_|refine zat ?_|refine zaZ ?_|refine za8 ?_|refine zaW ?_|refine zbd ?_|refine zbi ?_|refine zbq rfl ?_))
  refine G [3] ?_;refine jfZ (zbf (show _=ad (shOne ck wk v) (two v)from rfl)) ?_;refine G [5] ?_;refine jfZ (zbf (show _=ad v.d (shOne ck wk v)from rfl)) ?_;refine G [12] ?_
  (repeat(first|refine zad ?_|refine zaj ?_|refine zal ?_|refine zaq ?_|refine zar ?_|refine zat ?_|refine zaZ ?_|refine za8 ?_|refine zaW ?_|refine zbd ?_|refine zbi ?_|refine zbq rfl ?_))
  refine G [5,9,0] ?_;refine⟨m-1,qp,_,zai id _ _ ?_ ?_ rfl,k+1,qp,rfl⟩
  ·rw[hs]
   (repeat(first|exact trivial|(refine⟨⟨qJ,rfl⟩,?_⟩)))
  ·exact⟨⟨rfl,rfl⟩,trivial⟩
 have hge:k=64:=qw;clear h;subst hge;generalize rn RK W2 v0 64=v;refine G [5] ?_;refine zaa (zaz U33 rfl qt) rfl rfl ?_;refine mP rfl rfl ?_;refine jfZ (zbf (ze9 _ _)) ?_;refine G [2] ?_;refine zaa (zaz U33 rfl qt) rfl rfl ?_;refine mP rfl rfl ?_;refine jfZ (zbf (ze9 _ _)) ?_;refine G [2] ?_;refine zaa (zaz U33 rfl qt) rfl rfl ?_;refine mP rfl rfl ?_;refine jfZ (zbf (ze9 _ _)) ?_;refine G [2] ?_;refine zaa (zaz U33 rfl qt) rfl rfl ?_
 refine mP rfl rfl ?_;refine jfZ (zbf (ze9 _ _)) ?_;refine G [2] ?_;refine zaa (zaz U33 rfl qt) rfl rfl ?_;refine mP rfl rfl ?_;refine jfZ (zbf (ze9 _ _)) ?_;refine G [2] ?_;refine zaa (zaz U33 rfl qt) rfl rfl ?_;refine mP rfl rfl ?_;refine jfZ (zbf (ze9 _ _)) ?_;refine G [2] ?_;refine zaa (zaz U33 rfl qt) rfl rfl ?_;refine mP rfl rfl ?_;refine jfZ (zbf (ze9 _ _)) ?_;refine G [2] ?_;refine zaa (zaz U33 rfl qt) rfl rfl ?_
 refine mP rfl rfl ?_;refine jfZ (zbf (ze9 _ _)) ?_;refine zab (xs:=(iu (v.plus v0).l)) (zae (es:=(iu (v.plus v0).l)) (cs:=(pu (v.plus v0).l)) 214 U213 sz33 zc33 (qbk rfl) (qbk rfl) rfl qq qq qq (qbk rfl)) qF rfl ⟨rfl,trivial⟩ ?_;refine G [3,9,0] ?_;refine yT (fun _=>214) ?_ ?_
 ·exact rfl
 ·exact⟨⟨rfl,rfl⟩,trivial⟩
def isU(x:Int):Prop:=0≤x∧x<4294967296
theorem ad_U(a b:Int):isU (ad a b):=by unfold ad isU;rw[IntKind.wrap_u32];omega
theorem plus_U(v h:V8):∀x∈(v.plus h).l,isU x:=by
 intro x hx;simp only[V8.l,V8.plus,qbA,qcB,or_false]at hx;rcases hx with rfl|rfl|rfl|rfl|rfl|rfl|rfl|rfl<;>exact ad_U _ _
theorem sumH_U(P:List Int):∀k,∀x∈(sumH P k).l,isU x
 |0=>by
  intro x hx;simp only[sumH,V8.l,H0,qbA,qcB,or_false]at hx;rcases hx with rfl|rfl|rfl|rfl|rfl|rfl|rfl|rfl<;>(unfold isU;omega)
 |k+1=>plus_U _ _
theorem w4_eq{x:Int}(h:isU x):w4 x=[x/16777216%256,x/65536%256,x/256%256,x/1%256]:=by
 have e:∀k,sr x k=x/2^k:=fun k=>qbG _ (by exact Int.le_of_lt (Int.pow_pos qp))
 simp only[w4,e,IntKind.wrap_u8];rw[show(2:Int)^24=16777216 from rfl,show(2:Int)^16=65536 from rfl,show(2:Int)^8=256 from rfl,Int.ediv_one]
theorem zhq(n:Nat)(xs:List Int)(hn:xs.length=n)(hb:isB xs):Fn prog 123 [.p (.sl n 1 (bs xs))] (bRes (padE n)) (bNew (padE n) 32 (shaD xs)):=by
 have hP:=refPad_s n xs hn;have hpl:=ziK xs;have hpb:=shaPad_B hb;have hv:shaV xs=sumH (zcn xs) (zbE n/64):=by unfold shaV;rw[hn]
 have hd:shaD xs=outK (shaV xs) 8:=rfl;rw[hn]at hpl;refine fnI fun w0 A=>?_
 by_cases hbig:1000<n
 ·exact jbg
 have he:padE n=0:=by unfold padE;rw[if_neg hbig]
 obtain⟨e1,e2⟩:=zaM he 32 (shaD xs);obtain⟨e3,e4⟩:=zaM he (zbE n) (zcn xs);rw[e3,e4]at hP;rw[e1,e2];have hpd:64*(zbE n/64)=zbE n:=by have:=padLen_64 n;omega
 have hpm:zbE n≤2000:=by have:=zjE n;unfold zbE;omega
 clear e1 e2 e3 e4;generalize zcn xs=Pd at hP hpl hpb hv;rw[hd,hv];clear hd hv;generalize zbE n=pn at hP hpl hpd hpm⊢;obtain⟨nb,hnb⟩:∃nb,pn/64=nb:=⟨_,rfl⟩;rw[hnb]at hpd⊢;refine G [8] ?_;refine cV hP ?_;refine jd2 ?_;refine cX ?_ ?_<;>intro h
 ·cases h
 clear h;refine G [3] ?_;refine zab (xs:=(iu H0.l)) (zae (es:=(iu H0.l)) (cs:=(pu H0.l)) 23 U213 sz33 zc33 (qbk rfl) (qbk rfl) rfl qq qq qq (qbk rfl)) qF rfl ⟨rfl,trivial⟩ ?_;refine G [4] ?_;refine zaU (fun n=>24+1000*n) (refRounds_s) rfl rfl func163 rfl rfl qq qq rfl rfl rfl qr rfl rfl rfl ?_;refine G [4] ?_;refine za3 (re_rowpsl 4 (o:=17) rfl rfl) ?_;refine zag (fun m st=>∃k:Nat,m+k=nb∧st=St.of [(4,.psl 4 (64*k) (pn-64*k) 1),(6,.row 6),(7,.row 7)] [(4,.row 5 1 pn (bs Pd)),(6,.row 33 1 8 (pu (sumH Pd k).l)),(7,.row 33 1 64 (pu RK))]) nb ?_ ?_
 ·refine⟨_,zai (fun o=>bif Nat.beq o 4 then 17 else bif Nat.beq o 6 then 23 else 24) _ _ ?_ ?_ rfl,0,qp,rfl⟩
  ·exact jap
  ·exact jbr
 rintro m st ⟨k,hk,rfl⟩;refine jds ?_;refine cX ?_ ?_<;>intro h
 ·have hlt:k<nb:=qw;clear h;have hnx:sumH Pd (k+1)=blk8 (sumH Pd k) ((Pd.drop (64*k)).take 64):=rfl;have hcl:((Pd.drop (64*k)).take 64).length=64:=qal;have hcb:isB ((Pd.drop (64*k)).take 64):=fun y hy=>hpb y (qcC (qbI hy))
  have hce:∀i,i<64→((Pd.drop (64*k)).take 64)[i]?=Pd[64*k+i]?:=fun i hi=>by rw[qbR,if_pos hi,qbF]
  generalize (Pd.drop (64*k)).take 64=Bl at hnx hcl hcb hce;generalize sumH Pd k=v at hnx⊢;refine G [4] ?_;refine zab (zfW 28 U213 eo33 zr33 rfl qp qp qp qy rfl) rfl rfl ⟨rfl,trivial⟩ ?_;refine G [8] ?_;refine zag (fun m2 st=>∃i:Nat,m2+i=64∧st=St.of [(4,.psl 4 (64*k) (pn-64*k) 1),(6,.row 6),(7,.row 7),(8,.row 8),(9,.p (.v (.int .i64 i)))] [(4,.row 5 1 pn (bs Pd)),(6,.row 33 1 8 (pu v.l)),(7,.row 33 1 64 (pu RK)),(8,.row 33 1 16 (pu (wp Bl i)))]) 64 ?_ ?_
  ·refine⟨_,zai (fun o=>bif Nat.beq o 8 then 28 else o) _ _ ?_ ?_ rfl,0,qp,rfl⟩
   ·exact jap
   ·rw[wp_zero];exact jbT
  rintro m2 st ⟨i,hi,rfl⟩;refine jdw ?_;refine cX ?_ ?_<;>intro h
  ·have hi2:i<64:=qw;clear h;obtain⟨x,hx⟩:∃x,Bl[i]?=some x:=⟨Bl[i]'qp,List.getElem?_eq_getElem qp⟩;have hxb:=hcb x (qbo hx);have g1:=zfV ((hce i hi2).symm.trans hx);have hwb:=wd_bd (i:=i) hcb;have hlen:=wp_len Bl i;have g2:=pu_at (wp_at (xs:=Bl) hi2)
   have g4:setR (pu (wp Bl i)) (i/4) [.v (.int .u32 (wd Bl i (i/4)*256+x))]=pu (wp Bl (i+1)):=by
    rw[pu_set (by rw[hlen];omega),wp_step hi2 hx]
   have g5:(pu (wp Bl i)).length=16:=by rw[pu_len];exact hlen
   refine G [3] ?_;refine za9 9 qq ?_;refine G [2] ?_;refine jdB ?_;refine G [2] ?_;refine jdB ?_;refine zab (zao U213 sz33 qp qp (show _=i/4 by omega)) rfl rfl ⟨rfl,trivial⟩ ?_;refine jf0 (zaQ U33 rfl g2) ?_;refine G [3] ?_;refine zaa (a_indexAddrV U34 sz5 qp qp (show _=64*k+i by omega)) rfl rfl ?_;refine jf0 (zaQ U5 rfl g1) ?_;refine G [2] ?_;refine zab (zao U213 sz33 qp qp (show _=i/4 by omega)) rfl rfl ⟨rfl,trivial⟩ ?_
   refine zab (zbx (Y:=.p _) sz33 rfl rfl qam qH g4) rfl rfl ⟨rfl,trivial⟩ ?_;refine jdw ?_;refine⟨m2-1,qp,_,zai id _ _ ?_ ?_ rfl,i+1,qp,rfl⟩
   ·exact jap
   ·exact jbT
  have hi3:i=64:=qw;clear h;subst hi3;refine G [6] ?_;refine zaU (fun n=>52+1000*n) (compr_s v Bl) rfl rfl func164 rfl rfl qq qq rfl rfl rfl qr rfl rfl rfl ?_;refine G [4] ?_;refine zaa (a_sliceV (L:=(some (_,_))) (H:=none) U34 sz5 ⟨qp,(show _=64 by omega)⟩ rfl qp qp (show _=pn-64*(k+1)by omega) (show _=64*(k+1)by omega)) rfl rfl ?_;refine jdR ?_;refine⟨m-1,qp,_,zai (fun o=>bif Nat.beq o 6 then 52 else o) _ _ ?_ ?_ rfl,k+1,qp,rfl⟩
  ·exact jap
  ·rw[hnx];exact jbr
 have hge:k=nb:=qw;clear h;subst hge;have hU:=sumH_U Pd k;generalize sumH Pd k=v at hU⊢;refine G [7] ?_;refine za3 (zca 10 10 5 1 rfl rfl) ?_;refine G [6] ?_;refine zag (fun m st=>∃k:Nat,m+k=8∧st=St.of [(10,.row 10),(55,.row 6),(56,.p (.v (.int .i64 8))),(57,.p (.v (.int .i64 k)))] [(10,.row 5 1 (4*k) (bs (outK v k))),(6,.row 33 1 8 (pu v.l))]) 8 ?_ ?_
 ·refine jdL ?_ ?_
  ·exact jap
  ·exact jaJ
 rintro m st ⟨k,hk,rfl⟩;refine G [5] ?_;refine cX ?_ ?_<;>intro h
 ·have hlt:k<8:=qw;clear h;have g1:=zfI (xs:=v.l) (i:=k) hlt;have g2:=outK_next v k hlt;have hx:isU (v.l.getD k 0):=hU _ (qbo (show v.l[k]?=some _ by rw[List.getD_eq_getElem?_getD,List.getElem?_eq_getElem (show k<v.l.length from hlt)];rfl));generalize v.l.getD k 0=x at g1 g2 hx;have hw:=w4_eq hx;generalize w4 x=ws at hw g2;have hwl:ws.length=4:=by rw[hw];rfl
  obtain⟨hx0,hx1⟩:=hx;refine G [6] ?_;refine jes ?_;refine G [4] ?_;refine zab (xs:=(iu [16777216,65536,256,1])) (zae (es:=(iu [16777216,65536,256,1])) (cs:=(pu [16777216,65536,256,1])) 61 U213 sz33 zc33 (qbk rfl) (qbk rfl) rfl qq qq qq (qbk rfl)) qF rfl ⟨rfl,trivial⟩ ?_;refine G [4] ?_;refine zag (fun m2 st=>∃j:Nat,m2+j=4∧st=St.of [(10,.row 10),(12,.p (.v (.int .u32 x))),(55,.row 6),(56,.p (.v (.int .i64 8))),(57,.p (.v (.int .i64 k))),(61,.row 61),(62,.p (.v (.int .i64 4))),(63,.p (.v (.int .i64 j)))] [(10,.row 5 1 (4*k+j) (bs (outK v k++ws.take j))),(6,.row 33 1 8 (pu v.l)),(61,.row 33 1 4 (pu [16777216,65536,256,1]))]) 4 ?_ ?_
  ·refine jdL ?_ ?_
   ·exact jap
   ·rw[qcb,List.append_nil];exact jbr
  rintro m2 st ⟨j,hj,rfl⟩;refine G [5] ?_;refine cX ?_ ?_<;>intro h
  ·have hj2:j<4:=qw;clear h
   obtain⟨u,hu,hu1,hwj,hq⟩:∃u,(pu [16777216,65536,256,1])[j]?=some (.v (.int .u32 u))∧(1≤u∧u≤16777216)∧ws[j]?=some (x/u%256)∧0≤x/u∧x/u≤4294967295:=by
    rw[hw];have:j=0∨j=1∨j=2∨j=3:=qp;rcases this with rfl|rfl|rfl|rfl
    ·exact⟨16777216,rfl,qp,rfl,qp⟩
    ·exact⟨65536,rfl,qp,rfl,qp⟩
    ·exact⟨256,rfl,qp,rfl,qp⟩
    ·exact⟨1,rfl,qp,rfl,qp⟩
   have hwt:ws.take (j+1)=ws.take j++[x/u%256]:=by
    have hjl:j<ws.length:=qp;rw[qbs hjl]
    congr 2
    exact(qbl.1 hwj).2
   have hquo:IntKind.u32.wrap (x.tdiv u)=x/u:=by rw[Int.tdiv_eq_ediv_of_nonneg hx0];exact qcl _ hq
   refine G [6] ?_;refine jes ?_;refine G [6] ?_;refine zaa (zfs qp hquo) rfl rfl ?_;refine jdE ?_;refine zaa (zbn U33 U5 qaa) rfl rfl ?_;refine zab (xs:=[.p (.v (.int .u8 (x/u%256)))]) (zae (es:=[.p (.v (.int .u8 (x/u%256)))]) (cs:=[.v (.int .u8 (x/u%256))]) 73 U34 sz5 zc5 (qbk rfl) (qbk rfl) rfl qq qq qq (qbk rfl)) qF rfl ⟨rfl,trivial⟩ ?_;refine zab (zam 74 U34 eo5 (zas) qy qp (show _=4*k+(j+1)by omega) rfl) rfl rfl ⟨rfl,rfl,rfl,trivial⟩ ?_
   refine jdw ?_;refine⟨m2-1,qp,_,zai (fun o=>bif Nat.beq o 10 then 74 else o) _ _ ?_ ?_ rfl,j+1,qp,rfl⟩
   ·exact jap
   ·rw[hwt,←qby,←zce];exact jbr
  have hj3:j=4:=qw;clear h;subst hj3;refine jdC ?_;refine⟨m-1,qp,_,zai id _ _ ?_ ?_ rfl,k+1,qp,rfl⟩
  ·exact jap
  ·rw[←g2];have:ws=ws.take 4:=(qbC qp).symm;rw[this,qcP];exact jaJ
 have hge:k=8:=qw;clear h;subst hge;refine jdV ?_;refine yT (fun _=>10) ?_ ?_
 ·exact rfl
 ·exact jbn
end Go.Proofs.YtdiljgkijgiboaaGreatDoor
