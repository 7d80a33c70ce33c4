/- Used. -/
import Derived.Test.YtdiljgkijgiboaaGreatDoorSMa4
import Derived.Lib.AtoiAll
import Derived.Lib.LaidU8
import Derived.Shelf.Strings.Builder1
import Derived.Shelf.Strings.Builder2
import Derived.Shelf.Small.Bits
import Derived.Shelf.Small.Strs
import Derived.Shelf.Small.Wraps
import Derived.Shelf.Strings.BuilderF
import Derived.Shelf.Strings.BuilderK
import Derived.Shelf.Utf8.RuneCount
import Derived.Shelf.Strings.Builder2Cap
import Derived.Shelf.Strconv.Atoi
import Derived.Shelf.Strconv.Itoa0
import Derived.Shelf.Strconv.Itoa1
import Derived.Shelf.LaysM
import Derived.Shelf.Strconv.Itoa2
import Derived.Shelf.Strconv.Itoa3
import Derived.Shelf.Strconv.AtoiErrFast
import Derived.Shelf.Strconv.ParseIntEmpty
import Derived.Shelf.Strconv.AtoiFail
import Derived.Shelf.Strconv.Clone
import Derived.Shelf.Strconv.SyntaxError
import Derived.Shelf.LaysC
import Derived.Shelf.Strconv.ToError
import Derived.Shelf.Strconv.AtoiErr
import Derived.Shelf.Strconv.ErrVar
import Derived.Shelf.Strconv.Lower
import Derived.Shelf.Strconv.ParseUint10
import Derived.Shelf.Strconv.ParseUint10Empty
import Derived.Shelf.Strconv.ParseUint10Any
import Derived.Shelf.Strconv.ParseInt10
import Derived.Shelf.Strconv.AtoiLong
import Derived.Shelf.Strconv.AtoiInnerAll
import Derived.Shelf.Strconv.RangeError
import Derived.Shelf.Strconv.ToErrorRange
import Derived.Shelf.Strconv.AtoiAll
import Derived.Shelf.Strconv.ErrVarAll
import Derived.Shelf.Strconv.ParseUintEmpty
import Derived.Shelf.Strconv.ParseUint10b64
import Derived.Shelf.Strconv.ParseUint10b32
import Derived.Shelf.Strconv.ParseUint10b16
import Derived.Shelf.Strconv.ParseUint10b8
import Derived.Shelf.Strconv.ParseUint10At
import Derived.Shelf.Strconv.ParseInt10At64
import Derived.Shelf.Strconv.ParseInt10At32
import Derived.Shelf.Strconv.ParseInt10At16
import Derived.Shelf.Strconv.ParseInt10At8
import Derived.Shelf.Strconv.ParseInt10All
import Derived.Shelf.Strings.Search1
import Derived.Shelf.Strings.Search2
import Derived.Shelf.Strings.Search3
import Derived.Shelf.Strings.Cut
import Derived.Shelf.Strings.Count
import Derived.Shelf.Strings.Shaped
import Derived.Shelf.Strings.Prefix
import Derived.Shelf.Strings.Split
import Derived.Shelf.Strings.SplitShaped
import Derived.Shelf.Unicode.Decode
import Derived.Shelf.Strings.RuneCount
import Derived.Shelf.Strings.Explode
import Derived.Shelf.Bits.Mul64
import Derived.Shelf.Strings.Repeat
import Derived.Shelf.Unicode.DecodeSlow
import Derived.Shelf.Unicode.DecodeAny
import Derived.Shelf.Strings.BuilderCap
import Derived.Shelf.Slices.Turned
import Derived.Ground.Names2Prog
import Derived.Shelf.Slices.SearchI
import Derived.Ground.SlbCloneProg
import Derived.Shelf.Bytes.SlClone
import Derived.Ground.SlbNamesProg
import Derived.Shelf.Bytes.SlJoin
set_option linter.all false
set_option maxRecDepth 100000
namespace Go.Proofs.YtdiljgkijgiboaaGreatDoor
open Tryz
open Go.RowKit Go.Sort
def zgh(n:Int):Int:=4294967296-2^(32-n).toNat
theorem maskI_raw(n:Int)(h0:0≤n)(h1:n≤32):4294967295*2^(32-n).toNat%4294967296=zgh n:=by
 unfold zgh;rcases(show∃k:Nat,k≤32∧n=32-k from⟨(32-n).toNat,qp,qp⟩)with⟨k,hk,rfl⟩;have e:(32-(32-(k:Int))).toNat=k:=qp;rw[e]
 have hp:(2:Int)^k≤4294967296:=by
  rw[zci];have:=qbS (show 0<2 by decide) hk;omega
 have hq:=zdj k;generalize (2:Int)^k=p at hp hq;omega
theorem maskI_bd(n:Int)(h0:0≤n)(h1:n≤32):0≤zgh n∧zgh n≤4294967295:=by
 rw[←maskI_raw n h0 h1];omega
theorem mask_c(n:Int)(w:World)(h0:0≤n)(h1:n≤32):
 Calls prog 101 #[.int .i64 n] w fun e w'=>e=.returned (.int .u32 (zgh n))∧w=w':=by
 go_enter func101,ntmps101
 go_wp2
 go_ret
 exact⟨zdu (maskI_raw n h0 h1),rfl⟩
def bitI(a i:Int):Int:=a/2^(31-i).toNat%2
theorem zhf(x:Int)(h0:0≤x)(h1:x<4294967296):bits .and .u32 x 1=x%2:=
 zhG x 1 h0 h1 qp
theorem shr_bd(a:Int)(k:Nat)(h2:0≤a)(h3:a<4294967296):0≤a/2^k∧a/2^k<4294967296:=by
 obtain⟨b,rfl⟩:=qbp h2;rw[zci];have h:=Nat.div_le_self b (2^k);have e:(b:Int)/((2^k:Nat):Int)=((b/2^k:Nat):Int):=qG;rw[e];generalize b/2^k=c at h;omega
theorem bit_c(a i:Int)(w:World)(h0:0≤i)(h1:i≤31)(h2:0≤a)(h3:a<4294967296):
 Calls prog 158 #[.int .u32 a,.int .i64 i] w fun e w'=>e=.returned (.int .u32 (bitI a i))∧w=w':=by
 go_enter func158,ntmps158
 go_wp2
 go_ret
 have h:=shr_bd a (31-i).toNat h2 h3;exact⟨zdu (zhf _ h.1 h.2),rfl⟩
def zaD(a n:Int):Int:=if n<0∨32<n then 4 else if a%2^(32-n).toNat=0 then 0 else 3
theorem zir(a n:Int)(h0:0≤n)(h1:n≤32)(h2:0≤a)(h3:a<4294967296):bits .andNot .u32 a (zgh n)=a%2^(32-n).toNat:=by
 have hb:=maskI_bd n h0 h1;have hq:=zdj (32-n).toNat;have e:(4294967295-zgh n)=2^(32-n).toNat-1:=by unfold zgh;omega
 have h:=zhG a (32-n).toNat h2 h3 qp;rw[←h,←e,u32_andNot a _ h2 h3 hb.1 (by omega),u32_and a _ h2 h3 (by omega) (by omega)]
 congr 2
 omega
def topI(a n:Int):Int:=a-a%2^(32-n).toNat
theorem and_mask(a n:Int)(h0:0≤n)(h1:n≤32)(h2:0≤a)(h3:a<4294967296):bits .and .u32 a (zgh n)=topI a n:=by
 have hb:=maskI_bd n h0 h1;have h:=zir a n h0 h1 h2 h3;unfold topI;rw[←h,u32_andNot a _ h2 h3 hb.1 (by omega),u32_and a _ h2 h3 hb.1 (by omega)];obtain⟨x,rfl⟩:=qbp h2;obtain⟨m,hm⟩:=qbp hb.1;rw[hm];have hm1:m≤4294967295:=qp;have hx:x<4294967296:=qp;simp only[qbt]
 have key:x &&& m=x-(x &&& (4294967295-m)):=by
  have:BitVec.ofNat 32 x &&& BitVec.ofNat 32 m=BitVec.ofNat 32 x-(BitVec.ofNat 32 x &&& ~~~ (BitVec.ofNat 32 m)):=by
   generalize BitVec.ofNat 32 x=A;generalize BitVec.ofNat 32 m=B
   have hd:A=(A &&& B)+(A &&& ~~~B):=by
    rw[BitVec.add_eq_or_of_and_eq_zero]
    ·ext i hi;simp only[BitVec.getElem_or,BitVec.getElem_and,BitVec.getElem_not];cases A[i]<;>cases B[i]<;>rfl
    ·ext i hi;simp only[BitVec.getElem_and,BitVec.getElem_not,BitVec.getElem_zero];cases A[i]<;>cases B[i]<;>rfl
   have:A-(A &&& ~~~B)=(A &&& B):=by
    conv=>lhs;arg 1;rw[hd]
    exact BitVec.add_sub_cancel _ _
   exact this.symm
  have h:=congrArg BitVec.toNat this;rw[BitVec.toNat_sub,qcN,qcN,BitVec.toNat_not]at h;simp only[BitVec.toNat_ofNat]at h;rw[Nat.mod_eq_of_lt (show x<2^32 by omega),Nat.mod_eq_of_lt (show m<2^32 by omega)]at h;have e:2^32-1-m=4294967295-m:=qp;rw[e]at h;have hle:x &&& (4294967295-m)≤x:=Nat.and_le_left;rw[h];omega
 have hle:x &&& (4294967295-m)≤x:=Nat.and_le_left;rw[key];omega
theorem zgB(a n:Int)(h2:0≤a):0≤topI a n∧topI a n≤a:=by
 unfold topI;have hq:=zdj (32-n).toNat;have h1:=Int.emod_nonneg a (show(2:Int)^(32-n).toNat≠0 by omega)
 have h3:a%2^(32-n).toNat≤a:=by
  obtain⟨x,rfl⟩:=qbp h2;rw[zci]
  exact_mod_cast Nat.mod_le x (2^(32-n).toNat)
 omega
def zc2(a n x:Int):Bool:=decide (zaD a n=0∧topI x n=a)
def zbP(a n b m:Int):Bool:=decide (zaD b m=0∧n≤m)&&zc2 a n b
theorem zcv{a n:Int}(h:zaD a n=0):0≤n∧n≤32∧a%2^(32-n).toNat=0:=by
 unfold zaD at h
 split at h
 ·simp at h
 ·split at h
  ·exact⟨qp,qp,qah⟩
  ·simp at h
theorem low_step(a k:Int)(h0:0≤k)(h1:k≤31)(h2:0≤a):a%2^(32-k).toNat=bitI a k*2^(31-k).toNat+a%2^(32-(k+1)).toNat:=by
 unfold bitI;obtain⟨j,hj⟩:∃j:Nat,(31-k).toNat=j:=⟨_,rfl⟩;have e1:(32-k).toNat=j+1:=qp;have e2:(32-(k+1)).toNat=j:=qp;rw[e1,e2,hj];obtain⟨x,rfl⟩:=qbp h2;have h:=Nat.mod_mul (x:=x) (a:=2^j) (b:=2);rw[←qci]at h;have h':=congrArg (fun n:Nat=>(n:Int)) h;simp only[Int.natCast_emod,Int.natCast_add,Int.natCast_mul,Int.natCast_ediv,Int.natCast_pow]at h';have e3:((2:Nat):Int)=2:=rfl;rw[e3]at h';rw[h',Int.mul_comm,Int.add_comm]
theorem bitI_01(a k:Int):bitI a k=0∨bitI a k=1:=by unfold bitI;omega
theorem topI_step(a k:Int)(h0:0≤k)(h1:k≤31)(h2:0≤a):topI a (k+1)=topI a k+bitI a k*2^(31-k).toNat:=by
 unfold topI;rw[low_step a k h0 h1 h2];omega
def ord3(a b:Int):Int:=if a<b then -1 else if b<a then 1 else 0
def zdL(a n b m:Int):Int:=if a=b then ord3 n m else ord3 a b
theorem cmpU_g(a b:Int):Gives prog 176 #[.int .u32 a,.int .u32 b] (.int .i64 (ord3 a b)):=by
 intro w;have HE:=Lib.hid (show ord3 a b=if a<b then -1 else if b<a then 1 else 0 from rfl)
 go_enter func176,ntmps176
 go_wp2
 all_goals(go_ret;exact⟨zdu qaV,by(repeat' (first|exact Below.refl _ _|assumption|refine zj9 ?_ qah|refine zgv ?_ _|refine zka ?_|refine zgt ?_ _|refine bset ?_ ?_ _|(show _≤_;simp;omega)|(simp;done)))⟩)
theorem cmpI_g(a b:Int):Gives prog 177 #[.int .i64 a,.int .i64 b] (.int .i64 (ord3 a b)):=by
 intro w;have HE:=Lib.hid (show ord3 a b=if a<b then -1 else if b<a then 1 else 0 from rfl)
 go_enter func177,ntmps177
 go_wp2
 all_goals(go_ret;exact⟨zdu qaV,by(repeat' (first|exact Below.refl _ _|assumption|refine zj9 ?_ qah|refine zgv ?_ _|refine zka ?_|refine zgt ?_ _|refine bset ?_ ?_ _|(show _≤_;simp;omega)|(simp;done)))⟩)
def or2(x y:Int):Int:=if x=0 then y else x
def netA(a n:Int):List AV:=[qe a,qd n]
theorem nmask_s(n:Int)(h0:0≤n)(h1:n≤32):Fn prog 101 [qd n] (qe (zgh n)) []:=
 zhy (P:=prog) (f:=101) [.int .i64 n] (r:=.int .u32 (zgh n)) rfl fun w=>(mask_c n w h0 h1).mono fun _ _ h=>⟨h.1,h.2.symm⟩
theorem nbit_s(a i:Int)(h0:0≤i)(h1:i≤31)(h2:0≤a)(h3:a<4294967296):Fn prog 158 [qe a,qd i] (qe (bitI a i)) []:=
 zhy (P:=prog) (f:=158) [.int .u32 a,.int .i64 i] (r:=.int .u32 (bitI a i)) rfl fun w=>(bit_c a i w h0 h1 h2 h3).mono fun _ _ h=>⟨h.1,h.2.symm⟩
theorem zdk(a n:Int)(h2:0≤a)(h3:a<4294967296):Fn prog 99 [.agg (netA a n)] (qd (zaD a n)) []:=by
 obtain⟨E,hE⟩:∃E,zaD a n=E:=⟨_,rfl⟩;rw[hE];unfold zaD at hE;refine fnI fun w0 A=>?_
 refine G [15,2,1,9,0] ?_;refine cX ?_ ?_<;>intro h
 ·rw[if_pos (by simpa using h)]at hE;subst hE;refine G [5,9,0] ?_;exact yE
 have h1:¬(n<0∨32<n):=qw;clear h;rw[if_neg h1]at hE;have hM:=nmask_s n qp qp;have hA:=zir a n qp qp h2 h3;generalize zgh n=m at*;generalize a%2^(32-n).toNat=r at*;refine G [8] ?_;refine cK hM ?_;refine zaa (zaV qG hA) rfl rfl ?_;refine G [2,9,0] ?_;refine cX ?_ ?_<;>intro h
 ·rw[if_neg (by simpa using h)]at hE;subst hE;refine G [5,9,0] ?_;exact yE
 rw[if_pos (by simpa using h)]at hE;subst hE;refine G [6,9,0] ?_;exact yE
theorem nHas_s(a n x:Int)(h2:0≤a)(h3:a<4294967296)(h4:0≤x)(h5:x<4294967296):Fn prog 52 [.agg (netA a n),qe x] (qf (zc2 a n x)) []:=by
 have hC:=zdk a n h2 h3
 by_cases hf:zaD a n=0
 ·rw[show zc2 a n x=(topI x n==a)by rw[qb1];unfold zc2;simp[hf]];rw[hf]at hC;obtain⟨k0,k1,_⟩:=zcv hf;have hM:=nmask_s n k0 k1;have hA:=and_mask x n k0 k1 h4 h5;clear hf;generalize zgh n=m at*;generalize topI x n=t at*;refine fnI fun w0 A=>?_
  refine G [8] ?_;refine cK hC ?_;refine G [0,1,4] ?_;refine cK hM ?_;refine zaa (zaV qG hA) rfl rfl ?_;refine G [7,9,0] ?_;exact yE
 ·rw[show zc2 a n x=false by unfold zc2;simp[hf]];generalize zaD a n=e at*;refine fnI fun w0 A=>?_
  refine G [8] ?_;refine cK hC ?_;refine G [0,3,13,9,0] ?_;exact yE
theorem nHolds_s(a n b m:Int)(h2:0≤a)(h3:a<4294967296)(h4:0≤b)(h5:b<4294967296):Fn prog 178 [.agg (netA a n),.agg (netA b m)] (qf (zbP a n b m)) []:=by
 have hC:=zdk b m h4 h5;have hH:=nHas_s a n b h2 h3 h4 h5
 by_cases hf:zaD b m=0
 ·rw[hf]at hC
  by_cases hle:n≤m
  ·rw[show zbP a n b m=zc2 a n b by unfold zbP;simp[hf,hle]];clear hf;generalize zc2 a n b=r at*;refine fnI fun w0 A=>?_
   refine G [9] ?_;refine cK hC ?_;refine G [0,1,5,4,5] ?_;refine cK hH ?_;refine G [4,9,0] ?_;exact yE
  ·rw[show zbP a n b m=false by unfold zbP;simp[hle]];clear hf;refine fnI fun w0 A=>?_
   refine G [9] ?_;refine cK hC ?_;refine G [0,1,5,3,10,9,0] ?_;exact yE
 ·rw[show zbP a n b m=false by unfold zbP;simp[hf]];generalize zaD b m=e at*;refine fnI fun w0 A=>?_
  refine G [9] ?_;refine cK hC ?_;refine G [0,3,16,9,0] ?_;exact yE
theorem nOf_s(a n:Int)(h0:0≤n)(h1:n≤32)(h2:0≤a)(h3:a<4294967296):Fn prog 201 [qe a,qd n] (.tup [.agg (netA (topI a n) n),qd 0]) []:=by
 have hM:=nmask_s n h0 h1;have hA:=and_mask a n h0 h1 h2 h3;generalize zgh n=m at*;generalize topI a n=t at*;refine fnI fun w0 A=>?_
 refine G [9,3,2,3,8] ?_;refine cK hM ?_;refine zaa (zaV qG hA) rfl rfl ?_;refine G [6,9,0] ?_;exact yE
theorem zdy(a n:Int)(h2:0≤a)(h3:a<4294967296):Fn prog 116 [.agg (netA a n)] (qd (zaD a n)) []:=by
 obtain⟨E,hE⟩:∃E,zaD a n=E:=⟨_,rfl⟩;rw[hE];unfold zaD at hE;refine fnI fun w0 A=>?_
 refine G [15,2,1,9,0] ?_;refine cX ?_ ?_<;>intro h
 ·rw[if_pos (by simpa using h)]at hE;subst hE;refine G [5,9,0] ?_;exact yE
 have h1:¬(n<0∨32<n):=qw;clear h;rw[if_neg h1]at hE;obtain⟨n,rfl⟩:=qbp (show 0≤n by omega);refine G [9] ?_;refine zag (fun m st=>∃k:Nat,m+k=32∧(if a%2^(32-(k:Int)).toNat=0 then(0:Int)else 3)=E∧st=St.of [(1,.ref 1 0),(3,qd k)] [(1,.box 101 (netA a n))]) (32-n) ?_ ?_
 ·refine⟨_,zai id _ _ ?_ ?_ rfl,n,qp,hE,rfl⟩
  ·(repeat(first|exact trivial|(refine⟨⟨qJ,rfl⟩,?_⟩)))
  ·exact⟨⟨rfl,rfl⟩,trivial⟩
 rintro m st ⟨k,hk,hE,rfl⟩;refine G [6,9,0] ?_;refine cX ?_ ?_<;>intro h
 ·have hlt:k<32:=qw;clear h;have hB:=nbit_s a k qp qp h2 h3;have hL:=low_step a k qp qp h2;rcases bitI_01 a k with hb|hb
  ·rw[hb]at hB hL;refine G [8] ?_;refine cK hB ?_;refine G [9,9,0] ?_;refine⟨m-1,qp,_,zai id _ _ ?_ ?_ rfl,k+1,qp,?_,rfl⟩
   ·(repeat(first|exact trivial|(refine⟨⟨qJ,rfl⟩,?_⟩)))
   ·exact⟨⟨rfl,rfl⟩,trivial⟩
   ·rw[←hE,hL];simp
  ·rw[hb]at hB hL
   have hne:a%2^(32-(k:Int)).toNat≠0:=by
    have hp:=zdj (31-(k:Int)).toNat;have hq:=Int.emod_nonneg a (show(2:Int)^(32-((k:Int)+1)).toNat≠0 from by have:=zdj (32-((k:Int)+1)).toNat;omega);omega
   rw[if_neg hne]at hE;subst hE;refine G [8] ?_;refine cK hB ?_;refine G [0,1,7,9,0] ?_;exact yE
 have hge:k=32:=qw;clear h;subst hge;rw[if_pos (by simp[Int.emod_one])]at hE;subst hE;refine G [6,9,0] ?_;exact yE
theorem nrOf_s(a n:Int)(h0:0≤n)(h1:n≤32)(h2:0≤a)(h3:a<4294967296):Fn prog 117 [qe a,qd n] (.tup [.agg (netA (topI a n) n),qd 0]) []:=by
 obtain⟨n,rfl⟩:=qbp h0;refine fnI fun w0 A=>?_
 refine G [9,3,2,3,17] ?_;refine zag (fun m st=>∃k:Nat,m+k=n∧st=St.of [(0,qe a),(1,qd n),(4,.ref 4 0),(6,.ref 6 0),(7,qd k)] [(4,.box 101 (netA 0 0)),(6,.box 101 (netA (topI a k) n))]) n ?_ ?_
 ·have e0:topI a 0=0:=by
   unfold topI;have:a%2^(32-(0:Int)).toNat=a:=Int.emod_eq_of_lt h2 h3;omega
  refine⟨_,zai id _ _ ?_ ?_ rfl,0,qp,rfl⟩
  ·(repeat(first|exact trivial|(refine⟨⟨qJ,rfl⟩,?_⟩)))
  ·exact⟨⟨rfl,rfl⟩,⟨by rw[show((0:Nat):Int)=0 from rfl,e0];rfl,rfl⟩,trivial⟩
 rintro m st ⟨k,hk,rfl⟩;refine G [7,9,0] ?_;refine cX ?_ ?_<;>intro h
 ·have hlt:k<n:=qw;clear h;have hB:=nbit_s a k qp qp h2 h3;have hS:=topI_step a k qp qp h2;have hT:=zgB a ((k:Int)+1) h2;have hT0:=zgB a k h2;have hb:=bitI_01 a k;have hq:=zdj (31-(k:Int)).toNat;have hm:min (31-(k:Int)).toNat IntKind.u32.bits=(31-(k:Int)).toNat:=Nat.min_eq_left (by simp only[IntKind.bits];omega);have hx:0≤bitI a k*2^(31-(k:Int)).toNat:=by rcases hb with e|e<;>rw[e]<;>omega
  generalize bitI a k=b at*;generalize topI a k=t at*;generalize hu:topI a ((k:Int)+1)=u at*;refine G [8] ?_;refine cK hB ?_;refine mP rfl rfl ?_;refine zaa (ziu (show _=31-(k:Int)from qcd _ qp)) rfl rfl ?_;refine zaa (a_shl qp (show _=b*2^(31-(k:Int)).toNat by rw[hm];exact qcl _ qp)) rfl rfl ?_;refine zaa (zbf (show _=u by rw[←hS];exact qcl _ qp)) rfl rfl ?_;refine G [8,9,0] ?_;refine⟨m-1,qp,_,zai id _ _ ?_ ?_ rfl,k+1,qp,rfl⟩
  ·(repeat(first|exact trivial|(refine⟨⟨qJ,rfl⟩,?_⟩)))
  ·exact⟨⟨rfl,rfl⟩,⟨by rw[←hu];rfl,rfl⟩,trivial⟩
 have hge:k=n:=qw;clear h;subst hge;refine G [8,9,0] ?_;exact yE
theorem nrHas_s(a n x:Int)(hf:zaD a n=0)(h2:0≤a)(h3:a<4294967296)(h4:0≤x)(h5:x<4294967296):Fn prog 73 [.agg (netA a n),qe x] (qf (zc2 a n x)) []:=by
 have hC:=zdy a n h2 h3;obtain⟨k0,k1,_⟩:=zcv hf;have hO:=nrOf_s x n k0 k1 h4 h5
 have hq:eqL [.int .u32 (topI x n),.int .i64 n] [.int .u32 a,.int .i64 n]=decide (topI x n=a):=by
  rw[qb1,zaY,decide_eq_true_eq];simp
 rw[show zc2 a n x=decide (topI x n=a)by unfold zc2;simp[hf]];rw[hf]at hC;generalize topI x n=t at*;generalize decide (t=a)=r at*;refine fnI fun w0 A=>?_
 refine G [10] ?_;refine cK hO ?_;refine G [10,1,2] ?_;refine cK hC ?_;refine G [0,1,4] ?_;refine zaa (zcL U101 rfl rfl qq qq qq (c:=r) hq) rfl rfl ?_;refine G [4,9,0] ?_;exact yE
theorem nrHolds_s(a n b m:Int)(hf:zaD a n=0)(hg:zaD b m=0)(h2:0≤a)(h3:a<4294967296)(h4:0≤b)(h5:b<4294967296):Fn prog 189 [.agg (netA a n),.agg (netA b m)] (qf (zbP a n b m)) []:=by
 have hC:=zdy b m h4 h5;have hH:=nrHas_s a n b hf h2 h3 h4 h5;rw[hg]at hC
 by_cases hle:n≤m
 ·rw[show zbP a n b m=zc2 a n b by unfold zbP;simp[hg,hle]];generalize zc2 a n b=r at*;refine fnI fun w0 A=>?_
  refine G [9] ?_;refine cK hC ?_;refine G [0,1,5,4,5] ?_;refine cK hH ?_;refine G [4,9,0] ?_;exact yE
 ·rw[show zbP a n b m=false by unfold zbP;simp[hle]];refine fnI fun w0 A=>?_
  refine G [9] ?_;refine cK hC ?_;refine G [0,1,5,3,10,9,0] ?_;exact yE
theorem nOr_s(x y:Int):Fn prog 175 [ql 2 1 [qh x,qh y]] (qd (or2 x y)) []:=by
 obtain⟨E,hE⟩:∃E,or2 x y=E:=⟨_,rfl⟩;rw[hE];unfold or2 at hE;refine fnI fun w0 A=>?_
 refine G [16] ?_;refine zag (fun m st=>∃i:Nat,m+i=2∧(0<i→x=0)∧(1<i→y=0)∧st=St.of [(3,qd 0),(6,ql 2 1 [qh x,qh y]),(7,qd 2),(8,qd i)] []) 2 ?_ ?_
 ·refine⟨_,zai id _ _ qv qv rfl,0,qp,qp,qp,rfl⟩
 rintro m st ⟨i,hi,hx,hy,rfl⟩;refine G [5] ?_;refine cX ?_ ?_<;>intro h
 ·have hlt:i<2:=qw;clear h
  obtain⟨z,hz,hz0,hz1⟩:∃z:Int,([qh x,qh y]:List PV)[i*1]?=some (qh z)∧(z≠0→E=z)∧(z=0→(0<i+1→x=0)∧(1<i+1→y=0)):=by
   match i,hlt with
   |0,_=>exact⟨x,rfl,fun h=>by rw[if_neg h]at hE;exact hE.symm,fun h=>⟨fun _=>h,qp⟩⟩
   |1,_=>exact⟨y,rfl,fun h=>by rw[if_pos (hx (by omega))]at hE;exact hE.symm,fun h=>⟨fun _=>hx qp,fun _=>h⟩⟩
  refine G [6] ?_;refine zaa (zaz U3 rfl (by simp only[qbF,qbt,qb4];exact hz)) rfl rfl ?_;refine G [8,9,0] ?_;refine cX ?_ ?_<;>intro h
  ·rw[hz0 (by simpa using h)];refine G [6,9,0] ?_;exact yE
  have h0:z=0:=qB;clear h;refine G [5,9,0] ?_;refine⟨m-1,qp,_,zai id _ _ qv qv rfl,i+1,qp,(hz1 h0).1,(hz1 h0).2,rfl⟩
 have hge:i=2:=qw;clear h;subst hge;rw[if_pos (hx (by omega)),hy (by omega)]at hE;subst hE;refine G [7,9,0] ?_;exact yE
theorem nCmp_s(a n b m:Int):Fn prog 131 [.agg (netA a n),.agg (netA b m)] (qd (zdL a n b m)) []:=by
 have h1:Fn prog 176 [qe a,qe b] (qd (ord3 a b)) []:=zgo rfl (fun _ _ _=>za7 rfl) (cmpU_g a b);have h2:Fn prog 177 [qd n,qd m] (qd (ord3 n m)) []:=zgo rfl (fun _ _ _=>za7 rfl) (cmpI_g n m);have h3:=nOr_s (ord3 a b) (ord3 n m);rw[show zdL a n b m=or2 (ord3 a b) (ord3 n m)by unfold zdL or2 ord3;(repeat' split)<;>simp_all<;>omega];generalize or2 (ord3 a b) (ord3 n m)=r at*;generalize ord3 a b=x at*;generalize ord3 n m=y at*
 refine fnI fun w0 A=>?_
 refine G [12] ?_;refine cK h1 ?_;refine G [4] ?_;refine cK h2 ?_;refine zab (xs:=[qd x,qd y]) (zae (es:=[qd x,qd y]) (cs:=[qh x,qh y]) 15 U147 sz3 zc3 (qbk rfl) (qbk rfl) rfl qq qq qq (qbk rfl)) qF rfl ⟨rfl,trivial⟩ ?_;refine cV h3 ?_;refine G [3,9,0] ?_;exact yE
theorem nOrd_s(a n b m:Int):Fn prog 156 [.agg (netA a n),.agg (netA b m)] (qd (zdL a n b m)) []:=by
 have hq:eqL [.int .u32 a,.int .i64 n] [.int .u32 b,.int .i64 m]=decide (a=b∧n=m):=by
  rw[qb1,zaY,decide_eq_true_eq];simp
 unfold zdL ord3
 by_cases h1:a<b
 ·rw[if_neg (by omega),if_pos h1];refine fnI fun w0 A=>?_
  refine G [9] ?_
  skip
  refine G [5,4,22,9,0] ?_;exact yE
 by_cases h2:a=b
 ·rw[if_pos h2]
  by_cases h3:n<m
  ·rw[if_pos h3];refine fnI fun w0 A=>?_
   refine G [9] ?_
   skip
   refine G [5,3,5,4,5,4,10,9,0] ?_;exact yE
  rw[if_neg h3]
  by_cases h4:m<n
  ·rw[if_pos h4];refine fnI fun w0 A=>?_
   refine G [9] ?_
   skip
   refine G [5,3,5,4,5,3,9] ?_;refine zaa (zcL U101 rfl rfl qq qq qq (c:=false) (by rw[hq];exact decide_eq_false qp)) rfl rfl ?_;refine G [9,9,0] ?_;exact yE
  rw[if_neg h4];refine fnI fun w0 A=>?_
  refine G [9] ?_
  skip
  refine G [5,3,5,4,5,3,9] ?_;refine zaa (zcL U101 rfl rfl qq qq qq (c:=true) (by rw[hq];exact decide_eq_true qp)) rfl rfl ?_;refine G [8,9,0] ?_;exact yE
 rw[if_neg h2,if_neg h1,if_pos (by omega)];refine fnI fun w0 A=>?_
 refine G [9] ?_
 skip
 refine G [5,3,5,3,15] ?_;refine zaa (zcL U101 rfl rfl qq qq qq (c:=false) (by rw[hq];exact decide_eq_false qp)) rfl rfl ?_;refine G [9,9,0] ?_;exact yE
end Go.Proofs.YtdiljgkijgiboaaGreatDoor
namespace Go.Proofs.YtdiljgkijgiboaaGreatDoor
open Go.RowKit Go.Sort
theorem zbW{xs:List Int}(h:isB xs):sb (strOfNums xs)=xs:=by
 show((xs.map fun n=>UInt8.ofNat n.toNat).toArray.toList.map fun c=>((c.toNat:Nat):Int))=xs;simp only[qcD]
 conv=>rhs;rw[←List.map_id xs]
 refine qcI fun x hx=>?_
 have:=h x hx;show(((UInt8.ofNat x.toNat).toNat:Nat):Int)=x;rw[UInt8.toNat_ofNat'];omega
theorem zd4(s t:ByteArray):sb (s++t)=sb s++sb t:=by simp[sb]
theorem zjG{xs ys:List Int}(h:isB xs)(k:isB ys)(e:strOfNums xs=strOfNums ys):xs=ys:=by rw[←zbW h,←zbW k,e]
theorem zau(xs:List Int):(strOfNums xs).size=xs.length:=strOfNums_size xs
theorem zbM(s t:ByteArray):(s++t).size=s.size+t.size:=qG
end Go.Proofs.YtdiljgkijgiboaaGreatDoor
namespace Go.Proofs.YtdiljgkijgiboaaGreatDoor
open Go.Lib
def dgB(c:UInt8):Prop:=48≤c.toNat∧c.toNat≤57
def valL:List UInt8→Nat→Nat
 | [],a=>a
 |c::r,a=>valL r (a*10+(c.toNat-48))
theorem valL_push:∀(l:List UInt8) (c:UInt8) (a:Nat),valL (l++[c]) a=valL l a*10+(c.toNat-48)
 | [],c,a=>rfl
 |x::l,c,a=>by simp only[qbW,valL];exact valL_push l c _
theorem valL_lt:∀(l:List UInt8) (a:Nat),(∀c∈l,dgB c)→valL l a<(a+1)*10^l.length
 | [],a,_=>by simp[valL]
 |c::r,a,h=>by
  have h0:=h c qG;have h1:=valL_lt r (a*10+(c.toNat-48)) fun x hx=>h x (by simp[hx])
  have h2:(a*10+(c.toNat-48)+1)*10^r.length≤((a+1)*10)*10^r.length:=qb8 _ (by unfold dgB at h0;omega);simp only[valL,qbE,qci]
  calc valL r (a*10+(c.toNat-48))<_:=h1
   _≤_:=h2
   _=(a+1)*(10^r.length*10):=by rw[Nat.mul_assoc,qcT 10]
theorem parse_ok:∀(l:List UInt8) (a:Nat),(∀c∈l,dgB c)→(a+1)*10^l.length≤1000000000000000000→parseUint10 a l=.ok (valL l a)
 | [],a,_,_=>rfl
 |c::r,a,h,hb=>by
  have h0:=h c qG;unfold dgB at h0;have hp:1≤10^r.length:=Nat.one_le_pow _ _ qS;have e1:(a+1)*10^(c::r).length=(a+1)*10*10^r.length:=by rw[qbE,qci,Nat.mul_assoc,qcT 10]
  rw[e1]at hb;have h1:(a+1)*10≤(a+1)*10*10^r.length:=Nat.le_mul_of_pos_right _ hp;simp only[parseUint10,valL];rw[if_pos ⟨h0.1,h0.2⟩,if_neg (by omega),if_neg (by omega)];refine parse_ok r _ (fun x hx=>h x (by simp[hx])) ?_;exact qc5 (qb8 _ qp) hb
def canL(l:List UInt8):Prop:=l≠[]∧l.length≤5∧(∀c∈l,dgB c)∧(1<l.length→l.head?≠some 48)
theorem u8_dg{c:UInt8}(h:dgB c):UInt8.ofNat (48+(c.toNat-48))=c:=by
 unfold dgB at h;rw[show 48+(c.toNat-48)=c.toNat by omega];simp
theorem dec_push{a d:Nat}(ha:1≤a)(hd:d<10):decDigits (a*10+d)=decDigits a++[UInt8.ofNat (48+d)]:=by
 rw[decDigits,dif_neg (by omega),show(a*10+d)/10=a by omega,show(a*10+d)%10=d by omega]
theorem dec_val:∀(l:List UInt8) (a:Nat),1≤a→(∀c∈l,dgB c)→decDigits (valL l a)=decDigits a++l
 | [],a,_,_=>by simp[valL]
 |c::r,a,ha,h=>by
  have h0:=h c qG;have h0':=h0;unfold dgB at h0';simp only[valL];rw[dec_val r _ (by omega) fun x hx=>h x (by simp[hx]),dec_push ha (by omega),u8_dg h0,qby];rfl
theorem canL_val{l:List UInt8}(h:canL l):atoiAll l=.ok ((valL l 0:Nat):Int)∧itoa ((valL l 0:Nat):Int)=l∧valL l 0<100000:=by
 obtain⟨h1,h2,h3,h4⟩:=h;have hlt:=valL_lt l 0 h3;have hpw:10^l.length≤10^5:=qbS qS h2;have hv:valL l 0<100000:=qp;refine⟨?_,?_,hv⟩
 ·match l,h1,h3,hpw,hv with
  |c::r,_,h3,hpw,hv=>
   have h0:=h3 c qG;unfold dgB at h0;unfold atoiAll;simp only;rw[if_neg (by omega)];unfold parseMag;rw[if_neg (by simp),parse_ok _ 0 h3 (by omega)];simp only;rw[if_neg (by omega),if_neg (by omega),if_neg (by omega)]
 ·unfold itoa;rw[if_neg (by omega),qbt]
  match l,h1,h3,h4 with
  |c::r,_,h3,h4=>
   have h0:=h3 c qG;have h0':=h0;unfold dgB at h0';simp only[valL,qc6,qbO];cases r with
   |nil=>simp only[valL];rw[decDigits_one (by omega),u8_dg h0]
   |cons x r=>
    have hc:c≠48:=fun e=>h4 qG (by simp[e])
    have hc1:c.toNat≠48:=fun e=>hc (by rw[←UInt8.toNat_inj,e];rfl)
    rw[dec_val _ _ (by omega) fun y hy=>h3 y (by simp[hy]),decDigits_one (by omega),u8_dg h0];rfl
theorem dec_dg(n:Nat):∀c∈decDigits n,dgB c:=by
 induction n using Nat.strongRecOn with
 |_ n ih=>
  intro c hc;rw[decDigits]at hc
  have key:∀d,d<10→dgB (UInt8.ofNat (48+d)):=fun d hd=>by
   unfold dgB;rw[UInt8.toNat_ofNat'];omega
  split at hc
  ·simp only[qbN]at hc;rw[hc];exact key n qah
  ·rcases qbD.1 hc with hc|hc
   ·exact ih (n/10) qp c hc
   ·simp only[qbN]at hc;rw[hc];exact key _ qp
theorem dec_ne(n:Nat):decDigits n≠[]:=by
 rw[decDigits];split<;>simp
theorem dec_head(n:Nat)(hn:1≤n):(decDigits n).head?≠some 48:=by
 induction n using Nat.strongRecOn with
 |_ n ih=>
  rw[decDigits]
  split
  ·simp only[List.head?_cons,ne_eq,Option.some.injEq];intro e;have:=congrArg UInt8.toNat e;rw[UInt8.toNat_ofNat']at this;have e48:(48:UInt8).toNat=48:=rfl;omega
  ·have:=ih (n/10) qp qp;rw[List.head?_append];cases hq:(decDigits (n/10)).head? with
   |none=>exact absurd (List.head?_eq_none_iff.1 hq) (dec_ne _)
   |some c=>rw[hq]at this;simpa using this
theorem canL_of{l:List UInt8}{v:Int}(hl:l.length≤5)(hv:0≤v)(h:itoa v=l):canL l:=by
 unfold itoa at h;rw[if_neg (by omega)]at h;subst h;refine⟨dec_ne _,hl,dec_dg _,fun h1=>?_⟩
 by_cases h0:v.toNat=0
 ·rw[h0,decDigits_one (by decide)]at h1;simp at h1
 ·exact dec_head _ qp
instance dgB_dec(c:UInt8):Decidable (dgB c):=by unfold dgB;infer_instance
instance canL_dec(l:List UInt8):Decidable (canL l):=by unfold canL;infer_instance
def canS(s:ByteArray):Bool:=decide (canL s.data.toList)
def valS(s:ByteArray):Nat:=valL s.data.toList 0
def itoS(n:Int):ByteArray:=⟨(itoa n).toArray⟩
theorem zj8{s:ByteArray}(h:canS s=true):atoiAll s.data.toList=.ok ((valS s:Nat):Int)∧itoS ((valS s:Nat):Int)=s∧valS s<100000:=by
 obtain⟨h1,h2,h3⟩:=canL_val (of_decide_eq_true h);refine⟨h1,?_,h3⟩;unfold itoS valS;rw[h2]
theorem canS_of{s:ByteArray}{v:Int}(hl:s.size≤5)(hv:0≤v)(h:itoS v=s):canS s=true:=by
 refine decide_eq_true (canL_of (v:=v) qaQ hv ?_);rw[←h];rfl
theorem canS_num{s:ByteArray}{v:Int}(hl:s.size≤5)(hv:0≤v)(h:itoS v=s)(ha:atoiAll s.data.toList=.ok v):canS s=true∧v=valS s:=by
 have hc:=canS_of hl hv h;refine⟨hc,?_⟩;have:=(zj8 hc).1;rw[ha]at this;exact NumEnd.ok.inj this
theorem canS_size{s:ByteArray}(h:canS s=true):1≤s.size∧s.size≤5:=by
 obtain⟨h1,h2,_⟩:=of_decide_eq_true (p:=canL s.data.toList) h;have h3:=List.length_pos_iff.2 h1;rw[qch]at h2 h3;exact⟨h3,h2⟩
theorem data_at{s:ByteArray}{i:Nat}(h:i<s.size):s.data.toList[i]?=some s[i]:=by
 rw[Array.getElem?_toList];exact qct h
theorem zgE{s:ByteArray}{i:Nat}{c:UInt8}(h:s.data.toList[i]?=some c):sAt s i=(c.toNat:Int):=by
 unfold sAt sb;rw[List.getD_eq_getElem?_getD,qbM,h];rfl
def digS(c:Int):Bool:=decide (48≤c)&&decide (c≤57)
def valT(s:ByteArray)(i:Nat):Int:=(valL (s.data.toList.take i) 0:Nat)
theorem valT_zero(s:ByteArray):valT s 0=0:=by simp[valT,valL]
theorem valT_all(s:ByteArray):valT s s.size=(valS s:Nat):=by
 unfold valT valS;rw[qbC (by simp)]
theorem valT_succ{s:ByteArray}{i:Nat}(h:i<s.size)(hd:digS (sAt s i)=true):valT s (i+1)=10*valT s i+(sAt s i-48):=by
 obtain⟨c,hc⟩:∃c,s.data.toList[i]?=some c:=⟨_,data_at h⟩;have hs:=zgE hc;unfold digS at hd;simp only[qbB,decide_eq_true_eq]at hd;unfold valT;rw[List.take_add_one,hc,Option.toList_some,valL_push,hs];rw[hs]at hd;omega
theorem valT_in{s:ByteArray}{i:Nat}(hi:i≤s.size)(h5:i≤5)(hd:∀j,j<i→digS (sAt s j)=true):0≤valT s i∧valT s i<100000:=by
 have hc:∀c∈s.data.toList.take i,dgB c:=by
  intro c hc;obtain⟨j,hj,he⟩:=qcp.1 hc;rw[List.length_take]at hj;rw[List.getElem_take]at he;have h1:s.data.toList[j]?=some c:=by rw[List.getElem?_eq_getElem (by omega),he]
  have h2:=hd j qp;rw[zgE h1]at h2;unfold digS at h2;simp only[qbB,decide_eq_true_eq]at h2;unfold dgB;omega
 have h1:=valL_lt _ 0 hc;have h2:10^(s.data.toList.take i).length≤10^5:=qbS qS qad;unfold valT;omega
theorem canS_dig{s:ByteArray}(h0:s.size≠0)(h5:s.size≤5)(hz:1<s.size→sAt s 0≠48)(hd:∀j,j<s.size→digS (sAt s j)=true):canS s=true:=by
 refine decide_eq_true ⟨fun e=>h0 ?_,by simpa using h5,fun c hc=>?_,fun h1 e=>?_⟩
 ·have:=congrArg List.length e;simpa using this
 ·obtain⟨i,hi,he⟩:=qcp.1 hc;have hi':i<s.size:=qai;have hh:=zgE (s:=s) (i:=i) (c:=c) (by rw[List.getElem?_eq_getElem hi,he]);have h2:=hd i hi';rw[hh]at h2;unfold digS at h2;simp only[qbB,decide_eq_true_eq]at h2;unfold dgB;omega
 ·have h2:1<s.size:=qaR;have h3:s.data.toList[0]?=some 48:=by rw[←List.head?_eq_getElem?];exact e
  exact hz h2 (zgE h3)
theorem canS_not{s:ByteArray}(h:s.size=0∨5<s.size∨(1<s.size∧sAt s 0=48)∨∃j,j<s.size∧digS (sAt s j)=false):canS s=false:=by
 refine decide_eq_false fun⟨h1,h2,h3,h4⟩=>?_
 rcases h with h|h|⟨h,h5⟩|⟨j,hj,h5⟩
 ·exact h1 (qbz qB)
 ·have:s.size≤5:=by simpa using h2
  omega
 ·obtain⟨c,hc⟩:∃c,s.data.toList[0]?=some c:=⟨_,data_at (show 0<s.size by omega)⟩;rw[zgE hc]at h5;refine h4 qB ?_;rw[List.head?_eq_getElem?,hc]
  congr 1
  rw[←UInt8.toNat_inj];show c.toNat=48;omega
 ·obtain⟨c,hc⟩:∃c,s.data.toList[j]?=some c:=⟨_,data_at hj⟩;have:=h3 c (qbo hc);rw[zgE hc]at h5;unfold dgB at this;unfold digS at h5;simp only[Bool.and_eq_false_iff,decide_eq_false_iff_not]at h5;omega
def numB(s:ByteArray)(most:Int):Bool:=canS s&&decide ((valS s:Int)≤most)
def numE(s:ByteArray)(most:Int):Int:=if numB s most=true then 0 else 3
def numV(s:ByteArray)(most:Int):Int:=if numB s most=true then(valS s:Int)else 0
end Go.Proofs.YtdiljgkijgiboaaGreatDoor
namespace Go.Proofs.YtdiljgkijgiboaaGreatDoor
open Go.RowKit Go.Sort
theorem zaO{α β:Type}{f:α→List β}{k:Nat}(hf:∀x,(f x).length=k):∀l:List α,(l.flatMap f).length=l.length*k
 | []=>by simp
 |a::l=>by rw[qb7,qbm,hf,zaO hf l,qbE];rw[qcJ];omega
theorem zav{α β:Type}{f:α→List β}{k:Nat}(hf:∀x,(f x).length=k):∀{l:List α} {i:Nat} {x:α},l[i]?=some x→((l.flatMap f).drop (i*k)).take k=f x
 | [],i,x,h=>by simp at h
 |a::l,0,x,h=>by
  simp at h;subst h;rw[qc6,qcc,qb7,List.take_append_of_le_length (by rw[hf];exact Nat.le_refl _),qbC (by rw[hf];exact Nat.le_refl _)]
 |a::l,i+1,x,h=>by
  have h':l[i]?=some x:=qB;have e:(i+1)*k=(f a).length+i*k:=by rw[hf,qcJ];omega
  rw[qb7,e,←qcE,List.drop_left];exact zav hf h'
theorem zaw{α β:Type}{f:α→List β}{k:Nat}(hf:∀x,(f x).length=k){l:List α}{i:Nat}(h:i<l.length):i*k+k≤(l.flatMap f).length:=by
 rw[zaO hf];have:(i+1)*k≤l.length*k:=qb8 _ h;rw[qcJ]at this;omega
theorem zgI{α:Type}{f:α→List PV}{Q:α→Prop}:∀{L:List (List PV)},(∀x∈L,∃a,Q a∧x=f a)→∃l:List α,l.length=L.length∧L.flatten=l.flatMap f∧∀a∈l,Q a
 | [],_=>⟨[],rfl,rfl,qG⟩
 |x::L,h=>by
  obtain⟨a,h1,rfl⟩:=h x qG;obtain⟨l,h2,h3,h4⟩:=zgI (L:=L) fun y hy=>h y qa3
  exact⟨a::l,by simp[h2],by simp[h3],fun b hb=>by
   rcases qbA.1 hb with rfl|hb
   ·exact h1
   ·exact h4 b hb⟩
theorem ty_recs{P:Program}{n t e sz:Nat}{ps:List PV}{α:Type}{f:α→List PV}{Q:α→Prop}(hu:P.underlying t=some (.slice e))(hs:P.cellsOf e=sz)(hT:Ty P (n+1) t ps)(hr:∀x,Ty P n e x→∃a,Q a∧x=f a):
 ∃l:List α,ps=[.sl l.length sz (l.flatMap f)]∧l.length*P.bytesOf e≤reachBytes∧∀a∈l,Q a:=by
 obtain⟨L,rfl,h2,h3⟩:=zhH hu hs hT;obtain⟨l,k1,k2,k3⟩:=zgI (f:=f) (Q:=Q) fun x hx=>hr x (h3 x hx).1
 exact⟨l,by rw[k1,k2],by rw[k1];exact h2,k3⟩
def isIfc:Value→Bool
 | .iface _ _=>true
 |_=>false
theorem isIfc_ex{v:Value}(h:isIfc v=true):∃t x,v=.iface t x:=by
 cases v<;>simp[isIfc]at h
 exact⟨_,_,rfl⟩
theorem guard_ifI(op:BinOp)(t:TypeId)(x y:Operand)(te:TypeId)(pe:Value)(w:World){P:Program}:(eqGuard op t x y (.iface te pe) .nilIface).run P w=.ok () w:=by
 unfold eqGuard;cases op<;>rfl
theorem guard_ifN(op:BinOp)(t:TypeId)(x:Operand)(c:Value)(w:World){P:Program}:(eqGuard op t x (.const c) .nilIface .nilIface).run P w=.ok () w:=by
 unfold eqGuard;cases op<;>first|rfl|simp
section
variable {P:Program}{d:Option Tmp}{ty:TypeId}{pos:String}{af:Array Edge}{g:Option (Nat×Bool)}{xt yt:TypeId}{x:Operand}{c:Value}{ms:Array (String×TypeId)}
theorem run_ifI(w:World)(hu:P.underlying xt=some (.interface ms))(te:TypeId)(pe:Value):(Op.equal xt (.iface te pe) .nilIface).run P w=.ok false w:=by
 show(Op.equalIn (9999+1) xt (.iface te pe) .nilIface).run P w=.ok false w;generalize 9999=d;simp[Op.equalIn,run_underlying hu]
theorem run_ifN(w:World)(hu:P.underlying xt=some (.interface ms)):(Op.equal xt .nilIface .nilIface).run P w=.ok true w:=by
 show(Op.equalIn (9999+1) xt .nilIface .nilIface).run P w=.ok true w;generalize 9999=d;simp[Op.equalIn,run_underlying hu]
theorem a_ifneqI(hu:P.underlying xt=some (.interface ms)):AOp P ⟨d,.binOp .neq xt x (.const c) yt,ty,pos,af,g⟩ [.sat isIfc,.p (.v .nilIface)] [] [] (qf true):=
 zaE fun S m w ev hr=>by
  obtain⟨h1,h2⟩:=zb9 (u:=ev x) (v:=ev (.const c)) hr;simp only[Rep]at h1;obtain⟨te,pe,h3⟩:=isIfc_ex h1.1;exact⟨.bool true,by simp only[execOp,h3,zbb h2,qbw,guard_ifI,qbr,binOp,run_ifI w hu,qbx];rfl,za7 rfl⟩
theorem a_ifneqN(hu:P.underlying xt=some (.interface ms)):AOp P ⟨d,.binOp .neq xt x (.const c) yt,ty,pos,af,g⟩ [.p (.v .nilIface),.p (.v .nilIface)] [] [] (qf false):=
 zaE fun S m w ev hr=>by
  obtain⟨h1,h2⟩:=zb9 (u:=ev x) (v:=ev (.const c)) hr;exact⟨.bool false,by simp only[execOp,zbb h1,zbb h2,qbw,guard_ifN,qbr,binOp,run_ifN w hu,qbx];rfl,za7 rfl⟩
end
def fnz(f:Nat→Int):Nat→Int
 |0=>0
 |n+1=>if fnz f n≠0 then fnz f n else f n
theorem zdc{f:Nat→Int}:∀{n:Nat},(∀j,j<n→f j=0)→fnz f n=0
 |0,_=>rfl
 |n+1,h=>by
  have h1:=zdc (f:=f) (n:=n) fun j hj=>h j qp
  unfold fnz;rw[h1,if_neg (by simp),h n (by omega)]
theorem zcx{f:Nat→Int}{i:Nat}:∀{n:Nat},(∀j,j<i→f j=0)→i<n→f i≠0→fnz f n=f i
 |0,_,h,_=>by omega
 |n+1,h1,h2,h3=>by
  unfold fnz
  by_cases e:i=n
  ·subst e;rw[zdc h1,if_neg (by simp)]
  ·have:=zcx h1 (n:=n) qp h3;rw[this,if_pos h3]
theorem zfp{f:Nat→Int}:∀{n:Nat},fnz f n=0→∀j,j<n→f j=0
 |0,_,j,hj=>by omega
 |n+1,h,j,hj=>by
  unfold fnz at h
  by_cases h0:fnz f n≠0
  ·rw[if_pos h0]at h;exact absurd h h0
  ·rw[if_neg h0]at h
   by_cases e:j=n
   ·subst e;exact h
   ·exact zfp (qbq.1 h0) j qp
theorem zbK{N:Nat}{L:List (List PV)}(h:PV.bdL N L.flatten):∀x∈L,PV.bdL N x:=fun x hx=>zio.2 fun y hy=>zio.1 h y (List.mem_flatten.2 ⟨x,hx,hy⟩)
def leK(a b:ByteArray):Bool:=sLt a b||decide (a=b)
theorem sLt_empty(a:ByteArray):sLt a ⟨#[]⟩=false:=by
 unfold sLt;generalize a.toList=l;show Op.bytesLess l (ByteArray.toList ⟨#[]⟩)=false
 have:ByteArray.toList ⟨#[]⟩=[]:=by
  unfold ByteArray.toList;unfold ByteArray.toList.loop;rfl
 rw[this];cases l<;>rfl
def strs(ts:List ByteArray):List PV:=ts.map fun s=>qg s
theorem strs_len(ts:List ByteArray):(strs ts).length=ts.length:=by simp[strs]
theorem strs_rep{S:Nat→Prop}{w:World}:∀ts:List ByteArray,PRepL S w (strs ts) (ts.map .string)
 | []=>by simp[strs,PRepL]
 |t::ts=>by
  simp only[strs,qbu,PRepL,PRep];exact⟨_,_,rfl,⟨rfl,rfl⟩,strs_rep ts⟩
theorem strs_get{ts:List ByteArray}{i:Nat}{t:ByteArray}(h:ts[i]?=some t):(strs ts)[i]?=some (qg t):=by simp[strs,h]
theorem fn_alloc{P:Program}{f:FuncId}{args:List AV}{vs:List Value}{e:TypeId}{n:Nat}{cs:List PV}{us:List Value}(ha:zg0 args=some vs)(hl:us.length=n)(hn:n≤maxLen)(hp:∀S w,PRepL S w cs us)
 (h:∀w,Calls P f vs.toArray w fun x w'=>x=.returned (.slice (some ⟨w.heap.size,0,none⟩) n n)∧w'=w.alloc (.cells us.toArray e)):Fn P f args (.row 0) [(0,.row e 1 n cs)]:=by
 intro w A us' hA hG hus;rw[ze6 ha hus];refine(h w).mono ?_;rintro x w' ⟨rfl,rfl⟩;refine⟨_,rfl,A,fun o=>if o=0 then some (.slice (some ⟨w.heap.size,0,none⟩) n n)else none,?_,(Below.refl _ w).alloc (Nat.le_refl _) _,fun b hb=>.inl hb,fun b hb=>?_,fun o ho=>?_,fun o ob ho=>?_,fun o o' ob ob' v v' b ho ho' _ _ _ _=>?_,hG⟩
 ·simp only[Rep];exact⟨rfl,_,_,_,rfl⟩
 ·have:=hA b hb;show b<(w.heap.push _).size;rw[Array.size_push];omega
 ·by_cases e:o=0
  ·subst e;cases ho
  ·simp only[if_neg e]
 ·by_cases e:o=0
  ·subst e;cases ho;refine⟨_,if_pos rfl,⟨us,hp _ _,by rw[qbU];exact hl,.inr ⟨w.heap.size,n,us.toArray,(0,0),rfl,Nat.le_refl _,?_,.inl rfl,Nat.le_refl _,hn,by simp[hl],?_⟩⟩,fun b hb hA'=>?_⟩
   ·show(w.heap.push _)[w.heap.size]?=_;exact Array.getElem?_push_size
   ·simp only[qbU];rw[qbC (by simp[hl])]
   ·simp only[blk,Option.some.injEq]at hb;subst hb;exact absurd (hA _ hA') (Nat.lt_irrefl _)
  ·simp only[zcT,nbeq e,cond_false]at ho;cases ho
 ·have key:∀{o:Nat} {ob:AObj},zcT [(0,AObj.row e 1 n cs)] o=.live ob→o=0:=fun {o ob} ho=>by
   by_cases e:o=0
   ·exact e
   ·simp only[zcT,nbeq e,cond_false]at ho;cases ho
  rw[key ho,key ho']
theorem err_reads{P:Program}{w:World}{n:String}{d:DataW Unit}{g t:Nat}{ms:Array (String×TypeId)}(hg:P.globalNamed n=some g)(hty:(P.globals[g]?).map (·.type)=some t)(ht:P.underlying t=some (.interface ms))
 (h:Lib.VarReads P w n d):∃ev t fz,w.heap[g]?=some (.cells #[ev] t fz)∧(ev=.nilIface∨∃te pe,ev=.iface te pe):=by
 obtain⟨g',t',cs,fuel,p,h1,h2,h3,h4⟩:=h;obtain rfl:=Option.some.inj (hg.symm.trans h1);obtain rfl:=Option.some.inj (hty.symm.trans h2);obtain⟨ty,fz,h5⟩:=zic hg h3
 have key:∃ev,cs.toList=[ev]∧(ev=.nilIface∨∃te pe,ev=.iface te pe):=by
  cases fuel with
  |zero=>simp[DataW.trod]at h4
  |succ fuel=>
   unfold DataW.trod at h4;rw[ht]at h4
   split at h4<;>first|cases h4|skip
   all_goals first|(rename_i e1 e2;cases e1)|skip
   all_goals simp_all
 obtain⟨ev,h6,h7⟩:=key;refine⟨ev,ty,fz,?_,h7⟩;rw[h5];have:cs= #[ev]:=by rw[←Array.toList_inj,h6]
 rw[this]
theorem tab_reads{P:Program}{w:World}{n:String}{g t e m:Nat}{k:IntKind}{zs:List Int}(hg:P.globalNamed n=some g)(hty:(P.globals[g]?).map (·.type)=some t)(ht:P.underlying t=some (.array m e))(he:P.underlying e=some (.int k))(hce:P.cellsOf e=1)(hct:P.cellsOf t=m)
 (h:Lib.VarReads P w n (Lib.tabData k zs)):∃t fz,w.heap[g]?=some (.cells (zs.map fun z=>Value.int k z).toArray t fz):=by
 obtain⟨g',t',cs,fuel,p,h1,h2,h3,h4⟩:=h;obtain rfl:=Option.some.inj (hg.symm.trans h1);obtain rfl:=Option.some.inj (hty.symm.trans h2);obtain⟨ty,fz,h5⟩:=zic hg h3;have:=Lib.cells_of_tab ht he hce hct h4;refine⟨ty,fz,?_⟩;rw[h5,←this]
end Go.Proofs.YtdiljgkijgiboaaGreatDoor
namespace Go.Proofs
open Go.Shelf
def Tryz.lays133_ren:Go.Shelf.Ren:=⟨fun|133=>202|128=>213|n=>n,fun|51=>33|3=>3|4=>4|46=>105|5=>5|9=>9|n=>n,fun|n=>n⟩
theorem Tryz.lays133:Go.Proofs.Lays.n133 Tryz.prog Tryz.lays133_ren:={
 mixed:=by kernel_rfl
 f128:=Tryz.func213.trans (congrArg some (by kernel_rfl))
 f133:=Tryz.func202.trans (congrArg some (by kernel_rfl))
 t3:=Tryz.underlying3
 a3:=Tryz.isAgg3
 z3:=Tryz.sizeOf3
 v3:=Tryz.zeroValue3
 t4:=Tryz.underlying4
 a4:=Tryz.isAgg4
 z4:=Tryz.sizeOf4
 v4:=Tryz.zeroValue4
 t5:=Tryz.underlying5
 a5:=Tryz.isAgg5
 z5:=Tryz.sizeOf5
 v5:=Tryz.zeroValue5
 t9:=Tryz.underlying9
 a9:=Tryz.isAgg9
 z9:=Tryz.sizeOf9
 v9:=Tryz.zeroValue9
 t46:=Tryz.underlying105
 a46:=Tryz.isAgg105
 z46:=Tryz.sizeOf105
 v46:=Tryz.zeroValue105
 t51:=Tryz.underlying33
 a51:=Tryz.isAgg33
 z51:=Tryz.sizeOf33
 v51:=Tryz.zeroValue33}
theorem Tryz.bits_LeadingZeros32(x:Int)(w:World)(h0:0≤x)(h1:x≤4294967295):
  Calls Tryz.prog 202 #[.int .u32 x] w fun e w'=>e=.returned (.int .i64 (32-(Lib.bitLen x.toNat:Int)))∧w'=w:=Any.bits_LeadingZeros32 Tryz.lays133 x w h0 h1
def Tryz.lays137_ren:Go.Shelf.Ren:=⟨fun|137=>161|217=>190|266=>210|n=>n,fun|9=>9|5=>5|3=>3|n=>n,fun|n=>n⟩
theorem Tryz.lays137:Go.Proofs.Lays.n137 Tryz.prog Tryz.lays137_ren:={
 mixed:=by kernel_rfl
 f137:=Tryz.func161.trans (congrArg some (by kernel_rfl))
 f217:=Tryz.func190.trans (congrArg some (by kernel_rfl))
 f266:=Tryz.func210.trans (congrArg some (by kernel_rfl))
 t3:=Tryz.underlying3
 a3:=Tryz.isAgg3
 z3:=Tryz.sizeOf3
 v3:=Tryz.zeroValue3
 t5:=Tryz.underlying5
 a5:=Tryz.isAgg5
 z5:=Tryz.sizeOf5
 v5:=Tryz.zeroValue5
 t9:=Tryz.underlying9
 a9:=Tryz.isAgg9
 z9:=Tryz.sizeOf9
 v9:=Tryz.zeroValue9}
open Go.RowKit in
theorem Tryz.strings_IndexByte(s:ByteArray)(c:Int)(w:World):
  Calls Tryz.prog 161 #[.string s,.int .u8 c] w fun e w'=>e=.returned (.int .i64 (Lib.indexByte s.data.toList c.toNat.toUInt8))∧w'=w:=Any.strings_IndexByte Tryz.lays137 s c w
def Tryz.laysM171_ren:Go.Shelf.Ren:=⟨fun|171=>209|243=>219|246=>228|283=>235|284=>236|285=>237|286=>238|129=>243|317=>242|318=>244|319=>245|320=>246|337=>247|338=>248|n=>n,fun|3=>3|9=>9|2=>2|4=>4|171=>273|0=>0|53=>55|37=>34|5=>5|173=>276|212=>284|51=>33|20=>20|213=>285|46=>105|232=>291|233=>292|n=>n,fun|17=>3|18=>6|19=>7|n=>n⟩
theorem Tryz.laysM171:Go.Proofs.LaysM.n171 Tryz.prog Tryz.laysM171_ren:={
 mixed:=by kernel_rfl
 f129:=Tryz.func243.trans (congrArg some (by kernel_rfl))
 f171:=Tryz.func209.trans (congrArg some (by kernel_rfl))
 f243:=Tryz.func219.trans (congrArg some (by kernel_rfl))
 f246:=Tryz.func228.trans (congrArg some (by kernel_rfl))
 f283:=Tryz.func235.trans (congrArg some (by kernel_rfl))
 f284:=Tryz.func236.trans (congrArg some (by kernel_rfl))
 f285:=Tryz.func237.trans (congrArg some (by kernel_rfl))
 f286:=Tryz.func238.trans (congrArg some (by kernel_rfl))
 f317:=Tryz.func242.trans (congrArg some (by kernel_rfl))
 f318:=Tryz.func244.trans (congrArg some (by kernel_rfl))
 f319:=Tryz.func245.trans (congrArg some (by kernel_rfl))
 f320:=Tryz.func246.trans (congrArg some (by kernel_rfl))
 f337:=Tryz.func247.trans (congrArg some (by kernel_rfl))
 f338:=Tryz.func248.trans (congrArg some (by kernel_rfl))
 t0:=Tryz.underlying0
 a0:=Tryz.isAgg0
 z0:=Tryz.sizeOf0
 v0:=Tryz.zeroValue0
 t2:=Tryz.underlying2
 a2:=Tryz.isAgg2
 z2:=Tryz.sizeOf2
 v2:=Tryz.zeroValue2
 t3:=Tryz.underlying3
 a3:=Tryz.isAgg3
 z3:=Tryz.sizeOf3
 v3:=Tryz.zeroValue3
 t4:=Tryz.underlying4
 a4:=Tryz.isAgg4
 z4:=Tryz.sizeOf4
 v4:=Tryz.zeroValue4
 t5:=Tryz.underlying5
 a5:=Tryz.isAgg5
 z5:=Tryz.sizeOf5
 v5:=Tryz.zeroValue5
 t9:=Tryz.underlying9
 a9:=Tryz.isAgg9
 z9:=Tryz.sizeOf9
 v9:=Tryz.zeroValue9
 t20:=Tryz.underlying20
 a20:=Tryz.isAgg20
 z20:=Tryz.sizeOf20
 v20:=Tryz.zeroValue20
 t37:=Tryz.underlying34
 a37:=Tryz.isAgg34
 z37:=Tryz.sizeOf34
 v37:=Tryz.zeroValue34
 t46:=Tryz.underlying105
 a46:=Tryz.isAgg105
 z46:=Tryz.sizeOf105
 v46:=Tryz.zeroValue105
 t51:=Tryz.underlying33
 a51:=Tryz.isAgg33
 z51:=Tryz.sizeOf33
 v51:=Tryz.zeroValue33
 t53:=Tryz.underlying55
 a53:=Tryz.isAgg55
 z53:=Tryz.sizeOf55
 v53:=Tryz.zeroValue55
 t171:=Tryz.underlying273
 a171:=Tryz.isAgg273
 z171:=Tryz.sizeOf273
 v171:=Tryz.zeroValue273
 t173:=Tryz.underlying276
 a173:=Tryz.isAgg276
 z173:=Tryz.sizeOf276
 v173:=Tryz.zeroValue276
 t212:=Tryz.underlying284
 a212:=Tryz.isAgg284
 z212:=Tryz.sizeOf284
 v212:=Tryz.zeroValue284
 t213:=Tryz.underlying285
 a213:=Tryz.isAgg285
 z213:=Tryz.sizeOf285
 t232:=Tryz.underlying291
 a232:=Tryz.isAgg291
 z232:=Tryz.sizeOf291
 v232:=Tryz.zeroValue291
 t233:=Tryz.underlying292
 a233:=Tryz.isAgg292
 z233:=Tryz.sizeOf292
 v233:=Tryz.zeroValue292
 g17:=by kernel_rfl
 g18:=by kernel_rfl
 g19:=by kernel_rfl
 i0:=by kernel_rfl
 i2:=by kernel_rfl
 i3:=by kernel_rfl
 i4:=by kernel_rfl
 i5:=by kernel_rfl
 i9:=by kernel_rfl
 i20:=by kernel_rfl
 i37:=by kernel_rfl
 i46:=by kernel_rfl
 i51:=by kernel_rfl
 i53:=by kernel_rfl
 i171:=by kernel_rfl
 i173:=by kernel_rfl
 i212:=by kernel_rfl
 i232:=by kernel_rfl
 i233:=by kernel_rfl
 m17:=by kernel_rfl
 m18:=by kernel_rfl
 m19:=by kernel_rfl}
open Go.RowKit Go.Sort Go.Lib in
theorem Tryz.strconv_Itoa(n:Int)(h0: -9223372036854775808≤n)(h1:n≤9223372036854775807)(w:World)(htab:Lib.TabIs Tryz.prog w "internal/strconv.uint64pow10" .u64 Lib.pow10Tab):
  Calls Tryz.prog 209 #[.int .i64 n] w fun e w'=>e=.returned (.string ⟨(Lib.itoa n).toArray⟩)∧∃k os,w'=grow (w.drewN k) os:=Any.strconv_Itoa Tryz.laysM171 n h0 h1 w htab
def Tryz.laysC172_ren:Go.Shelf.Ren:=⟨fun|172=>208|244=>217|245=>218|247=>223|279=>224|280=>225|281=>226|282=>227|287=>232|316=>233|171=>209|205=>234|321=>240|322=>241|243=>219|246=>228|283=>235|284=>236|285=>237|286=>238|129=>243|317=>242|318=>244|319=>245|320=>246|337=>247|338=>248|n=>n,fun|9=>9|3=>3|75=>200|76=>222|4=>4|5=>5|167=>257|37=>34|0=>0|85=>258|2=>2|168=>260|53=>55|175=>267|46=>105|210=>271|127=>235|145=>282|143=>280|21=>21|171=>273|173=>276|212=>284|51=>33|20=>20|213=>285|232=>291|233=>292|80=>202|n=>n,fun|15=>1|16=>2|17=>3|18=>6|19=>7|n=>n⟩
theorem Tryz.laysC172:Go.Proofs.LaysC.n172 Tryz.prog Tryz.laysC172_ren:={
 mixed:=by kernel_rfl
 f129:=Tryz.func243.trans (congrArg some (by kernel_rfl))
 f171:=Tryz.func209.trans (congrArg some (by kernel_rfl))
 f172:=Tryz.func208.trans (congrArg some (by kernel_rfl))
 f205:=Tryz.func234.trans (congrArg some (by kernel_rfl))
 f243:=Tryz.func219.trans (congrArg some (by kernel_rfl))
 f244:=Tryz.func217.trans (congrArg some (by kernel_rfl))
 f245:=Tryz.func218.trans (congrArg some (by kernel_rfl))
 f246:=Tryz.func228.trans (congrArg some (by kernel_rfl))
 f247:=Tryz.func223.trans (congrArg some (by kernel_rfl))
 f279:=Tryz.func224.trans (congrArg some (by kernel_rfl))
 f280:=Tryz.func225.trans (congrArg some (by kernel_rfl))
 f281:=Tryz.func226.trans (congrArg some (by kernel_rfl))
 f282:=Tryz.func227.trans (congrArg some (by kernel_rfl))
 f283:=Tryz.func235.trans (congrArg some (by kernel_rfl))
 f284:=Tryz.func236.trans (congrArg some (by kernel_rfl))
 f285:=Tryz.func237.trans (congrArg some (by kernel_rfl))
 f286:=Tryz.func238.trans (congrArg some (by kernel_rfl))
 f287:=Tryz.func232.trans (congrArg some (by kernel_rfl))
 f316:=Tryz.func233.trans (congrArg some (by kernel_rfl))
 f317:=Tryz.func242.trans (congrArg some (by kernel_rfl))
 f318:=Tryz.func244.trans (congrArg some (by kernel_rfl))
 f319:=Tryz.func245.trans (congrArg some (by kernel_rfl))
 f320:=Tryz.func246.trans (congrArg some (by kernel_rfl))
 f321:=Tryz.func240.trans (congrArg some (by kernel_rfl))
 f322:=Tryz.func241.trans (congrArg some (by kernel_rfl))
 f337:=Tryz.func247.trans (congrArg some (by kernel_rfl))
 f338:=Tryz.func248.trans (congrArg some (by kernel_rfl))
 t0:=Tryz.underlying0
 a0:=Tryz.isAgg0
 z0:=Tryz.sizeOf0
 v0:=Tryz.zeroValue0
 t2:=Tryz.underlying2
 a2:=Tryz.isAgg2
 z2:=Tryz.sizeOf2
 v2:=Tryz.zeroValue2
 t3:=Tryz.underlying3
 a3:=Tryz.isAgg3
 z3:=Tryz.sizeOf3
 v3:=Tryz.zeroValue3
 t4:=Tryz.underlying4
 a4:=Tryz.isAgg4
 z4:=Tryz.sizeOf4
 v4:=Tryz.zeroValue4
 t5:=Tryz.underlying5
 a5:=Tryz.isAgg5
 z5:=Tryz.sizeOf5
 v5:=Tryz.zeroValue5
 t9:=Tryz.underlying9
 a9:=Tryz.isAgg9
 z9:=Tryz.sizeOf9
 v9:=Tryz.zeroValue9
 t20:=Tryz.underlying20
 a20:=Tryz.isAgg20
 z20:=Tryz.sizeOf20
 v20:=Tryz.zeroValue20
 t21:=Tryz.underlying21
 a21:=Tryz.isAgg21
 z21:=Tryz.sizeOf21
 v21:=Tryz.zeroValue21
 t37:=Tryz.underlying34
 a37:=Tryz.isAgg34
 z37:=Tryz.sizeOf34
 v37:=Tryz.zeroValue34
 t46:=Tryz.underlying105
 a46:=Tryz.isAgg105
 z46:=Tryz.sizeOf105
 v46:=Tryz.zeroValue105
 t51:=Tryz.underlying33
 a51:=Tryz.isAgg33
 z51:=Tryz.sizeOf33
 v51:=Tryz.zeroValue33
 t53:=Tryz.underlying55
 a53:=Tryz.isAgg55
 z53:=Tryz.sizeOf55
 v53:=Tryz.zeroValue55
 t75:=Tryz.underlying200
 a75:=Tryz.isAgg200
 z75:=Tryz.sizeOf200
 v75:=Tryz.zeroValue200
 t76:=Tryz.underlying222
 a76:=Tryz.isAgg222
 z76:=Tryz.sizeOf222
 v76:=Tryz.zeroValue222
 t85:=Tryz.underlying258
 a85:=Tryz.isAgg258
 z85:=Tryz.sizeOf258
 v85:=Tryz.zeroValue258
 t127:=Tryz.underlying235
 a127:=Tryz.isAgg235
 z127:=Tryz.sizeOf235
 v127:=Tryz.zeroValue235
 t143:=Tryz.underlying280
 a143:=Tryz.isAgg280
 z143:=Tryz.sizeOf280
 v143:=Tryz.zeroValue280
 t145:=Tryz.underlying282
 a145:=Tryz.isAgg282
 z145:=Tryz.sizeOf282
 v145:=Tryz.zeroValue282
 t167:=Tryz.underlying257
 a167:=Tryz.isAgg257
 z167:=Tryz.sizeOf257
 v167:=Tryz.zeroValue257
 t168:=Tryz.underlying260
 a168:=Tryz.isAgg260
 z168:=Tryz.sizeOf260
 v168:=Tryz.zeroValue260
 t171:=Tryz.underlying273
 a171:=Tryz.isAgg273
 z171:=Tryz.sizeOf273
 v171:=Tryz.zeroValue273
 t173:=Tryz.underlying276
 a173:=Tryz.isAgg276
 z173:=Tryz.sizeOf276
 v173:=Tryz.zeroValue276
 t175:=Tryz.underlying267
 a175:=Tryz.isAgg267
 z175:=Tryz.sizeOf267
 v175:=Tryz.zeroValue267
 t210:=Tryz.underlying271
 a210:=Tryz.isAgg271
 z210:=Tryz.sizeOf271
 v210:=Tryz.zeroValue271
 t212:=Tryz.underlying284
 a212:=Tryz.isAgg284
 z212:=Tryz.sizeOf284
 v212:=Tryz.zeroValue284
 t213:=Tryz.underlying285
 a213:=Tryz.isAgg285
 z213:=Tryz.sizeOf285
 t232:=Tryz.underlying291
 a232:=Tryz.isAgg291
 z232:=Tryz.sizeOf291
 v232:=Tryz.zeroValue291
 t233:=Tryz.underlying292
 a233:=Tryz.isAgg292
 z233:=Tryz.sizeOf292
 v233:=Tryz.zeroValue292
 g15:=by kernel_rfl
 g16:=by kernel_rfl
 g17:=by kernel_rfl
 g18:=by kernel_rfl
 g19:=by kernel_rfl
 t80:=Tryz.underlying202
 a80:=Tryz.isAgg202
 z80:=Tryz.sizeOf202
 v80:=Tryz.zeroValue202
 i0:=by kernel_rfl
 i2:=by kernel_rfl
 i3:=by kernel_rfl
 i4:=by kernel_rfl
 i5:=by kernel_rfl
 i9:=by kernel_rfl
 i20:=by kernel_rfl
 i21:=by kernel_rfl
 i37:=by kernel_rfl
 i46:=by kernel_rfl
 i51:=by kernel_rfl
 i53:=by kernel_rfl
 i75:=by kernel_rfl
 i76:=by kernel_rfl
 i80:=by kernel_rfl
 i85:=by kernel_rfl
 i127:=by kernel_rfl
 i143:=by kernel_rfl
 i145:=by kernel_rfl
 i167:=by kernel_rfl
 i168:=by kernel_rfl
 i171:=by kernel_rfl
 i173:=by kernel_rfl
 i175:=by kernel_rfl
 i210:=by kernel_rfl
 i212:=by kernel_rfl
 i232:=by kernel_rfl
 i233:=by kernel_rfl
 m15:=by kernel_rfl
 m16:=by kernel_rfl
 m17:=by kernel_rfl
 m18:=by kernel_rfl
 m19:=by kernel_rfl
 c0:=by kernel_rfl
 c2:=by kernel_rfl
 c3:=by kernel_rfl
 c4:=by kernel_rfl
 c5:=by kernel_rfl
 c9:=by kernel_rfl
 c20:=by kernel_rfl
 c21:=by kernel_rfl
 c37:=by kernel_rfl
 c46:=by kernel_rfl
 c51:=by kernel_rfl
 c53:=by kernel_rfl
 c75:=by kernel_rfl
 c76:=by kernel_rfl
 c80:=by kernel_rfl
 c85:=by kernel_rfl
 c127:=by kernel_rfl
 c143:=by kernel_rfl
 c145:=by kernel_rfl
 c167:=by kernel_rfl
 c168:=by kernel_rfl
 c171:=by kernel_rfl
 c173:=by kernel_rfl
 c175:=by kernel_rfl
 c210:=by kernel_rfl
 c212:=by kernel_rfl
 c213:=by kernel_rfl
 c232:=by kernel_rfl
 c233:=by kernel_rfl}
open Go.RowKit in
theorem Tryz.strconv_Atoi_ok(s:ByteArray)(hmax:s.size≤9223372036854775806)(v:Int)(h:Lib.atoiAll s.data.toList=.ok v)(w:World):
  Calls Tryz.prog 208 #[.string s] w fun e w'=>e=.returned (.tuple #[.int .i64 v,.nilIface])∧(w'=w∨∃t,w'=Lib.bytesWorld w 5 t):=Any.strconv_Atoi_ok Tryz.laysC172 s hmax v h w
def Tryz.lays217_ren:Go.Shelf.Ren:=⟨fun|217=>190|266=>210|n=>n,fun|9=>9|5=>5|3=>3|n=>n,fun|n=>n⟩
theorem Tryz.lays217:Go.Proofs.Lays.n217 Tryz.prog Tryz.lays217_ren:={
 mixed:=by kernel_rfl
 f217:=Tryz.func190.trans (congrArg some (by kernel_rfl))
 f266:=Tryz.func210.trans (congrArg some (by kernel_rfl))
 t3:=Tryz.underlying3
 a3:=Tryz.isAgg3
 z3:=Tryz.sizeOf3
 v3:=Tryz.zeroValue3
 t5:=Tryz.underlying5
 a5:=Tryz.isAgg5
 z5:=Tryz.sizeOf5
 v5:=Tryz.zeroValue5
 t9:=Tryz.underlying9
 a9:=Tryz.isAgg9
 z9:=Tryz.sizeOf9
 v9:=Tryz.zeroValue9}
open Go.RowKit Go.Lib in
theorem Tryz.stringslite_IndexByte(s:ByteArray)(c:Int)(w:World):
  Calls Tryz.prog 190 #[.string s,.int .u8 c] w fun e w'=>e=.returned (.int .i64 (Lib.indexByte s.data.toList c.toNat.toUInt8))∧w'=w:=Any.stringslite_IndexByte Tryz.lays217 s c w
def Tryz.lays143_ren:Go.Shelf.Ren:=⟨fun|143=>186|219=>207|217=>190|225=>214|224=>215|267=>216|266=>210|314=>222|n=>n,fun|9=>9|3=>3|4=>4|5=>5|46=>105|146=>237|51=>33|n=>n,fun|1=>0|n=>n⟩
theorem Tryz.lays143:Go.Proofs.Lays.n143 Tryz.prog Tryz.lays143_ren:={
 mixed:=by kernel_rfl
 f143:=Tryz.func186.trans (congrArg some (by kernel_rfl))
 f217:=Tryz.func190.trans (congrArg some (by kernel_rfl))
 f219:=Tryz.func207.trans (congrArg some (by kernel_rfl))
 f224:=Tryz.func215.trans (congrArg some (by kernel_rfl))
 f225:=Tryz.func214.trans (congrArg some (by kernel_rfl))
 f266:=Tryz.func210.trans (congrArg some (by kernel_rfl))
 f267:=Tryz.func216.trans (congrArg some (by kernel_rfl))
 f314:=Tryz.func222.trans (congrArg some (by kernel_rfl))
 t3:=Tryz.underlying3
 a3:=Tryz.isAgg3
 z3:=Tryz.sizeOf3
 v3:=Tryz.zeroValue3
 t4:=Tryz.underlying4
 a4:=Tryz.isAgg4
 z4:=Tryz.sizeOf4
 v4:=Tryz.zeroValue4
 t5:=Tryz.underlying5
 a5:=Tryz.isAgg5
 z5:=Tryz.sizeOf5
 v5:=Tryz.zeroValue5
 t9:=Tryz.underlying9
 a9:=Tryz.isAgg9
 z9:=Tryz.sizeOf9
 v9:=Tryz.zeroValue9
 t46:=Tryz.underlying105
 a46:=Tryz.isAgg105
 z46:=Tryz.sizeOf105
 v46:=Tryz.zeroValue105
 t51:=Tryz.underlying33
 a51:=Tryz.isAgg33
 z51:=Tryz.sizeOf33
 v51:=Tryz.zeroValue33
 t146:=Tryz.underlying237
 a146:=Tryz.isAgg237
 z146:=Tryz.sizeOf237
 v146:=Tryz.zeroValue237
 g1:=by kernel_rfl}
open Go.RowKit Go.Lib in
theorem Tryz.strings_Index_one(s:ByteArray)(c:UInt8)(w:World):
  Calls Tryz.prog 186 #[.string s,.string ⟨#[c]⟩] w fun e w'=>e=.returned (.int .i64 (Lib.indexByte s.data.toList c))∧w'=w:=Any.strings_Index_one Tryz.lays143 s c w
def Tryz.lays138_ren:Go.Shelf.Ren:=⟨fun|138=>221|195=>229|218=>231|143=>186|219=>207|217=>190|225=>214|224=>215|267=>216|266=>210|314=>222|n=>n,fun|9=>9|3=>3|4=>4|5=>5|0=>0|46=>105|146=>237|51=>33|n=>n,fun|1=>0|n=>n⟩
theorem Tryz.lays138:Go.Proofs.Lays.n138 Tryz.prog Tryz.lays138_ren:={
 mixed:=by kernel_rfl
 f138:=Tryz.func221.trans (congrArg some (by kernel_rfl))
 f143:=Tryz.func186.trans (congrArg some (by kernel_rfl))
 f195:=Tryz.func229.trans (congrArg some (by kernel_rfl))
 f217:=Tryz.func190.trans (congrArg some (by kernel_rfl))
 f218:=Tryz.func231.trans (congrArg some (by kernel_rfl))
 f219:=Tryz.func207.trans (congrArg some (by kernel_rfl))
 f224:=Tryz.func215.trans (congrArg some (by kernel_rfl))
 f225:=Tryz.func214.trans (congrArg some (by kernel_rfl))
 f266:=Tryz.func210.trans (congrArg some (by kernel_rfl))
 f267:=Tryz.func216.trans (congrArg some (by kernel_rfl))
 f314:=Tryz.func222.trans (congrArg some (by kernel_rfl))
 t0:=Tryz.underlying0
 a0:=Tryz.isAgg0
 z0:=Tryz.sizeOf0
 v0:=Tryz.zeroValue0
 t3:=Tryz.underlying3
 a3:=Tryz.isAgg3
 z3:=Tryz.sizeOf3
 v3:=Tryz.zeroValue3
 t4:=Tryz.underlying4
 a4:=Tryz.isAgg4
 z4:=Tryz.sizeOf4
 v4:=Tryz.zeroValue4
 t5:=Tryz.underlying5
 a5:=Tryz.isAgg5
 z5:=Tryz.sizeOf5
 v5:=Tryz.zeroValue5
 t9:=Tryz.underlying9
 a9:=Tryz.isAgg9
 z9:=Tryz.sizeOf9
 v9:=Tryz.zeroValue9
 t46:=Tryz.underlying105
 a46:=Tryz.isAgg105
 z46:=Tryz.sizeOf105
 v46:=Tryz.zeroValue105
 t51:=Tryz.underlying33
 a51:=Tryz.isAgg33
 z51:=Tryz.sizeOf33
 v51:=Tryz.zeroValue33
 t146:=Tryz.underlying237
 a146:=Tryz.isAgg237
 z146:=Tryz.sizeOf237
 v146:=Tryz.zeroValue237
 g1:=by kernel_rfl}
open Go.RowKit Go.Lib in
theorem Tryz.strings_Count_one(s:ByteArray)(c:UInt8)(w:World):
  Calls Tryz.prog 221 #[.string s,.string ⟨#[c]⟩] w fun e w'=>e=.returned (.int .i64 (Lib.countByte s.data.toList c))∧w'=w:=Any.strings_Count_one Tryz.lays138 s c w
def Tryz.lays221_ren:Go.Shelf.Ren:=⟨fun|221=>212|268=>220|138=>221|143=>186|195=>229|197=>230|218=>231|219=>207|260=>239|217=>190|225=>214|224=>215|267=>216|266=>210|314=>222|n=>n,fun|9=>9|3=>3|31=>208|4=>4|0=>0|105=>265|21=>21|5=>5|46=>105|119=>287|139=>290|138=>289|146=>237|51=>33|n=>n,fun|1=>0|3=>4|4=>5|n=>n⟩
theorem Tryz.lays221:Go.Proofs.Lays.n221 Tryz.prog Tryz.lays221_ren:={
 mixed:=by kernel_rfl
 f138:=Tryz.func221.trans (congrArg some (by kernel_rfl))
 f143:=Tryz.func186.trans (congrArg some (by kernel_rfl))
 f195:=Tryz.func229.trans (congrArg some (by kernel_rfl))
 f197:=Tryz.func230.trans (congrArg some (by kernel_rfl))
 f217:=Tryz.func190.trans (congrArg some (by kernel_rfl))
 f218:=Tryz.func231.trans (congrArg some (by kernel_rfl))
 f219:=Tryz.func207.trans (congrArg some (by kernel_rfl))
 f221:=Tryz.func212.trans (congrArg some (by kernel_rfl))
 f224:=Tryz.func215.trans (congrArg some (by kernel_rfl))
 f225:=Tryz.func214.trans (congrArg some (by kernel_rfl))
 f260:=Tryz.func239.trans (congrArg some (by kernel_rfl))
 f266:=Tryz.func210.trans (congrArg some (by kernel_rfl))
 f267:=Tryz.func216.trans (congrArg some (by kernel_rfl))
 f268:=Tryz.func220.trans (congrArg some (by kernel_rfl))
 f314:=Tryz.func222.trans (congrArg some (by kernel_rfl))
 t0:=Tryz.underlying0
 a0:=Tryz.isAgg0
 z0:=Tryz.sizeOf0
 v0:=Tryz.zeroValue0
 t3:=Tryz.underlying3
 a3:=Tryz.isAgg3
 z3:=Tryz.sizeOf3
 v3:=Tryz.zeroValue3
 t4:=Tryz.underlying4
 a4:=Tryz.isAgg4
 z4:=Tryz.sizeOf4
 v4:=Tryz.zeroValue4
 t5:=Tryz.underlying5
 a5:=Tryz.isAgg5
 z5:=Tryz.sizeOf5
 v5:=Tryz.zeroValue5
 t9:=Tryz.underlying9
 a9:=Tryz.isAgg9
 z9:=Tryz.sizeOf9
 v9:=Tryz.zeroValue9
 t21:=Tryz.underlying21
 a21:=Tryz.isAgg21
 z21:=Tryz.sizeOf21
 v21:=Tryz.zeroValue21
 t31:=Tryz.underlying208
 a31:=Tryz.isAgg208
 z31:=Tryz.sizeOf208
 v31:=Tryz.zeroValue208
 t46:=Tryz.underlying105
 a46:=Tryz.isAgg105
 z46:=Tryz.sizeOf105
 v46:=Tryz.zeroValue105
 t51:=Tryz.underlying33
 a51:=Tryz.isAgg33
 z51:=Tryz.sizeOf33
 v51:=Tryz.zeroValue33
 t105:=Tryz.underlying265
 a105:=Tryz.isAgg265
 z105:=Tryz.sizeOf265
 v105:=Tryz.zeroValue265
 t119:=Tryz.underlying287
 a119:=Tryz.isAgg287
 z119:=Tryz.sizeOf287
 t138:=Tryz.underlying289
 a138:=Tryz.isAgg289
 z138:=Tryz.sizeOf289
 v138:=Tryz.zeroValue289
 t139:=Tryz.underlying290
 a139:=Tryz.isAgg290
 z139:=Tryz.sizeOf290
 v139:=Tryz.zeroValue290
 t146:=Tryz.underlying237
 a146:=Tryz.isAgg237
 z146:=Tryz.sizeOf237
 v146:=Tryz.zeroValue237
 g1:=by kernel_rfl
 g3:=by kernel_rfl
 g4:=by kernel_rfl}
def Tryz.lays105_ren:Go.Shelf.Ren:=⟨fun|105=>129|212=>167|99=>168|165=>169|166=>170|170=>171|169=>147|263=>192|264=>193|206=>194|240=>183|241=>195|276=>206|277=>185|n=>n,fun|9=>9|3=>3|4=>4|20=>20|0=>0|46=>105|109=>220|5=>5|72=>198|76=>222|51=>33|146=>237|53=>55|148=>239|70=>196|37=>34|75=>200|127=>235|164=>250|80=>202|n=>n,fun|n=>n⟩
theorem Tryz.lays105:Go.Proofs.Lays.n105 Tryz.prog Tryz.lays105_ren:={
 mixed:=by kernel_rfl
 f99:=Tryz.func168.trans (congrArg some (by kernel_rfl))
 f105:=Tryz.func129.trans (congrArg some (by kernel_rfl))
 f165:=Tryz.func169.trans (congrArg some (by kernel_rfl))
 f166:=Tryz.func170.trans (congrArg some (by kernel_rfl))
 f169:=Tryz.func147.trans (congrArg some (by kernel_rfl))
 f170:=Tryz.func171.trans (congrArg some (by kernel_rfl))
 f206:=Tryz.func194.trans (congrArg some (by kernel_rfl))
 f212:=Tryz.func167.trans (congrArg some (by kernel_rfl))
 f240:=Tryz.func183.trans (congrArg some (by kernel_rfl))
 f241:=Tryz.func195.trans (congrArg some (by kernel_rfl))
 f263:=Tryz.func192.trans (congrArg some (by kernel_rfl))
 f264:=Tryz.func193.trans (congrArg some (by kernel_rfl))
 f276:=Tryz.func206.trans (congrArg some (by kernel_rfl))
 f277:=Tryz.func185.trans (congrArg some (by kernel_rfl))
 t0:=Tryz.underlying0
 a0:=Tryz.isAgg0
 z0:=Tryz.sizeOf0
 v0:=Tryz.zeroValue0
 t3:=Tryz.underlying3
 a3:=Tryz.isAgg3
 z3:=Tryz.sizeOf3
 v3:=Tryz.zeroValue3
 t4:=Tryz.underlying4
 a4:=Tryz.isAgg4
 z4:=Tryz.sizeOf4
 v4:=Tryz.zeroValue4
 t5:=Tryz.underlying5
 a5:=Tryz.isAgg5
 z5:=Tryz.sizeOf5
 v5:=Tryz.zeroValue5
 t9:=Tryz.underlying9
 a9:=Tryz.isAgg9
 z9:=Tryz.sizeOf9
 v9:=Tryz.zeroValue9
 t20:=Tryz.underlying20
 a20:=Tryz.isAgg20
 z20:=Tryz.sizeOf20
 v20:=Tryz.zeroValue20
 t37:=Tryz.underlying34
 a37:=Tryz.isAgg34
 z37:=Tryz.sizeOf34
 v37:=Tryz.zeroValue34
 t46:=Tryz.underlying105
 a46:=Tryz.isAgg105
 z46:=Tryz.sizeOf105
 v46:=Tryz.zeroValue105
 t51:=Tryz.underlying33
 a51:=Tryz.isAgg33
 z51:=Tryz.sizeOf33
 v51:=Tryz.zeroValue33
 t53:=Tryz.underlying55
 a53:=Tryz.isAgg55
 z53:=Tryz.sizeOf55
 v53:=Tryz.zeroValue55
 t70:=Tryz.underlying196
 a70:=Tryz.isAgg196
 z70:=Tryz.sizeOf196
 v70:=Tryz.zeroValue196
 t72:=Tryz.underlying198
 a72:=Tryz.isAgg198
 z72:=Tryz.sizeOf198
 v72:=Tryz.zeroValue198
 t75:=Tryz.underlying200
 a75:=Tryz.isAgg200
 z75:=Tryz.sizeOf200
 v75:=Tryz.zeroValue200
 t76:=Tryz.underlying222
 a76:=Tryz.isAgg222
 z76:=Tryz.sizeOf222
 v76:=Tryz.zeroValue222
 t109:=Tryz.underlying220
 a109:=Tryz.isAgg220
 z109:=Tryz.sizeOf220
 v109:=Tryz.zeroValue220
 t127:=Tryz.underlying235
 a127:=Tryz.isAgg235
 z127:=Tryz.sizeOf235
 v127:=Tryz.zeroValue235
 t146:=Tryz.underlying237
 a146:=Tryz.isAgg237
 z146:=Tryz.sizeOf237
 v146:=Tryz.zeroValue237
 t148:=Tryz.underlying239
 a148:=Tryz.isAgg239
 z148:=Tryz.sizeOf239
 v148:=Tryz.zeroValue239
 t164:=Tryz.underlying250
 a164:=Tryz.isAgg250
 z164:=Tryz.sizeOf250
 v164:=Tryz.zeroValue250}
theorem Tryz.Builder_Extra_105:Builder.Extra Tryz.prog Tryz.lays105_ren:={
 sizeBuilder:=by kernel_rfl
 liesBuilder:=by kernel_rfl
 t5:=Tryz.underlying5
 a5:=Tryz.isAgg5
 z5:=Tryz.sizeOf5
 v5:=Tryz.zeroValue5
 infoByte:=by kernel_rfl
 cellsByte:=by kernel_rfl
 sizeByte:=by kernel_rfl
 neB5:=by decide}
open Go.RowKit Go.Lib in
theorem Tryz.strings_Repeat(s:ByteArray)(c:Nat)(w:World)(hc:c≤9223372036854775807)(hlen:s.size*c≤140737488355328):
  Calls Tryz.prog 129 #[.string s,.int .i64 c] w fun e w'=>e=.returned (.string ⟨(Lib.repeatL s.data.toList c).toArray⟩)∧Below w.heap.size w w':=Any.strings_Repeat Tryz.lays105 Tryz.Builder_Extra_105 s c w hc hlen
def Tryz.laysSlJ14_ren:Go.Shelf.Ren:=⟨fun|14=>153|15=>185|n=>n,fun|26=>206|22=>34|3=>3|4=>4|0=>0|9=>9|20=>20|5=>5|n=>n,fun|n=>n⟩
theorem Tryz.laysSlJ14:Go.Proofs.SlLaysJ.n14 Tryz.prog Tryz.laysSlJ14_ren:={
 mixed:=by kernel_rfl
 f14:=Tryz.func153.trans (congrArg some (by kernel_rfl))
 f15:=Tryz.func185.trans (congrArg some (by kernel_rfl))
 t0:=Tryz.underlying0
 a0:=Tryz.isAgg0
 z0:=Tryz.sizeOf0
 v0:=Tryz.zeroValue0
 t3:=Tryz.underlying3
 a3:=Tryz.isAgg3
 z3:=Tryz.sizeOf3
 v3:=Tryz.zeroValue3
 t4:=Tryz.underlying4
 a4:=Tryz.isAgg4
 z4:=Tryz.sizeOf4
 v4:=Tryz.zeroValue4
 t9:=Tryz.underlying9
 a9:=Tryz.isAgg9
 z9:=Tryz.sizeOf9
 v9:=Tryz.zeroValue9
 t20:=Tryz.underlying20
 a20:=Tryz.isAgg20
 z20:=Tryz.sizeOf20
 v20:=Tryz.zeroValue20
 t22:=Tryz.underlying34
 a22:=Tryz.isAgg34
 z22:=Tryz.sizeOf34
 v22:=Tryz.zeroValue34
 t26:=Tryz.underlying206
 a26:=Tryz.isAgg206
 z26:=Tryz.sizeOf206
 v26:=Tryz.zeroValue206
 t5:=Tryz.underlying5
 z5:=Tryz.sizeOf5
 i5:=by kernel_rfl}
open Go.RowKit Go.Lib in
theorem Tryz.bytes_Join_many(b o n c:Nat)(vs:List Value)(ls:List (List UInt8))(sv:Value)(sep:List UInt8)(w:World)(hn:ls.length=n)(h2:2≤n)(hP:Lib.PartsAt w ⟨b,o,none⟩ vs ls)(hcap:n≤c)(hS:Lib.HoldsBytes w sv sep)(hn47:n≤140737488355328)(hlen:Lib.lens ls+sep.length*(n-1)≤140737488355328):
  Calls Tryz.prog 153 #[.slice (some ⟨b,o,none⟩) n c,sv] w fun e w'=>∃v',e=.returned v'∧Lib.FreshBytes w.heap.size w' v' (Lib.join ls sep)∧Below w.heap.size w w':=Any.bytes_Join_many Tryz.laysSlJ14 b o n c vs ls sv sep w hn h2 hP hcap hS hn47 hlen
end Go.Proofs
