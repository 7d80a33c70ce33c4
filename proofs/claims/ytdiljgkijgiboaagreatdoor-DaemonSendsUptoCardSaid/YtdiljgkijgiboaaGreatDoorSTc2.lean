/- Used. -/
import Derived.Deep.QuietTactic
import Derived.BigQuiet
import Derived.Test.YtdiljgkijgiboaaGreatDoorSBt1
set_option linter.all false
set_option maxRecDepth 100000
set_option maxHeartbeats 16000000
namespace Go.Proofs.YtdiljgkijgiboaaGreatDoor
open Go.RowKit Go.Sort
def odd64(x:Int):Int:=bits .and .u64 x 1
theorem zfA(x:Int)(h0:0≤x)(h1:x<18446744073709551616):odd64 x=x%2:=by
 unfold odd64;rw[u64_and x 1 h0 h1 (by omega) (by omega)];obtain⟨b,rfl⟩:=qbp h0;have e:(1:Int).toNat=1:=rfl;rw[e,nat_mask1];simp
theorem zjs(a:Int)(k:Nat)(h2:0≤a)(h3:a<18446744073709551616):0≤a/2^k∧a/2^k<18446744073709551616:=by
 obtain⟨b,rfl⟩:=qbp h2;rw[zci];have h:=Nat.div_le_self b (2^k);have e:(b:Int)/((2^k:Nat):Int)=((b/2^k:Nat):Int):=qG;rw[e];generalize b/2^k=c at h;omega
theorem odd64_shr(b:Int)(k:Nat)(h0:0≤b)(h1:b<18446744073709551616):odd64 (b/2^k)=b/2^k%2:=
 zfA _ (zjs b k h0 h1).1 (zjs b k h0 h1).2
def zbC(s:Bool)(l b:Int):Int:=
 if s=false then(if l=0∧b=0 then 0 else 14)
 else if l<0∨1099511627776<l then 4
 else if b%2=0 then 14
 else if l<63∧¬b/2^(l+1).toNat=0 then 14 else 0
theorem winCheck_g(s:Bool)(l b:Int)(hb0:0≤b)(hb1:b<18446744073709551616)(hl0: -9223372036854775808≤l)(hl1:l<9223372036854775808):
 Gives Tryz.prog 104 #[.agg #[.bool s,.int .i64 l,.int .u64 b]] (.int .i64 (zbC s l b)):=by
 intro w;have HA:=Lib.hid (zfA b hb0 hb1);cases s
 ·have HE:=Lib.hid (show zbC false l b=if l=0∧b=0 then 0 else 14 by unfold zbC;rw[if_pos rfl])
  go_enter Tryz.func104,Tryz.ntmps104
  go_wp2_with fail
  all_goals(go_ret;exact⟨zdu (by rw[HE.out];simp[*]),by(repeat' (first|exact Below.refl _ _|assumption|refine zj9 ?_ qah|refine zgv ?_ _|refine zka ?_|refine zgt ?_ _|refine bset ?_ ?_ _|(show _≤_;simp;omega)|(simp;done)))⟩)
 ·have HE:=Lib.hid (show zbC true l b=if l<0∨1099511627776<l then 4 else if b%2=0 then 14 else if l<63∧¬b/2^(l+1).toNat=0 then 14 else 0 by unfold zbC;rw[if_neg (by simp)])
  go_enter Tryz.func104,Tryz.ntmps104
  go_wp2_with fail
  all_goals
   go_ret
   refine⟨zdu ?_,by(repeat' (first|exact Below.refl _ _|assumption|refine zj9 ?_ qah|refine zgv ?_ _|refine zka ?_|refine zgt ?_ _|refine bset ?_ ?_ _|(show _≤_;simp;omega)|(simp;done)))⟩;rw[HE.out,←HA.out];unfold odd64
   (repeat' split)<;>simp_all<;>omega
theorem bits_high(l b:Int)(hb0:0≤b)(hb1:b<18446744073709551616)(hl:0≤l)(H:∀j:Nat,j<64→l<j→b/2^j%2=0):¬(l<63∧¬b/2^(l+1).toNat=0):=by
 rintro⟨h63,hne⟩;obtain⟨x,rfl⟩:=qbp hb0;obtain⟨m,rfl⟩:=qbp hl;have e:((m:Int)+1).toNat=m+1:=qp;rw[e]at hne;apply hne
 have key:x/2^(m+1)=0:=by
  apply Nat.eq_of_testBit_eq;intro i;rw[Nat.testBit_div_two_pow,Nat.zero_testBit]
  by_cases hi:i+(m+1)<64
  ·have:=H (i+(m+1)) hi qp;rw[zci]at this;have h2:x/2^(i+(m+1))%2=0:=by exact_mod_cast this
   rw[Nat.testBit_eq_decide_div_mod_eq];simp[h2]
  ·exact Nat.testBit_lt_two_pow (qca (show x<2^64 by omega) (qbS qS qp))
 rw[zci];have:(x:Int)/((2^(m+1):Nat):Int)=((x/2^(m+1):Nat):Int):=qG;rw[this,key];rfl
theorem bits_high'(l b:Int)(k:Nat)(hb0:0≤b)(hl:0≤l)(hk:k<64)(hlk:l<k)(hbit:b/2^k%2=1):l<63∧¬b/2^(l+1).toNat=0:=by
 refine⟨qp,fun h0=>?_⟩;obtain⟨x,rfl⟩:=qbp hb0;obtain⟨m,rfl⟩:=qbp hl;have e:((m:Int)+1).toNat=m+1:=qp;rw[e,zci]at h0;rw[zci]at hbit;have h1:x/2^(m+1)=0:=by exact_mod_cast h0
 have h2:x/2^k%2=1:=by exact_mod_cast hbit
 have h3:x<2^(m+1):=by
  rcases Nat.div_eq_zero_iff.1 h1 with h|h
  ·have:=qb6 (m+1);omega
  ·exact h
 have h4:x/2^k=0:=Nat.div_eq_of_lt (qca h3 (qbS qS qp));rw[h4]at h2;simp at h2
theorem refWinFault_g(s:Bool)(l b:Int)(hb0:0≤b)(hb1:b<18446744073709551616)(hl0: -9223372036854775808≤l)(hl1:l<9223372036854775808):
 Gives Tryz.prog 119 #[.agg #[.bool s,.int .i64 l,.int .u64 b]] (.int .i64 (zbC s l b)):=by
 intro w;cases s
 ·have HE:=Lib.hid (show zbC false l b=if l=0∧b=0 then 0 else 14 by unfold zbC;rw[if_pos rfl])
  go_enter Tryz.func119,Tryz.ntmps119
  go_wp2_with fail
  all_goals(go_ret;exact⟨zdu (by rw[HE.out];(repeat' split)<;>simp_all),by(repeat' (first|exact Below.refl _ _|assumption|refine zj9 ?_ qah|refine zgv ?_ _|refine zka ?_|refine zgt ?_ _|refine bset ?_ ?_ _|(show _≤_;simp;omega)|(simp;done)))⟩)
 ·have HE:=Lib.hid (show zbC true l b=if l<0∨1099511627776<l then 4 else if b%2=0 then 14 else if l<63∧¬b/2^(l+1).toNat=0 then 14 else 0 by unfold zbC;rw[if_neg (by simp)])
  by_cases hl:l<0∨1099511627776<l
  ·have HE2:=Lib.hid (HE.out.trans (if_pos hl));clear HE;rcases(show l<0∨(0≤l∧1099511627776<l)by omega)with h|⟨ha,hb⟩
   all_goals
    clear hl
    go_enter Tryz.func119,Tryz.ntmps119
    go_wp2_with fail
    go_ret
    exact⟨zdu HE2.out.symm,by(repeat' (first|exact Below.refl _ _|assumption|refine zj9 ?_ qah|refine zgv ?_ _|refine zka ?_|refine zgt ?_ _|refine bset ?_ ?_ _|(show _≤_;simp;omega)|(simp;done)))⟩
  ·have hla:0≤l:=qp;have hlb:l≤1099511627776:=qp;have HA:=zfA b hb0 hb1;rcases(show b%2=0∨b%2=1 by omega)with h2|h2
   ·have HE2:=Lib.hid (show zbC true l b=14 by rw[HE.out,if_neg hl,if_pos h2]);have hd:(bits .and .u64 b 1 != 1)=true:=by rw[show bits .and .u64 b 1=0 from HA.trans h2];rfl
    clear hl HA h2
    go_enter Tryz.func119,Tryz.ntmps119
    go_wp2_with fail
    go_ret
    exact⟨zdu HE2.out.symm,by(repeat' (first|exact Below.refl _ _|assumption|refine zj9 ?_ qah|refine zgv ?_ _|refine zka ?_|refine zgt ?_ _|refine bset ?_ ?_ _|(show _≤_;simp;omega)|(simp;done)))⟩
   ·have HE2:=Lib.hid (show zbC true l b=if l<63∧¬b/2^(l+1).toNat=0 then 14 else 0 by rw[HE.out,if_neg hl,if_neg (by omega)]);have hd:(bits .and .u64 b 1 != 1)=false:=by rw[show bits .and .u64 b 1=1 from HA.trans h2];rfl
    clear hl HA h2
    go_enter Tryz.func119,Tryz.ntmps119
    go_wp2_with fail
    go_loop [3] (fun i=>∃k:Int,0≤k∧k≤64∧i=.int .i64 k∧Hid (∀j:Nat,j<k→l<j→b/2^j%2=0)) (fun i=>(64-intOf i).toNat)
    case atStart=>exact⟨0,qp,qp,rfl,fun j hj=>by omega⟩
    case round=>
     obtain⟨k,hk1,hk2,rfl,HK⟩:=hrel
     by_cases hlt:k<64
     ·have HB:=odd64_shr b k.toNat hb0 hb1;have hr:=zjs b k.toNat hb0 hb1;rcases(show b/2^k.toNat%2=0∨b/2^k.toNat%2=1 by omega)with hbit|hbit
      ·have hd:(bits .and .u64 (b/2^k.toNat) 1==1)=false:=by rw[show bits .and .u64 (b/2^k.toNat) 1=0 from HB.trans hbit];rfl
       have HB:=Lib.hid hbit;clear hbit hr
       go_wp2
       go_round
       case rel=>
        refine⟨k+1,qp,qp,by go_num,fun j hj hlj=>?_⟩
        by_cases hjk:(j:Int)<k
        ·exact HK.out j hjk hlj
        ·obtain rfl:j=k.toNat:=qp;exact HB.out
       case measure=>simp[intOf];omega
      ·have hd:(bits .and .u64 (b/2^k.toNat) 1==1)=true:=by rw[show bits .and .u64 (b/2^k.toNat) 1=1 from HB.trans hbit];rfl
       have HB:=Lib.hid hbit;clear hbit hr
       by_cases hlk:l<k
       ·go_wp2
        go_ret
        exact⟨zdu (by rw[HE2.out,if_pos (bits_high' l b k.toNat hb0 hla (by omega) (by omega) HB.out)]),by(repeat' (first|exact Below.refl _ _|assumption|refine zj9 ?_ qah|refine zgv ?_ _|refine zka ?_|refine zgt ?_ _|refine bset ?_ ?_ _|(show _≤_;simp;omega)|(simp;done)))⟩
       ·go_wp2
        go_round
        case rel=>
         refine⟨k+1,qp,qp,by go_num,fun j hj hlj=>?_⟩
         by_cases hjk:(j:Int)<k
         ·exact HK.out j hjk hlj
         ·omega
        case measure=>simp[intOf];omega
     ·obtain rfl:k=64:=qp
      go_wp2
      go_ret
      exact⟨zdu (by rw[HE2.out,if_neg (bits_high l b hb0 hb1 hla (fun j hj hlj=>HK.out j (by omega) hlj))]),by(repeat' (first|exact Below.refl _ _|assumption|refine zj9 ?_ qah|refine zgv ?_ _|refine zka ?_|refine zgt ?_ _|refine bset ?_ ?_ _|(show _≤_;simp;omega)|(simp;done)))⟩
end Go.Proofs.YtdiljgkijgiboaaGreatDoor
namespace Go.Proofs.YtdiljgkijgiboaaGreatDoor
open Tryz
open Go.RowKit Go.Sort
theorem winCheck_s(s:Bool)(l b:Int)(hb0:0≤b)(hb1:b<18446744073709551616)(hl0: -9223372036854775808≤l)(hl1:l<9223372036854775808):Fn prog 104 [.agg [qf s,qd l,.p (.v (.int .u64 b))]] (qd (zbC s l b)) []:=
 zgo rfl (fun _ _ _=>za7 rfl) (winCheck_g s l b hb0 hb1 hl0 hl1)
theorem refWinFault_s(s:Bool)(l b:Int)(hb0:0≤b)(hb1:b<18446744073709551616)(hl0: -9223372036854775808≤l)(hl1:l<9223372036854775808):Fn prog 119 [.agg [qf s,qd l,.p (.v (.int .u64 b))]] (qd (zbC s l b)) []:=
 zgo rfl (fun _ _ _=>za7 rfl) (refWinFault_g s l b hb0 hb1 hl0 hl1)
structure KY where
 live:Bool
 send:ByteArray
 take:ByteArray
 mine:Int
 theirs:Int
 born:Int
 counter:Int
 ss:Bool
 sl:Int
 sb:Int
 first:Bool
def KY.vals(k:KY):List Value:=[.bool k.live,.string k.send,.string k.take,.int .i64 k.mine,.int .i64 k.theirs,.int .i64 k.born,.int .i64 k.counter,.bool k.ss,.int .i64 k.sl,.int .u64 k.sb,.bool k.first]
def KY.pv(k:KY):List PV:=[.v (.bool k.live),qg k.send,qg k.take,qh k.mine,qh k.theirs,qh k.born,qh k.counter,.v (.bool k.ss),qh k.sl,.v (.int .u64 k.sb),.v (.bool k.first)]
def KY.cells(k:KY):List AV:=[qf k.live,qc k.send,qc k.take,qd k.mine,qd k.theirs,qd k.born,qd k.counter,qf k.ss,qd k.sl,.p (.v (.int .u64 k.sb)),qf k.first]
def KY0:KY:=⟨false,⟨#[]⟩,⟨#[]⟩,0,0,0,0,false,0,0,false⟩
structure KY.OK(k:KY):Prop where
 sb0:0≤k.sb
 sb1:k.sb<18446744073709551616
 sl0: -9223372036854775808≤k.sl
 sl1:k.sl<9223372036854775808
 m0: -9223372036854775808≤k.mine
 m1:k.mine≤9223372036854775807
 t0: -9223372036854775808≤k.theirs
 t1:k.theirs≤9223372036854775807
 b0: -9223372036854775808≤k.born
 b1:k.born≤9223372036854775807
 c0: -9223372036854775808≤k.counter
 c1:k.counter≤9223372036854775807
 s0:k.send.size≤140737488351232
 s1:k.take.size≤140737488351232
theorem KY0.ok:KY0.OK:=by constructor<;>decide
noncomputable def KY.zero(k:KY):Bool:=eqL k.vals KY0.vals
def KY.bad(k:KY):Bool:=(((((((decide (k.mine<1)||decide (4294967295<k.mine))||decide (k.theirs<1))||decide (4294967295<k.theirs))||decide (k.born<0))||decide (1099511627776<k.born))||decide (k.counter<0))||decide (1099511627776<k.counter))
noncomputable def kE(k:KY):Int:=
 if k.live=false then(if k.zero=true then 0 else 14)
 else if keyE k.send≠0 then keyE k.send else if keyE k.take≠0 then keyE k.take else if k.bad=true then 4 else zbC k.ss k.sl k.sb
theorem kE_live{k:KY}(h:kE k=0)(hl:k.live=true):keyE k.send=0∧keyE k.take=0∧k.bad=false∧zbC k.ss k.sl k.sb=0:=by
 unfold kE at h;rw[if_neg (by simp[hl])]at h
 by_cases h1:keyE k.send=0
 ·rw[if_neg (by simp[h1])]at h
  by_cases h2:keyE k.take=0
  ·rw[if_neg (by simp[h2])]at h
   by_cases h3:k.bad=true
   ·rw[if_pos h3]at h;omega
   ·rw[if_neg h3]at h;exact⟨h1,h2,by simpa using h3,h⟩
  ·rw[if_pos h2]at h;exact absurd h h2
 ·exact jc5
theorem zea{k:KY}(h:kE k=0)(hl:k.live=true):1≤k.mine∧k.mine≤4294967295∧1≤k.theirs∧k.theirs≤4294967295∧0≤k.counter∧k.counter≤1099511627776∧0≤k.born∧k.born≤1099511627776:=by
 have h3:=(kE_live h hl).2.2.1;unfold KY.bad at h3;simp at h3;omega
theorem KY.eqL_iff{a b:KY}:eqL a.vals b.vals=true↔a=b:=by
 rw[zaY]
 constructor
 ·intro h;cases a;cases b;simpa[KY.vals]using h
 ·intro h;rw[h]
theorem KY.zero_iff{k:KY}:k.zero=true↔k=KY0:=KY.eqL_iff
theorem zjQ(k:KY)(ok:k.OK):Fn prog 60 [.agg k.cells] (qd (kE k)) []:=by
 have hW:=winCheck_s k.ss k.sl k.sb ok.sb0 ok.sb1 ok.sl0 ok.sl1;refine fnI fun w0 A=>?_
 refine jd2 ?_;refine cX ?_ ?_<;>intro h
 ·exact jaN
 have hl:k.live=true:=qB;clear h;have hE:kE k=if keyE k.send≠0 then keyE k.send else if keyE k.take≠0 then keyE k.take else if k.bad=true then 4 else zbC k.ss k.sl k.sb:=by unfold kE;rw[if_neg (by simp[hl])]
 rw[hE];refine G [8] ?_;refine zaa (xs:=[qc k.send,qc k.take]) (zdn (es:=[qc k.send,qc k.take]) underlying162 zr162 rfl sz9 qq) qF rfl ?_;refine G [3] ?_;refine zag (fun m st=>∃i:Nat,m+i=2∧(1≤i→keyE k.send=0)∧(2≤i→keyE k.take=0)∧st=St.of [(1,.ref 1 0),(16,.agg [qc k.send,qc k.take]),(17,qd i)] [(1,.box 59 k.cells)]) 2 ?_ ?_
 ·refine⟨_,zai id _ _ ?_ ?_ rfl,0,qp,qp,qp,rfl⟩
  ·exact jap
  ·exact jbn
 rintro m st ⟨i,hi,hi1,hi2,rfl⟩;refine G [5] ?_;refine cX ?_ ?_<;>intro h
 ·have hlt:i<2:=qw;clear h
  obtain⟨x,hx,hxa,hxb⟩:∃x:ByteArray,[AV.p (qg k.send),AV.p (qg k.take)][i]?=some (qc x)∧(i=0→x=k.send)∧(i=1→x=k.take):=by
   match i,hlt with
   |0,_=>exact⟨k.send,rfl,fun _=>rfl,qp⟩
   |1,_=>exact⟨k.take,rfl,qp,fun _=>rfl⟩
  refine G [5] ?_;refine jeA ?_;refine G [5] ?_;refine cV (zbs x) ?_;refine jds ?_;refine cX ?_ ?_<;>intro h
  ·have hne:keyE x≠0:=qB
   have hE2:(if keyE k.send≠0 then keyE k.send else if keyE k.take≠0 then keyE k.take else if k.bad=true then 4 else zbC k.ss k.sl k.sb)=keyE x:=by
    match i,hlt with
    |0,_=>rw[hxa rfl]at hne⊢;rw[if_pos hne]
    |1,_=>rw[hxb rfl]at hne⊢;rw[if_neg (by simp[hi1 (by omega)]),if_pos hne]
   rw[hE2];exact jaB
  ·have he:keyE x=0:=qB;refine jdC ?_;refine⟨m-1,qp,_,zai id _ _ ?_ ?_ rfl,i+1,qp,?_,?_,rfl⟩
   ·exact jap
   ·exact jbn
   ·intro _
    by_cases h0:i=0
    ·rw[←hxa h0];exact he
    ·exact hi1 qp
   ·intro _;rw[←hxb (by omega)];exact he
 have hge:i=2:=qw;clear h;subst hge;have ha:=hi1 qp;have hb:=hi2 qp;rw[if_neg (by simp[ha]),if_neg (by simp[hb])];clear hE;refine G [11,2,4,2,4,2,4,2,4,2,4,2,4,2,1,9,0] ?_;refine cX ?_ ?_<;>intro h
 ·have h':k.bad=true:=h;rw[if_pos h'];exact jbo
 ·have h':k.bad=false:=h;rw[if_neg (by simp[h'])];refine G [5] ?_;refine cV hW ?_;exact jbb
theorem idx_s(n:Int):Fn prog 118 [qd n] (qf (decide (0<n)&&decide (n<4294967296))) []:=by
 refine fnI fun w0 A=>?_
 refine G [11,2,3,9,0] ?_;exact yE
theorem zfG(k:KY)(ok:k.OK):Fn prog 77 [.agg k.cells] (qd (kE k)) []:=by
 have hW:=refWinFault_s k.ss k.sl k.sb ok.sb0 ok.sb1 ok.sl0 ok.sl1;refine fnI fun w0 A=>?_
 refine jd2 ?_;refine cX ?_ ?_<;>intro h
 ·exact jaN
 have hl:k.live=true:=qB;clear h;have hE:kE k=if keyE k.send≠0 then keyE k.send else if keyE k.take≠0 then keyE k.take else if k.bad=true then 4 else zbC k.ss k.sl k.sb:=by unfold kE;rw[if_neg (by simp[hl])]
 rw[hE];refine G [6] ?_;refine cV (zbh k.send) ?_;refine jds ?_;refine cX ?_ ?_<;>intro h
 ·have hne:keyE k.send≠0:=qB;rw[if_pos hne];exact jaB
 have ha:keyE k.send=0:=qB;clear h;rw[if_neg (by simp[ha])];refine G [6] ?_;refine cV (zbh k.take) ?_;refine jds ?_;refine cX ?_ ?_<;>intro h
 ·have hne:keyE k.take≠0:=qB;rw[if_pos hne];exact jaB
 have hb:keyE k.take=0:=qB;clear h;rw[if_neg (by simp[hb])];clear hE
 have hbad2:k.bad=((((((!(decide (0<k.mine)&&decide (k.mine<4294967296)))||(!(decide (0<k.theirs)&&decide (k.theirs<4294967296))))||decide (k.born<0))||decide (1099511627776<k.born))||decide (k.counter<0))||decide (1099511627776<k.counter)):=by
  unfold KY.bad;rw[qb1];simp;omega
 refine G [11] ?_;refine cV (idx_s k.mine) ?_;refine G [2] ?_;refine mb2 _ rfl rfl (fun hb=>(zah (r:=.fn _ _))) (fun _=>trivial) ?_;refine G [2] ?_;refine mb2 _ rfl rfl (fun _=>zbl func118 rfl rfl (idx_s k.theirs) qD rfl) (fun _=>trivial) ?_;refine G [1,2,4,2,4,2,4,2,4,2,1,9,0] ?_;refine cX ?_ ?_<;>intro h
 ·have h':k.bad=true:=hbad2.trans h;rw[if_pos h'];exact jbo
 ·have h':k.bad=false:=hbad2.trans h;rw[if_neg (by simp[h'])];refine G [5] ?_;refine cV hW ?_;exact jbb
noncomputable def zbv(k:KY)(now:Int):Bool:=((((kE k==0)&&k.live)&&decide (k.counter<1099511627776))&&decide (k.born≤now))&&decide (now-k.born<180)
noncomputable def oldB(k:KY)(now:Int):Bool:= !zbv k now||decide (120≤now-k.born)
theorem zcw{k:KY}{now:Int}(h:zbv k now=true):kE k=0∧k.live=true∧0≤k.born∧k.born≤1099511627776∧0≤k.counter∧k.counter<1099511627776∧k.born≤now∧now-k.born<180:=by
 unfold zbv at h;simp at h;have:=zea h.1.1.1.1 h.1.1.1.2;exact⟨h.1.1.1.1,h.1.1.1.2,qp,qp,qp,h.1.1.2,h.1.2,h.2⟩
theorem zjY(k:KY)(ok:k.OK)(now:Int)(n0: -9223372036854775808≤now)(n1:now≤9223372036854775807):Fn prog 13 [.agg k.cells,qd now] (qf (zbv k now)) []:=by
 have hC:=zjQ k ok;have hB:=@zea k;unfold zbv;generalize kE k=e at*;refine fnI fun w0 A=>?_
 refine G [8] ?_;refine cV hC ?_;refine G [4,2,4,2,5,2,4] ?_;refine mb2 _ rfl rfl (fun hb=>(ziu qaw)) (fun _=>trivial) ?_;refine G [1,2,3,9,0] ?_;exact yE
theorem zff(k:KY)(ok:k.OK)(now:Int)(n0: -9223372036854775808≤now)(n1:now≤9223372036854775807):Fn prog 25 [.agg k.cells,qd now] (qf (zbv k now)) []:=by
 have hC:=zfG k ok;have hB:=@zea k
 have e1:zbv k now=(((((kE k==0)&&k.live)&&(k.counter != 1099511627776))&&decide (k.born≤now))&&decide (now<k.born+180)):=by
  unfold zbv;rw[qb1];simp
  constructor
  ·rintro⟨⟨⟨⟨h1,h2⟩,h3⟩,h4⟩,h5⟩;exact⟨⟨⟨⟨h1,h2⟩,qp⟩,h4⟩,qp⟩
  ·rintro⟨⟨⟨⟨h1,h2⟩,h3⟩,h4⟩,h5⟩;have:=hB h1 h2;exact⟨⟨⟨⟨h1,h2⟩,qp⟩,h4⟩,qp⟩
 rw[e1];clear e1;generalize kE k=e at*;refine fnI fun w0 A=>?_
 refine G [8] ?_;refine cV hC ?_;refine G [4,2,4,2,5,2,4] ?_;refine mb2 _ rfl rfl (fun hb=>(zbf qaw)) (fun _=>trivial) ?_;refine G [1,2,3,9,0] ?_;exact yE
theorem old_s(k:KY)(ok:k.OK)(now:Int)(n0: -9223372036854775808≤now)(n1:now≤9223372036854775807):Fn prog 16 [.agg k.cells,qd now] (qf (oldB k now)) []:=by
 have hC:=zjY k ok now n0 n1;have hB:=@zcw k now;unfold oldB;generalize zbv k now=e at*;refine fnI fun w0 A=>?_
 refine G [9] ?_;refine cV hC ?_;refine G [5] ?_;refine mb2 _ rfl rfl (fun hb=>(ziu qaM)) (fun _=>trivial) ?_;refine G [1,2,3,9,0] ?_;exact yE
theorem refOld_s(k:KY)(ok:k.OK)(now:Int)(n0: -9223372036854775808≤now)(n1:now≤9223372036854775807):Fn prog 27 [.agg k.cells,.p (.v (.int .i64 now))] (.p (.v (.bool (oldB k now)))) []:=by
 have hC:=zff k ok now n0 n1;have hB:=@zcw k now
 have e1:oldB k now=(!zbv k now||decide (k.born+120≤now)):=by
  unfold oldB
  congr 1
  exact decide_eq_decide.2 qp
 rw[e1];clear e1;generalize zbv k now=e at*;refine fnI fun w0 A=>?_
 refine G [9] ?_;refine cV hC ?_;refine G [5] ?_;refine mb2 _ rfl rfl (fun hb=>(zbf qaM)) (fun _=>trivial) ?_;refine G [1,2,3,9,0] ?_;exact yE
theorem KY.of_ty{n:Nat}{ps:List PV}(h:Ty prog (n+3) 59 ps):∃k:KY,k.OK∧ps=k.pv:=by
 obtain⟨_,rfl,x0,_,rfl,t0,x1,_,rfl,t1,x2,_,rfl,t2,x3,_,rfl,t3,x4,_,rfl,t4,x5,_,rfl,t5,x6,_,rfl,t6,x7,_,rfl,t7,x8,_,rfl,t8,rfl⟩:=zbu (ts:=[4,9,9,3,3,3,3,57,4]) qq h;obtain⟨_,rfl,y0,_,rfl,u0,y1,_,rfl,u1,y2,_,rfl,u2,rfl⟩:=zbu (ts:=[4,3,55]) qq t7;obtain⟨a0,rfl⟩:=zhI U4 t0;obtain⟨a1,rfl,w1⟩:=zb2 U9 t1;obtain⟨a2,rfl,w2⟩:=zb2 U9 t2;obtain⟨a3,rfl,w3⟩:=zbz U3 t3;obtain⟨a4,rfl,w4⟩:=zbz U3 t4;obtain⟨a5,rfl,w5⟩:=zbz U3 t5
 obtain⟨a6,rfl,w6⟩:=zbz U3 t6;obtain⟨a8,rfl⟩:=zhI U4 t8;obtain⟨b0,rfl⟩:=zhI U4 u0;obtain⟨b1,rfl,v1⟩:=zbz U3 u1;obtain⟨b2,rfl,v2⟩:=zbz underlying55 u2;refine⟨⟨a0,a1,a2,a3,a4,a5,a6,b0,b1,b2,a8⟩,?_,rfl⟩;have:=zfZ w3;have:=zfZ w4;have:=zfZ w5;have:=zfZ w6;have:=zfZ v1;have:=wf_u64 v2;exact jdi
end Go.Proofs.YtdiljgkijgiboaaGreatDoor
namespace Go.Proofs.YtdiljgkijgiboaaGreatDoor
open Go.RowKit Go.Sort
structure HS where
 lv:Bool
 mine:Int
 nc:ByteArray
 b:Int
 s:Int
def HS.cells(x:HS):List AV:=[qf x.lv,qd x.mine,qc x.nc,qd x.b,qd x.s]
def HS.pv(x:HS):List PV:=[.v (.bool x.lv),qh x.mine,qg x.nc,qh x.b,qh x.s]
theorem HS.of_ty{n:Nat}{ps:List PV}(h:Ty Tryz.prog (n+3) 63 ps):∃x:HS, -9223372036854775808≤x.mine∧x.mine≤9223372036854775807∧x.nc.size≤140737488351232∧ps=x.pv:=by
 obtain⟨_,rfl,x0,_,rfl,t0,x1,_,rfl,t1,x2,_,rfl,t2,x3,_,rfl,t3,x4,_,rfl,t4,rfl⟩:=zbu (ts:=[4,3,9,3,3]) qq h;obtain⟨a0,rfl⟩:=zhI U4 t0;obtain⟨a1,rfl,w1⟩:=zbz U3 t1;obtain⟨a2,rfl,w2⟩:=zb2 U9 t2;obtain⟨a3,rfl,w3⟩:=zbz U3 t3;obtain⟨a4,rfl,w4⟩:=zbz U3 t4;obtain⟨q0,q1⟩:=zfZ w1;exact⟨⟨a0,a1,a2,a3,a4⟩,q0,q1,w2,rfl⟩
end Go.Proofs.YtdiljgkijgiboaaGreatDoor
namespace Go.Proofs.YtdiljgkijgiboaaGreatDoor
open Tryz
open Go.RowKit Go.Sort
structure PQ where
 a:Int
 b:Int
 xs:List Int
def PQ.pv(p:PQ):List PV:=[qi p.a,qi p.b,.sl p.xs.length 1 (bs p.xs)]
theorem pchk_s(a b:Int)(n:Nat)(cs:List PV)(hn:n≤140737488355328):Fn prog 46 [.agg [qe a,qe b,ql n 1 cs]] (qd (if 200<n then 1 else 0)) []:=by
 exact jbO
def zd3(a b c:KY):List AV:=a.cells++b.cells++c.cells
def zhQ(a b c:KY):List PV:=a.pv++b.pv++c.pv
def zf4(a b c:KY)(i:Nat):KY:=if i=0 then a else if i=1 then b else c
theorem three_at(a b c:KY)(i:Nat)(h:i<3):((zd3 a b c).drop (i*11)).take 11=(zf4 a b c i).cells:=by
 exact jcE
theorem three_atV(a b c:KY)(i:Nat)(h:i<3):((zhQ a b c).drop (i*11)).take 11=(zf4 a b c i).pv:=by
 exact jcE
theorem three_ok{a b c:KY}(ha:a.OK)(hb:b.OK)(hc:c.OK)(i:Nat):(zf4 a b c i).OK:=by
 unfold zf4
 split
 ·exact ha
 ·split
  ·exact hb
  ·exact hc
structure ST where
 key:ByteArray
 ep:ByteArray
 a:KY
 b:KY
 c:KY
 h:HS
 q:List PQ
def HS0:HS:=⟨false,0,⟨#[]⟩,0,0⟩
def stC(key ep:ByteArray)(a b c:KY)(h:HS)(n:Nat)(q:List PV):List AV:=[qc key,qc ep]++zd3 a b c++h.cells++[ql n 3 q]
def ST.cells(s:ST):List AV:=stC s.key s.ep s.a s.b s.c s.h s.q.length (s.q.flatMap PQ.pv)
def ST.pv(s:ST):List PV:=[qg s.key,qg s.ep]++zhQ s.a s.b s.c++s.h.pv++[.sl s.q.length 3 (s.q.flatMap PQ.pv)]
structure ST.OK(s:ST):Prop where
 ep:s.ep.size<4294967281
 a:s.a.OK
 b:s.b.OK
 c:s.c.OK
 q:s.q.length≤1048576
 qx:∀p∈s.q,p.xs.length≤1048576
def hsE(h:HS):Int:=
 if h.lv=false then(if h.mine=0∧h.nc=⟨#[]⟩∧h.b=0∧h.s=0 then 0 else 14)else if h.nc.size≠16 then 1 else if hexE h.nc≠0 then hexE h.nc
 else if h.mine<1∨4294967295<h.mine∨h.b<0∨h.s<h.b∨1099511627776<h.s then 4 else 0
noncomputable def ksE(a b c:KY):Int:=fnz (fun i=>kE (zf4 a b c i)) 3
def pqG(l:List PQ)(i:Nat):PQ:=l.getD i ⟨0,0,[]⟩
def pqE(l:List PQ):Int:=fnz (fun i=>if 200<(pqG l i).xs.length then 1 else 0) l.length
noncomputable def stE(s:ST):Int:=
 if keyE s.key≠0 then keyE s.key else if ksE s.a s.b s.c≠0 then ksE s.a s.b s.c else if hsE s.h≠0 then hsE s.h
 else if s.ep≠⟨#[]⟩∧enE s.ep≠0 then enE s.ep else if 3<s.q.length then 1 else pqE s.q
theorem eqHand(m:Int)(n:ByteArray)(b s:Int):eqL [.bool false,.int .i64 m,.string n,.int .i64 b,.int .i64 s] [.bool false,.int .i64 0,.string ⟨#[]⟩,.int .i64 0,.int .i64 0]=decide (m=0∧n=⟨#[]⟩∧b=0∧s=0):=by
 rw[qb1,zaY];simp
theorem tright_s(s:ST)(ok:s.OK):Fn prog 94 [.agg s.cells] (qd (stE s)) []:=by
 obtain⟨key,ep,a,b,c,h0,q⟩:=s;obtain⟨hep,oa,ob,oc,hq,hqx⟩:=ok;dsimp only at hep oa ob oc hq hqx;obtain⟨E,hE⟩:∃E,stE ⟨key,ep,a,b,c,h0,q⟩=E:=⟨_,rfl⟩;rw[hE];unfold stE at hE;dsimp only at hE;have hK:=zbs key;have hEn:=end_s ep hep;obtain⟨ea,eb,hen⟩:=enR_e ep;rw[hen]at hEn;clear hen;have h3a:=three_at a b c;have h3o:=three_ok oa ob oc;have hks:ksE a b c=fnz (fun i=>kE (zf4 a b c i)) 3:=rfl;generalize hT:zf4 a b c=T at*
 show Fn prog _ [.agg (stC key ep a b c h0 q.length (q.flatMap PQ.pv))] _ _;generalize keyE key=k1 at*;generalize enE ep=e1 at*;refine fnI fun w0 A=>?_
 refine G [10] ?_;refine cV hK ?_;refine jds ?_;refine cX ?_ ?_<;>intro h
 ·exact jc2
 have h1:k1=0:=qB;clear h;rw[if_neg (by simp[h1])]at hE;refine G [6] ?_;refine jeJ ?_;refine G [2] ?_;refine jeK ?_;refine G [2] ?_;refine jeL ?_;refine zaa (xs:=[.agg a.cells,.agg b.cells,.agg c.cells]) (zdn (es:=(a.cells++b.cells++c.cells)) underlying181 zr181 rfl sz59 qq) qF rfl ?_;refine G [3] ?_;refine zag (fun m st=>∃i:Nat,m+i=3∧(∀j,j<i→kE (T j)=0)∧st=St.of [(1,.ref 1 0),(31,.agg (zd3 a b c)),(32,qd i)] [(1,.box 66 (stC key ep a b c h0 q.length (q.flatMap PQ.pv)))]) 3 ?_ ?_
 ·exact jaA
 rintro m st ⟨i,hi,hf,rfl⟩;refine G [5] ?_;refine cX ?_ ?_<;>intro h
 ·have hlt:i<3:=qw;clear h;have hix:=h3a i hlt;have hC:=zjQ (T i) (h3o i);have hhit:=@zcx (fun i=>kE (T i)) i 3 hf hlt;generalize hTx:T i=x at*;refine G [5] ?_;refine zaa (a_indexN underlying181 sz59 U59 rfl qp qp (show _=x.cells by rw[qbt];exact hix)) rfl rfl ?_;refine jfB ?_;refine cX ?_ ?_<;>intro h
  ·have hne:kE x≠0:=qB;rw[hks,hhit hne,if_pos hne]at hE;subst hE;exact jaB
  have he:kE x=0:=qB;refine jdC ?_;refine⟨m-1,qp,_,zai id _ _ ?_ ?_ rfl,i+1,qp,fun j hj=>?_,rfl⟩
  ·exact jap
  ·exact jbn
  ·by_cases ej:j=i
   ·rw[ej,hTx];exact he
   ·exact hf j qp
 have hge:i=3:=qw;clear h;subst hge;rw[hks,zdc hf,if_neg (by simp)]at hE;clear hf h3a h3o hks hT;obtain⟨lv,mine,nc,hb,hs⟩:=h0;unfold hsE at hE;dsimp only at hE;have hN:=zcD nc;refine G [4] ?_;refine jee ?_;refine jf0 (zaT 7 zr63 rfl) ?_;refine jez ?_;refine zac ?_;cases lv with
 |false=>
  rw[if_pos rfl]at hE
  by_cases hz:mine=0∧nc=⟨#[]⟩∧hb=0∧hs=0
  ·rw[if_pos hz,if_neg (by simp)]at hE;refine G [7] ?_;refine jed ?_;refine jfZ (zbO pl63 zr63 rfl rfl) ?_;refine zaa (zaK U63 rfl rfl qq qq qq (c:=false) (by rw[eqHand];simp[hz])) rfl rfl ?_;refine G [11] ?_
   by_cases h4:ep≠⟨#[]⟩∧e1≠0
   ·rw[if_pos h4]at hE;subst hE;refine jdV ?_;exact ja1
   rw[if_neg h4]at hE;refine jdV ?_;refine zb3 (St.of [(1,.ref 1 0)] [(1,.box 66 (stC key ep a b c ⟨false,mine,nc,hb,hs⟩ q.length (q.flatMap PQ.pv)))]) ?_ ?_
   ·exact jaH
   clear h4;refine jdV ?_;refine cX ?_ ?_<;>intro h
   ·exact jcK
   have h5:¬3<q.length:=qw;clear h;rw[if_neg h5]at hE;unfold pqE at hE;obtain⟨f,hF⟩:∃f,(fun i=>if 200<(pqG q i).xs.length then 1 else 0:Nat→Int)=f:=⟨_,rfl⟩;rw[hF]at hE;refine G [10] ?_;refine zag (fun m st=>∃i:Nat,m+i=q.length∧(∀j,j<i→f j=0)∧st=St.of [(109,ql q.length 3 (q.flatMap PQ.pv)),(110,qd q.length),(111,qd i)] []) q.length ?_ ?_
   ·exact jaY
   rintro m st ⟨i,hi,hf,rfl⟩;refine G [5] ?_;refine cX ?_ ?_<;>intro h
   ·have hlt:i<q.length:=qw;clear h;obtain⟨p,hp⟩:=qo hlt;have hch:=zav (f:=PQ.pv) (k:=3) (fun _=>rfl) hp;have hle:=zaw (f:=PQ.pv) (k:=3) (fun _=>rfl) hlt;have hpx:=hqx p (qbo hp);have hhit:=@zcx f i q.length hf hlt;have hfi:f i=if 200<p.xs.length then 1 else 0:=qT
    obtain⟨pa,pb,xs⟩:=p;dsimp only at hpx hfi;change _=[PV.v (.int .u32 pa),qi pb,.sl xs.length 1 (bs xs)]at hch;have hC:=pchk_s pa pb xs.length (bs xs) qp;generalize hL:q.flatMap PQ.pv=L at*;generalize bs xs=X at*;generalize xs.length=N at*;refine jfL ?_
    by_cases h6:200<N
    ·exact jcN
    ·rw[if_neg h6]at hC;refine G [3] ?_;refine cK hC ?_;refine G [5,1,7,9,0] ?_;exact jbx
   have hge:i=q.length:=qw;clear h;subst hge;rw[zdc hf]at hE;subst hE;refine jdw ?_;exact yE
  ·rw[if_neg hz,if_pos (by decide)]at hE;subst hE;refine G [7] ?_;refine jed ?_;refine jfZ (zbO pl63 zr63 rfl rfl) ?_;refine zaa (zaK U63 rfl rfl qq qq qq (c:=true) (by rw[eqHand];simp only[qcR,decide_eq_false_iff_not];exact hz)) rfl rfl ?_;exact jbs
 |true=>
  rw[if_neg (show¬true=false by decide)]at hE;refine G [29,9,0] ?_;refine cX ?_ ?_<;>intro h
  ·exact jdb
  have h2:nc.size=16:=qw;clear h;rw[if_neg (show¬nc.size≠16 by simp[h2])]at hE
  by_cases h3:hexE nc≠0
  ·exact jbL
  rw[if_neg h3]at hE;replace h3:hexE nc=0:=qbq.1 h3;obtain⟨g1,g2⟩:=zbg h3;rw[g1,g2]at hN;clear g1 g2;refine G [6] ?_;refine cV hN ?_;refine G [9,1,12,2,4,2,6,2,4,2,1,9,0] ?_;refine cX ?_ ?_<;>intro h
  ·exact jcq
  have h5:¬(mine<1∨4294967295<mine∨hb<0∨hs<hb∨1099511627776<hs):=qw;clear h;rw[if_neg h5,if_neg (by simp)]at hE
  by_cases h4:ep≠⟨#[]⟩∧e1≠0
  ·rw[if_pos h4]at hE;subst hE;refine jdV ?_;exact ja1
  rw[if_neg h4]at hE;refine jdV ?_;refine zb3 (St.of [(1,.ref 1 0)] [(1,.box 66 (stC key ep a b c ⟨true,mine,nc,hb,hs⟩ q.length (q.flatMap PQ.pv)))]) ?_ ?_
  ·exact jaH
  clear h4;refine jdV ?_;refine cX ?_ ?_<;>intro h
  ·exact jcK
  have h5:¬3<q.length:=qw;clear h;rw[if_neg h5]at hE;unfold pqE at hE;obtain⟨f,hF⟩:∃f,(fun i=>if 200<(pqG q i).xs.length then 1 else 0:Nat→Int)=f:=⟨_,rfl⟩;rw[hF]at hE;refine G [10] ?_;refine zag (fun m st=>∃i:Nat,m+i=q.length∧(∀j,j<i→f j=0)∧st=St.of [(109,ql q.length 3 (q.flatMap PQ.pv)),(110,qd q.length),(111,qd i)] []) q.length ?_ ?_
  ·exact jaY
  rintro m st ⟨i,hi,hf,rfl⟩;refine G [5] ?_;refine cX ?_ ?_<;>intro h
  ·have hlt:i<q.length:=qw;clear h;obtain⟨p,hp⟩:=qo hlt;have hch:=zav (f:=PQ.pv) (k:=3) (fun _=>rfl) hp;have hle:=zaw (f:=PQ.pv) (k:=3) (fun _=>rfl) hlt;have hpx:=hqx p (qbo hp);have hhit:=@zcx f i q.length hf hlt;have hfi:f i=if 200<p.xs.length then 1 else 0:=qT
   obtain⟨pa,pb,xs⟩:=p;dsimp only at hpx hfi;change _=[PV.v (.int .u32 pa),qi pb,.sl xs.length 1 (bs xs)]at hch;have hC:=pchk_s pa pb xs.length (bs xs) qp;generalize hL:q.flatMap PQ.pv=L at*;generalize bs xs=X at*;generalize xs.length=N at*;refine jfL ?_
   by_cases h6:200<N
   ·exact jcN
   ·rw[if_neg h6]at hC;refine G [3] ?_;refine cK hC ?_;refine G [13,9,0] ?_;exact jbx
  have hge:i=q.length:=qw;clear h;subst hge;rw[zdc hf]at hE;subst hE;refine jdw ?_;exact yE
theorem refState_s(s:ST)(ok:s.OK):Fn prog 112 [.agg s.cells] (qd (stE s)) []:=by
 obtain⟨key,ep,a,b,c,h0,q⟩:=s;obtain⟨hep,oa,ob,oc,hq,hqx⟩:=ok;dsimp only at hep oa ob oc hq hqx;obtain⟨E,hE⟩:∃E,stE ⟨key,ep,a,b,c,h0,q⟩=E:=⟨_,rfl⟩;rw[hE];unfold stE at hE;dsimp only at hE;have hK:=zbh key;have hEn:=zjz ep hep;obtain⟨ea,eb,hen⟩:=enR_e ep;rw[hen]at hEn;clear hen;have h3a:=three_atV a b c;have h3o:=three_ok oa ob oc;have hks:ksE a b c=fnz (fun i=>kE (zf4 a b c i)) 3:=rfl;generalize hT:zf4 a b c=T at*
 show Fn prog _ [.agg (stC key ep a b c h0 q.length (q.flatMap PQ.pv))] _ _;generalize keyE key=k1 at*;generalize enE ep=e1 at*;refine fnI fun w0 A=>?_
 refine G [10] ?_;refine cV hK ?_;refine jds ?_;refine cX ?_ ?_<;>intro h
 ·exact jc2
 have h1:k1=0:=qB;clear h;rw[if_neg (by simp[h1])]at hE;refine G [6] ?_;refine jeJ ?_;refine G [2] ?_;refine jeK ?_;refine G [2] ?_;refine jeL ?_;refine zab (xs:=[.agg a.cells,.agg b.cells,.agg c.cells]) (zae (es:=(a.cells++b.cells++c.cells)) (cs:=(a.pv++b.pv++c.pv)) 30 underlying207 sz59 zc59 (qbk rfl) (qbk rfl) rfl qq qq qq (qbk rfl)) qF rfl ⟨rfl,trivial⟩ ?_;refine G [4] ?_;refine zag (fun m st=>∃i:Nat,m+i=3∧(∀j,j<i→kE (T j)=0)∧st=St.of [(1,.ref 1 0),(30,.row 30),(31,qd 3),(32,qd i)] [(1,.box 66 (stC key ep a b c h0 q.length (q.flatMap PQ.pv))),(30,.row 59 11 3 (zhQ a b c))]) 3 ?_ ?_
 ·exact jaQ
 rintro m st ⟨i,hi,hf,rfl⟩;refine G [5] ?_;refine cX ?_ ?_<;>intro h
 ·have hlt:i<3:=qw;clear h;have hix:=h3a i hlt;have hsl:(zhQ a b c).length=33:=rfl;have hC:=zfG (T i) (h3o i);have hhit:=@zcx (fun i=>kE (T i)) i 3 hf hlt;generalize hTx:T i=x at*;refine G [5] ?_;refine zab (zao underlying207 sz59 qp qp (show _=i*11 by omega)) rfl rfl ⟨rfl,trivial⟩ ?_;refine zab (zb1 U59 rfl sz59 qp (hix)) rfl rfl ⟨rfl,trivial⟩ ?_;refine jfB ?_;refine cX ?_ ?_<;>intro h
  ·have hne:kE x≠0:=qB;rw[hks,hhit hne,if_pos hne]at hE;subst hE;exact jaB
  have he:kE x=0:=qB;refine jdC ?_;refine⟨m-1,qp,_,zai id _ _ ?_ ?_ rfl,i+1,qp,fun j hj=>?_,rfl⟩
  ·exact jap
  ·exact jaJ
  ·by_cases ej:j=i
   ·rw[ej,hTx];exact he
   ·exact hf j qp
 have hge:i=3:=qw;clear h;subst hge;rw[hks,zdc hf,if_neg (by simp)]at hE;clear hf h3a h3o hks hT;obtain⟨lv,mine,nc,hb,hs⟩:=h0;unfold hsE at hE;dsimp only at hE;have hN:=zcR nc;refine G [4] ?_;refine jee ?_;refine jf0 (zaT 7 zr63 rfl) ?_;refine jez ?_;refine zac ?_;cases lv with
 |false=>
  rw[if_pos rfl]at hE;refine G [16,2,4,2,4,2,1,9,0] ?_;refine cX ?_ ?_<;>intro h
  ·have hz:¬(mine=0∧nc=⟨#[]⟩∧hb=0∧hs=0):=by
    intro ⟨z1,z2,z3,z4⟩;simp[z1,z2,z3,z4]at h
   rw[if_neg hz,if_pos (by decide)]at hE;subst hE;exact jbo
  have hz:mine=0∧nc=⟨#[]⟩∧hb=0∧hs=0:=by
   simp at h
   grind
  clear h;rw[if_pos hz,if_neg (by simp)]at hE;refine G [6] ?_;refine cV hEn ?_;refine G [16,2,1,9,0] ?_;refine cX ?_ ?_<;>intro h
  ·exact jb9
  have h4:¬(ep≠⟨#[]⟩∧e1≠0):=by
   intro ⟨h5,h6⟩;simp[h5,h6]at h
  clear h;rw[if_neg h4]at hE;refine G [9,9,0] ?_;refine cX ?_ ?_<;>intro h
  ·exact jcK
  have h5:¬3<q.length:=qw;clear h;rw[if_neg h5]at hE;unfold pqE at hE;obtain⟨f,hF⟩:∃f,(fun i=>if 200<(pqG q i).xs.length then 1 else 0:Nat→Int)=f:=⟨_,rfl⟩;rw[hF]at hE;refine G [10] ?_;refine zag (fun m st=>∃i:Nat,m+i=q.length∧(∀j,j<i→f j=0)∧st=St.of [(122,ql q.length 3 (q.flatMap PQ.pv)),(123,qd q.length),(124,qd i)] []) q.length ?_ ?_
  ·exact jaY
  rintro m st ⟨i,hi,hf,rfl⟩;refine G [5] ?_;refine cX ?_ ?_<;>intro h
  ·exact jay
  have hge:i=q.length:=qw;exact jcO
 |true=>
  rw[if_neg (show¬true=false by decide)]at hE;refine G [15,9,0] ?_;refine cX ?_ ?_<;>intro h
  ·exact jdb
  have h2:nc.size=16:=qw;clear h;rw[if_neg (show¬nc.size≠16 by simp[h2])]at hE
  by_cases h3:hexE nc≠0
  ·exact jbL
  rw[if_neg h3]at hE;replace h3:hexE nc=0:=qbq.1 h3;obtain⟨g1,g2⟩:=zbg h3;rw[g1,g2]at hN;clear g1 g2;refine G [6] ?_;refine cV hN ?_;refine G [9,1,12,2,4,2,6,2,4,2,1,9,0] ?_;refine cX ?_ ?_<;>intro h
  ·exact jcq
  have h5:¬(mine<1∨4294967295<mine∨hb<0∨hs<hb∨1099511627776<hs):=qw;clear h;rw[if_neg h5,if_neg (by simp)]at hE;refine G [6] ?_;refine cV hEn ?_;refine G [16,2,1,9,0] ?_;refine cX ?_ ?_<;>intro h
  ·exact jb9
  have h4:¬(ep≠⟨#[]⟩∧e1≠0):=by
   intro ⟨h5,h6⟩;simp[h5,h6]at h
  clear h;rw[if_neg h4]at hE;refine G [9,9,0] ?_;refine cX ?_ ?_<;>intro h
  ·exact jcK
  have h5:¬3<q.length:=qw;clear h;rw[if_neg h5]at hE;unfold pqE at hE;obtain⟨f,hF⟩:∃f,(fun i=>if 200<(pqG q i).xs.length then 1 else 0:Nat→Int)=f:=⟨_,rfl⟩;rw[hF]at hE;refine G [10] ?_;refine zag (fun m st=>∃i:Nat,m+i=q.length∧(∀j,j<i→f j=0)∧st=St.of [(122,ql q.length 3 (q.flatMap PQ.pv)),(123,qd q.length),(124,qd i)] []) q.length ?_ ?_
  ·exact jaY
  rintro m st ⟨i,hi,hf,rfl⟩;refine G [5] ?_;refine cX ?_ ?_<;>intro h
  ·exact jay
  have hge:i=q.length:=qw;clear h;subst hge;rw[zdc hf]at hE;subst hE;refine jdw ?_;exact yE
end Go.Proofs.YtdiljgkijgiboaaGreatDoor
namespace Go.Proofs.YtdiljgkijgiboaaGreatDoor
open Go.RowKit Go.Sort
set_option maxRecDepth 100000 in
theorem numbers_s(X:List AV)(a b c d:Int)(h5:X[5]?=some (.p (.v (.int .i64 a))))(h16:X[16]?=some (.p (.v (.int .i64 b))))(h27:X[27]?=some (.p (.v (.int .i64 c))))(h36:X[36]?=some (.p (.v (.int .i64 d)))):
 Fn Tryz.prog 95 [.agg X] (.agg [.p (.v (.int .i64 0)),.p (.v (.int .i64 a)),.p (.v (.int .i64 b)),.p (.v (.int .i64 c)),.p (.v (.int .i64 d))]) []:=by
 refine zb0 Tryz.func95 rfl (qbk rfl) fun w0 A=>?_
 refine zad (zaN qq ?_)
 (refine zab (zhk (X:=.agg _) 1 rfl) rfl rfl ⟨rfl,trivial⟩ ?_)
 (refine zab (zaT 2 zr149 rfl) rfl rfl ⟨rfl,trivial⟩ ?_)
 refine zac (zad (zaN qq ?_))
 (refine zaa (zaC zih rfl) rfl rfl ?_)
 (refine zaa (zaC fi61_0 rfl) rfl rfl ?_)
 (refine zaa (zaC zi9 rfl) rfl rfl ?_)
 (refine zab (zcz Tryz.underlying3 rfl qZ) rfl rfl ⟨rfl,trivial⟩ ?_)
 (refine zaa (zaC zih rfl) rfl rfl ?_)
 (refine zaa (zaC fi61_1 rfl) rfl rfl ?_)
 (refine zaa (zaC zi9 rfl) rfl rfl ?_)
 (refine zab (zcz Tryz.underlying3 rfl qZ) rfl rfl ⟨rfl,trivial⟩ ?_)
 (refine zaa (zaC zih rfl) rfl rfl ?_)
 (refine zaa (zaC fi61_2 rfl) rfl rfl ?_)
 (refine zaa (zaC zi9 rfl) rfl rfl ?_)
 (refine zab (zcz Tryz.underlying3 rfl qZ) rfl rfl ⟨rfl,trivial⟩ ?_)
 (refine zaa (zaC fi66_3 rfl) rfl rfl ?_)
 (refine zaa (zaC fi63_1 rfl) rfl rfl ?_)
 (refine zab (zcz Tryz.underlying3 rfl qZ) rfl rfl ⟨rfl,trivial⟩ ?_)
 (refine zaa (zdn Tryz.underlying149 zr149 rfl sz3 rfl) rfl rfl ?_)
 (refine zab (zaf (Y:=.agg _) sz149 rfl qI (qbn rfl)) rfl rfl ⟨rfl,trivial⟩ ?_)
 refine zac (zaq (⟨qO,_,(fun o=>o),(.cellN _ _ _ _ _ _ _ _ _ rfl rfl Tryz.underlying149 rfl sz149 qaY .nil),?_,rfl,?_,rfl⟩))
 ·kernel_rfl
 ·exact trivial
def idxI(n:Int):List Int→Int
 | []=> -1
 |x::xs=>if n=x then 0 else if idxI n xs<0 then -1 else idxI n xs+1
def is(xs:List Int):List PV:=xs.map fun x=>.v (.int .i64 x)
theorem is_at{xs:List Int}{k:Nat}(h:k<xs.length):(is xs)[k]?=some (.v (.int .i64 xs[k])):=by simp[is,h]
theorem idxI_at{n:Int}:∀{xs:List Int} {k:Nat},(hk:k<xs.length)→n=xs[k]→(∀j,(hj:j<k)→n≠xs[j])→idxI n xs=k
 |x::xs,0,_,h,_=>by
  have:n=x:=qB;simp[idxI,this]
 |x::xs,k+1,hk,h,hb=>by
  have h0:n≠x:=by simpa using hb 0 qp
  have ih:=idxI_at (xs:=xs) (k:=k) (by simpa using hk) qB (fun j hj=>by simpa using hb (j+1) qp);simp only[idxI,if_neg h0,ih];rw[if_neg (by omega)];omega
theorem idxI_none{n:Int}:∀{xs:List Int},(∀j,(hj:j<xs.length)→n≠xs[j])→idxI n xs= -1
 | [],_=>rfl
 |x::xs,hb=>by
  have h0:n≠x:=hb 0 qG;have ih:=idxI_none (n:=n) (xs:=xs) (fun j hj=>hb (j+1) (by simpa using hj));simp[idxI,h0,ih]
set_option maxRecDepth 100000 in
theorem index_s(xs:List Int)(n:Int)(N:Nat)(hN:xs.length=N)(hm:N≤100000):Fn Tryz.prog 133 [.p (.sl N 1 (is xs)),.p (.v (.int .i64 n))] (.p (.v (.int .i64 (idxI n xs)))) []:=by
 refine zb0 Tryz.func133 rfl (qbk rfl) fun w0 A=>?_
 refine zad (zaN qq ?_)
 (refine zaa (zaG (r:=.p _)) rfl rfl ?_)
 refine zac (zad (zad (zaN qq ?_)))
 (refine zaa (zah (r:=.p _)) rfl rfl ?_)
 (refine zaa (zdd Tryz.underlying147) rfl rfl ?_)
 (refine zaa (zah (r:=.p _)) rfl rfl ?_)
 refine zac (zaj (zag (fun m st=>∃k:Nat,m+k=N∧(∀j,(hj:j<k)→(hj2:j<xs.length)→n≠xs[j])∧st=St.of [(0,.p (.sl N 1 (is xs))),(1,.p (.v (.int .i64 n))),(7,.p (.v (.int .i64 N))),(8,.p (.v (.int .i64 k)))] []) N ?_ ?_))
 ·refine⟨_,zai id _ _ ?_ ?_ rfl,0,qp,fun j hj=>by omega,rfl⟩
  ·(repeat(first|exact trivial|(refine⟨⟨qJ,rfl⟩,?_⟩)))
  ·exact trivial
 rintro m st ⟨k,hk,hb,rfl⟩;refine zad (zaN qq ?_)
 (refine zaa zcM rfl rfl ?_)
 refine zac (zad (zaI _ rfl (fun h=>?_) (fun h=>?_)))
 ·have hlt:k<N:=qB;clear h;have hx:k<xs.length:=qp;have hat:=is_at hx;refine zal (zad (zaj (zad (zaN qq ?_))))
  (refine zaa (zah (r:=.p _)) rfl rfl ?_)
  (refine zaa (zaG (r:=.p _)) rfl rfl ?_)
  refine zac (zad (zaN qq ?_))
  (refine zaa (zah (r:=.p _)) rfl rfl ?_)
  (refine zaa (zah (r:=.p _)) rfl rfl ?_)
  (refine zaa (zah (r:=.p _)) rfl rfl ?_)
  (refine zaa (zaL Tryz.underlying147 sz3 qp qp rfl) rfl rfl ?_)
  (refine zaa (zaz Tryz.underlying3 rfl qt) rfl rfl ?_)
  (refine zaa a_eql rfl rfl ?_)
  refine zac (zat (zaI _ rfl (fun h=>?_) (fun h=>?_)))
  ·have he:n=xs[k]:=qB;refine zad (zaN qq ?_)
   (refine zaa (zah (r:=.p _)) rfl rfl ?_)
   (refine zaa (zaG (r:=.p _)) rfl rfl ?_)
   refine zac (zaq (zbd (zaZ (zaZ (zbd (zaZ (⟨qO,_,(fun o=>o),(.tmp _ _ _ _ rfl .nil),?_,rfl,?_,rfl⟩)))))))
   ·rw[idxI_at hx he fun j hj=>hb j hj (by omega)];kernel_rfl
   ·exact trivial
  ·have he:n≠xs[k]:=qB;refine zal (zaW (zat (zaN qq ?_)))
   (refine zaa (zbf qN) rfl rfl ?_)
   (refine zaa (zah (r:=.p _)) rfl rfl ?_)
   refine zac (zat (⟨m-1,qp,_,zai id _ _ ?_ ?_ rfl,k+1,qp,fun j hj hj2=>?_,rfl⟩))
   ·(repeat(first|exact trivial|(refine⟨⟨qJ,rfl⟩,?_⟩)))
   ·exact trivial
   ·by_cases e:j=k
    ·subst e;exact he
    ·exact hb j qp hj2
 ·have hge:¬k<N:=qB;refine zar (zad (zaN qq ?_))
  (refine zaa (zaG (r:=.p _)) rfl rfl ?_)
  refine zac (zaq (⟨qO,_,(fun o=>o),(.tmp _ _ _ _ rfl .nil),?_,rfl,?_,rfl⟩))
  ·rw[idxI_none fun j hj=>hb j (by omega) hj];kernel_rfl
  ·exact trivial
end Go.Proofs.YtdiljgkijgiboaaGreatDoor
namespace Go.Proofs.YtdiljgkijgiboaaGreatDoor
open Tryz
open Go.RowKit Go.Sort
theorem idxI_ge(n:Int):∀xs:List Int,(0≤idxI n xs↔n∈xs)
 | []=>by simp[idxI]
 |x::xs=>by
  have ih:=idxI_ge n xs;unfold idxI
  by_cases h:n=x
  ·rw[if_pos h];simp[h]
  ·rw[if_neg h]
   by_cases h2:idxI n xs<0
   ·rw[if_pos h2];simp only[qbA,h,false_or];rw[←ih];omega
   ·rw[if_neg h2];simp only[qbA,h,false_or];rw[←ih];omega
theorem zjb(xs:List Int)(n:Int)(N:Nat)(hN:xs.length=N)(hm:N≤100000):Fn prog 96 [ql N 1 (is xs),qd n] (qf (decide (n∈xs))) []:=by
 have hI:=index_s xs n N hN hm;have hge:=idxI_ge n xs;have hB:decide (n∈xs)=decide (0≤idxI n xs):=by simp only[hge]
 rw[hB];generalize idxI n xs=k at*;refine fnI fun w0 A=>?_
 refine G [8] ?_;refine cV hI ?_;refine jdY ?_;exact yE
def zbo(s:ST):List Int:=[s.a.mine,s.b.mine,s.c.mine,s.h.mine]
def dupB:List Int→List Int→Bool
 |_,[]=>false
 |acc,n::r=>(decide (0<n)&&decide (n∈acc))||dupB (acc++[n]) r
def stG(l:List ST)(i:Nat):ST:=l.getD i ⟨⟨#[]⟩,⟨#[]⟩,KY0,KY0,KY0,HS0,[]⟩
def allN(l:List ST)(i:Nat):List Int:=(l.take i).flatMap zbo
noncomputable def zft(l:List ST)(i:Nat):Int:=
 if stE (stG l i)≠0 then stE (stG l i)else if 0<i∧leK (stG l i).key (stG l (i-1)).key=true then 6
 else if dupB (allN l i) (zbo (stG l i))=true then 6 else 0
noncomputable def stsE(l:List ST):Int:=if 6<l.length then 1 else fnz (zft l) l.length
theorem zja:∀(ns acc acc':List Int),(∀n,0<n→(n∈acc↔n∈acc'))→dupB acc ns=dupB acc' ns
 | [],_,_,_=>rfl
 |n::r,acc,acc',h=>by
  unfold dupB;rw[zja r (acc++[n]) (acc'++[n]) fun k hk=>by simp[h k hk]]
  by_cases hn:0<n
  ·simp[hn,h n hn]
  ·simp[hn]
theorem dupB_zero(acc ns:List Int):dupB acc (0::ns)=dupB (acc++[0]) ns:=by simp[dupB]
def allT(l:List ST)(i:Nat):List Int:=(l.take i).flatMap fun s=>0::zbo s
theorem allT_next{l:List ST}{i:Nat}{s:ST}(h:l[i]?=some s):allT l (i+1)=allT l i++(0::zbo s):=by
 obtain⟨h1,h2⟩:=qbl.1 h;unfold allT;exact jb8
theorem allT_len(l:List ST){i:Nat}(h:i≤l.length):(allT l i).length=5*i:=by
 unfold allT;rw[zaO (k:=5) (fun _=>rfl),List.length_take];omega
theorem allT_N(l:List ST)(i:Nat)(n:Int)(hn:0<n):n∈allT l i↔n∈allN l i:=by
 unfold allT allN;simp only[qcA,qbA]
 constructor
 ·rintro⟨s,h1,h2|h2⟩
  ·omega
  ·exact⟨s,h1,h2⟩
 ·rintro⟨s,h1,h2⟩;exact⟨s,h1,.inr h2⟩
theorem dupT(l:List ST)(i:Nat)(s:ST):dupB (allT l i) (0::zbo s)=dupB (allN l i) (zbo s):=by
 rw[dupB_zero]
 exact zja _ _ _ fun n hn=>by
  rw[qbD,qbN,allT_N l i n hn]
  constructor
  ·rintro(h|h)
   ·exact h
   ·omega
  ·exact .inl
theorem stG_at{l:List ST}{i:Nat}{s:ST}(h:l[i]?=some s):stG l i=s:=by unfold stG;rw[List.getD_eq_getElem?_getD,h];rfl
theorem is_push(X:List Int)(n:Int):is X++[qh n]=is (X++[n]):=by simp[is]
theorem is_len(X:List Int):(is X).length=X.length:=by simp[is]
theorem tabCheck_s(l:List ST)(ok:∀s∈l,s.OK)(hn:l.length≤1048576):Fn prog 39 [.p (.sl l.length 41 (l.flatMap ST.pv))] (.p (.v (.int .i64 (stsE l)))) []:=by
 obtain⟨E,hE⟩:∃E,stsE l=E:=⟨_,rfl⟩;rw[hE];unfold stsE at hE;refine fnI fun w0 A=>?_
 refine G [11,9,0] ?_;refine cX ?_ ?_<;>intro h
 ·exact jcl
 have h6:¬6<l.length:=qw;clear h;rw[if_neg h6]at hE;refine jd2 ?_;refine za3 (zca 3 100 3 1 rfl rfl) ?_;refine zaj (zag (fun m st=>∃i:Nat,m+i=l.length∧(∀j,j<i→zft l j=0)∧st=St.of [(0,.p (.sl l.length 41 (l.flatMap ST.pv))),(3,.row 100),(12,.p (.sl l.length 41 (l.flatMap ST.pv))),(13,.p (.v (.int .i64 l.length))),(14,.p (.v (.int .i64 i)))] [(100,.row 3 1 (5*i) (is (allT l i)))]) l.length ?_ ?_)
 ·exact jaA
 rintro m st ⟨i,hi,hf,rfl⟩;refine G [5] ?_;refine cX ?_ ?_<;>intro h
 ·have hlt:i<l.length:=qw;clear h;obtain⟨s,hs⟩:=qo hlt;have hch:=zav (f:=ST.pv) (k:=41) (fun _=>rfl) hs;have hle:=zaw (f:=ST.pv) (k:=41) (fun _=>rfl) hlt;have hok:=ok s (qbo hs);have hC:=tright_s s hok;have hhit:=@zcx (zft l) i l.length hf hlt;have hst:zft l i=if stE s≠0 then stE s else if 0<i∧leK s.key (stG l (i-1)).key=true then 6 else if dupB (allN l i) (zbo s)=true then 6 else 0:=by unfold zft;rw[stG_at hs]
  rw[←dupT]at hst;have hnx:=allT_next hs;have htl:=allT_len l (Nat.le_of_lt hlt)
  have hprev:∀j,i=j+1→(((l.flatMap ST.pv).drop (j*41)).take 41=(stG l j).pv)∧j*41+41≤(l.flatMap ST.pv).length:=by
   intro j hj;obtain⟨r,hr⟩:∃r,l[j]?=some r:=⟨l[j],List.getElem?_eq_getElem qp⟩;rw[stG_at hr];exact⟨zav (f:=ST.pv) (k:=41) (fun _=>rfl) hr,zaw (f:=ST.pv) (k:=41) (fun _=>rfl) qp⟩
  generalize hL:l.flatMap ST.pv=L at*;generalize stE s=e at*;refine G [7] ?_;refine jd1 ?_;refine G [2] ?_;refine jfR ?_;refine cX ?_ ?_<;>intro h
  ·exact jc3
  have h7:e=0:=qB;clear h;rw[if_neg (by simp[h7])]at hst;have hNum:=numbers_s s.cells s.a.mine s.b.mine s.c.mine s.h.mine rfl rfl rfl rfl
  have hcase:i=0∨∃j,i=j+1:=by
   exact jb4
  rcases hcase with hi0|⟨j0,hij⟩
  ·rw[if_neg (by omega)]at hst;refine G [5,3,12,9,0] ?_;refine cX ?_ ?_<;>intro h
   ·cases h
   clear h;obtain⟨DD,hDD⟩:∃b,dupB (allT l i) (0::zbo s)=b:=⟨_,rfl⟩;rw[hDD]at hst;refine G [3] ?_;refine jdH ?_;refine cK hNum ?_;refine G [3] ?_;refine zag (fun m' st=>∃j:Nat,m'+j=5∧(∃X:List Int,X.length=5*i+j∧DD=dupB X ((0::zbo s).drop j)∧X=allT l i++(0::zbo s).take j∧st=St.of [(0,.p (.sl l.length 41 L)),(3,.row 100),(12,.p (.sl l.length 41 L)),(13,.p (.v (.int .i64 l.length))),(14,.p (.v (.int .i64 i))),(38,.agg [.p (.v (.int .i64 0)),.p (.v (.int .i64 s.a.mine)),.p (.v (.int .i64 s.b.mine)),.p (.v (.int .i64 s.c.mine)),.p (.v (.int .i64 s.h.mine))]),(39,.p (.v (.int .i64 j)))] [(100,.row 3 1 (5*i+j) (is X))])) 5 ?_ ?_
   ·exact jc6
   rintro m' st ⟨j,hj,X,hX,hdp,hXe,rfl⟩;refine G [5] ?_;refine cX ?_ ?_<;>intro h
   ·exact jaq
   have hge:j=5:=qw;clear h;subst hge;have hz:dupB X ((0::zbo s).drop 5)=false:=rfl;rw[hz]at hdp;rw[if_neg (by rw[hdp];decide)]at hst;have hXn:X=allT l (i+1):=by rw[hXe,hnx];rfl
   subst hXn;refine jdC ?_;refine⟨m-1,qp,_,zai id _ _ ?_ ?_ rfl,i+1,qp,fun q hq=>?_,rfl⟩
   ·exact jap
   ·exact jbn
   ·exact jbU
  ·obtain⟨hpv,hple⟩:=hprev j0 hij;rw[show i-1=j0 by omega]at hst
   have hpk:(L.drop (j0*41))[0]?=some (.v (.string (stG l j0).key)):=by
    have:=congrArg (fun x=>x[0]?) hpv;rw[qbR]at this;simpa[ST.pv]using this
   generalize (stG l j0).key=pk at*;have hlk:leK s.key pk=(sLt s.key pk||decide (s.key=pk)):=rfl;generalize leK s.key pk=lk at*;refine G [5,4,6] ?_;refine zaa (zaL U26 sz66 qp qp (show _=L.drop (j0*41)by congr 2;omega)) rfl rfl ?_;refine jfZ (zan fi66_0 rfl) ?_;refine jeY ?_;refine jfZ a_sleq ?_;refine jdR ?_;refine cX ?_ ?_<;>intro h
   ·have h8:lk=true:=by rw[hlk];exact h
    exact jcn
   have h8:¬lk=true:=by rw[hlk];simpa using h
   rw[if_neg (by intro hh;exact h8 hh.2)]at hst;clear h;obtain⟨DD,hDD⟩:∃b,dupB (allT l i) (0::zbo s)=b:=⟨_,rfl⟩;rw[hDD]at hst;refine G [3] ?_;refine jdH ?_;refine cK hNum ?_;refine G [3] ?_;refine zag (fun m' st=>∃j:Nat,m'+j=5∧(∃X:List Int,X.length=5*i+j∧DD=dupB X ((0::zbo s).drop j)∧X=allT l i++(0::zbo s).take j∧st=St.of [(0,.p (.sl l.length 41 L)),(3,.row 100),(12,.p (.sl l.length 41 L)),(13,.p (.v (.int .i64 l.length))),(14,.p (.v (.int .i64 i))),(38,.agg [.p (.v (.int .i64 0)),.p (.v (.int .i64 s.a.mine)),.p (.v (.int .i64 s.b.mine)),.p (.v (.int .i64 s.c.mine)),.p (.v (.int .i64 s.h.mine))]),(39,.p (.v (.int .i64 j)))] [(100,.row 3 1 (5*i+j) (is X))])) 5 ?_ ?_
   ·exact jc6
   rintro m' st ⟨j,hj,X,hX,hdp,hXe,rfl⟩;refine G [5] ?_;refine cX ?_ ?_<;>intro h
   ·exact jaq
   have hge:j=5:=qw;clear h;subst hge;have hz:dupB X ((0::zbo s).drop 5)=false:=rfl;rw[hz]at hdp;rw[if_neg (by rw[hdp];decide)]at hst;have hXn:X=allT l (i+1):=by rw[hXe,hnx];rfl
   subst hXn;refine jdC ?_;refine⟨m-1,qp,_,zai id _ _ ?_ ?_ rfl,i+1,qp,fun q hq=>?_,rfl⟩
   ·exact jap
   ·exact jbn
   ·exact jbU
 have hge:i=l.length:=qw;exact jcO
end Go.Proofs.YtdiljgkijgiboaaGreatDoor
