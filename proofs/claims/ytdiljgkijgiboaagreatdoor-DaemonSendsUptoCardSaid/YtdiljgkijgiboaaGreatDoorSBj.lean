/- Used. -/
import Derived.Test.YtdiljgkijgiboaaGreatDoorSWi1
set_option linter.all false
set_option maxRecDepth 100000
set_option maxHeartbeats 16000000
namespace Go.Proofs.YtdiljgkijgiboaaGreatDoor
open Tryz
open Go.RowKit Go.Sort
theorem wenc1_s(m:MS)(ht:m.t=1)(hE:wE m=0)(hx:m.xs.length=m.n)(hn:m.n≤300)(hs0:0≤m.s)(hs1:m.s≤4294967295)(hr0:0≤m.r)(hr1:m.r≤4294967295)(hc0:0≤m.c)(hc1:m.c≤1099511627776):Fn prog 106 [.agg m.cells] (.tup [.row 0,qd 0]) [(0,.row 5 1 (8+m.n) (bs ([1,0,0,0]++leN 4 m.s.toNat++m.xs)))]:=by
 have hC:=zf0 m qp;rw[hE]at hC;have hO:=of_s m.t;rw[ht]at hO;change Fn prog _ _ (.tup [.agg (SH.cells ⟨32,32,true,false,false,true⟩),qf true]) []at hO;obtain⟨T,S,R,C,n,xs⟩:=m;simp only[MS.cells]at*;subst ht;obtain⟨S,rfl⟩:=qbp hs0;obtain⟨R,rfl⟩:=qbp hr0;obtain⟨C,rfl⟩:=qbp hc0;simp only[qbt];clear hE hs0 hr0 hc0;refine fnI fun w0 A=>?_
 refine jfJ ?_;refine cX ?_ ?_<;>intro h
 ·cases h
 clear h;refine G [5] ?_;refine cV hO ?_;refine G [11] ?_;refine jfZ (zbn U3 U5 (show _=(1:Int)from rfl)) ?_;refine zab (xs:=[.p (.v (.int .u8 1)),.p (.v (.int .u8 0)),.p (.v (.int .u8 0)),.p (.v (.int .u8 0))]) (zae (es:=[.p (.v (.int .u8 1)),.p (.v (.int .u8 0)),.p (.v (.int .u8 0)),.p (.v (.int .u8 0))]) (cs:=(bs [1,0,0,0])) 22 U34 sz5 zc5 (qbk rfl) (qbk rfl) rfl qq qq qq (qbk rfl)) qF rfl ⟨rfl,trivial⟩ ?_
 refine jdR ?_;refine za3 (zai (fun o=>bif Nat.beq o 7 then 22 else o) [(1,.ref 1 0),(5,.ref 5 0),(7,.row 7)] [(1,.box 129 [qd 1,qd (S:Nat),qd (R:Nat),qd (C:Nat),ql n 1 (bs xs)]),(5,.box 191 (SH.cells ⟨32,32,true,false,false,true⟩)),(7,.row 5 1 4 (bs ([1,0,0,0])))] ⟨⟨rfl,rfl⟩,⟨rfl,rfl⟩,⟨rfl,rfl⟩,trivial⟩ ⟨⟨rfl,rfl⟩,⟨rfl,rfl⟩,⟨rfl,rfl⟩,trivial⟩ rfl) ?_;refine jdw ?_;refine cX ?_ ?_<;>intro h
 rotate_left
 ·cases h
 clear h;have w1:FnO prog 143 [.row 7,qd (S:Nat),qd 4] ((7,qk 5 1 4 (bs ([1,0,0,0])))::[(100,.un),(101,.un),(102,.un),(103,.un),(104,.un),(105,.un),(106,.un),(107,.un)]) ((107,qk 5 1 8 (bs ([1,0,0,0]++leN 4 S)))::(7,.dead)::[(100,.dead),(101,.dead),(102,.dead),(103,.dead),(104,.dead),(105,.dead),(106,.dead)]) (.row 107):=(put4_s 4 ([1,0,0,0]) S qa0 qp qp).renamed [(1,7)] rfl
 skip
 refine G [4] ?_;refine je8 ?_;refine G [4] ?_;refine za3 (zai (fun o=>bif Nat.beq o 7 then 107 else o) [(1,.ref 1 0),(5,.ref 5 0),(7,.row 7)] [(1,.box 129 [qd 1,qd (S:Nat),qd (R:Nat),qd (C:Nat),ql n 1 (bs xs)]),(5,.box 191 (SH.cells ⟨32,32,true,false,false,true⟩)),(7,.row 5 1 8 (bs ([1,0,0,0]++leN 4 S)))] ⟨⟨rfl,rfl⟩,⟨rfl,rfl⟩,⟨rfl,rfl⟩,trivial⟩ ⟨⟨rfl,rfl⟩,⟨rfl,rfl⟩,⟨rfl,rfl⟩,trivial⟩ rfl) ?_
 skip
 refine jdY ?_;refine cX ?_ ?_<;>intro h
 ·cases h
 clear h;refine jds ?_;refine cX ?_ ?_<;>intro h
 ·cases h
 clear h;have hK:=zj4 8 ([1,0,0,0]++leN 4 S) qa0 qp;refine G [2] ?_;refine jfE ?_;refine zab (zam 45 U34 eo5 (zbc) qy qp (show _=8+n by omega) za5) rfl rfl ⟨rfl,rfl,trivial⟩ ?_;refine jdY ?_;refine yT (fun _=>45) ?_ ?_
 ·exact rfl
 ·exact jbn
theorem wenc2_s(m:MS)(ht:m.t=2)(hE:wE m=0)(hx:m.xs.length=m.n)(hn:m.n≤300)(hs0:0≤m.s)(hs1:m.s≤4294967295)(hr0:0≤m.r)(hr1:m.r≤4294967295)(hc0:0≤m.c)(hc1:m.c≤1099511627776):Fn prog 106 [.agg m.cells] (.tup [.row 0,qd 0]) [(0,.row 5 1 (12+m.n) (bs ([2,0,0,0]++leN 4 m.s.toNat++leN 4 m.r.toNat++m.xs)))]:=by
 have hC:=zf0 m qp;rw[hE]at hC;have hO:=of_s m.t;rw[ht]at hO;change Fn prog _ _ (.tup [.agg (SH.cells ⟨24,24,true,true,false,true⟩),qf true]) []at hO;obtain⟨T,S,R,C,n,xs⟩:=m;simp only[MS.cells]at*;subst ht;obtain⟨S,rfl⟩:=qbp hs0;obtain⟨R,rfl⟩:=qbp hr0;obtain⟨C,rfl⟩:=qbp hc0;simp only[qbt];clear hE hs0 hr0 hc0;refine fnI fun w0 A=>?_
 refine jfJ ?_;refine cX ?_ ?_<;>intro h
 ·cases h
 clear h;refine G [5] ?_;refine cV hO ?_;refine G [11] ?_;refine jfZ (zbn U3 U5 (show _=(2:Int)from rfl)) ?_;refine zab (xs:=[.p (.v (.int .u8 2)),.p (.v (.int .u8 0)),.p (.v (.int .u8 0)),.p (.v (.int .u8 0))]) (zae (es:=[.p (.v (.int .u8 2)),.p (.v (.int .u8 0)),.p (.v (.int .u8 0)),.p (.v (.int .u8 0))]) (cs:=(bs [2,0,0,0])) 22 U34 sz5 zc5 (qbk rfl) (qbk rfl) rfl qq qq qq (qbk rfl)) qF rfl ⟨rfl,trivial⟩ ?_
 refine jdR ?_;refine za3 (zai (fun o=>bif Nat.beq o 7 then 22 else o) [(1,.ref 1 0),(5,.ref 5 0),(7,.row 7)] [(1,.box 129 [qd 2,qd (S:Nat),qd (R:Nat),qd (C:Nat),ql n 1 (bs xs)]),(5,.box 191 (SH.cells ⟨24,24,true,true,false,true⟩)),(7,.row 5 1 4 (bs ([2,0,0,0])))] ⟨⟨rfl,rfl⟩,⟨rfl,rfl⟩,⟨rfl,rfl⟩,trivial⟩ ⟨⟨rfl,rfl⟩,⟨rfl,rfl⟩,⟨rfl,rfl⟩,trivial⟩ rfl) ?_;refine jdw ?_;refine cX ?_ ?_<;>intro h
 rotate_left
 ·cases h
 clear h;have w1:FnO prog 143 [.row 7,qd (S:Nat),qd 4] ((7,qk 5 1 4 (bs ([2,0,0,0])))::[(100,.un),(101,.un),(102,.un),(103,.un),(104,.un),(105,.un),(106,.un),(107,.un)]) ((107,qk 5 1 8 (bs ([2,0,0,0]++leN 4 S)))::(7,.dead)::[(100,.dead),(101,.dead),(102,.dead),(103,.dead),(104,.dead),(105,.dead),(106,.dead)]) (.row 107):=(put4_s 4 ([2,0,0,0]) S qa0 qp qp).renamed [(1,7)] rfl
 skip
 refine G [4] ?_;refine je8 ?_;refine G [4] ?_;refine za3 (zai (fun o=>bif Nat.beq o 7 then 107 else o) [(1,.ref 1 0),(5,.ref 5 0),(7,.row 7)] [(1,.box 129 [qd 2,qd (S:Nat),qd (R:Nat),qd (C:Nat),ql n 1 (bs xs)]),(5,.box 191 (SH.cells ⟨24,24,true,true,false,true⟩)),(7,.row 5 1 8 (bs ([2,0,0,0]++leN 4 S)))] ⟨⟨rfl,rfl⟩,⟨rfl,rfl⟩,⟨rfl,rfl⟩,trivial⟩ ⟨⟨rfl,rfl⟩,⟨rfl,rfl⟩,⟨rfl,rfl⟩,trivial⟩ rfl) ?_
 skip
 refine jdY ?_;refine cX ?_ ?_<;>intro h
 rotate_left
 ·cases h
 clear h;have w2:FnO prog 143 [.row 7,qd (R:Nat),qd 4] ((7,qk 5 1 8 (bs ([2,0,0,0]++leN 4 S)))::[(100,.un),(101,.un),(102,.un),(103,.un),(104,.un),(105,.un),(106,.un),(107,.un)]) ((107,qk 5 1 12 (bs ([2,0,0,0]++leN 4 S++leN 4 R)))::(7,.dead)::[(100,.dead),(101,.dead),(102,.dead),(103,.dead),(104,.dead),(105,.dead),(106,.dead)]) (.row 107):=(put4_s 8 ([2,0,0,0]++leN 4 S) R qa0 qp qp).renamed [(1,7)] rfl
 skip
 refine G [4] ?_;refine zbp (w2) rfl rfl func143 rfl rfl qL rfl ?_;refine G [4] ?_;refine za3 (zai (fun o=>bif Nat.beq o 7 then 107 else o) [(1,.ref 1 0),(5,.ref 5 0),(7,.row 7)] [(1,.box 129 [qd 2,qd (S:Nat),qd (R:Nat),qd (C:Nat),ql n 1 (bs xs)]),(5,.box 191 (SH.cells ⟨24,24,true,true,false,true⟩)),(7,.row 5 1 12 (bs ([2,0,0,0]++leN 4 S++leN 4 R)))] ⟨⟨rfl,rfl⟩,⟨rfl,rfl⟩,⟨rfl,rfl⟩,trivial⟩ ⟨⟨rfl,rfl⟩,⟨rfl,rfl⟩,⟨rfl,rfl⟩,trivial⟩ rfl) ?_
 skip
 refine jdY ?_;refine cX ?_ ?_<;>intro h
 ·cases h
 clear h;have hK:=zj4 12 ([2,0,0,0]++leN 4 S++leN 4 R) qa0 qp;refine G [2] ?_;refine jfE ?_;refine zab (zam 45 U34 eo5 (zbc) qy qp (show _=12+n by omega) za5) rfl rfl ⟨rfl,rfl,trivial⟩ ?_;refine jdY ?_;refine yT (fun _=>45) ?_ ?_
 ·exact rfl
 ·exact jbn
theorem wenc4_s(m:MS)(ht:m.t=4)(hE:wE m=0)(hx:m.xs.length=m.n)(hn:m.n≤300)(hs0:0≤m.s)(hs1:m.s≤4294967295)(hr0:0≤m.r)(hr1:m.r≤4294967295)(hc0:0≤m.c)(hc1:m.c≤1099511627776):Fn prog 106 [.agg m.cells] (.tup [.row 0,qd 0]) [(0,.row 5 1 (16+m.n) (bs ([4,0,0,0]++leN 4 m.r.toNat++leN 8 m.c.toNat++m.xs)))]:=by
 have hC:=zf0 m qp;rw[hE]at hC;have hO:=of_s m.t;rw[ht]at hO;change Fn prog _ _ (.tup [.agg (SH.cells ⟨16,236,false,true,true,true⟩),qf true]) []at hO;obtain⟨T,S,R,C,n,xs⟩:=m;simp only[MS.cells]at*;subst ht;obtain⟨S,rfl⟩:=qbp hs0;obtain⟨R,rfl⟩:=qbp hr0;obtain⟨C,rfl⟩:=qbp hc0;simp only[qbt];clear hE hs0 hr0 hc0;refine fnI fun w0 A=>?_
 refine jfJ ?_;refine cX ?_ ?_<;>intro h
 ·cases h
 clear h;refine G [5] ?_;refine cV hO ?_;refine G [11] ?_;refine jfZ (zbn U3 U5 (show _=(4:Int)from rfl)) ?_;refine zab (xs:=[.p (.v (.int .u8 4)),.p (.v (.int .u8 0)),.p (.v (.int .u8 0)),.p (.v (.int .u8 0))]) (zae (es:=[.p (.v (.int .u8 4)),.p (.v (.int .u8 0)),.p (.v (.int .u8 0)),.p (.v (.int .u8 0))]) (cs:=(bs [4,0,0,0])) 22 U34 sz5 zc5 (qbk rfl) (qbk rfl) rfl qq qq qq (qbk rfl)) qF rfl ⟨rfl,trivial⟩ ?_
 refine jdR ?_;refine za3 (zai (fun o=>bif Nat.beq o 7 then 22 else o) [(1,.ref 1 0),(5,.ref 5 0),(7,.row 7)] [(1,.box 129 [qd 4,qd (S:Nat),qd (R:Nat),qd (C:Nat),ql n 1 (bs xs)]),(5,.box 191 (SH.cells ⟨16,236,false,true,true,true⟩)),(7,.row 5 1 4 (bs ([4,0,0,0])))] ⟨⟨rfl,rfl⟩,⟨rfl,rfl⟩,⟨rfl,rfl⟩,trivial⟩ ⟨⟨rfl,rfl⟩,⟨rfl,rfl⟩,⟨rfl,rfl⟩,trivial⟩ rfl) ?_;refine jdw ?_;refine cX ?_ ?_<;>intro h
 ·cases h
 clear h;refine jds ?_;refine cX ?_ ?_<;>intro h
 rotate_left
 ·cases h
 clear h;have w1:FnO prog 143 [.row 7,qd (R:Nat),qd 4] ((7,qk 5 1 4 (bs ([4,0,0,0])))::[(100,.un),(101,.un),(102,.un),(103,.un),(104,.un),(105,.un),(106,.un),(107,.un)]) ((107,qk 5 1 8 (bs ([4,0,0,0]++leN 4 R)))::(7,.dead)::[(100,.dead),(101,.dead),(102,.dead),(103,.dead),(104,.dead),(105,.dead),(106,.dead)]) (.row 107):=(put4_s 4 ([4,0,0,0]) R qa0 qp qp).renamed [(1,7)] rfl
 skip
 refine G [4] ?_;refine je8 ?_;refine G [4] ?_;refine za3 (zai (fun o=>bif Nat.beq o 7 then 107 else o) [(1,.ref 1 0),(5,.ref 5 0),(7,.row 7)] [(1,.box 129 [qd 4,qd (S:Nat),qd (R:Nat),qd (C:Nat),ql n 1 (bs xs)]),(5,.box 191 (SH.cells ⟨16,236,false,true,true,true⟩)),(7,.row 5 1 8 (bs ([4,0,0,0]++leN 4 R)))] ⟨⟨rfl,rfl⟩,⟨rfl,rfl⟩,⟨rfl,rfl⟩,trivial⟩ ⟨⟨rfl,rfl⟩,⟨rfl,rfl⟩,⟨rfl,rfl⟩,trivial⟩ rfl) ?_
 skip
 refine jdY ?_;refine cX ?_ ?_<;>intro h
 rotate_left
 ·cases h
 clear h;have w2:FnO prog 143 [.row 7,qd (C:Nat),qd 8] ((7,qk 5 1 8 (bs ([4,0,0,0]++leN 4 R)))::[(100,.un),(101,.un),(102,.un),(103,.un),(104,.un),(105,.un),(106,.un),(107,.un),(108,.un),(109,.un),(110,.un),(111,.un),(112,.un),(113,.un),(114,.un),(115,.un)]) ((115,qk 5 1 16 (bs ([4,0,0,0]++leN 4 R++leN 8 C)))::(7,.dead)::[(100,.dead),(101,.dead),(102,.dead),(103,.dead),(104,.dead),(105,.dead),(106,.dead),(107,.dead),(108,.dead),(109,.dead),(110,.dead),(111,.dead),(112,.dead),(113,.dead),(114,.dead)]) (.row 115):=(put8_s 8 ([4,0,0,0]++leN 4 R) C qa0 qp qp).renamed [(1,7)] rfl
 skip
 refine G [4] ?_;refine zbp (w2) rfl rfl func143 rfl rfl qL rfl ?_;refine G [3] ?_;refine za3 (zai (fun o=>bif Nat.beq o 7 then 115 else o) [(1,.ref 1 0),(5,.ref 5 0),(7,.row 7)] [(1,.box 129 [qd 4,qd (S:Nat),qd (R:Nat),qd (C:Nat),ql n 1 (bs xs)]),(5,.box 191 (SH.cells ⟨16,236,false,true,true,true⟩)),(7,.row 5 1 16 (bs ([4,0,0,0]++leN 4 R++leN 8 C)))] ⟨⟨rfl,rfl⟩,⟨rfl,rfl⟩,⟨rfl,rfl⟩,trivial⟩ ⟨⟨rfl,rfl⟩,⟨rfl,rfl⟩,⟨rfl,rfl⟩,trivial⟩ rfl) ?_
 have hK:=zj4 16 ([4,0,0,0]++leN 4 R++leN 8 C) qa0 qp
 skip
 refine jfE ?_;refine zab (zam 45 U34 eo5 (zbc) qy qp (show _=16+n by omega) za5) rfl rfl ⟨rfl,rfl,trivial⟩ ?_;refine jdY ?_;refine yT (fun _=>45) ?_ ?_
 ·exact rfl
 ·exact jbn
theorem zdf(xs ys:List Int):strOfNums xs++strOfNums ys=strOfNums (xs++ys):=by
 apply ByteArray.ext;simp[strOfNums,ByteArray.data_append]
theorem be_at(w n k:Nat)(hk:k<w):((bs (beN w n)).drop (w-1-k)).take (1*1)=bs [((n/256^k%256:Nat):Int)]:=by
 have hl:w-1-k<(beN w n).length:=by rw[zcf];omega
 have hb:(beN w n)[w-1-k]=((n/256^k%256:Nat):Int):=by
  simp only[beN,qcZ,List.getElem_range];rw[show 8*(w-1-(w-1-k))=8*k by omega,Nat.pow_mul]
 rw[show(bs (beN w n)).drop (w-1-k)=bs ((beN w n).drop (w-1-k))by simp[bs]];rw[qbQ hl,hb];rfl
theorem zdN(w n:Nat)(hw:w≤8)(hn:n<9223372036854775808):Fn prog 160 [qd n,qd w] (qc (strOfNums (leN w n))) []:=by
 have hB:=zjd w n hw hn;refine fnI fun w0 A=>?_
 refine G [8] ?_;refine cV hB ?_;refine G [14] ?_;refine zag (fun m st=>∃k:Nat,m+k=w∧st=St.of [(5,.row 5),(6,qc (strOfNums (leN k n))),(7,qd ((w:Int)-1-k))] [(5,.row 5 1 w (bs (beN w n)))]) w ?_ ?_
 ·refine⟨_,zai (fun _=>10) _ _ ?_ ?_ rfl,0,qp,rfl⟩
  ·exact jcd
  ·exact jbn
 rintro m st ⟨k,hk,rfl⟩;refine jdw ?_;refine cX ?_ ?_<;>intro h
 ·have hlt:k<w:=qw;clear h;have hsub:=be_at w n k hlt;have hl:(bs (beN w n)).length=w:=by rw[bs_length,zcf]
  have hc:strOfNums (leN k n)++strOfNums [((n/256^k%256:Nat):Int)]=strOfNums (leN (k+1) n):=by rw[zdf,zcl]
  have z1:(strOfNums (leN k n)).size=k:=qa2;have z2:(strOfNums [((n/256^k%256:Nat):Int)]).size=1:=qbb;refine G [9] ?_;refine zab (zcY (L:=(some (_,_))) (H:=(some (_,_))) U34 sz5 ⟨qp,(show _=w-1-k by omega)⟩ ⟨qp,(show _=w-k by omega)⟩ qp qp (show _=1 by omega) (show _=w-1-k by omega)) rfl rfl ⟨rfl,trivial⟩ ?_;refine zab (zdF (xs:=[((n/256^k%256:Nat):Int)]) U34 U5 U9 (zdU qp hsub) rfl rfl) rfl rfl ⟨rfl,trivial⟩ ?_
  refine zaa (zb8 qp hc) rfl rfl ?_;refine jds ?_;refine⟨m-1,qp,_,zai id _ _ ?_ ?_ rfl,k+1,qp,rfl⟩
  ·refine je6 ?_;exact jcR
  ·exact jbn
 have hge:k=w:=qw;clear h;subst hge;exact jaW
def zjX(t:Int):ByteArray:=if t=1 then⟨#[115]⟩else if t=2 then⟨#[115,114]⟩else⟨#[114,99]⟩
def wN(m:MS)(i:Nat):Int:=if i=0 then m.s else if i=1 then m.r else m.c
def wC(i:Nat):UInt8:=if i=0 then 115 else if i=1 then 114 else 99
def wH(x:SH)(i:Nat):Bool:=if i=0 then x.s else if i=1 then x.r else x.c
def wL(m:MS):List PV:=[qg ⟨#[115]⟩,qh m.s,qg ⟨#[114]⟩,qh m.r,qg ⟨#[99]⟩,qh m.c]
theorem wL_at(m:MS)(i:Nat)(h:i<3):((wL m).drop (i*2)).take 2=[qg ⟨#[wC i]⟩,qh (wN m i)]:=by
 exact jcE
theorem has_at(t:Int)(i:Nat)(h:i<3)(ht:t=1∨t=2∨t=4):decide (0≤ixB (zjX t) (wC i))=wH (ofS t) i:=by
 rcases ht with rfl|rfl|rfl
 all_goals
  match i,h with
  |0,_=>decide
  |1,_=>decide
  |2,_=>decide
theorem zdv(m:MS)(hn:m.n≤140737488355328):Fn prog 126 [.agg m.cells] (qd (wE m)) []:=by
 refine fnI fun w0 A=>?_
 refine G [20,9,0] ?_
 (repeat(first|refine zad ?_))
 by_cases ht:m.t=1∨m.t=2∨m.t=4
 rotate_left
 ·have hE:wE m=2:=by
   have h0:ofS m.t=⟨0,0,false,false,false,false⟩:=by
    unfold ofS;rw[if_neg (by omega),if_neg (by omega),if_neg (by omega)]
   unfold wE;rw[h0];rfl
  rw[hE];refine jdw ?_;refine cX ?_ ?_<;>intro h
  ·simp at h;omega
  refine jdC ?_;refine cX ?_ ?_<;>intro h
  ·simp at h;omega
  refine jdC ?_;refine cX ?_ ?_<;>intro h
  ·simp at h;omega
  exact jbo
 refine awp_join3 (St.of [(1,.ref 1 0),(3,qd (ofS m.t).lo),(4,qd (ofS m.t).hi),(5,qc (zjX m.t))] [(1,.box 129 m.cells)]) ?_ (fun st' r=>za3 r ?_)
 ·refine jdw ?_;refine cX ?_ ?_<;>intro h
  ·have h1:m.t=1:=qB;rw[show ofS m.t=⟨32,32,true,false,false,true⟩by unfold ofS;rw[if_pos h1],show zjX m.t=⟨#[115]⟩by unfold zjX;rw[if_pos h1]];exact jbF
  have h1:¬m.t=1:=qB;clear h;refine jdC ?_;refine cX ?_ ?_<;>intro h
  ·have h2:m.t=2:=qB;rw[show ofS m.t=⟨24,24,true,true,false,true⟩by unfold ofS;rw[if_neg h1,if_pos h2],show zjX m.t=⟨#[115,114]⟩by unfold zjX;rw[if_neg h1,if_pos h2]];exact jbF
  have h2:¬m.t=2:=qB;clear h;refine jdC ?_;refine cX ?_ ?_<;>intro h
  ·have h3:m.t=4:=qB;rw[show ofS m.t=⟨16,236,false,true,true,true⟩by unfold ofS;rw[if_neg h1,if_neg h2,if_pos h3],show zjX m.t=⟨#[114,99]⟩by unfold zjX;rw[if_neg h1,if_neg h2]];exact jbF
  ·simp at h;omega
 have hok:(ofS m.t).ok=true:=by
  rcases ht with h|h|h<;>rw[h]<;>rfl
 have hhas:=fun i hi=>has_at m.t i hi ht
 have hE:wE m=if ziC (ofS m.t) m=true then 3 else if rngB m=true then 4 else if sizB (ofS m.t) m=true then 1 else 0:=by
  unfold wE;rw[if_neg (by simp[hok])]
 rw[hE];clear hE hok ht;generalize ofS m.t=x at*;generalize zjX m.t=hs at*;refine G [12] ?_;refine zab (xs:=[.agg [qc ⟨#[115]⟩,qd m.s],.agg [qc ⟨#[114]⟩,qd m.r],.agg [qc ⟨#[99]⟩,qd m.c]]) (zae (es:=((wL m).map AV.p)) (cs:=(wL m)) 25 underlying218 sz217 zc217 (qbk rfl) (qbk rfl) rfl qq qq qq (qbk rfl)) qF rfl ⟨rfl,trivial⟩ ?_;refine G [4] ?_;refine zag (fun q st=>∃i:Nat,q+i=3∧(∀j,j<i→(!(wH x j)&&(wN m j != 0))=false)∧st=St.of [(1,.ref 1 0),(3,qd x.lo),(4,qd x.hi),(5,qc hs),(25,.row 25),(26,qd 3),(27,qd i)] [(1,.box 129 m.cells),(25,.row 217 2 3 (wL m))]) 3 ?_ ?_
 ·exact jaQ
 rintro q st ⟨i,hi,hf,rfl⟩;refine G [5] ?_;refine cX ?_ ?_<;>intro h
 ·have hlt:i<3:=qw;clear h;have hat:=wL_at m i hlt;have hct:=contains1_s hs (wC i);rw[hhas i hlt]at hct;have hw:wL m=wL m:=rfl;have hlen:(wL m).length=6:=rfl;generalize wL m=WL at*
  have hfm:(!(wH x i)&&(wN m i != 0))=true→ziC x m=true:=by
   intro h1;unfold ziC
   match i,hlt with
   |0,_=>rw[show(!x.s&&(m.s != 0))=true from h1];simp
   |1,_=>rw[show(!x.r&&(m.r != 0))=true from h1];simp
   |2,_=>rw[show(!x.c&&(m.c != 0))=true from h1];simp
  generalize hwn:wN m i=N at*;generalize hwh:wH x i=H at*;generalize wC i=CC at*;refine G [5] ?_;refine zab (zao underlying218 sz217 qp qp (show _=i*2 by omega)) rfl rfl ⟨rfl,trivial⟩ ?_;refine zab (zb1 underlying217 rfl sz217 qp (hat)) rfl rfl ⟨rfl,trivial⟩ ?_;refine jf0 (zaT 7 zr217 rfl) ?_;refine jf0 (zaf (Y:=.agg [qc ⟨#[CC]⟩,qd N]) sz217 rfl rfl (qbn rfl)) ?_;refine G [10] ?_;refine mb2 _ rfl rfl (fun _=>zbl func166 rfl rfl (hct) qD rfl) (fun _=>trivial) ?_
  refine G [1,2,1,9,0] ?_;refine cX ?_ ?_<;>intro h
  ·have h1:(!H&&(N != 0))=true:=by rw[Bool.and_comm];exact h
   rw[if_pos (hfm h1)];exact jbo
  ·have h1:(!H&&(N != 0))=false:=by rw[Bool.and_comm];exact h
   clear h;refine jdC ?_;refine⟨q-1,qp,_,zai id _ _ ?_ ?_ rfl,i+1,qp,?_,rfl⟩
   ·exact jap
   ·exact jaJ
   ·intro j hj
    by_cases e:j=i
    ·subst e;rw[hwh,hwn];exact h1
    ·exact hf j qp
 have hge:i=3:=qw;clear h;subst hge
 have hform:ziC x m=false:=by
  have a0:(!x.s&&(m.s != 0))=false:=hf 0 qp;have a1:(!x.r&&(m.r != 0))=false:=hf 1 qp;have a2:(!x.c&&(m.c != 0))=false:=hf 2 qp;unfold ziC;rw[a0,a1,a2];rfl
 rw[if_neg (by simp[hform])]
 have hrng:rngB m=(((((decide (m.s<0)||decide (4294967296≤m.s))||decide (m.r<0))||decide (4294967296≤m.r))||decide (m.c<0))||decide (1099511627776<m.c)):=by
  unfold rngB;rw[show decide (4294967295<m.s)=decide (4294967296≤m.s)from decide_eq_decide.2 (by omega),show decide (4294967295<m.r)=decide (4294967296≤m.r)from decide_eq_decide.2 (by omega)]
 refine G [11,2,4,2,4,2,4,2,4,2,1,9,0] ?_;refine cX ?_ ?_<;>intro h
 ·rw[if_pos (hrng.trans h)];exact jbo
 rw[if_neg (by rw[hrng.trans h];simp)];clear h;refine G [12] ?_;refine mb2 _ rfl rfl (fun hb=>(zdd U34)) (fun _=>trivial) ?_;refine G [2,2,1,9,0] ?_;refine cX ?_ ?_<;>intro h
 ·rw[if_pos (show sizB x m=true from h)];exact jbo
 rw[if_neg (show¬sizB x m=true by have h':sizB x m=false:=h;simp[h'])];refine jdw ?_;exact yE
theorem refWBytes1_s(m:MS)(ht:m.t=1)(hE:wE m=0)(hx:m.xs.length=m.n)(hB:isB m.xs)(hn:m.n≤300)(hs0:0≤m.s)(hs1:m.s≤4294967295)(hr0:0≤m.r)(hr1:m.r≤4294967295)(hc0:0≤m.c)(hc1:m.c≤1099511627776):Fn prog 121 [.agg m.cells] (.tup [.row 0,qd 0]) [(0,.row 5 1 (8+m.n) (bs ([1,0,0,0]++leN 4 m.s.toNat++m.xs)))]:=by
 have hC:=zdv m qp;rw[hE]at hC;have hT:=zdN 4 1 qp qp
 have hLB:isB ([1,0,0,0]++leN 4 m.s.toNat++m.xs):=by
  intro y hy;simp only[qbD]at hy;rcases hy with(h0|h1)|h2
  ·simp at h0;omega
  ·exact ziz _ _ _ h1
  ·exact hB _ h2
 obtain⟨T,S,R,C,n,xs⟩:=m;simp only[MS.cells]at*;subst ht;obtain⟨S,rfl⟩:=qbp hs0;obtain⟨R,rfl⟩:=qbp hr0;obtain⟨C,rfl⟩:=qbp hc0;simp only[qbt]at*;clear hE hs0 hr0 hc0;rw[show leN 4 1=[1,0,0,0]by decide]at hT;have z0:(strOfNums ([1,0,0,0])).size=4:=qbb;have l1:=zdN 4 S qp qp;have c1:strOfNums ([1,0,0,0])++strOfNums (leN 4 S)=strOfNums ([1,0,0,0]++leN 4 S):=zdf _ _;have y1:(strOfNums (leN 4 S)).size=4:=qa2
 have z1:(strOfNums ([1,0,0,0]++leN 4 S)).size=8:=qaT;have cL:strOfNums ([1,0,0,0]++leN 4 S)++strOfNums xs=strOfNums ([1,0,0,0]++leN 4 S++xs):=zdf _ _;have yL:(strOfNums xs).size=n:=by rw[zau,hx]
 have zL:(strOfNums ([1,0,0,0]++leN 4 S++xs)).size=8+n:=by rw[zau,qbm,hx,←zau,z1]
 have xL:=zbW hLB;refine fnI fun w0 A=>?_
 refine jfJ ?_;refine cX ?_ ?_<;>intro h
 ·cases h
 clear h;refine G [5] ?_;refine cV hT ?_;refine G [9,9,0] ?_;refine cX ?_ ?_<;>intro h
 rotate_left
 ·simp at h
 clear h
 skip
 refine jfM ?_;refine cX ?_ ?_<;>intro h
 ·simp at h
 clear h;refine jdV ?_;refine cX ?_ ?_<;>intro h
 ·simp at h
 clear h;refine G [6] ?_;exact jaS
theorem refWBytes2_s(m:MS)(ht:m.t=2)(hE:wE m=0)(hx:m.xs.length=m.n)(hB:isB m.xs)(hn:m.n≤300)(hs0:0≤m.s)(hs1:m.s≤4294967295)(hr0:0≤m.r)(hr1:m.r≤4294967295)(hc0:0≤m.c)(hc1:m.c≤1099511627776):Fn prog 121 [.agg m.cells] (.tup [.row 0,qd 0]) [(0,.row 5 1 (12+m.n) (bs ([2,0,0,0]++leN 4 m.s.toNat++leN 4 m.r.toNat++m.xs)))]:=by
 have hC:=zdv m qp;rw[hE]at hC;have hT:=zdN 4 2 qp qp
 have hLB:isB ([2,0,0,0]++leN 4 m.s.toNat++leN 4 m.r.toNat++m.xs):=by
  exact jcy
 obtain⟨T,S,R,C,n,xs⟩:=m;simp only[MS.cells]at*;subst ht;obtain⟨S,rfl⟩:=qbp hs0;obtain⟨R,rfl⟩:=qbp hr0;obtain⟨C,rfl⟩:=qbp hc0;simp only[qbt]at*;clear hE hs0 hr0 hc0;rw[show leN 4 2=[2,0,0,0]by decide]at hT;have z0:(strOfNums ([2,0,0,0])).size=4:=qbb;have l1:=zdN 4 S qp qp;have c1:strOfNums ([2,0,0,0])++strOfNums (leN 4 S)=strOfNums ([2,0,0,0]++leN 4 S):=zdf _ _;have y1:(strOfNums (leN 4 S)).size=4:=qa2
 have z1:(strOfNums ([2,0,0,0]++leN 4 S)).size=8:=qaT;have l2:=zdN 4 R qp qp;have c2:strOfNums ([2,0,0,0]++leN 4 S)++strOfNums (leN 4 R)=strOfNums ([2,0,0,0]++leN 4 S++leN 4 R):=zdf _ _;have y2:(strOfNums (leN 4 R)).size=4:=qa2;have z2:(strOfNums ([2,0,0,0]++leN 4 S++leN 4 R)).size=12:=qaT;have cL:strOfNums ([2,0,0,0]++leN 4 S++leN 4 R)++strOfNums xs=strOfNums ([2,0,0,0]++leN 4 S++leN 4 R++xs):=zdf _ _
 have yL:(strOfNums xs).size=n:=by rw[zau,hx]
 have zL:(strOfNums ([2,0,0,0]++leN 4 S++leN 4 R++xs)).size=12+n:=by rw[zau,qbm,hx,←zau,z2]
 have xL:=zbW hLB;refine fnI fun w0 A=>?_
 refine jfJ ?_;refine cX ?_ ?_<;>intro h
 ·cases h
 clear h;refine G [5] ?_;refine cV hT ?_;refine G [9,9,0] ?_;refine cX ?_ ?_<;>intro h
 rotate_left
 ·simp at h
 clear h
 skip
 refine jfM ?_;refine cX ?_ ?_<;>intro h
 rotate_left
 ·simp at h
 clear h
 skip
 refine G [4] ?_;refine cV l2 ?_;refine zaa (zb8 qp c2) rfl rfl ?_;refine G [9,9,0] ?_;refine cX ?_ ?_<;>intro h
 ·simp at h
 clear h;refine G [6] ?_;exact jaS
theorem refWBytes4_s(m:MS)(ht:m.t=4)(hE:wE m=0)(hx:m.xs.length=m.n)(hB:isB m.xs)(hn:m.n≤300)(hs0:0≤m.s)(hs1:m.s≤4294967295)(hr0:0≤m.r)(hr1:m.r≤4294967295)(hc0:0≤m.c)(hc1:m.c≤1099511627776):Fn prog 121 [.agg m.cells] (.tup [.row 0,qd 0]) [(0,.row 5 1 (16+m.n) (bs ([4,0,0,0]++leN 4 m.r.toNat++leN 8 m.c.toNat++m.xs)))]:=by
 have hC:=zdv m qp;rw[hE]at hC;have hT:=zdN 4 4 qp qp
 have hLB:isB ([4,0,0,0]++leN 4 m.r.toNat++leN 8 m.c.toNat++m.xs):=by
  exact jcy
 obtain⟨T,S,R,C,n,xs⟩:=m;simp only[MS.cells]at*;subst ht;obtain⟨S,rfl⟩:=qbp hs0;obtain⟨R,rfl⟩:=qbp hr0;obtain⟨C,rfl⟩:=qbp hc0;simp only[qbt]at*;clear hE hs0 hr0 hc0;rw[show leN 4 4=[4,0,0,0]by decide]at hT;have z0:(strOfNums ([4,0,0,0])).size=4:=qbb;have l1:=zdN 4 R qp qp;have c1:strOfNums ([4,0,0,0])++strOfNums (leN 4 R)=strOfNums ([4,0,0,0]++leN 4 R):=zdf _ _;have y1:(strOfNums (leN 4 R)).size=4:=qa2
 have z1:(strOfNums ([4,0,0,0]++leN 4 R)).size=8:=qaT;have l2:=zdN 8 C qp qp;have c2:strOfNums ([4,0,0,0]++leN 4 R)++strOfNums (leN 8 C)=strOfNums ([4,0,0,0]++leN 4 R++leN 8 C):=zdf _ _;have y2:(strOfNums (leN 8 C)).size=8:=qa2;have z2:(strOfNums ([4,0,0,0]++leN 4 R++leN 8 C)).size=16:=qaT;have cL:strOfNums ([4,0,0,0]++leN 4 R++leN 8 C)++strOfNums xs=strOfNums ([4,0,0,0]++leN 4 R++leN 8 C++xs):=zdf _ _
 have yL:(strOfNums xs).size=n:=by rw[zau,hx]
 have zL:(strOfNums ([4,0,0,0]++leN 4 R++leN 8 C++xs)).size=16+n:=by rw[zau,qbm,hx,←zau,z2]
 have xL:=zbW hLB;refine fnI fun w0 A=>?_
 refine jfJ ?_;refine cX ?_ ?_<;>intro h
 ·cases h
 clear h;refine G [5] ?_;refine cV hT ?_;refine G [9,9,0] ?_;refine cX ?_ ?_<;>intro h
 ·simp at h
 clear h;refine jdV ?_;refine cX ?_ ?_<;>intro h
 rotate_left
 ·simp at h
 clear h
 skip
 refine jfM ?_;refine cX ?_ ?_<;>intro h
 rotate_left
 ·simp at h
 clear h
 skip
 refine G [4] ?_;refine cV l2 ?_;refine zaa (zb8 qp c2) rfl rfl ?_;refine G [7] ?_;exact jaS
theorem wE_good{m:MS}(h:wE m=0):(m.t=1∨m.t=2∨m.t=4)∧m.n≤300∧0≤m.s∧m.s≤4294967295∧0≤m.r∧m.r≤4294967295∧0≤m.c∧m.c≤1099511627776:=by
 unfold wE at h
 by_cases h1:(ofS m.t).ok=false
 ·rw[if_pos h1]at h;omega
 rw[if_neg h1]at h
 by_cases h2:ziC (ofS m.t) m=true
 ·rw[if_pos h2]at h;omega
 rw[if_neg h2]at h
 by_cases h3:rngB m=true
 ·rw[if_pos h3]at h;omega
 rw[if_neg h3]at h
 by_cases h4:sizB (ofS m.t) m=true
 ·rw[if_pos h4]at h;omega
 have ht:m.t=1∨m.t=2∨m.t=4:=by
  by_cases a1:m.t=1
  ·exact .inl a1
  by_cases a2:m.t=2
  ·exact .inr (.inl a2)
  by_cases a3:m.t=4
  ·exact .inr (.inr a3)
  ·exfalso;apply h1;unfold ofS;rw[if_neg a1,if_neg a2,if_neg a3]
 have hhi:(ofS m.t).hi≤236:=by
  rcases ht with h|h|h<;>rw[h]<;>decide
 unfold rngB at h3;unfold sizB at h4;simp at h3 h4;exact⟨ht,qp,qp,qp,qp,qp,qp,qp⟩
theorem MS.of_ty{n:Nat}{ps:List PV}(h:Ty prog (n+3) 129 ps):∃m:MS,m.xs.length=m.n∧isB m.xs∧m.n≤140737488351232∧ps=m.pv:=by
 obtain⟨_,rfl,x0,_,rfl,t0,x1,_,rfl,t1,x2,_,rfl,t2,x3,_,rfl,t3,x4,_,rfl,t4,rfl⟩:=zbu (ts:=[3,3,3,3,34]) qq h;obtain⟨a0,rfl,w0⟩:=zbz U3 t0;obtain⟨a1,rfl,w1⟩:=zbz U3 t1;obtain⟨a2,rfl,w2⟩:=zbz U3 t2;obtain⟨a3,rfl,w3⟩:=zbz U3 t3;obtain⟨xs,rfl,hl,hB⟩:=ty_bytesS U34 U5 qq qq t4;exact⟨⟨a0,a1,a2,a3,xs.length,xs⟩,rfl,hB,hl,rfl⟩
theorem wenc_bad(m:MS)(hn:m.n≤140737488351232)(hE:wE m≠0):Fn prog 106 [.agg m.cells] (.tup [qm,qd (wE m)]) []:=by
 have hC:=zf0 m qp;exact jck
theorem refWBytes_bad(m:MS)(hn:m.n≤140737488351232)(hE:wE m≠0):Fn prog 121 [.agg m.cells] (.tup [qm,qd (wE m)]) []:=by
 have hC:=zdv m qp;exact jck
end Go.Proofs.YtdiljgkijgiboaaGreatDoor
namespace Go.Proofs.YtdiljgkijgiboaaGreatDoor
open Go.RowKit Go.Sort
theorem bytes_inj{xs ys:List Int}(h:isB xs)(k:isB ys)(e:Lib.bytesOf xs=Lib.bytesOf ys):xs=ys:=by
 refine zjG h k ?_;show(⟨(Lib.bytesOf xs).toArray⟩:ByteArray)=⟨(Lib.bytesOf ys).toArray⟩;rw[e]
theorem bs_vals{S:Nat→Prop}{w:World}:∀{xs:List Int} {vs:List Value},PRepL S w (bs xs) vs→vs=xs.map (.int .u8)
 | [],vs,h=>by simpa[bs,PRepL]using h
 |x::xs,vs,h=>by
  simp only[bs,qbu,PRepL,PRep]at h;obtain⟨u,us,rfl,⟨rfl,_⟩,h3⟩:=h;rw[bs_vals (xs:=xs) h3];rfl
theorem bsR_rep{S:Nat→Prop}{w:World}:∀xs:List Int,PRepL S w (bs xs) (xs.map (.int .u8))
 | []=>by simp[bs,PRepL]
 |x::xs=>by
  simp only[bs,qbu,PRepL,PRep];exact⟨_,_,rfl,⟨rfl,rfl⟩,bsR_rep xs⟩
theorem holds_of{S:Nat→Prop}{w:World}{xs:List Int}{v:Value}(hB:isB xs)(h:PRep S w (.sl xs.length 1 (bs xs)) v):Lib.HoldsBytes w v (Lib.bytesOf xs):=by
 simp only[PRep]at h;obtain⟨a,cap,vs,rfl,h2,h3,h4,h5⟩:=h;have hl:(Lib.bytesOf xs).length=xs.length:=Lib.bytesOf_length xs;refine⟨a,cap,by rw[hl],fun hn=>?_,fun ad had i x hx=>?_⟩
 ·rcases h5 with h5|⟨b,off,h6,_⟩
  ·exact qbz (by rw[hl];exact h5)
  ·rw[hn]at h6;cases h6
 ·have hi:i<xs.length:=by rw[←hl];exact(qbl.1 hx).1
  rcases h5 with h5|⟨b,off,h6,_,h8⟩
  ·omega
  ·rw[had]at h6;obtain rfl:=Option.some.inj h6;have hv:=bs_vals h4;have e1:xs[i]?=some xs[i]:=List.getElem?_eq_getElem hi;have e2:vs[i]?=some (.int .u8 xs[i]):=by rw[hv,qbM,e1];rfl
   have e3:x.toNat=xs[i].toNat:=by
    unfold Lib.bytesOf at hx;rw[qbM,e1]at hx;simp only[qcx,Option.some.injEq]at hx;rw[←hx];have:=hB xs[i] (qcY hi);rw[UInt8.toNat_ofNat'];omega
   have e4:((x.toNat:Nat):Int)=xs[i]:=by
    have:=hB xs[i] (qcY hi);omega
   rw[e4];rw[Addr.add_mid];exact h8 i _ e2
def bParts(ls:List (List Int)):List PV:=ls.map fun xs=>.sl xs.length 1 (bs xs)
theorem zhZ{S:Nat→Prop}{w:World}:∀{ls:List (List Int)} {vs:List Value},(∀xs∈ls,isB xs)→PRepL S w (bParts ls) vs→vs.length=(ls.map Lib.bytesOf).length∧∀(i:Nat) v l,vs[i]?=some v→(ls.map Lib.bytesOf)[i]?=some l→Lib.HoldsBytes w v l
 | [],vs,_,h=>by
  simp only[bParts,List.map_nil,PRepL]at h;subst h;exact⟨rfl,fun i v l h=>by simp at h⟩
 |xs::ls,vs,hB,h=>by
  simp only[bParts,qbu,PRepL]at h;obtain⟨u,us,rfl,h2,h3⟩:=h;obtain⟨i1,i2⟩:=zhZ (ls:=ls) (fun y hy=>hB y qa3) h3;refine⟨by simp only[qbE,qbu];rw[i1],fun i v l hv hl=>?_⟩;cases i with
  |zero=>
   simp at hv hl;subst hv;subst hl;exact holds_of (hB xs qG) h2
  |succ i=>exact i2 i v l (by simpa using hv) qaQ
theorem join_flat:∀ls:List (List Int),Lib.join (ls.map Lib.bytesOf) []=Lib.bytesOf ls.flatten
 | []=>rfl
 |x::ls=>by
  rw[qbu,Lib.join_cons,qbT];have e:Lib.joinTail [] (ls.map Lib.bytesOf)=(ls.map Lib.bytesOf).flatten:=by unfold Lib.joinTail;rw[show((fun x=>([]:List UInt8)++x))=id from rfl,List.map_id]
  have e2:∀l:List (List Int),(l.map Lib.bytesOf).flatten=Lib.bytesOf l.flatten:=fun l=>by
   induction l with
   |nil=>rfl
   |cons y l ih=>rw[qbu,qbT,qbT,ih];simp[Lib.bytesOf]
  rw[e,e2];simp[Lib.bytesOf]
theorem lens_flat:∀ls:List (List Int),Lib.lens (ls.map Lib.bytesOf)=ls.flatten.length
 | []=>rfl
 |x::ls=>by
  have:=lens_flat ls;unfold Lib.lens at this⊢;rw[qbu,qbu,List.sum_cons,this,qbT,qbm,Lib.bytesOf_length]
theorem flat_B{ls:List (List Int)}(h:∀xs∈ls,isB xs):isB ls.flatten:=fun x hx=>by
 obtain⟨xs,h1,h2⟩:=List.mem_flatten.1 hx;exact h xs h1 x h2
theorem bjoin_s(ls:List (List Int))(hB:∀xs∈ls,isB xs)(h2:2≤ls.length)(hn:ls.length≤1000)(hz:ls.flatten.length≤140737488355328):
 Fn Tryz.prog 153 [ql ls.length 1 (bParts ls),qm] (ql ls.flatten.length 1 (bs ls.flatten)) []:=by
 intro w A us hA hG hus;simp only[RepL]at hus;obtain⟨u1,us1,rfl,h3,u2,us2,rfl,h4,rfl⟩:=hus;have h4:=zbb h4;subst h4;simp only[Rep,PRep]at h3;obtain⟨a,cap,vs,rfl,g1,g2,g3,g4⟩:=h3;rcases g4 with g4|⟨b,off,rfl,g5,g6⟩
 ·omega
 obtain⟨i1,i2⟩:=zhZ hB g3
 have hP:Lib.PartsAt w ⟨b,off,none⟩ vs (ls.map Lib.bytesOf):=⟨i1,fun i v hv=>by
  rw[Addr.add_mid]
  exact g6 i v hv,i2⟩
 have hS:Lib.HoldsBytes w (.slice none 0 0) []:=⟨none,0,rfl,fun _=>rfl,fun a h=>by cases h⟩;have hC:=Tryz.bytes_Join_many b off ls.length cap vs (ls.map Lib.bytesOf) (.slice none 0 0) [] w qG h2 hP g1 hS qp (by rw[lens_flat,qcQ,qc6,qb4];exact hz);refine hC.mono ?_;rintro e w' ⟨v',rfl,hf,hbel⟩;rw[join_flat]at hf;obtain⟨g,c,zs,rfl,f1,f2,f3,f4,f5,f6,f7,f8⟩:=hf;rw[Lib.bytesOf_length]at f2 f6⊢;have hFB:=flat_B hB
 have hzs:zs.take ls.flatten.length=ls.flatten:=bytes_inj (fun x hx=>f5 x (qbI hx)) hFB f6;refine⟨_,rfl,fun x=>A x∨(x=g∧0<ls.flatten.length),fun _=>none,?_,?_⟩
 ·simp only[Rep,PRep];refine⟨_,c,ls.flatten.map (.int .u8),rfl,f2,by rw[qbU];unfold bs;exact List.length_map ..,bsR_rep _,?_⟩
  by_cases h0:ls.flatten.length=0
  ·exact .inl h0
  ·refine .inr ⟨g,0,rfl,.inr ⟨rfl,qp⟩,fun j v hj=>?_⟩;rw[qbM]at hj;cases hq:ls.flatten[j]? with
   |none=>rw[hq]at hj;cases hj
   |some x=>
    rw[hq]at hj;simp only[qcx,Option.some.injEq]at hj;subst hj;have hjl:=(qbl.1 hq).1;rw[qbO,f7 j (by omega)]
    have:zs.getD j 0=x:=by
     rw[List.getD_eq_getElem?_getD];have h9:(zs.take ls.flatten.length)[j]?=some x:=by rw[hzs];exact hq
     rw[qbR,if_pos hjl]at h9;rw[h9];rfl
    rw[this]
 ·refine⟨hbel,?_,?_,fun o _=>rfl,fun o ob ho=>qaN,fun o o' ob ob' v v' b ho=>qaN,hG⟩
  ·rintro x (hx|⟨rfl,_⟩)
   ·exact .inl hx
   ·exact .inr f1
  ·rintro x (hx|⟨rfl,hpos⟩)
   ·exact qca (hA x hx) hbel.size
   ·have hc:=f7 0 qp;rw[World.cell?]at hc;cases hq:w'.heap[x]? with
    |none=>simp[hq]at hc
    |some ob=>exact(qbK.1 hq).1
end Go.Proofs.YtdiljgkijgiboaaGreatDoor
