/- Used. -/
import Derived.Test.YtdiljgkijgiboaaGreatDoorSWi6
set_option linter.all false
set_option maxRecDepth 100000
set_option maxHeartbeats 16000000
namespace Go.Proofs.YtdiljgkijgiboaaGreatDoor
open Tryz
open Go.RowKit Go.Sort
def zhm:ByteArray:=⟨#[104,101,108,108,111]⟩
def ziB(a nc:ByteArray)(mine:Int):List Int:=beI mine++zax nc 8++zdG a
def helT(a b sh nc:ByteArray)(mine:Int):List Int:=(macD (secS a b sh) (sb zhm++ziB a nc mine)).take 16
def helB(a b sh nc:ByteArray)(mine:Int):List Int:=zax nc 8++zdG a++helT a b sh nc mine
def helM(a b sh nc:ByteArray)(mine:Int):MS:=⟨1,mine,0,0,32,helB a b sh nc mine⟩
def helE(a b sh nc:ByteArray)(mine:Int):Int:=
 if secE a b sh≠0 then secE a b sh else if noE nc≠0 then noE nc else wE (helM a b sh nc mine)
def mRes(e:Int)(m:MS):AV:=if e=0 then .tup [.agg m.cells,qd 0]else .tup [.agg MS0,qd e]
theorem zfk{e e':Int}(h:e=e')(he:e'≠0)(m:MS):mRes e m=.tup [.agg MS0,qd e']:=by subst h;exact if_neg he
theorem mRes_good{e:Int}(h:e=0)(m:MS):mRes e m=.tup [.agg m.cells,qd 0]:=by subst h;rfl
theorem zhx(a b sh nc:ByteArray)(mine:Int):(helT a b sh nc mine).length=16:=by rw[helT,List.length_take,zcj];rfl
theorem helB_len(a b sh nc:ByteArray)(mine:Int):(helB a b sh nc mine).length=32:=by
 rw[helB,qbm,qbm,zaX,zd8,zhx]
theorem helT_B(a b sh nc:ByteArray)(mine:Int):isB (helT a b sh nc mine):=fun x hx=>zg7 _ _ x (qbI hx)
theorem secE_key{a b sh:ByteArray}(h:secE a b sh=0):keyE a=0:=by
 unfold secE at h
 split at h
 ·exact jdd
 ·simp_all
theorem noE_good{nc:ByteArray}(h:noE nc=0):nc.size=16∧hexE nc=0:=by
 unfold noE at h
 split at h
 ·exact⟨qah,h⟩
 ·omega
theorem noE_B{nc:ByteArray}(h:noE nc=0):isB (zax nc 8):=by
 obtain⟨h1,h2⟩:=noE_good h;exact zeb (zdB h2) qp
theorem hello_s(a b sh nc:ByteArray)(mine:Int)(hsh:sh.size≤140737488351232):
 Fn prog 109 [qc a,qc b,qc sh,qd mine,qc nc] (mRes (helE a b sh nc mine) (helM a b sh nc mine)) []:=by
 have hS:=secret_s a b sh hsh;have hN:=shNonce_s nc;have hE:helE a b sh nc mine=if secE a b sh≠0 then secE a b sh else if noE nc≠0 then noE nc else wE (helM a b sh nc mine):=rfl
 by_cases h1:secE a b sh≠0
 ·exact jbI
 rw[if_neg h1]at hE;replace h1:secE a b sh=0:=qbq.1 h1;rw[zd5 h1]at hS
 by_cases h2:noE nc≠0
 ·rw[if_pos h2]at hE;rw[zfk hE h2];rw[zhs rfl h2]at hN;generalize noE nc=e at*;refine fnI fun w0 A=>?_
  refine jfG ?_;refine cX ?_ ?_<;>intro h
  ·cases h
  refine G [4] ?_;refine cK hN ?_;exact jdc
 rw[if_neg h2]at hE;replace h2:noE nc=0:=qbq.1 h2;rw[zgd h2]at hN;have hMk:=mark_s a;obtain⟨e1,e2⟩:=zaM (secE_key h1) 8 (zdG a);rw[e1,e2]at hMk;clear e1 e2;have hNu:=shNum_s mine;have hT:=stag_s (secS a b sh) zhm (beI mine) (zax nc 8) (zdG a) (keyE_secS a b sh) (beI_B mine) (noE_B h2) (zgO a) (by rw[zaX,zd8];show(5:Nat)+(4+8+8)≤900;decide);rw[zaX,zd8]at hT;change Fn prog 151 [qc (secS a b sh),qc ⟨#[104,101,108,108,111]⟩,ql 3 1 [.sl 4 1 (bs (beI mine)),.sl 8 1 (bs (zax nc 8)),.sl 8 1 (bs (zdG a))]] (.tup [ql 16 1 (bs (helT a b sh nc mine)),qd 0]) []at hT
 have hJ:=bjoin_s [zax nc 8,zdG a,helT a b sh nc mine] (by intro x hx;simp only[qbA,qcB,or_false]at hx;rcases hx with rfl|rfl|rfl;exact noE_B h2;exact zgO a;exact helT_B a b sh nc mine) qG qG (by rw[join3];simp only[qbm];rw[zaX,zd8,zhx];decide);rw[join3]at hJ;simp only[bParts,qbu,List.map_nil]at hJ;rw[zaX,zd8,zhx]at hJ;change Fn prog 153 [ql 3 1 [.sl 8 1 (bs (zax nc 8)),.sl 8 1 (bs (zdG a)),.sl 16 1 (bs (helT a b sh nc mine))],qm] (ql (helB a b sh nc mine).length 1 (bs (helB a b sh nc mine))) []at hJ
 rw[helB_len]at hJ;have hW:=zf0 (helM a b sh nc mine) (by show(32:Nat)≤_;decide);unfold mRes;rw[hE];have hc:(helM a b sh nc mine).cells=[qd 1,qd mine,qd 0,qd 0,ql 32 1 (bs (helB a b sh nc mine))]:=rfl;rw[hc]at hW⊢;unfold MS0;change Fn prog 149 _ (.tup [ql 8 1 (bs (zax nc 8)),qd 0]) []at hN;clear hE hc h1 h2;generalize wE (helM a b sh nc mine)=e at*;generalize helB a b sh nc mine=BB at*;generalize helT a b sh nc mine=BT at*
 generalize zdG a=BM at*;generalize zax nc 8=BN at*;generalize beI mine=BI at*;generalize secS a b sh=K at*;refine fnI fun w0 A=>?_
 refine jfG ?_;refine cX ?_ ?_<;>intro h
 ·cases h
 refine G [4] ?_;refine cK hN ?_;refine G [10,1,1,9,0] ?_;refine cX ?_ ?_<;>intro h
 ·cases h
 refine G [4] ?_;refine cV hMk ?_;refine G [6] ?_;refine za1 (zbY (cs:=bs BM) 43 rfl) ?_;refine G [4] ?_;refine cK hNu ?_;refine G [2] ?_;refine zab (xs:=[ql 4 1 (bs BI),ql 8 1 (bs BN),ql 8 1 (bs BM)]) (zae (es:=[ql 4 1 (bs BI),ql 8 1 (bs BN),ql 8 1 (bs BM)]) (cs:=[.sl 4 1 (bs BI),.sl 8 1 (bs BN),.sl 8 1 (bs BM)]) 52 underlying206 sz34 zc34 (qbk rfl) (qbk rfl) rfl qq qq qq (qbk rfl)) qF rfl ⟨rfl,trivial⟩ ?_
 refine r_callW (fun n=>53+1000*n) (hT) rfl rfl func151 rfl rfl rfl rfl rfl rfl rfl qr rfl rfl rfl ?_;refine G [12] ?_;refine zab (xs:=[ql 8 1 (bs BN),ql 8 1 (bs BM),ql 16 1 (bs BT)]) (zae (es:=[ql 8 1 (bs BN),ql 8 1 (bs BM),ql 16 1 (bs BT)]) (cs:=[.sl 8 1 (bs BN),.sl 8 1 (bs BM),.sl 16 1 (bs BT)]) 60 underlying206 sz34 zc34 (qbk rfl) (qbk rfl) rfl qq qq qq (qbk rfl)) qF rfl ⟨rfl,trivial⟩ ?_;refine r_callW (fun n=>61+1000*n) (hJ) rfl rfl func153 rfl rfl rfl rfl rfl rfl rfl qr rfl rfl rfl ?_
 refine G [8] ?_;refine cV hW ?_;refine jds ?_;refine cX ?_ ?_<;>intro h
 ·have he:e≠0:=qB;rw[if_neg he];exact jbs
 ·have he:e=0:=qB;rw[if_pos he];exact jbs
theorem refHello_s(a b sh nc:ByteArray)(mine:Int)(m0: -9223372036854775808≤mine)(m1:mine≤9223372036854775807)(hsh:sh.size≤140737488351232):
 Fn prog 82 [qc a,qc b,qc sh,qd mine,qc nc] (mRes (helE a b sh nc mine) (helM a b sh nc mine)) []:=by
 have hS:=refSecret_s a b sh hsh;have hH:=zcR nc;have hE:helE a b sh nc mine=if secE a b sh≠0 then secE a b sh else if noE nc≠0 then noE nc else wE (helM a b sh nc mine):=rfl
 by_cases h1:secE a b sh≠0
 ·exact jbI
 rw[if_neg h1]at hE;replace h1:secE a b sh=0:=qbq.1 h1;rw[zd5 h1]at hS
 by_cases hz:nc.size=16
 rotate_left
 ·have hN1:noE nc=1:=by unfold noE;rw[if_neg hz]
  rw[if_pos (by rw[hN1];decide),hN1]at hE;rw[zfk hE (by decide)];refine fnI fun w0 A=>?_
  refine jfG ?_;refine cX ?_ ?_<;>intro h
  ·cases h
  refine jdV ?_;refine cX ?_ ?_<;>intro h
  ·exact jaW
  ·exact absurd qw hz
 have hN1:noE nc=hexE nc:=by unfold noE;rw[if_pos hz]
 by_cases h2:hexE nc≠0
 ·rw[hN1,if_pos h2]at hE;rw[zfk hE h2];obtain⟨e1,e2⟩:=zbI rfl h2;rw[e1,e2]at hH;generalize hexE nc=e at*;refine fnI fun w0 A=>?_
  refine jfG ?_;refine cX ?_ ?_<;>intro h
  ·cases h
  refine jdV ?_;refine cX ?_ ?_<;>intro h
  ·simp[hz]at h
  refine G [4] ?_;refine cV hH ?_;exact jdc
 rw[hN1,if_neg h2]at hE;replace h2:hexE nc=0:=qbq.1 h2;have hNB:=noE_B (hN1.trans h2);obtain⟨e1,e2⟩:=zbg h2;rw[e1,e2,hz]at hH;clear e1 e2;change Fn prog 122 _ _ [(0,.row 5 1 8 (bs (zax nc 8)))]at hH;have hMk:=refMark_s a;rw[zgd (secE_key h1)]at hMk;have hNu:=bigZ_s mine m0 m1;obtain⟨u1,hu1⟩:∃u,zhm++strOfNums (beI mine)=u:=⟨_,rfl⟩;obtain⟨u2,hu2⟩:∃u,u1++strOfNums (zax nc 8)=u:=⟨_,rfl⟩;obtain⟨u3,hu3⟩:∃u,u2++strOfNums (zdG a)=u:=⟨_,rfl⟩
 have zI:(strOfNums (beI mine)).size=4:=qbb;have zN:(strOfNums (zax nc 8)).size=8:=by rw[zau,zaX]
 have zM:(strOfNums (zdG a)).size=8:=by rw[zau,zd8]
 have zT:(strOfNums (helT a b sh nc mine)).size=16:=by rw[zau,zhx]
 have zH:zhm.size=5:=rfl;have z1:u1.size=9:=by rw[←hu1,zbM,zI,zH]
 have z2:u2.size=17:=by rw[←hu2,zbM,z1,zN]
 have z3:u3.size=25:=by rw[←hu3,zbM,z2,zM]
 have zs3:sb u3=sb zhm++ziB a nc mine:=by
  rw[←hu3,zd4,zbW (zgO a),←hu2,zd4,zbW hNB,←hu1,zd4,zbW (beI_B mine)];simp[ziB]
 have hB:isB (sb zhm++ziB a nc mine):=za4 (sb_isB _) (za4 (za4 (beI_B mine) hNB) (zgO a));have hlen:(sb zhm++ziB a nc mine).length=25:=by rw[←zs3,zdt,z3]
 have hT:=zga (secS a b sh) 25 (sb zhm++ziB a nc mine) hlen hB;obtain⟨e1,e2⟩:=zaM (show macE (secS a b sh) 25=0 by unfold macE;rw[if_pos (keyE_secS a b sh),if_neg (by decide)]) 32 (macD (secS a b sh) (sb zhm++ziB a nc mine));rw[e1,e2]at hT;clear e1 e2;have hD:=zcj (secS a b sh) (sb zhm++ziB a nc mine);have hTd:(macD (secS a b sh) (sb zhm++ziB a nc mine)).take 16=helT a b sh nc mine:=rfl;obtain⟨u4,hu4⟩:∃u,strOfNums (zax nc 8)++strOfNums (zdG a)=u:=⟨_,rfl⟩
 obtain⟨u5,hu5⟩:∃u,u4++strOfNums (helT a b sh nc mine)=u:=⟨_,rfl⟩;have z4:u4.size=16:=by rw[←hu4,zbM,zN,zM]
 have z5:u5.size=32:=by rw[←hu5,zbM,z4,zT]
 have zs5:sb u5=helB a b sh nc mine:=by
  rw[←hu5,zd4,zbW (helT_B a b sh nc mine),←hu4,zd4,zbW (zgO a),zbW hNB];rfl
 have hW:=zdv (helM a b sh nc mine) (by show(32:Nat)≤_;decide);unfold mRes;rw[hE];have hc:(helM a b sh nc mine).cells=[qd 1,qd mine,qd 0,qd 0,ql 32 1 (bs (helB a b sh nc mine))]:=rfl;rw[hc]at hW⊢;unfold MS0;change Fn prog 125 _ (.tup [ql 8 1 (bs (zdG a)),qd 0]) []at hMk;clear hE hc h1 h2 hN1 hB hlen hNB;generalize wE (helM a b sh nc mine)=e at*;generalize helB a b sh nc mine=BB at*;generalize helT a b sh nc mine=BT at*
 generalize sb zhm++ziB a nc mine=Z at*;generalize zdG a=BM at*;generalize zax nc 8=BN at*;generalize beI mine=BI at*;generalize secS a b sh=K at*;generalize macD K Z=D at*;have hbl:(bs D).length=32:=qba;have hsub:((bs D).drop 0).take (16*1)=bs BT:=by rw[←hTd];simp[bs,qc9]
 refine fnI fun w0 A=>?_
 refine jfG ?_;refine cX ?_ ?_<;>intro h
 ·cases h
 refine jdV ?_;refine cX ?_ ?_<;>intro h
 ·simp[hz]at h
 refine G [4] ?_;refine cV hH ?_;refine G [10,1,1,9,0] ?_;refine cX ?_ ?_<;>intro h
 ·cases h
 refine G [4] ?_;refine cK hMk ?_;refine G [10] ?_;refine cV hNu ?_;refine jdK ?_;refine zaa (zb8 (by rw[zI];decide) (show(⟨#[104,101,108,108,111]⟩:ByteArray)++strOfNums BI=u1 from hu1)) rfl rfl ?_;refine jdz ?_;refine jdK ?_;refine zaa (zb8 (by rw[z1,zN];decide) hu2) rfl rfl ?_;refine jdn ?_;refine zab (zdF U34 U5 U9 (zbc) rfl rfl) rfl rfl trivial ?_;refine zaa (zb8 (by rw[z2,zM];decide) hu3) rfl rfl ?_
 refine zab (zfr 62 U9 U34 U5 qP z3 zs3) rfl rfl ⟨rfl,trivial⟩ ?_;refine cV hT ?_;refine G [10] ?_;refine jdK ?_;refine jdn ?_;refine zab (zdF U34 U5 U9 (zbc) rfl rfl) rfl rfl trivial ?_;refine zaa (zb8 (by rw[zN,zM];decide) hu4) rfl rfl ?_;refine jdz ?_;refine zab (zcY (L:=none) (H:=(some (_,_))) U34 sz5 rfl ⟨qp,rfl⟩ qp qp rfl rfl) rfl rfl ⟨rfl,trivial⟩ ?_;refine zab (zdF (xs:=BT) U34 U5 U9 (zdU qp hsub) rfl rfl) rfl rfl ⟨rfl,trivial⟩ ?_
 refine zaa (zb8 (by rw[z4,zT];decide) hu5) rfl rfl ?_;refine zab (zfr 76 U9 U34 U5 qP z5 zs5) rfl rfl ⟨rfl,trivial⟩ ?_;refine G [4] ?_;refine za1 (zbY (cs:=bs BB) 76 rfl) ?_;refine G [4] ?_;refine cV hW ?_;refine jds ?_;refine cX ?_ ?_<;>intro h
 ·have he:e≠0:=qB;rw[if_neg he];exact jbs
 ·have he:e=0:=qB;rw[if_pos he];exact jbs
theorem wenc_both(m:MS)(hx:m.xs.length=m.n)(hB:isB m.xs)(hn:m.n≤140737488351232):∃zs:List Int,isB zs∧
 Fn prog 106 [.agg m.cells] (.tup [ql zs.length 1 (bs zs),qd (wE m)]) []∧Fn prog 121 [.agg m.cells] (.tup [.row 0,qd (wE m)]) [(0,.row 5 1 zs.length (bs zs))]:=by
 by_cases hE:wE m=0
 ·obtain⟨ht,h1,h2,h3,h4,h5,h6,h7⟩:=wE_good hE
  have key:∀(p:Nat) (zs:List Int),isB zs→zs.length=p→Fn prog 106 [.agg m.cells] (.tup [.row 0,qd 0]) [(0,.row 5 1 p (bs zs))]→Fn prog 121 [.agg m.cells] (.tup [.row 0,qd 0]) [(0,.row 5 1 p (bs zs))]→∃zs:List Int,isB zs∧
   Fn prog 106 [.agg m.cells] (.tup [ql zs.length 1 (bs zs),qd (wE m)]) []∧Fn prog 121 [.agg m.cells] (.tup [.row 0,qd (wE m)]) [(0,.row 5 1 zs.length (bs zs))]:=by
   intro p zs hb hl c1 c2;subst hl;rw[hE];exact⟨zs,hb,zfq c1 rfl rfl,c2⟩
  rcases ht with ht|ht|ht
  ·exact key _ _ (za4 (za4 (show isB _ from by unfold isB;decide) (ziz _ _)) hB) (by simp[leN,hx];omega) (wenc1_s m ht hE hx h1 h2 h3 h4 h5 h6 h7) (refWBytes1_s m ht hE hx hB h1 h2 h3 h4 h5 h6 h7)
  ·exact key _ _ (za4 (za4 (za4 (show isB _ from by unfold isB;decide) (ziz _ _)) (ziz _ _)) hB) (by simp[leN,hx];omega) (wenc2_s m ht hE hx h1 h2 h3 h4 h5 h6 h7) (refWBytes2_s m ht hE hx hB h1 h2 h3 h4 h5 h6 h7)
  ·exact key _ _ (za4 (za4 (za4 (show isB _ from by unfold isB;decide) (ziz _ _)) (ziz _ _)) hB) (by simp[leN,hx];omega) (wenc4_s m ht hE hx h1 h2 h3 h4 h5 h6 h7) (refWBytes4_s m ht hE hx hB h1 h2 h3 h4 h5 h6 h7)
 ·refine⟨[],(fun x h=>by cases h),?_,?_⟩
  ·exact fn_nzT (wenc_bad m hn hE) ⟨.inl (.inr ⟨1,rfl,rfl⟩),.inl (.inl rfl),trivial⟩
  ·exact fn_nrow (refWBytes_bad m hn hE)
def ms0:MS:=⟨0,0,0,0,0,[]⟩
def helX(a b sh nc:ByteArray)(mine:Int):MS:=if helE a b sh nc mine=0 then helM a b sh nc mine else ms0
theorem mRes_d{f:FuncId}{args:List AV}{e:Int}{m:MS}(h:Fn prog f args (mRes e m) []):Fn prog f args (.tup [.agg (if e=0 then m else ms0).cells,qd e]) []:=by
 by_cases he:e=0
 ·rw[mRes_good he]at h;rw[if_pos he,he];exact h
 ·rw[zfk rfl he]at h;rw[if_neg he];exact fn_nzT h ⟨.inr ⟨_,_,rfl,rfl,.inl rfl,.inl rfl,.inl rfl,.inl rfl,.inr ⟨1,rfl,rfl⟩,trivial⟩,.inl (.inl rfl),trivial⟩
theorem helloD_s(a b sh nc:ByteArray)(mine:Int)(hsh:sh.size≤140737488351232):
 Fn prog 109 [qc a,qc b,qc sh,qd mine,qc nc] (.tup [.agg (helX a b sh nc mine).cells,qd (helE a b sh nc mine)]) []:=mRes_d (hello_s a b sh nc mine hsh)
theorem refHelloD_s(a b sh nc:ByteArray)(mine:Int)(m0: -9223372036854775808≤mine)(m1:mine≤9223372036854775807)(hsh:sh.size≤140737488351232):
 Fn prog 82 [qc a,qc b,qc sh,qd mine,qc nc] (.tup [.agg (helX a b sh nc mine).cells,qd (helE a b sh nc mine)]) []:=mRes_d (refHello_s a b sh nc mine m0 m1 hsh)
theorem helX_ok(a b sh nc:ByteArray)(mine:Int):(helX a b sh nc mine).xs.length=(helX a b sh nc mine).n∧isB (helX a b sh nc mine).xs∧(helX a b sh nc mine).n≤300:=by
 unfold helX
 split
 ·rename_i h
  have hN:noE nc=0:=by
   unfold helE at h
   by_cases h1:secE a b sh≠0
   ·exact jc5
   ·rw[if_neg h1]at h
    by_cases h2:noE nc≠0
    ·rw[if_pos h2]at h;exact absurd h h2
    ·omega
  exact⟨helB_len _ _ _ _ _,za4 (za4 (noE_B hN) (zgO _)) (helT_B _ _ _ _ _),by simp[helM]⟩
 ·exact⟨rfl,(fun x h=>by cases h),by simp[ms0]⟩
def moB(d:DM)(L:Nat):Slot:=qj 53 (moV d (.row 1) (.row L))
def moS(ps:List ST):Slot:=qk 66 41 ps.length (ps.flatMap ST.pv)
def moL(ls:List LR):Slot:=qk 75 3 ls.length (ls.flatMap LR.pv)
theorem mosend_s(d:DM)(ps:List ST)(ls:List LR)(i:Nat)(s:ST)(hs:ps[i]?=some s)(m:MS)(zs:List Int)(e:Int)(hW:Fn prog 106 [.agg m.cells] (.tup [ql zs.length 1 (bs zs),qd e]) [])(hp:ps.length≤1048576)(hl:ls.length≤1048576):
 FnO prog 62 [.ref 0 0,qd i,.agg m.cells] [(0,moB d 7),(1,moS ps),(7,moL ls),(5,.un),(29,.un),(30,.un)]
  [(0,moB d 30),(1,moS ps),(7,.dead),(5,qj 129 m.cells),(29,qk 75 3 1 (LR.pv ⟨⟨#[]⟩,s.ep,zs⟩)),(30,moL (ls++[⟨⟨#[]⟩,s.ep,zs⟩]))] (.tup []):=by
 have hi:i<ps.length:=(qbl.1 hs).1;have hep:(ps.flatMap ST.pv)[i*41+1]?=some (qg s.ep):=zeX (f:=ST.pv) (k:=41) (fun _=>rfl) hs qS;unfold moL moS;rw[qbm,qbV];show FnO prog _ _ _ [_,_,_,_,_,(30,qk 75 3 (ls.length+1) (ls.flatMap LR.pv++LR.pv ⟨⟨#[]⟩,s.ep,zs⟩))] _;generalize ls.flatMap LR.pv=L at*;generalize ls.length=N at*;generalize ps.flatMap ST.pv=S at*;generalize ps.length=K at*;generalize s.ep=ep at*
 refine fnIO fun w0 A heap=>?_
 refine G [7] ?_;refine cK hW ?_;refine G [20] ?_;refine jf0 (zaQ U9 rfl hep) ?_;refine G [2] ?_;refine zab (xs:=[.agg (LR.cells ⟨⟨#[]⟩,ep,zs⟩)]) (zae (es:=(LR.cells ⟨⟨#[]⟩,ep,zs⟩)) (cs:=(LR.pv ⟨⟨#[]⟩,ep,zs⟩)) 29 U37 sz75 zc75 (qbk rfl) (qbk rfl) rfl qq qq qq (qbk rfl)) qF rfl ⟨rfl,trivial⟩ ?_;refine zab (zam 30 U37 eo75 (zas) qy qp rfl rfl) rfl rfl ⟨rfl,rfl,rfl,trivial⟩ ?_;refine G [4] ?_
 skip
 exact jaI
theorem moagain_s(d:DM)(ps:List ST)(ls:List LR)(i:Nat)(s:ST)(hs:ps[i]?=some s)(p:PE)(hp:d.c.ps[i]?=some p)(m:MS)(e:Int)(hH:Fn prog 109 [qc d.c.key,qc p.key,qc p.sh,qd s.h.mine,qc s.h.nc] (.tup [.agg m.cells,qd e]) [])
 (zs:List Int) (e':Int) (hW:Fn prog 106 [.agg m.cells] (.tup [ql zs.length 1 (bs zs),qd e']) []) (hn:ps.length≤1048576) (hl:ls.length≤1048576) (hc:d.c.ps.length≤1048576):
 FnO prog 64 [.ref 0 0,qd i] [(0,moB d 7),(1,moS ps),(7,moL ls),(4,.un),(5,.un),(6,.un),(29,.un),(30,.un)]
  [(0,moB d 30),(1,moS (ps.set i {s with h:={s.h with s:=d.now}})),(7,.dead),(4,qj 98 p.cells),(5,qj 129 m.cells),(6,qj 129 m.cells),(29,qk 75 3 1 (LR.pv ⟨⟨#[]⟩,s.ep,zs⟩)),(30,moL (ls++[⟨⟨#[]⟩,s.ep,zs⟩]))] (.tup []):=by
 have hi:i<ps.length:=(qbl.1 hs).1;have hj:i<d.c.ps.length:=(qbl.1 hp).1;have hs2:(ps.set i {s with h:={s.h with s:=d.now}})[i]?=some {s with h:={s.h with s:=d.now}}:=qat;have hS:=mosend_s d _ ls i _ hs2 m zs e' hW qbh hl;have hst:setR (ps.flatMap ST.pv) (i*41+35+4) [qh d.now]=(ps.set i {s with h:={s.h with s:=d.now}}).flatMap ST.pv:=zgT (f:=ST.pv) (k:=41) (fun _=>rfl) hs (q:=39) (show 39+1≤41 by decide) rfl
 have hmi:((ps.set i {s with h:={s.h with s:=d.now}}).flatMap ST.pv)[i*41+35+1]?=some (qh s.h.mine):=zeX (f:=ST.pv) (k:=41) (fun _=>rfl) hs2 (q:=36) qS;have hno:((ps.set i {s with h:={s.h with s:=d.now}}).flatMap ST.pv)[i*41+35+2]?=some (qg s.h.nc):=zeX (f:=ST.pv) (k:=41) (fun _=>rfl) hs2 (q:=37) qS;have hch:=zav (f:=PE.pv) (k:=5) (fun _=>rfl) hp;have hle:=zaw (f:=PE.pv) (k:=5) (fun _=>rfl) hj;have hsl:(ps.flatMap ST.pv).length=ps.length*41:=zaO (f:=ST.pv) (k:=41) (fun _=>rfl) ps
 unfold moS at hS⊢;rw[qbP]at hS⊢;generalize (ps.set i {s with h:={s.h with s:=d.now}}).flatMap ST.pv=S' at*;generalize ps.flatMap ST.pv=S at*;generalize ps.length=K at*;refine fnIO fun w0 A heap=>?_
 refine G [10] ?_;refine zaa (zay U98 rfl sz98 qab (hch)) rfl rfl ?_;refine G [9] ?_;refine jd9 ?_;refine G [12] ?_;refine zab (zbx (Y:=qd d.now) (ys:=[qh d.now]) sz3 rfl rfl rfl qp hst) rfl rfl ⟨rfl,trivial⟩ ?_;refine G [16] ?_;refine jf0 (zaQ U3 rfl hmi) ?_;refine G [3] ?_;refine jf0 (zaQ U9 rfl hno) ?_;refine cK hH ?_;refine G [4] ?_;refine jf0 (zaf (Y:=.agg m.cells) sz129 rfl rfl (qbn rfl)) ?_;refine G [5] ?_
 refine jeg ?_;exact jcU
theorem moagainD_s(d:DM)(ps:List ST)(ls:List LR)(i:Nat)(s:ST)(hs:ps[i]?=some s)(p:PE)(hp:d.c.ps[i]?=some p)(m:MS)(e:Int)(hH:Fn prog 109 [qc d.c.key,qc p.key,qc p.sh,qd s.h.mine,qc s.h.nc] (.tup [.agg m.cells,qd e]) [])
 (zs:List Int) (e':Int) (hW:Fn prog 106 [.agg m.cells] (.tup [ql zs.length 1 (bs zs),qd e']) []) (hn:ps.length≤1048576) (hl:ls.length≤1048576) (hc:d.c.ps.length≤1048576):
 FnO prog 64 [.ref 0 0,qd i] [(0,moB d 7),(1,moS ps),(7,moL ls),(4,.un),(5,.un),(6,.un),(29,.un),(30,.un)]
  [(0,moB d 30),(1,moS (ps.set i {s with h:={s.h with s:=d.now}})),(7,.dead),(30,moL (ls++[⟨⟨#[]⟩,s.ep,zs⟩]))] (.tup []):=
 zeB [4,5,6,29] (moagain_s d ps ls i s hs p hp m e hH zs e' hW hn hl hc) rfl rfl rfl rfl
theorem modone_s(d:DM)(h:d.last≤4294967235):FnO prog 18 [.ref 0 0] [(0,moB d 7),(2,.un)] [(0,moB d 7)] (.tup [.agg (moD d (.row 1)),.row 7,qd 0]):=by
 refine zeB [2] (wrs:=[(0,moB d 7),(2,qj 32 (moD d (.row 1)))]) ?_ rfl rfl rfl rfl;refine fnIO fun w0 A heap=>?_
 refine G [14,3,8] ?_;refine jdD ?_;refine G [4] ?_;refine jeu ?_;refine G [4] ?_;exact jbc
theorem modoneX_s(d:DM)(h:¬d.last≤4294967235):FnO prog 18 [.ref 0 0] [(0,moB d 7),(2,.un)] [(0,moB d 7)] (.tup [.agg zdmC,qm,qd 4]):=by
 refine zeB [2] (wrs:=[(0,moB d 7),(2,qj 32 zdmC)]) ?_ rfl rfl rfl rfl;refine fnIO fun w0 A heap=>?_
 refine G [14,4,10,9,0] ?_;exact jbc
theorem zi3(d:DM)(ps:List ST)(i:Nat)(s:ST)(hs:ps[i]?=some s)(m:MS)(zs:List Int)(e:Int)(hW:Fn prog 121 [.agg m.cells] (.tup [.row 0,qd e]) [(0,.row 5 1 zs.length (bs zs))])(hp:ps.length≤1048576):
 Fn prog 79 [.agg (moD d (ql ps.length 41 (ps.flatMap ST.pv))),qd i,.agg m.cells] (.agg [qc ⟨#[]⟩,qc s.ep,.row 0]) [(0,.row 5 1 zs.length (bs zs))]:=by
 have hi:i<ps.length:=(qbl.1 hs).1;have hep:(ps.flatMap ST.pv)[i*41+1]?=some (qg s.ep):=zeX (f:=ST.pv) (k:=41) (fun _=>rfl) hs qS;generalize ps.flatMap ST.pv=S at*;generalize ps.length=K at*;generalize s.ep=ep at*;refine fnI fun w0 A=>?_
 refine G [2] ?_;refine jf0 (zhk (X:=.agg (moD d (ql K 41 S))) 3 rfl) ?_;refine G [5] ?_;refine jeg ?_;refine cK hW ?_;refine G [12] ?_;refine jfZ (zan fi66_1 rfl) ?_;refine jer ?_;refine G [2] ?_;refine jf0 (zaf (Y:=.agg [qc ⟨#[]⟩,qc ep,.row 11]) sz75 rfl rfl (qbn rfl)) ?_;refine jdR ?_;refine yT (fun o=>11) ?_ ?_
 ·exact rfl
 ·exact jbn
theorem helloed_s(d:DM)(ps:List ST)(i:Nat)(s:ST)(hs:ps[i]?=some s)(p:PE)(hp:d.c.ps[i]?=some p)(m:MS)(e:Int)(hH:Fn prog 82 [qc d.c.key,qc p.key,qc p.sh,qd s.h.mine,qc s.h.nc] (.tup [.agg m.cells,qd e]) [])
 (zs:List Int) (e':Int) (hW:Fn prog 121 [.agg m.cells] (.tup [.row 0,qd e']) [(0,.row 5 1 zs.length (bs zs))]) (hn:ps.length≤1048576) (hc:d.c.ps.length≤1048576):
 FnO prog 29 [.agg (moD d (.row 1)),qd i] [(1,moS ps),(2,.un),(4,.un),(5,.un),(6,.un),(7,.un),(8,.un),(49,.un)]
  [(1,moS (ps.set i {s with h:={s.h with s:=d.now}})),(49,qk 5 1 zs.length (bs zs))] (.tup [.agg (moD d (.row 1)),.agg [qc ⟨#[]⟩,qc s.ep,.row 49]]):=by
 have hi:i<ps.length:=(qbl.1 hs).1;have hj:i<d.c.ps.length:=(qbl.1 hp).1;have hs2:(ps.set i {s with h:={s.h with s:=d.now}})[i]?=some {s with h:={s.h with s:=d.now}}:=qat;have hS:=zi3 d _ i _ hs2 m zs e' hW qbh;have hst:setR (ps.flatMap ST.pv) (i*41+35+4) [qh d.now]=(ps.set i {s with h:={s.h with s:=d.now}}).flatMap ST.pv:=zgT (f:=ST.pv) (k:=41) (fun _=>rfl) hs (q:=39) (show 39+1≤41 by decide) rfl;have hhd:((ps.set i {s with h:={s.h with s:=d.now}}).flatMap ST.pv |>.drop (i*41+35)).take 5=HS.pv {s.h with s:=d.now}:=zfR (f:=ST.pv) (k:=41) (fun _=>rfl) hs2 (q:=35) (n:=5) qS
 have hch:=zav (f:=PE.pv) (k:=5) (fun _=>rfl) hp;have hle:=zaw (f:=PE.pv) (k:=5) (fun _=>rfl) hj;have hsl:(ps.flatMap ST.pv).length=ps.length*41:=zaO (f:=ST.pv) (k:=41) (fun _=>rfl) ps;have hsl2:((ps.set i {s with h:={s.h with s:=d.now}}).flatMap ST.pv).length=ps.length*41:=qak;refine zeB [2,4,5,6,7,8] (wrs:=[(1,moS (ps.set i {s with h:={s.h with s:=d.now}})),(2,qj 32 (moD d (.row 1))),(4,qj 32 (moD d (.row 1))),(5,qj 75 [qc ⟨#[]⟩,qc s.ep,.row 49]),(6,qj 98 p.cells),(7,qj 63 (HS.cells {s.h with s:=d.now})),(8,qj 129 m.cells),(49,qk 5 1 zs.length (bs zs))]) ?_ rfl rfl rfl rfl
 unfold moS at⊢;rw[qbP]at hS⊢;generalize (ps.set i {s with h:={s.h with s:=d.now}}).flatMap ST.pv=S' at*;generalize ps.flatMap ST.pv=S at*;generalize ps.length=K at*;refine fnIO fun w0 A heap=>?_
 refine G [2] ?_;refine jf0 (zhk (X:=.agg (moD d (.row 1))) 2 rfl) ?_;refine G [10] ?_;refine zaa (zay U98 rfl sz98 qab (hch)) rfl rfl ?_;refine jf0 (zaT 6 zr98 rfl) ?_;refine jd9 ?_;refine G [11] ?_;refine zab (zbx (Y:=qd d.now) (ys:=[qh d.now]) sz3 rfl rfl rfl qp hst) rfl rfl ⟨rfl,trivial⟩ ?_;refine G [8] ?_;refine zab (zb1 U63 rfl sz63 qp (hhd)) rfl rfl ⟨rfl,trivial⟩ ?_;refine jf0 (zaT 7 zr63 rfl) ?_
 refine jf0 (zaf (Y:=.agg (HS.cells {s.h with s:=d.now})) sz63 rfl rfl (qbn rfl)) ?_;refine G [14] ?_;refine cK hH ?_;refine G [4] ?_;refine jf0 (zaf (Y:=.agg m.cells) sz129 rfl rfl (qbn rfl)) ?_;refine G [4] ?_;refine jdD ?_;refine jdD ?_;refine jdn ?_;refine jeg ?_;refine cV hS ?_;refine jeu ?_;refine jf0 (zaf (Y:=.agg [qc ⟨#[]⟩,qc s.ep,.row 49]) sz75 rfl rfl (qbn rfl)) ?_;exact ja9
end Go.Proofs.YtdiljgkijgiboaaGreatDoor
namespace Go.Proofs.YtdiljgkijgiboaaGreatDoor
open Go.RowKit Go.Sort
theorem kE_born{k:KY}(h:kE k=0):0≤k.born∧k.born≤1099511627776:=by
 by_cases hl:k.live=true
 ·exact⟨(zea h hl).2.2.2.2.2.2.1,(zea h hl).2.2.2.2.2.2.2⟩
 ·unfold kE at h;rw[if_pos (by simpa using hl)]at h
  by_cases hz:k.zero=true
  ·have:=KY.zero_iff.1 hz;subst this;exact⟨qS,qS⟩
  ·rw[if_neg hz]at h;omega
theorem stE_parts{s:ST}(h:stE s=0):ksE s.a s.b s.c=0∧hsE s.h=0:=by
 unfold stE at h
 by_cases h1:keyE s.key≠0
 ·exact jc5
 ·rw[if_neg h1]at h
  by_cases h2:ksE s.a s.b s.c≠0
  ·rw[if_pos h2]at h;exact absurd h h2
  ·rw[if_neg h2]at h
   by_cases h3:hsE s.h≠0
   ·rw[if_pos h3]at h;exact absurd h h3
   ·exact⟨qp,qp⟩
theorem zjm{l:List ST}(h:stsE l=0){i:Nat}{s:ST}(hs:l[i]?=some s):stE s=0:=by
 have hi:=(qbl.1 hs).1;unfold stsE at h
 by_cases h6:6<l.length
 ·rw[if_pos h6]at h;omega
 ·rw[if_neg h6]at h;have h1:=zfp h i hi;unfold zft at h1;rw[stG_at hs]at h1
  by_cases h2:stE s≠0
  ·rw[if_pos h2]at h1;exact h1
  ·omega
theorem pe_sh{p:PE}(h:peE p=0):p.sh.size≤140737488351232:=by
 unfold peE at h
 by_cases h1:keyE p.key≠0
 ·exact jc5
 ·rw[if_neg h1]at h
  by_cases h2:p.sh≠⟨#[]⟩∧keyE p.sh≠0
  ·rw[if_pos h2]at h;exact absurd h h2.2
  ·by_cases h3:p.sh=⟨#[]⟩
   ·rw[h3];decide
   ·exact zjP (Decidable.byContradiction fun h4=>h2 ⟨h3,h4⟩)
structure TkG(d:DM):Prop where
 n6:d.ps.length≤6
 c6:d.c.ps.length≤6
 same:d.ps.length=d.c.ps.length
 born:∀(i:Nat) (s:ST),d.ps[i]?=some s→∀j,0≤(zf4 s.a s.b s.c j).born∧(zf4 s.a s.b s.c j).born≤1099511627776
 hand:∀(i:Nat) (s:ST),d.ps[i]?=some s→hsE s.h=0
 sh:∀(i:Nat) (p:PE),d.c.ps[i]?=some p→p.sh.size≤140737488351232
 now:0≤d.now∧d.now≤1099511627776
 last:d.last≤4294967235
theorem dm_tk{d:DM}(h:dmE d=0):TkG d:=by
 obtain⟨h1,h2,h3,h4,h5⟩:=zgX h;have hc:=zgY h1
 have hlen:d.ps.length=d.c.ps.length:=by
  rcases Nat.decEq d.ps.length d.c.ps.length with e|e
  ·have:=zh5 (l:=d.ps) (m:=d.c.ps) e;rw[h5.1.2]at this;cases this
  ·exact e
 refine⟨by rw[hlen];exact hc.n6,hc.n6,hlen,fun i s hs j=>?_,fun i s hs=>(stE_parts (zjm h2 hs)).2,fun i p hp=>pe_sh (hc.pe p (qbo hp)),?_,?_⟩
 ·have hk:=(stE_parts (zjm h2 hs)).1;have hk3:=zfp hk;have key:∀j,j<3→0≤(zf4 s.a s.b s.c j).born∧(zf4 s.a s.b s.c j).born≤1099511627776:=fun j hj=>kE_born (hk3 j hj)
  unfold zf4 at key⊢;have k0:=key 0 qS;have k1:=key 1 qS;have k2:=key 2 qS;simp at k0 k1 k2
  split
  ·exact k0
  ·split
   ·exact k1
   ·exact k2
 ·unfold zfv at h4;omega
 ·unfold zfv at h4;omega
def kRes(e:Int)(k:KY):AV:=if e=0 then .tup [.agg k.cells,.row 0,qd 0]else .tup [.agg KY0.cells,qm,qd e]
theorem zfm{e e':Int}(h:e=e')(he:e'≠0)(k:KY)(n:Nat)(xs:List Int):kRes e k=.tup [.agg KY0.cells,qm,qd e']∧bNew e n xs=[]:=by
 subst h;unfold kRes bNew;rw[if_neg he,if_neg he];exact⟨rfl,rfl⟩
theorem zgk{e:Int}(h:e=0)(k:KY)(n:Nat)(xs:List Int):kRes e k=.tup [.agg k.cells,.row 0,qd 0]∧bNew e n xs=[(0,.row 5 1 n (bs xs))]:=by
 subst h;unfold kRes bNew;rw[if_pos rfl,if_pos rfl];exact⟨rfl,rfl⟩
noncomputable def kzE(k:KY)(now:Int)(n:Nat):Int:=if kE k≠0 then kE k else if zbv k now=false then 13 else zc1 k.send k.counter n
def ksK(k:KY):KY:={k with counter:=k.counter+1}
theorem kSeal_s(k:KY)(ok:k.OK)(now:Int)(n0: -9223372036854775808≤now)(n1:now≤9223372036854775807)(n:Nat)(b:List Int)(hb:b.length=n)(hB:isB b):
 Fn Tryz.prog 61 [.agg k.cells,qd now,ql n 1 (bs b)] (kRes (kzE k now n) (ksK k)) (bNew (kzE k now n) (n+16) (zdg k.send k.counter b)):=by
 have hC:=zjQ k ok;have hF:=zjY k ok now n0 n1;have hft:=@zcw k now;have hS:=seal_s k.send k.counter n b hb hB;exact jat
theorem refKSeal_s(k:KY)(ok:k.OK)(now:Int)(n0: -9223372036854775808≤now)(n1:now≤9223372036854775807)(n:Nat)(b:List Int)(hb:b.length=n)(hB:isB b):
 Fn Tryz.prog 78 [.agg k.cells,qd now,ql n 1 (bs b)] (kRes (kzE k now n) (ksK k)) (bNew (kzE k now n) (n+16) (zdg k.send k.counter b)):=by
 have hC:=zfG k ok;have hF:=zff k ok now n0 n1;have hft:=@zcw k now;have hS:=refSeal_s k.send k.counter n b hb hB;exact jat
end Go.Proofs.YtdiljgkijgiboaaGreatDoor
namespace Go.Proofs.YtdiljgkijgiboaaGreatDoor
open Tryz
open Go.RowKit Go.Sort
def zee(n:Nat):Nat:=if n<65536 then n else zee (n/65536+n%65536)
termination_by n
decreasing_by omega
theorem fold16_lt(n:Nat):zee n<65536:=by
 induction n using Nat.strongRecOn with
 |ind n ih=>
  rw[zee]
  split
  ·assumption
  ·exact ih _ qp
theorem zie{n:Nat}(h:65536≤n):zee (n/65536+n%65536)=zee n:=by
 conv=>rhs;rw[zee,if_neg (by omega)]
theorem zi7{n:Nat}(h:n<65536):zee n=n:=by rw[zee,if_pos h]
def zc7(xs:List Int)(k:Nat):Nat:=((List.range k).map fun j=>256*bN xs (2*j)+bN xs (2*j+1)).sum
theorem zeT(xs:List Int)(k:Nat):zc7 xs (k+1)=zc7 xs k+(256*bN xs (2*k)+bN xs (2*k+1)):=by simp[zc7,qcw]
theorem ziU{xs:List Int}(h:isB xs)(k:Nat):zc7 xs k≤65535*k:=by
 induction k with
 |zero=>simp[zc7]
 |succ k ih=>rw[zeT];have:=bN_lt h (2*k);have:=bN_lt h (2*k+1);omega
def zhh(xs:List Int):Nat:=zee (zc7 xs (xs.length/2))
theorem sumOf_lt(xs:List Int):zhh xs<65536:=fold16_lt _
theorem psum_s(n:Nat)(xs:List Int)(hx:xs.length=n)(hB:isB xs)(hn:n≤1000):Fn prog 48 [.p (.sl n 1 (bs xs))] (.p (.v (.int .u16 (65535-zhh xs:Nat)))) []:=by
 refine zb0 func48 rfl (qbk rfl) fun w0 A=>?_
 refine jfv ?_;refine jfl ?_;refine jfv ?_;refine jfl ?_;refine zad (zad (tx (jfl ?_)));refine zaj (zag (fun m st=>∃k:Nat,m+k=n/2∧st=St.of [(0,.p (.sl n 1 (bs xs))),(3,.p (.v (.int .i64 (zc7 xs k:Nat)))),(4,.p (.v (.int .i64 (2*k:Nat))))] []) (n/2) ?_ ?_)
 ·refine jdL ?_ ?_
  ·exact jap
  ·trivial
 rintro m st ⟨k,hk,rfl⟩;refine zad (zad (jfe ?_));refine jdt ?_;refine jdn ?_;refine jfZ (zdd U34) ?_;refine jen ?_;refine jfg ?_;refine zaI _ rfl (fun h=>?_) (fun h=>?_)
 ·have hlt:2*k+1<n:=qw;clear h;have g1:=bN_at hB (i:=2*k) qp;have g2:=bN_at hB (i:=2*k+1) qp;have b1:=bN_lt hB (2*k);have b2:=bN_lt hB (2*k+1);have hs:=zeT xs k;have hle:=ziU hB k;generalize bN xs (2*k)=y1 at*;generalize bN xs (2*k+1)=y2 at*;generalize zc7 xs k=S at*
  have e1:IntKind.i64.wrap ((y1:Int)*2^min (8:Int).toNat IntKind.i64.bits)=((y1*2^8:Nat):Int):=by
   rw[show(2:Int)^min (8:Int).toNat IntKind.i64.bits=256 from rfl,qcd _ (by omega)];omega
  have e2:=i64_or y1 y2 8 qp qp;refine zal (zad (zaj (za9 8 qq ?_)));refine jdn ?_;refine jdn ?_;refine jdn ?_;refine jef ?_;refine jeW ?_;refine zaa (zbn U5 U3 qN) rfl rfl ?_;refine zaa (a_shl qp e1) rfl rfl ?_;refine jdn ?_;refine jdn ?_;refine jdt ?_;refine zaa (zaL U34 sz5 qp qp (by rw[show((2*k:Nat):Int)+1=((2*k+1:Nat):Int)by omega,qbt,qbU])) rfl rfl ?_;refine zaa (zaz U5 rfl (by rw[qbF];exact g2)) rfl rfl ?_
  refine zaa (zbn U5 U3 qN) rfl rfl ?_;refine zaa (zaV qG e2) rfl rfl ?_;refine jdt ?_;refine jdx ?_;refine zac ⟨qq,?_⟩;refine zaW (zat (jfe ?_));refine jdt ?_;refine jdx ?_;refine jfg ?_;refine⟨m-1,qp,_,zfu _ ?_,k+1,qp,rfl⟩;refine⟨⟨rfl,rfl⟩,⟨?_,rfl⟩,⟨?_,rfl⟩,trivial⟩
  ·show AV.p (.v (.int .i64 ((S:Int)+((y1*2^8+y2:Nat):Int))))=AV.p (.v (.int .i64 ((zc7 xs (k+1):Nat):Int)));rw[hs];congr 3;try omega
  ·show AV.p (.v (.int .i64 (((2*k:Nat):Int)+2)))=AV.p (.v (.int .i64 ((2*(k+1):Nat):Int)))
   congr 3
 have hge:k=n/2:=qw;clear h;have hle:=ziU hB k;have hS:zee (zc7 xs k)=zhh xs:=by unfold zhh;rw[hx,hge]
 generalize zc7 xs k=S at*;refine zar (zad (zaj (zag (fun m st=>∃q:Nat,m=q∧q≤65535*500∧zee q=zhh xs∧st=St.of [(3,.p (.v (.int .i64 q)))] []) S ?_ ?_)))
 ·refine⟨_,zfu _ ?_,S,rfl,qp,hS,rfl⟩;exact jap
 rintro m st ⟨q,rfl,hq,hf,rfl⟩;refine zad (zad (jfe ?_));refine jfZ a_gtr ?_;refine jfg ?_;refine zaI _ rfl (fun h=>?_) (fun h=>?_)
 ·have hgt:65535<m:=qw;clear h;have e3:=i64_and_65535 m qp
  have e4:(m:Int).fdiv (2^min (16:Int).toNat IntKind.i64.bits)=((m/65536:Nat):Int):=by
   rw[show(2:Int)^min (16:Int).toNat IntKind.i64.bits=65536 from rfl,qbG _ (by omega)];omega
  refine zal (zaj (jfe ?_));refine zaa (zbH qp e4) rfl rfl ?_;refine jdn ?_;refine zaa (zaV qG e3) rfl rfl ?_;refine jdt ?_;refine jfl ?_;refine zaW (zat (⟨m/65536+m%65536,qp,_,zfu _ ?_,m/65536+m%65536,rfl,qp,by rw[zie (by omega)];exact hf,rfl⟩))
  (repeat(first|exact trivial|(refine⟨⟨qJ,rfl⟩,?_⟩)))
 ·have hle2:m<65536:=qw;clear h;rw[zi7 hle2]at hf;rw[←hf];have e5:=u16_not m hle2;refine zar (zad (jfe ?_));refine zaa (zbn U3 underlying107 (by first|exact IntWalk.u16_in _ qp|rfl)) rfl rfl ?_;refine jfZ (a_inv e5) ?_;refine jfl ?_;refine zaq ?_;exact jcD
theorem pkbeN4(a:Nat)(h:a<4294967296):beN 4 a=[((a/16777216:Nat):Int),((a/65536%256:Nat):Int),((a/256%256:Nat):Int),((a%256:Nat):Int)]:=by
 simp[beN,qcw];omega
theorem beN2(a:Nat)(h:a<65536):beN 2 a=[((a/256:Nat):Int),((a%256:Nat):Int)]:=by
 simp[beN,qcw];omega
def hdA(n:Nat):List Int:=[69,0]++beN 2 (20+n)++[0,0,0,0,64,253]
def hdB(a b:Nat):List Int:=beN 4 a++beN 4 b
def zbT(a b n:Nat):List Int:=hdA n++[0,0]++hdB a b
def packB(a b n:Nat)(xs:List Int):List Int:=hdA n++beN 2 (65535-zhh (zbT a b n))++hdB a b++xs
theorem zgQ(n:Nat):(hdA n).length=10:=by simp[hdA,zcf]
theorem zjW(a b:Nat):(hdB a b).length=8:=by simp[hdB,zcf]
theorem zfn(a b n:Nat):(zbT a b n).length=20:=by simp[zbT,zgQ,zjW]
theorem zdO{xs ys:List Int}(h:isB xs)(k:isB ys):isB (xs++ys):=fun x hx=>by
 rcases qbD.1 hx with h1|h1
 ·exact h x h1
 ·exact k x h1
theorem hdA_B(n:Nat):isB (hdA n):=by
 refine zdO (zdO ?_ (beN_B _ _)) ?_
 all_goals
  intro x hx;simp at hx;omega
theorem hdB_B(a b:Nat):isB (hdB a b):=zdO (beN_B _ _) (beN_B _ _)
theorem head20_B(a b n:Nat):isB (zbT a b n):=by
 refine zdO (zdO (hdA_B n) ?_) (hdB_B a b);intro x hx;simp at hx;omega
theorem zeV(a b n:Nat)(xs:List Int)(hx:xs.length=n):(packB a b n xs).length=20+n:=by
 simp[packB,zgQ,zjW,zcf,hx];omega
theorem packB_B(a b n:Nat)(xs:List Int)(hB:isB xs):isB (packB a b n xs):=zdO (zdO (zdO (hdA_B n) (beN_B _ _)) (hdB_B a b)) hB
def pkt(a b n:Nat)(xs:List Int):List AV:=[qe a,qe b,ql n 1 (bs xs)]
theorem pcheck_s(a b n:Nat)(xs:List Int)(hn:n≤140737488355328):Fn prog 46 [.agg (pkt a b n xs)] (qd (if 200<n then 1 else 0)) []:=by
 unfold pkt;exact jbO
theorem four_s(a:Nat)(h:a<4294967296):Fn prog 47 [qe a] (.row 0) [(0,.row 5 1 4 (bs (beN 4 a)))]:=by
 have e1:(a:Int).fdiv (2^min (24:Int).toNat IntKind.u32.bits)=((a/16777216:Nat):Int):=by
  rw[show(2:Int)^min (24:Int).toNat IntKind.u32.bits=16777216 from rfl,qbG _ (by omega)];omega
 have e2:(a:Int).fdiv (2^min (16:Int).toNat IntKind.u32.bits)=((a/65536:Nat):Int):=by
  rw[show(2:Int)^min (16:Int).toNat IntKind.u32.bits=65536 from rfl,qbG _ (by omega)];omega
 have e3:(a:Int).fdiv (2^min (8:Int).toNat IntKind.u32.bits)=((a/256:Nat):Int):=by
  rw[show(2:Int)^min (8:Int).toNat IntKind.u32.bits=256 from rfl,qbG _ (by omega)];omega
 rw[pkbeN4 a h];have w1:IntKind.u8.wrap ((a/16777216:Nat):Int)=((a/16777216:Nat):Int):=qc7 _ qp;have w2:IntKind.u8.wrap ((a/65536:Nat):Int)=((a/65536%256:Nat):Int):=qQ;have w3:IntKind.u8.wrap ((a/256:Nat):Int)=((a/256%256:Nat):Int):=qQ;have w4:IntKind.u8.wrap (a:Int)=((a%256:Nat):Int):=qQ;generalize a/16777216=z1 at*;generalize a/65536%256=z2 at*;generalize a/256%256=z3 at*;generalize a%256=z4 at*;refine fnI fun w0 A=>?_
 refine G [7] ?_;refine zaa (zbH qp e1) rfl rfl ?_;refine jfZ (zbn U33 U5 w1) ?_;refine jdn ?_;refine zaa (zbH qp e2) rfl rfl ?_;refine jfZ (zbn U33 U5 w2) ?_;refine jdn ?_;refine zaa (zbH qp e3) rfl rfl ?_;refine jfZ (zbn U33 U5 w3) ?_;refine jdn ?_;refine jfZ (zbn U33 U5 w4) ?_;refine zab (xs:=[.p (.v (.int .u8 z1)),.p (.v (.int .u8 z2)),.p (.v (.int .u8 z3)),.p (.v (.int .u8 z4))]) (zae (es:=[.p (.v (.int .u8 z1)),.p (.v (.int .u8 z2)),.p (.v (.int .u8 z3)),.p (.v (.int .u8 z4))]) (cs:=[.v (.int .u8 z1),.v (.int .u8 z2),.v (.int .u8 z3),.v (.int .u8 z4)]) 14 U34 sz5 zc5 (qbk rfl) (qbk rfl) rfl qq qq qq (qbk rfl)) qF rfl ⟨rfl,trivial⟩ ?_
 refine jd4 ?_;refine yT (fun _=>14) ?_ ?_
 ·exact rfl
 ·exact jbn
theorem setR_two{H T:List Int}{c1 c2:Int}(hH:H.length=10):((H++[0,0]++T).set 10 c1).set 11 c2=H++[c1,c2]++T:=by
 rw[qby,qb2 _ _ (by omega),hH,qb2 _ _ (by omega),hH,qby];rfl
theorem enc_s(a b n:Nat)(xs:List Int)(ha:a<4294967296)(hb:b<4294967296)(hx:xs.length=n)(hB:isB xs)(hn:n≤200):Fn prog 9 [.agg (pkt a b n xs)] (.tup [.row 0,qd 0]) [(0,.row 5 1 (20+n) (bs (packB a b n xs)))]:=by
 have hC:=pcheck_s a b n xs qp;rw[if_neg (by omega)]at hC;have hF1:=four_s a ha;have hF2:=four_s b hb;have hS:=psum_s 20 (zbT a b n) (zfn a b n) (head20_B a b n) qp;have hlt:=sumOf_lt (zbT a b n);have hP:packB a b n xs=hdA n++beN 2 (65535-zhh (zbT a b n))++hdB a b++xs:=rfl;generalize hs:zhh (zbT a b n)=s at*;rw[beN2 (65535-s) (by omega)]at hP
 have hH:hdA n++[0,0]=[69,0,(((20+n)/256:Nat):Int),(((20+n)%256:Nat):Int),0,0,0,0,64,253,0,0]:=by
  simp[hdA,beN2 (20+n) (by omega)]
 have hH2:zbT a b n=(hdA n++[0,0])++beN 4 a++beN 4 b:=by simp[zbT,hdB]
 have hset:=setR_two (T:=hdB a b) (c1:=(((65535-s)/256:Nat):Int)) (c2:=(((65535-s)%256:Nat):Int)) (zgQ n)
 have e1:((20:Int)+n).fdiv (2^min (8:Int).toNat IntKind.i64.bits)=(((20+n)/256:Nat):Int):=by
  exact jbS
 have w1:IntKind.u8.wrap (((20+n)/256:Nat):Int)=(((20+n)/256:Nat):Int):=qc7 _ qp;have w2:IntKind.u8.wrap ((20:Int)+n)=(((20+n)%256:Nat):Int):=qQ
 have e2:((65535-s:Nat):Int).fdiv (2^min (8:Int).toNat IntKind.u16.bits)=(((65535-s)/256:Nat):Int):=by
  rw[show(2:Int)^min (8:Int).toNat IntKind.u16.bits=256 from rfl,qbG _ (by omega)];omega
 have w3:IntKind.u8.wrap (((65535-s)/256:Nat):Int)=(((65535-s)/256:Nat):Int):=qc7 _ qp;have w4:IntKind.u8.wrap ((65535-s:Nat):Int)=(((65535-s)%256:Nat):Int):=qQ;have hHl:(zbT a b n).length=20:=zfn a b n;have hK:=zj4 20 (hdA n++[(((65535-s)/256:Nat):Int),(((65535-s)%256:Nat):Int)]++hdB a b) (by simp[zgQ,zjW]) qp;rw[hP];generalize (((20+n)/256:Nat):Int)=q1 at*;generalize (((20+n)%256:Nat):Int)=q2 at*
 generalize (((65535-s)/256:Nat):Int)=q3 at*;generalize (((65535-s)%256:Nat):Int)=q4 at*;have k1:bs [69,0,q1,q2,0,0,0,0,64,253,0,0]++bs (beN 4 a)=bs (hdA n++[0,0]++beN 4 a):=by rw[za5,hH]
 have k2:bs (hdA n++[0,0]++beN 4 a)++bs (beN 4 b)=bs (zbT a b n):=by rw[za5,hH2]
 have k3:setR (bs (zbT a b n)) 10 [.v (.int .u8 q3)]=bs ((zbT a b n).set 10 q3):=zeK qp
 have k4:setR (bs ((zbT a b n).set 10 q3)) 11 [.v (.int .u8 q4)]=bs (hdA n++[q3,q4]++hdB a b):=by
  rw[zeK (by rw[qbP];omega)];rw[show zbT a b n=hdA n++[0,0]++hdB a b from rfl,hset]
 have l1:(bs (zbT a b n)).length=20:=by rw[bs_length,hHl]
 have l2:(bs ((zbT a b n).set 10 q3)).length=20:=by rw[bs_length,qbP,hHl]
 have k5:bs (hdA n++[q3,q4]++hdB a b)++bs xs=bs (hdA n++[q3,q4]++hdB a b++xs):=za5;generalize hdA n++[0,0]++beN 4 a=L1 at*;generalize (zbT a b n).set 10 q3=L3 at*;generalize zbT a b n=L2 at*;generalize hdA n++[q3,q4]++hdB a b=L4 at*;unfold pkt at*;refine fnI fun w0 A=>?_
 refine G [10] ?_;refine cK hC ?_;refine jds ?_;refine cX ?_ ?_<;>intro h
 ·cases h
 clear h;refine G [12] ?_;refine zaa (zbH qp e1) rfl rfl ?_;refine jfZ (zbn U3 U5 w1) ?_;refine jdn ?_;refine jfZ (zbn U3 U5 w2) ?_;refine zab (xs:=[.p (.v (.int .u8 69)),.p (.v (.int .u8 0)),.p (.v (.int .u8 q1)),.p (.v (.int .u8 q2)),.p (.v (.int .u8 0)),.p (.v (.int .u8 0)),.p (.v (.int .u8 0)),.p (.v (.int .u8 0)),.p (.v (.int .u8 64)),.p (.v (.int .u8 253)),.p (.v (.int .u8 0)),.p (.v (.int .u8 0))]) (zae (es:=[.p (.v (.int .u8 69)),.p (.v (.int .u8 0)),.p (.v (.int .u8 q1)),.p (.v (.int .u8 q2)),.p (.v (.int .u8 0)),.p (.v (.int .u8 0)),.p (.v (.int .u8 0)),.p (.v (.int .u8 0)),.p (.v (.int .u8 64)),.p (.v (.int .u8 253)),.p (.v (.int .u8 0)),.p (.v (.int .u8 0))]) (cs:=(bs [69,0,q1,q2,0,0,0,0,64,253,0,0])) 22 U34 sz5 zc5 (qbk rfl) (qbk rfl) rfl qq qq qq (qbk rfl)) qF rfl ⟨rfl,trivial⟩ ?_
 refine G [3] ?_;refine za9 8 qq ?_;refine G [3] ?_;refine cV hF1 ?_;refine zab (zam 27 U34 eo5 (zas) qy qp (show _=16 by omega) k1) rfl rfl ⟨rfl,rfl,rfl,trivial⟩ ?_;refine G [2] ?_;refine cV hF2 ?_;refine zab (zam 31 U34 eo5 (zas) qy qp (show _=20 by omega) k2) rfl rfl ⟨rfl,rfl,rfl,trivial⟩ ?_;refine G [5] ?_;refine cV hS ?_;refine G [7] ?_;refine zaa (zbH qp e2) rfl rfl ?_;refine jfZ (zbn underlying107 U5 w3) ?_
 refine jdn ?_;refine jfZ (zbn underlying107 U5 w4) ?_;refine zab (zao U34 sz5 qp qp (show _=10 by omega)) rfl rfl ⟨rfl,trivial⟩ ?_;refine zab (zbx (Y:=.p _) sz5 rfl rfl qam qH k3) rfl rfl ⟨rfl,trivial⟩ ?_;refine zab (zao U34 sz5 qp qp (show _=11 by omega)) rfl rfl ⟨rfl,trivial⟩ ?_;refine zab (zbx (Y:=.p _) sz5 rfl rfl qam qH k4) rfl rfl ⟨rfl,trivial⟩ ?_;refine G [2] ?_;refine jfE ?_;refine zab (zam 47 U34 eo5 (zbc) qy qp (show _=20+n by omega) k5) rfl rfl ⟨rfl,rfl,trivial⟩ ?_
 refine jdY ?_;refine yT (fun _=>47) ?_ ?_
 ·exact rfl
 ·exact jbn
end Go.Proofs.YtdiljgkijgiboaaGreatDoor
namespace Go.Proofs.YtdiljgkijgiboaaGreatDoor
open Go.RowKit Go.Sort
theorem zeL(xs ys:List Int):strOfNums xs++strOfNums ys=strOfNums (xs++ys):=by
 apply ByteArray.ext;simp[strOfNums,ByteArray.data_append]
def ze8(xs:List Int)(k:Nat):Nat:=((List.range k).map fun j=>if j%2=0 then 256*bN xs j else bN xs j).sum
theorem zeG(xs:List Int)(k:Nat):ze8 xs (k+1)=ze8 xs k+(if k%2=0 then 256*bN xs k else bN xs k):=by simp[ze8,qcw]
theorem altSum_pair(xs:List Int)(k:Nat):ze8 xs (2*k)=zc7 xs k:=by
 induction k with
 |zero=>rfl
 |succ k ih=>
  rw[show 2*(k+1)=2*k+1+1 by omega,zeG,zeG,ih,zeT,if_pos (by omega),if_neg (by omega)];omega
theorem altSum_le{xs:List Int}(h:isB xs)(k:Nat):ze8 xs k≤65280*k:=by
 induction k with
 |zero=>simp[ze8]
 |succ k ih=>rw[zeG];have:=bN_lt h k;split<;>omega
theorem refPack_s(a b n:Nat)(xs:List Int)(ha:a<4294967296)(hb:b<4294967296)(hx:xs.length=n)(hB:isB xs)(hn:n≤200):Fn Tryz.prog 21 [.agg (pkt a b n xs)] (.tup [.row 0,.p (.v (.int .i64 0))]) [(0,.row 5 1 (20+n) (bs (packB a b n xs)))]:=by
 have g1:=zjd 2 (20+n) qp qp;rw[show((20+n:Nat):Int)=20+(n:Int)by omega]at g1;have g2:=zjd 4 a qp qp;have g3:=zjd 4 b qp qp;have s1:(⟨#[69,0]⟩:ByteArray)++strOfNums (beN 2 (20+n))=strOfNums ([69,0]++beN 2 (20+n)):=zeL [69,0] _;have s2:strOfNums ([69,0]++beN 2 (20+n))++(⟨#[0,0,0,0,64,253]⟩:ByteArray)=strOfNums (hdA n):=zeL _ [0,0,0,0,64,253];have s3:strOfNums (beN 4 a)++strOfNums (beN 4 b)=strOfNums (hdB a b):=zeL _ _
 have s4:strOfNums (hdA n)++(⟨#[0,0]⟩:ByteArray)=strOfNums (hdA n++[0,0]):=zeL _ [0,0];have s5:strOfNums (hdA n++[0,0])++strOfNums (hdB a b)=strOfNums (zbT a b n):=zeL _ _;have z1:(strOfNums (beN 2 (20+n))).size=2:=by rw[zau,zcf]
 have z2:(strOfNums ([69,0]++beN 2 (20+n))).size=4:=by rw[zau,qbm,zcf];rfl
 have z3:(strOfNums (beN 4 a)).size=4:=by rw[zau,zcf]
 have z4:(strOfNums (beN 4 b)).size=4:=by rw[zau,zcf]
 have z5:(strOfNums (hdA n)).size=10:=by rw[zau,zgQ]
 have z6:(strOfNums (hdB a b)).size=8:=by rw[zau,zjW]
 have z7:(strOfNums (hdA n++[0,0])).size=12:=by rw[zau,qbm,zgQ];rfl
 have z8:(strOfNums (zbT a b n)).size=20:=by rw[zau,zfn]
 have y1:(⟨#[69,0]⟩:ByteArray).size=2:=rfl;have y2:(⟨#[0,0,0,0,64,253]⟩:ByteArray).size=6:=rfl;have y3:(⟨#[0,0]⟩:ByteArray).size=2:=rfl;have hHB:=head20_B a b n;have hsb:=zbW hHB;have hHl:=zfn a b n
 have hSO:zee (ze8 (zbT a b n) 20)=zhh (zbT a b n):=by
  unfold zhh;rw[hHl,←altSum_pair]
 have hPB:packB a b n xs=hdA n++beN 2 (65535-zhh (zbT a b n))++hdB a b++xs:=rfl;have hPBB:=packB_B a b n xs hB;rw[hPB]at hPBB;rw[hPB];clear hPB;generalize hdA n=HA at*;generalize hdB a b=HB at*;generalize [69,0]++beN 2 (20+n)=HC at*;generalize HA++[0,0]=HD at*;generalize zbT a b n=HH at*;generalize beN 2 (20+n)=C1 at*;generalize beN 4 a=C2 at*;generalize beN 4 b=C3 at*;unfold pkt;refine fnI fun w0 A=>?_
 refine G [14,9,0] ?_;refine cX ?_ ?_<;>intro h
 ·simp at h;omega
 clear h;refine G [7] ?_;refine cV g1 ?_;refine jdK ?_;refine zaa (zb8 qp s1) rfl rfl ?_;refine zaa (zb8 qp s2) rfl rfl ?_;refine G [3] ?_;refine za9 8 qq ?_;refine G [3] ?_;refine cV g2 ?_;refine jdK ?_;refine G [3] ?_;refine cV g3 ?_;refine jdK ?_;refine zaa (zb8 qp s3) rfl rfl ?_;refine G [10] ?_;refine zaa (zb8 qp s4) rfl rfl ?_;refine jdn ?_;refine zaa (zb8 qp s5) rfl rfl ?_;refine zab (zfr 36 U9 U34 U5 qP z8 hsb) rfl rfl ⟨rfl,trivial⟩ ?_
 refine G [4] ?_;refine zag (fun m st=>∃k:Nat,m+k=20∧st=St.of [(1,.ref 1 0),(4,.p (.v (.string (strOfNums HA)))),(5,.p (.v (.string (strOfNums HB)))),(6,.p (.v (.int .i64 (ze8 HH k:Nat)))),(36,.row 36),(37,.p (.v (.int .i64 20))),(38,.p (.v (.int .i64 k)))] [(1,.box 36 [.p (.v (.int .u32 a)),.p (.v (.int .u32 b)),.p (.sl n 1 (bs xs))]),(36,.row 5 1 20 (bs HH))]) 20 ?_ ?_
 ·refine jdL ?_ ?_
  ·exact jap
  ·exact jaJ
 rintro m st ⟨k,hk,rfl⟩;refine G [5] ?_;refine cX ?_ ?_<;>intro h
 ·have hlt:k<20:=qw;clear h;have q1:=bN_at hHB (i:=k) qp;have q2:=bN_lt hHB k;have q3:=zeG HH k;have q4:=altSum_le hHB k;generalize bN HH k=y at*;generalize ze8 HH k=S at*;refine G [6] ?_;refine zab (zao U34 sz5 qp qp (show _=k by omega)) rfl rfl ⟨rfl,trivial⟩ ?_;refine jet ?_;refine G [6] ?_;refine jdE ?_;refine jdR ?_;refine awp_join3 (St.of [(1,.ref 1 0),(4,.p (.v (.string (strOfNums HA)))),(5,.p (.v (.string (strOfNums HB)))),(6,.p (.v (.int .i64 (ze8 HH (k+1):Nat)))),(36,.row 36),(37,.p (.v (.int .i64 20))),(38,.p (.v (.int .i64 k)))] [(1,.box 36 [.p (.v (.int .u32 a)),.p (.v (.int .u32 b)),.p (.sl n 1 (bs xs))]),(36,.row 5 1 20 (bs HH))]) ?_ (fun st' r=>za3 r ?_)
  ·skip
   refine cX ?_ ?_<;>intro h
   ·have h1:k%2=0:=qw;rw[if_pos h1]at q3;rw[q3]
    skip
    refine jdV ?_;exact jb5
   ·have h1:¬k%2=0:=qw;rw[if_neg h1]at q3;rw[q3]
    skip
    refine jds ?_;exact jb5
  skip
  refine jdY ?_;refine⟨m-1,qp,_,zai id _ _ ?_ ?_ rfl,k+1,qp,rfl⟩
  ·exact jap
  ·exact jaJ
 have hge:k=20:=qw;clear h;subst hge;have q4:=altSum_le hHB 20;generalize ze8 HH 20=S at*;refine G [3] ?_;refine zag (fun m st=>∃q:Nat,m=q∧q≤65280*20∧zee q=zhh HH∧st=St.of [(1,.ref 1 0),(4,.p (.v (.string (strOfNums HA)))),(5,.p (.v (.string (strOfNums HB)))),(6,.p (.v (.int .i64 q)))] [(1,.box 36 [.p (.v (.int .u32 a)),.p (.v (.int .u32 b)),.p (.sl n 1 (bs xs))])]) S ?_ ?_
 ·refine⟨_,zai id _ _ ?_ ?_ rfl,S,rfl,qp,hSO,rfl⟩
  ·exact jap
  ·exact jbn
 rintro m st ⟨q,rfl,hq,hf,rfl⟩;refine jdw ?_;refine cX ?_ ?_<;>intro h
 ·have hgt:65536≤m:=qw;clear h;refine G [4] ?_;refine jdE ?_;refine jdn ?_;refine jdB ?_;refine jd4 ?_;refine⟨m/65536+m%65536,qp,_,zai id _ _ ?_ ?_ rfl,m/65536+m%65536,rfl,qp,by rw[zie (by omega)];exact hf,rfl⟩
  ·refine⟨⟨rfl,rfl⟩,⟨rfl,rfl⟩,⟨rfl,rfl⟩,⟨?_,rfl⟩,trivial⟩;show AV.p (.v (.int .i64 ((m:Int)%65536+(m:Int)/65536)))=AV.p (.v (.int .i64 ((m/65536+m%65536:Nat):Int)))
   congr 3;omega
  ·exact jbn
 have hle2:m<65536:=qw;clear h;rw[zi7 hle2]at hf;rw[←hf]at hPBB⊢;have g4:=zjd 2 (65535-m) qp qp;have f1:strOfNums HA++strOfNums (beN 2 (65535-m))=strOfNums (HA++beN 2 (65535-m)):=zeL _ _;have f2:strOfNums (HA++beN 2 (65535-m))++strOfNums HB=strOfNums (HA++beN 2 (65535-m)++HB):=zeL _ _;have f3:strOfNums (HA++beN 2 (65535-m)++HB)++strOfNums xs=strOfNums (HA++beN 2 (65535-m)++HB++xs):=zeL _ _;have x1:(strOfNums (beN 2 (65535-m))).size=2:=by rw[zau,zcf]
 have x2:(strOfNums (HA++beN 2 (65535-m))).size=12:=by rw[zau,qbm,zcf,←zau,z5]
 have x3:(strOfNums (HA++beN 2 (65535-m)++HB)).size=20:=by rw[zau,qbm,←zau,←zau,x2,z6]
 have x4:(strOfNums (HA++beN 2 (65535-m)++HB++xs)).size=20+n:=by rw[zau,qbm,←zau,x3,hx]
 have x5:(strOfNums xs).size=n:=by rw[zau,hx]
 have x6:=zbW hPBB;have x7:(65535:Int)-m=((65535-m:Nat):Int):=qp;generalize HA++beN 2 (65535-m)++HB++xs=R4 at*;generalize HA++beN 2 (65535-m)++HB=R3 at*;generalize HA++beN 2 (65535-m)=R2 at*;generalize beN 2 (65535-m)=R1 at*;rw[←x7]at g4;refine G [2] ?_;refine za9 12 qq ?_;refine G [3] ?_;refine cV g4 ?_;refine jdK ?_;refine zaa (zb8 qp f1) rfl rfl ?_;refine jdn ?_;refine zaa (zb8 qp f2) rfl rfl ?_
 refine G [2] ?_;refine zab (zdF U34 U5 U9 (zbc) rfl rfl) rfl rfl trivial ?_;refine zaa (zb8 qp f3) rfl rfl ?_;refine zab (zfr 75 U9 U34 U5 qP x4 x6) rfl rfl ⟨rfl,trivial⟩ ?_;refine jdY ?_;refine yT (fun _=>75) ?_ ?_
 ·exact rfl
 ·exact jbn
end Go.Proofs.YtdiljgkijgiboaaGreatDoor
namespace Go.Proofs.YtdiljgkijgiboaaGreatDoor
open Tryz
open Go.RowKit Go.Sort
theorem krHas_s(p q:Key)(hp:p.length≤32)(hq:q.length=32):Fn prog 73 [.agg (keyA p),qe (zaB q)] (qf (decide (p<+:q))) []:=by
 have h:=nrHas_s (zaB p) p.length (zaB q) (zbJ p hp) (zba p hp).1 (zba p hp).2 (zba q qp).1 (zba q qp).2;rw[has_pre p q hp hq]at h;exact h
theorem refFind_s(l:List ND)(hok:∀x∈l,x.OK)(hz:l.length*40≤140737488351232)(a:Int)(a0:0≤a)(a1:a<4294967296):Fn prog 22 [.p (ndsV l),qe a] (findR l a) []:=by
 have hC:=rcheck_s l hok hz;unfold findR zfS
 by_cases h1:zcu l≠0
 ·rw[if_pos h1,if_neg h1];generalize zcu l=e at*;refine zb0 func22 rfl (qbk rfl) fun w0 A=>?_
  refine jfv ?_;refine jdx ?_;refine jfx ?_;refine zaU (fun n=>12+1000*n) (hC) rfl rfl func71 rfl rfl qA qA rfl rfl rfl qr rfl rfl rfl ?_;refine jfI ?_;refine jfZ ziw ?_;refine jfg ?_;refine zaI _ rfl (fun h=>?_) (fun h=>?_)
  ·exact jdh
  ·exact absurd qB h1
 rw[if_neg h1];replace h1:zcu l=0:=qbq.1 h1;have hC0:Fn prog 71 [.p (ndsV l)] (qd 0) []:=by rw[←h1];exact hC
 obtain⟨hv,hs,hl⟩:=(zd2 hok).1 h1;obtain⟨f1,f2,f3⟩:=trie_few hok h1;have hO:=owned_s l qp;rw[ziX hok f1]at hO;have hKs:=zhX hok f1;obtain⟨q32,qa⟩:=nrAddr a0 a1;obtain⟨R,hR⟩:∃R,R=zcF l a:=⟨_,rfl⟩;rw[←hR];unfold zcF at hR;generalize zeW a.toNat 32=q at*;subst qa;obtain⟨g1,g2⟩:=find_ref hv q;rw[←hR,←f2]at g1 g2;generalize prs l=K at*;clear hR;rw[List.length_map]at hO;generalize hB:nds (K.map one)=B at*
 have hKn:=one_len K;rw[hB]at hKn;refine zb0 func22 rfl (qbk rfl) fun w0 A=>?_
 refine jfv ?_;refine jdx ?_;refine jfx ?_;refine zaU (fun n=>12+1000*n) (hC0) rfl rfl func71 rfl rfl qA qA rfl rfl rfl qr rfl rfl rfl ?_;refine jfI ?_;refine jfZ zjj ?_;refine jfg ?_;refine zaI _ rfl (fun h=>?_) (fun h=>?_)
 ·cases h
 refine zal (zad (tx (jdx ?_)));refine jfx ?_;refine zbN (fun n=>17+1000*n) (hO) rfl rfl func72 rfl rfl qD rfl rfl rfl qr rfl rfl rfl ?_;refine jf0 (a_lenR U25) ?_;refine jdn ?_;refine zac (zaj (zag (fun m st=>∃i:Nat,m+i=K.length∧st=St.of [(1,qe (zaB q)),(7,qc (zda q (noOwn, -1) (K.take i)).1),(8,qd (zda q (noOwn, -1) (K.take i)).2),(17,.row 17),(18,qd K.length),(19,qd i)] [(17,.row 103 4 K.length B)]) K.length ?_ ?_))
 ·exact jb6
 rintro m st ⟨i,hi,rfl⟩;refine jfn ?_;refine zaI _ rfl (fun h=>?_) (fun h=>?_)
 ·have hlt:i<K.length:=qw;clear h;obtain⟨x,hx⟩:=qo hlt;have hld:=ziZ hx;rw[hB]at hld;have hxs:=hKs x (qbo hx);have hH:=krHas_s x.1 q hxs q32;have hnx:=foldR_take (q:=q) hx (noOwn, -1);have hbd:=foldR_bd (q:=q) (l:=K.take i) (fun y hy=>hKs y (qbI hy)) (noOwn, -1) qS qS;generalize zda q (noOwn, -1) (K.take i)=s at*;unfold keyA netA at hH;refine jel ?_;refine tx (zab (zao U25 zcZ qp qp qE) rfl rfl ⟨rfl,trivial⟩ ?_)
  refine zab (zb1 U103 rfl zcZ qp (hld)) rfl rfl ⟨rfl,trivial⟩ ?_;refine jf0 (zaT 10 zr103 rfl) ?_;refine zab (zaf (Y:=.agg _) zcZ rfl qI (qbn rfl)) rfl rfl ⟨rfl,trivial⟩ ?_;refine zac (jfv ?_);refine fA zgV rfl rfl ?_;refine lN U101 rfl zbw rfl rfl ⟨rfl,trivial⟩ ?_;refine jdn ?_;refine zaU (fun n=>26+1000*n) (hH) rfl rfl func73 rfl rfl qA qA rfl rfl rfl qr rfl rfl rfl ?_;refine jdn ?_;refine mb2 _ rfl rfl (fun hb=>(zaC zgV rfl)) (fun _=>trivial) ?_
  refine mb2 _ rfl rfl (fun hb=>(zaC fi101_1 rfl)) (fun _=>trivial) ?_;refine mb2 _ rfl rfl (fun hb=>(zcz U3 rfl qZ)) (fun _=>⟨rfl,trivial⟩) ?_;refine mb2 _ rfl rfl (fun hb=>(zah (r:=.p _))) (fun _=>trivial) ?_;refine mb2 _ rfl rfl (fun hb=>a_gtr) (fun _=>trivial) ?_;refine zaa (zki qae) rfl rfl ?_;refine jfg ?_;refine zaI _ rfl (fun h=>?_) (fun h=>?_)
  ·have hc:x.1<+:q∧s.2<(x.1.length:Int):=qB;rw[if_pos hc]at hnx
   skip
   refine za9 4 qq ?_;refine fA fi103_1 rfl rfl ?_;refine l1 U9 rfl rfl rfl ⟨rfl,trivial⟩ ?_;refine fA zgV rfl rfl ?_;refine fA fi101_1 rfl rfl ?_;refine l1 U3 rfl rfl rfl ⟨rfl,trivial⟩ ?_;refine jdx ?_;refine jdx ?_;refine zac ⟨qq,?_⟩;refine zaW (zat (jfz ?_));refine⟨m-1,qp,St.of [(1,qe (zaB q)),(7,qc x.2),(8,qd x.1.length),(17,.row 17),(18,qd K.length),(19,qd ((i+1:Nat):Int))] [(17,.row 103 4 K.length B)],zai id _ _ qv qv rfl,i+1,qp,by rw[hnx]⟩
  ·have hc:¬(x.1<+:q∧s.2<(x.1.length:Int)):=by
    intro hh;simp[hh.1,hh.2]at h
   rw[if_neg hc]at hnx;refine zal (zaW (zat (jfz ?_)));refine⟨m-1,qp,St.of [(1,qe (zaB q)),(7,qc s.1),(8,qd s.2),(17,.row 17),(18,qd K.length),(19,qd ((i+1:Nat):Int))] [(17,.row 103 4 K.length B)],zai id _ _ qv qv rfl,i+1,qp,by rw[hnx]⟩
 have hge:i=K.length:=qw;clear h;subst hge;rw[qbL,g1];refine zar (zad (zad (jfe ?_)));refine jen ?_;refine jfg ?_;refine zaI _ rfl (fun h=>?_) (fun h=>?_)
 ·have hn:R=noOwn:=g2.1 qB;rw[if_pos hn];refine jfv ?_;exact jaL
 ·have hn:R≠noOwn:=fun e=>absurd (g2.2 e) qB
  rw[if_neg hn];refine zal (zad (jfe ?_));refine jdx ?_;refine jfl ?_;refine zaq ?_;exact jca
theorem zj0:∀(t:TR) (n:Key) (a:Own),t.find n a=a∨∃k,(k,t.find n a)∈t.pairs
 | .nil,n,a=>.inl rfl
 | .nd p o l r,n,a=>by
  have hb:(if o≠noOwn then o else a)=a∨∃k,(k,(if o≠noOwn then o else a))∈ownP p o:=by
   by_cases ho:o=noOwn
   ·exact .inl (if_neg (by simp[ho]))
   ·exact .inr ⟨p,by rw[if_pos ho,zdx ho];simp⟩
  have key:∀(t:TR),(t.find n (if o≠noOwn then o else a)=(if o≠noOwn then o else a)∨∃k,(k,t.find n (if o≠noOwn then o else a))∈t.pairs)→t.find n (if o≠noOwn then o else a)=a∨∃k,(k,t.find n (if o≠noOwn then o else a))∈ownP p o∨(k,t.find n (if o≠noOwn then o else a))∈t.pairs:=by
   intro t h;rcases h with h|⟨k,h⟩
   ·rw[h];rcases hb with h|⟨k,h⟩
    ·exact .inl h
    ·exact .inr ⟨k,.inl h⟩
   ·exact .inr ⟨k,.inr h⟩
  rw[TR.find,TR.pairs]
  split
  ·split
   ·rcases hb with h|⟨k,h⟩
    ·exact .inl h
    ·exact .inr ⟨k,qco _ h⟩
   ·split
    ·rcases key r (zj0 r n _)with h|⟨k,h|h⟩
     ·exact .inl h
     ·exact .inr ⟨k,qco _ h⟩
     ·exact .inr ⟨k,qcv _ (qcv _ h)⟩
    ·rcases key l (zj0 l n _)with h|⟨k,h|h⟩
     ·exact .inl h
     ·exact .inr ⟨k,qco _ h⟩
     ·exact .inr ⟨k,qcv _ (qco _ h)⟩
  ·exact .inl rfl
theorem peN_lt{k:ByteArray}:∀{l:List PE} {p:PE},p∈l→p.key=k→peN k l<l.length
 | [],p,h,e=>by cases h
 |x::l,p,h,e=>by
  unfold peN
  by_cases e1:x.key=k
  ·rw[if_pos e1];simp
  ·rw[if_neg e1];rcases qbA.1 h with rfl|h
   ·exact absurd e e1
   ·have:=peN_lt h e;simp only[qbE];omega
theorem ziW{d:DM}(ok:d.OK)(h:dmE d=0){a:Int}(he:zfS d.tree a=0):peN (zcF d.tree a) d.c.ps<d.c.ps.length:=by
 obtain⟨h1,_,_,_,h5⟩:=zgX h;have hg:=zgY h1;have hT:=zgC hg (fun p hp=>(ok.c.ps p hp).1) d.c.ps.length (Nat.le_refl _);have hl:=h5.1.1
 have ht:zcq d.tree=tOf (zaH d.c.ps d.c.ps.length):=by
  rw[←hl];exact(zgz (by rw[hl];exact ok.tree) hT.v hT.s).2
 have hne:zcF d.tree a≠noOwn:=by
  unfold zfS at he
  by_cases h2:zcu d.tree≠0
  ·rw[if_pos h2]at he;exact absurd he h2
  ·rw[if_neg h2]at he
   by_cases h3:zcF d.tree a=noOwn
   ·rw[if_pos h3]at he;omega
   ·exact h3
 unfold zcF at hne⊢;rw[ht]at hne⊢;rcases zj0 (tOf (zaH d.c.ps d.c.ps.length)) (zeW a.toNat 32) noOwn with h2|⟨k,h2⟩
 ·exact absurd h2 hne
 ·have h3:=hT.p.mem_iff.2 h2;generalize (tOf (zaH d.c.ps d.c.ps.length)).find (zeW a.toNat 32) noOwn=o at*;unfold zaH at h3;rw[qbL]at h3;obtain⟨p,hp,h4⟩:=qcA.1 h3;obtain⟨n,hn,h5⟩:=qbv.1 h4;simp only[Prod.mk.injEq]at h5;exact peN_lt hp h5.2
theorem seal_good{k:KY}{now:Int}(h:zbv k now=true){n:Nat}(hn:n≤220):kzE k now n=0:=by
 obtain⟨h1,h2,_,_,h3,h4,_,_⟩:=zcw h;have hk:=(kE_live h1 h2).1;unfold kzE zc1 strE;rw[if_neg (by simp[h1]),if_neg (by simp[h]),if_neg (by omega),if_pos hk,if_neg (by omega)]
theorem sealD_len(s:ByteArray)(c:Int)(b:List Int):(zdg s c b).length=b.length+16:=by
 unfold zdg;rw[qbm,sealO_len,List.length_take,sealT_len];rfl
theorem sealD_B(s:ByteArray)(c:Int)(b:List Int):isB (zdg s c b):=za4 (mixD_B _ _) fun x hx=>zg7 _ _ x (qbI hx)
def snM(k:KY)(b:List Int):MS:=⟨4,0,k.theirs,k.counter,b.length+16,zdg k.send k.counter b⟩
theorem kSealD_s{k:KY}(ok:k.OK){now:Int}(h:zbv k now=true)(n0: -9223372036854775808≤now)(n1:now≤9223372036854775807){b:List Int}(hB:isB b)(hn:b.length≤220):
 Fn prog 61 [.agg k.cells,qd now,ql b.length 1 (bs b)] (.tup [.agg (ksK k).cells,ql (b.length+16) 1 (bs (zdg k.send k.counter b)),qd 0]) []:=by
 have h1:=kSeal_s k ok now n0 n1 b.length b rfl hB;exact jcH
theorem refKSealD_s{k:KY}(ok:k.OK){now:Int}(h:zbv k now=true)(n0: -9223372036854775808≤now)(n1:now≤9223372036854775807){b:List Int}(hB:isB b)(hn:b.length≤220):
 Fn prog 78 [.agg k.cells,qd now,ql b.length 1 (bs b)] (.tup [.agg (ksK k).cells,ql (b.length+16) 1 (bs (zdg k.send k.counter b)),qd 0]) []:=by
 have h1:=refKSeal_s k ok now n0 n1 b.length b rfl hB;exact jcH
theorem snM_wire(k:KY)(b:List Int)(hn:b.length≤220):∃zs:List Int,isB zs∧
 Fn prog 106 [.agg (snM k b).cells] (.tup [ql zs.length 1 (bs zs),qd (wE (snM k b))]) []∧Fn prog 121 [.agg (snM k b).cells] (.tup [.row 0,qd (wE (snM k b))]) [(0,.row 5 1 zs.length (bs zs))]:=
 wenc_both (snM k b) (sealD_len _ _ _) (sealD_B _ _ _) (by show b.length+16≤_;omega)
end Go.Proofs.YtdiljgkijgiboaaGreatDoor
