/- Used. -/
import Derived.Test.YtdiljgkijgiboaaGreatDoorSPn1
import Derived.Test.YtdiljgkijgiboaaGreatDoorSBj
set_option linter.all false
set_option maxRecDepth 100000
set_option maxHeartbeats 16000000
namespace Go.Proofs.YtdiljgkijgiboaaGreatDoor
open Tryz
open Go.RowKit Go.Sort
theorem sAt_cat{a b:ByteArray}{i:Nat}(hi:i<(a++b).size):sAt (a++b) i=if i<a.size then sAt a i else sAt b (i-a.size):=by
 unfold sAt;rw[zd4,List.getD_eq_getElem?_getD,List.getD_eq_getElem?_getD,List.getD_eq_getElem?_getD,List.getElem?_append,zdt]
 split<;>rfl
theorem hv_cat{a b:ByteArray}{i:Nat}(hi:i<(a++b).size):hv (a++b) i=if i<a.size then hv a i else hv b (i-a.size):=by
 unfold hv;rw[sAt_cat hi];split<;>rfl
theorem hexVals_cat{a b:ByteArray}(ha:a.size=64)(hb:b.size=64):zax (a++b) 64=zax a 32++zax b 32:=by
 have hs:(a++b).size=128:=by rw[zbM,ha,hb]
 unfold zax;rw[show(64:Nat)=32+32 from rfl,List.range_add,qbY,qcD]
 congr 1
 ·refine qcI fun i hi=>?_
  have:i<32:=qai;rw[hv_cat (by omega),hv_cat (by omega),if_pos (by omega),if_pos (by omega)]
 ·refine qcI fun i hi=>?_
  have:i<32:=qai;simp only[Function.comp];rw[hv_cat (by omega),hv_cat (by omega),if_neg (by omega),if_neg (by omega),show 2*(32+i)-a.size=2*i by omega,show 2*(32+i)+1-a.size=2*i+1 by omega]
theorem hexGood_cat{a b:ByteArray}(ha:zcK a=true)(hb:zcK b=true):zcK (a++b)=true:=by
 rw[zcc]at ha hb⊢;intro i hi;rw[hv_cat hi]
 split
 ·exact ha i qah
 ·exact hb _ (by rw[zbM]at hi;omega)
def lowK(a b:ByteArray):ByteArray:=if sLt a b=true then a else b
def zjV(a b:ByteArray):ByteArray:=if sLt a b=true then b else a
def secW(a b:ByteArray):List Int:=shaD (zax (lowK a b) 32++zax (zjV a b) 32)
def secL(sh:ByteArray):ByteArray:=(⟨#[112,97,105,114]⟩:ByteArray)++sh
def secE(a b sh:ByteArray):Int:=
 if keyE a≠0 then keyE a else if keyE b≠0 then keyE b else if a=b then 6 else if sh≠⟨#[]⟩∧keyE sh≠0 then keyE sh else derE (hexS (secW a b)) (secL sh)
def secS(a b sh:ByteArray):ByteArray:=derS (hexS (secW a b)) (secL sh)
theorem secW_len(a b:ByteArray):(secW a b).length=32:=zf7 _
theorem lowK_or(a b:ByteArray):(lowK a b=a∧zjV a b=b)∨(lowK a b=b∧zjV a b=a):=by
 unfold lowK zjV;split
 ·exact .inl ⟨rfl,rfl⟩
 ·exact .inr ⟨rfl,rfl⟩
theorem secret_s(a b sh:ByteArray)(hsh:sh.size≤140737488351232):Fn prog 148 [qc a,qc b,qc sh] (sRes (secE a b sh) (secS a b sh)) []:=by
 refine fnI fun w0 A=>?_
 refine G [10] ?_;refine zaa (xs:=[qc a,qc b]) (zdn (es:=[qc a,qc b]) underlying162 zr162 rfl sz9 qq) qF rfl ?_;refine G [3] ?_;refine zag (fun m st=>∃k:Nat,m+k=2∧(1≤k→keyE a=0)∧(2≤k→keyE b=0)∧st=St.of [(0,qc a),(1,qc b),(2,qc sh),(20,.agg [qc a,qc b]),(21,qd k)] []) 2 ?_ ?_
 ·refine⟨_,zai id _ _ ?_ ?_ rfl,0,qp,qp,qp,rfl⟩
  ·exact jap
  ·exact trivial
 rintro m st ⟨k,hk,hk1,hk2,rfl⟩;refine G [5] ?_;refine cX ?_ ?_<;>intro h
 ·have hlt:k<2:=qw;clear h
  obtain⟨x,hx,hxa,hxb⟩:∃x:ByteArray,[AV.p (qg a),AV.p (qg b)][k]?=some (qc x)∧(k=0→x=a)∧(k=1→x=b):=by
   match k,hlt with
   |0,_=>exact⟨a,rfl,fun _=>rfl,qp⟩
   |1,_=>exact⟨b,rfl,qp,fun _=>rfl⟩
  refine G [5] ?_;refine jeA ?_;refine G [5] ?_;refine cV (zbs x) ?_;refine jds ?_;refine cX ?_ ?_<;>intro h
  ·have hne:keyE x≠0:=qB
   have hE:secE a b sh=keyE x:=by
    unfold secE
    match k,hlt with
    |0,_=>rw[hxa rfl]at hne⊢;rw[if_pos hne]
    |1,_=>rw[hxb rfl]at hne⊢;rw[if_neg (by simp[hk1 (by omega)]),if_pos hne]
   rw[zbX hE hne];exact jaW
  ·have he:keyE x=0:=qB;refine jdC ?_;refine⟨m-1,qp,_,zai id _ _ ?_ ?_ rfl,k+1,qp,?_,?_,rfl⟩
   ·exact jap
   ·exact trivial
   ·intro _
    by_cases h0:k=0
    ·rw[←hxa h0];exact he
    ·exact hk1 qp
   ·intro _;rw[←hxb (by omega)];exact he
 have hge:k=2:=qw;clear h;subst hge;have ha:=hk1 qp;have hb:=hk2 qp
 have hE:secE a b sh=if a=b then 6 else if sh≠⟨#[]⟩∧keyE sh≠0 then keyE sh else derE (hexS (secW a b)) (secL sh):=by
  unfold secE;rw[if_neg (by simp[ha]),if_neg (by simp[hb])]
 refine jdV ?_;refine cX ?_ ?_<;>intro h
 ·have hab:a=b:=qB;rw[if_pos hab]at hE;rw[zbX hE (by omega)];exact jaB
 have hab:a≠b:=qB;rw[if_neg hab]at hE;clear h;refine jds ?_
 by_cases hbad:sh≠⟨#[]⟩∧keyE sh≠0
 ·rw[if_pos hbad]at hE;rw[zbX hE hbad.2];refine cX ?_ ?_<;>intro h
  ·refine G [3] ?_;refine cV (zbs sh) ?_;refine jds ?_;refine cX ?_ ?_<;>intro h
   ·exact jaW
   ·exact absurd qB hbad.2
  ·exact absurd qB hbad.1
 rw[if_neg hbad]at hE;refine zb3 (St.of [(0,qc a),(1,qc b),(2,qc sh)] []) ?_ ?_
 ·refine cX ?_ ?_<;>intro h
  ·have hne:sh≠⟨#[]⟩:=qB
   have hks:keyE sh=0:=by
    by_cases hk:keyE sh=0
    ·exact hk
    ·exact absurd ⟨hne,hk⟩ hbad
   refine G [3] ?_;refine cV (zbs sh) ?_;refine jds ?_;refine cX ?_ ?_<;>intro h
   ·exact absurd hks qB
   ·exact jci
  ·exact jci
 rw[hE];have hlo:=lowK_or a b;obtain⟨az,aE⟩:=zct ha;obtain⟨bz,bE⟩:=zct hb;obtain⟨lo,hlo2⟩:∃lo,lo=lowK a b:=⟨_,rfl⟩;obtain⟨hi,hhi2⟩:∃hi,hi=zjV a b:=⟨_,rfl⟩;have hmin:(if(sLt a b||decide (a=b))=true then a else b)=lo:=by rw[hlo2];unfold lowK;simp[hab]
 have hmax:(if(!sLt a b)=true then a else b)=hi:=by rw[hhi2];unfold zjV;cases sLt a b<;>rfl
 have hlz:lo.size=64∧hexE lo=0∧hi.size=64∧hexE hi=0:=by
  exact jcV
 obtain⟨lz,lE,hz,hhE⟩:=hlz;have hW:secW a b=shaD (zax lo 32++zax hi 32):=by rw[hlo2,hhi2];rfl
 have hWl:=secW_len a b;have hWB:isB (secW a b):=ziL _;have hH1:=zcD lo;obtain⟨e1,e2⟩:=zbg lE;rw[e1,e2,lz,←hmin]at hH1;have hH2:=zcD hi;obtain⟨e1,e2⟩:=zbg hhE;rw[e1,e2,hz,←hmax]at hH2;clear e1 e2;have hB1:=zeb (k:=32) (zdB lE) qp;have hB2:=zeb (k:=32) (zdB hhE) qp;have hl1:=zaX lo 32;have hl2:=zaX hi 32;have hS:=sum_s 64 (zax lo 32++zax hi 32) (by rw[qbm,hl1,hl2]) (za4 hB1 hB2);obtain⟨e1,e2⟩:=zaM (show padE 64=0 from rfl) 32 (shaD (zax lo 32++zax hi 32))
 rw[e1,e2,←za5,←hW]at hS;clear e1 e2;rw[hmin]at hH1;rw[hmax]at hH2;change Fn prog 128 _ _ [(0,.row 5 1 32 (bs (zax lo 32)))]at hH1;change Fn prog 128 _ _ [(0,.row 5 1 32 (bs (zax hi 32)))]at hH2;unfold secS;have hL:(secL sh).size=4+sh.size:=by unfold secL;rw[zbM];rfl
 have hX:=zjU 32 (secW a b) hWl hWB qp
 have hshz:sh.size≤64:=by
  exact jcA
 have hDr:=derive_s (hexS (secW a b)) (secL sh) (by rw[hL];omega);unfold sRes at hDr⊢;generalize (if derE (hexS (secW a b)) (secL sh)=0 then derS (hexS (secW a b)) (secL sh)else⟨#[]⟩)=RS at*;generalize derE (hexS (secW a b)) (secL sh)=RE at*;generalize hexS (secW a b)=HW at*;generalize secW a b=W at*;clear hE hbad;generalize zax lo 32=K1 at*;generalize zax hi 32=K2 at*;refine G [4] ?_;refine jfZ a_smin ?_
 (rw[hmin])
 refine cV hH1 ?_;refine G [10] ?_;refine jfZ a_smax ?_
 (rw[hmax])
 refine cV hH2 ?_;refine G [10] ?_;refine zab (zam 57 U34 eo5 (zas) qy qp rfl rfl) rfl rfl ⟨rfl,rfl,rfl,trivial⟩ ?_;refine cV hS ?_;refine G [10,1,1,9,0] ?_;refine cX ?_ ?_<;>intro h
 ·cases h
 refine G [4] ?_;refine cV hX ?_;refine jdn ?_;refine zaa (zb8 qax (show _=secL sh from rfl)) rfl rfl ?_;refine cK hDr ?_;refine jdw ?_;exact yE
theorem refSecret_s(a b sh:ByteArray)(hsh:sh.size≤140737488351232):Fn prog 124 [qc a,qc b,qc sh] (sRes (secE a b sh) (secS a b sh)) []:=by
 refine zb0 func124 rfl (qbk rfl) fun w0 A=>?_
 refine jfv ?_;refine jdx ?_;refine jfx ?_;refine zaU (fun n=>16+1000*n) (zbh a) rfl rfl F110 rfl rfl qA qA rfl rfl rfl qr rfl rfl rfl ?_;refine jfI ?_;refine jfZ ziw ?_;refine jfg ?_;refine zaI _ rfl (fun h=>?_) (fun h=>?_)
 ·have hne:keyE a≠0:=qB;rw[zbX (show secE a b sh=keyE a by unfold secE;rw[if_pos hne]) hne];exact jdh
 have ha:keyE a=0:=qB;clear h;refine zal (zad (zad (jfe ?_)));refine zaU (fun n=>21+1000*n) (zbh b) rfl rfl F110 rfl rfl qA qA rfl rfl rfl qr rfl rfl rfl ?_;refine jfI ?_;refine jfZ ziw ?_;refine jfg ?_;refine zaI _ rfl (fun h=>?_) (fun h=>?_)
 ·have hne:keyE b≠0:=qB;rw[zbX (show secE a b sh=keyE b by unfold secE;rw[if_neg (by simp[ha]),if_pos hne]) hne];exact jdh
 have hb:keyE b=0:=qB;clear h
 have hE:secE a b sh=if a=b then 6 else if sh≠⟨#[]⟩∧keyE sh≠0 then keyE sh else derE (hexS (secW a b)) (secL sh):=by
  unfold secE;rw[if_neg (by simp[ha]),if_neg (by simp[hb])]
 refine zal (zad (zad (jfe ?_)));refine jdn ?_;refine jfZ zji ?_;refine jfg ?_;refine zaI _ rfl (fun h=>?_) (fun h=>?_)
 ·have hab:a=b:=qB;rw[if_pos hab]at hE;rw[zbX hE (by omega)];refine jfv ?_;exact jaL
 have hab:a≠b:=qB;rw[if_neg hab]at hE;clear h;refine zal (zad (zad (jfe ?_)));refine jfZ a_sneq ?_;refine jdn ?_;refine mb2 _ rfl rfl (fun hb=>(zah (r:=.p _))) (fun _=>trivial) ?_;refine mb2 _ rfl rfl (fun _=>zbl F110 rfl rfl (zbh sh) qD rfl) (fun _=>trivial) ?_;refine mb2 _ rfl rfl (fun hb=>ziw) (fun _=>trivial) ?_;refine zaa (zki qae) rfl rfl ?_;refine jfg ?_;refine zaI _ rfl (fun h=>?_) (fun h=>?_)
 ·have hbad:sh≠⟨#[]⟩∧keyE sh≠0:=qB;rw[if_pos hbad]at hE;rw[zbX hE hbad.2];refine zad (jfe ?_);refine zaU (fun n=>36+1000*n) (zbh sh) rfl rfl F110 rfl rfl qA qA rfl rfl rfl qr rfl rfl rfl ?_;exact jaL
 have hbad:¬(sh≠⟨#[]⟩∧keyE sh≠0):=by
  intro ⟨h1,h2⟩;simp[h1,h2]at h
 clear h;rw[if_neg hbad]at hE;rw[hE];have hlo:=lowK_or a b;obtain⟨az,aE⟩:=zct ha;obtain⟨bz,bE⟩:=zct hb;obtain⟨lo,hlo2⟩:∃lo,lo=lowK a b:=⟨_,rfl⟩;obtain⟨hi,hhi2⟩:∃hi,hi=zjV a b:=⟨_,rfl⟩
 have hlz:lo.size=64∧hexE lo=0∧hi.size=64∧hexE hi=0:=by
  exact jcV
 obtain⟨lz,lE,hz,hhE⟩:=hlz;refine zal (zad (jfe ?_));refine jdn ?_;refine zaa (zb8 qp rfl) rfl rfl ?_;refine jfx ?_;refine jdn ?_;refine jfZ a_slss ?_;refine jfg ?_;refine awp_join (St.of [(2,qc sh),(10,qc (lo++hi))] []) ?_ ?_
 ·have hnot:=sLt_not hab;refine zaI _ rfl (fun h=>?_) (fun h=>?_)
  ·rw[h]at hnot;have e1:lo=b:=by rw[hlo2];unfold lowK;rw[if_neg (by simpa using hnot.symm)]
   have e2:hi=a:=by rw[hhi2];unfold zjV;rw[if_neg (by simpa using hnot.symm)]
   rw[e1,e2]
   skip
   refine jfe ?_;refine jdn ?_;refine zaa (zb8 qp rfl) rfl rfl ?_;refine jfl ?_;exact jcz
  ·rw[h]at hnot;have e1:lo=a:=by rw[hlo2];unfold lowK;rw[if_pos (by simpa using hnot.symm)]
   have e2:hi=b:=by rw[hhi2];unfold zjV;rw[if_pos (by simpa using hnot.symm)]
   rw[e1,e2];refine zal ?_;exact jcz
 have hW:secW a b=shaD (zax (lo++hi) 64):=by rw[hexVals_cat lz hz,hlo2,hhi2];rfl
 have hWl:=secW_len a b;have hWB:isB (secW a b):=ziL _;have hcz:(lo++hi).size=128:=by rw[zbM,lz,hz]
 have hcg:zcK (lo++hi)=true:=hexGood_cat (zdB lE) (zdB hhE);have hcE:hexE (lo++hi)=0:=by unfold hexE;rw[hcz,if_neg (by omega),if_pos (by omega),if_pos hcg]
 have hH:=zcR (lo++hi);obtain⟨e1,e2⟩:=zbg hcE;rw[e1,e2,hcz]at hH;have hB:=zeb (k:=64) hcg qp;have hl:=zaX (lo++hi) 64;have hS:=zhq 64 (zax (lo++hi) 64) hl hB;obtain⟨e1,e2⟩:=zaM (show padE 64=0 from rfl) 32 (shaD (zax (lo++hi) 64));rw[e1,e2,←hW]at hS;clear e1 e2;change Fn prog 122 _ _ [(0,.row 5 1 64 (bs (zax (lo++hi) 64)))]at hH;unfold secS;have hL:(secL sh).size=4+sh.size:=by unfold secL;rw[zbM];rfl
 have hX:=zfH 32 (secW a b) hWl hWB qp
 have hshz:sh.size≤64:=by
  exact jcA
 have hDr:=refDerive_s (hexS (secW a b)) (secL sh) (by rw[hL];omega);unfold sRes at hDr⊢;generalize (if derE (hexS (secW a b)) (secL sh)=0 then derS (hexS (secW a b)) (secL sh)else⟨#[]⟩)=RS at*;generalize derE (hexS (secW a b)) (secL sh)=RE at*;generalize hexS (secW a b)=HW at*;generalize secW a b=W at*;clear hE hbad;generalize zax (lo++hi) 64=K1 at*;refine zad (jfe ?_);refine zaU (fun n=>48+1000*n) (hH) rfl rfl func122 rfl rfl qA qA rfl rfl rfl qr rfl rfl rfl ?_
 refine jfU ?_;refine zaU (fun n=>53+1000*n) (hS) rfl rfl func123 rfl rfl qA qA rfl rfl rfl qr rfl rfl rfl ?_;refine jfU ?_;refine zaU (fun n=>57+1000*n) (hX) rfl rfl func81 rfl rfl qA qA rfl rfl rfl qr rfl rfl rfl ?_;refine jdn ?_;refine zaa (zb8 qax (show _=secL sh from rfl)) rfl rfl ?_;refine zbN (fun n=>60+1000*n) (hDr) rfl rfl func165 rfl rfl qD rfl rfl rfl qr rfl rfl rfl ?_;refine jfZ (zdE rfl) ?_
 refine jfZ (zdE rfl) ?_;refine jdx ?_;refine jfl ?_;refine zaq ?_;exact jca
theorem hx_dg:∀d:_root_.Fin 16,hx (dg d.val)=d.val:=qaS
theorem hx_dg'{d:Int}(h0:0≤d)(h1:d<16):hx (dg d)=d:=by
 have:=hx_dg ⟨d.toNat,qp⟩;simp only at this;rw[show((d.toNat:Nat):Int)=d by omega]at this;exact this
theorem sAt_hexS{xs:List Int}(hB:isB xs){i:Nat}{x:Int}(h:xs[i/2]?=some x):sAt (hexS xs) i=if i%2=1 then dg (x%16)else dg (x/16):=by
 unfold sAt hexS;rw[zbW (hexT_B hB),List.getD_eq_getElem?_getD,hexT_at h];rfl
theorem hv_hexS{xs:List Int}(hB:isB xs){i:Nat}{x:Int}(h:xs[i/2]?=some x):hv (hexS xs) i=if i%2=1 then x%16 else x/16:=by
 unfold hv;rw[sAt_hexS hB h];have hx:=hB x (qbo h)
 split
 ·exact hx_dg' qp qp
 ·exact hx_dg' qp qp
theorem hexS_good{xs:List Int}(hB:isB xs):zcK (hexS xs)=true:=by
 rw[zcc];intro i hi;rw[zgl]at hi;have h:xs[i/2]?=some (xs[i/2]'qp):=List.getElem?_eq_getElem _;rw[hv_hexS hB h];have hx:=hB _ (qbo h)
 split<;>omega
theorem hexE_hexS{xs:List Int}(hB:isB xs)(hl:xs.length≤1000):hexE (hexS xs)=0:=by
 unfold hexE;rw[zgl,if_neg (by omega),if_pos (by omega),if_pos (hexS_good hB)]
theorem keyE_hexS{xs:List Int}(hB:isB xs)(hl:xs.length=32):keyE (hexS xs)=0:=by
 unfold keyE;rw[zgl,hl,if_pos rfl];exact hexE_hexS hB qp
theorem keyE_secS(a b sh:ByteArray):keyE (secS a b sh)=0:=keyE_hexS (zg7 _ _) (zcj _ _)
def beI(n:Int):List Int:=[n/16777216%256,n/65536%256,n/256%256,n%256]
theorem beI_B(n:Int):isB (beI n):=by
 intro x hx;simp only[beI,qbA,qcB,or_false]at hx;omega
theorem shNum_s(n:Int):Fn prog 152 [qd n] (ql 4 1 (bs (beI n))) []:=by
 have w1:IntKind.u8.wrap (n.fdiv (2^min (24:Int).toNat IntKind.i64.bits))=n/16777216%256:=by
  rw[show(2:Int)^min (24:Int).toNat IntKind.i64.bits=16777216 from rfl,qbG _ (by omega)];rfl
 have w2:IntKind.u8.wrap (n.fdiv (2^min (16:Int).toNat IntKind.i64.bits))=n/65536%256:=by
  rw[show(2:Int)^min (16:Int).toNat IntKind.i64.bits=65536 from rfl,qbG _ (by omega)];rfl
 have w3:IntKind.u8.wrap (n.fdiv (2^min (8:Int).toNat IntKind.i64.bits))=n/256%256:=by
  rw[show(2:Int)^min (8:Int).toNat IntKind.i64.bits=256 from rfl,qbG _ (by omega)];rfl
 have w4:IntKind.u8.wrap n=n%256:=rfl;refine fnI fun w0 A=>?_
 refine G [7] ?_;refine jdJ ?_;refine jfZ (zbn U3 U5 w1) ?_;refine jdn ?_;refine jdJ ?_;refine jfZ (zbn U3 U5 w2) ?_;refine jdn ?_;refine jdJ ?_;refine jfZ (zbn U3 U5 w3) ?_;refine jdn ?_;refine jfZ (zbn U3 U5 w4) ?_;refine zab (xs:=[.p (.v (.int .u8 (n/16777216%256))),.p (.v (.int .u8 (n/65536%256))),.p (.v (.int .u8 (n/256%256))),.p (.v (.int .u8 (n%256)))]) (zae (es:=[.p (.v (.int .u8 (n/16777216%256))),.p (.v (.int .u8 (n/65536%256))),.p (.v (.int .u8 (n/256%256))),.p (.v (.int .u8 (n%256)))]) (cs:=[.v (.int .u8 (n/16777216%256)),.v (.int .u8 (n/65536%256)),.v (.int .u8 (n/256%256)),.v (.int .u8 (n%256))]) 14 U34 sz5 zc5 (qbk rfl) (qbk rfl) rfl qq qq qq (qbk rfl)) qF rfl ⟨rfl,trivial⟩ ?_
 refine jdR ?_;refine za1 (zbY (cs:=bs (beI n)) 14 rfl) ?_;refine zaq ?_;exact yE
theorem join3{a b c:List Int}: [a,b,c].flatten=a++b++c:=qG
theorem stag_s(k u:ByteArray)(a b c:List Int)(hk:keyE k=0)(ha:isB a)(hb:isB b)(hc:isB c)(hz:u.size+(a.length+b.length+c.length)≤900):
 Fn prog 151 [qc k,qc u,ql 3 1 [.sl a.length 1 (bs a),.sl b.length 1 (bs b),.sl c.length 1 (bs c)]] (.tup [ql 16 1 (bs ((macD k (sb u++(a++b++c))).take 16)),qd 0]) []:=by
 have hJ:=bjoin_s [a,b,c] (by intro x hx;simp only[qbA,qcB,or_false]at hx;rcases hx with rfl|rfl|rfl<;>assumption) qG qG (by rw[join3];simp only[qbm];omega);rw[join3]at hJ;have hB:isB (sb u++(a++b++c)):=za4 (sb_isB u) (za4 (za4 ha hb) hc);have hlen:(sb u++(a++b++c)).length=u.size+(a++b++c).length:=by rw[qbm,zdt]
 have hT:=tag_s k (u.size+(a++b++c).length) (sb u++(a++b++c)) hlen hB;have hal:(a++b++c).length=a.length+b.length+c.length:=by simp only[qbm]
 obtain⟨e1,e2⟩:=zaM (show macE k (u.size+(a++b++c).length)=0 by unfold macE;rw[if_pos hk,if_neg (by omega)]) 32 (macD k (sb u++(a++b++c)));rw[e1,e2]at hT;clear e1 e2;have hD:=zcj k (sb u++(a++b++c));have happ:bs (sb u)++bs (a++b++c)=bs (sb u++(a++b++c)):=za5;have hJ':Fn prog 153 [ql 3 1 [.sl a.length 1 (bs a),.sl b.length 1 (bs b),.sl c.length 1 (bs c)],qm] (ql (a++b++c).length 1 (bs (a++b++c))) []:=hJ
 have hbl:(bs (macD k (sb u++(a++b++c)))).length=32:=qba;have ht16:bs ((macD k (sb u++(a++b++c))).take 16)=((bs (macD k (sb u++(a++b++c)))).drop 0).take (16*1):=by simp[bs,qc9]
 rw[ht16];generalize macD k (sb u++(a++b++c))=D at*;clear hJ hB hlen ht16;generalize a++b++c=J at*;refine fnI fun w0 A=>?_
 refine G [9] ?_;refine zab (zfr 13 U9 U34 U5 qP rfl rfl) rfl rfl ⟨rfl,trivial⟩ ?_;refine jdn ?_;refine cK hJ' ?_;refine zab (zam 16 U34 eo5 (zbc) qy qp rfl happ) rfl rfl ⟨rfl,rfl,trivial⟩ ?_;refine cV hT ?_;refine G [10,1,1,9,0] ?_;refine cX ?_ ?_<;>intro h
 ·cases h
 refine za1 (zbY (cs:=bs D) 17 rfl) ?_;refine G [4] ?_
 (first|refine zab (zcY (L:=none) (H:=(some (_,_))) U34 sz5 rfl ⟨qp,rfl⟩ qp qp rfl rfl) rfl rfl ⟨rfl,trivial⟩ ?_|refine zaa (zhB (L:=none) (H:=(some (_,_))) U34 sz5 rfl ⟨qp,rfl⟩ qp qp rfl rfl) rfl rfl ?_)
 refine jdY ?_;exact yE
def noE(s:ByteArray):Int:=if s.size=16 then hexE s else 1
theorem shNonce_s(s:ByteArray):Fn prog 149 [qc s] (pRes (noE s) 8 (zax s 8)) []:=by
 have hB:=zcD s
 by_cases hz:s.size=16
 ·have hE:noE s=hexE s:=by unfold noE;rw[if_pos hz]
  rw[hE]
  by_cases he:hexE s=0
  ·obtain⟨e1,e2⟩:=zbg he;rw[e1,e2,hz]at hB;rw[zgd he];change Fn prog 128 _ _ [(0,.row 5 1 8 (bs (zax s 8)))]at hB;generalize zax s 8=D at*;exact jcI
  ·obtain⟨e1,e2⟩:=zbI rfl he;rw[e1,e2]at hB;rw[zhs rfl he];generalize hexE s=e at*;exact jcI
 ·have hE:noE s=1:=by unfold noE;rw[if_neg hz]
  rw[zhs hE (by decide)];refine fnI fun w0 A=>?_
  refine jd2 ?_;refine cX ?_ ?_<;>intro h
  ·exact jaB
  ·exact absurd qw hz
theorem i64_and_255Z(n:Int):bits .and .i64 n 255=n%256:=by
 have h2:(BitVec.ofInt 64 (255:Int)).toNat=2^8-1:=qS;show IntKind.i64.wrap ((BitVec.ofInt 64 n &&& BitVec.ofInt 64 255).toNat:Int)=_;rw[qcN,h2,qcu,BitVec.toNat_ofInt,IntKind.wrap_i64];have e:((2^64:Nat):Int)=18446744073709551616:=rfl;rw[e];omega
def qz(n:Int):Nat→Int
 |0=>n
 |k+1=>qz n k/256
def bzK(n:Int)(k:Nat):List Int:=List.replicate (4-k) 0++(beI n).drop (4-k)
theorem bzK_len(n:Int){k:Nat}(hk:k≤4):(bzK n k).length=4:=by
 rw[bzK,qbm,qck,qbH];show 4-k+(4-(4-k))=4;omega
theorem bzK_set(n:Int){k:Nat}(hk:k<4):(bzK n k).set (3-k) (qz n k%256)=bzK n (k+1):=by
 match k,hk with
 |0,_=>simp[bzK,beI,qz]
 |1,_=>simp[bzK,beI,qz]
 |2,_=>simp[bzK,beI,qz,Int.ediv_ediv_of_nonneg]
 |3,_=>simp[bzK,beI,qz,Int.ediv_ediv_of_nonneg]
theorem bigZ_s(n:Int)(n0: -9223372036854775808≤n)(n1:n≤9223372036854775807):Fn prog 70 [.p (.v (.int .i64 n)),.p (.v (.int .i64 4))] (.row 0) [(0,.row 5 1 4 (bs (beI n)))]:=by
 refine fnI fun w0 A=>?_
 refine jfV ?_;refine zag (fun m st=>∃k:Nat,m+k=4∧st=St.of [(0,.p (.v (.int .i64 (qz n k)))),(5,.row 5),(6,.p (.v (.int .i64 (3-(k:Int)))))] [(5,.row 5 1 4 (bs (bzK n k)))]) 4 ?_ ?_
 ·refine⟨_,zai (fun _=>8) _ _ ?_ ?_ rfl,0,qp,rfl⟩
  ·exact qv
  ·exact jbn
 rintro m st ⟨k,hk,rfl⟩;refine jdw ?_;refine cX ?_ ?_<;>intro h
 ·have hlt:k<4:=qw;clear h;have hset:=bzK_set n hlt;have hlen:=bzK_len n (Nat.le_of_lt hlt);have hnx:qz n (k+1)=qz n k/256:=rfl;generalize qz n k=q at hset hnx⊢;have g4:setR (bs (bzK n k)) (3-k) [.v (.int .u8 (q%256))]=bs (bzK n (k+1)):=qa8;have g5:(bs (bzK n k)).length=4:=qa7
  have g6:q.fdiv (2^min (8:Int).toNat IntKind.i64.bits)=q/256:=by
   rw[show(2:Int)^min (8:Int).toNat IntKind.i64.bits=256 from rfl,qbG _ (by omega)]
  refine G [8] ?_;refine zaa (zaV qG (i64_and_255Z q)) rfl rfl ?_;refine zaa (zbn U3 U5 qaa) rfl rfl ?_;refine zab (zao U34 sz5 qp qp (show _=3-k by omega)) rfl rfl ⟨rfl,trivial⟩ ?_;refine jfW ?_;refine⟨m-1,qp,_,zai id _ _ ?_ ?_ rfl,k+1,qp,rfl⟩
  ·refine⟨⟨?_,rfl⟩,⟨rfl,rfl⟩,⟨?_,rfl⟩,trivial⟩
   ·show AV.p (.v (.int .i64 (q/256)))=AV.p (.v (.int .i64 (qz n (k+1))));rw[hnx]
   ·show AV.p (.v (.int .i64 (3-(k:Int)-1)))=AV.p (.v (.int .i64 (3-((k+1:Nat):Int))))
    congr 3;omega
  ·exact jbn
 have hge:k=4:=qw;clear h;subst hge;rw[show bzK n 4=beI n by simp[bzK]];exact jbK
end Go.Proofs.YtdiljgkijgiboaaGreatDoor
namespace Go.Proofs.YtdiljgkijgiboaaGreatDoor
open Go.RowKit
def Slot.isLive:Slot→Bool
 | .live _=>true
 |_=>false
def ziE(rds:List (Nat×Slot)):List (Nat×Slot):=rds.map fun p=>(p.1,Slot.dead)
theorem zdp{h:Nat→Slot}:∀{l:List (Nat×Slot)} {o:Nat},(updL h (ziE l) o=.dead∧o∈l.map Prod.fst)∨(updL h (ziE l) o=h o∧o∉l.map Prod.fst)
 | [],o=>.inr ⟨rfl,qG⟩
 |(n,s)::l,o=>by
  by_cases e:o=n
  ·subst e;exact .inl ⟨by simp[ziE,updL],qG⟩
  ·have hu:updL h (ziE ((n,s)::l)) o=updL h (ziE l) o:=by
    show(bif Nat.beq o n then Slot.dead else updL h (ziE l) o)=_;rw[nbeq e,cond_false]
   rw[hu];rcases zdp (h:=h) (l:=l) (o:=o)with⟨h1,h2⟩|⟨h1,h2⟩
   ·exact .inl ⟨h1,by simp[h2]⟩
   ·exact .inr ⟨h1,by simp only[qbu,qbA,not_or];exact⟨e,h2⟩⟩
theorem updL_app{h:Nat→Slot}:∀a b:List (Nat×Slot),updL (updL h b) a=updL h (a++b)
 | [],b=>rfl
 |(n,s)::l,b=>by
  funext o
  show(bif Nat.beq o n then s else updL (updL h b) l o)=(bif Nat.beq o n then s else updL h (l++b) o);rw[updL_app l b]
theorem mem_kill{w0:World}{A S:Nat→Prop}{m:Nat→Option Value}{heap:Nat→Slot}{w:World}{rds:List (Nat×Slot)}(hm:Mem w0 A S m heap w)(hrd:∀p∈rds,heap p.1=p.2)(hl:rds.all (fun p=>p.2.isLive)=true):
 Mem w0 A (fun b=>S b∨∃p∈rds,∃v,m p.1=some v∧blk v=some b) m (updL heap (ziE rds)) w:=by
 have key:∀p∈rds,∃ob v,heap p.1=.live ob∧m p.1=some v∧ORep w0.heap.size S m w ob v:=fun p hp=>by
  have h1:=qbX.1 hl p hp;have h2:=hrd p hp;cases hs:p.2 with
  |live ob=>
   rw[hs]at h2;obtain⟨v,k1,k2,_⟩:=hm.live _ _ h2;exact⟨ob,v,h2,k1,k2⟩
  |un=>rw[hs]at h1;cases h1
  |dead=>rw[hs]at h1;cases h1
 have hlt:∀p∈rds,∀v b,m p.1=some v→blk v=some b→w0.heap.size≤b∧b<w.heap.size:=fun p hp v b hv hb=>by
  obtain⟨ob,v',_,k2,k3⟩:=key p hp;rw[hv]at k2;cases k2;exact k3.lt hb
 refine⟨hm.bel,?_,?_,?_,?_,?_,hm.gl⟩
 ·rintro b (h|⟨p,hp,v,hv,hb⟩)
  ·exact hm.sA b h
  ·exact .inr (hlt p hp v b hv hb).1
 ·rintro b (h|⟨p,hp,v,hv,hb⟩)
  ·exact hm.sW b h
  ·exact(hlt p hp v b hv hb).2
 ·intro o ho;rcases zdp (h:=heap) (l:=rds) (o:=o)with⟨h1,_⟩|⟨h1,_⟩
  ·rw[h1]at ho;cases ho
  ·rw[h1]at ho;exact hm.un o ho
 ·intro o ob ho;rcases zdp (h:=heap) (l:=rds) (o:=o)with⟨h1,_⟩|⟨h1,h2⟩
  ·rw[h1]at ho;cases ho
  ·rw[h1]at ho;obtain⟨v,k1,k2,k3⟩:=hm.live o ob ho;refine⟨v,k1,ORep.mono ⟨fun _ h=>.inl h,fun _ _=>rfl,fun _ _ h=>h⟩ k2 fun _ _=>rfl,?_⟩;rintro b hb (h|⟨p,hp,v',hv',hb'⟩)
   ·exact k3 b hb h
   ·obtain⟨ob',_,q1,_,_⟩:=key p hp;exact h2 (qbv.2 ⟨p,hp,hm.inj _ _ _ _ _ _ b q1 ho hv' k1 hb' hb⟩)
 ·intro o o' ob ob' v v' b ho ho' hv hv' hb hb';rcases zdp (h:=heap) (l:=rds) (o:=o)with⟨h1,_⟩|⟨h1,_⟩
  ·rw[h1]at ho;cases ho
  rcases zdp (h:=heap) (l:=rds) (o:=o')with⟨h2,_⟩|⟨h2,_⟩
  ·rw[h2]at ho';cases ho'
  rw[h1]at ho;rw[h2]at ho';exact hm.inj _ _ _ _ _ _ b ho ho' hv hv' hb hb'
section
variable {P:Program}{d:Option Tmp}{ty:TypeId}{pos:String}{af:Array Edge}{g:Option (Nat×Bool)}{x:Operand}{args:Array Operand}{ts:Array TypeId}{f:FuncId}{fn:Func}
theorem a_callW{xs cs:List AV}{rds:List (Nat×Slot)}{res:AV}{news:List (Nat×AObj)}(ρ:Nat→Nat)(hf:P.funcs[f]?=some fn)(hb:fn.body.isNone=false)(hn:(fn.name== "runtime.NumGoroutine")=false)
 (hC:Fn P f (AV.viewL (fun _=>false) (zcC rds) (xs++cs)) res news) (hl:rds.all (fun p=>p.2.isLive)=true) (h3:res.okIn (news.map Prod.fst)=true) (h4:zbL (news.map Prod.fst)=true) (h5:zbL (news.map fun p=>ρ p.1)=true):
 AOp P ⟨d,.call {callee:=.value x,args:=args,argTypes:=ts},ty,pos,af,g⟩ (.fn f cs::xs) (rds++news.map fun p=>(ρ p.1,.un)) (zb4 ρ news++ziE rds) (res.ren ρ):=by
 intro w0 A S m heap w ev hm hR hrd;obtain⟨us,e1,e2⟩:=zjZ hR;unfold Out;rw[zhp hf hb hn e1];have hrd1:∀p∈rds,heap p.1=p.2:=fun p hp=>hrd p qbf
 have hk:=mem_kill hm hrd1 hl
 have hO:∀o ob,zcC rds o=.live ob→∃v,m o=some v∧ORep w0.heap.size S m w ob v:=fun o ob ho=>by
  rcases zfD (heap:=heap) (rds:=rds) (o:=o) (fun p hp=>hrd1 p hp)with h|h
  ·rw[h]at ho;cases ho
  ·rw[h]at ho;obtain⟨v,k1,k2,_⟩:=hm.live o ob ho;exact⟨v,k1,k2⟩
 have hin:∀(l:List (Nat×Slot)) o ob,zcC l o=.live ob→∃p∈l,p.1=o:=by
  intro l
  induction l with
  |nil=>intro o ob h;cases h
  |cons q l ih=>
   intro o ob h
   by_cases e:o=q.1
   ·exact⟨q,qG,e.symm⟩
   ·simp only[zcC,updL,nbeq e,cond_false]at h;obtain⟨p,hp,rfl⟩:=ih o ob h;exact⟨p,by simp[hp],rfl⟩
 have hT:∀o ob v b,zcC rds o=.live ob→m o=some v→blk v=some b→(S b∨∃p∈rds,∃v,m p.1=some v∧blk v=some b):=fun o ob v b ho hv hb=>by
  obtain⟨p,hp,rfl⟩:=hin rds o ob ho;exact .inr ⟨p,hp,v,hv,hb⟩
 have hST:∀b,S b→(S b∨∃p∈rds,∃v,m p.1=some v∧blk v=some b):=fun b h=>.inl h
 have e3:=zd0 (keep:=fun _=>false) (T:=fun b=>S b∨∃p∈rds,∃v,m p.1=some v∧blk v=some b) (m':=fun _=>none) hO hST
  (fun o off n size u _ hr=>zen hO hST (fun ob v b g1 g2 g3=>hT o ob v b g1 g2 g3) hr)
  (fun o u _ hr=>zfE hO hST (fun ob v b g1 g2 g3=>hT o ob v b g1 g2 g3) hr) (fun o v hk=>by cases hk) _ _ e2
 have hcall:=hC w _ _ hk.sW (hk.gl.below hk.bel) e3;have e4:args.map ev++us.toArray=((args.map ev).toList++us).toArray:=qG;rw[e4];refine hcall.mono fun e w' ⟨v,he,S',m',hres,hkk⟩=>⟨v,he,?_⟩
 generalize hS1:(fun b=>S b∨∃p∈rds,∃v,m p.1=some v∧blk v=some b)=S1 at hk hkk;have hsub:∀b,S' b→S1 b∨(S' b∧w.heap.size≤b):=fun b hb=>(hkk.sA b hb).imp id fun h=>⟨hb,h⟩
 obtain⟨m2,k1,k2,k3⟩:=zhU (S2:=fun b=>S1 b∨(S' b∧w.heap.size≤b)) ρ hk hkk (Rep.mono ⟨hsub,fun _ _=>rfl,fun _ _ h=>h⟩ _ _ hres) (fun o ob u ho hr=>hr.mono ⟨hsub,fun _ _=>rfl,fun _ _ h=>h⟩ fun _ _=>rfl) (fun b h=>.inl h) (fun b h=>h) (fun k hk2=>by
  obtain⟨p,hp,rfl⟩:=qbv.1 hk2;have hu:=hrd (ρ p.1,.un) (qcv _ (qbv.2 ⟨p,hp,rfl⟩));rcases zdp (h:=heap) (l:=rds) (o:=ρ p.1)with⟨_,h2⟩|⟨h1,_⟩
  ·exfalso
   obtain⟨q,hq,hqe⟩:=qbv.1 h2;have a1:=hrd1 q hq;have a2:=qbX.1 hl q hq;rw[hqe]at a1;rw[←a1,hu]at a2;cases a2
  ·rw[h1];exact hu) h4 h5 h3
 rw[updL_app]at k2;refine⟨_,m2,k1,k2,?_⟩;have g0:Grow S m w S1 m w:=⟨fun b h=>by rw[←hS1];exact .inl h,fun _ _=>rfl,fun _ _ h=>h⟩;exact g0.trans k3
end
section
variable {P:Program}{ops:Array Oper}{K:List Foot→St→Prop}{l:List Oper}{fs:List Foot}{st:St}{d:Option Tmp}{ty:TypeId}{pos:String}{af:Array Edge}{gd:Option (Nat×Bool)}
theorem r_callW{x:Operand}{args:Array Operand}{ts:Array TypeId}{f:FuncId}{fn:Func}{zs cs:List AV}{res:AV}{news:List (Nat×AObj)}(ρ:Nat→Nat)(hC:Fn P f zs res news)(hx:st.ev x=.fn f cs)(hxs:AV.viewL (fun _=>false) st.heap (args.toList.map st.ev++cs)=zs)(hf:P.funcs[f]?=some fn)(hb:fn.body.isNone=false)(hn:(fn.name== "runtime.NumGoroutine")=false)
 {os:List Nat} (hos:AV.objsL (args.toList.map st.ev++cs)=os) (hl:(os.all fun o=>(st.heap o).isLive)=true) (h3:res.okIn (news.map Prod.fst)=true) (h4:zbL (news.map Prod.fst)=true) (h5:zbL (news.map fun p=>ρ p.1)=true)
 (hun:Rds st (news.map fun p=>(ρ p.1,.un))) (hg:zaJ ops ⟨d,.call {callee:=.value x,args:=args,argTypes:=ts},ty,pos,af,gd⟩ st=some true) {r:AV} (hr:res.ren ρ=r) {wrs:List (Nat×Slot)} (hw:zb4 ρ news++os.map (fun o=>(o,Slot.dead))=wrs)
 (k:ARun P ops K l (fs++[(os++news.map (fun p=>ρ p.1),news.map (fun p=>ρ p.1)++os)]) ((st.upd wrs).put d r)):
 ARun P ops K (⟨d,.call {callee:=.value x,args:=args,argTypes:=ts},ty,pos,af,gd⟩::l) fs st:=by
 subst hxs;subst hr;subst hw;subst hos
 have hview:AV.viewL (fun _=>false) (zcC ((AV.objsL (args.toList.map st.ev++cs)).map fun o=>(o,st.heap o))) (args.toList.map st.ev++cs)=AV.viewL (fun _=>false) st.heap (args.toList.map st.ev++cs):=zdo _ _ fun o ho=>by
  have:∀l:List Nat,o∈l→zcC (l.map fun o=>(o,st.heap o)) o=st.heap o:=by
   intro l
   induction l with
   |nil=>intro h;cases h
   |cons a l ih=>
    intro h
    by_cases e:o=a
    ·subst e;simp[zcC,updL]
    ·rcases qbA.1 h with h|h
     ·exact absurd h e
     ·simp only[qbu,zcC,updL,nbeq e,cond_false];exact ih h
  exact this _ ho
 have hop:=a_callW (P:=P) (d:=d) (ty:=ty) (pos:=pos) (af:=af) (g:=gd) (x:=x) (args:=args) (ts:=ts) (rds:=(AV.objsL (args.toList.map st.ev++cs)).map fun o=>(o,st.heap o)) ρ hf hb hn (by rw[hview];exact hC) (by simpa[List.all_map,Function.comp_def]using hl) h3 h4 h5;refine zab hop ?_ hg ?_ ?_
 ·rw[←hx];simp[Op.operands,Call.operands]
 ·have app:∀a b:List (Nat×Slot),Rds st a→Rds st b→Rds st (a++b):=by
   intro a
   induction a with
   |nil=>intro b _ h;exact h
   |cons p a ih=>intro b h1 h2;exact⟨h1.1,ih b h1.2 h2⟩
  refine app _ _ ?_ hun;generalize AV.objsL (args.toList.map st.ev++cs)=l
  induction l with
  |nil=>trivial
  |cons a l ih=>exact⟨rfl,ih⟩
 ·have e1:((AV.objsL (args.toList.map st.ev++cs)).map (fun o=>(o,st.heap o))++news.map fun p=>(ρ p.1,Slot.un)).map Prod.fst=AV.objsL (args.toList.map st.ev++cs)++news.map (fun p=>ρ p.1):=by
   simp[qcD,Function.comp_def]
  have e3:ziE ((AV.objsL (args.toList.map st.ev++cs)).map fun o=>(o,st.heap o))=(AV.objsL (args.toList.map st.ev++cs)).map fun o=>(o,Slot.dead):=by
   simp[ziE,qcD,Function.comp_def]
  have e2:(zb4 ρ news++(AV.objsL (args.toList.map st.ev++cs)).map fun o=>(o,Slot.dead)).map Prod.fst=news.map (fun p=>ρ p.1)++AV.objsL (args.toList.map st.ev++cs):=by
   simp[zb4,qcD,Function.comp_def]
  rw[e3,e1,e2];exact k
end
end Go.Proofs.YtdiljgkijgiboaaGreatDoor
namespace Go.Proofs.YtdiljgkijgiboaaGreatDoor
open Go.RowKit Go.Sort
def MS0:List AV:=[qd 0,qd 0,qd 0,qd 0,qm]
end Go.Proofs.YtdiljgkijgiboaaGreatDoor
