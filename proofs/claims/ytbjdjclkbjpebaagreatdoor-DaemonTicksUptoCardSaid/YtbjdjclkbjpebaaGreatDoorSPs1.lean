/- pair.Secret, its reference, and the law PairSecrets, over data. -/
import Derived.Test.YtbjdjclkbjpebaaGreatDoorSPn1
namespace Go.Proofs.YtbjdjclkbjpebaaGreatDoor
open Tryz
open Go.RowKit Go.Sort
set_option maxHeartbeats 16000000
set_option linter.unusedVariables false
set_option linter.unusedSimpArgs false
set_option maxRecDepth 100000
theorem sAt_cat {a b : ByteArray} {i : Nat} (hi : i < (a ++ b).size) : sAt (a ++ b) i = if i < a.size then sAt a i else sAt b (i - a.size) := by
 unfold sAt
 rw [zfi, List.getD_eq_getElem?_getD, List.getD_eq_getElem?_getD, List.getD_eq_getElem?_getD, List.getElem?_append, zc6]
 split <;> rfl
theorem hv_cat {a b : ByteArray} {i : Nat} (hi : i < (a ++ b).size) : hv (a ++ b) i = if i < a.size then hv a i else hv b (i - a.size) := by
 unfold hv
 rw [sAt_cat hi]; split <;> rfl
theorem hexVals_cat {a b : ByteArray} (ha : a.size = 64) (hb : b.size = 64) : zaq (a ++ b) 64 = zaq a 32 ++ zaq b 32 := by
 have hs : (a ++ b).size = 128 := by rw [zbY, ha, hb]
 unfold zaq
 rw [show (64 : Nat) = 32 + 32 from rfl, List.range_add, List.map_append, List.map_map]
 congr 1
 ·refine List.map_congr_left fun i hi => ?_
  have : i < 32 := by simpa using hi
  rw [hv_cat (by omega), hv_cat (by omega), if_pos (by omega), if_pos (by omega)]
 ·refine List.map_congr_left fun i hi => ?_
  have : i < 32 := by simpa using hi
  simp only [Function.comp]
  rw [hv_cat (by omega), hv_cat (by omega), if_neg (by omega), if_neg (by omega), show 2 * (32 + i) - a.size = 2 * i by omega, show 2 * (32 + i) + 1 - a.size = 2 * i + 1 by omega]
theorem hexGood_cat {a b : ByteArray} (ha : zcp a = true) (hb : zcp b = true) : zcp (a ++ b) = true := by
 rw [zbP] at ha hb ⊢
 intro i hi
 rw [hv_cat hi]
 split
 ·exact ha i (by assumption)
 ·exact hb _ (by rw [zbY] at hi; omega)
def lowK (a b : ByteArray) : ByteArray := if sLt a b = true then a else b
def ziq (a b : ByteArray) : ByteArray := if sLt a b = true then b else a
def secW (a b : ByteArray) : List Int := shaD (zaq (lowK a b) 32 ++ zaq (ziq a b) 32)
def secL (sh : ByteArray) : ByteArray := (⟨#[112, 97, 105, 114]⟩ : ByteArray) ++ sh
def secE (a b sh : ByteArray) : Int :=
 if keyE a ≠ 0 then keyE a else if keyE b ≠ 0 then keyE b else if a = b then 6 else if sh ≠ ⟨#[]⟩ ∧ keyE sh ≠ 0 then keyE sh else derE (hexS (secW a b)) (secL sh)
def secS (a b sh : ByteArray) : ByteArray := derS (hexS (secW a b)) (secL sh)
theorem secW_len (a b : ByteArray) : (secW a b).length = 32 := zfh _
theorem lowK_or (a b : ByteArray) : (lowK a b = a ∧ ziq a b = b) ∨ (lowK a b = b ∧ ziq a b = a) := by
 unfold lowK ziq; split
 ·exact .inl ⟨rfl, rfl⟩
 ·exact .inr ⟨rfl, rfl⟩
theorem secret_s (a b sh : ByteArray) (hsh : sh.size ≤ 140737488351232) : Fn prog 66 [.p (.v (.string a)), .p (.v (.string b)), .p (.v (.string sh))] (sRes (secE a b sh) (secS a b sh)) [] := by
 refine fnI fun w0 A => ?_
 refine G [10] ?_
 refine zaa (xs := [.p (.v (.string a)), .p (.v (.string b))]) (zcV (es := [.p (.v (.string a)), .p (.v (.string b))]) underlying158 zr158 rfl sz9 (by kernel_rfl)) (by first | rfl | kernel_rfl) rfl ?_
 refine G [3] ?_
 refine zag (fun m st => ∃ k : Nat, m + k = 2 ∧ (1 ≤ k → keyE a = 0) ∧ (2 ≤ k → keyE b = 0) ∧ st = St.of [(0, .p (.v (.string a))), (1, .p (.v (.string b))), (2, .p (.v (.string sh))), (20, .agg [.p (.v (.string a)), .p (.v (.string b))]), (21, .p (.v (.int .i64 k)))] []) 2 ?_ ?_
 ·refine ⟨_, zah id _ _ ?_ ?_ rfl, 0, by omega, by omega, by omega, rfl⟩
  ·exact jak
  ·exact trivial
 rintro m st ⟨k, hk, hk1, hk2, rfl⟩
 refine G [5] ?_
 refine cX (fun h => ?_) fun h => ?_
 ·have hlt : k < 2 := by simp at h; omega
  clear h
  obtain ⟨x, hx, hxa, hxb⟩ : ∃ x : ByteArray, [AV.p (.v (.string a)), AV.p (.v (.string b))][k]? = some (.p (.v (.string x))) ∧ (k = 0 → x = a) ∧ (k = 1 → x = b) := by
   match k, hlt with
   | 0, _ => exact ⟨a, rfl, fun _ => rfl, by omega⟩
   | 1, _ => exact ⟨b, rfl, by omega, fun _ => rfl⟩
  refine G [5] ?_
  refine jc3 ?_
  refine G [5] ?_
  refine cV (zbf x) ?_
  refine jcq ?_
  refine cX (fun h => ?_) fun h => ?_
  ·have hne : keyE x ≠ 0 := by simpa using h
   have hE : secE a b sh = keyE x := by
    unfold secE
    match k, hlt with
    | 0, _ => rw [hxa rfl] at hne ⊢; rw [if_pos hne]
    | 1, _ => rw [hxb rfl] at hne ⊢; rw [if_neg (by simp [hk1 (by omega)]), if_pos hne]
   rw [zcm hE hne]
   refine jcq ?_
   exact yE
  ·have he : keyE x = 0 := by simpa using h
   refine jct ?_
   refine ⟨m - 1, by omega, _, zah id _ _ ?_ ?_ rfl, k + 1, by omega, ?_, ?_, rfl⟩
   ·exact jak
   ·exact trivial
   ·intro _
    by_cases h0 : k = 0
    ·rw [← hxa h0]; exact he
    ·exact hk1 (by omega)
   ·intro _
    rw [← hxb (by omega)]; exact he
 have hge : k = 2 := by simp at h; omega
 clear h
 subst hge
 have ha := hk1 (by omega)
 have hb := hk2 (by omega)
 have hE : secE a b sh = if a = b then 6 else if sh ≠ ⟨#[]⟩ ∧ keyE sh ≠ 0 then keyE sh else derE (hexS (secW a b)) (secL sh) := by
  unfold secE; rw [if_neg (by simp [ha]), if_neg (by simp [hb])]
 refine jcM ?_
 refine cX (fun h => ?_) fun h => ?_
 ·have hab : a = b := by simpa using h
  rw [if_pos hab] at hE
  rw [zcm hE (by omega)]
  refine jcs ?_
  exact yE
 have hab : a ≠ b := by simpa using h
 rw [if_neg hab] at hE
 clear h
 refine jcq ?_
 by_cases hbad : sh ≠ ⟨#[]⟩ ∧ keyE sh ≠ 0
 ·rw [if_pos hbad] at hE
  rw [zcm hE hbad.2]
  refine cX (fun h => ?_) fun h => ?_
  ·refine G [3] ?_
   refine cV (zbf sh) ?_
   refine jcq ?_
   refine cX (fun h => ?_) fun h => ?_
   ·refine jcq ?_
    exact yE
   ·exact absurd (by simpa using h) hbad.2
  ·exact absurd (by simpa using h) hbad.1
 rw [if_neg hbad] at hE
 refine zcH (St.of [(0, .p (.v (.string a))), (1, .p (.v (.string b))), (2, .p (.v (.string sh)))] []) ?_ ?_
 ·refine cX (fun h => ?_) fun h => ?_
  ·have hne : sh ≠ ⟨#[]⟩ := by simpa using h
   have hks : keyE sh = 0 := by
    by_cases hk : keyE sh = 0
    ·exact hk
    ·exact absurd ⟨hne, hk⟩ hbad
   refine G [3] ?_
   refine cV (zbf sh) ?_
   refine jcq ?_
   refine cX (fun h => ?_) fun h => ?_
   ·exact absurd hks (by simpa using h)
   ·exact jbJ
  ·exact jbJ
 rw [hE]
 have hlo := lowK_or a b
 obtain ⟨az, aE⟩ := zb6 ha
 obtain ⟨bz, bE⟩ := zb6 hb
 obtain ⟨lo, hlo2⟩ : ∃ lo, lo = lowK a b := ⟨_, rfl⟩
 obtain ⟨hi, hhi2⟩ : ∃ hi, hi = ziq a b := ⟨_, rfl⟩
 have hmin : (if (sLt a b || decide (a = b)) = true then a else b) = lo := by rw [hlo2]; unfold lowK; simp [hab]
 have hmax : (if (!sLt a b) = true then a else b) = hi := by rw [hhi2]; unfold ziq; cases sLt a b <;> rfl
 have hlz : lo.size = 64 ∧ hexE lo = 0 ∧ hi.size = 64 ∧ hexE hi = 0 := by
  exact jb5
 obtain ⟨lz, lE, hz, hhE⟩ := hlz
 have hW : secW a b = shaD (zaq lo 32 ++ zaq hi 32) := by rw [hlo2, hhi2]; rfl
 have hWl := secW_len a b
 have hWB : isB (secW a b) := zhB _
 have hH1 := zci lo
 obtain ⟨e1, e2⟩ := za1 lE
 rw [e1, e2, lz, ← hmin] at hH1
 have hH2 := zci hi
 obtain ⟨e1, e2⟩ := za1 hhE
 rw [e1, e2, hz, ← hmax] at hH2
 clear e1 e2
 have hB1 := zdI (k := 32) (zdd lE) (by omega)
 have hB2 := zdI (k := 32) (zdd hhE) (by omega)
 have hl1 := zaP lo 32
 have hl2 := zaP hi 32
 have hS := sum_s 64 (zaq lo 32 ++ zaq hi 32) (by rw [List.length_append, hl1, hl2]) (zbg hB1 hB2)
 obtain ⟨e1, e2⟩ := zaW (show padE 64 = 0 from rfl) 32 (shaD (zaq lo 32 ++ zaq hi 32))
 rw [e1, e2, ← zbp, ← hW] at hS
 clear e1 e2
 rw [hmin] at hH1
 rw [hmax] at hH2
 change Fn prog 88 _ _ [(0, .row 5 1 32 (bs (zaq lo 32)))] at hH1
 change Fn prog 88 _ _ [(0, .row 5 1 32 (bs (zaq hi 32)))] at hH2
 unfold secS
 have hL : (secL sh).size = 4 + sh.size := by unfold secL; rw [zbY]; rfl
 have hX := httext_s 32 (secW a b) hWl hWB (by omega)
 have hshz : sh.size ≤ 64 := by
  exact jbU
 have hDr := derive_s (hexS (secW a b)) (secL sh) (by rw [hL]; omega)
 unfold sRes at hDr ⊢
 generalize (if derE (hexS (secW a b)) (secL sh) = 0 then derS (hexS (secW a b)) (secL sh) else ⟨#[]⟩) = RS at *
 generalize derE (hexS (secW a b)) (secL sh) = RE at *
 generalize hexS (secW a b) = HW at *
 generalize secW a b = W at *
 clear hE hbad
 generalize zaq lo 32 = K1 at *
 generalize zaq hi 32 = K2 at *
 refine G [4] ?_
 refine jdz a_smin ?_
 (rw [hmin])
 refine cV hH1 ?_
 refine G [10] ?_
 refine jdz a_smax ?_
 (rw [hmax])
 refine cV hH2 ?_
 refine G [10] ?_
 refine zab (zal 57 U62 eo5 (zax) (by simp only [maxLen]; omega) (by omega) rfl rfl) rfl rfl ⟨rfl, rfl, rfl, trivial⟩ ?_
 refine cV hS ?_
 refine G [10, 1, 1, 9, 0] ?_
 refine cX (fun h => ?_) fun h => ?_
 ·cases h
 refine G [4] ?_
 refine cV hX ?_
 refine jco ?_
 refine zaa (zcU (by rw [show (⟨#[112, 97, 105, 114]⟩ : ByteArray).size = 4 from rfl]; omega) (show _ = secL sh from rfl)) rfl rfl ?_
 refine cK hDr ?_
 refine jcs ?_
 exact yE
theorem refSecret_s (a b sh : ByteArray) (hsh : sh.size ≤ 140737488351232) : Fn prog 80 [.p (.v (.string a)), .p (.v (.string b)), .p (.v (.string sh))] (sRes (secE a b sh) (secS a b sh)) [] := by
 refine zb7 func80 rfl (Nat.le_of_ble_eq_true rfl) fun w0 A => ?_
 refine zad (tx (jcA ?_))
 refine jcA ?_
 refine zac (zad (zad (tx (jco ?_))))
 refine zaR (fun n => 16 + 1000 * n) (za9 a) rfl rfl F74 rfl rfl (by first | rfl | simp [AV.noSl, AV.noSlL, AObj.noSl, PV.isV, zaH]) (by first | rfl | simp [AV.noSl, AV.noSlL, AObj.noSl, PV.isV, zaH]) rfl rfl rfl (by first | exact trivial | exact ⟨rfl, trivial⟩ | exact ⟨rfl, rfl, trivial⟩ | exact ⟨rfl, rfl, rfl, rfl, rfl, trivial⟩) rfl rfl rfl ?_
 refine jcA ?_
 refine zac (zad (tx (jco ?_)))
 refine jdz a_neq ?_
 refine zac (zaz (zaJ _ rfl (fun h => ?_) (fun h => ?_)))
 ·have hne : keyE a ≠ 0 := by simpa using h
  rw [zcm (show secE a b sh = keyE a by unfold secE; rw [if_pos hne]) hne]
  refine zad (tx (jco ?_))
  exact jaI
 have ha : keyE a = 0 := by simpa using h
 clear h
 refine zap (zad (zad (tx (jco ?_))))
 refine zaR (fun n => 21 + 1000 * n) (za9 b) rfl rfl F74 rfl rfl (by first | rfl | simp [AV.noSl, AV.noSlL, AObj.noSl, PV.isV, zaH]) (by first | rfl | simp [AV.noSl, AV.noSlL, AObj.noSl, PV.isV, zaH]) rfl rfl rfl (by first | exact trivial | exact ⟨rfl, trivial⟩ | exact ⟨rfl, rfl, trivial⟩ | exact ⟨rfl, rfl, rfl, rfl, rfl, trivial⟩) rfl rfl rfl ?_
 refine jcA ?_
 refine zac (zad (tx (jco ?_)))
 refine jdz a_neq ?_
 refine zac (zaz (zaJ _ rfl (fun h => ?_) (fun h => ?_)))
 ·have hne : keyE b ≠ 0 := by simpa using h
  rw [zcm (show secE a b sh = keyE b by unfold secE; rw [if_neg (by simp [ha]), if_pos hne]) hne]
  refine zad (tx (jco ?_))
  exact jaI
 have hb : keyE b = 0 := by simpa using h
 clear h
 have hE : secE a b sh = if a = b then 6 else if sh ≠ ⟨#[]⟩ ∧ keyE sh ≠ 0 then keyE sh else derE (hexS (secW a b)) (secL sh) := by
  unfold secE; rw [if_neg (by simp [ha]), if_neg (by simp [hb])]
 refine zap (zad (zad (tx (jco ?_))))
 refine jco ?_
 refine jdz zhY ?_
 refine zac (zaz (zaJ _ rfl (fun h => ?_) (fun h => ?_)))
 ·have hab : a = b := by simpa using h
  rw [if_pos hab] at hE
  rw [zcm hE (by omega)]
  refine zad (tx ?_)
  exact jaI
 have hab : a ≠ b := by simpa using h
 rw [if_neg hab] at hE
 clear h
 refine zap (zad (zad (tx (jco ?_))))
 refine jdz a_sneq ?_
 refine jco ?_
 refine mb2 _ rfl rfl (fun hb => (zav (r := .p _))) (fun _ => trivial) ?_
 refine mb2 _ rfl rfl (fun _ => zbc F74 rfl rfl (za9 sh) (by first | rfl | simp [AV.okInL, AV.okIn, zay]) rfl) (fun _ => trivial) ?_
 refine mb2 _ rfl rfl (fun hb => a_neq) (fun _ => trivial) ?_
 refine zaa (a_and (by first | exact id | (simp; done) | grind)) rfl rfl ?_
 refine zac (zaz (zaJ _ rfl (fun h => ?_) (fun h => ?_)))
 ·have hbad : sh ≠ ⟨#[]⟩ ∧ keyE sh ≠ 0 := by simpa using h
  rw [if_pos hbad] at hE
  rw [zcm hE hbad.2]
  refine zad (tx (jco ?_))
  refine zaR (fun n => 36 + 1000 * n) (za9 sh) rfl rfl F74 rfl rfl (by first | rfl | simp [AV.noSl, AV.noSlL, AObj.noSl, PV.isV, zaH]) (by first | rfl | simp [AV.noSl, AV.noSlL, AObj.noSl, PV.isV, zaH]) rfl rfl rfl (by first | exact trivial | exact ⟨rfl, trivial⟩ | exact ⟨rfl, rfl, trivial⟩ | exact ⟨rfl, rfl, rfl, rfl, rfl, trivial⟩) rfl rfl rfl ?_
  exact jaI
 have hbad : ¬ (sh ≠ ⟨#[]⟩ ∧ keyE sh ≠ 0) := by
  intro ⟨h1, h2⟩
  simp [h1, h2] at h
 clear h
 rw [if_neg hbad] at hE
 rw [hE]
 have hlo := lowK_or a b
 obtain ⟨az, aE⟩ := zb6 ha
 obtain ⟨bz, bE⟩ := zb6 hb
 obtain ⟨lo, hlo2⟩ : ∃ lo, lo = lowK a b := ⟨_, rfl⟩
 obtain ⟨hi, hhi2⟩ : ∃ hi, hi = ziq a b := ⟨_, rfl⟩
 have hlz : lo.size = 64 ∧ hexE lo = 0 ∧ hi.size = 64 ∧ hexE hi = 0 := by
  exact jb5
 obtain ⟨lz, lE, hz, hhE⟩ := hlz
 refine zap (zad (tx (jco ?_)))
 refine jco ?_
 refine zaa (zcU (by omega) rfl) rfl rfl ?_
 refine jcA ?_
 refine zac (zad (zad (tx (jco ?_))))
 refine jco ?_
 refine jdz a_slss ?_
 refine zac (zaz (awp_join (St.of [(2, .p (.v (.string sh))), (10, .p (.v (.string (lo ++ hi))))] []) ?_ ?_))
 ·have hnot := sLt_not hab
  refine zaJ _ rfl (fun h => ?_) (fun h => ?_)
  ·rw [h] at hnot
   have e1 : lo = b := by rw [hlo2]; unfold lowK; rw [if_neg (by simpa using hnot.symm)]
   have e2 : hi = a := by rw [hhi2]; unfold ziq; rw [if_neg (by simpa using hnot.symm)]
   rw [e1, e2]
   skip
   refine tx (jco ?_)
   refine jco ?_
   refine zaa (zcU (by omega) rfl) rfl rfl ?_
   refine jcA ?_
   refine zac ?_
   exact jbT
  ·rw [h] at hnot
   have e1 : lo = a := by rw [hlo2]; unfold lowK; rw [if_pos (by simpa using hnot.symm)]
   have e2 : hi = b := by rw [hhi2]; unfold ziq; rw [if_pos (by simpa using hnot.symm)]
   rw [e1, e2]
   refine zap ?_
   exact jbT
 have hW : secW a b = shaD (zaq (lo ++ hi) 64) := by rw [hexVals_cat lz hz, hlo2, hhi2]; rfl
 have hWl := secW_len a b
 have hWB : isB (secW a b) := zhB _
 have hcz : (lo ++ hi).size = 128 := by rw [zbY, lz, hz]
 have hcg : zcp (lo ++ hi) = true := hexGood_cat (zdd lE) (zdd hhE)
 have hcE : hexE (lo ++ hi) = 0 := by unfold hexE; rw [hcz, if_neg (by omega), if_pos (by omega), if_pos hcg]
 have hH := zcw (lo ++ hi)
 obtain ⟨e1, e2⟩ := za1 hcE
 rw [e1, e2, hcz] at hH
 have hB := zdI (k := 64) hcg (by omega)
 have hl := zaP (lo ++ hi) 64
 have hS := zgc 64 (zaq (lo ++ hi) 64) hl hB
 obtain ⟨e1, e2⟩ := zaW (show padE 64 = 0 from rfl) 32 (shaD (zaq (lo ++ hi) 64))
 rw [e1, e2, ← hW] at hS
 clear e1 e2
 change Fn prog 81 _ _ [(0, .row 5 1 64 (bs (zaq (lo ++ hi) 64)))] at hH
 unfold secS
 have hL : (secL sh).size = 4 + sh.size := by unfold secL; rw [zbY]; rfl
 have hX := zgK 32 (secW a b) hWl hWB (by omega)
 have hshz : sh.size ≤ 64 := by
  exact jbU
 have hDr := refDerive_s (hexS (secW a b)) (secL sh) (by rw [hL]; omega)
 unfold sRes at hDr ⊢
 generalize (if derE (hexS (secW a b)) (secL sh) = 0 then derS (hexS (secW a b)) (secL sh) else ⟨#[]⟩) = RS at *
 generalize derE (hexS (secW a b)) (secL sh) = RE at *
 generalize hexS (secW a b) = HW at *
 generalize secW a b = W at *
 clear hE hbad
 generalize zaq (lo ++ hi) 64 = K1 at *
 refine zad (tx (jco ?_))
 refine zaR (fun n => 48 + 1000 * n) (hH) rfl rfl func81 rfl rfl (by first | rfl | simp [AV.noSl, AV.noSlL, AObj.noSl, PV.isV, zaH]) (by first | rfl | simp [AV.noSl, AV.noSlL, AObj.noSl, PV.isV, zaH]) rfl rfl rfl (by first | exact trivial | exact ⟨rfl, trivial⟩ | exact ⟨rfl, rfl, trivial⟩ | exact ⟨rfl, rfl, rfl, rfl, rfl, trivial⟩) rfl rfl rfl ?_
 refine jdz (zav (r := .tup _)) ?_
 refine jdz (zdh rfl) ?_
 refine jdz (zdh rfl) ?_
 refine jcL ?_
 refine jcA ?_
 refine zac (zad (tx (jcw ?_)))
 refine zaR (fun n => 53 + 1000 * n) (hS) rfl rfl func117 rfl rfl (by first | rfl | simp [AV.noSl, AV.noSlL, AObj.noSl, PV.isV, zaH]) (by first | rfl | simp [AV.noSl, AV.noSlL, AObj.noSl, PV.isV, zaH]) rfl rfl rfl (by first | exact trivial | exact ⟨rfl, trivial⟩ | exact ⟨rfl, rfl, trivial⟩ | exact ⟨rfl, rfl, rfl, rfl, rfl, trivial⟩) rfl rfl rfl ?_
 refine jdz (zav (r := .tup _)) ?_
 refine jdz (zdh rfl) ?_
 refine jdz (zdh rfl) ?_
 refine jcL ?_
 refine jcA ?_
 refine zac (zad (tx (jcw ?_)))
 refine zaR (fun n => 57 + 1000 * n) (hX) rfl rfl func119 rfl rfl (by first | rfl | simp [AV.noSl, AV.noSlL, AObj.noSl, PV.isV, zaH]) (by first | rfl | simp [AV.noSl, AV.noSlL, AObj.noSl, PV.isV, zaH]) rfl rfl rfl (by first | exact trivial | exact ⟨rfl, trivial⟩ | exact ⟨rfl, rfl, trivial⟩ | exact ⟨rfl, rfl, rfl, rfl, rfl, trivial⟩) rfl rfl rfl ?_
 refine jco ?_
 refine zaa (zcU (by rw [show (⟨#[112, 97, 105, 114]⟩ : ByteArray).size = 4 from rfl]; omega) (show _ = secL sh from rfl)) rfl rfl ?_
 refine zbO (fun n => 60 + 1000 * n) (hDr) rfl rfl func118 rfl rfl (by first | rfl | simp [AV.okInL, AV.okIn, zay]) rfl rfl rfl (by first | exact trivial | exact ⟨rfl, trivial⟩ | exact ⟨rfl, rfl, trivial⟩ | exact ⟨rfl, rfl, rfl, rfl, rfl, trivial⟩) rfl rfl rfl ?_
 refine jdz (zdh rfl) ?_
 refine jdz (zdh rfl) ?_
 refine jcA ?_
 refine jcA ?_
 refine zac (zaE ?_)
 exact jcl
end Go.Proofs.YtbjdjclkbjpebaaGreatDoor
