/- hex.Bytes, hex.Check and their references, over data. The references HexBytes and HexFault, over data. -/
import Derived.Test.YtkdfdcodkeclmaaGreatDoorSMa3
import Derived.Test.YtkdfdcodkeclmaaGreatDoorSTab
import Derived.Test.YtkdfdcodkeclmaaGreatDoorSShelf
namespace Go.Proofs.YtkdfdcodkeclmaaGreatDoor
open Go.RowKit Go.Sort
set_option linter.unusedVariables false
set_option linter.unusedSimpArgs false
set_option maxRecDepth 100000
def DIG : ByteArray := ⟨#[48, 49, 50, 51, 52, 53, 54, 55, 56, 57, 97, 98, 99, 100, 101, 102]⟩
/-- the place of a byte among the digits -/
def hx (x : Int) : Int := Lib.indexByte DIG.data.toList x.toNat.toUInt8
theorem ib_s (x : Int) : Fn Tryz.prog 104 [.p (.v (.string ⟨#[48, 49, 50, 51, 52, 53, 54, 55, 56, 57, 97, 98, 99, 100, 101, 102]⟩)), .p (.v (.int .u8 x))] (.p (.v (.int .i64 (hx x)))) [] :=
 fn_plain [.string ⟨#[48, 49, 50, 51, 52, 53, 54, 55, 56, 57, 97, 98, 99, 100, 101, 102]⟩, .int .u8 x] rfl fun w => Tryz.strings_IndexByte _ x w
theorem hx_fin : ∀ n : _root_.Fin 256, -1 ≤ Lib.indexByte DIG.data.toList n.val.toUInt8 ∧ Lib.indexByte DIG.data.toList n.val.toUInt8 ≤ 15 := by decide +kernel
theorem hx_bd (x : Int) : -1 ≤ hx x ∧ hx x ≤ 15 := by
 have h := hx_fin ⟨x.toNat % 256, Nat.mod_lt _ (by decide)⟩
 have e : (x.toNat % 256).toUInt8 = x.toNat.toUInt8 := by
  apply UInt8.toNat_inj.1
  show (UInt8.ofNat _).toNat = (UInt8.ofNat _).toNat
  simp only [UInt8.toNat_ofNat']
  omega
 unfold hx
 simp only [e] at h
 exact h
/-- the number of the digit at a place of a string -/
def hv (s : ByteArray) (i : Nat) : Int := hx (sAt s i)
def zc7 (s : ByteArray) (k : Nat) : List Int := (List.range k).map fun j => 16 * hv s (2 * j) + hv s (2 * j + 1)
theorem zfa (s : ByteArray) (k : Nat) : zc7 s (k + 1) = zc7 s k ++ [16 * hv s (2 * k) + hv s (2 * k + 1)] := by simp [zc7, List.range_succ]
theorem zb8 (s : ByteArray) (k : Nat) : (zc7 s k).length = k := by simp [zc7]
def zee (s : ByteArray) : Bool := (List.range s.size).all fun i => decide (0 ≤ hv s i)
theorem zdr (s : ByteArray) : zee s = true ↔ ∀ i, i < s.size → 0 ≤ hv s i := by simp [zee]
def hexE (s : ByteArray) : Int := if 2000 < s.size then 1 else if s.size % 2 = 0 then (if zee s = true then 0 else 3) else 3
def zgf (s : ByteArray) : AV := if hexE s = 0 then .tup [.row 0, .p (.v (.int .i64 0))] else .tup [.p (.v (.slice none 0 0)), .p (.v (.int .i64 (hexE s)))]
def zgg (s : ByteArray) : List (Nat × AObj) := if hexE s = 0 then [(0, .row 5 1 (s.size / 2) (bs (zc7 s (s.size / 2))))] else []
theorem zcc {s : ByteArray} {e : Int} (h : hexE s = e) (he : e ≠ 0) : zgf s = .tup [.p (.v (.slice none 0 0)), .p (.v (.int .i64 e))] ∧ zgg s = [] := by
 unfold zgf zgg
 rw [h, if_neg he, if_neg he]; exact ⟨rfl, rfl⟩
theorem zdq {s : ByteArray} (h : hexE s = 0) : zgf s = .tup [.row 0, .p (.v (.int .i64 0))] ∧ zgg s = [(0, .row 5 1 (s.size / 2) (bs (zc7 s (s.size / 2))))] := by
 unfold zgf zgg
 rw [h, if_pos rfl, if_pos rfl]; exact ⟨rfl, rfl⟩
theorem zgh (s : ByteArray) : Fn Tryz.prog 66 [.p (.v (.string s))] (zgf s) (zgg s) := by
 refine zat Tryz.func66 rfl (Nat.le_of_ble_eq_true rfl) fun w0 A => ?_
 refine zaa ?_
 refine zaN (by kernel_rfl) ?_
 (refine zac (zav (r := .p _)) rfl rfl ?_)
 (refine zac (zav (r := .p _)) rfl rfl ?_)
 refine zab ?_
 refine zaa (zaa ?_)
 refine zaN (by kernel_rfl) ?_
 (refine zac (zam (r := .p _)) rfl rfl ?_)
 (refine zac (zbQ Tryz.underlying9) rfl rfl ?_)
 (refine zac zbv rfl rfl ?_)
 refine zab ?_
 refine zaf ?_
 refine zap _ rfl (fun h => ?_) (fun h => ?_)
 ·have h2 : 2000 < s.size := by simp at h; omega
  refine zaa ?_
  refine zaN (by kernel_rfl) ?_
  (refine zac (zav (r := .p _)) rfl rfl ?_)
  (refine zac (zav (r := .p _)) rfl rfl ?_)
  refine zab ?_
  refine zag (zau ?_)
  obtain ⟨e1, e2⟩ := zcc (s := s) (e := 1) (by unfold hexE; rw [if_pos h2]) (by omega)
  rw [e1, e2]
  refine ⟨(by first | exact .inl rfl | exact .inr rfl), _, (fun o => o), (.tmp _ _ _ _ rfl (.tmp _ _ _ _ rfl .nil)), ?_, rfl, ?_, rfl⟩
  ·exact rfl
  ·exact trivial
 have hsz : s.size ≤ 2000 := by have := of_decide_eq_false h; omega
 clear h
 refine zae (zaa (zaa ?_))
 refine zaN (by kernel_rfl) ?_
 (refine zac (zam (r := .p _)) rfl rfl ?_)
 (refine zac (zbQ Tryz.underlying9) rfl rfl ?_)
 (refine zac (a_rem (by omega) (by first | exact IntWalk.rem_in _ _ (by omega) | rfl)) rfl rfl ?_)
 (refine zac zbw rfl rfl ?_)
 refine zab ?_
 refine zaf ?_
 refine zap _ rfl (fun h => ?_) (fun h => ?_)
 ·have h2 : ¬ s.size % 2 = 0 := by simp at h; omega
  refine zaa ?_
  refine zaN (by kernel_rfl) ?_
  (refine zac (zav (r := .p _)) rfl rfl ?_)
  (refine zac (zav (r := .p _)) rfl rfl ?_)
  refine zab ?_
  refine zag (zau ?_)
  obtain ⟨e1, e2⟩ := zcc (s := s) (e := 3) (by unfold hexE; rw [if_neg (by omega), if_neg h2]) (by omega)
  rw [e1, e2]
  refine ⟨(by first | exact .inl rfl | exact .inr rfl), _, (fun o => o), (.tmp _ _ _ _ rfl (.tmp _ _ _ _ rfl .nil)), ?_, rfl, ?_, rfl⟩
  ·exact rfl
  ·exact trivial
 have hev : s.size % 2 = 0 := by simp at h; omega
 clear h
 refine zae (zaa ?_)
 refine zaN (by kernel_rfl) ?_
 (refine zac (zam (r := .p _)) rfl rfl ?_)
 (refine zac (zbQ Tryz.underlying9) rfl rfl ?_)
 (refine zac (a_quo (by omega) (by first | exact IntWalk.i64_quo _ _ (by omega) | rfl)) rfl rfl ?_)
 (refine zah (a_make0 18 Tryz.underlying99 eo5 (by omega) (by omega) (by simp only [maxLen]; omega)) rfl rfl ⟨rfl, trivial⟩ ?_)
 (refine zac (zav (r := .row _)) rfl rfl ?_)
 refine zab ?_
 refine zaa (zaa ?_)
 refine zaN (by kernel_rfl) ?_
 (refine zac (zav (r := .p _)) rfl rfl ?_)
 refine zab ?_
 refine zak ?_
 refine zaM (fun m st => ∃ k : Nat, m + k = s.size / 2 ∧ (∀ i, i < 2 * k → 0 ≤ hv s i) ∧ st = St.of [(0, .p (.v (.string s))), (4, .row 4), (5, .p (.v (.int .i64 (2 * k))))] [(4, .row 5 1 k (bs (zc7 s k)))]) (s.size / 2) ?_ ?_
 ·refine ⟨_, zaK (fun _ => 18) _ _ ?_ ?_ rfl, 0, by omega, fun i hi => by omega, rfl⟩
  ·(repeat (first | exact trivial | (refine ⟨⟨(by first | rfl | (simp; done) | (simp; omega)), rfl⟩, ?_⟩)))
  ·exact ⟨⟨rfl, rfl⟩, trivial⟩
 rintro m st ⟨k, hk, hg, rfl⟩
 refine zaa (zaa ?_)
 refine zaN (by kernel_rfl) ?_
 (refine zac (zam (r := .p _)) rfl rfl ?_)
 (refine zac (zam (r := .p _)) rfl rfl ?_)
 (refine zac (zbQ Tryz.underlying9) rfl rfl ?_)
 (refine zac za8 rfl rfl ?_)
 refine zab ?_
 refine zaf ?_
 refine zap _ rfl (fun h => ?_) (fun h => ?_)
 ·have hlt : 2 * k < s.size := by simp at h; omega
  clear h
  have g1 := zgq (s := s) (i := 2 * k) hlt
  have g2 := zgq (s := s) (i := 2 * k + 1) (by omega)
  refine zae (zaa (zak (zaa ?_)))
  refine zaB 4 (by kernel_rfl) ?_
  (refine zac (zam (r := .p _)) rfl rfl ?_)
  (refine zac (zam (r := .p _)) rfl rfl ?_)
  (refine zac (zcp Tryz.underlying9 (by omega) (by exact g1)) rfl rfl ?_)
  (refine zaC (fun n => 28 + 1000 * n) (ib_s _) rfl rfl Tryz.func104 rfl rfl (by first | rfl | simp [AV.noSl, AV.noSlL, AObj.noSl, PV.isV, zaq]) (by first | rfl | simp [AV.noSl, AV.noSlL, AObj.noSl, PV.isV, zaq]) rfl rfl rfl (by first | exact trivial | exact ⟨rfl, trivial⟩ | exact ⟨rfl, rfl, trivial⟩ | exact ⟨rfl, rfl, rfl, rfl, rfl, trivial⟩) rfl rfl rfl ?_)
  (refine zac (zam (r := .p _)) rfl rfl ?_)
  (refine zac (zam (r := .p _)) rfl rfl ?_)
  (refine zac (za4 (by first | exact IntWalk.i64_in _ (by omega) | rfl)) rfl rfl ?_)
  (refine zac (zcp Tryz.underlying9 (by omega) (by exact g2)) rfl rfl ?_)
  (refine zaC (fun n => 33 + 1000 * n) (ib_s _) rfl rfl Tryz.func104 rfl rfl (by first | rfl | simp [AV.noSl, AV.noSlL, AObj.noSl, PV.isV, zaq]) (by first | rfl | simp [AV.noSl, AV.noSlL, AObj.noSl, PV.isV, zaq]) rfl rfl rfl (by first | exact trivial | exact ⟨rfl, trivial⟩ | exact ⟨rfl, rfl, trivial⟩ | exact ⟨rfl, rfl, rfl, rfl, rfl, trivial⟩) rfl rfl rfl ?_)
  (refine zac (zav (r := .p _)) rfl rfl ?_)
  (refine zac (zav (r := .p _)) rfl rfl ?_)
  refine zab ⟨by kernel_rfl, ?_⟩
  refine zaa (zaa ?_)
  refine zaN (by kernel_rfl) ?_
  (refine zac (zam (r := .p _)) rfl rfl ?_)
  (refine zac za8 rfl rfl ?_)
  (refine zac (zam (r := .p _)) rfl rfl ?_)
  (refine r_mb2 _ rfl rfl (by (repeat (first | exact zd4 | refine zcI id ?_ | refine zfw ?_ | refine zd2 ?_ | refine zd1 ?_ | refine zd3 ?_ | refine zd5 ?_ | refine zcI (by simp_all) ?_ | refine StripOK.plain _ _ rfl ?_))) (fun hb => (zam (r := .p _))) (fun _ => trivial) ?_)
  (refine r_mb2 _ rfl rfl (by (repeat (first | exact zd4 | refine zcI id ?_ | refine zfw ?_ | refine zd2 ?_ | refine zd1 ?_ | refine zd3 ?_ | refine zd5 ?_ | refine zcI (by simp_all) ?_ | refine StripOK.plain _ _ rfl ?_))) (fun hb => za8) (fun _ => trivial) ?_)
  (refine zac (a_or (by first | exact id | (simp; done) | grind)) rfl rfl ?_)
  refine zab ?_
  refine zaf ?_
  have b1 : -1 ≤ hv s (2 * k) ∧ hv s (2 * k) ≤ 15 := hx_bd _
  have b2 : -1 ≤ hv s (2 * k + 1) ∧ hv s (2 * k + 1) ≤ 15 := hx_bd _
  refine zap _ rfl (fun h => ?_) (fun h => ?_)
  ·have h2 : hv s (2 * k) < 0 ∨ hv s (2 * k + 1) < 0 := by simpa [hv] using h
   refine zaa ?_
   refine zaN (by kernel_rfl) ?_
   (refine zac (zav (r := .p _)) rfl rfl ?_)
   (refine zac (zav (r := .p _)) rfl rfl ?_)
   refine zab ?_
   refine zag (zau (zaY (zau (zau (zaY (zau ?_))))))
   have hb : ¬ zee s = true := fun hh => by
    have h3 := (zdr s).1 hh
    have h4 := h3 (2 * k) hlt
    have h5 := h3 (2 * k + 1) (by omega)
    omega
   obtain ⟨e1, e2⟩ := zcc (s := s) (e := 3) (by unfold hexE; rw [if_neg (by omega), if_pos hev, if_neg hb]) (by omega)
   rw [e1, e2]
   refine ⟨(by first | exact .inl rfl | exact .inr rfl), _, (fun o => o), (.tmp _ _ _ _ rfl (.tmp _ _ _ _ rfl .nil)), ?_, rfl, ?_, rfl⟩
   ·exact rfl
   ·exact trivial
  ·have h2 : 0 ≤ hv s (2 * k) ∧ 0 ≤ hv s (2 * k + 1) := by simpa [hv] using h
   change 0 ≤ hx (sAt s (2 * k)) ∧ 0 ≤ hx (sAt s (2 * k + 1)) at h2
   change -1 ≤ hx (sAt s (2 * k)) ∧ hx (sAt s (2 * k)) ≤ 15 at b1
   change -1 ≤ hx (sAt s (2 * k + 1)) ∧ hx (sAt s (2 * k + 1)) ≤ 15 at b2
   refine zae (zaf ?_)
   refine zaN (by kernel_rfl) ?_
   (refine zac (zam (r := .row _)) rfl rfl ?_)
   (refine zac (zam (r := .p _)) rfl rfl ?_)
   (refine zac (a_mul (by first | exact IntWalk.i64_in _ (by omega) | rfl)) rfl rfl ?_)
   (refine zac (zam (r := .p _)) rfl rfl ?_)
   (refine zac (za4 (by first | exact IntWalk.i64_in _ (by omega) | rfl)) rfl rfl ?_)
   (refine zac (zdZ Tryz.underlying3 Tryz.underlying5 (by first | exact IntWalk.u8_in _ (by omega) | rfl)) rfl rfl ?_)
   (refine zah (zaS 46 Tryz.underlying99 sz5 zc5 (Nat.le_of_ble_eq_true rfl) (Nat.le_of_ble_eq_true rfl) rfl rfl rfl rfl (Nat.le_of_ble_eq_true rfl)) rfl rfl ⟨rfl, trivial⟩ ?_)
   (refine zah (zbe 47 Tryz.underlying99 eo5 (zb6) (by simp only [maxLen]; omega) (by omega) rfl rfl) rfl rfl ⟨rfl, rfl, rfl, trivial⟩ ?_)
   (refine zac (zav (r := .row _)) rfl rfl ?_)
   refine zab ?_
   refine zbf (zaf ?_)
   refine zaN (by kernel_rfl) ?_
   (refine zac (zam (r := .p _)) rfl rfl ?_)
   (refine zac (za4 (by first | exact IntWalk.i64_in _ (by omega) | rfl)) rfl rfl ?_)
   (refine zac (zav (r := .p _)) rfl rfl ?_)
   refine zab ?_
   refine zaf ?_
   refine ⟨m - 1, by omega, _, zaK (fun _ => 47) _ _ ?_ ?_ rfl, k + 1, by omega, fun i hi => ?_, rfl⟩
   ·(repeat (first | exact trivial | (refine ⟨⟨(by first | rfl | (simp; done) | (simp; omega)), rfl⟩, ?_⟩)))
   ·rw [zfa]; simp only [bs, List.map_append]
    exact ⟨⟨rfl, rfl⟩, trivial⟩
   ·by_cases e1 : i = 2 * k
    ·subst e1; exact h2.1
    ·by_cases e2 : i = 2 * k + 1
     ·subst e2; exact h2.2
     ·exact hg i (by omega)
 ·have hge : s.size ≤ 2 * k := by simp at h; omega
  clear h
  have hb : zee s = true := (zdr s).2 fun i hi => hg i (by omega)
  obtain ⟨e1, e2⟩ := zdq (s := s) (by unfold hexE; rw [if_neg (by omega), if_pos hev, if_pos hb])
  obtain rfl : k = s.size / 2 := by omega
  refine zaH (zaa ?_)
  refine zaN (by kernel_rfl) ?_
  (refine zac (zam (r := .row _)) rfl rfl ?_)
  (refine zac (zav (r := .row _)) rfl rfl ?_)
  (refine zac (zav (r := .p _)) rfl rfl ?_)
  refine zab ?_
  refine zag ?_
  rw [e1, e2]
  refine ⟨(by first | exact .inl rfl | exact .inr rfl), _, (fun _ => 4), (.tmp _ _ _ _ rfl (.tmp _ _ _ _ rfl .nil)), ?_, rfl, ?_, rfl⟩
  ·exact rfl
  ·exact ⟨⟨rfl, rfl⟩, trivial⟩
def keyE (s : ByteArray) : Int := if s.size = 64 then hexE s else 1
theorem zco (s : ByteArray) : Fn Tryz.prog 41 [.p (.v (.string s))] (.p (.v (.int .i64 (keyE s)))) [] := by
 refine zat Tryz.func41 rfl (Nat.le_of_ble_eq_true rfl) fun w0 A => ?_
 refine zaa ?_
 refine zaN (by kernel_rfl) ?_
 (refine zac (zav (r := .p _)) rfl rfl ?_)
 refine zab ?_
 refine zaa (zaa ?_)
 refine zaN (by kernel_rfl) ?_
 (refine zac (zam (r := .p _)) rfl rfl ?_)
 (refine zac (zbQ Tryz.underlying9) rfl rfl ?_)
 (refine zac zbw rfl rfl ?_)
 refine zab ?_
 refine zaf ?_
 refine zap _ rfl (fun h => ?_) (fun h => ?_)
 ·have h2 : ¬ s.size = 64 := by simp at h; omega
  refine zaa ?_
  refine zaN (by kernel_rfl) ?_
  (refine zac (zav (r := .p _)) rfl rfl ?_)
  refine zab ?_
  refine zag (zau ?_)
  rw [show keyE s = 1 by unfold keyE; rw [if_neg h2]]
  refine ⟨(by first | exact .inl rfl | exact .inr rfl), _, (fun o => o), (.tmp _ _ _ _ rfl .nil), ?_, rfl, ?_, rfl⟩
  ·exact rfl
  ·exact trivial
 ·have h2 : s.size = 64 := by simp at h; omega
  rw [show keyE s = hexE s by unfold keyE; rw [if_pos h2]]
  by_cases he : hexE s = 0
  ·obtain ⟨e1, e2⟩ := zdq he
   have hc := zgh s
   rw [e1, e2] at hc
   refine zae (zaa ?_)
   refine zaN (by kernel_rfl) ?_
   (refine zac (zam (r := .p _)) rfl rfl ?_)
   (refine zas (fun n => 10 + 1000 * n) (hc) rfl rfl Tryz.func66 rfl rfl (by first | rfl | simp [AV.okInL, AV.okIn, zan]) rfl rfl rfl (by first | exact trivial | exact ⟨rfl, trivial⟩ | exact ⟨rfl, rfl, trivial⟩ | exact ⟨rfl, rfl, rfl, rfl, rfl, trivial⟩) rfl rfl rfl ?_)
   (refine zac (zam (r := .tup _)) rfl rfl ?_)
   (refine zac (zal rfl) rfl rfl ?_)
   (refine zac (zal rfl) rfl rfl ?_)
   (refine zac (zav (r := .row _)) rfl rfl ?_)
   (refine zac (zav (r := .p _)) rfl rfl ?_)
   refine zab ?_
   refine zaa ?_
   refine zaN (by kernel_rfl) ?_
   (refine zac (zam (r := .p _)) rfl rfl ?_)
   (refine zac (zav (r := .p _)) rfl rfl ?_)
   refine zab ?_
   refine zag ?_
   rw [he]
   refine ⟨(by first | exact .inl rfl | exact .inr rfl), _, (fun o => o), (.tmp _ _ _ _ rfl .nil), ?_, rfl, ?_, rfl⟩
   ·exact rfl
   ·exact trivial
  ·obtain ⟨e1, e2⟩ := zcc (e := hexE s) rfl he
   have hc := zgh s
   rw [e1, e2] at hc
   refine zae (zaa ?_)
   refine zaN (by kernel_rfl) ?_
   (refine zac (zam (r := .p _)) rfl rfl ?_)
   (refine zas (fun n => 10 + 1000 * n) (hc) rfl rfl Tryz.func66 rfl rfl (by first | rfl | simp [AV.okInL, AV.okIn, zan]) rfl rfl rfl (by first | exact trivial | exact ⟨rfl, trivial⟩ | exact ⟨rfl, rfl, trivial⟩ | exact ⟨rfl, rfl, rfl, rfl, rfl, trivial⟩) rfl rfl rfl ?_)
   (refine zac (zam (r := .tup _)) rfl rfl ?_)
   (refine zac (zal rfl) rfl rfl ?_)
   (refine zac (zal rfl) rfl rfl ?_)
   (refine zac (zav (r := .p _)) rfl rfl ?_)
   (refine zac (zav (r := .p _)) rfl rfl ?_)
   refine zab ?_
   refine zaa ?_
   refine zaN (by kernel_rfl) ?_
   (refine zac (zam (r := .p _)) rfl rfl ?_)
   (refine zac (zav (r := .p _)) rfl rfl ?_)
   refine zab ?_
   refine zag ?_
   refine ⟨(by first | exact .inl rfl | exact .inr rfl), _, (fun o => o), (.tmp _ _ _ _ rfl .nil), ?_, rfl, ?_, rfl⟩
   ·exact rfl
   ·exact trivial
def zbF (s : ByteArray) (i : Nat) : List Int := zc7 s (i / 2) ++ (if i % 2 = 1 then [hv s (i - 1)] else [])
theorem zfN (s : ByteArray) (i : Nat) : (zbF s i).length = (i + 1) / 2 := by
 unfold zbF
 rw [List.length_append, zb8]
 split <;> simp <;> omega
theorem hexPart_even (s : ByteArray) (i : Nat) (h : i % 2 = 0) : (zbF s i ++ [0]).set (i / 2) (hv s i) = zbF s (i + 1) := by
 have h1 : ¬ i % 2 = 1 := by omega
 have h2 : (i + 1) % 2 = 1 := by omega
 have h3 : (i + 1) / 2 = i / 2 := by omega
 unfold zbF
 rw [if_neg h1, if_pos h2, h3, List.append_nil]
 rw [List.set_append_right _ _ (by rw [zb8]; omega), zb8]
 simp
theorem hexPart_odd (s : ByteArray) (i : Nat) (h : i % 2 = 1) : (zbF s i).set (i / 2) (hv s (i - 1) * 16 + hv s i) = zbF s (i + 1) := by
 have h2 : ¬ (i + 1) % 2 = 1 := by omega
 have h3 : (i + 1) / 2 = i / 2 + 1 := by omega
 unfold zbF
 rw [if_pos h, if_neg h2, h3, List.append_nil, zfa]
 rw [List.set_append_right _ _ (by rw [zb8]; omega), zb8]
 have e1 : 2 * (i / 2) = i - 1 := by omega
 have e2 : 2 * (i / 2) + 1 = i := by omega
 rw [e2, e1, Int.mul_comm]
 simp
theorem hexPart_getE (s : ByteArray) (i : Nat) (h : i % 2 = 0) : (zbF s i ++ [0])[i / 2]? = some 0 := by
 have hl := zfN s i
 rw [List.getElem?_append_right (by omega)]
 have : i / 2 - (zbF s i).length = 0 := by omega
 rw [this]; rfl
theorem hexPart_getO (s : ByteArray) (i : Nat) (h : i % 2 = 1) : (zbF s i)[i / 2]? = some (hv s (i - 1)) := by
 unfold zbF
 rw [if_pos h, List.getElem?_append_right (by rw [zb8]; omega), zb8]
 simp
theorem hexPart_full (s : ByteArray) (h : s.size % 2 = 0) : zbF s s.size = zc7 s (s.size / 2) := by
 unfold zbF
 rw [if_neg (by omega), List.append_nil]
theorem zgb (s : ByteArray) : Fn Tryz.prog 89 [.p (.v (.string s))] (zgf s) (zgg s) := by
 refine zat Tryz.func89 rfl (Nat.le_of_ble_eq_true rfl) fun w0 A => ?_
 refine zaa ?_
 refine zaN (by kernel_rfl) ?_
 (refine zac (zav (r := .p _)) rfl rfl ?_)
 (refine zac (zav (r := .p _)) rfl rfl ?_)
 refine zab ?_
 refine zaa (zaa ?_)
 refine zaN (by kernel_rfl) ?_
 (refine zac (zam (r := .p _)) rfl rfl ?_)
 (refine zac (zbQ Tryz.underlying9) rfl rfl ?_)
 (refine zac zbv rfl rfl ?_)
 refine zab ?_
 refine zaf ?_
 refine zap _ rfl (fun h => ?_) (fun h => ?_)
 ·have h2 : 2000 < s.size := by simp at h; omega
  refine zaa ?_
  refine zaN (by kernel_rfl) ?_
  (refine zac (zav (r := .p _)) rfl rfl ?_)
  (refine zac (zav (r := .p _)) rfl rfl ?_)
  refine zab ?_
  refine zag (zau ?_)
  obtain ⟨e1, e2⟩ := zcc (s := s) (e := 1) (by unfold hexE; rw [if_pos h2]) (by omega)
  rw [e1, e2]
  refine ⟨(by first | exact .inl rfl | exact .inr rfl), _, (fun o => o), (.tmp _ _ _ _ rfl (.tmp _ _ _ _ rfl .nil)), ?_, rfl, ?_, rfl⟩
  ·exact rfl
  ·exact trivial
 have hsz : s.size ≤ 2000 := by simp at h; omega
 clear h
 refine zae (zaa (zaa ?_))
 refine zaN (by kernel_rfl) ?_
 (refine zac (zam (r := .p _)) rfl rfl ?_)
 (refine zac (zbQ Tryz.underlying9) rfl rfl ?_)
 (refine zac (a_bits (by simp) (zfM _ (by omega))) rfl rfl ?_)
 (refine zac zaz rfl rfl ?_)
 refine zab ?_
 refine zaf ?_
 refine zap _ rfl (fun h => ?_) (fun h => ?_)
 ·have h2 : ¬ s.size % 2 = 0 := by simp at h; omega
  refine zaa ?_
  refine zaN (by kernel_rfl) ?_
  (refine zac (zav (r := .p _)) rfl rfl ?_)
  (refine zac (zav (r := .p _)) rfl rfl ?_)
  refine zab ?_
  refine zag (zau ?_)
  obtain ⟨e1, e2⟩ := zcc (s := s) (e := 3) (by unfold hexE; rw [if_neg (by omega), if_neg h2]) (by omega)
  rw [e1, e2]
  refine ⟨(by first | exact .inl rfl | exact .inr rfl), _, (fun o => o), (.tmp _ _ _ _ rfl (.tmp _ _ _ _ rfl .nil)), ?_, rfl, ?_, rfl⟩
  ·exact rfl
  ·exact trivial
 have hev : s.size % 2 = 0 := by simp at h; omega
 clear h
 have hml : s.size ≤ maxLen := by simp only [maxLen]; omega
 refine zae (zaa ?_)
 refine zaN (by kernel_rfl) ?_
 (refine zac (zav (r := .p _)) rfl rfl ?_)
 refine zab ?_
 refine zaa (zaa ?_)
 refine zaN (by kernel_rfl) ?_
 (refine zac (zam (r := .p _)) rfl rfl ?_)
 (refine zah (a_s2b 16 Tryz.underlying9 Tryz.underlying99 Tryz.underlying5 (by first | omega | (simp only [maxLen]; omega)) rfl rfl) rfl rfl ⟨rfl, trivial⟩ ?_)
 (refine zah (zbj Tryz.underlying99) rfl rfl ⟨rfl, trivial⟩ ?_)
 (refine zac (zam (r := .p _)) rfl rfl ?_)
 refine zab ?_
 refine zak ?_
 refine zbn (zdy 4 4 5 1 rfl rfl) ?_
 refine zaM (fun m st => ∃ k : Nat, m + k = s.size ∧ (∀ i, i < k → 0 ≤ hv s i) ∧ st = St.of [(4, .row 4), (16, .row 16), (17, .p (.v (.int .i64 s.size))), (18, .p (.v (.int .i64 k)))] [(4, .row 5 1 ((k + 1) / 2) (bs (zbF s k))), (16, .row 5 1 s.size (bs (sb s)))]) s.size ?_ ?_
 ·refine ⟨_, zaK id _ _ ?_ ?_ rfl, 0, by omega, fun i hi => by omega, rfl⟩
  ·(repeat (first | exact trivial | (refine ⟨⟨(by first | rfl | (simp; done) | (simp; omega)), rfl⟩, ?_⟩)))
  ·exact ⟨⟨rfl, rfl⟩, ⟨rfl, rfl⟩, trivial⟩
 rintro m st ⟨k, hk, hg, rfl⟩
 refine zaa ?_
 refine zaN (by kernel_rfl) ?_
 (refine zac za8 rfl rfl ?_)
 refine zab ?_
 refine zaa ?_
 refine zap _ rfl (fun h => ?_) (fun h => ?_)
 ·have hlt : k < s.size := by simp at h; omega
  clear h
  have g1 := bs_at (sb_at hlt)
  refine zae (zaa (zak (zaa ?_)))
  refine zaN (by kernel_rfl) ?_
  (refine zac (zam (r := .p _)) rfl rfl ?_)
  (refine zah (zaG Tryz.underlying99 sz5 (by omega) (by omega) (by first | (simp only [Int.toNat_natCast, Nat.mul_one, Nat.zero_add]; rfl) | rfl)) rfl rfl ⟨rfl, trivial⟩ ?_)
  (refine zah (zbA Tryz.underlying5 rfl (by first | rfl | assumption | ((try simp only [List.getElem?_drop, List.getElem?_take, Int.toNat_natCast, Nat.mul_one, Nat.add_zero, Nat.zero_add]); first | assumption | rfl))) rfl rfl ⟨rfl, trivial⟩ ?_)
  (refine zac (zav (r := .p _)) rfl rfl ?_)
  (refine zac (zav (r := .p _)) rfl rfl ?_)
  refine zab ?_
  refine zaa ?_
  refine zaN (by kernel_rfl) ?_
  (refine zac (zam (r := .p _)) rfl rfl ?_)
  (refine zaC (fun n => 24 + 1000 * n) (ib_s _) rfl rfl Tryz.func104 rfl rfl (by first | rfl | simp [AV.noSl, AV.noSlL, AObj.noSl, PV.isV, zaq]) (by first | rfl | simp [AV.noSl, AV.noSlL, AObj.noSl, PV.isV, zaq]) rfl rfl rfl (by first | exact trivial | exact ⟨rfl, trivial⟩ | exact ⟨rfl, rfl, trivial⟩ | exact ⟨rfl, rfl, rfl, rfl, rfl, trivial⟩) rfl rfl rfl ?_)
  (refine zac (zav (r := .p _)) rfl rfl ?_)
  refine zab ?_
  refine zaa (zaa ?_)
  have b1 : -1 ≤ hx (sAt s k) ∧ hx (sAt s k) ≤ 15 := hx_bd _
  refine zaN (by kernel_rfl) ?_
  (refine zac (zam (r := .p _)) rfl rfl ?_)
  (refine zac za8 rfl rfl ?_)
  refine zab ?_
  refine zaf ?_
  refine zap _ rfl (fun h => ?_) (fun h => ?_)
  ·have h2 : hv s k < 0 := by simpa [hv] using h
   refine zaa ?_
   refine zaN (by kernel_rfl) ?_
   (refine zac (zav (r := .p _)) rfl rfl ?_)
   (refine zac (zav (r := .p _)) rfl rfl ?_)
   refine zab ?_
   refine zag (zau (zaY (zau (zau (zaY (zau ?_))))))
   have hb : ¬ zee s = true := fun hh => by
    have h3 := (zdr s).1 hh k hlt
    omega
   obtain ⟨e1, e2⟩ := zcc (s := s) (e := 3) (by unfold hexE; rw [if_neg (by omega), if_pos hev, if_neg hb]) (by omega)
   rw [e1, e2]
   refine ⟨(by first | exact .inl rfl | exact .inr rfl), _, (fun o => o), (.tmp _ _ _ _ rfl (.tmp _ _ _ _ rfl .nil)), ?_, rfl, ?_, rfl⟩
   ·exact rfl
   ·exact trivial
  have h2 : 0 ≤ hx (sAt s k) := by simpa using h
  clear h
  have hpl := zfN s k
  refine zae (zaa (zaa ?_))
  refine zaN (by kernel_rfl) ?_
  (refine zac (zam (r := .p _)) rfl rfl ?_)
  (refine zac (a_bits (by simp) (zfM _ (by omega))) rfl rfl ?_)
  (refine zac zaz rfl rfl ?_)
  refine zab ?_
  refine zaf ?_
  refine zap _ rfl (fun h => ?_) (fun h => ?_)
  ·have h3 : k % 2 = 0 := by simp at h; omega
   clear h
   have hn : (k + 1) / 2 + 1 = (k + 2) / 2 := by omega
   skip
   refine zaN (by kernel_rfl) ?_
   (refine zac (zam (r := .row _)) rfl rfl ?_)
   (refine zah (zaS 31 Tryz.underlying99 sz5 zc5 (Nat.le_of_ble_eq_true rfl) (Nat.le_of_ble_eq_true rfl) rfl rfl rfl rfl (Nat.le_of_ble_eq_true rfl)) rfl rfl ⟨rfl, trivial⟩ ?_)
   (refine zah (zbe 32 Tryz.underlying99 eo5 (zb6) (by simp only [maxLen]; omega) (by omega) hn rfl) rfl rfl ⟨rfl, rfl, rfl, trivial⟩ ?_)
   (refine zac (zav (r := .row _)) rfl rfl ?_)
   refine zab ?_
   refine zaf ?_
   have g2 : (bs (zbF s k) ++ [PV.v (.int .u8 0)])[k / 2]? = some (.v (.int .u8 0)) := by rw [bs_push]; exact bs_at (hexPart_getE s k h3)
   have q1 : (bs (zbF s k) ++ [PV.v (.int .u8 0)]).length = (k + 2) / 2 := by rw [List.length_append, bs_length, hpl]; simp; omega
   have q2 : setR (bs (zbF s k) ++ [PV.v (.int .u8 0)]) (k / 2) [.v (.int .u8 (0 * 16 + hx (sAt s k)))] = bs (zbF s (k + 1)) := by
    rw [bs_push, bs_set (by rw [bs_push, bs_length] at q1; omega), Int.zero_mul, Int.zero_add]
    exact congrArg bs (hexPart_even s k h3)
   refine zaN (by kernel_rfl) ?_
   (refine zac (zam (r := .row _)) rfl rfl ?_)
   (refine zac (zam (r := .p _)) rfl rfl ?_)
   (refine zac (a_quo (by omega) (by first | exact IntWalk.i64_quo _ _ (by omega) | rfl)) rfl rfl ?_)
   (refine zac (zam (r := .row _)) rfl rfl ?_)
   (refine zac (zam (r := .p _)) rfl rfl ?_)
   (refine zac (a_quo (by omega) (by first | exact IntWalk.i64_quo _ _ (by omega) | rfl)) rfl rfl ?_)
   (refine zah (zaG Tryz.underlying99 sz5 (by omega) (by omega) (show _ = k / 2 by omega)) rfl rfl ⟨rfl, trivial⟩ ?_)
   (refine zah (zbA Tryz.underlying5 rfl g2) rfl rfl ⟨rfl, trivial⟩ ?_)
   (refine zac (a_mul (by first | exact IntWalk.u8_in _ (by omega) | rfl)) rfl rfl ?_)
   (refine zac (zam (r := .p _)) rfl rfl ?_)
   (refine zac (zdZ Tryz.underlying3 Tryz.underlying5 (by first | exact IntWalk.u8_in _ (by omega) | rfl)) rfl rfl ?_)
   (refine zac (za4 (by first | exact IntWalk.u8_in _ (by omega) | rfl)) rfl rfl ?_)
   (refine zah (zaG Tryz.underlying99 sz5 (by omega) (by omega) (show _ = k / 2 by omega)) rfl rfl ⟨rfl, trivial⟩ ?_)
   (refine zah (zb5 (Y := .p _) sz5 rfl rfl (by first | rfl | omega) (by first | omega | (simp; done) | (simp; omega)) q2) rfl rfl ⟨rfl, trivial⟩ ?_)
   refine zab ?_
   refine zbf (zaf ?_)
   refine zaN (by kernel_rfl) ?_
   (refine zac (za4 (by first | exact IntWalk.i64_in _ (by omega) | rfl)) rfl rfl ?_)
   (refine zac (zam (r := .p _)) rfl rfl ?_)
   refine zab ?_
   refine zaf ?_
   refine ⟨m - 1, by omega, _, zaK (fun o => bif Nat.beq o 4 then 32 else o) _ _ ?_ ?_ rfl, k + 1, by omega, fun i hi => ?_, rfl⟩
   ·(repeat (first | exact trivial | (refine ⟨⟨(by first | rfl | (simp; done) | (simp; omega)), rfl⟩, ?_⟩)))
   ·exact ⟨⟨by rw [show (k + 1 + 1) / 2 = (k + 2) / 2 from rfl]; rfl, rfl⟩, ⟨rfl, rfl⟩, trivial⟩
   ·by_cases e1 : i = k
    ·subst e1; exact h2
    ·exact hg i (by omega)
  ·have h3 : k % 2 = 1 := by simp at h; omega
   clear h
   have g2 := bs_at (hexPart_getO s k h3)
   have b2 : -1 ≤ hv s (k - 1) ∧ hv s (k - 1) ≤ 15 := hx_bd _
   have b3 := hg (k - 1) (by omega)
   have q1 : (bs (zbF s k)).length = (k + 1) / 2 := by rw [bs_length, hpl]
   have q2 : setR (bs (zbF s k)) (k / 2) [.v (.int .u8 (hv s (k - 1) * 16 + hx (sAt s k)))] = bs (zbF s (k + 1)) := by
    rw [bs_set (by omega)]
    exact congrArg bs (hexPart_odd s k h3)
   refine zae (zaf ?_)
   refine zaN (by kernel_rfl) ?_
   (refine zac (zam (r := .row _)) rfl rfl ?_)
   (refine zac (zam (r := .p _)) rfl rfl ?_)
   (refine zac (a_quo (by omega) (by first | exact IntWalk.i64_quo _ _ (by omega) | rfl)) rfl rfl ?_)
   (refine zac (zam (r := .row _)) rfl rfl ?_)
   (refine zac (zam (r := .p _)) rfl rfl ?_)
   (refine zac (a_quo (by omega) (by first | exact IntWalk.i64_quo _ _ (by omega) | rfl)) rfl rfl ?_)
   (refine zah (zaG Tryz.underlying99 sz5 (by omega) (by omega) (show _ = k / 2 by omega)) rfl rfl ⟨rfl, trivial⟩ ?_)
   (refine zah (zbA Tryz.underlying5 rfl g2) rfl rfl ⟨rfl, trivial⟩ ?_)
   (refine zac (a_mul (by first | exact IntWalk.u8_in _ (by omega) | rfl)) rfl rfl ?_)
   (refine zac (zam (r := .p _)) rfl rfl ?_)
   (refine zac (zdZ Tryz.underlying3 Tryz.underlying5 (by first | exact IntWalk.u8_in _ (by omega) | rfl)) rfl rfl ?_)
   (refine zac (za4 (by first | exact IntWalk.u8_in _ (by omega) | rfl)) rfl rfl ?_)
   (refine zah (zaG Tryz.underlying99 sz5 (by omega) (by omega) (show _ = k / 2 by omega)) rfl rfl ⟨rfl, trivial⟩ ?_)
   (refine zah (zb5 (Y := .p _) sz5 rfl rfl (by first | rfl | omega) (by first | omega | (simp; done) | (simp; omega)) q2) rfl rfl ⟨rfl, trivial⟩ ?_)
   refine zab ?_
   refine zbf (zaf ?_)
   refine zaN (by kernel_rfl) ?_
   (refine zac (za4 (by first | exact IntWalk.i64_in _ (by omega) | rfl)) rfl rfl ?_)
   (refine zac (zam (r := .p _)) rfl rfl ?_)
   refine zab ?_
   refine zaf ?_
   refine ⟨m - 1, by omega, _, zaK id _ _ ?_ ?_ rfl, k + 1, by omega, fun i hi => ?_, rfl⟩
   ·(repeat (first | exact trivial | (refine ⟨⟨(by first | rfl | (simp; done) | (simp; omega)), rfl⟩, ?_⟩)))
   ·exact ⟨⟨by rw [show (k + 1 + 1) / 2 = (k + 1) / 2 by omega]; rfl, rfl⟩, ⟨rfl, rfl⟩, trivial⟩
   ·by_cases e1 : i = k
    ·subst e1; exact h2
    ·exact hg i (by omega)
 ·have hge : s.size ≤ k := by simp at h; omega
  clear h
  have hb : zee s = true := (zdr s).2 fun i hi => hg i (by omega)
  obtain ⟨e1, e2⟩ := zdq (s := s) (by unfold hexE; rw [if_neg (by omega), if_pos hev, if_pos hb])
  obtain rfl : k = s.size := by omega
  refine zaH (zaa ?_)
  refine zaN (by kernel_rfl) ?_
  (refine zac (zam (r := .row _)) rfl rfl ?_)
  (refine zac (zav (r := .row _)) rfl rfl ?_)
  (refine zac (zav (r := .p _)) rfl rfl ?_)
  refine zab ?_
  refine zag ?_
  rw [e1, e2]
  refine ⟨(by first | exact .inl rfl | exact .inr rfl), _, (fun _ => 4), (.tmp _ _ _ _ rfl (.tmp _ _ _ _ rfl .nil)), ?_, rfl, ?_, rfl⟩
  ·exact rfl
  ·rw [← hexPart_full s hev, ← show (s.size + 1) / 2 = s.size / 2 by omega]
   exact ⟨⟨rfl, rfl⟩, trivial⟩
theorem zcn (s : ByteArray) : Fn Tryz.prog 55 [.p (.v (.string s))] (.p (.v (.int .i64 (keyE s)))) [] := by
 refine zat Tryz.func55 rfl (Nat.le_of_ble_eq_true rfl) fun w0 A => ?_
 refine zaa ?_
 refine zaN (by kernel_rfl) ?_
 (refine zac (zav (r := .p _)) rfl rfl ?_)
 refine zab ?_
 refine zaa (zaa ?_)
 refine zaN (by kernel_rfl) ?_
 (refine zac (zam (r := .p _)) rfl rfl ?_)
 (refine zac (zbQ Tryz.underlying9) rfl rfl ?_)
 (refine zac zbw rfl rfl ?_)
 refine zab ?_
 refine zaf ?_
 refine zap _ rfl (fun h => ?_) (fun h => ?_)
 ·have h2 : ¬ s.size = 64 := by simp at h; omega
  refine zaa ?_
  refine zaN (by kernel_rfl) ?_
  (refine zac (zav (r := .p _)) rfl rfl ?_)
  refine zab ?_
  refine zag (zau ?_)
  rw [show keyE s = 1 by unfold keyE; rw [if_neg h2]]
  refine ⟨(by first | exact .inl rfl | exact .inr rfl), _, (fun o => o), (.tmp _ _ _ _ rfl .nil), ?_, rfl, ?_, rfl⟩
  ·exact rfl
  ·exact trivial
 ·have h2 : s.size = 64 := by simp at h; omega
  have hk : hexE s = 0 ∨ hexE s = 3 := by
   unfold hexE
   rw [if_neg (by omega), if_pos (by omega)]
   split
   ·exact .inl rfl
   ·exact .inr rfl
  rw [show keyE s = hexE s by unfold keyE; rw [if_pos h2]]
  rcases hk with he | he
  ·obtain ⟨e1, e2⟩ := zdq he
   have hc := zgb s
   rw [e1, e2] at hc
   refine zae (zaa (zaa ?_))
   refine zaN (by kernel_rfl) ?_
   (refine zac (zam (r := .p _)) rfl rfl ?_)
   (refine zas (fun n => 10 + 1000 * n) (hc) rfl rfl Tryz.func89 rfl rfl (by first | rfl | simp [AV.okInL, AV.okIn, zan]) rfl rfl rfl (by first | exact trivial | exact ⟨rfl, trivial⟩ | exact ⟨rfl, rfl, trivial⟩ | exact ⟨rfl, rfl, rfl, rfl, rfl, trivial⟩) rfl rfl rfl ?_)
   (refine zac (zam (r := .tup _)) rfl rfl ?_)
   (refine zac (zal rfl) rfl rfl ?_)
   (refine zac (zal rfl) rfl rfl ?_)
   (refine zac (zav (r := .row _)) rfl rfl ?_)
   (refine zac (zav (r := .p _)) rfl rfl ?_)
   refine zab ?_
   refine zaa ?_
   refine zaN (by kernel_rfl) ?_
   (refine zac (zam (r := .p _)) rfl rfl ?_)
   (refine zac zbw rfl rfl ?_)
   refine zab ?_
   refine zaf ?_
   refine zap _ rfl (fun h => ?_) (fun h => ?_)
   ·cases h
   refine zae (zaa ?_)
   refine zaN (by kernel_rfl) ?_
   (refine zac (zav (r := .p _)) rfl rfl ?_)
   refine zab ?_
   refine zag ?_
   rw [he]
   refine ⟨(by first | exact .inl rfl | exact .inr rfl), _, (fun o => o), (.tmp _ _ _ _ rfl .nil), ?_, rfl, ?_, rfl⟩
   ·exact rfl
   ·exact trivial
  ·obtain ⟨e1, e2⟩ := zcc (s := s) he (by omega)
   have hc := zgb s
   rw [e1, e2] at hc
   refine zae (zaa (zaa ?_))
   refine zaN (by kernel_rfl) ?_
   (refine zac (zam (r := .p _)) rfl rfl ?_)
   (refine zas (fun n => 10 + 1000 * n) (hc) rfl rfl Tryz.func89 rfl rfl (by first | rfl | simp [AV.okInL, AV.okIn, zan]) rfl rfl rfl (by first | exact trivial | exact ⟨rfl, trivial⟩ | exact ⟨rfl, rfl, trivial⟩ | exact ⟨rfl, rfl, rfl, rfl, rfl, trivial⟩) rfl rfl rfl ?_)
   (refine zac (zam (r := .tup _)) rfl rfl ?_)
   (refine zac (zal rfl) rfl rfl ?_)
   (refine zac (zal rfl) rfl rfl ?_)
   (refine zac (zav (r := .p _)) rfl rfl ?_)
   (refine zac (zav (r := .p _)) rfl rfl ?_)
   refine zab ?_
   refine zaa ?_
   refine zaN (by kernel_rfl) ?_
   (refine zac (zam (r := .p _)) rfl rfl ?_)
   (refine zac zbw rfl rfl ?_)
   refine zab ?_
   refine zaf ?_
   refine zap _ rfl (fun h => ?_) (fun h => ?_)
   ·refine zaa ?_
    refine zaN (by kernel_rfl) ?_
    (refine zac (zav (r := .p _)) rfl rfl ?_)
    refine zab ?_
    refine zag (zau ?_)
    rw [he]
    refine ⟨(by first | exact .inl rfl | exact .inr rfl), _, (fun o => o), (.tmp _ _ _ _ rfl .nil), ?_, rfl, ?_, rfl⟩
    ·exact rfl
    ·exact trivial
   ·cases h
end Go.Proofs.YtkdfdcodkeclmaaGreatDoor
