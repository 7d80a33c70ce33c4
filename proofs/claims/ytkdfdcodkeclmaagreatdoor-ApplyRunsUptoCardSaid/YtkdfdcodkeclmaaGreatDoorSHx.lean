/- hex.Bytes, hex.Check and their references, over data. The references HexBytes and HexFault, over data. -/
import Derived.Test.YtkdfdcodkeclmaaGreatDoorSMa3
import Derived.Test.YtkdfdcodkeclmaaGreatDoorSTab
import Derived.Test.YtkdfdcodkeclmaaGreatDoorSShelf
namespace Go.Proofs.YtkdfdcodkeclmaaGreatDoor
open Go.RowKit Go.Sort
set_option linter.unusedVariables false
set_option linter.unusedSimpArgs false
set_option maxRecDepth 100000
def DIG : ByteArray := ⟨#[48, 49, 50, 51, 52, 53, 54, 55, 56, 57, 97, 98, 99, 100, 101, 102]⟩
/-- the place of a byte among the digits -/
def hx (x : Int) : Int := Lib.indexByte DIG.data.toList x.toNat.toUInt8
theorem ib_s (x : Int) : Fn Tryz.prog 104 [.p (.v (.string ⟨#[48, 49, 50, 51, 52, 53, 54, 55, 56, 57, 97, 98, 99, 100, 101, 102]⟩)), .p (.v (.int .u8 x))] (.p (.v (.int .i64 (hx x)))) [] :=
 fn_plain [.string ⟨#[48, 49, 50, 51, 52, 53, 54, 55, 56, 57, 97, 98, 99, 100, 101, 102]⟩, .int .u8 x] rfl fun w => Tryz.strings_IndexByte _ x w
theorem hx_fin : ∀ n : _root_.Fin 256, -1 ≤ Lib.indexByte DIG.data.toList n.val.toUInt8 ∧ Lib.indexByte DIG.data.toList n.val.toUInt8 ≤ 15 := by decide +kernel
theorem hx_bd (x : Int) : -1 ≤ hx x ∧ hx x ≤ 15 := by
 have h := hx_fin ⟨x.toNat % 256, Nat.mod_lt _ (by decide)⟩
 have e : (x.toNat % 256).toUInt8 = x.toNat.toUInt8 := by
  apply UInt8.toNat_inj.1
  show (UInt8.ofNat _).toNat = (UInt8.ofNat _).toNat
  simp only [UInt8.toNat_ofNat']
  omega
 unfold hx
 simp only [e] at h
 exact h
/-- the number of the digit at a place of a string -/
def hv (s : ByteArray) (i : Nat) : Int := hx (sAt s i)
def zcZ (s : ByteArray) (k : Nat) : List Int := (List.range k).map fun j => 16 * hv s (2 * j) + hv s (2 * j + 1)
theorem ze2 (s : ByteArray) (k : Nat) : zcZ s (k + 1) = zcZ s k ++ [16 * hv s (2 * k) + hv s (2 * k + 1)] := by simp [zcZ, List.range_succ]
theorem zb7 (s : ByteArray) (k : Nat) : (zcZ s k).length = k := by simp [zcZ]
def zd6 (s : ByteArray) : Bool := (List.range s.size).all fun i => decide (0 ≤ hv s i)
theorem zdj (s : ByteArray) : zd6 s = true ↔ ∀ i, i < s.size → 0 ≤ hv s i := by simp [zd6]
def hexE (s : ByteArray) : Int := if 2000 < s.size then 1 else if s.size % 2 = 0 then (if zd6 s = true then 0 else 3) else 3
def zf2 (s : ByteArray) : AV := if hexE s = 0 then .tup [.row 0, .p (.v (.int .i64 0))] else .tup [.p (.v (.slice none 0 0)), .p (.v (.int .i64 (hexE s)))]
def zf3 (s : ByteArray) : List (Nat × AObj) := if hexE s = 0 then [(0, .row 5 1 (s.size / 2) (bs (zcZ s (s.size / 2))))] else []
theorem zca {s : ByteArray} {e : Int} (h : hexE s = e) (he : e ≠ 0) : zf2 s = .tup [.p (.v (.slice none 0 0)), .p (.v (.int .i64 e))] ∧ zf3 s = [] := by
 unfold zf2 zf3
 rw [h, if_neg he, if_neg he]; exact ⟨rfl, rfl⟩
theorem zdi {s : ByteArray} (h : hexE s = 0) : zf2 s = .tup [.row 0, .p (.v (.int .i64 0))] ∧ zf3 s = [(0, .row 5 1 (s.size / 2) (bs (zcZ s (s.size / 2))))] := by
 unfold zf2 zf3
 rw [h, if_pos rfl, if_pos rfl]; exact ⟨rfl, rfl⟩
theorem zf4 (s : ByteArray) : Fn Tryz.prog 66 [.p (.v (.string s))] (zf2 s) (zf3 s) := by
 refine zaw Tryz.func66 rfl (Nat.le_of_ble_eq_true rfl) fun w0 A => ?_
 refine zaa ?_
 refine zaL (by kernel_rfl) ?_
 (refine zac (zas (r := .p _)) rfl rfl ?_)
 (refine zac (zas (r := .p _)) rfl rfl ?_)
 refine zab ?_
 refine zaa (zaa ?_)
 refine zaL (by kernel_rfl) ?_
 (refine zac (zam (r := .p _)) rfl rfl ?_)
 (refine zac (zbM Tryz.underlying9) rfl rfl ?_)
 (refine zac zbA rfl rfl ?_)
 refine zab ?_
 refine zaf ?_
 refine zaq _ rfl (fun h => ?_) (fun h => ?_)
 ·have h2 : 2000 < s.size := by simp at h; omega
  refine zaa ?_
  refine zaL (by kernel_rfl) ?_
  (refine zac (zas (r := .p _)) rfl rfl ?_)
  (refine zac (zas (r := .p _)) rfl rfl ?_)
  refine zab ?_
  refine zai (zau ?_)
  obtain ⟨e1, e2⟩ := zca (s := s) (e := 1) (by unfold hexE; rw [if_pos h2]) (by omega)
  rw [e1, e2]
  refine ⟨(by first | exact .inl rfl | exact .inr rfl), _, (fun o => o), (.tmp _ _ _ _ rfl (.tmp _ _ _ _ rfl .nil)), ?_, rfl, ?_, rfl⟩
  ·exact rfl
  ·exact trivial
 have hsz : s.size ≤ 2000 := by have := of_decide_eq_false h; omega
 clear h
 refine zae (zaa (zaa ?_))
 refine zaL (by kernel_rfl) ?_
 (refine zac (zam (r := .p _)) rfl rfl ?_)
 (refine zac (zbM Tryz.underlying9) rfl rfl ?_)
 (refine zac (a_rem (by omega) (by first | exact IntWalk.rem_in _ _ (by omega) | rfl)) rfl rfl ?_)
 (refine zac zbR rfl rfl ?_)
 refine zab ?_
 refine zaf ?_
 refine zaq _ rfl (fun h => ?_) (fun h => ?_)
 ·have h2 : ¬ s.size % 2 = 0 := by simp at h; omega
  refine zaa ?_
  refine zaL (by kernel_rfl) ?_
  (refine zac (zas (r := .p _)) rfl rfl ?_)
  (refine zac (zas (r := .p _)) rfl rfl ?_)
  refine zab ?_
  refine zai (zau ?_)
  obtain ⟨e1, e2⟩ := zca (s := s) (e := 3) (by unfold hexE; rw [if_neg (by omega), if_neg h2]) (by omega)
  rw [e1, e2]
  refine ⟨(by first | exact .inl rfl | exact .inr rfl), _, (fun o => o), (.tmp _ _ _ _ rfl (.tmp _ _ _ _ rfl .nil)), ?_, rfl, ?_, rfl⟩
  ·exact rfl
  ·exact trivial
 have hev : s.size % 2 = 0 := by simp at h; omega
 clear h
 refine zae (zaa ?_)
 refine zaL (by kernel_rfl) ?_
 (refine zac (zam (r := .p _)) rfl rfl ?_)
 (refine zac (zbM Tryz.underlying9) rfl rfl ?_)
 (refine zac (a_quo (by omega) (by first | exact IntWalk.i64_quo _ _ (by omega) | rfl)) rfl rfl ?_)
 (refine zah (a_make0 18 Tryz.underlying99 eo5 (by omega) (by omega) (by simp only [maxLen]; omega)) rfl rfl ⟨rfl, trivial⟩ ?_)
 (refine zac (zas (r := .row _)) rfl rfl ?_)
 refine zab ?_
 refine zaa (zaa ?_)
 refine zaL (by kernel_rfl) ?_
 (refine zac (zas (r := .p _)) rfl rfl ?_)
 refine zab ?_
 refine zak ?_
 refine zaN (fun m st => ∃ k : Nat, m + k = s.size / 2 ∧ (∀ i, i < 2 * k → 0 ≤ hv s i) ∧ st = St.of [(0, .p (.v (.string s))), (4, .row 4), (5, .p (.v (.int .i64 (2 * k))))] [(4, .row 5 1 k (bs (zcZ s k)))]) (s.size / 2) ?_ ?_
 ·refine ⟨_, zaJ (fun _ => 18) _ _ ?_ ?_ rfl, 0, by omega, fun i hi => by omega, rfl⟩
  ·(repeat (first | exact trivial | (refine ⟨⟨(by first | rfl | (simp; done) | (simp; omega)), rfl⟩, ?_⟩)))
  ·exact ⟨⟨rfl, rfl⟩, trivial⟩
 rintro m st ⟨k, hk, hg, rfl⟩
 refine zaa (zaa ?_)
 refine zaL (by kernel_rfl) ?_
 (refine zac (zam (r := .p _)) rfl rfl ?_)
 (refine zac (zam (r := .p _)) rfl rfl ?_)
 (refine zac (zbM Tryz.underlying9) rfl rfl ?_)
 (refine zac za8 rfl rfl ?_)
 refine zab ?_
 refine zaf ?_
 refine zaq _ rfl (fun h => ?_) (fun h => ?_)
 ·have hlt : 2 * k < s.size := by simp at h; omega
  clear h
  have g1 := zgd (s := s) (i := 2 * k) hlt
  have g2 := zgd (s := s) (i := 2 * k + 1) (by omega)
  refine zae (zaa (zak (zaa ?_)))
  refine zaB 4 (by kernel_rfl) ?_
  (refine zac (zam (r := .p _)) rfl rfl ?_)
  (refine zac (zam (r := .p _)) rfl rfl ?_)
  (refine zac (zcl Tryz.underlying9 (by omega) (by exact g1)) rfl rfl ?_)
  (refine zaC (fun n => 28 + 1000 * n) (ib_s _) rfl rfl Tryz.func104 rfl rfl (by first | rfl | simp [AV.noSl, AV.noSlL, AObj.noSl, PV.isV, zap]) (by first | rfl | simp [AV.noSl, AV.noSlL, AObj.noSl, PV.isV, zap]) rfl rfl rfl (by first | exact trivial | exact ⟨rfl, trivial⟩ | exact ⟨rfl, rfl, trivial⟩ | exact ⟨rfl, rfl, rfl, rfl, rfl, trivial⟩) rfl rfl rfl ?_)
  (refine zac (zam (r := .p _)) rfl rfl ?_)
  (refine zac (zam (r := .p _)) rfl rfl ?_)
  (refine zac (za5 (by first | exact IntWalk.i64_in _ (by omega) | rfl)) rfl rfl ?_)
  (refine zac (zcl Tryz.underlying9 (by omega) (by exact g2)) rfl rfl ?_)
  (refine zaC (fun n => 33 + 1000 * n) (ib_s _) rfl rfl Tryz.func104 rfl rfl (by first | rfl | simp [AV.noSl, AV.noSlL, AObj.noSl, PV.isV, zap]) (by first | rfl | simp [AV.noSl, AV.noSlL, AObj.noSl, PV.isV, zap]) rfl rfl rfl (by first | exact trivial | exact ⟨rfl, trivial⟩ | exact ⟨rfl, rfl, trivial⟩ | exact ⟨rfl, rfl, rfl, rfl, rfl, trivial⟩) rfl rfl rfl ?_)
  (refine zac (zas (r := .p _)) rfl rfl ?_)
  (refine zac (zas (r := .p _)) rfl rfl ?_)
  refine zab ⟨by kernel_rfl, ?_⟩
  refine zaa (zaa ?_)
  refine zaL (by kernel_rfl) ?_
  (refine zac (zam (r := .p _)) rfl rfl ?_)
  (refine zac za8 rfl rfl ?_)
  (refine zac (zam (r := .p _)) rfl rfl ?_)
  (refine r_mb2 _ rfl rfl (by (repeat (first | exact zdW | refine zcD id ?_ | refine zfm ?_ | refine zdU ?_ | refine zdT ?_ | refine zdV ?_ | refine zdX ?_ | refine zcD (by simp_all) ?_ | refine StripOK.plain _ _ rfl ?_))) (fun hb => (zam (r := .p _))) (fun _ => trivial) ?_)
  (refine r_mb2 _ rfl rfl (by (repeat (first | exact zdW | refine zcD id ?_ | refine zfm ?_ | refine zdU ?_ | refine zdT ?_ | refine zdV ?_ | refine zdX ?_ | refine zcD (by simp_all) ?_ | refine StripOK.plain _ _ rfl ?_))) (fun hb => za8) (fun _ => trivial) ?_)
  (refine zac (a_or (by first | exact id | (simp; done) | grind)) rfl rfl ?_)
  refine zab ?_
  refine zaf ?_
  have b1 : -1 ≤ hv s (2 * k) ∧ hv s (2 * k) ≤ 15 := hx_bd _
  have b2 : -1 ≤ hv s (2 * k + 1) ∧ hv s (2 * k + 1) ≤ 15 := hx_bd _
  refine zaq _ rfl (fun h => ?_) (fun h => ?_)
  ·have h2 : hv s (2 * k) < 0 ∨ hv s (2 * k + 1) < 0 := by simpa [hv] using h
   refine zaa ?_
   refine zaL (by kernel_rfl) ?_
   (refine zac (zas (r := .p _)) rfl rfl ?_)
   (refine zac (zas (r := .p _)) rfl rfl ?_)
   refine zab ?_
   refine zai (zau (zaU (zau (zau (zaU (zau ?_))))))
   have hb : ¬ zd6 s = true := fun hh => by
    have h3 := (zdj s).1 hh
    have h4 := h3 (2 * k) hlt
    have h5 := h3 (2 * k + 1) (by omega)
    omega
   obtain ⟨e1, e2⟩ := zca (s := s) (e := 3) (by unfold hexE; rw [if_neg (by omega), if_pos hev, if_neg hb]) (by omega)
   rw [e1, e2]
   refine ⟨(by first | exact .inl rfl | exact .inr rfl), _, (fun o => o), (.tmp _ _ _ _ rfl (.tmp _ _ _ _ rfl .nil)), ?_, rfl, ?_, rfl⟩
   ·exact rfl
   ·exact trivial
  ·have h2 : 0 ≤ hv s (2 * k) ∧ 0 ≤ hv s (2 * k + 1) := by simpa [hv] using h
   change 0 ≤ hx (sAt s (2 * k)) ∧ 0 ≤ hx (sAt s (2 * k + 1)) at h2
   change -1 ≤ hx (sAt s (2 * k)) ∧ hx (sAt s (2 * k)) ≤ 15 at b1
   change -1 ≤ hx (sAt s (2 * k + 1)) ∧ hx (sAt s (2 * k + 1)) ≤ 15 at b2
   refine zae (zaf ?_)
   refine zaL (by kernel_rfl) ?_
   (refine zac (zam (r := .row _)) rfl rfl ?_)
   (refine zac (zam (r := .p _)) rfl rfl ?_)
   (refine zac (a_mul (by first | exact IntWalk.i64_in _ (by omega) | rfl)) rfl rfl ?_)
   (refine zac (zam (r := .p _)) rfl rfl ?_)
   (refine zac (za5 (by first | exact IntWalk.i64_in _ (by omega) | rfl)) rfl rfl ?_)
   (refine zac (zdR Tryz.underlying3 Tryz.underlying5 (by first | exact IntWalk.u8_in _ (by omega) | rfl)) rfl rfl ?_)
   (refine zah (zaO 46 Tryz.underlying99 sz5 zc5 (Nat.le_of_ble_eq_true rfl) (Nat.le_of_ble_eq_true rfl) rfl rfl rfl rfl (Nat.le_of_ble_eq_true rfl)) rfl rfl ⟨rfl, trivial⟩ ?_)
   (refine zah (zbe 47 Tryz.underlying99 eo5 (zb5) (by simp only [maxLen]; omega) (by omega) rfl rfl) rfl rfl ⟨rfl, rfl, rfl, trivial⟩ ?_)
   (refine zac (zas (r := .row _)) rfl rfl ?_)
   refine zab ?_
   refine zbb (zaf ?_)
   refine zaL (by kernel_rfl) ?_
   (refine zac (zam (r := .p _)) rfl rfl ?_)
   (refine zac (za5 (by first | exact IntWalk.i64_in _ (by omega) | rfl)) rfl rfl ?_)
   (refine zac (zas (r := .p _)) rfl rfl ?_)
   refine zab ?_
   refine zaf ?_
   refine ⟨m - 1, by omega, _, zaJ (fun _ => 47) _ _ ?_ ?_ rfl, k + 1, by omega, fun i hi => ?_, rfl⟩
   ·(repeat (first | exact trivial | (refine ⟨⟨(by first | rfl | (simp; done) | (simp; omega)), rfl⟩, ?_⟩)))
   ·rw [ze2]; simp only [bs, List.map_append]
    exact ⟨⟨rfl, rfl⟩, trivial⟩
   ·by_cases e1 : i = 2 * k
    ·subst e1; exact h2.1
    ·by_cases e2 : i = 2 * k + 1
     ·subst e2; exact h2.2
     ·exact hg i (by omega)
 ·have hge : s.size ≤ 2 * k := by simp at h; omega
  clear h
  have hb : zd6 s = true := (zdj s).2 fun i hi => hg i (by omega)
  obtain ⟨e1, e2⟩ := zdi (s := s) (by unfold hexE; rw [if_neg (by omega), if_pos hev, if_pos hb])
  obtain rfl : k = s.size / 2 := by omega
  refine zaI (zaa ?_)
  refine zaL (by kernel_rfl) ?_
  (refine zac (zam (r := .row _)) rfl rfl ?_)
  (refine zac (zas (r := .row _)) rfl rfl ?_)
  (refine zac (zas (r := .p _)) rfl rfl ?_)
  refine zab ?_
  refine zai ?_
  rw [e1, e2]
  refine ⟨(by first | exact .inl rfl | exact .inr rfl), _, (fun _ => 4), (.tmp _ _ _ _ rfl (.tmp _ _ _ _ rfl .nil)), ?_, rfl, ?_, rfl⟩
  ·exact rfl
  ·exact ⟨⟨rfl, rfl⟩, trivial⟩
def keyE (s : ByteArray) : Int := if s.size = 64 then hexE s else 1
theorem zcG (s : ByteArray) : Fn Tryz.prog 41 [.p (.v (.string s))] (.p (.v (.int .i64 (keyE s)))) [] := by
 refine zaw Tryz.func41 rfl (Nat.le_of_ble_eq_true rfl) fun w0 A => ?_
 refine zaa ?_
 refine zaL (by kernel_rfl) ?_
 (refine zac (zas (r := .p _)) rfl rfl ?_)
 refine zab ?_
 refine zaa (zaa ?_)
 refine zaL (by kernel_rfl) ?_
 (refine zac (zam (r := .p _)) rfl rfl ?_)
 (refine zac (zbM Tryz.underlying9) rfl rfl ?_)
 (refine zac zbR rfl rfl ?_)
 refine zab ?_
 refine zaf ?_
 refine zaq _ rfl (fun h => ?_) (fun h => ?_)
 ·have h2 : ¬ s.size = 64 := by simp at h; omega
  refine zaa ?_
  refine zaL (by kernel_rfl) ?_
  (refine zac (zas (r := .p _)) rfl rfl ?_)
  refine zab ?_
  refine zai (zau ?_)
  rw [show keyE s = 1 by unfold keyE; rw [if_neg h2]]
  refine ⟨(by first | exact .inl rfl | exact .inr rfl), _, (fun o => o), (.tmp _ _ _ _ rfl .nil), ?_, rfl, ?_, rfl⟩
  ·exact rfl
  ·exact trivial
 ·have h2 : s.size = 64 := by simp at h; omega
  rw [show keyE s = hexE s by unfold keyE; rw [if_pos h2]]
  by_cases he : hexE s = 0
  ·obtain ⟨e1, e2⟩ := zdi he
   have hc := zf4 s
   rw [e1, e2] at hc
   refine zae (zaa ?_)
   refine zaL (by kernel_rfl) ?_
   (refine zac (zam (r := .p _)) rfl rfl ?_)
   (refine zat (fun n => 10 + 1000 * n) (hc) rfl rfl Tryz.func66 rfl rfl (by first | rfl | simp [AV.okInL, AV.okIn, zan]) rfl rfl rfl (by first | exact trivial | exact ⟨rfl, trivial⟩ | exact ⟨rfl, rfl, trivial⟩ | exact ⟨rfl, rfl, rfl, rfl, rfl, trivial⟩) rfl rfl rfl ?_)
   (refine zac (zam (r := .tup _)) rfl rfl ?_)
   (refine zac (zal rfl) rfl rfl ?_)
   (refine zac (zal rfl) rfl rfl ?_)
   (refine zac (zas (r := .row _)) rfl rfl ?_)
   (refine zac (zas (r := .p _)) rfl rfl ?_)
   refine zab ?_
   refine zaa ?_
   refine zaL (by kernel_rfl) ?_
   (refine zac (zam (r := .p _)) rfl rfl ?_)
   (refine zac (zas (r := .p _)) rfl rfl ?_)
   refine zab ?_
   refine zai ?_
   rw [he]
   refine ⟨(by first | exact .inl rfl | exact .inr rfl), _, (fun o => o), (.tmp _ _ _ _ rfl .nil), ?_, rfl, ?_, rfl⟩
   ·exact rfl
   ·exact trivial
  ·obtain ⟨e1, e2⟩ := zca (e := hexE s) rfl he
   have hc := zf4 s
   rw [e1, e2] at hc
   refine zae (zaa ?_)
   refine zaL (by kernel_rfl) ?_
   (refine zac (zam (r := .p _)) rfl rfl ?_)
   (refine zat (fun n => 10 + 1000 * n) (hc) rfl rfl Tryz.func66 rfl rfl (by first | rfl | simp [AV.okInL, AV.okIn, zan]) rfl rfl rfl (by first | exact trivial | exact ⟨rfl, trivial⟩ | exact ⟨rfl, rfl, trivial⟩ | exact ⟨rfl, rfl, rfl, rfl, rfl, trivial⟩) rfl rfl rfl ?_)
   (refine zac (zam (r := .tup _)) rfl rfl ?_)
   (refine zac (zal rfl) rfl rfl ?_)
   (refine zac (zal rfl) rfl rfl ?_)
   (refine zac (zas (r := .p _)) rfl rfl ?_)
   (refine zac (zas (r := .p _)) rfl rfl ?_)
   refine zab ?_
   refine zaa ?_
   refine zaL (by kernel_rfl) ?_
   (refine zac (zam (r := .p _)) rfl rfl ?_)
   (refine zac (zas (r := .p _)) rfl rfl ?_)
   refine zab ?_
   refine zai ?_
   refine ⟨(by first | exact .inl rfl | exact .inr rfl), _, (fun o => o), (.tmp _ _ _ _ rfl .nil), ?_, rfl, ?_, rfl⟩
   ·exact rfl
   ·exact trivial
def zby (s : ByteArray) (i : Nat) : List Int := zcZ s (i / 2) ++ (if i % 2 = 1 then [hv s (i - 1)] else [])
theorem zfD (s : ByteArray) (i : Nat) : (zby s i).length = (i + 1) / 2 := by
 unfold zby
 rw [List.length_append, zb7]
 split <;> simp <;> omega
theorem hexPart_even (s : ByteArray) (i : Nat) (h : i % 2 = 0) : (zby s i ++ [0]).set (i / 2) (hv s i) = zby s (i + 1) := by
 have h1 : ¬ i % 2 = 1 := by omega
 have h2 : (i + 1) % 2 = 1 := by omega
 have h3 : (i + 1) / 2 = i / 2 := by omega
 unfold zby
 rw [if_neg h1, if_pos h2, h3, List.append_nil]
 rw [List.set_append_right _ _ (by rw [zb7]; omega), zb7]
 simp
theorem hexPart_odd (s : ByteArray) (i : Nat) (h : i % 2 = 1) : (zby s i).set (i / 2) (hv s (i - 1) * 16 + hv s i) = zby s (i + 1) := by
 have h2 : ¬ (i + 1) % 2 = 1 := by omega
 have h3 : (i + 1) / 2 = i / 2 + 1 := by omega
 unfold zby
 rw [if_pos h, if_neg h2, h3, List.append_nil, ze2]
 rw [List.set_append_right _ _ (by rw [zb7]; omega), zb7]
 have e1 : 2 * (i / 2) = i - 1 := by omega
 have e2 : 2 * (i / 2) + 1 = i := by omega
 rw [e2, e1, Int.mul_comm]
 simp
theorem hexPart_getE (s : ByteArray) (i : Nat) (h : i % 2 = 0) : (zby s i ++ [0])[i / 2]? = some 0 := by
 have hl := zfD s i
 rw [List.getElem?_append_right (by omega)]
 have : i / 2 - (zby s i).length = 0 := by omega
 rw [this]; rfl
theorem hexPart_getO (s : ByteArray) (i : Nat) (h : i % 2 = 1) : (zby s i)[i / 2]? = some (hv s (i - 1)) := by
 unfold zby
 rw [if_pos h, List.getElem?_append_right (by rw [zb7]; omega), zb7]
 simp
theorem hexPart_full (s : ByteArray) (h : s.size % 2 = 0) : zby s s.size = zcZ s (s.size / 2) := by
 unfold zby
 rw [if_neg (by omega), List.append_nil]
theorem zfY (s : ByteArray) : Fn Tryz.prog 89 [.p (.v (.string s))] (zf2 s) (zf3 s) := by
 refine zaw Tryz.func89 rfl (Nat.le_of_ble_eq_true rfl) fun w0 A => ?_
 refine zaa ?_
 refine zaL (by kernel_rfl) ?_
 (refine zac (zas (r := .p _)) rfl rfl ?_)
 (refine zac (zas (r := .p _)) rfl rfl ?_)
 refine zab ?_
 refine zaa (zaa ?_)
 refine zaL (by kernel_rfl) ?_
 (refine zac (zam (r := .p _)) rfl rfl ?_)
 (refine zac (zbM Tryz.underlying9) rfl rfl ?_)
 (refine zac zbA rfl rfl ?_)
 refine zab ?_
 refine zaf ?_
 refine zaq _ rfl (fun h => ?_) (fun h => ?_)
 ·have h2 : 2000 < s.size := by simp at h; omega
  refine zaa ?_
  refine zaL (by kernel_rfl) ?_
  (refine zac (zas (r := .p _)) rfl rfl ?_)
  (refine zac (zas (r := .p _)) rfl rfl ?_)
  refine zab ?_
  refine zai (zau ?_)
  obtain ⟨e1, e2⟩ := zca (s := s) (e := 1) (by unfold hexE; rw [if_pos h2]) (by omega)
  rw [e1, e2]
  refine ⟨(by first | exact .inl rfl | exact .inr rfl), _, (fun o => o), (.tmp _ _ _ _ rfl (.tmp _ _ _ _ rfl .nil)), ?_, rfl, ?_, rfl⟩
  ·exact rfl
  ·exact trivial
 have hsz : s.size ≤ 2000 := by simp at h; omega
 clear h
 refine zae (zaa (zaa ?_))
 refine zaL (by kernel_rfl) ?_
 (refine zac (zam (r := .p _)) rfl rfl ?_)
 (refine zac (zbM Tryz.underlying9) rfl rfl ?_)
 (refine zac (a_bits (by simp) (zfC _ (by omega))) rfl rfl ?_)
 (refine zac zaz rfl rfl ?_)
 refine zab ?_
 refine zaf ?_
 refine zaq _ rfl (fun h => ?_) (fun h => ?_)
 ·have h2 : ¬ s.size % 2 = 0 := by simp at h; omega
  refine zaa ?_
  refine zaL (by kernel_rfl) ?_
  (refine zac (zas (r := .p _)) rfl rfl ?_)
  (refine zac (zas (r := .p _)) rfl rfl ?_)
  refine zab ?_
  refine zai (zau ?_)
  obtain ⟨e1, e2⟩ := zca (s := s) (e := 3) (by unfold hexE; rw [if_neg (by omega), if_neg h2]) (by omega)
  rw [e1, e2]
  refine ⟨(by first | exact .inl rfl | exact .inr rfl), _, (fun o => o), (.tmp _ _ _ _ rfl (.tmp _ _ _ _ rfl .nil)), ?_, rfl, ?_, rfl⟩
  ·exact rfl
  ·exact trivial
 have hev : s.size % 2 = 0 := by simp at h; omega
 clear h
 have hml : s.size ≤ maxLen := by simp only [maxLen]; omega
 refine zae (zaa ?_)
 refine zaL (by kernel_rfl) ?_
 (refine zac (zas (r := .p _)) rfl rfl ?_)
 refine zab ?_
 refine zaa (zaa ?_)
 refine zaL (by kernel_rfl) ?_
 (refine zac (zam (r := .p _)) rfl rfl ?_)
 (refine zah (a_s2b 16 Tryz.underlying9 Tryz.underlying99 Tryz.underlying5 (by first | omega | (simp only [maxLen]; omega)) rfl rfl) rfl rfl ⟨rfl, trivial⟩ ?_)
 (refine zah (zbd Tryz.underlying99) rfl rfl ⟨rfl, trivial⟩ ?_)
 (refine zac (zam (r := .p _)) rfl rfl ?_)
 refine zab ?_
 refine zak ?_
 refine zbl (zdx 4 4 5 1 rfl rfl) ?_
 refine zaN (fun m st => ∃ k : Nat, m + k = s.size ∧ (∀ i, i < k → 0 ≤ hv s i) ∧ st = St.of [(4, .row 4), (16, .row 16), (17, .p (.v (.int .i64 s.size))), (18, .p (.v (.int .i64 k)))] [(4, .row 5 1 ((k + 1) / 2) (bs (zby s k))), (16, .row 5 1 s.size (bs (sb s)))]) s.size ?_ ?_
 ·refine ⟨_, zaJ id _ _ ?_ ?_ rfl, 0, by omega, fun i hi => by omega, rfl⟩
  ·(repeat (first | exact trivial | (refine ⟨⟨(by first | rfl | (simp; done) | (simp; omega)), rfl⟩, ?_⟩)))
  ·exact ⟨⟨rfl, rfl⟩, ⟨rfl, rfl⟩, trivial⟩
 rintro m st ⟨k, hk, hg, rfl⟩
 refine zaa ?_
 refine zaL (by kernel_rfl) ?_
 (refine zac za8 rfl rfl ?_)
 refine zab ?_
 refine zaa ?_
 refine zaq _ rfl (fun h => ?_) (fun h => ?_)
 ·have hlt : k < s.size := by simp at h; omega
  clear h
  have g1 := bs_at (sb_at hlt)
  refine zae (zaa (zak (zaa ?_)))
  refine zaL (by kernel_rfl) ?_
  (refine zac (zam (r := .p _)) rfl rfl ?_)
  (refine zah (zaG Tryz.underlying99 sz5 (by omega) (by omega) (by first | (simp only [Int.toNat_natCast, Nat.mul_one, Nat.zero_add]; rfl) | rfl)) rfl rfl ⟨rfl, trivial⟩ ?_)
  (refine zah (zbv Tryz.underlying5 rfl (by first | rfl | assumption | ((try simp only [List.getElem?_drop, List.getElem?_take, Int.toNat_natCast, Nat.mul_one, Nat.add_zero, Nat.zero_add]); first | assumption | rfl))) rfl rfl ⟨rfl, trivial⟩ ?_)
  (refine zac (zas (r := .p _)) rfl rfl ?_)
  (refine zac (zas (r := .p _)) rfl rfl ?_)
  refine zab ?_
  refine zaa ?_
  refine zaL (by kernel_rfl) ?_
  (refine zac (zam (r := .p _)) rfl rfl ?_)
  (refine zaC (fun n => 24 + 1000 * n) (ib_s _) rfl rfl Tryz.func104 rfl rfl (by first | rfl | simp [AV.noSl, AV.noSlL, AObj.noSl, PV.isV, zap]) (by first | rfl | simp [AV.noSl, AV.noSlL, AObj.noSl, PV.isV, zap]) rfl rfl rfl (by first | exact trivial | exact ⟨rfl, trivial⟩ | exact ⟨rfl, rfl, trivial⟩ | exact ⟨rfl, rfl, rfl, rfl, rfl, trivial⟩) rfl rfl rfl ?_)
  (refine zac (zas (r := .p _)) rfl rfl ?_)
  refine zab ?_
  refine zaa (zaa ?_)
  have b1 : -1 ≤ hx (sAt s k) ∧ hx (sAt s k) ≤ 15 := hx_bd _
  refine zaL (by kernel_rfl) ?_
  (refine zac (zam (r := .p _)) rfl rfl ?_)
  (refine zac za8 rfl rfl ?_)
  refine zab ?_
  refine zaf ?_
  refine zaq _ rfl (fun h => ?_) (fun h => ?_)
  ·have h2 : hv s k < 0 := by simpa [hv] using h
   refine zaa ?_
   refine zaL (by kernel_rfl) ?_
   (refine zac (zas (r := .p _)) rfl rfl ?_)
   (refine zac (zas (r := .p _)) rfl rfl ?_)
   refine zab ?_
   refine zai (zau (zaU (zau (zau (zaU (zau ?_))))))
   have hb : ¬ zd6 s = true := fun hh => by
    have h3 := (zdj s).1 hh k hlt
    omega
   obtain ⟨e1, e2⟩ := zca (s := s) (e := 3) (by unfold hexE; rw [if_neg (by omega), if_pos hev, if_neg hb]) (by omega)
   rw [e1, e2]
   refine ⟨(by first | exact .inl rfl | exact .inr rfl), _, (fun o => o), (.tmp _ _ _ _ rfl (.tmp _ _ _ _ rfl .nil)), ?_, rfl, ?_, rfl⟩
   ·exact rfl
   ·exact trivial
  have h2 : 0 ≤ hx (sAt s k) := by simpa using h
  clear h
  have hpl := zfD s k
  refine zae (zaa (zaa ?_))
  refine zaL (by kernel_rfl) ?_
  (refine zac (zam (r := .p _)) rfl rfl ?_)
  (refine zac (a_bits (by simp) (zfC _ (by omega))) rfl rfl ?_)
  (refine zac zaz rfl rfl ?_)
  refine zab ?_
  refine zaf ?_
  refine zaq _ rfl (fun h => ?_) (fun h => ?_)
  ·have h3 : k % 2 = 0 := by simp at h; omega
   clear h
   have hn : (k + 1) / 2 + 1 = (k + 2) / 2 := by omega
   skip
   refine zaL (by kernel_rfl) ?_
   (refine zac (zam (r := .row _)) rfl rfl ?_)
   (refine zah (zaO 31 Tryz.underlying99 sz5 zc5 (Nat.le_of_ble_eq_true rfl) (Nat.le_of_ble_eq_true rfl) rfl rfl rfl rfl (Nat.le_of_ble_eq_true rfl)) rfl rfl ⟨rfl, trivial⟩ ?_)
   (refine zah (zbe 32 Tryz.underlying99 eo5 (zb5) (by simp only [maxLen]; omega) (by omega) hn rfl) rfl rfl ⟨rfl, rfl, rfl, trivial⟩ ?_)
   (refine zac (zas (r := .row _)) rfl rfl ?_)
   refine zab ?_
   refine zaf ?_
   have g2 : (bs (zby s k) ++ [PV.v (.int .u8 0)])[k / 2]? = some (.v (.int .u8 0)) := by rw [bs_push]; exact bs_at (hexPart_getE s k h3)
   have q1 : (bs (zby s k) ++ [PV.v (.int .u8 0)]).length = (k + 2) / 2 := by rw [List.length_append, bs_length, hpl]; simp; omega
   have q2 : setR (bs (zby s k) ++ [PV.v (.int .u8 0)]) (k / 2) [.v (.int .u8 (0 * 16 + hx (sAt s k)))] = bs (zby s (k + 1)) := by
    rw [bs_push, bs_set (by rw [bs_push, bs_length] at q1; omega), Int.zero_mul, Int.zero_add]
    exact congrArg bs (hexPart_even s k h3)
   refine zaL (by kernel_rfl) ?_
   (refine zac (zam (r := .row _)) rfl rfl ?_)
   (refine zac (zam (r := .p _)) rfl rfl ?_)
   (refine zac (a_quo (by omega) (by first | exact IntWalk.i64_quo _ _ (by omega) | rfl)) rfl rfl ?_)
   (refine zac (zam (r := .row _)) rfl rfl ?_)
   (refine zac (zam (r := .p _)) rfl rfl ?_)
   (refine zac (a_quo (by omega) (by first | exact IntWalk.i64_quo _ _ (by omega) | rfl)) rfl rfl ?_)
   (refine zah (zaG Tryz.underlying99 sz5 (by omega) (by omega) (show _ = k / 2 by omega)) rfl rfl ⟨rfl, trivial⟩ ?_)
   (refine zah (zbv Tryz.underlying5 rfl g2) rfl rfl ⟨rfl, trivial⟩ ?_)
   (refine zac (a_mul (by first | exact IntWalk.u8_in _ (by omega) | rfl)) rfl rfl ?_)
   (refine zac (zam (r := .p _)) rfl rfl ?_)
   (refine zac (zdR Tryz.underlying3 Tryz.underlying5 (by first | exact IntWalk.u8_in _ (by omega) | rfl)) rfl rfl ?_)
   (refine zac (za5 (by first | exact IntWalk.u8_in _ (by omega) | rfl)) rfl rfl ?_)
   (refine zah (zaG Tryz.underlying99 sz5 (by omega) (by omega) (show _ = k / 2 by omega)) rfl rfl ⟨rfl, trivial⟩ ?_)
   (refine zah (zb4 (Y := .p _) sz5 rfl rfl (by first | rfl | omega) (by first | omega | (simp; done) | (simp; omega)) q2) rfl rfl ⟨rfl, trivial⟩ ?_)
   refine zab ?_
   refine zbb (zaf ?_)
   refine zaL (by kernel_rfl) ?_
   (refine zac (za5 (by first | exact IntWalk.i64_in _ (by omega) | rfl)) rfl rfl ?_)
   (refine zac (zam (r := .p _)) rfl rfl ?_)
   refine zab ?_
   refine zaf ?_
   refine ⟨m - 1, by omega, _, zaJ (fun o => bif Nat.beq o 4 then 32 else o) _ _ ?_ ?_ rfl, k + 1, by omega, fun i hi => ?_, rfl⟩
   ·(repeat (first | exact trivial | (refine ⟨⟨(by first | rfl | (simp; done) | (simp; omega)), rfl⟩, ?_⟩)))
   ·exact ⟨⟨by rw [show (k + 1 + 1) / 2 = (k + 2) / 2 from rfl]; rfl, rfl⟩, ⟨rfl, rfl⟩, trivial⟩
   ·by_cases e1 : i = k
    ·subst e1; exact h2
    ·exact hg i (by omega)
  ·have h3 : k % 2 = 1 := by simp at h; omega
   clear h
   have g2 := bs_at (hexPart_getO s k h3)
   have b2 : -1 ≤ hv s (k - 1) ∧ hv s (k - 1) ≤ 15 := hx_bd _
   have b3 := hg (k - 1) (by omega)
   have q1 : (bs (zby s k)).length = (k + 1) / 2 := by rw [bs_length, hpl]
   have q2 : setR (bs (zby s k)) (k / 2) [.v (.int .u8 (hv s (k - 1) * 16 + hx (sAt s k)))] = bs (zby s (k + 1)) := by
    rw [bs_set (by omega)]
    exact congrArg bs (hexPart_odd s k h3)
   refine zae (zaf ?_)
   refine zaL (by kernel_rfl) ?_
   (refine zac (zam (r := .row _)) rfl rfl ?_)
   (refine zac (zam (r := .p _)) rfl rfl ?_)
   (refine zac (a_quo (by omega) (by first | exact IntWalk.i64_quo _ _ (by omega) | rfl)) rfl rfl ?_)
   (refine zac (zam (r := .row _)) rfl rfl ?_)
   (refine zac (zam (r := .p _)) rfl rfl ?_)
   (refine zac (a_quo (by omega) (by first | exact IntWalk.i64_quo _ _ (by omega) | rfl)) rfl rfl ?_)
   (refine zah (zaG Tryz.underlying99 sz5 (by omega) (by omega) (show _ = k / 2 by omega)) rfl rfl ⟨rfl, trivial⟩ ?_)
   (refine zah (zbv Tryz.underlying5 rfl g2) rfl rfl ⟨rfl, trivial⟩ ?_)
   (refine zac (a_mul (by first | exact IntWalk.u8_in _ (by omega) | rfl)) rfl rfl ?_)
   (refine zac (zam (r := .p _)) rfl rfl ?_)
   (refine zac (zdR Tryz.underlying3 Tryz.underlying5 (by first | exact IntWalk.u8_in _ (by omega) | rfl)) rfl rfl ?_)
   (refine zac (za5 (by first | exact IntWalk.u8_in _ (by omega) | rfl)) rfl rfl ?_)
   (refine zah (zaG Tryz.underlying99 sz5 (by omega) (by omega) (show _ = k / 2 by omega)) rfl rfl ⟨rfl, trivial⟩ ?_)
   (refine zah (zb4 (Y := .p _) sz5 rfl rfl (by first | rfl | omega) (by first | omega | (simp; done) | (simp; omega)) q2) rfl rfl ⟨rfl, trivial⟩ ?_)
   refine zab ?_
   refine zbb (zaf ?_)
   refine zaL (by kernel_rfl) ?_
   (refine zac (za5 (by first | exact IntWalk.i64_in _ (by omega) | rfl)) rfl rfl ?_)
   (refine zac (zam (r := .p _)) rfl rfl ?_)
   refine zab ?_
   refine zaf ?_
   refine ⟨m - 1, by omega, _, zaJ id _ _ ?_ ?_ rfl, k + 1, by omega, fun i hi => ?_, rfl⟩
   ·(repeat (first | exact trivial | (refine ⟨⟨(by first | rfl | (simp; done) | (simp; omega)), rfl⟩, ?_⟩)))
   ·exact ⟨⟨by rw [show (k + 1 + 1) / 2 = (k + 1) / 2 by omega]; rfl, rfl⟩, ⟨rfl, rfl⟩, trivial⟩
   ·by_cases e1 : i = k
    ·subst e1; exact h2
    ·exact hg i (by omega)
 ·have hge : s.size ≤ k := by simp at h; omega
  clear h
  have hb : zd6 s = true := (zdj s).2 fun i hi => hg i (by omega)
  obtain ⟨e1, e2⟩ := zdi (s := s) (by unfold hexE; rw [if_neg (by omega), if_pos hev, if_pos hb])
  obtain rfl : k = s.size := by omega
  refine zaI (zaa ?_)
  refine zaL (by kernel_rfl) ?_
  (refine zac (zam (r := .row _)) rfl rfl ?_)
  (refine zac (zas (r := .row _)) rfl rfl ?_)
  (refine zac (zas (r := .p _)) rfl rfl ?_)
  refine zab ?_
  refine zai ?_
  rw [e1, e2]
  refine ⟨(by first | exact .inl rfl | exact .inr rfl), _, (fun _ => 4), (.tmp _ _ _ _ rfl (.tmp _ _ _ _ rfl .nil)), ?_, rfl, ?_, rfl⟩
  ·exact rfl
  ·rw [← hexPart_full s hev, ← show (s.size + 1) / 2 = s.size / 2 by omega]
   exact ⟨⟨rfl, rfl⟩, trivial⟩
theorem zcF (s : ByteArray) : Fn Tryz.prog 55 [.p (.v (.string s))] (.p (.v (.int .i64 (keyE s)))) [] := by
 refine zaw Tryz.func55 rfl (Nat.le_of_ble_eq_true rfl) fun w0 A => ?_
 refine zaa ?_
 refine zaL (by kernel_rfl) ?_
 (refine zac (zas (r := .p _)) rfl rfl ?_)
 refine zab ?_
 refine zaa (zaa ?_)
 refine zaL (by kernel_rfl) ?_
 (refine zac (zam (r := .p _)) rfl rfl ?_)
 (refine zac (zbM Tryz.underlying9) rfl rfl ?_)
 (refine zac zbR rfl rfl ?_)
 refine zab ?_
 refine zaf ?_
 refine zaq _ rfl (fun h => ?_) (fun h => ?_)
 ·have h2 : ¬ s.size = 64 := by simp at h; omega
  refine zaa ?_
  refine zaL (by kernel_rfl) ?_
  (refine zac (zas (r := .p _)) rfl rfl ?_)
  refine zab ?_
  refine zai (zau ?_)
  rw [show keyE s = 1 by unfold keyE; rw [if_neg h2]]
  refine ⟨(by first | exact .inl rfl | exact .inr rfl), _, (fun o => o), (.tmp _ _ _ _ rfl .nil), ?_, rfl, ?_, rfl⟩
  ·exact rfl
  ·exact trivial
 ·have h2 : s.size = 64 := by simp at h; omega
  have hk : hexE s = 0 ∨ hexE s = 3 := by
   unfold hexE
   rw [if_neg (by omega), if_pos (by omega)]
   split
   ·exact .inl rfl
   ·exact .inr rfl
  rw [show keyE s = hexE s by unfold keyE; rw [if_pos h2]]
  rcases hk with he | he
  ·obtain ⟨e1, e2⟩ := zdi he
   have hc := zfY s
   rw [e1, e2] at hc
   refine zae (zaa (zaa ?_))
   refine zaL (by kernel_rfl) ?_
   (refine zac (zam (r := .p _)) rfl rfl ?_)
   (refine zat (fun n => 10 + 1000 * n) (hc) rfl rfl Tryz.func89 rfl rfl (by first | rfl | simp [AV.okInL, AV.okIn, zan]) rfl rfl rfl (by first | exact trivial | exact ⟨rfl, trivial⟩ | exact ⟨rfl, rfl, trivial⟩ | exact ⟨rfl, rfl, rfl, rfl, rfl, trivial⟩) rfl rfl rfl ?_)
   (refine zac (zam (r := .tup _)) rfl rfl ?_)
   (refine zac (zal rfl) rfl rfl ?_)
   (refine zac (zal rfl) rfl rfl ?_)
   (refine zac (zas (r := .row _)) rfl rfl ?_)
   (refine zac (zas (r := .p _)) rfl rfl ?_)
   refine zab ?_
   refine zaa ?_
   refine zaL (by kernel_rfl) ?_
   (refine zac (zam (r := .p _)) rfl rfl ?_)
   (refine zac zbR rfl rfl ?_)
   refine zab ?_
   refine zaf ?_
   refine zaq _ rfl (fun h => ?_) (fun h => ?_)
   ·cases h
   refine zae (zaa ?_)
   refine zaL (by kernel_rfl) ?_
   (refine zac (zas (r := .p _)) rfl rfl ?_)
   refine zab ?_
   refine zai ?_
   rw [he]
   refine ⟨(by first | exact .inl rfl | exact .inr rfl), _, (fun o => o), (.tmp _ _ _ _ rfl .nil), ?_, rfl, ?_, rfl⟩
   ·exact rfl
   ·exact trivial
  ·obtain ⟨e1, e2⟩ := zca (s := s) he (by omega)
   have hc := zfY s
   rw [e1, e2] at hc
   refine zae (zaa (zaa ?_))
   refine zaL (by kernel_rfl) ?_
   (refine zac (zam (r := .p _)) rfl rfl ?_)
   (refine zat (fun n => 10 + 1000 * n) (hc) rfl rfl Tryz.func89 rfl rfl (by first | rfl | simp [AV.okInL, AV.okIn, zan]) rfl rfl rfl (by first | exact trivial | exact ⟨rfl, trivial⟩ | exact ⟨rfl, rfl, trivial⟩ | exact ⟨rfl, rfl, rfl, rfl, rfl, trivial⟩) rfl rfl rfl ?_)
   (refine zac (zam (r := .tup _)) rfl rfl ?_)
   (refine zac (zal rfl) rfl rfl ?_)
   (refine zac (zal rfl) rfl rfl ?_)
   (refine zac (zas (r := .p _)) rfl rfl ?_)
   (refine zac (zas (r := .p _)) rfl rfl ?_)
   refine zab ?_
   refine zaa ?_
   refine zaL (by kernel_rfl) ?_
   (refine zac (zam (r := .p _)) rfl rfl ?_)
   (refine zac zbR rfl rfl ?_)
   refine zab ?_
   refine zaf ?_
   refine zaq _ rfl (fun h => ?_) (fun h => ?_)
   ·refine zaa ?_
    refine zaL (by kernel_rfl) ?_
    (refine zac (zas (r := .p _)) rfl rfl ?_)
    refine zab ?_
    refine zai (zau ?_)
    rw [he]
    refine ⟨(by first | exact .inl rfl | exact .inr rfl), _, (fun o => o), (.tmp _ _ _ _ rfl .nil), ?_, rfl, ?_, rfl⟩
    ·exact rfl
    ·exact trivial
   ·cases h
end Go.Proofs.YtkdfdcodkeclmaaGreatDoor
