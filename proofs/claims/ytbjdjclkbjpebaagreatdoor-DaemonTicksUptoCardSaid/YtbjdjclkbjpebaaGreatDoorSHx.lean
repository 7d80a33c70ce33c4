/- hex.Bytes, hex.Check and their references, over data. The references HexBytes and HexFault, over data. -/
import Derived.Test.YtbjdjclkbjpebaaGreatDoorSMa4
import Derived.Test.YtbjdjclkbjpebaaGreatDoorSTab
import Derived.Test.YtbjdjclkbjpebaaGreatDoorSShelf
namespace Go.Proofs.YtbjdjclkbjpebaaGreatDoor
open Tryz
open Go.RowKit Go.Sort
set_option linter.unusedVariables false
set_option linter.unusedSimpArgs false
set_option maxRecDepth 100000
def DIG : ByteArray := ⟨#[48, 49, 50, 51, 52, 53, 54, 55, 56, 57, 97, 98, 99, 100, 101, 102]⟩
def hx (x : Int) : Int := Lib.indexByte DIG.data.toList x.toNat.toUInt8
theorem ib_s (x : Int) : Fn prog 120 [.p (.v (.string ⟨#[48, 49, 50, 51, 52, 53, 54, 55, 56, 57, 97, 98, 99, 100, 101, 102]⟩)), .p (.v (.int .u8 x))] (.p (.v (.int .i64 (hx x)))) [] :=
 zis [.string ⟨#[48, 49, 50, 51, 52, 53, 54, 55, 56, 57, 97, 98, 99, 100, 101, 102]⟩, .int .u8 x] rfl fun w => strings_IndexByte _ x w
theorem hx_fin : ∀ n : _root_.Fin 256, -1 ≤ Lib.indexByte DIG.data.toList n.val.toUInt8 ∧ Lib.indexByte DIG.data.toList n.val.toUInt8 ≤ 15 := by decide +kernel
theorem hx_bd (x : Int) : -1 ≤ hx x ∧ hx x ≤ 15 := by
 have h := hx_fin ⟨x.toNat % 256, Nat.mod_lt _ (by decide)⟩
 have e : (x.toNat % 256).toUInt8 = x.toNat.toUInt8 := by
  apply UInt8.toNat_inj.1
  show (UInt8.ofNat _).toNat = (UInt8.ofNat _).toNat
  simp only [UInt8.toNat_ofNat']
  omega
 unfold hx
 simp only [e] at h
 exact h
def hv (s : ByteArray) (i : Nat) : Int := hx (sAt s i)
def zaq (s : ByteArray) (k : Nat) : List Int := (List.range k).map fun j => 16 * hv s (2 * j) + hv s (2 * j + 1)
theorem zf0 (s : ByteArray) (k : Nat) : zaq s (k + 1) = zaq s k ++ [16 * hv s (2 * k) + hv s (2 * k + 1)] := by simp [zaq, List.range_succ]
theorem zaP (s : ByteArray) (k : Nat) : (zaq s k).length = k := by simp [zaq]
def zcp (s : ByteArray) : Bool := (List.range s.size).all fun i => decide (0 ≤ hv s i)
theorem zbP (s : ByteArray) : zcp s = true ↔ ∀ i, i < s.size → 0 ≤ hv s i := by simp [zcp]
def hexE (s : ByteArray) : Int := if 2000 < s.size then 1 else if s.size % 2 = 0 then (if zcp s = true then 0 else 3) else 3
def zhN (s : ByteArray) : AV := if hexE s = 0 then .tup [.row 0, .p (.v (.int .i64 0))] else .tup [.p (.v (.slice none 0 0)), .p (.v (.int .i64 (hexE s)))]
def zhO (s : ByteArray) : List (Nat × AObj) := if hexE s = 0 then [(0, .row 5 1 (s.size / 2) (bs (zaq s (s.size / 2))))] else []
theorem zbw {s : ByteArray} {e : Int} (h : hexE s = e) (he : e ≠ 0) : zhN s = .tup [.p (.v (.slice none 0 0)), .p (.v (.int .i64 e))] ∧ zhO s = [] := by
 unfold zhN zhO
 rw [h, if_neg he, if_neg he]; exact ⟨rfl, rfl⟩
theorem za1 {s : ByteArray} (h : hexE s = 0) : zhN s = .tup [.row 0, .p (.v (.int .i64 0))] ∧ zhO s = [(0, .row 5 1 (s.size / 2) (bs (zaq s (s.size / 2))))] := by
 unfold zhN zhO
 rw [h, if_pos rfl, if_pos rfl]; exact ⟨rfl, rfl⟩
theorem zci (s : ByteArray) : Fn prog 88 [.p (.v (.string s))] (zhN s) (zhO s) := by
 refine fnI fun w0 A => ?_
 refine G [12, 9, 0] ?_
 refine cX (fun h => ?_) fun h => ?_
 ·exact jbI
 have hsz : s.size ≤ 2000 := by have := of_decide_eq_false h; omega
 clear h
 refine G [6] ?_
 refine jdd ?_
 refine G [2, 9, 0] ?_
 refine cX (fun h => ?_) fun h => ?_
 ·exact jbv
 have hev : s.size % 2 = 0 := by simp at h; omega
 clear h
 refine G [5] ?_
 refine jcy ?_
 refine zab (zhn 18 U62 eo5 (by omega) (by omega) (by simp only [maxLen]; omega)) rfl rfl ⟨rfl, trivial⟩ ?_
 refine G [8] ?_
 refine zag (fun m st => ∃ k : Nat, m + k = s.size / 2 ∧ (∀ i, i < 2 * k → 0 ≤ hv s i) ∧ st = St.of [(0, .p (.v (.string s))), (4, .row 4), (5, .p (.v (.int .i64 (2 * k))))] [(4, .row 5 1 k (bs (zaq s k)))]) (s.size / 2) ?_ ?_
 ·refine ⟨_, zah (fun _ => 18) _ _ ?_ ?_ rfl, 0, by omega, fun i hi => by omega, rfl⟩
  ·exact jak
  ·exact ⟨⟨rfl, rfl⟩, trivial⟩
 rintro m st ⟨k, hk, hg, rfl⟩
 refine jcM ?_
 refine cX (fun h => ?_) fun h => ?_
 ·have hlt : 2 * k < s.size := by simp at h; omega
  clear h
  have g1 := zh7 (s := s) (i := 2 * k) hlt
  have g2 := zh7 (s := s) (i := 2 * k + 1) (by omega)
  refine G [7] ?_
  refine zaa (zbE U9 (by omega) (by exact g1)) rfl rfl ?_
  refine cV (ib_s _) ?_
  refine G [3] ?_
  refine zaa (zbE U9 (by omega) (by exact g2)) rfl rfl ?_
  refine cV (ib_s _) ?_
  refine G [11, 2, 1, 9, 0] ?_
  have b1 : -1 ≤ hv s (2 * k) ∧ hv s (2 * k) ≤ 15 := hx_bd _
  have b2 : -1 ≤ hv s (2 * k + 1) ∧ hv s (2 * k + 1) ≤ 15 := hx_bd _
  refine cX (fun h => ?_) fun h => ?_
  ·have h2 : hv s (2 * k) < 0 ∨ hv s (2 * k + 1) < 0 := by simpa [hv] using h
   refine jcs ?_
   have hb : ¬ zcp s = true := fun hh => by
    have h3 := (zbP s).1 hh
    have h4 := h3 (2 * k) hlt
    have h5 := h3 (2 * k + 1) (by omega)
    omega
   exact jbY
  ·have h2 : 0 ≤ hv s (2 * k) ∧ 0 ≤ hv s (2 * k + 1) := by simpa [hv] using h
   change 0 ≤ hx (sAt s (2 * k)) ∧ 0 ≤ hx (sAt s (2 * k + 1)) at h2
   change -1 ≤ hx (sAt s (2 * k)) ∧ hx (sAt s (2 * k)) ≤ 15 at b1
   change -1 ≤ hx (sAt s (2 * k + 1)) ∧ hx (sAt s (2 * k + 1)) ≤ 15 at b2
   refine G [8] ?_
   refine jdA (zae 46 U62 sz5 zc5 (Nat.le_of_ble_eq_true rfl) (Nat.le_of_ble_eq_true rfl) rfl rfl rfl rfl (Nat.le_of_ble_eq_true rfl)) ?_
   refine zab (zal 47 U62 eo5 (zax) (by simp only [maxLen]; omega) (by omega) rfl rfl) rfl rfl ⟨rfl, rfl, rfl, trivial⟩ ?_
   refine jcq ?_
   refine ⟨m - 1, by omega, _, zah (fun _ => 47) _ _ ?_ ?_ rfl, k + 1, by omega, fun i hi => ?_, rfl⟩
   ·exact jak
   ·rw [zf0]; simp only [bs, List.map_append]
    exact ⟨⟨rfl, rfl⟩, trivial⟩
   ·by_cases e1 : i = 2 * k
    ·subst e1; exact h2.1
    ·by_cases e2 : i = 2 * k + 1
     ·subst e2; exact h2.2
     ·exact hg i (by omega)
 ·have hge : s.size ≤ 2 * k := by simp at h; omega
  clear h
  have hb : zcp s = true := (zbP s).2 fun i hi => hg i (by omega)
  obtain ⟨e1, e2⟩ := za1 (s := s) (by unfold hexE; rw [if_neg (by omega), if_pos hev, if_pos hb])
  obtain rfl : k = s.size / 2 := by omega
  refine G [8] ?_
  rw [e1, e2]
  refine yT (fun _ => 4) ?_ ?_
  ·exact rfl
  ·exact ⟨⟨rfl, rfl⟩, trivial⟩
def keyE (s : ByteArray) : Int := if s.size = 64 then hexE s else 1
theorem zbf (s : ByteArray) : Fn prog 55 [.p (.v (.string s))] (.p (.v (.int .i64 (keyE s)))) [] := by
 refine fnI fun w0 A => ?_
 refine G [11, 9, 0] ?_
 refine cX (fun h => ?_) fun h => ?_
 ·exact jb6
 ·have h2 : s.size = 64 := by simp at h; omega
  rw [show keyE s = hexE s by unfold keyE; rw [if_pos h2]]
  by_cases he : hexE s = 0
  ·obtain ⟨e1, e2⟩ := za1 he
   have hc := zci s
   rw [e1, e2] at hc
   refine G [4] ?_
   refine cK hc ?_
   refine G [12] ?_
   rw [he]
   exact yE
  ·obtain ⟨e1, e2⟩ := zbw (e := hexE s) rfl he
   have hc := zci s
   rw [e1, e2] at hc
   refine G [4] ?_
   refine cK hc ?_
   refine G [12, 9, 0] ?_
   exact yE
def zbt (s : ByteArray) (i : Nat) : List Int := zaq s (i / 2) ++ (if i % 2 = 1 then [hv s (i - 1)] else [])
theorem zg5 (s : ByteArray) (i : Nat) : (zbt s i).length = (i + 1) / 2 := by
 unfold zbt
 rw [List.length_append, zaP]
 split <;> simp <;> omega
theorem hexPart_even (s : ByteArray) (i : Nat) (h : i % 2 = 0) : (zbt s i ++ [0]).set (i / 2) (hv s i) = zbt s (i + 1) := by
 have h1 : ¬ i % 2 = 1 := by omega
 have h2 : (i + 1) % 2 = 1 := by omega
 have h3 : (i + 1) / 2 = i / 2 := by omega
 unfold zbt
 rw [if_neg h1, if_pos h2, h3, List.append_nil]
 rw [List.set_append_right _ _ (by rw [zaP]; omega), zaP]
 simp
theorem hexPart_odd (s : ByteArray) (i : Nat) (h : i % 2 = 1) : (zbt s i).set (i / 2) (hv s (i - 1) * 16 + hv s i) = zbt s (i + 1) := by
 have h2 : ¬ (i + 1) % 2 = 1 := by omega
 have h3 : (i + 1) / 2 = i / 2 + 1 := by omega
 unfold zbt
 rw [if_pos h, if_neg h2, h3, List.append_nil, zf0]
 rw [List.set_append_right _ _ (by rw [zaP]; omega), zaP]
 have e1 : 2 * (i / 2) = i - 1 := by omega
 have e2 : 2 * (i / 2) + 1 = i := by omega
 rw [e2, e1, Int.mul_comm]
 simp
theorem hexPart_getE (s : ByteArray) (i : Nat) (h : i % 2 = 0) : (zbt s i ++ [0])[i / 2]? = some 0 := by
 have hl := zg5 s i
 rw [List.getElem?_append_right (by omega)]
 have : i / 2 - (zbt s i).length = 0 := by omega
 rw [this]; rfl
theorem hexPart_getO (s : ByteArray) (i : Nat) (h : i % 2 = 1) : (zbt s i)[i / 2]? = some (hv s (i - 1)) := by
 unfold zbt
 rw [if_pos h, List.getElem?_append_right (by rw [zaP]; omega), zaP]
 simp
theorem hexPart_full (s : ByteArray) (h : s.size % 2 = 0) : zbt s s.size = zaq s (s.size / 2) := by
 unfold zbt
 rw [if_neg (by omega), List.append_nil]
theorem zcw (s : ByteArray) : Fn prog 81 [.p (.v (.string s))] (zhN s) (zhO s) := by
 refine fnI fun w0 A => ?_
 refine G [12, 9, 0] ?_
 refine cX (fun h => ?_) fun h => ?_
 ·exact jbI
 have hsz : s.size ≤ 2000 := by simp at h; omega
 clear h
 refine G [6] ?_
 refine zaa (zaU (by simp) (zeZ _ (by omega))) rfl rfl ?_
 refine G [2, 9, 0] ?_
 refine cX (fun h => ?_) fun h => ?_
 ·exact jbv
 have hev : s.size % 2 = 0 := by simp at h; omega
 clear h
 have hml : s.size ≤ maxLen := by simp only [maxLen]; omega
 refine G [9] ?_
 refine zab (zf7 16 U9 U62 U5 (by first | omega | (simp only [maxLen]; omega)) rfl rfl) rfl rfl ⟨rfl, trivial⟩ ?_
 refine G [4] ?_
 refine za8 (zco 4 4 5 1 rfl rfl) ?_
 refine zag (fun m st => ∃ k : Nat, m + k = s.size ∧ (∀ i, i < k → 0 ≤ hv s i) ∧ st = St.of [(4, .row 4), (16, .row 16), (17, .p (.v (.int .i64 s.size))), (18, .p (.v (.int .i64 k)))] [(4, .row 5 1 ((k + 1) / 2) (bs (zbt s k))), (16, .row 5 1 s.size (bs (sb s)))]) s.size ?_ ?_
 ·refine ⟨_, zah id _ _ ?_ ?_ rfl, 0, by omega, fun i hi => by omega, rfl⟩
  ·exact jak
  ·exact ⟨⟨rfl, rfl⟩, ⟨rfl, rfl⟩, trivial⟩
 rintro m st ⟨k, hk, hg, rfl⟩
 refine G [5] ?_
 refine cX (fun h => ?_) fun h => ?_
 ·have hlt : k < s.size := by simp at h; omega
  clear h
  have g1 := ziz (sb_at hlt)
  refine G [7] ?_
  refine zab (zaO U5 rfl (by first | rfl | assumption | ((try simp only [List.getElem?_drop, List.getElem?_take, Int.toNat_natCast, Nat.mul_one, Nat.add_zero, Nat.zero_add]); first | assumption | rfl))) rfl rfl ⟨rfl, trivial⟩ ?_
  refine G [6] ?_
  refine cV (ib_s _) ?_
  refine G [4] ?_
  have b1 : -1 ≤ hx (sAt s k) ∧ hx (sAt s k) ≤ 15 := hx_bd _
  refine G [4, 9, 0] ?_
  refine cX (fun h => ?_) fun h => ?_
  ·have h2 : hv s k < 0 := by simpa [hv] using h
   refine jcs ?_
   have hb : ¬ zcp s = true := fun hh => by
    have h3 := (zbP s).1 hh k hlt
    omega
   exact jbY
  have h2 : 0 ≤ hx (sAt s k) := by simpa using h
  clear h
  have hpl := zg5 s k
  refine G [5] ?_
  refine zaa (zaU (by simp) (zeZ _ (by omega))) rfl rfl ?_
  refine G [2, 9, 0] ?_
  refine cX (fun h => ?_) fun h => ?_
  ·have h3 : k % 2 = 0 := by simp at h; omega
   clear h
   have hn : (k + 1) / 2 + 1 = (k + 2) / 2 := by omega
   skip
   refine G [2] ?_
   refine jdA (zae 31 U62 sz5 zc5 (Nat.le_of_ble_eq_true rfl) (Nat.le_of_ble_eq_true rfl) rfl rfl rfl rfl (Nat.le_of_ble_eq_true rfl)) ?_
   refine zab (zal 32 U62 eo5 (zax) (by simp only [maxLen]; omega) (by omega) hn rfl) rfl rfl ⟨rfl, rfl, rfl, trivial⟩ ?_
   refine G [2, 9, 0] ?_
   have g2 : (bs (zbt s k) ++ [PV.v (.int .u8 0)])[k / 2]? = some (.v (.int .u8 0)) := by rw [zcr]; exact ziz (hexPart_getE s k h3)
   have q1 : (bs (zbt s k) ++ [PV.v (.int .u8 0)]).length = (k + 2) / 2 := by rw [List.length_append, bs_length, hpl]; simp; omega
   have q2 : setR (bs (zbt s k) ++ [PV.v (.int .u8 0)]) (k / 2) [.v (.int .u8 (0 * 16 + hx (sAt s k)))] = bs (zbt s (k + 1)) := by
    rw [zcr, zhd (by rw [zcr, bs_length] at q1; omega), Int.zero_mul, Int.zero_add]
    exact congrArg bs (hexPart_even s k h3)
   refine G [3] ?_
   refine jcy ?_
   refine G [2] ?_
   refine jcy ?_
   refine jdb ?_
   refine jdA (zaO U5 rfl g2) ?_
   refine G [4] ?_
   refine jdb ?_
   refine zab (zbB (Y := .p _) sz5 rfl rfl (by first | rfl | omega) (by first | omega | (simp; done) | (simp; omega)) q2) rfl rfl ⟨rfl, trivial⟩ ?_
   refine jct ?_
   refine ⟨m - 1, by omega, _, zah (fun o => bif Nat.beq o 4 then 32 else o) _ _ ?_ ?_ rfl, k + 1, by omega, fun i hi => ?_, rfl⟩
   ·exact jak
   ·exact ⟨⟨by rw [show (k + 1 + 1) / 2 = (k + 2) / 2 from rfl]; rfl, rfl⟩, ⟨rfl, rfl⟩, trivial⟩
   ·by_cases e1 : i = k
    ·subst e1; exact h2
    ·exact hg i (by omega)
  ·have h3 : k % 2 = 1 := by simp at h; omega
   clear h
   have g2 := ziz (hexPart_getO s k h3)
   have b2 : -1 ≤ hv s (k - 1) ∧ hv s (k - 1) ≤ 15 := hx_bd _
   have b3 := hg (k - 1) (by omega)
   have q1 : (bs (zbt s k)).length = (k + 1) / 2 := by rw [bs_length, hpl]
   have q2 : setR (bs (zbt s k)) (k / 2) [.v (.int .u8 (hv s (k - 1) * 16 + hx (sAt s k)))] = bs (zbt s (k + 1)) := by
    rw [zhd (by omega)]
    exact congrArg bs (hexPart_odd s k h3)
   refine G [4] ?_
   refine jcy ?_
   refine G [2] ?_
   refine jcy ?_
   refine jdb ?_
   refine jdA (zaO U5 rfl g2) ?_
   refine G [4] ?_
   refine jdb ?_
   refine zab (zbB (Y := .p _) sz5 rfl rfl (by first | rfl | omega) (by first | omega | (simp; done) | (simp; omega)) q2) rfl rfl ⟨rfl, trivial⟩ ?_
   refine jct ?_
   refine ⟨m - 1, by omega, _, zah id _ _ ?_ ?_ rfl, k + 1, by omega, fun i hi => ?_, rfl⟩
   ·exact jak
   ·exact ⟨⟨by rw [show (k + 1 + 1) / 2 = (k + 1) / 2 by omega]; rfl, rfl⟩, ⟨rfl, rfl⟩, trivial⟩
   ·by_cases e1 : i = k
    ·subst e1; exact h2
    ·exact hg i (by omega)
 ·have hge : s.size ≤ k := by simp at h; omega
  clear h
  have hb : zcp s = true := (zbP s).2 fun i hi => hg i (by omega)
  obtain ⟨e1, e2⟩ := za1 (s := s) (by unfold hexE; rw [if_neg (by omega), if_pos hev, if_pos hb])
  obtain rfl : k = s.size := by omega
  refine G [8] ?_
  rw [e1, e2]
  refine yT (fun _ => 4) ?_ ?_
  ·exact rfl
  ·rw [← hexPart_full s hev, ← show (s.size + 1) / 2 = s.size / 2 by omega]
   exact ⟨⟨rfl, rfl⟩, trivial⟩
theorem za9 (s : ByteArray) : Fn prog 74 [.p (.v (.string s))] (.p (.v (.int .i64 (keyE s)))) [] := by
 refine fnI fun w0 A => ?_
 refine G [11, 9, 0] ?_
 refine cX (fun h => ?_) fun h => ?_
 ·exact jb6
 ·have h2 : s.size = 64 := by simp at h; omega
  have hk : hexE s = 0 ∨ hexE s = 3 := by
   unfold hexE
   rw [if_neg (by omega), if_pos (by omega)]
   split
   ·exact .inl rfl
   ·exact .inr rfl
  rw [show keyE s = hexE s by unfold keyE; rw [if_pos h2]]
  rcases hk with he | he
  ·obtain ⟨e1, e2⟩ := za1 he
   have hc := zcw s
   rw [e1, e2] at hc
   refine G [5] ?_
   refine cK hc ?_
   refine G [11, 9, 0] ?_
   refine cX (fun h => ?_) fun h => ?_
   ·cases h
   refine G [6] ?_
   rw [he]
   exact yE
  ·obtain ⟨e1, e2⟩ := zbw (s := s) he (by omega)
   have hc := zcw s
   rw [e1, e2] at hc
   refine G [5] ?_
   refine cK hc ?_
   refine G [11, 9, 0] ?_
   refine cX (fun h => ?_) fun h => ?_
   ·refine jct ?_
    rw [he]
    exact yE
   ·cases h
end Go.Proofs.YtbjdjclkbjpebaaGreatDoor
