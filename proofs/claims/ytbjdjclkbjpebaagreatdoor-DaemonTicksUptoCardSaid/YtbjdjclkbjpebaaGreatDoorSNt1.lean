/- addr.Parse, addr.End, their references, over data. -/
import Derived.Test.YtbjdjclkbjpebaaGreatDoorSSq
import Derived.Test.YtbjdjclkbjpebaaGreatDoorSUtZ
import Derived.Test.YtbjdjclkbjpebaaGreatDoorSShelf
import Derived.Test.YtbjdjclkbjpebaaGreatDoorSNetZ
namespace Go.Proofs.YtbjdjclkbjpebaaGreatDoor
open Tryz
open Go.RowKit Go.Sort
set_option maxHeartbeats 16000000
set_option linter.unusedVariables false
set_option linter.unusedSimpArgs false
set_option maxRecDepth 100000
def adN (ts : List ByteArray) : Nat := ts.foldl (fun a t => a * 256 + valS t) 0
theorem adN_push (ts : List ByteArray) (t : ByteArray) : adN (ts ++ [t]) = adN ts * 256 + valS t := by simp [adN]
def okP (t : ByteArray) : Bool := numB t 255
theorem okP_val {t : ByteArray} (h : okP t = true) : valS t < 256 := by
 have := (zfo h).2
 omega
theorem ziC {l : List ByteArray} {i : Nat} {p : ByteArray} (hi : l[i]? = some p) : adN (l.take (i + 1)) = adN (l.take i) * 256 + valS p := by
 obtain ⟨h1, h2⟩ := List.getElem?_eq_some_iff.1 hi
 rw [List.take_succ_eq_append_getElem h1, h2, adN_push]
theorem adN_lt {l : List ByteArray} : ∀ {i : Nat}, (∀ q ∈ l.take i, okP q = true) → i ≤ l.length → adN (l.take i) < 256 ^ i
 | 0, _, _ => by simp [adN]
 | i + 1, h, hl => by
  have hp : l[i]? = some (l[i]'(by omega)) := List.getElem?_eq_getElem _
  rw [ziC hp]
  have e := List.take_succ_eq_append_getElem (show i < l.length by omega)
  have h1 := adN_lt (l := l) (i := i) (fun q hq => h q (by rw [e]; exact List.mem_append_left _ hq)) (by omega)
  have h2 := okP_val (h (l[i]'(by omega)) (by rw [e]; exact List.mem_append_right _ (List.mem_singleton.2 rfl)))
  rw [Nat.pow_succ]
  omega
theorem takeP_ok {l : List ByteArray} {i : Nat} {p : ByteArray} (hi : l[i]? = some p) (hf : ∀ q ∈ l.take i, okP q = true) (hp : okP p = true) : ∀ q ∈ l.take (i + 1), okP q = true := by
 obtain ⟨h1, h2⟩ := List.getElem?_eq_some_iff.1 hi
 intro q hq
 rw [List.take_succ_eq_append_getElem h1, h2] at hq
 rcases List.mem_append.1 hq with hq | hq
 ·exact hf q hq
 ·have : q = p := by simpa using hq
  rw [this]; exact hp
def adOk (s : ByteArray) : Bool := decide (cntB s 46 = 3) && (spl s 46).all okP
def adR (s : ByteArray) : AV := if adOk s = true then .tup [.p (.v (.int .u32 (adN (spl s 46) : Nat))), .p (.v (.int .i64 0))] else .tup [.p (.v (.int .u32 0)), .p (.v (.int .i64 3))]
theorem adR_good {s : ByteArray} (h1 : cntB s 46 = 3) (h2 : ∀ q ∈ spl s 46, okP q = true) : adR s = .tup [.p (.v (.int .u32 (adN (spl s 46) : Nat))), .p (.v (.int .i64 0))] := by
 unfold adR adOk
 rw [if_pos (by simp [h1]; simpa using h2)]
theorem adR_bad1 {s : ByteArray} (h1 : cntB s 46 ≠ 3) : adR s = .tup [.p (.v (.int .u32 0)), .p (.v (.int .i64 3))] := by
 unfold adR adOk
 rw [if_neg (by simp [h1])]
theorem adR_bad2 {s q : ByteArray} (h1 : q ∈ spl s 46) (h2 : okP q = false) : adR s = .tup [.p (.v (.int .u32 0)), .p (.v (.int .i64 3))] := by
 unfold adR adOk
 rw [if_neg (by simp only [Bool.and_eq_true, List.all_eq_true, not_and]; intro _ h; rw [h q h1] at h2; cases h2)]
theorem u32_shl8 {a : Int} (h0 : 0 ≤ a) (h1 : a < 16777216) : IntKind.u32.wrap (a * 2 ^ min (8 : Int).toNat IntKind.u32.bits) = a * 256 := by
 rw [show (2 : Int) ^ min (8 : Int).toNat IntKind.u32.bits = 256 from rfl, IntWalk.u32_in _ (by omega)]
theorem u32_or8 {a b : Nat} (h1 : a < 16777216) (hb : b < 256) : bits .or .u32 ((a : Int) * 256) (b : Int) = (a : Int) * 256 + b := by
 have := u32_or a b 8 hb (by omega)
 rw [show ((a * 2 ^ 8 : Nat) : Int) = (a : Int) * 256 by omega] at this
 rw [this]; omega
theorem parse_s (s : ByteArray) (hs : s.size < 4294967281) : Fn prog 130 [.p (.v (.string s))] (adR s) [] := by
 have hSp := split1_s s 46 hs
 have hlen := zfB s 46
 have hsz := spl_size s 46
 have hg := @adR_good s
 have hb1 := @adR_bad1 s
 have hb2 := @adR_bad2 s
 generalize adR s = R at *
 generalize spl s 46 = ps at *
 generalize cntB s 46 = N at *
 refine fnI fun w0 A => ?_
 refine G [8] ?_
 refine zaR (fun n => 11 + 1000 * n) (hSp) rfl rfl func162 rfl rfl (by first | rfl | simp [AV.noSl, AV.noSlL, AObj.noSl, PV.isV, strs]) (by first | rfl | simp [AV.noSl, AV.noSlL, AObj.noSl, PV.isV, strs]) rfl rfl rfl (by first | exact trivial | exact ⟨rfl, trivial⟩ | exact ⟨rfl, rfl, trivial⟩ | exact ⟨rfl, rfl, rfl, rfl, rfl, trivial⟩) rfl rfl rfl ?_
 refine G [9, 9, 0] ?_
 refine cX (fun h => ?_) fun h => ?_
 ·rw [hb1 (by simp at h; omega)]
  refine jcs ?_
  exact yE
 have h3 : N = 3 := by simp at h; omega
 clear h
 subst h3
 refine G [13] ?_
 refine zag (fun m st => ∃ i : Nat, m + i = 4 ∧ (∀ q ∈ ps.take i, okP q = true) ∧ st = St.of [(5, .p (.v (.int .u32 (adN (ps.take i) : Nat)))), (15, .row 11), (16, .p (.v (.int .i64 4))), (17, .p (.v (.int .i64 i)))] [(11, .row 9 1 4 (strs ps))]) 4 ?_ ?_
 ·refine ⟨_, zah id _ _ ?_ ?_ rfl, 0, by omega, by simp, rfl⟩
  ·exact jak
  ·exact ⟨⟨rfl, rfl⟩, trivial⟩
 rintro m st ⟨i, hi, hf, rfl⟩
 refine G [5] ?_
 refine cX (fun h => ?_) fun h => ?_
 ·have hlt : i < 4 := by simp at h; omega
  clear h
  obtain ⟨p, hp⟩ : ∃ p, ps[i]? = some p := ⟨ps[i], List.getElem?_eq_getElem (by omega)⟩
  have hat := strs_get hp
  have hpm := List.mem_of_getElem? hp
  have hC := small_s p 255 (by have := hsz p hpm; omega)
  have hok := takeP_ok hp hf
  have hnx := ziC hp
  have hlt2 := adN_lt hf (by omega)
  have hlt3 : adN (ps.take i) < 16777216 := by
   have h1 : 256 ^ i ≤ 256 ^ 3 := Nat.pow_le_pow_right (by decide) (by omega)
   omega
  clear hlt2
  have hsl : (strs ps).length = 4 := by rw [strs_len, hlen]
  have hbad := hb2 hpm
  have hval := @okP_val p
  have hsm : okP p = true → smV p = (valS p : Nat) := fun h => by unfold smV; rw [if_pos (zfo h).1]
  change Fn prog _ _ (.tup [.p (.v (.int .i64 (smV p))), .p (.v (.bool (okP p)))]) _ at hC
  generalize strs ps = SP at *
  generalize adN (ps.take i) = a at *
  cases hq : okP p with
  | false =>
   rw [hbad hq]
   rw [hq] at hC
   refine G [6] ?_
   refine zab (zaO U9 rfl (by first | rfl | assumption | ((try simp only [List.getElem?_drop, List.getElem?_take, Int.toNat_natCast, Nat.mul_one, Nat.add_zero, Nat.zero_add]); first | assumption | rfl))) rfl rfl ⟨rfl, trivial⟩ ?_
   refine G [5] ?_
   refine cV hC ?_
   refine G [12, 9, 0] ?_
   refine cX (fun h => ?_) fun h => ?_
   ·refine G [6, 9, 0] ?_
    exact yE
   ·cases h
  | true =>
   have hv := hval hq
   rw [hq, hsm hq] at hC
   generalize valS p = v at *
   have s8 := u32_shl8 (a := (a : Int)) (by omega) (by omega)
   have o8 := u32_or8 hlt3 hv
   refine G [6] ?_
   refine zab (zaO U9 rfl (by first | rfl | assumption | ((try simp only [List.getElem?_drop, List.getElem?_take, Int.toNat_natCast, Nat.mul_one, Nat.add_zero, Nat.zero_add]); first | assumption | rfl))) rfl rfl ⟨rfl, trivial⟩ ?_
   refine G [5] ?_
   refine cV hC ?_
   refine G [12, 9, 0] ?_
   refine cX (fun h => ?_) fun h => ?_
   ·cases h
   refine G [3] ?_
   refine zaa (a_shl (by omega) s8) rfl rfl ?_
   refine G [2] ?_
   refine zaa (zaU (by simp) o8) rfl rfl ?_
   refine G [6, 9, 0] ?_
   refine ⟨m - 1, by omega, _, zah id _ _ ?_ ?_ rfl, i + 1, by omega, hok hq, rfl⟩
   ·refine ⟨⟨?_, rfl⟩, ⟨rfl, rfl⟩, ⟨rfl, rfl⟩, ⟨rfl, rfl⟩, trivial⟩
    rw [hnx]
    show AV.p (.v (.int .u32 ((a : Int) * 256 + v))) = AV.p (.v (.int .u32 ((a * 256 + v : Nat) : Int)))
    first | rfl | (congr 3; omega) | congr 3
   ·exact ⟨⟨rfl, rfl⟩, trivial⟩
 have hge : i = 4 := by simp at h; omega
 clear h
 subst hge
 rw [List.take_of_length_le (by omega)] at hf ⊢
 rw [hg rfl hf]
 refine jcM ?_
 exact yE
theorem refAddr_s (s : ByteArray) (hs : s.size < 4294967281) : Fn prog 146 [.p (.v (.string s))] (adR s) [] := by
 have hSp := split1_s s 46 hs
 have hlen := zfB s 46
 have hsz := spl_size s 46
 have hcl := cntB_le s 46
 have hg := @adR_good s
 have hb1 := @adR_bad1 s
 have hb2 := @adR_bad2 s
 generalize adR s = R at *
 generalize spl s 46 = ps at *
 generalize cntB s 46 = N at *
 refine fnI fun w0 A => ?_
 refine G [12] ?_
 refine zaR (fun n => 11 + 1000 * n) (hSp) rfl rfl func162 rfl rfl (by first | rfl | simp [AV.noSl, AV.noSlL, AObj.noSl, PV.isV, strs]) (by first | rfl | simp [AV.noSl, AV.noSlL, AObj.noSl, PV.isV, strs]) rfl rfl rfl (by first | exact trivial | exact ⟨rfl, trivial⟩ | exact ⟨rfl, rfl, trivial⟩ | exact ⟨rfl, rfl, rfl, rfl, rfl, trivial⟩) rfl rfl rfl ?_
 refine G [10] ?_
 refine zag (fun m st => ∃ i : Nat, m + i = N + 1 ∧ (i ≠ 0 → N = 3) ∧ (∀ q ∈ ps.take i, okP q = true) ∧ st = St.of [(4, .p (.v (.int .u32 (adN (ps.take i) : Nat)))), (5, .row 11), (12, .row 11), (13, .p (.v (.int .i64 (N + 1 : Nat)))), (14, .p (.v (.int .i64 i)))] [(11, .row 9 1 (N + 1) (strs ps))]) (N + 1) ?_ ?_
 ·refine ⟨_, zah id _ _ ?_ ?_ rfl, 0, by omega, by simp, by simp, rfl⟩
  ·exact jak
  ·exact ⟨⟨rfl, rfl⟩, trivial⟩
 rintro m st ⟨i, hi, h30, hf, rfl⟩
 refine G [5] ?_
 refine cX (fun h => ?_) fun h => ?_
 ·have hlt : i < N + 1 := by simp at h; omega
  clear h
  obtain ⟨p, hp⟩ : ∃ p, ps[i]? = some p := ⟨ps[i], List.getElem?_eq_getElem (by omega)⟩
  have hat := strs_get hp
  have hpm := List.mem_of_getElem? hp
  have hC := refNum_s p 255 (by have := hsz p hpm; omega)
  have hok := takeP_ok hp hf
  have hnx := ziC hp
  have hlt2 := adN_lt hf (by omega)
  have hsl : (strs ps).length = N + 1 := by rw [strs_len, hlen]
  have hbad := hb2 hpm
  have hval := @okP_val p
  have hng : okP p = true → numR p 255 = .tup [.p (.v (.int .i64 (valS p : Nat))), .p (.v (.int .i64 0))] := fun h => zgQ h
  have hnb : okP p = false → numR p 255 = .tup [.p (.v (.int .i64 0)), .p (.v (.int .i64 3))] := fun h => zgh h
  generalize strs ps = SP at *
  generalize adN (ps.take i) = a at *
  cases hq : okP p with
  | false =>
   rw [hbad hq]
   rw [hnb hq] at hC
   refine G [6] ?_
   refine zab (zaO U9 rfl (by first | rfl | assumption | ((try simp only [List.getElem?_drop, List.getElem?_take, Int.toNat_natCast, Nat.mul_one, Nat.add_zero, Nat.zero_add]); first | assumption | rfl))) rfl rfl ⟨rfl, trivial⟩ ?_
   refine G [5] ?_
   refine cV hC ?_
   refine G [17, 9, 0] ?_
   refine cX (fun h => ?_) fun h => ?_
   ·refine G [6, 9, 0] ?_
    exact yE
   ·cases h
  | true =>
   have hv := hval hq
   rw [hng hq] at hC
   generalize valS p = v at *
   refine G [6] ?_
   refine zab (zaO U9 rfl (by first | rfl | assumption | ((try simp only [List.getElem?_drop, List.getElem?_take, Int.toNat_natCast, Nat.mul_one, Nat.add_zero, Nat.zero_add]); first | assumption | rfl))) rfl rfl ⟨rfl, trivial⟩ ?_
   refine G [5] ?_
   refine cV hC ?_
   refine G [10, 1, 6, 9, 0] ?_
   refine cX (fun h => ?_) fun h => ?_
   ·rw [hb1 (by simp at h; omega)]
    refine G [6, 9, 0] ?_
    exact yE
   have h3 : N = 3 := by simp at h; omega
   clear h
   subst h3
   have hlt3 : a < 16777216 := by
    have h1 : 256 ^ i ≤ 256 ^ 3 := Nat.pow_le_pow_right (by decide) (by omega)
    omega
   clear hlt2
   refine G [13, 9, 0] ?_
   refine ⟨m - 1, by omega, _, zah id _ _ ?_ ?_ rfl, i + 1, by omega, fun _ => rfl, hok hq, rfl⟩
   ·refine ⟨⟨?_, rfl⟩, ⟨rfl, rfl⟩, ⟨rfl, rfl⟩, ⟨rfl, rfl⟩, ⟨rfl, rfl⟩, trivial⟩
    rw [hnx]
    show AV.p (.v (.int .u32 ((a : Int) * 256 + v))) = AV.p (.v (.int .u32 ((a * 256 + v : Nat) : Int)))
    first | rfl | (congr 3; omega) | congr 3
   ·exact ⟨⟨rfl, rfl⟩, trivial⟩
 have hge : i = N + 1 := by simp at h; omega
 clear h
 subst hge
 have h3 := h30 (by omega)
 rw [← hlen, List.take_length] at hf ⊢
 rw [hg h3 hf]
 refine jcM ?_
 exact yE
end Go.Proofs.YtbjdjclkbjpebaaGreatDoor
namespace Go.Proofs.YtbjdjclkbjpebaaGreatDoor
open Go.RowKit Go.Sort
set_option linter.unusedVariables false
set_option linter.unusedSimpArgs false
set_option maxHeartbeats 16000000
set_option maxRecDepth 100000
def adA (s : ByteArray) : Int := if adOk s = true then (adN (spl s 46) : Nat) else 0
def adE (s : ByteArray) : Int := if adOk s = true then 0 else 3
theorem adR_eq (s : ByteArray) : adR s = .tup [.p (.v (.int .u32 (adA s))), .p (.v (.int .i64 (adE s)))] := by
 unfold adR adA adE
 split <;> rfl
theorem numV_nn (s : ByteArray) (most : Int) : 0 ≤ numV s most := by
 unfold numV
 split <;> omega
def enOk (s : ByteArray) : Prop := 0 ≤ ixB s 58 ∧ adE (cutA s 58) = 0 ∧ numE (cutZ s 58) 65535 = 0 ∧ numV (cutZ s 58) 65535 ≠ 0
instance enOk_dec (s : ByteArray) : Decidable (enOk s) := by unfold enOk; infer_instance
def enE (s : ByteArray) : Int := if enOk s then 0 else 3
def enR (s : ByteArray) : AV := if enOk s then .tup [.p (.v (.int .u32 (adA (cutA s 58)))), .p (.v (.int .i64 (numV (cutZ s 58) 65535))), .p (.v (.int .i64 0))] else .tup [.p (.v (.int .u32 0)), .p (.v (.int .i64 0)), .p (.v (.int .i64 3))]
theorem end_s (s : ByteArray) (hs : s.size < 4294967281) : Fn Tryz.prog 90 [.p (.v (.string s))] (enR s) [] := by
 have hK := cut1_s s 58 (by omega)
 have zA := cutA_size s 58
 have zZ := cutZ_size s 58
 have hP := parse_s (cutA s 58) (by omega)
 have hN := number_s (cutZ s 58) 65535 (by omega)
 have hE : enOk s ↔ 0 ≤ ixB s 58 ∧ adE (cutA s 58) = 0 ∧ numE (cutZ s 58) 65535 = 0 ∧ numV (cutZ s 58) 65535 ≠ 0 := Iff.rfl
 have hR1 : enOk s → enR s = .tup [.p (.v (.int .u32 (adA (cutA s 58)))), .p (.v (.int .i64 (numV (cutZ s 58) 65535))), .p (.v (.int .i64 0))] := fun h => if_pos h
 have hR2 : ¬ enOk s → enR s = .tup [.p (.v (.int .u32 0)), .p (.v (.int .i64 0)), .p (.v (.int .i64 3))] := fun h => if_neg h
 rw [adR_eq] at hP
 unfold numR at hN
 generalize enR s = R at *
 generalize ixB s 58 = ix at *
 generalize adE (cutA s 58) = e1 at *
 generalize adA (cutA s 58) = a1 at *
 generalize numE (cutZ s 58) 65535 = e2 at *
 generalize numV (cutZ s 58) 65535 = v2 at *
 generalize cutA s 58 = A at *
 generalize cutZ s 58 = Z at *
 refine fnI fun w0 A => ?_
 refine G [9] ?_
 refine cV hK ?_
 refine G [11] ?_
 refine cV hP ?_
 refine G [9] ?_
 refine cV hN ?_
 refine G [14, 2, 3, 2, 3, 2, 1, 9, 0] ?_
 exact jbq
theorem zia (s : ByteArray) (hs : s.size < 4294967281) : Fn Tryz.prog 111 [.p (.v (.string s))] (enR s) [] := by
 have hI := index1_s s 58
 have zA := cutA_size s 58
 have zZ := cutZ_size s 58
 have hP := refAddr_s (cutA s 58) (by omega)
 have hN := refNum_s (cutZ s 58) 65535 (by omega)
 have hE : enOk s ↔ 0 ≤ ixB s 58 ∧ adE (cutA s 58) = 0 ∧ numE (cutZ s 58) 65535 = 0 ∧ numV (cutZ s 58) 65535 ≠ 0 := Iff.rfl
 have hR1 : enOk s → enR s = .tup [.p (.v (.int .u32 (adA (cutA s 58)))), .p (.v (.int .i64 (numV (cutZ s 58) 65535))), .p (.v (.int .i64 0))] := fun h => if_pos h
 have hR2 : ¬ enOk s → enR s = .tup [.p (.v (.int .u32 0)), .p (.v (.int .i64 0)), .p (.v (.int .i64 3))] := fun h => if_neg h
 have hA : 0 ≤ ixB s 58 → cutA s 58 = s.extract 0 (ixB s 58).toNat := fun h => if_pos h
 have hZ : 0 ≤ ixB s 58 → cutZ s 58 = s.extract ((ixB s 58).toNat + 1) s.size := fun h => if_pos h
 have hnn := numV_nn (cutZ s 58) 65535
 have hlt := ixB_lt s 58
 rw [adR_eq] at hP
 unfold numR at hN
 generalize enR s = R at *
 generalize ixB s 58 = ix at *
 generalize adE (cutA s 58) = e1 at *
 generalize adA (cutA s 58) = a1 at *
 generalize numE (cutZ s 58) 65535 = e2 at *
 generalize numV (cutZ s 58) 65535 = v2 at *
 generalize cutA s 58 = A at *
 generalize cutZ s 58 = Z at *
 refine fnI fun w0 A => ?_
 refine G [9] ?_
 refine cV hI ?_
 refine jcM ?_
 refine cX (fun h => ?_) fun h => ?_
 ·rw [hR2 (by rw [hE]; intro ⟨q1, q2, q3, q4⟩; simp at h; omega)]
  refine jcq ?_
  exact yE
 have h0 : 0 ≤ ix := by simp at h; omega
 clear h
 have hA := hA h0
 have hZ := hZ h0
 obtain ⟨n, rfl⟩ := Int.eq_ofNat_of_zero_le h0
 rw [Int.toNat_natCast] at hA hZ
 refine G [5] ?_
 refine zaa (zeB (L := none) (H := (some (_, _))) U9 rfl ⟨by omega, (show _ = n by omega)⟩ (by omega) (by omega) hA.symm) rfl rfl ?_
 refine cV hP ?_
 refine G [11] ?_
 refine zaa (zeB (L := (some (_, _))) (H := none) U9 ⟨by omega, (show _ = n + 1 by omega)⟩ rfl (by omega) (by omega) hZ.symm) rfl rfl ?_
 refine cV hN ?_
 refine G [14, 2, 3, 2, 1, 9, 0] ?_
 exact jbq
def npA (s : ByteArray) : Int := adA (cutA s 47)
def npN (s : ByteArray) : Int := numV (cutZ s 47) 32
def npOk (s : ByteArray) : Prop := 0 ≤ ixB s 47 ∧ adE (cutA s 47) = 0 ∧ numE (cutZ s 47) 32 = 0 ∧ zai (npA s) (npN s) = 0
instance npOk_dec (s : ByteArray) : Decidable (npOk s) := by unfold npOk; infer_instance
end Go.Proofs.YtbjdjclkbjpebaaGreatDoor
