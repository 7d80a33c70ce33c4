/- addr.End, addr.Text, their references, the laws AddrEnds, AddrTells, over data. -/
import Derived.Test.YtkdfdcodkeclmaaGreatDoorSJn
import Derived.Test.YtkdfdcodkeclmaaGreatDoorSUtZ
import Derived.Test.YtkdfdcodkeclmaaGreatDoorSNetZ
namespace Go.Proofs.YtkdfdcodkeclmaaGreatDoor
open Tryz
open Go.RowKit Go.Sort
set_option linter.unusedVariables false
set_option linter.unusedSimpArgs false
set_option maxRecDepth 100000
def adA (s : ByteArray) : Int := if adOk s = true then (adN (spl s 46) : Nat) else 0
def adE (s : ByteArray) : Int := if adOk s = true then 0 else 3
theorem adR_eq (s : ByteArray) : adR s = .tup [.p (.v (.int .u32 (adA s))), .p (.v (.int .i64 (adE s)))] := by
 unfold adR adA adE
 split <;> rfl
theorem numV_nn (s : ByteArray) (most : Int) : 0 ≤ numV s most := by
 unfold numV
 split <;> omega
def enOk (s : ByteArray) : Prop := 0 ≤ ixB s 58 ∧ adE (cutA s 58) = 0 ∧ numE (cutZ s 58) 65535 = 0 ∧ numV (cutZ s 58) 65535 ≠ 0
instance enOk_dec (s : ByteArray) : Decidable (enOk s) := by unfold enOk; infer_instance
def enE (s : ByteArray) : Int := if enOk s then 0 else 3
def enR (s : ByteArray) : AV := if enOk s then .tup [.p (.v (.int .u32 (adA (cutA s 58)))), .p (.v (.int .i64 (numV (cutZ s 58) 65535))), .p (.v (.int .i64 0))] else .tup [.p (.v (.int .u32 0)), .p (.v (.int .i64 0)), .p (.v (.int .i64 3))]
set_option maxHeartbeats 1000000 in
theorem end_s (s : ByteArray) (hs : s.size < 4294967281) : Fn prog 46 [.p (.v (.string s))] (enR s) [] := by
 have hK := cut1_s s 58 (by omega)
 have zA := zcX s 58
 have zZ := zcx s 58
 have hP := parse_s (cutA s 58) (by omega)
 have hN := zgG (cutZ s 58) 65535 (by omega)
 have hE : enOk s ↔ 0 ≤ ixB s 58 ∧ adE (cutA s 58) = 0 ∧ numE (cutZ s 58) 65535 = 0 ∧ numV (cutZ s 58) 65535 ≠ 0 := Iff.rfl
 have hR1 : enOk s → enR s = .tup [.p (.v (.int .u32 (adA (cutA s 58)))), .p (.v (.int .i64 (numV (cutZ s 58) 65535))), .p (.v (.int .i64 0))] := fun h => if_pos h
 have hR2 : ¬ enOk s → enR s = .tup [.p (.v (.int .u32 0)), .p (.v (.int .i64 0)), .p (.v (.int .i64 3))] := fun h => if_neg h
 rw [adR_eq] at hP
 unfold numR at hN
 generalize enR s = R at *
 generalize ixB s 58 = ix at *
 generalize adE (cutA s 58) = e1 at *
 generalize adA (cutA s 58) = a1 at *
 generalize numE (cutZ s 58) 65535 = e2 at *
 generalize numV (cutZ s 58) 65535 = v2 at *
 generalize cutA s 58 = A at *
 generalize cutZ s 58 = Z at *
 refine fnI fun w0 A => ?_
 refine G [9] ?_
 refine cV hK ?_
 refine G [11] ?_
 refine cV hP ?_
 refine G [9] ?_
 refine cV hN ?_
 refine G [14, 2, 3, 2, 3, 2, 1, 9, 0] ?_
 refine zab _ rfl (fun h => ?_) (fun h => ?_)
 ·rw [hR2 (by rw [hE]; intro ⟨q1, q2, q3, q4⟩; simp at h; omega)]
  refine G [7, 9, 0] ?_
  exact yE
 ·rw [hR1 (by rw [hE]; simp at h; omega)]
  refine G [10, 9, 0] ?_
  exact yE
set_option maxHeartbeats 1000000 in
theorem refEnd_s (s : ByteArray) (hs : s.size < 4294967281) : Fn prog 58 [.p (.v (.string s))] (enR s) [] := by
 have hI := zgL s 58
 have zA := zcX s 58
 have zZ := zcx s 58
 have hP := refAddr_s (cutA s 58) (by omega)
 have hN := zfe (cutZ s 58) 65535 (by omega)
 have hE : enOk s ↔ 0 ≤ ixB s 58 ∧ adE (cutA s 58) = 0 ∧ numE (cutZ s 58) 65535 = 0 ∧ numV (cutZ s 58) 65535 ≠ 0 := Iff.rfl
 have hR1 : enOk s → enR s = .tup [.p (.v (.int .u32 (adA (cutA s 58)))), .p (.v (.int .i64 (numV (cutZ s 58) 65535))), .p (.v (.int .i64 0))] := fun h => if_pos h
 have hR2 : ¬ enOk s → enR s = .tup [.p (.v (.int .u32 0)), .p (.v (.int .i64 0)), .p (.v (.int .i64 3))] := fun h => if_neg h
 have hA : 0 ≤ ixB s 58 → cutA s 58 = s.extract 0 (ixB s 58).toNat := fun h => if_pos h
 have hZ : 0 ≤ ixB s 58 → cutZ s 58 = s.extract ((ixB s 58).toNat + 1) s.size := fun h => if_pos h
 have hnn := numV_nn (cutZ s 58) 65535
 have hlt := ixB_lt s 58
 rw [adR_eq] at hP
 unfold numR at hN
 generalize enR s = R at *
 generalize ixB s 58 = ix at *
 generalize adE (cutA s 58) = e1 at *
 generalize adA (cutA s 58) = a1 at *
 generalize numE (cutZ s 58) 65535 = e2 at *
 generalize numV (cutZ s 58) 65535 = v2 at *
 generalize cutA s 58 = A at *
 generalize cutZ s 58 = Z at *
 refine fnI fun w0 A => ?_
 refine G [9] ?_
 refine cV hI ?_
 refine G [8, 9, 0] ?_
 refine zab _ rfl (fun h => ?_) (fun h => ?_)
 ·rw [hR2 (by rw [hE]; intro ⟨q1, q2, q3, q4⟩; simp at h; omega)]
  refine G [7, 9, 0] ?_
  exact yE
 have h0 : 0 ≤ ix := by simp at h; omega
 clear h
 have hA := hA h0
 have hZ := hZ h0
 obtain ⟨n, rfl⟩ := Int.eq_ofNat_of_zero_le h0
 rw [Int.toNat_natCast] at hA hZ
 refine G [5] ?_
 refine zaa (zbO (L := none) (H := (some (_, _))) U9 rfl ⟨by omega, (show _ = n by omega)⟩ (by omega) (by omega) hA.symm) rfl rfl ?_
 refine cV hP ?_
 refine G [10] ?_
 refine zaa (zas (by first | exact IntWalk.i64_in _ (by omega) | rfl)) rfl rfl ?_
 refine zaa (zbO (L := (some (_, _))) (H := none) U9 ⟨by omega, (show _ = n + 1 by omega)⟩ rfl (by omega) (by omega) hZ.symm) rfl rfl ?_
 refine cV hN ?_
 refine G [14, 2, 3, 2, 1, 9, 0] ?_
 refine zab _ rfl (fun h => ?_) (fun h => ?_)
 ·rw [hR2 (by rw [hE]; intro ⟨q1, q2, q3, q4⟩; simp at h; omega)]
  refine G [7, 9, 0] ?_
  exact yE
 ·rw [hR1 (by rw [hE]; simp at h; omega)]
  refine G [10, 9, 0] ?_
  exact yE
def adP (a : Int) (k : Nat) : Int := a / 2 ^ (24 - 8 * k) % 256
def DOT : ByteArray := ⟨#[46]⟩
def adTL (a : Int) : List ByteArray := [itoS (adP a 0), itoS (adP a 1), itoS (adP a 2), itoS (adP a 3)]
def adT (a : Int) : ByteArray := zgK (adTL a) DOT
theorem ze8 (a : Int) (k : Nat) : 0 ≤ adP a k ∧ adP a k < 256 := by unfold adP; omega
theorem adTL_at (a : Int) {k : Nat} (hk : k < 4) : (adTL a)[k]? = some (itoS (adP a k)) := by
 match k, hk with
 | 0, _ => rfl
 | 1, _ => rfl
 | 2, _ => rfl
 | 3, _ => rfl
theorem adT_eq (a : Int) : adT a = itoS (adP a 0) ++ DOT ++ itoS (adP a 1) ++ DOT ++ itoS (adP a 2) ++ DOT ++ itoS (adP a 3) := by
 unfold adT adTL
 generalize itoS (adP a 0) = x0
 generalize itoS (adP a 1) = x1
 generalize itoS (adP a 2) = x2
 generalize itoS (adP a 3) = x3
 have e3 := zeO [x0, x1, x2] DOT x3 (by simp)
 have e2 := zeO [x0, x1] DOT x2 (by simp)
 have e1 := zeO [x0] DOT x1 (by simp)
 simp only [List.cons_append, List.nil_append] at e1 e2 e3
 rw [e3, e2, e1, joinS_one]
theorem zgZ (a : Int) : (adT a).size ≤ 23 := by
 rw [adT_eq]
 simp only [zcC]
 have h := fun k => zep (adP a k) (ze8 a k).1 (by have := (ze8 a k).2; omega)
 have h0 := h 0
 have h1 := h 1
 have h2 := h 2
 have h3 := h 3
 have hd : DOT.size = 1 := rfl
 omega
theorem adSh (a : Int) (h0 : 0 ≤ a) (h1 : a < 4294967296) {k : Nat} (hk : k < 4) : bits .and .u32 (a.fdiv (2 ^ min (24 - 8 * (k : Int)).toNat IntKind.u32.bits)) 255 = adP a k := by
 have key : ∀ q : Int, 0 ≤ q → q < 4294967296 → bits .and .u32 q 255 = q % 256 := fun q q0 q1 => zdI q 8 q0 q1 (by omega)
 match k, hk with
 | 0, _ =>
  rw [show (2 : Int) ^ min (24 - 8 * ((0 : Nat) : Int)).toNat IntKind.u32.bits = 16777216 from rfl, Int.fdiv_eq_ediv_of_nonneg _ (by omega), key _ (by omega) (by omega)]
  rfl
 | 1, _ =>
  rw [show (2 : Int) ^ min (24 - 8 * ((1 : Nat) : Int)).toNat IntKind.u32.bits = 65536 from rfl, Int.fdiv_eq_ediv_of_nonneg _ (by omega), key _ (by omega) (by omega)]
  rfl
 | 2, _ =>
  rw [show (2 : Int) ^ min (24 - 8 * ((2 : Nat) : Int)).toNat IntKind.u32.bits = 256 from rfl, Int.fdiv_eq_ediv_of_nonneg _ (by omega), key _ (by omega) (by omega)]
  rfl
 | 3, _ =>
  rw [show (2 : Int) ^ min (24 - 8 * ((3 : Nat) : Int)).toNat IntKind.u32.bits = 1 from rfl, Int.fdiv_eq_ediv_of_nonneg _ (by omega), key _ (by omega) (by omega)]
  rfl
set_option maxHeartbeats 1000000 in
theorem adText_s (a : Int) (h0 : 0 ≤ a) (h1 : a < 4294967296) : Fn prog 158 [.p (.v (.int .u32 a))] (.p (.v (.string (adT a)))) [] := by
 refine fnI fun w0 A => ?_
 refine G [13, 9, 0] ?_
 refine zaM (zb8 3 100 9 1 rfl rfl) ?_
 refine zaS ?_
 refine zal (fun m st => ∃ k : Nat, m + k = 4 ∧ st = St.of [(0, .p (.v (.int .u32 a))), (3, .row 100), (4, .p (.v (.int .i64 (24 - 8 * (k : Int)))))] [(100, .row 9 1 k (strs ((adTL a).take k)))]) 4 ?_ ?_
 ·refine ⟨_, zak id _ _ ?_ ?_ rfl, 0, by omega, rfl⟩
  ·exact (by repeat (first | exact trivial | refine ⟨⟨rfl, rfl⟩, ?_⟩))
  ·exact ⟨⟨rfl, rfl⟩, trivial⟩
 rintro m st ⟨k, hk, rfl⟩
 refine G [6, 9, 0] ?_
 refine zab _ rfl (fun h => ?_) (fun h => ?_)
 ·have hlt : k < 4 := by simp at h; omega
  clear h
  have hsh := adSh a h0 h1 hlt
  obtain ⟨p0, p1⟩ := ze8 a k
  have hat := adTL_at a hlt
  have hI := zeo (adP a k) (by omega) (by omega)
  have hll : (adTL a).length = 4 := rfl
  have hnx : strs ((adTL a).take k) ++ [.v (.string (itoS (adP a k)))] = strs ((adTL a).take (k + 1)) := by
   obtain ⟨q1, q2⟩ := List.getElem?_eq_some_iff.1 hat
   rw [List.take_succ_eq_append_getElem q1, q2, strs_push]
  have htl : ((adTL a).take k).length = k := by rw [List.length_take, hll]; omega
  generalize itoS (adP a k) = T at *
  generalize adP a k = p at *
  generalize (adTL a).take k = L0 at *
  have hsl : (strs L0).length = k := by rw [zd3, htl]
  refine G [7] ?_
  refine zaa (a_shr (by omega) rfl) rfl rfl ?_
  refine zaa (a_bits (by simp) hsh) rfl rfl ?_
  refine zaa (zcy U25 U3 (by first | exact IntWalk.i64_in _ (by omega) | rfl)) rfl rfl ?_
  refine cK hI ?_
  refine zac (zan 16 U89 sz9 zc9 (Nat.le_of_ble_eq_true rfl) (Nat.le_of_ble_eq_true rfl) rfl rfl rfl rfl (Nat.le_of_ble_eq_true rfl)) rfl rfl ⟨rfl, trivial⟩ ?_
  refine zac (zaF 17 U89 eo9 (zbl) (by simp only [maxLen]; omega) (by omega) (show _ = k + 1 by omega) hnx) rfl rfl ⟨rfl, rfl, rfl, trivial⟩ ?_
  refine G [4] ?_
  refine zaa (zdZ (by first | exact IntWalk.i64_in _ (by omega) | rfl)) rfl rfl ?_
  refine G [2, 9, 0] ?_
  refine ⟨m - 1, by omega, _, zak (fun _ => 17) _ _ ?_ ?_ rfl, k + 1, by omega, rfl⟩
  ·refine ⟨⟨rfl, rfl⟩, ⟨rfl, rfl⟩, ⟨?_, rfl⟩, trivial⟩
   show AV.p (.v (.int .i64 (24 - 8 * (k : Int) - 8))) = AV.p (.v (.int .i64 (24 - 8 * ((k + 1 : Nat) : Int))))
   congr 3; omega
  ·exact ⟨⟨rfl, rfl⟩, trivial⟩
 have hge : k = 4 := by simp at h; omega
 clear h
 subst hge
 rw [show (adTL a).take 4 = adTL a from rfl]
 have hz := zgZ a
 have hJ := join_s (adTL a) DOT (by show 4 ≤ _; decide) (by show (adT a).size ≤ _; omega)
 change Fn prog 167 [.p (.sl 4 1 (strs (adTL a))), .p (.v (.string ⟨#[46]⟩))] (.p (.v (.string (adT a)))) [] at hJ
 generalize adTL a = L at *
 generalize adT a = T at *
 refine G [4] ?_
 refine zcq (fun n => 19 + 1000 * n) (hJ) rfl rfl func167 rfl rfl (by first | rfl | simp [AV.noSl, AV.noSlL, AObj.noSl, PV.isV, strs]) (by first | rfl | simp [AV.noSl, AV.noSlL, AObj.noSl, PV.isV, strs]) rfl rfl rfl (by first | exact trivial | exact ⟨rfl, trivial⟩ | exact ⟨rfl, rfl, trivial⟩ | exact ⟨rfl, rfl, rfl, rfl, rfl, trivial⟩) rfl rfl rfl ?_
 refine G [3, 9, 0] ?_
 exact yE
set_option maxHeartbeats 1000000 in
theorem refAdText_s (a : Int) (h0 : 0 ≤ a) (h1 : a < 4294967296) : Fn prog 146 [.p (.v (.int .u32 a))] (.p (.v (.string (adT a)))) [] := by
 have hI := fun k => zeo (adP a k) (by have := (ze8 a k).1; omega) (by have := (ze8 a k).2; omega)
 have hz := fun k => (zep (adP a k) (ze8 a k).1 (by have := (ze8 a k).2; omega)).2
 have i0 := hI 0
 have i1 := hI 1
 have i2 := hI 2
 have i3 := hI 3
 have z0 := hz 0
 have z1 := hz 1
 have z2 := hz 2
 have z3 := hz 3
 have b0 : a.fdiv (2 ^ min (24 : Int).toNat IntKind.u32.bits) = adP a 0 := by
  rw [show (2 : Int) ^ min (24 : Int).toNat IntKind.u32.bits = 16777216 from rfl, Int.fdiv_eq_ediv_of_nonneg _ (by omega)]
  show _ = a / 16777216 % 256
  omega
 have b1 : a.fdiv (2 ^ min (16 : Int).toNat IntKind.u32.bits) = a / 65536 := by
  rw [show (2 : Int) ^ min (16 : Int).toNat IntKind.u32.bits = 65536 from rfl, Int.fdiv_eq_ediv_of_nonneg _ (by omega)]
 have b2 : a.fdiv (2 ^ min (8 : Int).toNat IntKind.u32.bits) = a / 256 := by
  rw [show (2 : Int) ^ min (8 : Int).toNat IntKind.u32.bits = 256 from rfl, Int.fdiv_eq_ediv_of_nonneg _ (by omega)]
 have cv0 : IntKind.i64.wrap (adP a 0) = adP a 0 := IntWalk.i64_in _ (by have := ze8 a 0; omega)
 have cv1 : IntKind.i64.wrap (a / 65536 % 256) = adP a 1 := IntWalk.i64_in _ (by omega)
 have cv2 : IntKind.i64.wrap (a / 256 % 256) = adP a 2 := IntWalk.i64_in _ (by omega)
 have cv3 : IntKind.i64.wrap (a % 256) = adP a 3 := by
  rw [IntWalk.i64_in _ (by omega)]
  show _ = a / 1 % 256
  omega
 rw [adT_eq]
 generalize adP a 0 = p0 at *
 generalize adP a 1 = p1 at *
 generalize adP a 2 = p2 at *
 generalize adP a 3 = p3 at *
 generalize itoS p0 = t0 at *
 generalize itoS p1 = t1 at *
 generalize itoS p2 = t2 at *
 generalize itoS p3 = t3 at *
 have hd : DOT.size = 1 := rfl
 obtain ⟨u0, e0⟩ : ∃ u, t0 ++ DOT = u := ⟨_, rfl⟩
 have y0 : u0.size ≤ 6 := by rw [← e0, zcC]; omega
 obtain ⟨u1, e1⟩ : ∃ u, u0 ++ t1 = u := ⟨_, rfl⟩
 have y1 : u1.size ≤ 11 := by rw [← e1, zcC]; omega
 obtain ⟨u2, e2⟩ : ∃ u, u1 ++ DOT = u := ⟨_, rfl⟩
 have y2 : u2.size ≤ 12 := by rw [← e2, zcC]; omega
 obtain ⟨u3, e3⟩ : ∃ u, u2 ++ t2 = u := ⟨_, rfl⟩
 have y3 : u3.size ≤ 17 := by rw [← e3, zcC]; omega
 obtain ⟨u4, e4⟩ : ∃ u, u3 ++ DOT = u := ⟨_, rfl⟩
 have y4 : u4.size ≤ 18 := by rw [← e4, zcC]; omega
 rw [e0, e1, e2, e3, e4]
 have ed : (⟨#[46]⟩ : ByteArray) = DOT := rfl
 have hd1 : (⟨#[46]⟩ : ByteArray).size = 1 := rfl
 refine fnI fun w0 A => ?_
 refine G [7] ?_
 refine zaa (a_shr (by omega) b0) rfl rfl ?_
 refine zaa (zcy U25 U3 cv0) rfl rfl ?_
 refine cK i0 ?_
 refine zaa (zf9 (by omega) e0) rfl rfl ?_
 refine mP rfl rfl ?_
 refine zaa (a_shr (by omega) b1) rfl rfl ?_
 refine zaa (a_rem (by omega) (by first | exact IntWalk.rem_in _ _ (by omega) | rfl)) rfl rfl ?_
 refine zaa (zcy U25 U3 cv1) rfl rfl ?_
 refine cK i1 ?_
 refine zaa (zf9 (by omega) e1) rfl rfl ?_
 refine zaa (zf9 (by omega) e2) rfl rfl ?_
 refine mP rfl rfl ?_
 refine zaa (a_shr (by omega) b2) rfl rfl ?_
 refine zaa (a_rem (by omega) (by first | exact IntWalk.rem_in _ _ (by omega) | rfl)) rfl rfl ?_
 refine zaa (zcy U25 U3 cv2) rfl rfl ?_
 refine cK i2 ?_
 refine zaa (zf9 (by omega) e3) rfl rfl ?_
 refine zaa (zf9 (by omega) e4) rfl rfl ?_
 refine mP rfl rfl ?_
 refine zaa (a_rem (by omega) (by first | exact IntWalk.rem_in _ _ (by omega) | rfl)) rfl rfl ?_
 refine zaa (zcy U25 U3 cv3) rfl rfl ?_
 refine cK i3 ?_
 refine zaa (zf9 (by omega) rfl) rfl rfl ?_
 refine G [3, 9, 0] ?_
 exact yE
end Go.Proofs.YtkdfdcodkeclmaaGreatDoor
/- The laws AddrEnds, AddrTells, over data. -/
namespace Go.Proofs.YtkdfdcodkeclmaaGreatDoor
open Go.RowKit Go.Sort
set_option linter.unusedVariables false
set_option linter.unusedSimpArgs false
set_option maxRecDepth 100000
end Go.Proofs.YtkdfdcodkeclmaaGreatDoor
/- net.Text, net.Parse, their references, the law NetTells, over data. -/
namespace Go.Proofs.YtkdfdcodkeclmaaGreatDoor
open Tryz
open Go.RowKit Go.Sort
set_option linter.unusedVariables false
set_option linter.unusedSimpArgs false
set_option maxRecDepth 100000
theorem adA_in (s : ByteArray) : 0 ≤ adA s ∧ adA s < 4294967296 := by
 unfold adA
 split
 ·rename_i h
  unfold adOk at h
  simp only [Bool.and_eq_true, decide_eq_true_eq, List.all_eq_true] at h
  have hl := zb5 s 46
  have h2 := adN_lt (l := spl s 46) (i := 4) (fun q hq => h.2 q (List.mem_of_mem_take hq)) (by omega)
  rw [List.take_of_length_le (by omega)] at h2
  omega
 ·omega
def SLASH : ByteArray := ⟨#[47]⟩
def ntT (a n : Int) : ByteArray := adT a ++ SLASH ++ itoS n
def ntX (a n : Int) : ByteArray := if zax a n = 0 then ntT a n else ⟨#[]⟩
def ntR (a n : Int) : AV := .tup [.p (.v (.string (ntX a n))), .p (.v (.int .i64 (zax a n)))]
theorem zel {a n : Int} (h : zax a n = 0) : 0 ≤ n ∧ n ≤ 32 := ⟨(zfD h).1, (zfD h).2.1⟩
set_option maxHeartbeats 1000000 in
theorem ntText_s (a n : Int) (h2 : 0 ≤ a) (h3 : a < 4294967296) : Fn prog 145 [.agg (netA a n)] (ntR a n) [] := by
 have hC := zfj a n h2 h3
 have hT := adText_s a h2 h3
 have hz := zgZ a
 have hbits := @zel a n
 have hX : ntX a n = if zax a n = 0 then ntT a n else ⟨#[]⟩ := rfl
 unfold ntR
 generalize ntX a n = X at *
 have hNt : ntT a n = adT a ++ SLASH ++ itoS n := rfl
 generalize ntT a n = Z at *
 generalize zax a n = e at *
 generalize adT a = T at *
 change Fn prog _ [.agg [.p (.v (.int .u32 a)), .p (.v (.int .i64 n))]] _ _
 change Fn prog _ [.agg [.p (.v (.int .u32 a)), .p (.v (.int .i64 n))]] _ _ at hC
 refine fnI fun w0 A => ?_
 refine G [10] ?_
 refine cV hC ?_
 refine G [7, 9, 0] ?_
 refine zab _ rfl (fun h => ?_) (fun h => ?_)
 ·have h1 : e ≠ 0 := by simpa using h
  rw [if_neg h1] at hX
  subst hX
  refine G [7, 9, 0] ?_
  exact yE
 have h1 : e = 0 := by simpa using h
 clear h
 rw [if_pos h1] at hX
 subst hX
 obtain ⟨n0, n1⟩ := hbits h1
 have hI := zeo n (by omega) (by omega)
 have hs := zep n n0 (by omega)
 generalize itoS n = N at *
 have hd : SLASH.size = 1 := rfl
 obtain ⟨u0, e0⟩ : ∃ u, T ++ SLASH = u := ⟨_, rfl⟩
 have y0 : u0.size ≤ 24 := by rw [← e0, zcC]; omega
 rw [e0] at hNt
 rw [h1, hNt]
 refine G [5] ?_
 refine cK hT ?_
 refine zaa (zf9 (by show T.size + 1 ≤ _; omega) e0) rfl rfl ?_
 refine G [2] ?_
 refine cK hI ?_
 refine zaa (zf9 (by omega) rfl) rfl rfl ?_
 refine G [4, 9, 0] ?_
 exact yE
set_option maxHeartbeats 1000000 in
theorem refNtText_s (a n : Int) (h2 : 0 ≤ a) (h3 : a < 4294967296) : Fn prog 129 [.agg (netA a n)] (ntR a n) [] := by
 have hC := zek a n h2 h3
 have hT := refAdText_s a h2 h3
 have hz := zgZ a
 have hbits := @zel a n
 have hX : ntX a n = if zax a n = 0 then ntT a n else ⟨#[]⟩ := rfl
 unfold ntR
 generalize ntX a n = X at *
 have hNt : ntT a n = adT a ++ SLASH ++ itoS n := rfl
 generalize ntT a n = Z at *
 generalize zax a n = e at *
 generalize adT a = T at *
 change Fn prog _ [.agg [.p (.v (.int .u32 a)), .p (.v (.int .i64 n))]] _ _
 change Fn prog _ [.agg [.p (.v (.int .u32 a)), .p (.v (.int .i64 n))]] _ _ at hC
 refine fnI fun w0 A => ?_
 refine G [10] ?_
 refine cV hC ?_
 refine G [7, 9, 0] ?_
 refine zab _ rfl (fun h => ?_) (fun h => ?_)
 ·have h1 : e ≠ 0 := by simpa using h
  rw [if_neg h1] at hX
  subst hX
  refine G [7, 9, 0] ?_
  exact yE
 have h1 : e = 0 := by simpa using h
 clear h
 rw [if_pos h1] at hX
 subst hX
 obtain ⟨n0, n1⟩ := hbits h1
 have hI := zeo n (by omega) (by omega)
 have hs := zep n n0 (by omega)
 generalize itoS n = N at *
 have hd : SLASH.size = 1 := rfl
 obtain ⟨u0, e0⟩ : ∃ u, T ++ SLASH = u := ⟨_, rfl⟩
 have y0 : u0.size ≤ 24 := by rw [← e0, zcC]; omega
 rw [e0] at hNt
 rw [h1, hNt]
 refine G [5] ?_
 refine cK hT ?_
 refine zaa (zf9 (by show T.size + 1 ≤ _; omega) e0) rfl rfl ?_
 refine G [2] ?_
 refine cK hI ?_
 refine zaa (zf9 (by omega) rfl) rfl rfl ?_
 refine G [4, 9, 0] ?_
 exact yE
def npA (s : ByteArray) : Int := adA (cutA s 47)
def npN (s : ByteArray) : Int := numV (cutZ s 47) 32
def npOk (s : ByteArray) : Prop := 0 ≤ ixB s 47 ∧ adE (cutA s 47) = 0 ∧ numE (cutZ s 47) 32 = 0 ∧ zax (npA s) (npN s) = 0
instance npOk_dec (s : ByteArray) : Decidable (npOk s) := by unfold npOk; infer_instance
def npR (s : ByteArray) : AV := if npOk s then .tup [.agg (netA (npA s) (npN s)), .p (.v (.int .i64 0))] else .tup [.agg (netA 0 0), .p (.v (.int .i64 3))]
set_option maxHeartbeats 1000000 in
theorem ntParse_s (s : ByteArray) (hs : s.size < 4294967281) : Fn prog 97 [.p (.v (.string s))] (npR s) [] := by
 have hK := cut1_s s 47 (by omega)
 have zA := zcX s 47
 have zZ := zcx s 47
 have hP := parse_s (cutA s 47) (by omega)
 have hN := zgG (cutZ s 47) 32 (by omega)
 have hE : npOk s ↔ 0 ≤ ixB s 47 ∧ adE (cutA s 47) = 0 ∧ numE (cutZ s 47) 32 = 0 ∧ zax (npA s) (npN s) = 0 := Iff.rfl
 have hR1 : npOk s → npR s = .tup [.agg (netA (npA s) (npN s)), .p (.v (.int .i64 0))] := fun h => if_pos h
 have hR2 : ¬ npOk s → npR s = .tup [.agg (netA 0 0), .p (.v (.int .i64 3))] := fun h => if_neg h
 obtain ⟨a0, a1⟩ := adA_in (cutA s 47)
 have hC := zfj (npA s) (npN s) a0 a1
 rw [adR_eq] at hP
 unfold numR at hN
 change Fn prog _ _ (.tup [.p (.v (.int .u32 (npA s))), _]) _ at hP
 change Fn prog _ _ (.tup [.p (.v (.int .i64 (npN s))), _]) _ at hN
 generalize npR s = R at *
 generalize ixB s 47 = ix at *
 generalize adE (cutA s 47) = e1 at *
 generalize zax (npA s) (npN s) = e3 at *
 generalize npA s = a at *
 generalize numE (cutZ s 47) 32 = e2 at *
 generalize npN s = n at *
 generalize cutA s 47 = A at *
 generalize cutZ s 47 = Z at *
 change Fn prog _ [.agg [.p (.v (.int .u32 a)), .p (.v (.int .i64 n))]] _ _ at hC
 refine fnI fun w0 A => ?_
 refine G [8] ?_
 refine cV hK ?_
 refine G [11] ?_
 refine cV hP ?_
 refine G [9] ?_
 refine cV hN ?_
 refine G [14, 2, 3, 2, 1, 9, 0] ?_
 refine zab _ rfl (fun h => ?_) (fun h => ?_)
 ·rw [hR2 (by rw [hE]; intro ⟨q1, q2, q3, q4⟩; simp at h; omega)]
  refine G [7, 9, 0] ?_
  exact yE
 have h1 : 0 ≤ ix ∧ e1 = 0 ∧ e2 = 0 := by simp at h; omega
 clear h
 refine G [13] ?_
 refine cV hC ?_
 refine G [2, 9, 0] ?_
 refine zab _ rfl (fun h => ?_) (fun h => ?_)
 ·rw [hR2 (by rw [hE]; intro ⟨q1, q2, q3, q4⟩; simp at h; omega)]
  refine G [7, 9, 0] ?_
  exact yE
 ·rw [hR1 (by rw [hE]; simp at h; omega)]
  refine G [8, 9, 0] ?_
  exact yE
set_option maxHeartbeats 1000000 in
theorem refNtParse_s (s : ByteArray) (hs : s.size < 4294967281) : Fn prog 102 [.p (.v (.string s))] (npR s) [] := by
 have hI := zgL s 47
 have zA := zcX s 47
 have zZ := zcx s 47
 have hP := refAddr_s (cutA s 47) (by omega)
 have hN := zfe (cutZ s 47) 32 (by omega)
 have hE : npOk s ↔ 0 ≤ ixB s 47 ∧ adE (cutA s 47) = 0 ∧ numE (cutZ s 47) 32 = 0 ∧ zax (npA s) (npN s) = 0 := Iff.rfl
 have hR1 : npOk s → npR s = .tup [.agg (netA (npA s) (npN s)), .p (.v (.int .i64 0))] := fun h => if_pos h
 have hR2 : ¬ npOk s → npR s = .tup [.agg (netA 0 0), .p (.v (.int .i64 3))] := fun h => if_neg h
 have hA : 0 ≤ ixB s 47 → cutA s 47 = s.extract 0 (ixB s 47).toNat := fun h => if_pos h
 have hZ : 0 ≤ ixB s 47 → cutZ s 47 = s.extract ((ixB s 47).toNat + 1) s.size := fun h => if_pos h
 have hlt := ixB_lt s 47
 obtain ⟨a0, a1⟩ := adA_in (cutA s 47)
 have hC := zek (npA s) (npN s) a0 a1
 rw [adR_eq] at hP
 unfold numR at hN
 change Fn prog _ _ (.tup [.p (.v (.int .u32 (npA s))), _]) _ at hP
 change Fn prog _ _ (.tup [.p (.v (.int .i64 (npN s))), _]) _ at hN
 generalize npR s = R at *
 generalize ixB s 47 = ix at *
 generalize adE (cutA s 47) = e1 at *
 generalize zax (npA s) (npN s) = e3 at *
 generalize npA s = a at *
 generalize numE (cutZ s 47) 32 = e2 at *
 generalize npN s = n at *
 generalize cutA s 47 = A at *
 generalize cutZ s 47 = Z at *
 change Fn prog _ [.agg [.p (.v (.int .u32 a)), .p (.v (.int .i64 n))]] _ _ at hC
 refine fnI fun w0 A => ?_
 refine G [8] ?_
 refine cV hI ?_
 refine G [8, 9, 0] ?_
 refine zab _ rfl (fun h => ?_) (fun h => ?_)
 ·rw [hR2 (by rw [hE]; intro ⟨q1, q2, q3, q4⟩; simp at h; omega)]
  refine G [7, 9, 0] ?_
  exact yE
 have h0 : 0 ≤ ix := by simp at h; omega
 clear h
 have hA := hA h0
 have hZ := hZ h0
 obtain ⟨k, rfl⟩ := Int.eq_ofNat_of_zero_le h0
 rw [Int.toNat_natCast] at hA hZ
 refine G [5] ?_
 refine zaa (zbO (L := none) (H := (some (_, _))) U9 rfl ⟨by omega, (show _ = k by omega)⟩ (by omega) (by omega) hA.symm) rfl rfl ?_
 refine cV hP ?_
 refine G [10] ?_
 refine zaa (zas (by first | exact IntWalk.i64_in _ (by omega) | rfl)) rfl rfl ?_
 refine zaa (zbO (L := (some (_, _))) (H := none) U9 ⟨by omega, (show _ = k + 1 by omega)⟩ rfl (by omega) (by omega) hZ.symm) rfl rfl ?_
 refine cV hN ?_
 refine G [14, 2, 3] ?_
 refine mb2 _ rfl rfl (fun hb => (zgW pl27 zr27 rfl rfl)) (fun _ => trivial) ?_
 refine mb2 _ rfl rfl (fun _ => zfo func57 rfl rfl (hC) (by first | rfl | simp [AV.okInL, AV.okIn, zaj]) rfl) (fun _ => trivial) ?_
 refine G [1, 2, 1, 9, 0] ?_
 refine zab _ rfl (fun h => ?_) (fun h => ?_)
 ·rw [hR2 (by rw [hE]; intro ⟨q1, q2, q3, q4⟩; simp at h; omega)]
  refine G [7, 9, 0] ?_
  exact yE
 ·rw [hR1 (by rw [hE]; simp at h; omega)]
  refine G [10, 9, 0] ?_
  exact yE
end Go.Proofs.YtkdfdcodkeclmaaGreatDoor
