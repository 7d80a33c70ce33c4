/- wire.Encode over data, by the types. -/
import Derived.Test.YtbjdjclkbjpebaaGreatDoorSWi1
namespace Go.Proofs.YtbjdjclkbjpebaaGreatDoor
open Tryz
open Go.RowKit Go.Sort
set_option maxHeartbeats 16000000
set_option linter.unusedVariables false
set_option linter.unusedSimpArgs false
set_option maxRecDepth 100000
theorem wenc1_s (m : MS) (ht : m.t = 1) (hE : wE m = 0) (hx : m.xs.length = m.n) (hn : m.n ≤ 300) (hs0 : 0 ≤ m.s) (hs1 : m.s ≤ 4294967295) (hr0 : 0 ≤ m.r) (hr1 : m.r ≤ 4294967295) (hc0 : 0 ≤ m.c) (hc1 : m.c ≤ 1099511627776) : Fn prog 73 [.agg m.cells] (.tup [.row 0, .p (.v (.int .i64 0))]) [(0, .row 5 1 (8 + m.n) (bs ([1, 0, 0, 0] ++ leN 4 m.s.toNat ++ m.xs)))] := by
 have hC := zfa m (by omega)
 rw [hE] at hC
 have hO := of_s m.t
 rw [ht] at hO
 change Fn prog _ _ (.tup [.agg (SH.cells ⟨32, 32, true, false, false, true⟩), .p (.v (.bool true))]) [] at hO
 obtain ⟨T, S, R, C, n, xs⟩ := m
 simp only [MS.cells] at *
 subst ht
 obtain ⟨S, rfl⟩ := Int.eq_ofNat_of_zero_le hs0
 obtain ⟨R, rfl⟩ := Int.eq_ofNat_of_zero_le hr0
 obtain ⟨C, rfl⟩ := Int.eq_ofNat_of_zero_le hc0
 simp only [Int.toNat_natCast]
 clear hE hs0 hr0 hc0
 refine fnI fun w0 A => ?_
 refine G [10] ?_
 refine cV hC ?_
 refine jcq ?_
 refine cX (fun h => ?_) fun h => ?_
 ·cases h
 clear h
 refine G [5] ?_
 refine cV hO ?_
 refine G [11] ?_
 refine jdz (zbL U3 U5 (show _ = (1 : Int) from rfl)) ?_
 refine zab (xs := [.p (.v (.int .u8 1)), .p (.v (.int .u8 0)), .p (.v (.int .u8 0)), .p (.v (.int .u8 0))]) (zae (es := [.p (.v (.int .u8 1)), .p (.v (.int .u8 0)), .p (.v (.int .u8 0)), .p (.v (.int .u8 0))]) (cs := (bs [1, 0, 0, 0])) 22 U62 sz5 zc5 (Nat.le_of_ble_eq_true rfl) (Nat.le_of_ble_eq_true rfl) rfl (by kernel_rfl) (by kernel_rfl) (by kernel_rfl) (Nat.le_of_ble_eq_true rfl)) (by first | rfl | kernel_rfl) rfl ⟨rfl, trivial⟩ ?_
 refine G [2, 9, 0] ?_
 refine za8 (zah (fun o => bif Nat.beq o 7 then 22 else o) [(1, .ref 1 0), (5, .ref 5 0), (7, .row 7)] [(1, .box 97 [.p (.v (.int .i64 1)), .p (.v (.int .i64 (S : Nat))), .p (.v (.int .i64 (R : Nat))), .p (.v (.int .i64 (C : Nat))), .p (.sl n 1 (bs xs))]), (5, .box 164 (SH.cells ⟨32, 32, true, false, false, true⟩)), (7, .row 5 1 4 (bs ([1, 0, 0, 0])))] ⟨⟨rfl, rfl⟩, ⟨rfl, rfl⟩, ⟨rfl, rfl⟩, trivial⟩ ⟨⟨rfl, rfl⟩, ⟨rfl, rfl⟩, ⟨rfl, rfl⟩, trivial⟩ rfl) ?_
 refine jcs ?_
 refine cX (fun h => ?_) fun h => ?_
 rotate_left
 ·cases h
 clear h
 have w1 : FnO prog 108 [.row 7, .p (.v (.int .i64 (S : Nat))), .p (.v (.int .i64 4))] ((7, .live (.row 5 1 4 (bs ([1, 0, 0, 0])))) :: [(100, .un), (101, .un), (102, .un), (103, .un), (104, .un), (105, .un), (106, .un), (107, .un)]) ((107, .live (.row 5 1 8 (bs ([1, 0, 0, 0] ++ leN 4 S)))) :: (7, .dead) :: [(100, .dead), (101, .dead), (102, .dead), (103, .dead), (104, .dead), (105, .dead), (106, .dead)]) (.row 107) := (put4_s 4 ([1, 0, 0, 0]) S (by simp [zbH]) (by omega) (by omega)).renamed [(1, 7)] rfl
 skip
 refine G [4] ?_
 refine zbe (w1) rfl rfl func108 rfl rfl (by repeat (first | exact trivial | refine ⟨rfl, ?_⟩)) rfl ?_
 refine G [4] ?_
 refine za8 (zah (fun o => bif Nat.beq o 7 then 107 else o) [(1, .ref 1 0), (5, .ref 5 0), (7, .row 7)] [(1, .box 97 [.p (.v (.int .i64 1)), .p (.v (.int .i64 (S : Nat))), .p (.v (.int .i64 (R : Nat))), .p (.v (.int .i64 (C : Nat))), .p (.sl n 1 (bs xs))]), (5, .box 164 (SH.cells ⟨32, 32, true, false, false, true⟩)), (7, .row 5 1 8 (bs ([1, 0, 0, 0] ++ leN 4 S)))] ⟨⟨rfl, rfl⟩, ⟨rfl, rfl⟩, ⟨rfl, rfl⟩, trivial⟩ ⟨⟨rfl, rfl⟩, ⟨rfl, rfl⟩, ⟨rfl, rfl⟩, trivial⟩ rfl) ?_
 skip
 refine G [4, 9, 0] ?_
 refine cX (fun h => ?_) fun h => ?_
 ·cases h
 clear h
 refine jcq ?_
 refine cX (fun h => ?_) fun h => ?_
 ·cases h
 clear h
 have hK := clone_s 8 ([1, 0, 0, 0] ++ leN 4 S) (by simp [zbH]) (by omega)
 refine G [2] ?_
 refine zbA 6 (by kernel_rfl) ?_
 refine jcw ?_
 refine cV hK ?_
 refine G [2] ?_
 refine zab (zal 45 U62 eo5 (zbn) (by simp only [maxLen]; omega) (by omega) (show _ = 8 + n by omega) zbp) rfl rfl ⟨rfl, rfl, trivial⟩ ?_
 refine G [4, 9, 0] ?_
 refine yT (fun _ => 45) ?_ ?_
 ·exact rfl
 ·exact ⟨⟨rfl, rfl⟩, trivial⟩
theorem wenc2_s (m : MS) (ht : m.t = 2) (hE : wE m = 0) (hx : m.xs.length = m.n) (hn : m.n ≤ 300) (hs0 : 0 ≤ m.s) (hs1 : m.s ≤ 4294967295) (hr0 : 0 ≤ m.r) (hr1 : m.r ≤ 4294967295) (hc0 : 0 ≤ m.c) (hc1 : m.c ≤ 1099511627776) : Fn prog 73 [.agg m.cells] (.tup [.row 0, .p (.v (.int .i64 0))]) [(0, .row 5 1 (12 + m.n) (bs ([2, 0, 0, 0] ++ leN 4 m.s.toNat ++ leN 4 m.r.toNat ++ m.xs)))] := by
 have hC := zfa m (by omega)
 rw [hE] at hC
 have hO := of_s m.t
 rw [ht] at hO
 change Fn prog _ _ (.tup [.agg (SH.cells ⟨24, 24, true, true, false, true⟩), .p (.v (.bool true))]) [] at hO
 obtain ⟨T, S, R, C, n, xs⟩ := m
 simp only [MS.cells] at *
 subst ht
 obtain ⟨S, rfl⟩ := Int.eq_ofNat_of_zero_le hs0
 obtain ⟨R, rfl⟩ := Int.eq_ofNat_of_zero_le hr0
 obtain ⟨C, rfl⟩ := Int.eq_ofNat_of_zero_le hc0
 simp only [Int.toNat_natCast]
 clear hE hs0 hr0 hc0
 refine fnI fun w0 A => ?_
 refine G [10] ?_
 refine cV hC ?_
 refine jcq ?_
 refine cX (fun h => ?_) fun h => ?_
 ·cases h
 clear h
 refine G [5] ?_
 refine cV hO ?_
 refine G [11] ?_
 refine jdz (zbL U3 U5 (show _ = (2 : Int) from rfl)) ?_
 refine zab (xs := [.p (.v (.int .u8 2)), .p (.v (.int .u8 0)), .p (.v (.int .u8 0)), .p (.v (.int .u8 0))]) (zae (es := [.p (.v (.int .u8 2)), .p (.v (.int .u8 0)), .p (.v (.int .u8 0)), .p (.v (.int .u8 0))]) (cs := (bs [2, 0, 0, 0])) 22 U62 sz5 zc5 (Nat.le_of_ble_eq_true rfl) (Nat.le_of_ble_eq_true rfl) rfl (by kernel_rfl) (by kernel_rfl) (by kernel_rfl) (Nat.le_of_ble_eq_true rfl)) (by first | rfl | kernel_rfl) rfl ⟨rfl, trivial⟩ ?_
 refine G [2, 9, 0] ?_
 refine za8 (zah (fun o => bif Nat.beq o 7 then 22 else o) [(1, .ref 1 0), (5, .ref 5 0), (7, .row 7)] [(1, .box 97 [.p (.v (.int .i64 2)), .p (.v (.int .i64 (S : Nat))), .p (.v (.int .i64 (R : Nat))), .p (.v (.int .i64 (C : Nat))), .p (.sl n 1 (bs xs))]), (5, .box 164 (SH.cells ⟨24, 24, true, true, false, true⟩)), (7, .row 5 1 4 (bs ([2, 0, 0, 0])))] ⟨⟨rfl, rfl⟩, ⟨rfl, rfl⟩, ⟨rfl, rfl⟩, trivial⟩ ⟨⟨rfl, rfl⟩, ⟨rfl, rfl⟩, ⟨rfl, rfl⟩, trivial⟩ rfl) ?_
 refine jcs ?_
 refine cX (fun h => ?_) fun h => ?_
 rotate_left
 ·cases h
 clear h
 have w1 : FnO prog 108 [.row 7, .p (.v (.int .i64 (S : Nat))), .p (.v (.int .i64 4))] ((7, .live (.row 5 1 4 (bs ([2, 0, 0, 0])))) :: [(100, .un), (101, .un), (102, .un), (103, .un), (104, .un), (105, .un), (106, .un), (107, .un)]) ((107, .live (.row 5 1 8 (bs ([2, 0, 0, 0] ++ leN 4 S)))) :: (7, .dead) :: [(100, .dead), (101, .dead), (102, .dead), (103, .dead), (104, .dead), (105, .dead), (106, .dead)]) (.row 107) := (put4_s 4 ([2, 0, 0, 0]) S (by simp [zbH]) (by omega) (by omega)).renamed [(1, 7)] rfl
 skip
 refine G [4] ?_
 refine zbe (w1) rfl rfl func108 rfl rfl (by repeat (first | exact trivial | refine ⟨rfl, ?_⟩)) rfl ?_
 refine G [4] ?_
 refine za8 (zah (fun o => bif Nat.beq o 7 then 107 else o) [(1, .ref 1 0), (5, .ref 5 0), (7, .row 7)] [(1, .box 97 [.p (.v (.int .i64 2)), .p (.v (.int .i64 (S : Nat))), .p (.v (.int .i64 (R : Nat))), .p (.v (.int .i64 (C : Nat))), .p (.sl n 1 (bs xs))]), (5, .box 164 (SH.cells ⟨24, 24, true, true, false, true⟩)), (7, .row 5 1 8 (bs ([2, 0, 0, 0] ++ leN 4 S)))] ⟨⟨rfl, rfl⟩, ⟨rfl, rfl⟩, ⟨rfl, rfl⟩, trivial⟩ ⟨⟨rfl, rfl⟩, ⟨rfl, rfl⟩, ⟨rfl, rfl⟩, trivial⟩ rfl) ?_
 skip
 refine G [4, 9, 0] ?_
 refine cX (fun h => ?_) fun h => ?_
 rotate_left
 ·cases h
 clear h
 have w2 : FnO prog 108 [.row 7, .p (.v (.int .i64 (R : Nat))), .p (.v (.int .i64 4))] ((7, .live (.row 5 1 8 (bs ([2, 0, 0, 0] ++ leN 4 S)))) :: [(100, .un), (101, .un), (102, .un), (103, .un), (104, .un), (105, .un), (106, .un), (107, .un)]) ((107, .live (.row 5 1 12 (bs ([2, 0, 0, 0] ++ leN 4 S ++ leN 4 R)))) :: (7, .dead) :: [(100, .dead), (101, .dead), (102, .dead), (103, .dead), (104, .dead), (105, .dead), (106, .dead)]) (.row 107) := (put4_s 8 ([2, 0, 0, 0] ++ leN 4 S) R (by simp [zbH]) (by omega) (by omega)).renamed [(1, 7)] rfl
 skip
 refine G [4] ?_
 refine zbe (w2) rfl rfl func108 rfl rfl (by repeat (first | exact trivial | refine ⟨rfl, ?_⟩)) rfl ?_
 refine G [4] ?_
 refine za8 (zah (fun o => bif Nat.beq o 7 then 107 else o) [(1, .ref 1 0), (5, .ref 5 0), (7, .row 7)] [(1, .box 97 [.p (.v (.int .i64 2)), .p (.v (.int .i64 (S : Nat))), .p (.v (.int .i64 (R : Nat))), .p (.v (.int .i64 (C : Nat))), .p (.sl n 1 (bs xs))]), (5, .box 164 (SH.cells ⟨24, 24, true, true, false, true⟩)), (7, .row 5 1 12 (bs ([2, 0, 0, 0] ++ leN 4 S ++ leN 4 R)))] ⟨⟨rfl, rfl⟩, ⟨rfl, rfl⟩, ⟨rfl, rfl⟩, trivial⟩ ⟨⟨rfl, rfl⟩, ⟨rfl, rfl⟩, ⟨rfl, rfl⟩, trivial⟩ rfl) ?_
 skip
 refine G [4, 9, 0] ?_
 refine cX (fun h => ?_) fun h => ?_
 ·cases h
 clear h
 have hK := clone_s 12 ([2, 0, 0, 0] ++ leN 4 S ++ leN 4 R) (by simp [zbH]) (by omega)
 refine G [2] ?_
 refine zbA 6 (by kernel_rfl) ?_
 refine jcw ?_
 refine cV hK ?_
 refine G [2] ?_
 refine zab (zal 45 U62 eo5 (zbn) (by simp only [maxLen]; omega) (by omega) (show _ = 12 + n by omega) zbp) rfl rfl ⟨rfl, rfl, trivial⟩ ?_
 refine G [4, 9, 0] ?_
 refine yT (fun _ => 45) ?_ ?_
 ·exact rfl
 ·exact ⟨⟨rfl, rfl⟩, trivial⟩
theorem wenc4_s (m : MS) (ht : m.t = 4) (hE : wE m = 0) (hx : m.xs.length = m.n) (hn : m.n ≤ 300) (hs0 : 0 ≤ m.s) (hs1 : m.s ≤ 4294967295) (hr0 : 0 ≤ m.r) (hr1 : m.r ≤ 4294967295) (hc0 : 0 ≤ m.c) (hc1 : m.c ≤ 1099511627776) : Fn prog 73 [.agg m.cells] (.tup [.row 0, .p (.v (.int .i64 0))]) [(0, .row 5 1 (16 + m.n) (bs ([4, 0, 0, 0] ++ leN 4 m.r.toNat ++ leN 8 m.c.toNat ++ m.xs)))] := by
 have hC := zfa m (by omega)
 rw [hE] at hC
 have hO := of_s m.t
 rw [ht] at hO
 change Fn prog _ _ (.tup [.agg (SH.cells ⟨16, 236, false, true, true, true⟩), .p (.v (.bool true))]) [] at hO
 obtain ⟨T, S, R, C, n, xs⟩ := m
 simp only [MS.cells] at *
 subst ht
 obtain ⟨S, rfl⟩ := Int.eq_ofNat_of_zero_le hs0
 obtain ⟨R, rfl⟩ := Int.eq_ofNat_of_zero_le hr0
 obtain ⟨C, rfl⟩ := Int.eq_ofNat_of_zero_le hc0
 simp only [Int.toNat_natCast]
 clear hE hs0 hr0 hc0
 refine fnI fun w0 A => ?_
 refine G [10] ?_
 refine cV hC ?_
 refine jcq ?_
 refine cX (fun h => ?_) fun h => ?_
 ·cases h
 clear h
 refine G [5] ?_
 refine cV hO ?_
 refine G [11] ?_
 refine jdz (zbL U3 U5 (show _ = (4 : Int) from rfl)) ?_
 refine zab (xs := [.p (.v (.int .u8 4)), .p (.v (.int .u8 0)), .p (.v (.int .u8 0)), .p (.v (.int .u8 0))]) (zae (es := [.p (.v (.int .u8 4)), .p (.v (.int .u8 0)), .p (.v (.int .u8 0)), .p (.v (.int .u8 0))]) (cs := (bs [4, 0, 0, 0])) 22 U62 sz5 zc5 (Nat.le_of_ble_eq_true rfl) (Nat.le_of_ble_eq_true rfl) rfl (by kernel_rfl) (by kernel_rfl) (by kernel_rfl) (Nat.le_of_ble_eq_true rfl)) (by first | rfl | kernel_rfl) rfl ⟨rfl, trivial⟩ ?_
 refine G [2, 9, 0] ?_
 refine za8 (zah (fun o => bif Nat.beq o 7 then 22 else o) [(1, .ref 1 0), (5, .ref 5 0), (7, .row 7)] [(1, .box 97 [.p (.v (.int .i64 4)), .p (.v (.int .i64 (S : Nat))), .p (.v (.int .i64 (R : Nat))), .p (.v (.int .i64 (C : Nat))), .p (.sl n 1 (bs xs))]), (5, .box 164 (SH.cells ⟨16, 236, false, true, true, true⟩)), (7, .row 5 1 4 (bs ([4, 0, 0, 0])))] ⟨⟨rfl, rfl⟩, ⟨rfl, rfl⟩, ⟨rfl, rfl⟩, trivial⟩ ⟨⟨rfl, rfl⟩, ⟨rfl, rfl⟩, ⟨rfl, rfl⟩, trivial⟩ rfl) ?_
 refine jcs ?_
 refine cX (fun h => ?_) fun h => ?_
 ·cases h
 clear h
 refine jcq ?_
 refine cX (fun h => ?_) fun h => ?_
 rotate_left
 ·cases h
 clear h
 have w1 : FnO prog 108 [.row 7, .p (.v (.int .i64 (R : Nat))), .p (.v (.int .i64 4))] ((7, .live (.row 5 1 4 (bs ([4, 0, 0, 0])))) :: [(100, .un), (101, .un), (102, .un), (103, .un), (104, .un), (105, .un), (106, .un), (107, .un)]) ((107, .live (.row 5 1 8 (bs ([4, 0, 0, 0] ++ leN 4 R)))) :: (7, .dead) :: [(100, .dead), (101, .dead), (102, .dead), (103, .dead), (104, .dead), (105, .dead), (106, .dead)]) (.row 107) := (put4_s 4 ([4, 0, 0, 0]) R (by simp [zbH]) (by omega) (by omega)).renamed [(1, 7)] rfl
 skip
 refine G [4] ?_
 refine zbe (w1) rfl rfl func108 rfl rfl (by repeat (first | exact trivial | refine ⟨rfl, ?_⟩)) rfl ?_
 refine G [4] ?_
 refine za8 (zah (fun o => bif Nat.beq o 7 then 107 else o) [(1, .ref 1 0), (5, .ref 5 0), (7, .row 7)] [(1, .box 97 [.p (.v (.int .i64 4)), .p (.v (.int .i64 (S : Nat))), .p (.v (.int .i64 (R : Nat))), .p (.v (.int .i64 (C : Nat))), .p (.sl n 1 (bs xs))]), (5, .box 164 (SH.cells ⟨16, 236, false, true, true, true⟩)), (7, .row 5 1 8 (bs ([4, 0, 0, 0] ++ leN 4 R)))] ⟨⟨rfl, rfl⟩, ⟨rfl, rfl⟩, ⟨rfl, rfl⟩, trivial⟩ ⟨⟨rfl, rfl⟩, ⟨rfl, rfl⟩, ⟨rfl, rfl⟩, trivial⟩ rfl) ?_
 skip
 refine G [4, 9, 0] ?_
 refine cX (fun h => ?_) fun h => ?_
 rotate_left
 ·cases h
 clear h
 have w2 : FnO prog 108 [.row 7, .p (.v (.int .i64 (C : Nat))), .p (.v (.int .i64 8))] ((7, .live (.row 5 1 8 (bs ([4, 0, 0, 0] ++ leN 4 R)))) :: [(100, .un), (101, .un), (102, .un), (103, .un), (104, .un), (105, .un), (106, .un), (107, .un), (108, .un), (109, .un), (110, .un), (111, .un), (112, .un), (113, .un), (114, .un), (115, .un)]) ((115, .live (.row 5 1 16 (bs ([4, 0, 0, 0] ++ leN 4 R ++ leN 8 C)))) :: (7, .dead) :: [(100, .dead), (101, .dead), (102, .dead), (103, .dead), (104, .dead), (105, .dead), (106, .dead), (107, .dead), (108, .dead), (109, .dead), (110, .dead), (111, .dead), (112, .dead), (113, .dead), (114, .dead)]) (.row 115) := (put8_s 8 ([4, 0, 0, 0] ++ leN 4 R) C (by simp [zbH]) (by omega) (by omega)).renamed [(1, 7)] rfl
 skip
 refine G [4] ?_
 refine zbe (w2) rfl rfl func108 rfl rfl (by repeat (first | exact trivial | refine ⟨rfl, ?_⟩)) rfl ?_
 refine G [3] ?_
 refine za8 (zah (fun o => bif Nat.beq o 7 then 115 else o) [(1, .ref 1 0), (5, .ref 5 0), (7, .row 7)] [(1, .box 97 [.p (.v (.int .i64 4)), .p (.v (.int .i64 (S : Nat))), .p (.v (.int .i64 (R : Nat))), .p (.v (.int .i64 (C : Nat))), .p (.sl n 1 (bs xs))]), (5, .box 164 (SH.cells ⟨16, 236, false, true, true, true⟩)), (7, .row 5 1 16 (bs ([4, 0, 0, 0] ++ leN 4 R ++ leN 8 C)))] ⟨⟨rfl, rfl⟩, ⟨rfl, rfl⟩, ⟨rfl, rfl⟩, trivial⟩ ⟨⟨rfl, rfl⟩, ⟨rfl, rfl⟩, ⟨rfl, rfl⟩, trivial⟩ rfl) ?_
 have hK := clone_s 16 ([4, 0, 0, 0] ++ leN 4 R ++ leN 8 C) (by simp [zbH]) (by omega)
 skip
 refine zbA 6 (by kernel_rfl) ?_
 refine jcw ?_
 refine cV hK ?_
 refine G [2] ?_
 refine zab (zal 45 U62 eo5 (zbn) (by simp only [maxLen]; omega) (by omega) (show _ = 16 + n by omega) zbp) rfl rfl ⟨rfl, rfl, trivial⟩ ?_
 refine G [4, 9, 0] ?_
 refine yT (fun _ => 45) ?_ ?_
 ·exact rfl
 ·exact ⟨⟨rfl, rfl⟩, trivial⟩
end Go.Proofs.YtbjdjclkbjpebaaGreatDoor
