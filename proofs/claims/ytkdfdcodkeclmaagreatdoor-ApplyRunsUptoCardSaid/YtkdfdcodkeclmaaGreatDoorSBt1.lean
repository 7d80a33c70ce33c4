/- batch.Check and the reference's SettingFault, kind by kind, over data. (Printed by wip/mkbt.py.) -/
import Derived.Test.YtkdfdcodkeclmaaGreatDoorSCf1
namespace Go.Proofs.YtkdfdcodkeclmaaGreatDoor
open Tryz
open Go.RowKit Go.Sort
set_option linter.unusedVariables false
set_option linter.unusedSimpArgs false
set_option maxRecDepth 100000
theorem zax {G : Env} {Q : Exit → St → Prop} {st : St} {c : Operand} {x y : Code} (hc : st.ev c = .p (.v (.bool true))) (h1 : awp G x Q st) : awp G (.cond c x y) Q st :=
 zaq true hc (fun _ => h1) (fun h => by cases h)
theorem zag {G : Env} {Q : Exit → St → Prop} {st : St} {c : Operand} {x y : Code} (hc : st.ev c = .p (.v (.bool false))) (h1 : awp G y Q st) : awp G (.cond c x y) Q st :=
 zaq false hc (fun h => by cases h) (fun _ => h1)
section
variable {P : Program} {d : Option Tmp} {ty : TypeId} {pos : String} {af : Array Edge} {g : Option (Nat × Bool)}
theorem zaP {t yt : TypeId} {x y : Operand} {cs ds : List AV} {xs ys : List Value} {fs : Array Field} {c : Bool} (hu : P.underlying t = some (.struct fs)) (hx : zcb cs = some xs) (hy : zcb ds = some ys) (hg : P.eqGuardType P.depth t = false) (h1 : okS P 20 t xs = true) (h2 : okS P 20 t ys = true) (hc : (!eqL xs ys) = c) :
  AOp P ⟨d, .binOp .neq t x y yt, ty, pos, af, g⟩ [.agg cs, .agg ds] [] [] (.p (.v (.bool c))) := by
 subst hc
 exact zc0 hu hx hy hg h1 h2
theorem zgw {t yt : TypeId} {x y : Operand} {cs ds : List AV} {xs ys : List Value} {fs : Array Field} {c : Bool} (hu : P.underlying t = some (.struct fs)) (hx : zcb cs = some xs) (hy : zcb ds = some ys) (hg : P.eqGuardType P.depth t = false) (h1 : okS P 20 t xs = true) (h2 : okS P 20 t ys = true) (hc : eqL xs ys = c) :
  AOp P ⟨d, .binOp .eql t x y yt, ty, pos, af, g⟩ [.agg cs, .agg ds] [] [] (.p (.v (.bool c))) := by
 subst hc
 exact a_steql hu hx hy hg h1 h2
end
/-- a setting -/
structure SE where
 k : Int
 t : ByteArray
 n : Int
 a : Int
 b : Int
def SE.cells (s : SE) : List AV := [.p (.v (.int .i64 s.k)), .p (.v (.string s.t)), .p (.v (.int .i64 s.n)), .p (.v (.int .u32 s.a)), .p (.v (.int .i64 s.b))]
def SE.pv (s : SE) : List PV := [.v (.int .i64 s.k), .v (.string s.t), .v (.int .i64 s.n), .v (.int .u32 s.a), .v (.int .i64 s.b)]
structure SE.OK (s : SE) : Prop where
 t : s.t.size < 4294967281
 n0 : -9223372036854775808 ≤ s.n
 n1 : s.n ≤ 9223372036854775807
 a0 : 0 ≤ s.a
 a1 : s.a < 4294967296
def isT (k : Int) : Bool := k == 1 || k == 4 || k == 6 || k == 7
def isN (k : Int) : Bool := k == 2 || k == 8
def isC (k : Int) : Bool := k == 10
def seF (s : SE) : Prop := (isT s.k = false ∧ s.t ≠ ⟨#[]⟩) ∨ (isN s.k = false ∧ s.n ≠ 0) ∨ (isC s.k = false ∧ ¬ (s.a = 0 ∧ s.b = 0))
instance seF_dec (s : SE) : Decidable (seF s) := by unfold seF; infer_instance
def seV (s : SE) : Int :=
 if isN s.k = true then (if s.n < 0 ∨ 65535 < s.n then 4 else 0)
 else if isC s.k = true then zbj s.a s.b
 else if s.k = 7 then enE s.t
 else if s.k = 6 then (if s.t = ⟨#[]⟩ then 0 else if s.t = zeW then 3 else keyE s.t)
 else if isT s.k = true then keyE s.t else 0
def seE (s : SE) : Int := if s.k < 1 ∨ 10 < s.k then 2 else if seF s then 3 else seV s
theorem zbs (a b : Int) : eqL [.int .u32 a, .int .i64 b] [.int .u32 0, .int .i64 0] = (a == 0 && b == 0) := by
 rw [Bool.eq_iff_iff, zcn]
 simp
theorem seV_1 (t : ByteArray) (n a b : Int) : seV ⟨1, t, n, a, b⟩ = (keyE t) := by simp [seV, isN, isC, isT]
theorem seV_2 (t : ByteArray) (n a b : Int) : seV ⟨2, t, n, a, b⟩ = (if n < 0 ∨ 65535 < n then 4 else 0) := by simp [seV, isN, isC, isT]
theorem seV_3 (t : ByteArray) (n a b : Int) : seV ⟨3, t, n, a, b⟩ = (0) := by simp [seV, isN, isC, isT]
theorem seV_4 (t : ByteArray) (n a b : Int) : seV ⟨4, t, n, a, b⟩ = (keyE t) := by simp [seV, isN, isC, isT]
theorem seV_5 (t : ByteArray) (n a b : Int) : seV ⟨5, t, n, a, b⟩ = (0) := by simp [seV, isN, isC, isT]
theorem seV_6 (t : ByteArray) (n a b : Int) : seV ⟨6, t, n, a, b⟩ = (if t = ⟨#[]⟩ then 0 else if t = zeW then 3 else keyE t) := by simp [seV, isN, isC, isT]
theorem seV_7 (t : ByteArray) (n a b : Int) : seV ⟨7, t, n, a, b⟩ = (enE t) := by simp [seV, isN, isC, isT]
theorem seV_8 (t : ByteArray) (n a b : Int) : seV ⟨8, t, n, a, b⟩ = (if n < 0 ∨ 65535 < n then 4 else 0) := by simp [seV, isN, isC, isT]
theorem seV_9 (t : ByteArray) (n a b : Int) : seV ⟨9, t, n, a, b⟩ = (0) := by simp [seV, isN, isC, isT]
theorem seV_10 (t : ByteArray) (n a b : Int) : seV ⟨10, t, n, a, b⟩ = (zbj a b) := by simp [seV, isN, isC, isT]
theorem mostN_s (k : Int) (hk : k = 2 ∨ k = 8) : Fn prog 44 [.p (.v (.int .i64 k))] (.p (.v (.int .i64 65535))) [] := by
 rcases hk with rfl | rfl
 ·refine zaw F44 rfl (qE rfl) fun w0 A => zaa<| tx<| wA rfl<| zab<| zaa<| zaa<| tx<| wM rfl<| zab<| zak<| zaa<| tx<| wP zaZ rfl<| wA rfl<| zab<| zaf<| zax rfl<| zaa<| tx<| wA rfl<| zab<| zai<| zaU<| zau ?_
  refine yT ?_ ?_
  ·exact rfl
  ·exact trivial
 ·refine zaw F44 rfl (qE rfl) fun w0 A => zaa<| tx<| wA rfl<| zab<| zaa<| zaa<| tx<| wM rfl<| zab<| zak<| zaa<| tx<| wP zaz rfl<| wA rfl<| zab<| zaf<| zag rfl<| zaa<| tx<| wP zaZ rfl<| wA rfl<| zab<| zaf ?_
  refine zax rfl<| zaa<| tx<| wA rfl<| zab<| zai<| zaU<| zau<| yT ?_ ?_
  ·exact rfl
  ·exact trivial
theorem most1_s : Fn prog 44 [.p (.v (.int .i64 1))] (.p (.v (.int .i64 (-1)))) [] := by
 refine zaw F44 rfl (qE rfl) fun w0 A => zaa<| tx<| wA rfl<| zab<| zaa<| zaa<| tx<| wM rfl<| zab<| zak<| zaa<| tx<| wP zaz rfl<| wA rfl<| zab<| zaf<| zag rfl<| zaa<| tx<| wP zaz rfl<| wA rfl<| zab<| zaf ?_
 refine zag rfl<| zae<| zaa<| tx<| wA rfl<| zab<| zai<| yT ?_ ?_
 ·exact rfl
 ·exact trivial
theorem most3_s : Fn prog 44 [.p (.v (.int .i64 3))] (.p (.v (.int .i64 (-1)))) [] := by
 refine zaw F44 rfl (qE rfl) fun w0 A => zaa<| tx<| wA rfl<| zab<| zaa<| zaa<| tx<| wM rfl<| zab<| zak<| zaa<| tx<| wP zaz rfl<| wA rfl<| zab<| zaf<| zag rfl<| zaa<| tx<| wP zaz rfl<| wA rfl<| zab<| zaf ?_
 refine zag rfl<| zae<| zaa<| tx<| wA rfl<| zab<| zai<| yT ?_ ?_
 ·exact rfl
 ·exact trivial
theorem most4_s : Fn prog 44 [.p (.v (.int .i64 4))] (.p (.v (.int .i64 (-1)))) [] := by
 refine zaw F44 rfl (qE rfl) fun w0 A => zaa<| tx<| wA rfl<| zab<| zaa<| zaa<| tx<| wM rfl<| zab<| zak<| zaa<| tx<| wP zaz rfl<| wA rfl<| zab<| zaf<| zag rfl<| zaa<| tx<| wP zaz rfl<| wA rfl<| zab<| zaf ?_
 refine zag rfl<| zae<| zaa<| tx<| wA rfl<| zab<| zai<| yT ?_ ?_
 ·exact rfl
 ·exact trivial
theorem most5_s : Fn prog 44 [.p (.v (.int .i64 5))] (.p (.v (.int .i64 (-1)))) [] := by
 refine zaw F44 rfl (qE rfl) fun w0 A => zaa<| tx<| wA rfl<| zab<| zaa<| zaa<| tx<| wM rfl<| zab<| zak<| zaa<| tx<| wP zaz rfl<| wA rfl<| zab<| zaf<| zag rfl<| zaa<| tx<| wP zaz rfl<| wA rfl<| zab<| zaf ?_
 refine zag rfl<| zae<| zaa<| tx<| wA rfl<| zab<| zai<| yT ?_ ?_
 ·exact rfl
 ·exact trivial
theorem most6_s : Fn prog 44 [.p (.v (.int .i64 6))] (.p (.v (.int .i64 (-1)))) [] := by
 refine zaw F44 rfl (qE rfl) fun w0 A => zaa<| tx<| wA rfl<| zab<| zaa<| zaa<| tx<| wM rfl<| zab<| zak<| zaa<| tx<| wP zaz rfl<| wA rfl<| zab<| zaf<| zag rfl<| zaa<| tx<| wP zaz rfl<| wA rfl<| zab<| zaf ?_
 refine zag rfl<| zae<| zaa<| tx<| wA rfl<| zab<| zai<| yT ?_ ?_
 ·exact rfl
 ·exact trivial
theorem most7_s : Fn prog 44 [.p (.v (.int .i64 7))] (.p (.v (.int .i64 (-1)))) [] := by
 refine zaw F44 rfl (qE rfl) fun w0 A => zaa<| tx<| wA rfl<| zab<| zaa<| zaa<| tx<| wM rfl<| zab<| zak<| zaa<| tx<| wP zaz rfl<| wA rfl<| zab<| zaf<| zag rfl<| zaa<| tx<| wP zaz rfl<| wA rfl<| zab<| zaf ?_
 refine zag rfl<| zae<| zaa<| tx<| wA rfl<| zab<| zai<| yT ?_ ?_
 ·exact rfl
 ·exact trivial
theorem most9_s : Fn prog 44 [.p (.v (.int .i64 9))] (.p (.v (.int .i64 (-1)))) [] := by
 refine zaw F44 rfl (qE rfl) fun w0 A => zaa<| tx<| wA rfl<| zab<| zaa<| zaa<| tx<| wM rfl<| zab<| zak<| zaa<| tx<| wP zaz rfl<| wA rfl<| zab<| zaf<| zag rfl<| zaa<| tx<| wP zaz rfl<| wA rfl<| zab<| zaf ?_
 refine zag rfl<| zae<| zaa<| tx<| wA rfl<| zab<| zai<| yT ?_ ?_
 ·exact rfl
 ·exact trivial
theorem most10_s : Fn prog 44 [.p (.v (.int .i64 10))] (.p (.v (.int .i64 (-1)))) [] := by
 refine zaw F44 rfl (qE rfl) fun w0 A => zaa<| tx<| wA rfl<| zab<| zaa<| zaa<| tx<| wM rfl<| zab<| zak<| zaa<| tx<| wP zaz rfl<| wA rfl<| zab<| zaf<| zag rfl<| zaa<| tx<| wP zaz rfl<| wA rfl<| zab<| zaf ?_
 refine zag rfl<| zae<| zaa<| tx<| wA rfl<| zab<| zai<| yT ?_ ?_
 ·exact rfl
 ·exact trivial
set_option maxHeartbeats 2000000 in
theorem check1_s (t : ByteArray) (n a b : Int) (ok : SE.OK ⟨1, t, n, a, b⟩) : Fn prog 20 [.agg (SE.cells ⟨1, t, n, a, b⟩)] (.p (.v (.int .i64 (seE ⟨1, t, n, a, b⟩)))) [] := by
 obtain ⟨hz, hn0, hn1, ha0, ha1⟩ := ok
 dsimp only at hz hn0 hn1 ha0 ha1
 obtain ⟨E, hE⟩ : ∃ E, seE ⟨1, t, n, a, b⟩ = E := ⟨_, rfl⟩
 rw [hE]
 unfold seE at hE
 rw [if_neg (by dsimp only; decide)] at hE
 show Fn prog _ [.agg [.p (.v (.int .i64 1)), .p (.v (.string t)), .p (.v (.int .i64 n)), .p (.v (.int .u32 a)), .p (.v (.int .i64 b))]] _ _
 have hM := most1_s
 have hH := zcG t
 refine zaw F20 rfl (qE rfl) fun w0 A => zaa<| tx<| wG (zaK (X := .agg _) 1 rfl) rfl<| wA rfl<| zab<| zaa<| zaa<| tx<| wF zav rfl<| wL U3 rfl<| wP za8 rfl<| wM rfl<| wF zav rfl<| wL U3 rfl<| wP zbA rfl<| wP zaj rfl<| zab<| zaf<| zag rfl<| zae<| zaa<| zaB 4 qK<| wF zav rfl ?_
 refine wL U3 rfl<| cS (fun n => 19 + 1000 * n) (hM) F44 ?_
 refine wP zeC rfl<| wF zav rfl<| wL U3 rfl<| wP zaz rfl<| wA rfl<| wA rfl<| wA rfl<| zab ⟨qK, ?_⟩
 refine zaa<| zaa<| tx<| wF zav rfl<| wL U3 rfl<| zab<| zak<| zaa<| zaa<| tx<| wP zaZ rfl<| wA rfl<| zab<| zaf<| zax rfl<| zae<| zaf<| zax rfl ?_
 skip
 refine tx<| wA rfl<| zab ?_
 by_cases hn : n ≠ 0
 ·rw [if_pos (show seF ⟨1, t, n, a, b⟩ by simp [seF, isT, isN, isC, *])] at hE
  subst hE
  refine zaa<| zaa<| tx<| wM rfl<| wP zba rfl<| wM rfl<| wS rfl<| wS rfl<| wS rfl<| wP zaj rfl<| wM rfl<| wM rfl<| wP zba rfl<| wM rfl<| wF zaM rfl<| wL U3 rfl<| wP (zaT (c := true) (by simpa using hn)) rfl ?_
  refine wP zao rfl<| wP zaj rfl<| wM rfl<| wS rfl<| wS rfl<| wS rfl<| wS rfl<| wS rfl<| wS rfl<| wS rfl<| wS rfl<| wP zao rfl<| zab<| zaf<| zax rfl<| zaa<| tx<| wA rfl<| zab<| zai<| zau<| yT ?_ ?_
  ·exact rfl
  ·exact trivial
 replace hn : n = 0 := Decidable.not_not.1 hn
 refine zaa<| zaa<| tx<| wM rfl<| wP zba rfl<| wM rfl<| wS rfl<| wS rfl<| wS rfl<| wP zaj rfl<| wM rfl<| wM rfl<| wP zba rfl<| wM rfl<| wF zaM rfl<| wL U3 rfl<| wP (zaT (c := false) (by simp [hn])) rfl ?_
 refine wP zao rfl<| wP zaj rfl<| wM rfl<| wM rfl<| wP zba rfl<| wM rfl<| wF za2 rfl<| wN U27 sz27 rfl ?_
 refine wP (zaQ pl27 zr27 rfl rfl) rfl<| wP (zc0 U27 rfl rfl qK qK qK) rfl<| wP zao rfl<| wP zaj rfl<| zab<| zaf<| zaq _ rfl (fun h => ?_) (fun h => ?_)
 ·have hq : ¬ (a = 0 ∧ b = 0) := by
   simp only [zbs] at h
   simp at h
   omega
  rw [if_pos (show seF ⟨1, t, n, a, b⟩ by simp [seF, isT, isN, isC]; omega)] at hE
  subst hE
  refine zaa<| tx<| wA rfl<| zab<| zai<| zau<| yT ?_ ?_
  ·exact rfl
  ·exact trivial
 have hq : a = 0 ∧ b = 0 := by
  simp only [zbs] at h
  simp at h
  omega
 clear h
 rw [if_neg (show ¬ seF ⟨1, t, n, a, b⟩ by simp [seF, isT, isN, isC, *])] at hE
 rw [seV_1] at hE
 refine zae<| zaa<| zaa<| tx<| wF zav rfl<| wL U3 rfl<| zab<| zak<| zaa<| zaa<| tx<| wP zaZ rfl<| wA rfl<| zab<| zaf<| zax rfl<| zae<| zaf<| zax rfl ?_
 subst hE
 refine zaa<| tx<| wF zaD rfl<| wL U9 rfl<| yV (fun n => 64 + 1000 * n) (hH) F41 ?_
 refine wA rfl<| zab<| zai<| zaU<| zau<| yT ?_ ?_
 ·exact rfl
 ·exact trivial
set_option maxHeartbeats 2000000 in
theorem check2_s (t : ByteArray) (n a b : Int) (ok : SE.OK ⟨2, t, n, a, b⟩) : Fn prog 20 [.agg (SE.cells ⟨2, t, n, a, b⟩)] (.p (.v (.int .i64 (seE ⟨2, t, n, a, b⟩)))) [] := by
 obtain ⟨hz, hn0, hn1, ha0, ha1⟩ := ok
 dsimp only at hz hn0 hn1 ha0 ha1
 obtain ⟨E, hE⟩ : ∃ E, seE ⟨2, t, n, a, b⟩ = E := ⟨_, rfl⟩
 rw [hE]
 unfold seE at hE
 rw [if_neg (by dsimp only; decide)] at hE
 show Fn prog _ [.agg [.p (.v (.int .i64 2)), .p (.v (.string t)), .p (.v (.int .i64 n)), .p (.v (.int .u32 a)), .p (.v (.int .i64 b))]] _ _
 have hM := mostN_s 2 qD
 refine zaw F20 rfl (qE rfl) fun w0 A => zaa<| tx<| wG (zaK (X := .agg _) 1 rfl) rfl<| wA rfl<| zab<| zaa<| zaa<| tx<| wF zav rfl<| wL U3 rfl<| wP za8 rfl<| wM rfl<| wF zav rfl<| wL U3 rfl<| wP zbA rfl<| wP zaj rfl<| zab<| zaf<| zag rfl<| zae<| zaa<| zaB 4 qK<| wF zav rfl ?_
 refine wL U3 rfl<| cS (fun n => 19 + 1000 * n) (hM) F44 ?_
 refine wP zeC rfl<| wF zav rfl<| wL U3 rfl<| wP zaz rfl<| wA rfl<| wA rfl<| wA rfl<| zab ⟨qK, ?_⟩
 refine zaa<| zaa<| tx<| wF zav rfl<| wL U3 rfl<| zab<| zak<| zaa<| zaa<| tx<| wP zaz rfl<| wA rfl<| zab<| zaf<| zag rfl<| zaa<| tx<| wP zaz rfl<| wA rfl<| zab<| zaf<| zag rfl<| zaa<| tx ?_
 refine wP zaz rfl<| wA rfl<| zab<| zaf<| zag rfl ?_
 skip
 refine tx<| wP zaz rfl<| wA rfl<| zab<| zaf<| zag rfl ?_
 by_cases ht : t ≠ ⟨#[]⟩
 ·rw [if_pos (show seF ⟨2, t, n, a, b⟩ by simp [seF, isT, isN, isC, *])] at hE
  subst hE
  refine zae<| zaa<| zaa<| tx<| wM rfl<| wP zba rfl<| wM rfl<| wF zaD rfl<| wL U9 rfl<| wP (zay (c := true) (by simp [ht])) rfl ?_
  refine wP zao rfl<| wM rfl<| wS rfl<| wS rfl<| wS rfl<| wS rfl<| wS rfl<| wS rfl<| wS rfl<| wP zao rfl<| wM rfl<| wS rfl<| wS rfl<| wS rfl<| wS rfl<| wS rfl<| wS rfl<| wS rfl<| wS rfl<| wP zao rfl<| zab<| zaf<| zax rfl<| zaa ?_
  refine tx<| wA rfl<| zab<| zai<| zau<| yT ?_ ?_
  ·exact rfl
  ·exact trivial
 replace ht : t = ⟨#[]⟩ := Decidable.not_not.1 ht
 refine zae<| zaa<| zaa<| tx<| wM rfl<| wP zba rfl<| wM rfl<| wF zaD rfl<| wL U9 rfl<| wP (zay (c := false) (by simp [ht])) rfl ?_
 refine wP zao rfl<| wM rfl<| wM rfl<| wP zba rfl<| wM rfl<| wS rfl<| wS rfl<| wS rfl<| wP zaj rfl<| wP zaj rfl<| wM rfl<| wM rfl<| wP zba rfl<| wM rfl<| wF za2 rfl<| wN U27 sz27 rfl ?_
 refine wP (zaQ pl27 zr27 rfl rfl) rfl<| wP (zc0 U27 rfl rfl qK qK qK) rfl<| wP zao rfl<| wP zaj rfl<| zab<| zaf<| zaq _ rfl (fun h => ?_) (fun h => ?_)
 ·have hq : ¬ (a = 0 ∧ b = 0) := by
   simp only [zbs] at h
   simp at h
   omega
  rw [if_pos (show seF ⟨2, t, n, a, b⟩ by simp [seF, isT, isN, isC]; omega)] at hE
  subst hE
  refine zaa<| tx<| wA rfl<| zab<| zai<| zau<| yT ?_ ?_
  ·exact rfl
  ·exact trivial
 have hq : a = 0 ∧ b = 0 := by
  simp only [zbs] at h
  simp at h
  omega
 clear h
 rw [if_neg (show ¬ seF ⟨2, t, n, a, b⟩ by simp [seF, isT, isN, isC, *])] at hE
 rw [seV_2] at hE
 refine zae<| zaa<| zaa<| tx<| wF zav rfl<| wL U3 rfl<| zab<| zak<| zaa<| zaa<| tx<| wP zaz rfl<| wA rfl<| zab<| zaf<| zag rfl ?_
 skip
 refine tx<| wP zaz rfl<| wA rfl<| zab<| zaf<| zag rfl<| zaa<| tx<| wP zaz rfl<| wA rfl<| zab<| zaf<| zag rfl<| zaa<| tx<| wP zaz rfl<| wA rfl<| zab<| zaf<| zag rfl<| zaa<| tx<| wP zaz rfl<| wA rfl ?_
 refine zab<| zaf<| zag rfl ?_
 by_cases hl : n < 0
 ·rw [if_pos (.inl hl)] at hE
  subst hE
  refine zae<| zaa<| zaa<| zaB 4 qK<| wM rfl<| wM rfl<| wF zaM rfl<| wL U3 rfl<| wP (zbc (c := true) (by simpa using hl)) rfl ?_
  refine wM rfl<| wS rfl<| wS rfl<| wS rfl<| wS rfl<| wS rfl<| wS rfl<| wP zao rfl<| wP zao rfl<| zab ⟨qK, ?_⟩
  refine zaf<| zax rfl<| zaa<| tx<| wA rfl<| zab<| zai<| zau<| yT ?_ ?_
  ·exact rfl
  ·exact trivial
 refine zae<| zaa<| zaa<| zaB 4 qK<| wM rfl<| wM rfl<| wF zaM rfl<| wL U3 rfl<| wP (zbc (c := false) (by simp; omega)) rfl ?_
 refine wM rfl<| wF zaM rfl<| wL U3 rfl<| wF zav rfl<| wL U3 rfl ?_
 (first | refine wS rfl ?_ | refine cS (fun n => 102 + 1000 * n) (hM) F44 ?_)
 refine wP zbA rfl<| wP zaj rfl<| wP zao rfl<| zab ⟨qK, ?_⟩
 refine zaf<| zaq _ rfl (fun h => ?_) (fun h => ?_)
 ·have h1 : 65535 < n := by simpa using h
  rw [if_pos (.inr h1)] at hE
  subst hE
  refine zaa<| tx<| wA rfl<| zab<| zai<| zau<| yT ?_ ?_
  ·exact rfl
  ·exact trivial
 have h1 : ¬ 65535 < n := by simpa using h
 clear h
 rw [if_neg (by omega)] at hE
 subst hE
 refine zae<| zaa<| tx<| wA rfl<| zab<| zai<| yT ?_ ?_
 ·exact rfl
 ·exact trivial
set_option maxHeartbeats 2000000 in
theorem check3_s (t : ByteArray) (n a b : Int) (ok : SE.OK ⟨3, t, n, a, b⟩) : Fn prog 20 [.agg (SE.cells ⟨3, t, n, a, b⟩)] (.p (.v (.int .i64 (seE ⟨3, t, n, a, b⟩)))) [] := by
 obtain ⟨hz, hn0, hn1, ha0, ha1⟩ := ok
 dsimp only at hz hn0 hn1 ha0 ha1
 obtain ⟨E, hE⟩ : ∃ E, seE ⟨3, t, n, a, b⟩ = E := ⟨_, rfl⟩
 rw [hE]
 unfold seE at hE
 rw [if_neg (by dsimp only; decide)] at hE
 show Fn prog _ [.agg [.p (.v (.int .i64 3)), .p (.v (.string t)), .p (.v (.int .i64 n)), .p (.v (.int .u32 a)), .p (.v (.int .i64 b))]] _ _
 have hM := most3_s
 refine zaw F20 rfl (qE rfl) fun w0 A => zaa<| tx<| wG (zaK (X := .agg _) 1 rfl) rfl<| wA rfl<| zab<| zaa<| zaa<| tx<| wF zav rfl<| wL U3 rfl<| wP za8 rfl<| wM rfl<| wF zav rfl<| wL U3 rfl<| wP zbA rfl<| wP zaj rfl<| zab<| zaf<| zag rfl<| zae<| zaa<| zaB 4 qK<| wF zav rfl ?_
 refine wL U3 rfl<| cS (fun n => 19 + 1000 * n) (hM) F44 ?_
 refine wP zeC rfl<| wF zav rfl<| wL U3 rfl<| wP zaz rfl<| wA rfl<| wA rfl<| wA rfl<| zab ⟨qK, ?_⟩
 refine zaa<| zaa<| tx<| wF zav rfl<| wL U3 rfl<| zab<| zak<| zaa<| zaa<| tx<| wP zaz rfl<| wA rfl<| zab<| zaf<| zag rfl<| zaa<| tx<| wP zaz rfl<| wA rfl<| zab<| zaf<| zag rfl<| zaa<| tx ?_
 refine wP zaz rfl<| wA rfl<| zab<| zaf<| zag rfl ?_
 skip
 refine tx<| wP zaz rfl<| wA rfl<| zab<| zaf<| zag rfl ?_
 by_cases ht : t ≠ ⟨#[]⟩
 ·rw [if_pos (show seF ⟨3, t, n, a, b⟩ by simp [seF, isT, isN, isC, *])] at hE
  subst hE
  refine zae<| zaa<| zaa<| tx<| wM rfl<| wP zba rfl<| wM rfl<| wF zaD rfl<| wL U9 rfl<| wP (zay (c := true) (by simp [ht])) rfl ?_
  refine wP zao rfl<| wM rfl<| wS rfl<| wS rfl<| wS rfl<| wS rfl<| wS rfl<| wS rfl<| wS rfl<| wP zao rfl<| wM rfl<| wS rfl<| wS rfl<| wS rfl<| wS rfl<| wS rfl<| wS rfl<| wS rfl<| wS rfl<| wP zao rfl<| zab<| zaf<| zax rfl<| zaa ?_
  refine tx<| wA rfl<| zab<| zai<| zau<| yT ?_ ?_
  ·exact rfl
  ·exact trivial
 replace ht : t = ⟨#[]⟩ := Decidable.not_not.1 ht
 by_cases hn : n ≠ 0
 ·rw [if_pos (show seF ⟨3, t, n, a, b⟩ by simp [seF, isT, isN, isC, *])] at hE
  subst hE
  refine zae<| zaa<| zaa<| tx<| wM rfl<| wP zba rfl<| wM rfl<| wF zaD rfl<| wL U9 rfl<| wP (zay (c := false) (by simp [ht])) rfl ?_
  refine wP zao rfl<| wM rfl<| wM rfl<| wP zba rfl<| wM rfl<| wF zaM rfl<| wL U3 rfl<| wP (zaT (c := true) (by simpa using hn)) rfl ?_
  refine wP zao rfl<| wP zaj rfl<| wM rfl<| wS rfl<| wS rfl<| wS rfl<| wS rfl<| wS rfl<| wS rfl<| wS rfl<| wS rfl<| wP zao rfl<| zab<| zaf<| zax rfl<| zaa<| tx<| wA rfl<| zab<| zai<| zau<| yT ?_ ?_
  ·exact rfl
  ·exact trivial
 replace hn : n = 0 := Decidable.not_not.1 hn
 refine zae<| zaa<| zaa<| tx<| wM rfl<| wP zba rfl<| wM rfl<| wF zaD rfl<| wL U9 rfl<| wP (zay (c := false) (by simp [ht])) rfl ?_
 refine wP zao rfl<| wM rfl<| wM rfl<| wP zba rfl<| wM rfl<| wF zaM rfl<| wL U3 rfl<| wP (zaT (c := false) (by simp [hn])) rfl ?_
 refine wP zao rfl<| wP zaj rfl<| wM rfl<| wM rfl<| wP zba rfl<| wM rfl<| wF za2 rfl<| wN U27 sz27 rfl ?_
 refine wP (zaQ pl27 zr27 rfl rfl) rfl<| wP (zc0 U27 rfl rfl qK qK qK) rfl<| wP zao rfl<| wP zaj rfl<| zab<| zaf<| zaq _ rfl (fun h => ?_) (fun h => ?_)
 ·have hq : ¬ (a = 0 ∧ b = 0) := by
   simp only [zbs] at h
   simp at h
   omega
  rw [if_pos (show seF ⟨3, t, n, a, b⟩ by simp [seF, isT, isN, isC]; omega)] at hE
  subst hE
  refine zaa<| tx<| wA rfl<| zab<| zai<| zau<| yT ?_ ?_
  ·exact rfl
  ·exact trivial
 have hq : a = 0 ∧ b = 0 := by
  simp only [zbs] at h
  simp at h
  omega
 clear h
 rw [if_neg (show ¬ seF ⟨3, t, n, a, b⟩ by simp [seF, isT, isN, isC, *])] at hE
 rw [seV_3] at hE
 refine zae<| zaa<| zaa<| tx<| wF zav rfl<| wL U3 rfl<| zab<| zak<| zaa<| zaa<| tx<| wP zaz rfl<| wA rfl<| zab<| zaf<| zag rfl ?_
 skip
 refine tx<| wP zaz rfl<| wA rfl<| zab<| zaf<| zag rfl<| zaa<| tx<| wP zaz rfl<| wA rfl<| zab<| zaf<| zag rfl<| zaa<| tx<| wP zaz rfl<| wA rfl<| zab<| zaf<| zag rfl<| zaa<| tx<| wP zaz rfl<| wA rfl ?_
 refine zab<| zaf<| zag rfl ?_
 subst hE
 refine zae<| zaa<| zaa<| zaB 4 qK<| wM rfl<| wM rfl<| wS rfl<| wS rfl<| wS rfl<| wS rfl<| wS rfl<| wS rfl<| wS rfl<| wS rfl<| wS rfl<| wS rfl<| wS rfl<| wP zaj rfl<| zab ⟨qK, ?_⟩
 refine zaf<| zag rfl<| zae<| zaa<| tx<| wA rfl<| zab<| zai<| yT ?_ ?_
 ·exact rfl
 ·exact trivial
set_option maxHeartbeats 2000000 in
theorem check4_s (t : ByteArray) (n a b : Int) (ok : SE.OK ⟨4, t, n, a, b⟩) : Fn prog 20 [.agg (SE.cells ⟨4, t, n, a, b⟩)] (.p (.v (.int .i64 (seE ⟨4, t, n, a, b⟩)))) [] := by
 obtain ⟨hz, hn0, hn1, ha0, ha1⟩ := ok
 dsimp only at hz hn0 hn1 ha0 ha1
 obtain ⟨E, hE⟩ : ∃ E, seE ⟨4, t, n, a, b⟩ = E := ⟨_, rfl⟩
 rw [hE]
 unfold seE at hE
 rw [if_neg (by dsimp only; decide)] at hE
 show Fn prog _ [.agg [.p (.v (.int .i64 4)), .p (.v (.string t)), .p (.v (.int .i64 n)), .p (.v (.int .u32 a)), .p (.v (.int .i64 b))]] _ _
 have hM := most4_s
 have hH := zcG t
 refine zaw F20 rfl (qE rfl) fun w0 A => zaa<| tx<| wG (zaK (X := .agg _) 1 rfl) rfl<| wA rfl<| zab<| zaa<| zaa<| tx<| wF zav rfl<| wL U3 rfl<| wP za8 rfl<| wM rfl<| wF zav rfl<| wL U3 rfl<| wP zbA rfl<| wP zaj rfl<| zab<| zaf<| zag rfl<| zae<| zaa<| zaB 4 qK<| wF zav rfl ?_
 refine wL U3 rfl<| cS (fun n => 19 + 1000 * n) (hM) F44 ?_
 refine wP zeC rfl<| wF zav rfl<| wL U3 rfl<| wP zaz rfl<| wA rfl<| wA rfl<| wA rfl<| zab ⟨qK, ?_⟩
 refine zaa<| zaa<| tx<| wF zav rfl<| wL U3 rfl<| zab<| zak<| zaa<| zaa<| tx<| wP zaz rfl<| wA rfl<| zab<| zaf<| zag rfl<| zaa<| tx<| wP zaZ rfl<| wA rfl<| zab<| zaf<| zax rfl<| zae<| zaf ?_
 refine zax rfl ?_
 skip
 refine tx<| wA rfl<| zab ?_
 by_cases hn : n ≠ 0
 ·rw [if_pos (show seF ⟨4, t, n, a, b⟩ by simp [seF, isT, isN, isC, *])] at hE
  subst hE
  refine zaa<| zaa<| tx<| wM rfl<| wP zba rfl<| wM rfl<| wS rfl<| wS rfl<| wS rfl<| wP zaj rfl<| wM rfl<| wM rfl<| wP zba rfl<| wM rfl<| wF zaM rfl<| wL U3 rfl<| wP (zaT (c := true) (by simpa using hn)) rfl ?_
  refine wP zao rfl<| wP zaj rfl<| wM rfl<| wS rfl<| wS rfl<| wS rfl<| wS rfl<| wS rfl<| wS rfl<| wS rfl<| wS rfl<| wP zao rfl<| zab<| zaf<| zax rfl<| zaa<| tx<| wA rfl<| zab<| zai<| zau<| yT ?_ ?_
  ·exact rfl
  ·exact trivial
 replace hn : n = 0 := Decidable.not_not.1 hn
 refine zaa<| zaa<| tx<| wM rfl<| wP zba rfl<| wM rfl<| wS rfl<| wS rfl<| wS rfl<| wP zaj rfl<| wM rfl<| wM rfl<| wP zba rfl<| wM rfl<| wF zaM rfl<| wL U3 rfl<| wP (zaT (c := false) (by simp [hn])) rfl ?_
 refine wP zao rfl<| wP zaj rfl<| wM rfl<| wM rfl<| wP zba rfl<| wM rfl<| wF za2 rfl<| wN U27 sz27 rfl ?_
 refine wP (zaQ pl27 zr27 rfl rfl) rfl<| wP (zc0 U27 rfl rfl qK qK qK) rfl<| wP zao rfl<| wP zaj rfl<| zab<| zaf<| zaq _ rfl (fun h => ?_) (fun h => ?_)
 ·have hq : ¬ (a = 0 ∧ b = 0) := by
   simp only [zbs] at h
   simp at h
   omega
  rw [if_pos (show seF ⟨4, t, n, a, b⟩ by simp [seF, isT, isN, isC]; omega)] at hE
  subst hE
  refine zaa<| tx<| wA rfl<| zab<| zai<| zau<| yT ?_ ?_
  ·exact rfl
  ·exact trivial
 have hq : a = 0 ∧ b = 0 := by
  simp only [zbs] at h
  simp at h
  omega
 clear h
 rw [if_neg (show ¬ seF ⟨4, t, n, a, b⟩ by simp [seF, isT, isN, isC, *])] at hE
 rw [seV_4] at hE
 refine zae<| zaa<| zaa<| tx<| wF zav rfl<| wL U3 rfl<| zab<| zak<| zaa<| zaa<| tx<| wP zaz rfl<| wA rfl<| zab<| zaf<| zag rfl ?_
 skip
 refine tx<| wP zaZ rfl<| wA rfl<| zab<| zaf<| zax rfl ?_
 subst hE
 refine zaa<| tx<| wF zaD rfl<| wL U9 rfl<| yV (fun n => 64 + 1000 * n) (hH) F41 ?_
 refine wA rfl<| zab<| zai<| zaU<| zau<| yT ?_ ?_
 ·exact rfl
 ·exact trivial
set_option maxHeartbeats 2000000 in
theorem check5_s (t : ByteArray) (n a b : Int) (ok : SE.OK ⟨5, t, n, a, b⟩) : Fn prog 20 [.agg (SE.cells ⟨5, t, n, a, b⟩)] (.p (.v (.int .i64 (seE ⟨5, t, n, a, b⟩)))) [] := by
 obtain ⟨hz, hn0, hn1, ha0, ha1⟩ := ok
 dsimp only at hz hn0 hn1 ha0 ha1
 obtain ⟨E, hE⟩ : ∃ E, seE ⟨5, t, n, a, b⟩ = E := ⟨_, rfl⟩
 rw [hE]
 unfold seE at hE
 rw [if_neg (by dsimp only; decide)] at hE
 show Fn prog _ [.agg [.p (.v (.int .i64 5)), .p (.v (.string t)), .p (.v (.int .i64 n)), .p (.v (.int .u32 a)), .p (.v (.int .i64 b))]] _ _
 have hM := most5_s
 refine zaw F20 rfl (qE rfl) fun w0 A => zaa<| tx<| wG (zaK (X := .agg _) 1 rfl) rfl<| wA rfl<| zab<| zaa<| zaa<| tx<| wF zav rfl<| wL U3 rfl<| wP za8 rfl<| wM rfl<| wF zav rfl<| wL U3 rfl<| wP zbA rfl<| wP zaj rfl<| zab<| zaf<| zag rfl<| zae<| zaa<| zaB 4 qK<| wF zav rfl ?_
 refine wL U3 rfl<| cS (fun n => 19 + 1000 * n) (hM) F44 ?_
 refine wP zeC rfl<| wF zav rfl<| wL U3 rfl<| wP zaz rfl<| wA rfl<| wA rfl<| wA rfl<| zab ⟨qK, ?_⟩
 refine zaa<| zaa<| tx<| wF zav rfl<| wL U3 rfl<| zab<| zak<| zaa<| zaa<| tx<| wP zaz rfl<| wA rfl<| zab<| zaf<| zag rfl<| zaa<| tx<| wP zaz rfl<| wA rfl<| zab<| zaf<| zag rfl<| zaa<| tx ?_
 refine wP zaz rfl<| wA rfl<| zab<| zaf<| zag rfl ?_
 skip
 refine tx<| wP zaz rfl<| wA rfl<| zab<| zaf<| zag rfl ?_
 by_cases ht : t ≠ ⟨#[]⟩
 ·rw [if_pos (show seF ⟨5, t, n, a, b⟩ by simp [seF, isT, isN, isC, *])] at hE
  subst hE
  refine zae<| zaa<| zaa<| tx<| wM rfl<| wP zba rfl<| wM rfl<| wF zaD rfl<| wL U9 rfl<| wP (zay (c := true) (by simp [ht])) rfl ?_
  refine wP zao rfl<| wM rfl<| wS rfl<| wS rfl<| wS rfl<| wS rfl<| wS rfl<| wS rfl<| wS rfl<| wP zao rfl<| wM rfl<| wS rfl<| wS rfl<| wS rfl<| wS rfl<| wS rfl<| wS rfl<| wS rfl<| wS rfl<| wP zao rfl<| zab<| zaf<| zax rfl<| zaa ?_
  refine tx<| wA rfl<| zab<| zai<| zau<| yT ?_ ?_
  ·exact rfl
  ·exact trivial
 replace ht : t = ⟨#[]⟩ := Decidable.not_not.1 ht
 by_cases hn : n ≠ 0
 ·rw [if_pos (show seF ⟨5, t, n, a, b⟩ by simp [seF, isT, isN, isC, *])] at hE
  subst hE
  refine zae<| zaa<| zaa<| tx<| wM rfl<| wP zba rfl<| wM rfl<| wF zaD rfl<| wL U9 rfl<| wP (zay (c := false) (by simp [ht])) rfl ?_
  refine wP zao rfl<| wM rfl<| wM rfl<| wP zba rfl<| wM rfl<| wF zaM rfl<| wL U3 rfl<| wP (zaT (c := true) (by simpa using hn)) rfl ?_
  refine wP zao rfl<| wP zaj rfl<| wM rfl<| wS rfl<| wS rfl<| wS rfl<| wS rfl<| wS rfl<| wS rfl<| wS rfl<| wS rfl<| wP zao rfl<| zab<| zaf<| zax rfl<| zaa<| tx<| wA rfl<| zab<| zai<| zau<| yT ?_ ?_
  ·exact rfl
  ·exact trivial
 replace hn : n = 0 := Decidable.not_not.1 hn
 refine zae<| zaa<| zaa<| tx<| wM rfl<| wP zba rfl<| wM rfl<| wF zaD rfl<| wL U9 rfl<| wP (zay (c := false) (by simp [ht])) rfl ?_
 refine wP zao rfl<| wM rfl<| wM rfl<| wP zba rfl<| wM rfl<| wF zaM rfl<| wL U3 rfl<| wP (zaT (c := false) (by simp [hn])) rfl ?_
 refine wP zao rfl<| wP zaj rfl<| wM rfl<| wM rfl<| wP zba rfl<| wM rfl<| wF za2 rfl<| wN U27 sz27 rfl ?_
 refine wP (zaQ pl27 zr27 rfl rfl) rfl<| wP (zc0 U27 rfl rfl qK qK qK) rfl<| wP zao rfl<| wP zaj rfl<| zab<| zaf<| zaq _ rfl (fun h => ?_) (fun h => ?_)
 ·have hq : ¬ (a = 0 ∧ b = 0) := by
   simp only [zbs] at h
   simp at h
   omega
  rw [if_pos (show seF ⟨5, t, n, a, b⟩ by simp [seF, isT, isN, isC]; omega)] at hE
  subst hE
  refine zaa<| tx<| wA rfl<| zab<| zai<| zau<| yT ?_ ?_
  ·exact rfl
  ·exact trivial
 have hq : a = 0 ∧ b = 0 := by
  simp only [zbs] at h
  simp at h
  omega
 clear h
 rw [if_neg (show ¬ seF ⟨5, t, n, a, b⟩ by simp [seF, isT, isN, isC, *])] at hE
 rw [seV_5] at hE
 refine zae<| zaa<| zaa<| tx<| wF zav rfl<| wL U3 rfl<| zab<| zak<| zaa<| zaa<| tx<| wP zaz rfl<| wA rfl<| zab<| zaf<| zag rfl ?_
 skip
 refine tx<| wP zaz rfl<| wA rfl<| zab<| zaf<| zag rfl<| zaa<| tx<| wP zaz rfl<| wA rfl<| zab<| zaf<| zag rfl<| zaa<| tx<| wP zaz rfl<| wA rfl<| zab<| zaf<| zag rfl<| zaa<| tx<| wP zaz rfl<| wA rfl ?_
 refine zab<| zaf<| zag rfl ?_
 subst hE
 refine zae<| zaa<| zaa<| zaB 4 qK<| wM rfl<| wM rfl<| wS rfl<| wS rfl<| wS rfl<| wS rfl<| wS rfl<| wS rfl<| wS rfl<| wS rfl<| wS rfl<| wS rfl<| wS rfl<| wP zaj rfl<| zab ⟨qK, ?_⟩
 refine zaf<| zag rfl<| zae<| zaa<| tx<| wA rfl<| zab<| zai<| yT ?_ ?_
 ·exact rfl
 ·exact trivial
set_option maxHeartbeats 2000000 in
theorem check6_s (t : ByteArray) (n a b : Int) (ok : SE.OK ⟨6, t, n, a, b⟩) : Fn prog 20 [.agg (SE.cells ⟨6, t, n, a, b⟩)] (.p (.v (.int .i64 (seE ⟨6, t, n, a, b⟩)))) [] := by
 obtain ⟨hz, hn0, hn1, ha0, ha1⟩ := ok
 dsimp only at hz hn0 hn1 ha0 ha1
 obtain ⟨E, hE⟩ : ∃ E, seE ⟨6, t, n, a, b⟩ = E := ⟨_, rfl⟩
 rw [hE]
 unfold seE at hE
 rw [if_neg (by dsimp only; decide)] at hE
 show Fn prog _ [.agg [.p (.v (.int .i64 6)), .p (.v (.string t)), .p (.v (.int .i64 n)), .p (.v (.int .u32 a)), .p (.v (.int .i64 b))]] _ _
 have hM := most6_s
 have hH := zcG t
 have hZ := zge
 refine zaw F20 rfl (qE rfl) fun w0 A => zaa<| tx<| wG (zaK (X := .agg _) 1 rfl) rfl<| wA rfl<| zab<| zaa<| zaa<| tx<| wF zav rfl<| wL U3 rfl<| wP za8 rfl<| wM rfl<| wF zav rfl<| wL U3 rfl<| wP zbA rfl<| wP zaj rfl<| zab<| zaf<| zag rfl<| zae<| zaa<| zaB 4 qK<| wF zav rfl ?_
 refine wL U3 rfl<| cS (fun n => 19 + 1000 * n) (hM) F44 ?_
 refine wP zeC rfl<| wF zav rfl<| wL U3 rfl<| wP zaz rfl<| wA rfl<| wA rfl<| wA rfl<| zab ⟨qK, ?_⟩
 refine zaa<| zaa<| tx<| wF zav rfl<| wL U3 rfl<| zab<| zak<| zaa<| zaa<| tx<| wP zaz rfl<| wA rfl<| zab<| zaf<| zag rfl<| zaa<| tx<| wP zaz rfl<| wA rfl<| zab<| zaf<| zag rfl<| zaa<| tx ?_
 refine wP zaZ rfl<| wA rfl<| zab<| zaf<| zax rfl<| zae<| zaf<| zax rfl ?_
 skip
 refine tx<| wA rfl<| zab ?_
 by_cases hn : n ≠ 0
 ·rw [if_pos (show seF ⟨6, t, n, a, b⟩ by simp [seF, isT, isN, isC, *])] at hE
  subst hE
  refine zaa<| zaa<| tx<| wM rfl<| wP zba rfl<| wM rfl<| wS rfl<| wS rfl<| wS rfl<| wP zaj rfl<| wM rfl<| wM rfl<| wP zba rfl<| wM rfl<| wF zaM rfl<| wL U3 rfl<| wP (zaT (c := true) (by simpa using hn)) rfl ?_
  refine wP zao rfl<| wP zaj rfl<| wM rfl<| wS rfl<| wS rfl<| wS rfl<| wS rfl<| wS rfl<| wS rfl<| wS rfl<| wS rfl<| wP zao rfl<| zab<| zaf<| zax rfl<| zaa<| tx<| wA rfl<| zab<| zai<| zau<| yT ?_ ?_
  ·exact rfl
  ·exact trivial
 replace hn : n = 0 := Decidable.not_not.1 hn
 refine zaa<| zaa<| tx<| wM rfl<| wP zba rfl<| wM rfl<| wS rfl<| wS rfl<| wS rfl<| wP zaj rfl<| wM rfl<| wM rfl<| wP zba rfl<| wM rfl<| wF zaM rfl<| wL U3 rfl<| wP (zaT (c := false) (by simp [hn])) rfl ?_
 refine wP zao rfl<| wP zaj rfl<| wM rfl<| wM rfl<| wP zba rfl<| wM rfl<| wF za2 rfl<| wN U27 sz27 rfl ?_
 refine wP (zaQ pl27 zr27 rfl rfl) rfl<| wP (zc0 U27 rfl rfl qK qK qK) rfl<| wP zao rfl<| wP zaj rfl<| zab<| zaf<| zaq _ rfl (fun h => ?_) (fun h => ?_)
 ·have hq : ¬ (a = 0 ∧ b = 0) := by
   simp only [zbs] at h
   simp at h
   omega
  rw [if_pos (show seF ⟨6, t, n, a, b⟩ by simp [seF, isT, isN, isC]; omega)] at hE
  subst hE
  refine zaa<| tx<| wA rfl<| zab<| zai<| zau<| yT ?_ ?_
  ·exact rfl
  ·exact trivial
 have hq : a = 0 ∧ b = 0 := by
  simp only [zbs] at h
  simp at h
  omega
 clear h
 rw [if_neg (show ¬ seF ⟨6, t, n, a, b⟩ by simp [seF, isT, isN, isC, *])] at hE
 rw [seV_6] at hE
 refine zae<| zaa<| zaa<| tx<| wF zav rfl<| wL U3 rfl<| zab<| zak<| zaa<| zaa<| tx<| wP zaz rfl<| wA rfl<| zab<| zaf<| zag rfl ?_
 skip
 refine tx<| wP zaz rfl<| wA rfl<| zab<| zaf<| zag rfl<| zaa<| tx<| wP zaZ rfl<| wA rfl<| zab<| zaf<| zax rfl<| zaa<| zaa<| tx<| wF zaD rfl<| wL U9 rfl<| wP zeB rfl<| zab<| zaf<| zaq _ rfl (fun h => ?_) (fun h => ?_)
 ·have h1 : t = ⟨#[]⟩ := by simpa using h
  rw [if_pos h1] at hE
  subst hE
  refine zaa<| tx<| wA rfl<| zab<| zai<| zau<| zaU<| zau<| yT ?_ ?_
  ·exact rfl
  ·exact trivial
 have h1 : ¬ t = ⟨#[]⟩ := by simpa using h
 clear h
 rw [if_neg h1] at hE
 refine zae<| zaa<| zaa<| zaB 4 qK<| wF zaD rfl<| wL U9 rfl<| cS (fun n => 72 + 1000 * n) (hZ) func45 ?_
 refine wP zeB rfl<| zab ⟨qK, ?_⟩
 refine zaf<| zaq _ rfl (fun h => ?_) (fun h => ?_)
 ·have h2 : t = zeW := by simpa using h
  rw [if_pos h2] at hE
  subst hE
  refine zaa<| tx<| wA rfl<| zab<| zai<| zau<| zaU<| zau<| yT ?_ ?_
  ·exact rfl
  ·exact trivial
 have h2 : ¬ t = zeW := by simpa using h
 rw [if_neg h2] at hE
 subst hE
 refine zae<| zaa<| tx<| wF zaD rfl<| wL U9 rfl<| yV (fun n => 76 + 1000 * n) (hH) F41 ?_
 refine wA rfl<| zab<| zai<| zaU<| zau<| yT ?_ ?_
 ·exact rfl
 ·exact trivial
set_option maxHeartbeats 2000000 in
theorem check7_s (t : ByteArray) (n a b : Int) (ok : SE.OK ⟨7, t, n, a, b⟩) : Fn prog 20 [.agg (SE.cells ⟨7, t, n, a, b⟩)] (.p (.v (.int .i64 (seE ⟨7, t, n, a, b⟩)))) [] := by
 obtain ⟨hz, hn0, hn1, ha0, ha1⟩ := ok
 dsimp only at hz hn0 hn1 ha0 ha1
 obtain ⟨E, hE⟩ : ∃ E, seE ⟨7, t, n, a, b⟩ = E := ⟨_, rfl⟩
 rw [hE]
 unfold seE at hE
 rw [if_neg (by dsimp only; decide)] at hE
 show Fn prog _ [.agg [.p (.v (.int .i64 7)), .p (.v (.string t)), .p (.v (.int .i64 n)), .p (.v (.int .u32 a)), .p (.v (.int .i64 b))]] _ _
 have hM := most7_s
 have hEn := end_s t hz
 obtain ⟨ea, eb, hen⟩ := enR_e t
 rw [hen] at hEn
 refine zaw F20 rfl (qE rfl) fun w0 A => zaa<| tx<| wG (zaK (X := .agg _) 1 rfl) rfl<| wA rfl<| zab<| zaa<| zaa<| tx<| wF zav rfl<| wL U3 rfl<| wP za8 rfl<| wM rfl<| wF zav rfl<| wL U3 rfl<| wP zbA rfl<| wP zaj rfl<| zab<| zaf<| zag rfl<| zae<| zaa<| zaB 4 qK<| wF zav rfl ?_
 refine wL U3 rfl<| cS (fun n => 19 + 1000 * n) (hM) F44 ?_
 refine wP zeC rfl<| wF zav rfl<| wL U3 rfl<| wP zaz rfl<| wA rfl<| wA rfl<| wA rfl<| zab ⟨qK, ?_⟩
 refine zaa<| zaa<| tx<| wF zav rfl<| wL U3 rfl<| zab<| zak<| zaa<| zaa<| tx<| wP zaz rfl<| wA rfl<| zab<| zaf<| zag rfl<| zaa<| tx<| wP zaz rfl<| wA rfl<| zab<| zaf<| zag rfl<| zaa<| tx ?_
 refine wP zaz rfl<| wA rfl<| zab<| zaf<| zag rfl ?_
 skip
 refine tx<| wP zaZ rfl<| wA rfl<| zab<| zaf<| zax rfl ?_
 skip
 refine tx<| wA rfl<| zab ?_
 by_cases hn : n ≠ 0
 ·rw [if_pos (show seF ⟨7, t, n, a, b⟩ by simp [seF, isT, isN, isC, *])] at hE
  subst hE
  refine zaa<| zaa<| tx<| wM rfl<| wP zba rfl<| wM rfl<| wS rfl<| wS rfl<| wS rfl<| wP zaj rfl<| wM rfl<| wM rfl<| wP zba rfl<| wM rfl<| wF zaM rfl<| wL U3 rfl<| wP (zaT (c := true) (by simpa using hn)) rfl ?_
  refine wP zao rfl<| wP zaj rfl<| wM rfl<| wS rfl<| wS rfl<| wS rfl<| wS rfl<| wS rfl<| wS rfl<| wS rfl<| wS rfl<| wP zao rfl<| zab<| zaf<| zax rfl<| zaa<| tx<| wA rfl<| zab<| zai<| zau<| yT ?_ ?_
  ·exact rfl
  ·exact trivial
 replace hn : n = 0 := Decidable.not_not.1 hn
 refine zaa<| zaa<| tx<| wM rfl<| wP zba rfl<| wM rfl<| wS rfl<| wS rfl<| wS rfl<| wP zaj rfl<| wM rfl<| wM rfl<| wP zba rfl<| wM rfl<| wF zaM rfl<| wL U3 rfl<| wP (zaT (c := false) (by simp [hn])) rfl ?_
 refine wP zao rfl<| wP zaj rfl<| wM rfl<| wM rfl<| wP zba rfl<| wM rfl<| wF za2 rfl<| wN U27 sz27 rfl ?_
 refine wP (zaQ pl27 zr27 rfl rfl) rfl<| wP (zc0 U27 rfl rfl qK qK qK) rfl<| wP zao rfl<| wP zaj rfl<| zab<| zaf<| zaq _ rfl (fun h => ?_) (fun h => ?_)
 ·have hq : ¬ (a = 0 ∧ b = 0) := by
   simp only [zbs] at h
   simp at h
   omega
  rw [if_pos (show seF ⟨7, t, n, a, b⟩ by simp [seF, isT, isN, isC]; omega)] at hE
  subst hE
  refine zaa<| tx<| wA rfl<| zab<| zai<| zau<| yT ?_ ?_
  ·exact rfl
  ·exact trivial
 have hq : a = 0 ∧ b = 0 := by
  simp only [zbs] at h
  simp at h
  omega
 clear h
 rw [if_neg (show ¬ seF ⟨7, t, n, a, b⟩ by simp [seF, isT, isN, isC, *])] at hE
 rw [seV_7] at hE
 refine zae<| zaa<| zaa<| tx<| wF zav rfl<| wL U3 rfl<| zab<| zak<| zaa<| zaa<| tx<| wP zaz rfl<| wA rfl<| zab<| zaf<| zag rfl ?_
 skip
 refine tx<| wP zaz rfl<| wA rfl<| zab<| zaf<| zag rfl<| zaa<| tx<| wP zaz rfl<| wA rfl<| zab<| zaf<| zag rfl<| zaa<| tx<| wP zaZ rfl<| wA rfl<| zab<| zaf<| zax rfl ?_
 subst hE
 refine zaa<| tx<| wF zaD rfl<| wL U9 rfl<| yV (fun n => 82 + 1000 * n) (hEn) func46 ?_
 refine wP (zam (r := .tup _)) rfl<| wP (zal rfl) rfl<| wP (zal rfl) rfl<| wP (zal rfl) rfl<| wA rfl<| wA rfl<| wA rfl<| zab<| zaa<| tx<| wM rfl<| wA rfl<| zab<| zai<| zaU<| zau<| yT ?_ ?_
 ·exact rfl
 ·exact trivial
set_option maxHeartbeats 2000000 in
theorem check8_s (t : ByteArray) (n a b : Int) (ok : SE.OK ⟨8, t, n, a, b⟩) : Fn prog 20 [.agg (SE.cells ⟨8, t, n, a, b⟩)] (.p (.v (.int .i64 (seE ⟨8, t, n, a, b⟩)))) [] := by
 obtain ⟨hz, hn0, hn1, ha0, ha1⟩ := ok
 dsimp only at hz hn0 hn1 ha0 ha1
 obtain ⟨E, hE⟩ : ∃ E, seE ⟨8, t, n, a, b⟩ = E := ⟨_, rfl⟩
 rw [hE]
 unfold seE at hE
 rw [if_neg (by dsimp only; decide)] at hE
 show Fn prog _ [.agg [.p (.v (.int .i64 8)), .p (.v (.string t)), .p (.v (.int .i64 n)), .p (.v (.int .u32 a)), .p (.v (.int .i64 b))]] _ _
 have hM := mostN_s 8 qD
 refine zaw F20 rfl (qE rfl) fun w0 A => zaa<| tx<| wG (zaK (X := .agg _) 1 rfl) rfl<| wA rfl<| zab<| zaa<| zaa<| tx<| wF zav rfl<| wL U3 rfl<| wP za8 rfl<| wM rfl<| wF zav rfl<| wL U3 rfl<| wP zbA rfl<| wP zaj rfl<| zab<| zaf<| zag rfl<| zae<| zaa<| zaB 4 qK<| wF zav rfl ?_
 refine wL U3 rfl<| cS (fun n => 19 + 1000 * n) (hM) F44 ?_
 refine wP zeC rfl<| wF zav rfl<| wL U3 rfl<| wP zaz rfl<| wA rfl<| wA rfl<| wA rfl<| zab ⟨qK, ?_⟩
 refine zaa<| zaa<| tx<| wF zav rfl<| wL U3 rfl<| zab<| zak<| zaa<| zaa<| tx<| wP zaz rfl<| wA rfl<| zab<| zaf<| zag rfl<| zaa<| tx<| wP zaz rfl<| wA rfl<| zab<| zaf<| zag rfl<| zaa<| tx ?_
 refine wP zaz rfl<| wA rfl<| zab<| zaf<| zag rfl ?_
 skip
 refine tx<| wP zaz rfl<| wA rfl<| zab<| zaf<| zag rfl ?_
 by_cases ht : t ≠ ⟨#[]⟩
 ·rw [if_pos (show seF ⟨8, t, n, a, b⟩ by simp [seF, isT, isN, isC, *])] at hE
  subst hE
  refine zae<| zaa<| zaa<| tx<| wM rfl<| wP zba rfl<| wM rfl<| wF zaD rfl<| wL U9 rfl<| wP (zay (c := true) (by simp [ht])) rfl ?_
  refine wP zao rfl<| wM rfl<| wS rfl<| wS rfl<| wS rfl<| wS rfl<| wS rfl<| wS rfl<| wS rfl<| wP zao rfl<| wM rfl<| wS rfl<| wS rfl<| wS rfl<| wS rfl<| wS rfl<| wS rfl<| wS rfl<| wS rfl<| wP zao rfl<| zab<| zaf<| zax rfl<| zaa ?_
  refine tx<| wA rfl<| zab<| zai<| zau<| yT ?_ ?_
  ·exact rfl
  ·exact trivial
 replace ht : t = ⟨#[]⟩ := Decidable.not_not.1 ht
 refine zae<| zaa<| zaa<| tx<| wM rfl<| wP zba rfl<| wM rfl<| wF zaD rfl<| wL U9 rfl<| wP (zay (c := false) (by simp [ht])) rfl ?_
 refine wP zao rfl<| wM rfl<| wM rfl<| wP zba rfl<| wM rfl<| wS rfl<| wS rfl<| wS rfl<| wP zaj rfl<| wP zaj rfl<| wM rfl<| wM rfl<| wP zba rfl<| wM rfl<| wF za2 rfl<| wN U27 sz27 rfl ?_
 refine wP (zaQ pl27 zr27 rfl rfl) rfl<| wP (zc0 U27 rfl rfl qK qK qK) rfl<| wP zao rfl<| wP zaj rfl<| zab<| zaf<| zaq _ rfl (fun h => ?_) (fun h => ?_)
 ·have hq : ¬ (a = 0 ∧ b = 0) := by
   simp only [zbs] at h
   simp at h
   omega
  rw [if_pos (show seF ⟨8, t, n, a, b⟩ by simp [seF, isT, isN, isC]; omega)] at hE
  subst hE
  refine zaa<| tx<| wA rfl<| zab<| zai<| zau<| yT ?_ ?_
  ·exact rfl
  ·exact trivial
 have hq : a = 0 ∧ b = 0 := by
  simp only [zbs] at h
  simp at h
  omega
 clear h
 rw [if_neg (show ¬ seF ⟨8, t, n, a, b⟩ by simp [seF, isT, isN, isC, *])] at hE
 rw [seV_8] at hE
 refine zae<| zaa<| zaa<| tx<| wF zav rfl<| wL U3 rfl<| zab<| zak<| zaa<| zaa<| tx<| wP zaz rfl<| wA rfl<| zab<| zaf<| zag rfl ?_
 skip
 refine tx<| wP zaz rfl<| wA rfl<| zab<| zaf<| zag rfl<| zaa<| tx<| wP zaz rfl<| wA rfl<| zab<| zaf<| zag rfl<| zaa<| tx<| wP zaz rfl<| wA rfl<| zab<| zaf<| zag rfl<| zaa<| tx<| wP zaz rfl<| wA rfl ?_
 refine zab<| zaf<| zag rfl ?_
 by_cases hl : n < 0
 ·rw [if_pos (.inl hl)] at hE
  subst hE
  refine zae<| zaa<| zaa<| zaB 4 qK<| wM rfl<| wM rfl<| wF zaM rfl<| wL U3 rfl<| wP (zbc (c := true) (by simpa using hl)) rfl ?_
  refine wM rfl<| wS rfl<| wS rfl<| wS rfl<| wS rfl<| wS rfl<| wS rfl<| wP zao rfl<| wP zao rfl<| zab ⟨qK, ?_⟩
  refine zaf<| zax rfl<| zaa<| tx<| wA rfl<| zab<| zai<| zau<| yT ?_ ?_
  ·exact rfl
  ·exact trivial
 refine zae<| zaa<| zaa<| zaB 4 qK<| wM rfl<| wM rfl<| wF zaM rfl<| wL U3 rfl<| wP (zbc (c := false) (by simp; omega)) rfl ?_
 refine wM rfl<| wF zaM rfl<| wL U3 rfl<| wF zav rfl<| wL U3 rfl ?_
 (first | refine wS rfl ?_ | refine cS (fun n => 102 + 1000 * n) (hM) F44 ?_)
 refine wP zbA rfl<| wP zaj rfl<| wP zao rfl<| zab ⟨qK, ?_⟩
 refine zaf<| zaq _ rfl (fun h => ?_) (fun h => ?_)
 ·have h1 : 65535 < n := by simpa using h
  rw [if_pos (.inr h1)] at hE
  subst hE
  refine zaa<| tx<| wA rfl<| zab<| zai<| zau<| yT ?_ ?_
  ·exact rfl
  ·exact trivial
 have h1 : ¬ 65535 < n := by simpa using h
 clear h
 rw [if_neg (by omega)] at hE
 subst hE
 refine zae<| zaa<| tx<| wA rfl<| zab<| zai<| yT ?_ ?_
 ·exact rfl
 ·exact trivial
set_option maxHeartbeats 2000000 in
theorem check9_s (t : ByteArray) (n a b : Int) (ok : SE.OK ⟨9, t, n, a, b⟩) : Fn prog 20 [.agg (SE.cells ⟨9, t, n, a, b⟩)] (.p (.v (.int .i64 (seE ⟨9, t, n, a, b⟩)))) [] := by
 obtain ⟨hz, hn0, hn1, ha0, ha1⟩ := ok
 dsimp only at hz hn0 hn1 ha0 ha1
 obtain ⟨E, hE⟩ : ∃ E, seE ⟨9, t, n, a, b⟩ = E := ⟨_, rfl⟩
 rw [hE]
 unfold seE at hE
 rw [if_neg (by dsimp only; decide)] at hE
 show Fn prog _ [.agg [.p (.v (.int .i64 9)), .p (.v (.string t)), .p (.v (.int .i64 n)), .p (.v (.int .u32 a)), .p (.v (.int .i64 b))]] _ _
 have hM := most9_s
 refine zaw F20 rfl (qE rfl) fun w0 A => zaa<| tx<| wG (zaK (X := .agg _) 1 rfl) rfl<| wA rfl<| zab<| zaa<| zaa<| tx<| wF zav rfl<| wL U3 rfl<| wP za8 rfl<| wM rfl<| wF zav rfl<| wL U3 rfl<| wP zbA rfl<| wP zaj rfl<| zab<| zaf<| zag rfl<| zae<| zaa<| zaB 4 qK<| wF zav rfl ?_
 refine wL U3 rfl<| cS (fun n => 19 + 1000 * n) (hM) F44 ?_
 refine wP zeC rfl<| wF zav rfl<| wL U3 rfl<| wP zaz rfl<| wA rfl<| wA rfl<| wA rfl<| zab ⟨qK, ?_⟩
 refine zaa<| zaa<| tx<| wF zav rfl<| wL U3 rfl<| zab<| zak<| zaa<| zaa<| tx<| wP zaz rfl<| wA rfl<| zab<| zaf<| zag rfl<| zaa<| tx<| wP zaz rfl<| wA rfl<| zab<| zaf<| zag rfl<| zaa<| tx ?_
 refine wP zaz rfl<| wA rfl<| zab<| zaf<| zag rfl ?_
 skip
 refine tx<| wP zaz rfl<| wA rfl<| zab<| zaf<| zag rfl ?_
 by_cases ht : t ≠ ⟨#[]⟩
 ·rw [if_pos (show seF ⟨9, t, n, a, b⟩ by simp [seF, isT, isN, isC, *])] at hE
  subst hE
  refine zae<| zaa<| zaa<| tx<| wM rfl<| wP zba rfl<| wM rfl<| wF zaD rfl<| wL U9 rfl<| wP (zay (c := true) (by simp [ht])) rfl ?_
  refine wP zao rfl<| wM rfl<| wS rfl<| wS rfl<| wS rfl<| wS rfl<| wS rfl<| wS rfl<| wS rfl<| wP zao rfl<| wM rfl<| wS rfl<| wS rfl<| wS rfl<| wS rfl<| wS rfl<| wS rfl<| wS rfl<| wS rfl<| wP zao rfl<| zab<| zaf<| zax rfl<| zaa ?_
  refine tx<| wA rfl<| zab<| zai<| zau<| yT ?_ ?_
  ·exact rfl
  ·exact trivial
 replace ht : t = ⟨#[]⟩ := Decidable.not_not.1 ht
 by_cases hn : n ≠ 0
 ·rw [if_pos (show seF ⟨9, t, n, a, b⟩ by simp [seF, isT, isN, isC, *])] at hE
  subst hE
  refine zae<| zaa<| zaa<| tx<| wM rfl<| wP zba rfl<| wM rfl<| wF zaD rfl<| wL U9 rfl<| wP (zay (c := false) (by simp [ht])) rfl ?_
  refine wP zao rfl<| wM rfl<| wM rfl<| wP zba rfl<| wM rfl<| wF zaM rfl<| wL U3 rfl<| wP (zaT (c := true) (by simpa using hn)) rfl ?_
  refine wP zao rfl<| wP zaj rfl<| wM rfl<| wS rfl<| wS rfl<| wS rfl<| wS rfl<| wS rfl<| wS rfl<| wS rfl<| wS rfl<| wP zao rfl<| zab<| zaf<| zax rfl<| zaa<| tx<| wA rfl<| zab<| zai<| zau<| yT ?_ ?_
  ·exact rfl
  ·exact trivial
 replace hn : n = 0 := Decidable.not_not.1 hn
 refine zae<| zaa<| zaa<| tx<| wM rfl<| wP zba rfl<| wM rfl<| wF zaD rfl<| wL U9 rfl<| wP (zay (c := false) (by simp [ht])) rfl ?_
 refine wP zao rfl<| wM rfl<| wM rfl<| wP zba rfl<| wM rfl<| wF zaM rfl<| wL U3 rfl<| wP (zaT (c := false) (by simp [hn])) rfl ?_
 refine wP zao rfl<| wP zaj rfl<| wM rfl<| wM rfl<| wP zba rfl<| wM rfl<| wF za2 rfl<| wN U27 sz27 rfl ?_
 refine wP (zaQ pl27 zr27 rfl rfl) rfl<| wP (zc0 U27 rfl rfl qK qK qK) rfl<| wP zao rfl<| wP zaj rfl<| zab<| zaf<| zaq _ rfl (fun h => ?_) (fun h => ?_)
 ·have hq : ¬ (a = 0 ∧ b = 0) := by
   simp only [zbs] at h
   simp at h
   omega
  rw [if_pos (show seF ⟨9, t, n, a, b⟩ by simp [seF, isT, isN, isC]; omega)] at hE
  subst hE
  refine zaa<| tx<| wA rfl<| zab<| zai<| zau<| yT ?_ ?_
  ·exact rfl
  ·exact trivial
 have hq : a = 0 ∧ b = 0 := by
  simp only [zbs] at h
  simp at h
  omega
 clear h
 rw [if_neg (show ¬ seF ⟨9, t, n, a, b⟩ by simp [seF, isT, isN, isC, *])] at hE
 rw [seV_9] at hE
 refine zae<| zaa<| zaa<| tx<| wF zav rfl<| wL U3 rfl<| zab<| zak<| zaa<| zaa<| tx<| wP zaz rfl<| wA rfl<| zab<| zaf<| zag rfl ?_
 skip
 refine tx<| wP zaz rfl<| wA rfl<| zab<| zaf<| zag rfl<| zaa<| tx<| wP zaz rfl<| wA rfl<| zab<| zaf<| zag rfl<| zaa<| tx<| wP zaz rfl<| wA rfl<| zab<| zaf<| zag rfl<| zaa<| tx<| wP zaz rfl<| wA rfl ?_
 refine zab<| zaf<| zag rfl ?_
 subst hE
 refine zae<| zaa<| zaa<| zaB 4 qK<| wM rfl<| wM rfl<| wS rfl<| wS rfl<| wS rfl<| wS rfl<| wS rfl<| wS rfl<| wS rfl<| wS rfl<| wS rfl<| wS rfl<| wS rfl<| wP zaj rfl<| zab ⟨qK, ?_⟩
 refine zaf<| zag rfl<| zae<| zaa<| tx<| wA rfl<| zab<| zai<| yT ?_ ?_
 ·exact rfl
 ·exact trivial
set_option maxHeartbeats 2000000 in
theorem check10_s (t : ByteArray) (n a b : Int) (ok : SE.OK ⟨10, t, n, a, b⟩) : Fn prog 20 [.agg (SE.cells ⟨10, t, n, a, b⟩)] (.p (.v (.int .i64 (seE ⟨10, t, n, a, b⟩)))) [] := by
 obtain ⟨hz, hn0, hn1, ha0, ha1⟩ := ok
 dsimp only at hz hn0 hn1 ha0 ha1
 obtain ⟨E, hE⟩ : ∃ E, seE ⟨10, t, n, a, b⟩ = E := ⟨_, rfl⟩
 rw [hE]
 unfold seE at hE
 rw [if_neg (by dsimp only; decide)] at hE
 show Fn prog _ [.agg [.p (.v (.int .i64 10)), .p (.v (.string t)), .p (.v (.int .i64 n)), .p (.v (.int .u32 a)), .p (.v (.int .i64 b))]] _ _
 have hM := most10_s
 have hC := nCheck_s a b ha0 ha1
 change Fn prog _ [.agg [.p (.v (.int .u32 a)), .p (.v (.int .i64 b))]] _ _ at hC
 refine zaw F20 rfl (qE rfl) fun w0 A => zaa<| tx<| wG (zaK (X := .agg _) 1 rfl) rfl<| wA rfl<| zab<| zaa<| zaa<| tx<| wF zav rfl<| wL U3 rfl<| wP za8 rfl<| wM rfl<| wF zav rfl<| wL U3 rfl<| wP zbA rfl<| wP zaj rfl<| zab<| zaf<| zag rfl<| zae<| zaa<| zaB 4 qK<| wF zav rfl ?_
 refine wL U3 rfl<| cS (fun n => 19 + 1000 * n) (hM) F44 ?_
 refine wP zeC rfl<| wF zav rfl<| wL U3 rfl<| wP zaz rfl<| wA rfl<| wA rfl<| wA rfl<| zab ⟨qK, ?_⟩
 refine zaa<| zaa<| tx<| wF zav rfl<| wL U3 rfl<| zab<| zak<| zaa<| zaa<| tx<| wP zaz rfl<| wA rfl<| zab<| zaf<| zag rfl<| zaa<| tx<| wP zaz rfl<| wA rfl<| zab<| zaf<| zag rfl<| zaa<| tx ?_
 refine wP zaz rfl<| wA rfl<| zab<| zaf<| zag rfl ?_
 skip
 refine tx<| wP zaz rfl<| wA rfl<| zab<| zaf<| zag rfl ?_
 by_cases ht : t ≠ ⟨#[]⟩
 ·rw [if_pos (show seF ⟨10, t, n, a, b⟩ by simp [seF, isT, isN, isC, *])] at hE
  subst hE
  refine zae<| zaa<| zaa<| tx<| wM rfl<| wP zba rfl<| wM rfl<| wF zaD rfl<| wL U9 rfl<| wP (zay (c := true) (by simp [ht])) rfl ?_
  refine wP zao rfl<| wM rfl<| wS rfl<| wS rfl<| wS rfl<| wS rfl<| wS rfl<| wS rfl<| wS rfl<| wP zao rfl<| wM rfl<| wS rfl<| wS rfl<| wS rfl<| wS rfl<| wS rfl<| wS rfl<| wS rfl<| wS rfl<| wP zao rfl<| zab<| zaf<| zax rfl<| zaa ?_
  refine tx<| wA rfl<| zab<| zai<| zau<| yT ?_ ?_
  ·exact rfl
  ·exact trivial
 replace ht : t = ⟨#[]⟩ := Decidable.not_not.1 ht
 by_cases hn : n ≠ 0
 ·rw [if_pos (show seF ⟨10, t, n, a, b⟩ by simp [seF, isT, isN, isC, *])] at hE
  subst hE
  refine zae<| zaa<| zaa<| tx<| wM rfl<| wP zba rfl<| wM rfl<| wF zaD rfl<| wL U9 rfl<| wP (zay (c := false) (by simp [ht])) rfl ?_
  refine wP zao rfl<| wM rfl<| wM rfl<| wP zba rfl<| wM rfl<| wF zaM rfl<| wL U3 rfl<| wP (zaT (c := true) (by simpa using hn)) rfl ?_
  refine wP zao rfl<| wP zaj rfl<| wM rfl<| wS rfl<| wS rfl<| wS rfl<| wS rfl<| wS rfl<| wS rfl<| wS rfl<| wS rfl<| wP zao rfl<| zab<| zaf<| zax rfl<| zaa<| tx<| wA rfl<| zab<| zai<| zau<| yT ?_ ?_
  ·exact rfl
  ·exact trivial
 replace hn : n = 0 := Decidable.not_not.1 hn
 refine zae<| zaa<| zaa<| tx<| wM rfl<| wP zba rfl<| wM rfl<| wF zaD rfl<| wL U9 rfl<| wP (zay (c := false) (by simp [ht])) rfl ?_
 refine wP zao rfl<| wM rfl<| wM rfl<| wP zba rfl<| wM rfl<| wF zaM rfl<| wL U3 rfl<| wP (zaT (c := false) (by simp [hn])) rfl ?_
 refine wP zao rfl<| wP zaj rfl<| wM rfl<| wM rfl<| wP zba rfl<| wM rfl<| wS rfl<| wS rfl<| wS rfl<| wS rfl<| wP zaj rfl<| wP zaj rfl<| zab<| zaf<| zag rfl ?_
 rw [if_neg (show ¬ seF ⟨10, t, n, a, b⟩ by simp [seF, isT, isN, isC, *])] at hE
 rw [seV_10] at hE
 refine zae<| zaa<| zaa<| tx<| wF zav rfl<| wL U3 rfl<| zab<| zak<| zaa<| zaa<| tx<| wP zaz rfl<| wA rfl<| zab<| zaf<| zag rfl ?_
 skip
 refine tx<| wP zaz rfl<| wA rfl<| zab<| zaf<| zag rfl<| zaa<| tx<| wP zaz rfl<| wA rfl<| zab<| zaf<| zag rfl<| zaa<| tx<| wP zaz rfl<| wA rfl<| zab<| zaf<| zag rfl<| zaa<| tx<| wP zaZ rfl<| wA rfl ?_
 refine zab<| zaf<| zax rfl ?_
 subst hE
 refine zaa<| tx<| wF za2 rfl<| wN U27 sz27 rfl ?_
 refine yV (fun n => 91 + 1000 * n) (hC) func47 ?_
 refine wA rfl<| zab<| zai<| zaU<| zau<| yT ?_ ?_
 ·exact rfl
 ·exact trivial
theorem checkBad_s (s : SE) (hk : s.k < 1 ∨ 10 < s.k) : Fn prog 20 [.agg s.cells] (.p (.v (.int .i64 (seE s)))) [] := by
 have hE : seE s = 2 := if_pos hk
 rw [hE]
 obtain ⟨k, t, n, a, b⟩ := s
 dsimp only at hk
 show Fn prog _ [.agg [.p (.v (.int .i64 k)), .p (.v (.string t)), .p (.v (.int .i64 n)), .p (.v (.int .u32 a)), .p (.v (.int .i64 b))]] _ _
 refine zaw F20 rfl (qE rfl) fun w0 A => zaa<| tx<| wG (zaK (X := .agg _) 1 rfl) rfl<| wA rfl<| zab<| zaa<| zaa<| tx<| wF zav rfl<| wL U3 rfl<| wP za8 rfl<| wM rfl<| mb2 _ rfl rfl (fun hb => (zbW zav rfl)) (fun _ => trivial) ?_
 refine mb2 _ rfl rfl (fun hb => (zb2 U3 rfl (by first | rfl | assumption))) (fun _ => ⟨rfl, trivial⟩) ?_
 refine mb2 _ rfl rfl (fun hb => zbA) (fun _ => trivial) ?_
 refine wP (a_or (by first | exact id | (simp; done) | grind)) rfl ?_
 refine zab<| zaf<| zaq _ rfl (fun h => ?_) (fun h => ?_)
 ·refine zaa<| tx<| wA rfl<| zab<| zai<| zau<| yT ?_ ?_
  ·exact rfl
  ·exact trivial
 ·exact absurd hk (by simp at h; omega)
theorem zeS (s : SE) (ok : s.OK) : Fn prog 20 [.agg s.cells] (.p (.v (.int .i64 (seE s)))) [] := by
 by_cases hk : s.k < 1 ∨ 10 < s.k
 ·exact checkBad_s s hk
 obtain ⟨k, t, n, a, b⟩ := s
 dsimp only at hk
 have : k = 1 ∨ k = 2 ∨ k = 3 ∨ k = 4 ∨ k = 5 ∨ k = 6 ∨ k = 7 ∨ k = 8 ∨ k = 9 ∨ k = 10 := by omega
 rcases this with rfl | rfl | rfl | rfl | rfl | rfl | rfl | rfl | rfl | rfl
 ·exact check1_s t n a b ok
 ·exact check2_s t n a b ok
 ·exact check3_s t n a b ok
 ·exact check4_s t n a b ok
 ·exact check5_s t n a b ok
 ·exact check6_s t n a b ok
 ·exact check7_s t n a b ok
 ·exact check8_s t n a b ok
 ·exact check9_s t n a b ok
 ·exact check10_s t n a b ok
end Go.Proofs.YtkdfdcodkeclmaaGreatDoor
