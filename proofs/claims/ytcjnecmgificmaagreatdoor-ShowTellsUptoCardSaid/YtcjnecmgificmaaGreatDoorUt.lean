/- Comparisons with a known end; the first of numbers that is not 0. -/
import Derived.Test.YtcjnecmgificmaaGreatDoorMa4
namespace Go.Proofs.YtcjnecmgificmaaGreatDoor
open Go.RowKit Go.Sort
set_option linter.unusedVariables false
set_option linter.unusedSimpArgs false

section
variable {P : Program} {d : Option Tmp} {ty : TypeId} {pos : String} {af : Array Edge} {g : Option (Nat × Bool)} {xt yt : TypeId} {x y : Operand} {k : IntKind} {a b : Int} {c : Bool}
theorem a_gtrV (h : decide (b < a) = c) : AOp P ⟨d, .binOp .gtr xt x y yt, ty, pos, af, g⟩ [.p (.v (.int k a)), .p (.v (.int k b))] [] [] (.p (.v (.bool c))) :=
  a_bin (guard_int _ _ _ _ _ _ _ _) (fun w => by subst h; simp [binOp, Op.intCmp]) rfl
theorem a_lssV (h : decide (a < b) = c) : AOp P ⟨d, .binOp .lss xt x y yt, ty, pos, af, g⟩ [.p (.v (.int k a)), .p (.v (.int k b))] [] [] (.p (.v (.bool c))) :=
  a_bin (guard_int _ _ _ _ _ _ _ _) (fun w => by subst h; simp [binOp, Op.intCmp]) rfl
theorem a_leqV (h : decide (a ≤ b) = c) : AOp P ⟨d, .binOp .leq xt x y yt, ty, pos, af, g⟩ [.p (.v (.int k a)), .p (.v (.int k b))] [] [] (.p (.v (.bool c))) :=
  a_bin (guard_int _ _ _ _ _ _ _ _) (fun w => by subst h; simp [binOp, Op.intCmp]) rfl
theorem a_geqV (h : decide (b ≤ a) = c) : AOp P ⟨d, .binOp .geq xt x y yt, ty, pos, af, g⟩ [.p (.v (.int k a)), .p (.v (.int k b))] [] [] (.p (.v (.bool c))) :=
  a_bin (guard_int _ _ _ _ _ _ _ _) (fun w => by subst h; simp [binOp, Op.intCmp]) rfl
theorem a_eqlV (h : (a == b) = c) : AOp P ⟨d, .binOp .eql xt x y yt, ty, pos, af, g⟩ [.p (.v (.int k a)), .p (.v (.int k b))] [] [] (.p (.v (.bool c))) :=
  a_bin (guard_int _ _ _ _ _ _ _ _) (fun w => by subst h; simp [binOp, Op.intCmp]) rfl
theorem a_neqV (h : (a != b) = c) : AOp P ⟨d, .binOp .neq xt x y yt, ty, pos, af, g⟩ [.p (.v (.int k a)), .p (.v (.int k b))] [] [] (.p (.v (.bool c))) :=
  a_bin (guard_int _ _ _ _ _ _ _ _) (fun w => by subst h; simp [binOp, Op.intCmp]) rfl
theorem a_seqlV {s t : ByteArray} (h : decide (s = t) = c) : AOp P ⟨d, .binOp .eql xt x y yt, ty, pos, af, g⟩ [.p (.v (.string s)), .p (.v (.string t))] [] [] (.p (.v (.bool c))) :=
  a_bin (guard_str _ _ _ _ _ _) (fun w => by subst h; simp only [binOp, Op.stringOp, str_beq, Sem.run_pure]) rfl
theorem a_sneqV {s t : ByteArray} (h : (!decide (s = t)) = c) : AOp P ⟨d, .binOp .neq xt x y yt, ty, pos, af, g⟩ [.p (.v (.string s)), .p (.v (.string t))] [] [] (.p (.v (.bool c))) :=
  a_bin (guard_str _ _ _ _ _ _) (fun w => by subst h; simp only [binOp, Op.stringOp, str_beq, Sem.run_pure]) rfl
end

/-- the first of n numbers that is not 0; 0 if all are -/
def fnz (f : Nat → Int) : Nat → Int
  | 0 => 0
  | n + 1 => if fnz f n ≠ 0 then fnz f n else f n
theorem fnz_ok {f : Nat → Int} : ∀ {n : Nat}, (∀ j, j < n → f j = 0) → fnz f n = 0
  | 0, _ => rfl
  | n + 1, h => by
    have h1 := fnz_ok (f := f) (n := n) fun j hj => h j (by omega)
    unfold fnz
    rw [h1, if_neg (by simp), h n (by omega)]
theorem fnz_hit {f : Nat → Int} {i : Nat} : ∀ {n : Nat}, (∀ j, j < i → f j = 0) → i < n → f i ≠ 0 → fnz f n = f i
  | 0, _, h, _ => by omega
  | n + 1, h1, h2, h3 => by
    unfold fnz
    by_cases e : i = n
    · subst e
      rw [fnz_ok h1, if_neg (by simp)]
    · have := fnz_hit h1 (n := n) (by omega) h3
      rw [this, if_pos h3]
theorem fnz_zero {f : Nat → Int} : ∀ {n : Nat}, fnz f n = 0 → ∀ j, j < n → f j = 0
  | 0, _, j, hj => by omega
  | n + 1, h, j, hj => by
    unfold fnz at h
    by_cases h0 : fnz f n ≠ 0
    · rw [if_pos h0] at h; exact absurd h h0
    · rw [if_neg h0] at h
      by_cases e : j = n
      · subst e; exact h
      · exact fnz_zero (Decidable.not_not.1 h0) j (by omega)
theorem fnz_congr {f g : Nat → Int} : ∀ {n : Nat}, (∀ j, j < n → f j = g j) → fnz f n = fnz g n
  | 0, _ => rfl
  | n + 1, h => by
    have h1 := fnz_congr (f := f) (g := g) (n := n) fun j hj => h j (by omega)
    unfold fnz
    rw [h1, h n (by omega)]
end Go.Proofs.YtcjnecmgificmaaGreatDoor
