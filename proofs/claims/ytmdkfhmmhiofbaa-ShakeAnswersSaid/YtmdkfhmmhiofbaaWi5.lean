/- wire.Decode and its reference, over data. -/
import Derived.Test.YtmdkfhmmhiofbaaWi3
import Derived.Test.YtmdkfhmmhiofbaaMp
namespace Go.Proofs.Ytmdkfhmmhiofbaa
open Go.RowKit Go.Sort
set_option linter.unusedVariables false
set_option linter.unusedSimpArgs false
set_option maxRecDepth 100000

/-- the last k of m bytes as a number, the lowest one first -/
def vK (ys : List Int) (m : Nat) : Nat → Nat
  | 0 => 0
  | k + 1 => vK ys m k * 256 + bN ys (m - 1 - k)
def nv (ys : List Int) (m : Nat) : Int := IntKind.i64.wrap (vK ys m m : Nat)
theorem bN_take (ys : List Int) (m i : Nat) (h : i < m) : bN (ys.take m) i = bN ys i := by
  unfold bN
  rw [List.getD_eq_getElem?_getD, List.getD_eq_getElem?_getD, List.getElem?_take, if_pos h]
theorem vK_take (ys : List Int) (m k : Nat) (h : k ≤ m) : vK (ys.take m) m k = vK ys m k := by
  induction k with
  | zero => rfl
  | succ k ih => rw [vK, vK, ih (by omega), bN_take _ _ _ (by omega)]
theorem nv_take (ys : List Int) (m : Nat) : nv (ys.take m) m = nv ys m := by unfold nv; rw [vK_take _ _ _ (Nat.le_refl _)]
theorem wrap_bits (x : Int) : BitVec.ofInt 64 (IntKind.i64.wrap x) = BitVec.ofInt 64 x := by
  apply BitVec.eq_of_toInt_eq
  rw [BitVec.toInt_ofInt, BitVec.toInt_ofInt, IntKind.wrap_i64]
  simp only [Int.bmod_def]
  omega
theorem shl8 (v : Nat) : IntKind.i64.wrap (IntKind.i64.wrap (v : Int) * 2 ^ min (8 : Int).toNat IntKind.i64.bits) = IntKind.i64.wrap ((v * 256 : Nat) : Int) := by
  rw [show (2 : Int) ^ min (8 : Int).toNat IntKind.i64.bits = 256 from rfl, IntKind.wrap_i64, IntKind.wrap_i64, IntKind.wrap_i64]; omega
theorem or8 (v b : Nat) (hb : b < 256) : bits .or .i64 (IntKind.i64.wrap ((v * 256 : Nat) : Int)) (b : Int) = IntKind.i64.wrap ((v * 256 + b : Nat) : Int) := by
  have h1 : (BitVec.ofInt 64 (IntKind.i64.wrap ((v * 256 : Nat) : Int))).toNat = (v % 2 ^ 56) * 2 ^ 8 := by
    rw [wrap_bits, BitVec.ofInt_natCast, BitVec.toNat_ofNat]; omega
  have h2 : (BitVec.ofInt 64 (b : Int)).toNat = b := by
    rw [BitVec.ofInt_natCast, BitVec.toNat_ofNat]; exact Nat.mod_eq_of_lt (by omega)
  show IntKind.i64.wrap ((BitVec.ofInt 64 (IntKind.i64.wrap ((v * 256 : Nat) : Int)) ||| BitVec.ofInt 64 (b : Int)).toNat : Int) = _
  rw [BitVec.toNat_or, h1, h2, or_add (v % 2 ^ 56) b 8 (by omega), IntKind.wrap_i64, IntKind.wrap_i64]
  omega
theorem add8 (v b : Nat) (hb : b < 256) : IntKind.i64.wrap (IntKind.i64.wrap ((v * 256 : Nat) : Int) + (b : Int)) = IntKind.i64.wrap ((v * 256 + b : Nat) : Int) := by
  rw [IntKind.wrap_i64, IntKind.wrap_i64, IntKind.wrap_i64]; omega

def nS (sh : Bool) (k w : Nat) : Bool := sh || decide (k < w)
def nK (sh : Bool) (k w : Nat) : Nat := if nS sh k w = true then k else k - w
def nY (sh : Bool) (k w : Nat) (ys : List Int) : List Int := if nS sh k w = true then ys else ys.drop w
def nV (sh : Bool) (k w : Nat) (ys : List Int) : Int := if nS sh k w = true then 0 else nv ys w
theorem nS_false {sh : Bool} {k w : Nat} {ys : List Int} (h : nS sh k w = false) : sh = false ∧ w ≤ k ∧ nK sh k w = k - w ∧ nY sh k w ys = ys.drop w ∧ nV sh k w ys = nv ys w := by
  have h' := h
  unfold nS at h'
  simp at h'
  refine ⟨h'.1, h'.2, ?_, ?_, ?_⟩
  · unfold nK; rw [h]; rfl
  · unfold nY; rw [h]; rfl
  · unfold nV; rw [h]; rfl
def MS0 : List AV := [.p (.v (.int .i64 0)), .p (.v (.int .i64 0)), .p (.v (.int .i64 0)), .p (.v (.int .i64 0)), .p (.v (.slice none 0 0))]
noncomputable def wdV (e : Int) (m : MS) : AV := if e = 0 then .tup [.agg m.cells, .p (.v (.int .i64 e))] else .tup [.agg MS0, .p (.v (.int .i64 e))]
theorem wdV_bad {e : Int} {m : MS} (h : e ≠ 0) : wdV e m = .tup [.agg MS0, .p (.v (.int .i64 e))] := if_neg h
theorem wdV_good {e : Int} {m : MS} (h : e = 0) : wdV e m = .tup [.agg m.cells, .p (.v (.int .i64 0))] := by unfold wdV; rw [if_pos h, h]
def wd1 (n : Nat) (xs : List Int) : MS := ⟨1, nv (xs.drop 4) 4, 0, 0, n - 8, xs.drop 8⟩
def wd2 (n : Nat) (xs : List Int) : MS := ⟨2, nv (xs.drop 4) 4, nv (xs.drop 8) 4, 0, n - 12, xs.drop 12⟩
def wd4 (n : Nat) (xs : List Int) : MS := ⟨4, 0, nv (xs.drop 4) 4, nv (xs.drop 8) 8, n - 16, xs.drop 16⟩
theorem bs_cutW {xs : List Int} {n a k : Nat} (hx : xs.length = n) (hk : n - a = k) : ((bs xs).drop (a * 1)).take (k * 1) = bs (xs.drop a) := by
  rw [Nat.mul_one, Nat.mul_one, List.take_of_length_le (by rw [List.length_drop, bs_length]; omega)]
  simp [bs]
theorem isB_drop' {xs : List Int} (h : isB xs) (a : Nat) : isB (xs.drop a) := fun x hx => h x (List.mem_of_mem_drop hx)
theorem bs_mid (xs : List Int) (a k : Nat) : ((bs xs).drop (a * 1)).take (k * 1) = bs ((xs.drop a).take k) := by simp [bs, List.map_take]

/-! what is wrong ahead of the numbers -/
def hdM : List (Value × Value) := [(.int .i64 1, .int .i64 8), (.int .i64 2, .int .i64 12), (.int .i64 4, .int .i64 16)]
def hdT (t : Int) : Int := if t = 1 then 8 else if t = 2 then 12 else if t = 4 then 16 else 0
theorem hdM_at (t : Int) : ∃ f, findP (.int .i64) (.int .i64 t) hdM 0 = some f ∧ gotV (.int .i64 0) f = .int .i64 (hdT t) := by
  unfold hdT
  by_cases h1 : t = 1
  · subst h1; exact ⟨_, rfl, rfl⟩
  by_cases h2 : t = 2
  · subst h2; exact ⟨_, rfl, rfl⟩
  by_cases h3 : t = 4
  · subst h3; exact ⟨_, rfl, rfl⟩
  refine ⟨none, ?_, by rw [if_neg h1, if_neg h2, if_neg h3]; rfl⟩
  have e1 : (t == 1) = false := by simp [h1]
  have e2 : (t == 2) = false := by simp [h2]
  have e3 : (t == 4) = false := by simp [h3]
  simp [findP, hdM, Instr.sameNow, e1, e2, e3]
theorem hd_ok (t : Int) : (ofS t).ok = false ↔ hdT t = 0 := by
  unfold ofS hdT
  by_cases h1 : t = 1
  · subst h1; decide
  by_cases h2 : t = 2
  · subst h2; decide
  by_cases h3 : t = 4
  · subst h3; decide
  rw [if_neg h1, if_neg h2, if_neg h3, if_neg h1, if_neg h2, if_neg h3]
  simp
theorem zero3_iff (xs : List Int) (n : Nat) (hx : xs.length = n) (hB : isB xs) (hn : 4 ≤ n) : strOfNums ((xs.drop 1).take 3) = ⟨#[0, 0, 0]⟩ ↔ (bN xs 1 = 0 ∧ bN xs 2 = 0 ∧ bN xs 3 = 0) := by
  match xs, hx with
  | x0 :: x1 :: x2 :: x3 :: l, _ =>
    have h1 := hB x1 (by simp)
    have h2 := hB x2 (by simp)
    have h3 := hB x3 (by simp)
    rw [show ((x0 :: x1 :: x2 :: x3 :: l).drop 1).take 3 = [x1, x2, x3] from rfl]
    rw [show (⟨#[0, 0, 0]⟩ : ByteArray) = strOfNums [0, 0, 0] from rfl]
    rw [show bN (x0 :: x1 :: x2 :: x3 :: l) 1 = x1.toNat from rfl, show bN (x0 :: x1 :: x2 :: x3 :: l) 2 = x2.toNat from rfl, show bN (x0 :: x1 :: x2 :: x3 :: l) 3 = x3.toNat from rfl]
    constructor
    · intro h
      have := nums_inj (xs := [x1, x2, x3]) (ys := [0, 0, 0]) (by intro y hy; simp at hy; rcases hy with rfl | rfl | rfl <;> assumption) (by intro y hy; simp at hy; omega) h
      simp at this
      omega
    · rintro ⟨a, b, c⟩
      rw [show x1 = 0 by omega, show x2 = 0 by omega, show x3 = 0 by omega]
  | [], h => simp at h; omega
  | [_], h => simp at h; omega
  | [_, _], h => simp at h; omega
  | [_, _, _], h => simp at h; omega
end Go.Proofs.Ytmdkfhmmhiofbaa
