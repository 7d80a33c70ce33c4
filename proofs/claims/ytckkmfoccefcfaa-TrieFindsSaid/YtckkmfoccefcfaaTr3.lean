/- Nets and lists of bits. -/
import Derived.Test.YtckkmfoccefcfaaTr2
import Derived.Test.YtckkmfoccefcfaaNetH
namespace Go.Proofs.Ytckkmfoccefcfaa
set_option linter.unusedVariables false
set_option linter.unusedSimpArgs false

def valK (p : Key) : Nat := p.foldl (fun a b => 2 * a + b.toNat) 0
theorem valK_go (p : Key) (a : Nat) : p.foldl (fun a b => 2 * a + b.toNat) a = a * 2 ^ p.length + valK p := by
  unfold valK
  induction p generalizing a with
  | nil => simp
  | cons b p ih =>
    rw [List.foldl_cons, ih, List.foldl_cons, ih (2 * 0 + b.toNat), List.length_cons, Nat.pow_succ, Nat.add_mul]
    have e0 : 2 * 0 + b.toNat = b.toNat := by omega
    rw [e0]
    have : 2 * a * 2 ^ p.length = a * (2 ^ p.length * 2) := by rw [Nat.mul_comm 2 a, Nat.mul_assoc, Nat.mul_comm 2]
    omega
theorem valK_app (p q : Key) : valK (p ++ q) = valK p * 2 ^ q.length + valK q := by
  conv => lhs; unfold valK
  rw [List.foldl_append]
  exact valK_go q _
theorem valK_one (b : Bool) : valK [b] = b.toNat := by simp [valK]
theorem valK_lt : ∀ p : Key, valK p < 2 ^ p.length := by
  intro p
  induction p with
  | nil => simp [valK]
  | cons b p ih =>
    have h := valK_app [b] p
    rw [List.singleton_append, valK_one] at h
    rw [h, List.length_cons, Nat.pow_succ]
    have : b.toNat * 2 ^ p.length ≤ 1 * 2 ^ p.length := Nat.mul_le_mul_right _ (by cases b <;> decide)
    omega
theorem valK_inj : ∀ {p q : Key}, p.length = q.length → valK p = valK q → p = q
  | [], [], _, _ => rfl
  | [], _ :: _, h, _ => by simp at h
  | _ :: _, [], h, _ => by simp at h
  | a :: p, b :: q, h, k => by
    have h' : p.length = q.length := by simpa using h
    have h1 := valK_app [a] p
    have h2 := valK_app [b] q
    rw [List.singleton_append, valK_one] at h1 h2
    rw [h1, h2, h'] at k
    have l1 := valK_lt p
    have l2 := valK_lt q
    rw [h'] at l1
    have hab : a = b := by
      cases a <;> cases b <;> simp at k ⊢ <;> omega
    subst hab
    rw [valK_inj h' (by omega)]
theorem valK_take (q : Key) (k : Nat) (h : k ≤ q.length) : valK (q.take k) = valK q / 2 ^ (q.length - k) := by
  have h1 := valK_app (q.take k) (q.drop k)
  rw [List.take_append_drop, List.length_drop] at h1
  have h2 := valK_lt (q.drop k)
  rw [List.length_drop] at h2
  rw [h1, Nat.mul_comm, Nat.mul_add_div (Nat.two_pow_pos _), Nat.div_eq_of_lt h2, Nat.add_zero]
/-- the address of a net, as a number -/
def addrN (p : Key) : Nat := valK p * 2 ^ (32 - p.length)
def addrK (p : Key) : Int := (addrN p : Nat)
theorem addrN_lt (p : Key) (h : p.length ≤ 32) : addrN p < 4294967296 := by
  have h1 := valK_lt p
  have h2 : valK p * 2 ^ (32 - p.length) < 2 ^ p.length * 2 ^ (32 - p.length) := Nat.mul_lt_mul_of_pos_right h1 (Nat.two_pow_pos _)
  rw [← Nat.pow_add, show p.length + (32 - p.length) = 32 by omega] at h2
  exact h2
theorem addrK_bd (p : Key) (h : p.length ≤ 32) : 0 ≤ addrK p ∧ addrK p < 4294967296 := by
  have := addrN_lt p h
  unfold addrK; omega
theorem addrN_div (q : Key) (k : Nat) (hq : q.length ≤ 32) (hk : k ≤ q.length) : addrN q / 2 ^ (32 - k) = valK (q.take k) := by
  rw [valK_take q k hk, addrN]
  have e : 32 - k = (q.length - k) + (32 - q.length) := by omega
  rw [e, Nat.pow_add, Nat.mul_comm (2 ^ (q.length - k)), ← Nat.div_div_eq_div_mul, Nat.mul_div_cancel _ (Nat.two_pow_pos _)]
theorem pow_toN (k : Nat) (hk : k ≤ 32) : ((2 : Int) ^ (32 - (k : Int)).toNat) = ((2 ^ (32 - k) : Nat) : Int) := by
  rw [show (32 - (k : Int)).toNat = 32 - k by omega]
  simp
theorem topI_addr (q : Key) (k : Nat) (hq : q.length ≤ 32) (hk : k ≤ q.length) : topI (addrK q) k = addrK (q.take k) := by
  unfold topI addrK
  rw [pow_toN k (by omega)]
  have h1 := addrN_div q k hq hk
  have h2 : addrN (q.take k) = valK (q.take k) * 2 ^ (32 - k) := by unfold addrN; rw [List.length_take, Nat.min_eq_left hk]
  have h3 := Nat.div_add_mod (addrN q) (2 ^ (32 - k))
  rw [h2, ← h1, Nat.mul_comm]
  generalize addrN q / 2 ^ (32 - k) = D at *
  generalize hM : 2 ^ (32 - k) = M at *
  have h4 : ((addrN q : Nat) : Int) % ((M : Nat) : Int) = ((addrN q % M : Nat) : Int) := by simp
  rw [h4]
  have h5 : addrN q % M ≤ addrN q := Nat.mod_le _ _
  omega
theorem fault_addr (p : Key) (hp : p.length ≤ 32) : netFault (addrK p) p.length = 0 := by
  unfold netFault
  rw [if_neg (by omega), if_pos]
  rw [pow_toN _ hp]
  unfold addrK addrN
  simp
theorem addrK_inj {p q : Key} (hp : p.length ≤ 32) (hl : p.length = q.length) (h : addrK p = addrK q) : p = q := by
  have h' : addrN p = addrN q := by unfold addrK at h; omega
  unfold addrN at h'
  rw [← hl] at h'
  exact valK_inj hl (Nat.eq_of_mul_eq_mul_right (Nat.two_pow_pos _) h')
theorem pre_iff {p q : Key} : p <+: q ↔ p.length ≤ q.length ∧ q.take p.length = p := by
  constructor
  · intro h; exact ⟨h.length_le, (List.prefix_iff_eq_take.1 h).symm⟩
  · rintro ⟨_, h⟩; rw [← h]; exact List.take_prefix _ _
theorem top_pre (p q : Key) (hq : q.length ≤ 32) (hk : p.length ≤ q.length) : topI (addrK q) p.length = addrK p ↔ p <+: q := by
  rw [topI_addr q _ hq hk, pre_iff]
  constructor
  · intro h
    have hl : (q.take p.length).length = p.length := by rw [List.length_take]; omega
    exact ⟨hk, addrK_inj (by omega) hl h⟩
  · rintro ⟨_, h⟩; rw [h]
theorem holds_pre (p q : Key) (hp : p.length ≤ 32) (hq : q.length ≤ 32) : netHolds (addrK p) p.length (addrK q) q.length = decide (p <+: q) := by
  unfold netHolds netHas
  rw [fault_addr p hp, fault_addr q hq]
  simp only [true_and]
  by_cases hl : p.length ≤ q.length
  · rw [show decide (((p.length : Nat) : Int) ≤ ((q.length : Nat) : Int)) = true by simp; omega, Bool.true_and]
    exact decide_eq_decide.2 (top_pre p q hq hl)
  · rw [show decide (((p.length : Nat) : Int) ≤ ((q.length : Nat) : Int)) = false by simp; omega, Bool.false_and]
    symm
    rw [decide_eq_false_iff_not]
    intro h; exact hl h.length_le
/-- the bits of an address -/
def keyOf (a n : Nat) : Key := (List.range n).map fun i => decide (a / 2 ^ (31 - i) % 2 = 1)
theorem keyOf_len (a n : Nat) : (keyOf a n).length = n := by simp [keyOf]
theorem keyOf_val (a n : Nat) (ha : a < 4294967296) (hn : n ≤ 32) : valK (keyOf a n) = a / 2 ^ (32 - n) := by
  induction n with
  | zero =>
    rw [Nat.sub_zero, Nat.div_eq_of_lt ha]; rfl
  | succ n ih =>
    have e : keyOf a (n + 1) = keyOf a n ++ [decide (a / 2 ^ (31 - n) % 2 = 1)] := by simp [keyOf, List.range_succ]
    rw [e, valK_app, valK_one, ih (by omega), List.length_singleton, Nat.pow_one]
    rw [show 32 - (n + 1) = 31 - n by omega, show 32 - n = (31 - n) + 1 by omega, Nat.pow_succ, ← Nat.div_div_eq_div_mul]
    generalize a / 2 ^ (31 - n) = x
    by_cases h : x % 2 = 1
    · rw [decide_eq_true h]; simp; omega
    · rw [decide_eq_false h]; simp; omega
theorem net_key {a n : Int} (h0 : 0 ≤ a) (h1 : a < 4294967296) (hf : netFault a n = 0) : ∃ p : Key, p.length ≤ 32 ∧ a = addrK p ∧ n = p.length := by
  obtain ⟨n0, n1, hm⟩ := netFault_ok hf
  obtain ⟨a, rfl⟩ := Int.eq_ofNat_of_zero_le h0
  obtain ⟨n, rfl⟩ := Int.eq_ofNat_of_zero_le n0
  refine ⟨keyOf a n, by rw [keyOf_len]; omega, ?_, by rw [keyOf_len]⟩
  have ha : a < 4294967296 := by omega
  rw [pow_toN n (by omega)] at hm
  have hm' : a % 2 ^ (32 - n) = 0 := by
    have h4 : ((a : Nat) : Int) % ((2 ^ (32 - n) : Nat) : Int) = ((a % 2 ^ (32 - n) : Nat) : Int) := by simp
    rw [h4] at hm; omega
  unfold addrK addrN
  rw [keyOf_len, keyOf_val a n ha (by omega)]
  have := Nat.div_add_mod a (2 ^ (32 - n))
  rw [Nat.mul_comm] at this
  omega
theorem full_key (x : Int) (h0 : 0 ≤ x) (h1 : x < 4294967296) : ∃ q : Key, q.length = 32 ∧ x = addrK q := by
  obtain ⟨q, _, h3, h4⟩ := net_key h0 h1 (n := 32) (by unfold netFault; rw [if_neg (by omega), if_pos (by simp)])
  exact ⟨q, by omega, h3⟩
theorem has_pre (p q : Key) (hp : p.length ≤ 32) (hq : q.length = 32) : netHas (addrK p) p.length (addrK q) = decide (p <+: q) := by
  unfold netHas
  rw [fault_addr p hp]
  simp only [true_and]
  exact decide_eq_decide.2 (top_pre p q (by omega) (by omega))
theorem bit_key (q : Key) (i : Nat) (hq : q.length ≤ 32) (hi : i < q.length) : addrK q / 2 ^ (31 - (i : Int)).toNat % 2 = if bitAt q i = true then 1 else 0 := by
  have h1 := addrN_div q (i + 1) hq (by omega)
  rw [show (31 - (i : Int)).toNat = 32 - (i + 1) by omega]
  have h2 : addrK q / 2 ^ (32 - (i + 1)) = ((addrN q / 2 ^ (32 - (i + 1)) : Nat) : Int) := by unfold addrK; simp
  rw [h2, h1, List.take_succ_eq_append_getElem hi, valK_app, valK_one]
  have e : bitAt q i = q[i] := by unfold bitAt; rw [List.getD_eq_getElem?_getD, List.getElem?_eq_getElem hi]; rfl
  rw [e]
  cases q[i] <;> simp <;> omega
theorem lcpL_len_iff (p q : Key) (k : Nat) (h1 : k ≤ p.length) (h2 : k ≤ q.length) : k ≤ (lcpL p q).length ↔ p.take k = q.take k := by
  constructor
  · intro h
    have a1 := List.prefix_iff_eq_take.1 (lcpL_left p q)
    have a2 := List.prefix_iff_eq_take.1 (lcpL_right p q)
    have b1 : p.take k = (lcpL p q).take k := by conv => rhs; rw [a1]
                                                 rw [List.take_take, Nat.min_eq_left h]
    have b2 : q.take k = (lcpL p q).take k := by conv => rhs; rw [a2]
                                                 rw [List.take_take, Nat.min_eq_left h]
    rw [b1, b2]
  · intro h
    have := (lcpL_max (List.take_prefix k p) (by rw [h]; exact List.take_prefix k q)).length_le
    rw [List.length_take] at this
    omega
theorem join_key (p q : Key) (hp : p.length ≤ 32) (hq : q.length ≤ 32) : joinE (addrK p) p.length (addrK q) q.length = 0 ∧ joinN (addrK p) p.length (addrK q) q.length = (lcpL p q).length ∧ joinA (addrK p) p.length (addrK q) q.length = addrK (lcpL p q) := by
  have hE : joinE (addrK p) p.length (addrK q) q.length = 0 := by unfold joinE; rw [if_pos (fault_addr p hp)]; exact fault_addr q hq
  obtain ⟨b0, b1⟩ := addrK_bd p hp
  obtain ⟨b2, b3⟩ := addrK_bd q hq
  obtain ⟨c0, c1⟩ := lcp_bd (addrK p) (addrK q) b0 b1 b2 b3
  have key : ∀ k : Nat, k ≤ p.length → k ≤ q.length → (k ≤ (lcpL p q).length ↔ (k : Int) ≤ lcp (addrK p) (addrK q)) := fun k h1 h2 => by
    rw [lcpL_len_iff p q k h1 h2, ← topI_eq_iff (addrK p) (addrK q) k b0 b1 b2 b3 (by omega) (by omega), topI_addr p k hp h1, topI_addr q k hq h2]
    constructor
    · intro h; rw [h]
    · intro h
      exact (addrK_inj (by rw [List.length_take]; omega) (by rw [List.length_take, List.length_take]; omega) h).symm
  have l1 := (lcpL_left p q).length_le
  have l2 := (lcpL_right p q).length_le
  have hJ : min (min (p.length : Int) (q.length : Int)) (lcp (addrK p) (addrK q)) = ((lcpL p q).length : Int) := by
    have k1 := (key (lcpL p q).length l1 l2).1 (Nat.le_refl _)
    obtain ⟨J, hJ⟩ : ∃ J : Nat, min (min (p.length : Int) (q.length : Int)) (lcp (addrK p) (addrK q)) = (J : Int) := ⟨(min (min (p.length : Int) (q.length : Int)) (lcp (addrK p) (addrK q))).toNat, by omega⟩
    have k2 := (key J (by omega) (by omega)).2 (by omega)
    omega
  refine ⟨hE, ?_, ?_⟩
  · unfold joinN; rw [if_pos hE, hJ]
  · unfold joinA; rw [if_pos hE, hJ, topI_addr p _ hp l1, ← List.prefix_iff_eq_take.1 (lcpL_left p q)]
end Go.Proofs.Ytckkmfoccefcfaa
