/- Nets and lists of bits. Tries: lists of nodes and trees; what grows of a list. Tries: owned nets, the tree that they grow to, both checks are one. Tries: what the references do with lists of owned nets is what is done with trees. -/
import Derived.Test.YtgpleldhddpcgaaGreatDoorTrZ
import Derived.Test.YtgpleldhddpcgaaGreatDoorNetY
/-! Nets and lists of bits. -/
namespace Go.Proofs.YtgpleldhddpcgaaGreatDoor
set_option linter.unusedVariables false
set_option linter.unusedSimpArgs false

def valK (p : Key) : Nat := p.foldl (fun a b => 2 * a + b.toNat) 0
theorem valK_go (p : Key) (a : Nat) : p.foldl (fun a b => 2 * a + b.toNat) a = a * 2 ^ p.length + valK p := by
  unfold valK
  induction p generalizing a with
  | nil => simp
  | cons b p ih =>
    rw [List.foldl_cons, ih, List.foldl_cons, ih (2 * 0 + b.toNat), List.length_cons, Nat.pow_succ, Nat.add_mul]
    have e0 : 2 * 0 + b.toNat = b.toNat := by omega
    rw [e0]
    have : 2 * a * 2 ^ p.length = a * (2 ^ p.length * 2) := by rw [Nat.mul_comm 2 a, Nat.mul_assoc, Nat.mul_comm 2]
    omega
theorem valK_app (p q : Key) : valK (p ++ q) = valK p * 2 ^ q.length + valK q := by
  conv => lhs; unfold valK
  rw [List.foldl_append]
  exact valK_go q _
theorem valK_one (b : Bool) : valK [b] = b.toNat := by simp [valK]
theorem valK_lt : ∀ p : Key, valK p < 2 ^ p.length := by
  intro p
  induction p with
  | nil => simp [valK]
  | cons b p ih =>
    have h := valK_app [b] p
    rw [List.singleton_append, valK_one] at h
    rw [h, List.length_cons, Nat.pow_succ]
    have : b.toNat * 2 ^ p.length ≤ 1 * 2 ^ p.length := Nat.mul_le_mul_right _ (by cases b <;> decide)
    omega
theorem valK_inj : ∀ {p q : Key}, p.length = q.length → valK p = valK q → p = q
  | [], [], _, _ => rfl
  | [], _ :: _, h, _ => by simp at h
  | _ :: _, [], h, _ => by simp at h
  | a :: p, b :: q, h, k => by
    have h' : p.length = q.length := by simpa using h
    have h1 := valK_app [a] p
    have h2 := valK_app [b] q
    rw [List.singleton_append, valK_one] at h1 h2
    rw [h1, h2, h'] at k
    have l1 := valK_lt p
    have l2 := valK_lt q
    rw [h'] at l1
    have hab : a = b := by
      cases a <;> cases b <;> simp at k ⊢ <;> omega
    subst hab
    rw [valK_inj h' (by omega)]
theorem valK_take (q : Key) (k : Nat) (h : k ≤ q.length) : valK (q.take k) = valK q / 2 ^ (q.length - k) := by
  have h1 := valK_app (q.take k) (q.drop k)
  rw [List.take_append_drop, List.length_drop] at h1
  have h2 := valK_lt (q.drop k)
  rw [List.length_drop] at h2
  rw [h1, Nat.mul_comm, Nat.mul_add_div (Nat.two_pow_pos _), Nat.div_eq_of_lt h2, Nat.add_zero]
/-- the address of a net, as a number -/
def addrN (p : Key) : Nat := valK p * 2 ^ (32 - p.length)
def addrK (p : Key) : Int := (addrN p : Nat)
theorem addrN_lt (p : Key) (h : p.length ≤ 32) : addrN p < 4294967296 := by
  have h1 := valK_lt p
  have h2 : valK p * 2 ^ (32 - p.length) < 2 ^ p.length * 2 ^ (32 - p.length) := Nat.mul_lt_mul_of_pos_right h1 (Nat.two_pow_pos _)
  rw [← Nat.pow_add, show p.length + (32 - p.length) = 32 by omega] at h2
  exact h2
theorem addrK_bd (p : Key) (h : p.length ≤ 32) : 0 ≤ addrK p ∧ addrK p < 4294967296 := by
  have := addrN_lt p h
  unfold addrK; omega
theorem addrN_div (q : Key) (k : Nat) (hq : q.length ≤ 32) (hk : k ≤ q.length) : addrN q / 2 ^ (32 - k) = valK (q.take k) := by
  rw [valK_take q k hk, addrN]
  have e : 32 - k = (q.length - k) + (32 - q.length) := by omega
  rw [e, Nat.pow_add, Nat.mul_comm (2 ^ (q.length - k)), ← Nat.div_div_eq_div_mul, Nat.mul_div_cancel _ (Nat.two_pow_pos _)]
theorem pow_toN (k : Nat) (hk : k ≤ 32) : ((2 : Int) ^ (32 - (k : Int)).toNat) = ((2 ^ (32 - k) : Nat) : Int) := by
  rw [show (32 - (k : Int)).toNat = 32 - k by omega]
  simp
theorem topI_addr (q : Key) (k : Nat) (hq : q.length ≤ 32) (hk : k ≤ q.length) : topI (addrK q) k = addrK (q.take k) := by
  unfold topI addrK
  rw [pow_toN k (by omega)]
  have h1 := addrN_div q k hq hk
  have h2 : addrN (q.take k) = valK (q.take k) * 2 ^ (32 - k) := by unfold addrN; rw [List.length_take, Nat.min_eq_left hk]
  have h3 := Nat.div_add_mod (addrN q) (2 ^ (32 - k))
  rw [h2, ← h1, Nat.mul_comm]
  generalize addrN q / 2 ^ (32 - k) = D at *
  generalize hM : 2 ^ (32 - k) = M at *
  have h4 : ((addrN q : Nat) : Int) % ((M : Nat) : Int) = ((addrN q % M : Nat) : Int) := by simp
  rw [h4]
  have h5 : addrN q % M ≤ addrN q := Nat.mod_le _ _
  omega
theorem fault_addr (p : Key) (hp : p.length ≤ 32) : netFault (addrK p) p.length = 0 := by
  unfold netFault
  rw [if_neg (by omega), if_pos]
  rw [pow_toN _ hp]
  unfold addrK addrN
  simp
theorem addrK_inj {p q : Key} (hp : p.length ≤ 32) (hl : p.length = q.length) (h : addrK p = addrK q) : p = q := by
  have h' : addrN p = addrN q := by unfold addrK at h; omega
  unfold addrN at h'
  rw [← hl] at h'
  exact valK_inj hl (Nat.eq_of_mul_eq_mul_right (Nat.two_pow_pos _) h')
theorem pre_iff {p q : Key} : p <+: q ↔ p.length ≤ q.length ∧ q.take p.length = p := by
  constructor
  · intro h; exact ⟨h.length_le, (List.prefix_iff_eq_take.1 h).symm⟩
  · rintro ⟨_, h⟩; rw [← h]; exact List.take_prefix _ _
theorem top_pre (p q : Key) (hq : q.length ≤ 32) (hk : p.length ≤ q.length) : topI (addrK q) p.length = addrK p ↔ p <+: q := by
  rw [topI_addr q _ hq hk, pre_iff]
  constructor
  · intro h
    have hl : (q.take p.length).length = p.length := by rw [List.length_take]; omega
    exact ⟨hk, addrK_inj (by omega) hl h⟩
  · rintro ⟨_, h⟩; rw [h]
theorem holds_pre (p q : Key) (hp : p.length ≤ 32) (hq : q.length ≤ 32) : netHolds (addrK p) p.length (addrK q) q.length = decide (p <+: q) := by
  unfold netHolds netHas
  rw [fault_addr p hp, fault_addr q hq]
  simp only [true_and]
  by_cases hl : p.length ≤ q.length
  · rw [show decide (((p.length : Nat) : Int) ≤ ((q.length : Nat) : Int)) = true by simp; omega, Bool.true_and]
    exact decide_eq_decide.2 (top_pre p q hq hl)
  · rw [show decide (((p.length : Nat) : Int) ≤ ((q.length : Nat) : Int)) = false by simp; omega, Bool.false_and]
    symm
    rw [decide_eq_false_iff_not]
    intro h; exact hl h.length_le
/-- the bits of an address -/
def keyOf (a n : Nat) : Key := (List.range n).map fun i => decide (a / 2 ^ (31 - i) % 2 = 1)
theorem keyOf_len (a n : Nat) : (keyOf a n).length = n := by simp [keyOf]
theorem keyOf_val (a n : Nat) (ha : a < 4294967296) (hn : n ≤ 32) : valK (keyOf a n) = a / 2 ^ (32 - n) := by
  induction n with
  | zero =>
    rw [Nat.sub_zero, Nat.div_eq_of_lt ha]; rfl
  | succ n ih =>
    have e : keyOf a (n + 1) = keyOf a n ++ [decide (a / 2 ^ (31 - n) % 2 = 1)] := by simp [keyOf, List.range_succ]
    rw [e, valK_app, valK_one, ih (by omega), List.length_singleton, Nat.pow_one]
    rw [show 32 - (n + 1) = 31 - n by omega, show 32 - n = (31 - n) + 1 by omega, Nat.pow_succ, ← Nat.div_div_eq_div_mul]
    generalize a / 2 ^ (31 - n) = x
    by_cases h : x % 2 = 1
    · rw [decide_eq_true h]; simp; omega
    · rw [decide_eq_false h]; simp; omega
theorem net_key {a n : Int} (h0 : 0 ≤ a) (h1 : a < 4294967296) (hf : netFault a n = 0) : ∃ p : Key, p.length ≤ 32 ∧ a = addrK p ∧ n = p.length := by
  obtain ⟨n0, n1, hm⟩ := netFault_ok hf
  obtain ⟨a, rfl⟩ := Int.eq_ofNat_of_zero_le h0
  obtain ⟨n, rfl⟩ := Int.eq_ofNat_of_zero_le n0
  refine ⟨keyOf a n, by rw [keyOf_len]; omega, ?_, by rw [keyOf_len]⟩
  have ha : a < 4294967296 := by omega
  rw [pow_toN n (by omega)] at hm
  have hm' : a % 2 ^ (32 - n) = 0 := by
    have h4 : ((a : Nat) : Int) % ((2 ^ (32 - n) : Nat) : Int) = ((a % 2 ^ (32 - n) : Nat) : Int) := by simp
    rw [h4] at hm; omega
  unfold addrK addrN
  rw [keyOf_len, keyOf_val a n ha (by omega)]
  have := Nat.div_add_mod a (2 ^ (32 - n))
  rw [Nat.mul_comm] at this
  omega
theorem full_key (x : Int) (h0 : 0 ≤ x) (h1 : x < 4294967296) : ∃ q : Key, q.length = 32 ∧ x = addrK q := by
  obtain ⟨q, _, h3, h4⟩ := net_key h0 h1 (n := 32) (by unfold netFault; rw [if_neg (by omega), if_pos (by simp)])
  exact ⟨q, by omega, h3⟩
theorem has_pre (p q : Key) (hp : p.length ≤ 32) (hq : q.length = 32) : netHas (addrK p) p.length (addrK q) = decide (p <+: q) := by
  unfold netHas
  rw [fault_addr p hp]
  simp only [true_and]
  exact decide_eq_decide.2 (top_pre p q (by omega) (by omega))
theorem bit_key (q : Key) (i : Nat) (hq : q.length ≤ 32) (hi : i < q.length) : addrK q / 2 ^ (31 - (i : Int)).toNat % 2 = if bitAt q i = true then 1 else 0 := by
  have h1 := addrN_div q (i + 1) hq (by omega)
  rw [show (31 - (i : Int)).toNat = 32 - (i + 1) by omega]
  have h2 : addrK q / 2 ^ (32 - (i + 1)) = ((addrN q / 2 ^ (32 - (i + 1)) : Nat) : Int) := by unfold addrK; simp
  rw [h2, h1, List.take_succ_eq_append_getElem hi, valK_app, valK_one]
  have e : bitAt q i = q[i] := by unfold bitAt; rw [List.getD_eq_getElem?_getD, List.getElem?_eq_getElem hi]; rfl
  rw [e]
  cases q[i] <;> simp <;> omega
theorem lcpL_len_iff (p q : Key) (k : Nat) (h1 : k ≤ p.length) (h2 : k ≤ q.length) : k ≤ (lcpL p q).length ↔ p.take k = q.take k := by
  constructor
  · intro h
    have a1 := List.prefix_iff_eq_take.1 (lcpL_left p q)
    have a2 := List.prefix_iff_eq_take.1 (lcpL_right p q)
    have b1 : p.take k = (lcpL p q).take k := by conv => rhs; rw [a1]
                                                 rw [List.take_take, Nat.min_eq_left h]
    have b2 : q.take k = (lcpL p q).take k := by conv => rhs; rw [a2]
                                                 rw [List.take_take, Nat.min_eq_left h]
    rw [b1, b2]
  · intro h
    have := (lcpL_max (List.take_prefix k p) (by rw [h]; exact List.take_prefix k q)).length_le
    rw [List.length_take] at this
    omega
theorem join_key (p q : Key) (hp : p.length ≤ 32) (hq : q.length ≤ 32) : joinE (addrK p) p.length (addrK q) q.length = 0 ∧ joinN (addrK p) p.length (addrK q) q.length = (lcpL p q).length ∧ joinA (addrK p) p.length (addrK q) q.length = addrK (lcpL p q) := by
  have hE : joinE (addrK p) p.length (addrK q) q.length = 0 := by unfold joinE; rw [if_pos (fault_addr p hp)]; exact fault_addr q hq
  obtain ⟨b0, b1⟩ := addrK_bd p hp
  obtain ⟨b2, b3⟩ := addrK_bd q hq
  obtain ⟨c0, c1⟩ := lcp_bd (addrK p) (addrK q) b0 b1 b2 b3
  have key : ∀ k : Nat, k ≤ p.length → k ≤ q.length → (k ≤ (lcpL p q).length ↔ (k : Int) ≤ lcp (addrK p) (addrK q)) := fun k h1 h2 => by
    rw [lcpL_len_iff p q k h1 h2, ← topI_eq_iff (addrK p) (addrK q) k b0 b1 b2 b3 (by omega) (by omega), topI_addr p k hp h1, topI_addr q k hq h2]
    constructor
    · intro h; rw [h]
    · intro h
      exact (addrK_inj (by rw [List.length_take]; omega) (by rw [List.length_take, List.length_take]; omega) h).symm
  have l1 := (lcpL_left p q).length_le
  have l2 := (lcpL_right p q).length_le
  have hJ : min (min (p.length : Int) (q.length : Int)) (lcp (addrK p) (addrK q)) = ((lcpL p q).length : Int) := by
    have k1 := (key (lcpL p q).length l1 l2).1 (Nat.le_refl _)
    obtain ⟨J, hJ⟩ : ∃ J : Nat, min (min (p.length : Int) (q.length : Int)) (lcp (addrK p) (addrK q)) = (J : Int) := ⟨(min (min (p.length : Int) (q.length : Int)) (lcp (addrK p) (addrK q))).toNat, by omega⟩
    have k2 := (key J (by omega) (by omega)).2 (by omega)
    omega
  refine ⟨hE, ?_, ?_⟩
  · unfold joinN; rw [if_pos hE, hJ]
  · unfold joinA; rw [if_pos hE, hJ, topI_addr p _ hp l1, ← List.prefix_iff_eq_take.1 (lcpL_left p q)]
end Go.Proofs.YtgpleldhddpcgaaGreatDoor
/-! Tries: lists of nodes and trees; what grows of a list. -/
namespace Go.Proofs.YtgpleldhddpcgaaGreatDoor
set_option linter.unusedVariables false
set_option linter.unusedSimpArgs false

/-- a node of a list: address, bits, owner, size -/
structure ND where
  a : Int
  n : Int
  o : ByteArray
  s : Int
theorem ND.ext' {x y : ND} (h1 : x.a = y.a) (h2 : x.n = y.n) (h3 : x.o = y.o) (h4 : x.s = y.s) : x = y := by
  cases x; cases y; simp at h1 h2 h3 h4; subst h1; subst h2; subst h3; subst h4; rfl
def ND.pv (x : ND) : List PV := [.v (.int .u32 x.a), .v (.int .i64 x.n), .v (.string x.o), .v (.int .i64 x.s)]
structure ND.OK (x : ND) : Prop where
  a0 : 0 ≤ x.a
  a1 : x.a < 4294967296
  n0 : -9223372036854775808 ≤ x.n
  n1 : x.n ≤ 9223372036854775807
  s0 : -9223372036854775808 ≤ x.s
  s1 : x.s ≤ 9223372036854775807
  oz : x.o.size ≤ 140737488351232
def ND.fault (x : ND) : Int := netFault x.a x.n
def ND.key (x : ND) : Key := keyOf x.a.toNat x.n.toNat
def toND (x : Nd) : ND := ⟨addrK x.1, x.1.length, x.2.1, x.2.2⟩
def TR.list (t : TR) : List ND := t.nodes.map toND
def TR.short : TR → Prop
  | .nil => True
  | .nd p _ l r => p.length ≤ 32 ∧ l.short ∧ r.short
theorem TR.list_nil : TR.nil.list = [] := rfl
theorem TR.list_nd (p : Key) (o : Own) (l r : TR) : (TR.nd p o l r).list = ⟨addrK p, p.length, o, (((l.list ++ r.list).length + 1 : Nat) : Int)⟩ :: (l.list ++ r.list) := by
  simp only [TR.list, TR.nodes, List.map_cons, List.map_append, toND, List.length_append, List.length_map]
  congr 2
  omega
theorem addr_key (p : Key) (hp : p.length ≤ 32) : keyOf (addrK p).toNat ((p.length : Nat) : Int).toNat = p := by
  have h1 : (addrK p).toNat = addrN p := by unfold addrK; omega
  rw [h1, Int.toNat_natCast]
  refine valK_inj (keyOf_len _ _) ?_
  rw [keyOf_val _ _ (addrN_lt p hp) hp, addrN_div p _ hp (Nat.le_refl _), List.take_length]
theorem ND.keyed {x : ND} (h0 : 0 ≤ x.a) (h1 : x.a < 4294967296) (hf : x.fault = 0) : x.key.length ≤ 32 ∧ x.a = addrK x.key ∧ x.n = (x.key.length : Int) := by
  obtain ⟨p, hp, ha, hn⟩ := net_key h0 h1 hf
  have : x.key = p := by unfold ND.key; rw [ha, hn]; exact addr_key p hp
  rw [this]; exact ⟨hp, ha, hn⟩
theorem TR.list_fault : ∀ {t : TR}, t.short → ∀ x ∈ t.list, x.fault = 0
  | .nil, _, x, h => by cases h
  | .nd p o l r, hs, x, h => by
    rw [TR.list_nd] at h
    rcases List.mem_cons.1 h with rfl | h
    · exact fault_addr p hs.1
    · rcases List.mem_append.1 h with h | h
      · exact TR.list_fault hs.2.1 x h
      · exact TR.list_fault hs.2.2 x h

/-- may a net stand below another one -/
def belowB (p q : Key) : Bool := decide (p.length < q.length) && decide (p <+: q)
theorem belowB_iff {p q : Key} : belowB p q = true ↔ p ++ [bitAt q p.length] <+: q := by
  unfold belowB
  simp only [Bool.and_eq_true, decide_eq_true_eq]
  constructor
  · rintro ⟨h1, h2⟩
    exact pre_next h2 fun e => by rw [e] at h1; omega
  · intro h
    have h1 := h.length_le
    simp at h1
    exact ⟨by omega, pre_of_snoc h⟩

def kidsF (g : List ND → Option (TR × List ND)) (p : Key) : Nat → TR → TR → List ND → Option (TR × TR)
  | _, k0, k1, [] => some (k0, k1)
  | 0, _, _, _ :: _ => none
  | m + 1, k0, k1, x :: l =>
    match g (x :: l) with
    | some (.nd q o a b, more) =>
      if belowB p q = true then
        if bitAt q p.length = true then (if k1.isNil = true then kidsF g p m k0 (.nd q o a b) more else none)
        else (if k0.isNil = true ∧ k1.isNil = true then kidsF g p m (.nd q o a b) k1 more else none)
      else none
    | _ => none
def growTop (p : Key) (o : Own) (rest : List ND) : Option (TR × TR) → Option (TR × List ND)
  | none => none
  | some (k0, k1) => if o = noOwn ∧ (k0.isNil = true ∨ k1.isNil = true) then none else some (.nd p o k0 k1, rest)
theorem growTop_no {p : Key} {o : Own} {rest : List ND} {k0 k1 : TR} (h : o = noOwn ∧ (k0.isNil = true ∨ k1.isNil = true)) : growTop p o rest (some (k0, k1)) = none := by simp only [growTop]; rw [if_pos h]
theorem growTop_yes {p : Key} {o : Own} {rest : List ND} {k0 k1 : TR} (h : ¬ (o = noOwn ∧ (k0.isNil = true ∨ k1.isNil = true))) : growTop p o rest (some (k0, k1)) = some (.nd p o k0 k1, rest) := by simp only [growTop]; rw [if_neg h]
def growF : Nat → List ND → Option (TR × List ND)
  | 0, _ => none
  | _ + 1, [] => none
  | n + 1, x :: l =>
    if x.s < 1 ∨ ((l.length + 1 : Nat) : Int) < x.s ∨ x.fault ≠ 0 then none
    else growTop x.key x.o (l.drop (x.s.toNat - 1)) (kidsF (growF n) x.key (l.take (x.s.toNat - 1)).length .nil .nil (l.take (x.s.toNat - 1)))

def GoodT (t : TR) : Prop := t.valid ∧ t.short ∧ t ≠ .nil
theorem kidsF_sound {g : List ND → Option (TR × List ND)} {p : Key} (hg : ∀ l t rest, (∀ x ∈ l, x.OK) → g l = some (t, rest) → GoodT t ∧ l = t.list ++ rest) :
    ∀ {m : Nat} {k0 k1 : TR} {l : List ND} {r0 r1 : TR}, (∀ x ∈ l, x.OK) → kidsF g p m k0 k1 l = some (r0, r1) → (k0.valid ∧ k0.short ∧ k0.under (p ++ [false])) → (k1.valid ∧ k1.short ∧ k1.under (p ++ [true])) →
      (r0.valid ∧ r0.short ∧ r0.under (p ++ [false])) ∧ (r1.valid ∧ r1.short ∧ r1.under (p ++ [true])) ∧ k0.list ++ k1.list ++ l = r0.list ++ r1.list
  | m, k0, k1, [], r0, r1, _, h, h0, h1 => by
    cases m <;> (simp only [kidsF, Option.some.injEq, Prod.mk.injEq] at h; obtain ⟨rfl, rfl⟩ := h; exact ⟨h0, h1, by simp⟩)
  | 0, k0, k1, _ :: _, r0, r1, _, h, _, _ => by simp [kidsF] at h
  | m + 1, k0, k1, x :: l, r0, r1, hok, h, h0, h1 => by
    simp only [kidsF] at h
    split at h
    · rename_i q o a b more hq
      obtain ⟨hgt, hl⟩ := hg _ _ _ hok hq
      have hmore : ∀ x ∈ more, x.OK := fun y hy => hok y (by rw [hl]; exact List.mem_append.2 (.inr hy))
      split at h
      · rename_i hb
        have hb' := belowB_iff.1 hb
        split at h
        · rename_i hbit
          rw [hbit] at hb'
          split at h
          · rename_i hn
            rw [TR.isNil_iff] at hn
            subst hn
            obtain ⟨a1, a2, a3⟩ := kidsF_sound hg hmore h h0 ⟨hgt.1, hgt.2.1, hb'⟩
            refine ⟨a1, a2, ?_⟩
            rw [← a3, hl, TR.list_nil]
            simp
          · cases h
        · rename_i hbit
          have hbit' : bitAt q p.length = false := by simpa using hbit
          rw [hbit'] at hb'
          split at h
          · rename_i hn
            rw [TR.isNil_iff, TR.isNil_iff] at hn
            obtain ⟨rfl, rfl⟩ := hn
            obtain ⟨a1, a2, a3⟩ := kidsF_sound hg hmore h ⟨hgt.1, hgt.2.1, hb'⟩ h1
            refine ⟨a1, a2, ?_⟩
            rw [← a3, hl, TR.list_nil]
            simp
          · cases h
      · cases h
    · cases h
theorem growF_sound : ∀ {n : Nat} {l : List ND} {t : TR} {rest : List ND}, (∀ x ∈ l, x.OK) → growF n l = some (t, rest) → GoodT t ∧ l = t.list ++ rest
  | 0, l, t, rest, _, h => by simp [growF] at h
  | n + 1, [], t, rest, _, h => by simp [growF] at h
  | n + 1, x :: l, t, rest, hok, h => by
    simp only [growF] at h
    split at h
    · cases h
    · rename_i hc
      simp only [not_or, Int.not_lt] at hc
      obtain ⟨c1, c2, c3⟩ := hc
      have c3 : x.fault = 0 := Decidable.not_not.1 c3
      cases hk : kidsF (growF n) x.key (l.take (x.s.toNat - 1)).length .nil .nil (l.take (x.s.toNat - 1)) with
      | none => rw [hk] at h; cases h
      | some r =>
        obtain ⟨k0, k1⟩ := r
        rw [hk] at h
        simp only [growTop] at h
        split at h
        · cases h
        · rename_i hn
          simp only [Option.some.injEq, Prod.mk.injEq] at h
          obtain ⟨rfl, rfl⟩ := h
          have hx := hok x (by simp)
          obtain ⟨q1, q2, q3⟩ := ND.keyed hx.a0 hx.a1 c3
          have hmine : ∀ y ∈ l.take (x.s.toNat - 1), y.OK := fun y hy => hok y (List.mem_cons_of_mem _ (List.mem_of_mem_take hy))
          obtain ⟨a1, a2, a3⟩ := kidsF_sound (fun l t rest => growF_sound) hmine hk ⟨trivial, trivial, trivial⟩ ⟨trivial, trivial, trivial⟩
          simp only [TR.list_nil, List.nil_append] at a3
          refine ⟨⟨⟨a1.1, a2.1, a1.2.2, a2.2.2, fun e => ?_⟩, ⟨q1, a1.2.1, a2.2.1⟩, by simp⟩, ?_⟩
          · simp only [not_and, not_or] at hn
            obtain ⟨u1, u2⟩ := hn e
            exact ⟨fun e => u1 (TR.isNil_iff.2 e), fun e => u2 (TR.isNil_iff.2 e)⟩
          · rw [TR.list_nd, ← a3, List.cons_append, List.take_append_drop]
            congr 1
            refine ND.ext' q2 q3 rfl ?_
            simp only [List.length_take]
            omega
theorem kidsF_one {g : List ND → Option (TR × List ND)} {p q : Key} {o : Own} {a b k0 k1 : TR} {m : Nat} {l more : List ND} (hl : l ≠ []) (hg : g l = some (.nd q o a b, more)) (hb : belowB p q = true) :
    kidsF g p (m + 1) k0 k1 l = if bitAt q p.length = true then (if k1.isNil = true then kidsF g p m k0 (.nd q o a b) more else none) else (if k0.isNil = true ∧ k1.isNil = true then kidsF g p m (.nd q o a b) k1 more else none) := by
  cases l with
  | nil => exact absurd rfl hl
  | cons x l => simp only [kidsF, hg, hb, if_true]
theorem kidsF_end {g : List ND → Option (TR × List ND)} {p : Key} {m : Nat} {k0 k1 : TR} : kidsF g p m k0 k1 [] = some (k0, k1) := by cases m <;> simp [kidsF]
theorem TR.list_ne {t : TR} (h : t ≠ .nil) : t.list ≠ [] := by
  cases t with
  | nil => exact absurd rfl h
  | nd p o l r => rw [TR.list_nd]; simp
theorem under_below {p : Key} {b : Bool} {q : Key} {o : Own} {l r : TR} (h : (TR.nd q o l r).under (p ++ [b])) : belowB p q = true ∧ bitAt q p.length = b := by
  have hb : bitAt q p.length = b := pre_bit h
  exact ⟨belowB_iff.2 (by rw [hb]; exact h), hb⟩
theorem growF_full : ∀ {t : TR} {n : Nat} {rest : List ND}, GoodT t → t.list.length ≤ n → growF n (t.list ++ rest) = some (t, rest)
  | .nil, n, rest, h, _ => absurd rfl h.2.2
  | .nd p o l r, 0, rest, h, hn => by rw [TR.list_nd] at hn; simp at hn
  | .nd p o l r, n + 1, rest, h, hn => by
    obtain ⟨⟨v1, v2, v3, v4, v5⟩, ⟨s0, s1, s2⟩, _⟩ := h
    have hkey : ND.key ⟨addrK p, p.length, o, (((l.list ++ r.list).length + 1 : Nat) : Int)⟩ = p := addr_key p s0
    have hf : ND.fault ⟨addrK p, p.length, o, (((l.list ++ r.list).length + 1 : Nat) : Int)⟩ = 0 := fault_addr p s0
    have hlen : l.list.length + r.list.length ≤ n := by rw [TR.list_nd] at hn; simp at hn; exact hn
    have ht : ((l.list ++ r.list) ++ rest).take ((((l.list ++ r.list).length + 1 : Nat) : Int).toNat - 1) = l.list ++ r.list := by
      rw [show (((l.list ++ r.list).length + 1 : Nat) : Int).toNat - 1 = (l.list ++ r.list).length by omega, List.take_left']
      rfl
    have hd : ((l.list ++ r.list) ++ rest).drop ((((l.list ++ r.list).length + 1 : Nat) : Int).toNat - 1) = rest := by
      rw [show (((l.list ++ r.list).length + 1 : Nat) : Int).toNat - 1 = (l.list ++ r.list).length by omega, List.drop_left']
      rfl
    rw [TR.list_nd, List.cons_append, growF, if_neg (by
      rintro (h | h | h)
      · have h' : (((l.list ++ r.list).length + 1 : Nat) : Int) < 1 := h
        omega
      · have h' : ((((l.list ++ r.list) ++ rest).length + 1 : Nat) : Int) < (((l.list ++ r.list).length + 1 : Nat) : Int) := h
        have e9 : ((l.list ++ r.list) ++ rest).length = (l.list ++ r.list).length + rest.length := List.length_append
        rw [e9] at h'
        omega
      · exact h hf)]
    simp only [hkey, ht, hd]
    have hk : kidsF (growF n) p (l.list ++ r.list).length .nil .nil (l.list ++ r.list) = some (l, r) := by
      have hr : ∀ (m : Nat) (k0 : TR), r.list.length ≤ m → kidsF (growF n) p m k0 .nil r.list = some (k0, r) := fun m k0 hm => by
        cases r with
        | nil => rw [TR.list_nil]; exact kidsF_end
        | nd q o' a b =>
          have hne : (TR.nd q o' a b).list ≠ [] := TR.list_ne (by simp)
          obtain ⟨u1, u2⟩ := under_below v4
          have hg := growF_full (t := .nd q o' a b) (n := n) (rest := []) ⟨v2, s2, by simp⟩ (by omega)
          rw [List.append_nil] at hg
          cases m with
          | zero => exact absurd (List.eq_nil_of_length_eq_zero (by omega)) hne
          | succ m => rw [kidsF_one hne hg u1, if_pos u2]; simp only [TR.isNil, if_true]; exact kidsF_end
      cases l with
      | nil => rw [TR.list_nil, List.nil_append]; exact hr _ _ (Nat.le_refl _)
      | nd q o' a b =>
        have hne : (TR.nd q o' a b).list ≠ [] := TR.list_ne (by simp)
        obtain ⟨u1, u2⟩ := under_below v3
        have hg := growF_full (t := .nd q o' a b) (n := n) (rest := r.list) ⟨v1, s1, by simp⟩ (by omega)
        have hpos := List.length_pos_iff.2 hne
        obtain ⟨m, hm⟩ : ∃ m, ((TR.nd q o' a b).list ++ r.list).length = m + 1 := ⟨((TR.nd q o' a b).list ++ r.list).length - 1, by rw [List.length_append]; omega⟩
        rw [hm, kidsF_one (by simp [hne]) hg u1, if_neg (by simp [u2])]
        simp only [TR.isNil, and_self, if_true]
        exact hr m _ (by rw [List.length_append] at hm; omega)
    rw [hk]
    refine growTop_yes ?_
    rintro ⟨e, h⟩
    obtain ⟨w1, w2⟩ := v5 e
    rcases h with h | h
    · exact w1 (TR.isNil_iff.1 h)
    · exact w2 (TR.isNil_iff.1 h)
end Go.Proofs.YtgpleldhddpcgaaGreatDoor
/-! Tries: owned nets, the tree that they grow to, both checks are one. -/
namespace Go.Proofs.YtgpleldhddpcgaaGreatDoor
set_option linter.unusedVariables false
set_option linter.unusedSimpArgs false

/-! how many nets there are -/
theorem nodup_lt : ∀ (N : Nat) (l : List Nat), l.Nodup → (∀ x ∈ l, x < N) → l.length ≤ N
  | 0, l, _, h => by
    cases l with
    | nil => simp
    | cons x l => exact absurd (h x (by simp)) (by omega)
  | N + 1, l, hd, h => by
    have h1 := nodup_lt N (l.erase N) (hd.erase N) fun x hx => by
      have hm := (hd.mem_erase_iff).1 hx
      have := h x hm.2
      omega
    have h2 := List.length_erase (a := N) (l := l)
    split at h2 <;> omega
def codeK (p : Key) : Nat := 2 ^ p.length + valK p
theorem codeK_lt (p : Key) (h : p.length ≤ 32) : codeK p < 8589934592 := by
  have h1 := valK_lt p
  have h2 : 2 ^ p.length ≤ 2 ^ 32 := Nat.pow_le_pow_right (by omega) h
  unfold codeK
  omega
theorem codeK_inj {p q : Key} (h : codeK p = codeK q) : p = q := by
  have h1 := valK_lt p
  have h2 := valK_lt q
  unfold codeK at h
  have hl : p.length = q.length := by
    rcases Nat.lt_trichotomy p.length q.length with hl | hl | hl
    · have : 2 ^ (p.length + 1) ≤ 2 ^ q.length := Nat.pow_le_pow_right (by omega) hl
      rw [Nat.pow_succ] at this; omega
    · exact hl
    · have : 2 ^ (q.length + 1) ≤ 2 ^ p.length := Nat.pow_le_pow_right (by omega) hl
      rw [Nat.pow_succ] at this; omega
  rw [hl] at h
  exact valK_inj hl (by omega)
theorem map_nodup {α β : Type} {f : α → β} (hf : ∀ a b, f a = f b → a = b) : ∀ {l : List α}, l.Nodup → (l.map f).Nodup
  | [], _ => List.nodup_nil
  | x :: l, h => by
    rw [List.nodup_cons] at h
    rw [List.map_cons, List.nodup_cons]
    refine ⟨fun hx => ?_, map_nodup hf h.2⟩
    obtain ⟨y, hy, e⟩ := List.mem_map.1 hx
    rw [hf _ _ e] at hy
    exact h.1 hy
theorem keys_few {l : List Key} (hd : l.Nodup) (h : ∀ p ∈ l, p.length ≤ 32) : l.length ≤ 8589934592 := by
  have h1 := nodup_lt 8589934592 (l.map codeK) (map_nodup (fun _ _ => codeK_inj) hd) fun x hx => by
    obtain ⟨p, hp, rfl⟩ := List.mem_map.1 hx
    exact codeK_lt p (h p hp)
  simpa using h1

/-! sides are shorter -/
theorem side_pre {M : List (Key × Own)} {b : Bool} : ∀ x ∈ sideL (joinAll M) b M, joinAll M ++ [b] <+: x.1 := fun x hx => by
  obtain ⟨h1, h2, h3⟩ := sideL_mem.1 hx
  rw [← h3]; exact pre_next (joinAll_pre x h1) h2
theorem side_lt {M : List (Key × Own)} (hM : M ≠ []) (b : Bool) : (sideL (joinAll M) b M).length < M.length := by
  have hle : (sideL (joinAll M) b M).length ≤ M.length := List.length_filter_le _ _
  rcases Nat.lt_or_ge (sideL (joinAll M) b M).length M.length with h | h
  · exact h
  · exfalso
    have e : sideL (joinAll M) b M = M := by
      have := List.filter_sublist (p := fun x : Key × Own => !decide (x.1 = joinAll M) && (bitAt x.1 (joinAll M).length == b)) (l := M)
      exact this.eq_of_length (Nat.le_antisymm hle h)
    have hm : joinAll M ++ [b] <+: joinAll M := joinAll_max hM fun x hx => side_pre x (by rw [e]; exact hx)
    have := hm.length_le
    simp only [List.length_append, List.length_singleton] at this
    omega
theorem sides_le (top : Key) (M : List (Key × Own)) : (sideL top false M).length + (sideL top true M).length ≤ M.length := by
  induction M with
  | nil => simp [sideL]
  | cons x M ih =>
    unfold sideL at ih ⊢
    simp only [List.filter_cons]
    split <;> split <;> simp only [List.length_cons] <;> first
      | omega
      | (rename_i h1 h2; simp only [Bool.and_eq_true, beq_iff_eq] at h1 h2; rw [h1.2] at h2; exact absurd h2.2 (by decide))
theorem grownF_len : ∀ (n : Nat) (M : List (Key × Own)), (grownF n M).length ≤ 2 * M.length - 1
  | 0, [] => by simp [grownF]
  | 0, _ :: _ => by simp [grownF]
  | _ + 1, [] => by simp [grownF]
  | n + 1, x :: l => by
    have h1 := grownF_len n (sideL (joinAll (x :: l)) false (x :: l))
    have h2 := grownF_len n (sideL (joinAll (x :: l)) true (x :: l))
    have h3 := sides_le (joinAll (x :: l)) (x :: l)
    have h4 := side_lt (M := x :: l) (by simp) false
    have h5 := side_lt (M := x :: l) (by simp) true
    simp only [grownF, List.length_cons, List.length_append] at *
    omega
theorem joinAll_le {M : List (Key × Own)} {k : Nat} (h : ∀ x ∈ M, x.1.length ≤ k) : (joinAll M).length ≤ k := by
  cases M with
  | nil => simp [joinAll]
  | cons x M => exact Nat.le_trans (joinAll_pre (l := x :: M) x (by simp)).length_le (h x (by simp))

/-! owned nets -/
def one (x : Key × Own) : ND := ⟨addrK x.1, x.1.length, x.2, 1⟩
def ownedL (l : List ND) : List ND := (l.filter fun x => !decide (x.o = noOwn)).map fun x => ⟨x.a, x.n, x.o, 1⟩
def prs (l : List ND) : List (Key × Own) := (l.filter fun x => !decide (x.o = noOwn)).map fun x => (x.key, x.o)
theorem ownedL_prs {l : List ND} (hok : ∀ x ∈ l, x.OK) (hf : ∀ x ∈ l, x.fault = 0) : ownedL l = (prs l).map one := by
  unfold ownedL prs
  rw [List.map_map]
  refine List.map_congr_left fun x hx => ?_
  have hx := (List.mem_filter.1 hx).1
  obtain ⟨h1, h2, h3⟩ := ND.keyed (hok x hx).a0 (hok x hx).a1 (hf x hx)
  simp only [Function.comp, one, ← h2, ← h3]
theorem prs_short {l : List ND} (hok : ∀ x ∈ l, x.OK) (hf : ∀ x ∈ l, x.fault = 0) : ∀ x ∈ prs l, x.1.length ≤ 32 := by
  intro x hx
  unfold prs at hx
  obtain ⟨y, hy, rfl⟩ := List.mem_map.1 hx
  have hy := (List.mem_filter.1 hy).1
  exact (ND.keyed (hok y hy).a0 (hok y hy).a1 (hf y hy)).1
theorem prs_own {l : List ND} : ∀ x ∈ prs l, x.2 ≠ noOwn := by
  intro x hx
  unfold prs at hx
  obtain ⟨y, hy, rfl⟩ := List.mem_map.1 hx
  have := (List.mem_filter.1 hy).2
  simpa using this
theorem ownedL_nodes : ∀ {t : TR}, ownedL t.list = t.pairs.map one
  | .nil => rfl
  | .nd p o l r => by
    have e : ∀ a b : List ND, ownedL (a ++ b) = ownedL a ++ ownedL b := fun a b => by simp [ownedL]
    have e1 : ownedL [⟨addrK p, p.length, o, (((l.list ++ r.list).length + 1 : Nat) : Int)⟩] = (ownP p o).map one := by
      unfold ownedL ownP
      by_cases ho : o = noOwn <;> simp [ho, one]
    rw [TR.list_nd, TR.pairs, List.map_append, List.map_append, ← ownedL_nodes, ← ownedL_nodes, ← e1]
    conv => lhs; rw [← List.singleton_append]
    rw [e, e]
theorem prs_nodes : ∀ {t : TR}, t.short → prs t.list = t.pairs
  | .nil, _ => rfl
  | .nd p o l r, hs => by
    have e : ∀ a b : List ND, prs (a ++ b) = prs a ++ prs b := fun a b => by simp [prs]
    have e1 : prs [⟨addrK p, p.length, o, (((l.list ++ r.list).length + 1 : Nat) : Int)⟩] = ownP p o := by
      have hk : ND.key ⟨addrK p, p.length, o, (((l.list ++ r.list).length + 1 : Nat) : Int)⟩ = p := addr_key p hs.1
      unfold prs ownP
      by_cases ho : o = noOwn
      · simp [ho]
      · simp only [ho, decide_false, Bool.not_false, List.filter_cons, if_true, List.filter_nil, List.map_cons, List.map_nil, if_false]
        rw [hk]
    rw [TR.list_nd, TR.pairs, ← prs_nodes hs.2.1, ← prs_nodes hs.2.2, ← e1]
    conv => lhs; rw [← List.singleton_append]
    rw [e, e]
theorem TR.list_ok : ∀ {t : TR}, t.short → (∀ x ∈ t.pairs, x.2.size ≤ 140737488351232) → t.list.length ≤ 4611686018427387904 → ∀ x ∈ t.list, x.OK
  | .nil, _, _, _, x, h => by cases h
  | .nd p o l r, hs, ho, hz, x, h => by
    have hpo : o.size ≤ 140737488351232 := by
      by_cases e : o = noOwn
      · subst e; decide
      · exact ho (p, o) (by simp [TR.pairs, ownP_ne e])
    rw [TR.list_nd] at h hz
    have hz' := hz
    simp only [List.length_cons, List.length_append] at hz'
    rcases List.mem_cons.1 h with rfl | h
    · obtain ⟨b0, b1⟩ := addrK_bd p hs.1
      have := hs.1
      constructor <;> simp only [List.length_append] <;> omega
    · rcases List.mem_append.1 h with h | h
      · exact TR.list_ok hs.2.1 (fun x hx => ho x (by simp [TR.pairs, hx])) (by omega) x h
      · exact TR.list_ok hs.2.2 (fun x hx => ho x (by simp [TR.pairs, hx])) (by omega) x h

/-! both checks -/
def isTrie (l : List ND) (t : TR) : Prop := t.valid ∧ t.short ∧ l = t.list
theorem TR.pairs_nodup : ∀ {t : TR}, t.valid → (t.pairs.map Prod.fst).Nodup
  | .nil, _ => List.nodup_nil
  | .nd p o l r, hv => by
    obtain ⟨h1, h2, h3, h4, h5⟩ := hv
    have i1 := TR.pairs_nodup h1
    have i2 := TR.pairs_nodup h2
    have bl : ∀ x ∈ l.pairs, p ++ [false] <+: x.1 := TR.pairs_below h1 h3
    have br : ∀ x ∈ r.pairs, p ++ [true] <+: x.1 := TR.pairs_below h2 h4
    rw [TR.pairs, List.map_append, List.map_append]
    refine List.nodup_append.2 ⟨?_, List.nodup_append.2 ⟨i1, i2, ?_⟩, ?_⟩
    · unfold ownP; split <;> simp
    · intro a ha b hb e
      obtain ⟨x, hx, rfl⟩ := List.mem_map.1 ha
      obtain ⟨y, hy, rfl⟩ := List.mem_map.1 hb
      have q1 := pre_bit (bl x hx)
      have q2 := pre_bit (br y hy)
      rw [e, q2] at q1; cases q1
    · intro a ha b hb e
      obtain ⟨x, hx, rfl⟩ := List.mem_map.1 ha
      obtain ⟨rfl, _⟩ := ownP_mem hx
      rcases List.mem_append.1 hb with hb | hb
      · obtain ⟨y, hy, rfl⟩ := List.mem_map.1 hb
        exact ne_of_snoc (bl y hy) e.symm
      · obtain ⟨y, hy, rfl⟩ := List.mem_map.1 hb
        exact ne_of_snoc (br y hy) e.symm
theorem TR.short_of : ∀ {t : TR}, t.valid → (∀ x ∈ t.pairs, x.1.length ≤ 32) → t.short
  | .nil, _, _ => trivial
  | .nd p o l r, hv, h => by
    obtain ⟨x, hx⟩ := TR.pairs_ne hv (by simp)
    refine ⟨Nat.le_trans (TR.root_pre hv x hx).length_le (h x hx), TR.short_of hv.1 fun x hx => h x (by simp [TR.pairs, hx]), TR.short_of hv.2.1 fun x hx => h x (by simp [TR.pairs, hx])⟩
theorem TR.pairs_short : ∀ {t : TR}, t.short → ∀ x ∈ t.pairs, x.1.length ≤ 32
  | .nil, _, x, h => by cases h
  | .nd p o l r, hs, x, h => by
    simp only [TR.pairs, List.mem_append] at h
    rcases h with h | h | h
    · obtain ⟨rfl, _⟩ := ownP_mem h; exact hs.1
    · exact TR.pairs_short hs.2.1 x h
    · exact TR.pairs_short hs.2.2 x h
/-- the list that owned nets grow to -/
def grownL (K : List (Key × Own)) : List ND := (grownF K.length K).map toND
theorem grownL_tree {t : TR} {K : List (Key × Own)} (hv : t.valid) (hp : K.Perm t.pairs) : grownL K = t.list := by
  unfold grownL; rw [grownF_tree hv hp (Nat.le_refl _)]; rfl
theorem isTrie_grown {l : List ND} (hok : ∀ x ∈ l, x.OK) (hf : ∀ x ∈ l, x.fault = 0) : (∃ t, isTrie l t) ↔ ((prs l).map Prod.fst).Nodup ∧ grownL (prs l) = l := by
  constructor
  · rintro ⟨t, hv, hs, rfl⟩
    rw [prs_nodes hs]
    exact ⟨TR.pairs_nodup hv, grownL_tree hv (List.Perm.refl _)⟩
  · rintro ⟨hd, hg⟩
    obtain ⟨t, hv, hp⟩ := tree_of _ (prs l) (Nat.le_refl _) hd prs_own
    refine ⟨t, hv, TR.short_of hv fun x hx => prs_short hok hf x (hp.mem_iff.2 hx), ?_⟩
    rw [← hg]; exact grownL_tree hv hp
theorem isTrie_grow {l : List ND} (hok : ∀ x ∈ l, x.OK) (hne : l ≠ []) : (∃ t, isTrie l t) ↔ ∃ t, growF l.length l = some (t, []) := by
  constructor
  · rintro ⟨t, hv, hs, rfl⟩
    have := growF_full (t := t) (n := t.list.length) (rest := []) ⟨hv, hs, fun e => by subst e; exact hne rfl⟩ (Nat.le_refl _)
    rw [List.append_nil] at this
    exact ⟨t, this⟩
  · rintro ⟨t, h⟩
    obtain ⟨⟨hv, hs, _⟩, hl⟩ := growF_sound hok h
    exact ⟨t, hv, hs, by simpa using hl⟩
end Go.Proofs.YtgpleldhddpcgaaGreatDoor
/-! Tries: what the references do with lists of owned nets is what is done with trees. -/
namespace Go.Proofs.YtgpleldhddpcgaaGreatDoor
set_option linter.unusedVariables false
set_option linter.unusedSimpArgs false

theorem strip_grown {t : TR} (is : Key → Own → Bool) (hv : t.valid) : grownL (t.pairs.filter fun x => !is x.1 x.2) = (t.strip is).list := by
  rw [← TR.strip_pairs is t]
  exact grownL_tree (TR.strip_valid is hv).1 (List.Perm.refl _)
theorem strip_short {t : TR} (is : Key → Own → Bool) (hv : t.valid) (hs : t.short) : (t.strip is).short :=
  TR.short_of (TR.strip_valid is hv).1 fun x hx => by
    rw [TR.strip_pairs] at hx
    exact TR.pairs_short hs x ((List.mem_filter.1 hx).1)
theorem put_short {t : TR} {n : Key} {o : Own} (hv : t.valid) (hs : t.short) (hn : n.length ≤ 32) (ho : o ≠ noOwn) : (t.put n o).short :=
  TR.short_of (TR.put_valid hv ho).1 fun x hx => by
    have := (TR.put_pairs (n := n) (o := o) hv ho).mem_iff.1 hx
    rcases List.mem_cons.1 this with rfl | h
    · exact hn
    · exact TR.pairs_short hs x ((List.mem_filter.1 h).1)
theorem put_grown {t : TR} {n : Key} {o : Own} (hv : t.valid) (ho : o ≠ noOwn) :
    grownL ((t.strip fun p _ => decide (p = n)).pairs ++ [(n, o)]) = (t.put n o).list := by
  refine grownL_tree (TR.put_valid hv ho).1 ?_
  rw [TR.strip_pairs]
  refine (List.perm_append_singleton _ _).trans ?_
  exact (TR.put_pairs hv ho).symm

def refGet (n : Key) : List (Key × Own) → Own
  | [] => noOwn
  | x :: l => if x.1 = n then x.2 else refGet n l
theorem refGet_none {n : Key} : ∀ {l : List (Key × Own)}, (∀ x ∈ l, x.1 ≠ n) → refGet n l = noOwn
  | [], _ => rfl
  | x :: l, h => by rw [refGet, if_neg (h x (by simp)), refGet_none fun y hy => h y (by simp [hy])]
theorem refGet_mem {n : Key} : ∀ {l : List (Key × Own)}, (∃ x ∈ l, x.1 = n) → (n, refGet n l) ∈ l
  | [], h => by obtain ⟨x, hx, _⟩ := h; cases hx
  | x :: l, h => by
    rw [refGet]
    by_cases hx : x.1 = n
    · rw [if_pos hx]; subst hx; simp
    · rw [if_neg hx]
      obtain ⟨y, hy, e⟩ := h
      rcases List.mem_cons.1 hy with rfl | hy
      · exact absurd e hx
      · exact List.mem_cons_of_mem _ (refGet_mem ⟨y, hy, e⟩)
theorem get_ref {t : TR} (hv : t.valid) (n : Key) : t.get n = refGet n t.pairs := by
  by_cases h : ∃ x ∈ t.pairs, x.1 = n
  · have h1 := refGet_mem h
    exact (TR.get_pairs hv (TR.pairs_own _ h1)).2 h1
  · have h0 : ∀ x ∈ t.pairs, x.1 ≠ n := fun x hx e => h ⟨x, hx, e⟩
    rw [refGet_none h0]
    by_cases ho : t.get n = noOwn
    · exact ho
    · exact absurd rfl (h0 _ ((TR.get_pairs (n := n) (o := t.get n) hv ho).1 rfl))
theorem foldR_cases {n : Key} : ∀ (l : List (Key × Own)) (s : Own × Int), foldR n s l = s ∨ ∃ x ∈ l, foldR n s l = (x.2, (x.1.length : Int))
  | [], s => .inl rfl
  | x :: l, s => by
    have e : foldR n s (x :: l) = foldR n (if x.1 <+: n ∧ s.2 < (x.1.length : Int) then (x.2, (x.1.length : Int)) else s) l := rfl
    rw [e]
    by_cases hc : x.1 <+: n ∧ s.2 < (x.1.length : Int)
    · rw [if_pos hc]
      rcases foldR_cases l (x.2, (x.1.length : Int)) with h | ⟨y, hy, h⟩
      · exact .inr ⟨x, by simp, h⟩
      · exact .inr ⟨y, by simp [hy], h⟩
    · rw [if_neg hc]
      rcases foldR_cases l s with h | ⟨y, hy, h⟩
      · exact .inl h
      · exact .inr ⟨y, by simp [hy], h⟩
theorem find_ref {t : TR} (hv : t.valid) (q : Key) : (foldR q (noOwn, -1) t.pairs).1 = t.find q noOwn ∧ ((foldR q (noOwn, -1) t.pairs).2 < 0 ↔ t.find q noOwn = noOwn) := by
  obtain ⟨h1, h2, h3⟩ := TR.find_pairs (n := q) (a := noOwn) (m := -1) hv fun x hx => by omega
  refine ⟨h1, ?_⟩
  rw [← h1]
  constructor
  · intro h
    rw [(h3 (by omega)).1]
  · intro h
    rcases foldR_cases t.pairs (noOwn, -1) (n := q) with e | ⟨x, hx, e⟩
    · rw [e]; decide
    · rw [e] at h
      exact absurd h (TR.pairs_own x hx)
theorem foldR_take {q : Key} {l : List (Key × Own)} {i : Nat} {x : Key × Own} (h : l[i]? = some x) (s : Own × Int) :
    foldR q s (l.take (i + 1)) = if x.1 <+: q ∧ (foldR q s (l.take i)).2 < (x.1.length : Int) then (x.2, (x.1.length : Int)) else foldR q s (l.take i) := by
  obtain ⟨hi, rfl⟩ := List.getElem?_eq_some_iff.1 h
  rw [List.take_succ_eq_append_getElem hi, foldR_app]
  rfl
theorem foldR_bd {q : Key} {l : List (Key × Own)} (hl : ∀ x ∈ l, x.1.length ≤ 32) : ∀ s : Own × Int, -1 ≤ s.2 → s.2 ≤ 32 → -1 ≤ (foldR q s l).2 ∧ (foldR q s l).2 ≤ 32 := fun s h1 h2 => by
  rcases foldR_cases l s (n := q) with e | ⟨x, hx, e⟩
  · rw [e]; exact ⟨h1, h2⟩
  · rw [e]; have := hl x hx; exact ⟨by simp only; omega, by simp only; omega⟩
/-! lists bit by bit -/
theorem rootOwn_take {top : Key} {M : List (Key × Own)} {i : Nat} {x : Key × Own} (h : M[i]? = some x) : rootOwn top (M.take (i + 1)) = if x.1 = top then x.2 else rootOwn top (M.take i) := by
  obtain ⟨hi, rfl⟩ := List.getElem?_eq_some_iff.1 h
  unfold rootOwn
  rw [List.take_succ_eq_append_getElem hi, List.foldl_append]; rfl
theorem sideL_take {top : Key} {b : Bool} {M : List (Key × Own)} {i : Nat} {x : Key × Own} (h : M[i]? = some x) : sideL top b (M.take (i + 1)) = sideL top b (M.take i) ++ if x.1 ≠ top ∧ bitAt x.1 top.length = b then [x] else [] := by
  obtain ⟨hi, rfl⟩ := List.getElem?_eq_some_iff.1 h
  unfold sideL
  rw [List.take_succ_eq_append_getElem hi, List.filter_append]
  congr 1
  simp only [List.filter_cons, List.filter_nil]
  by_cases h1 : M[i].1 = top <;> by_cases h2 : bitAt M[i].1 top.length = b <;> simp [h1, h2]
theorem joinK_take {p : Key} {M : List (Key × Own)} {i : Nat} {x : Key × Own} (h : M[i]? = some x) : joinK p ((M.take (i + 1)).map Prod.fst) = lcpL (joinK p ((M.take i).map Prod.fst)) x.1 := by
  obtain ⟨hi, rfl⟩ := List.getElem?_eq_some_iff.1 h
  unfold joinK
  rw [List.take_succ_eq_append_getElem hi, List.map_append, List.foldl_append]; rfl
theorem ownedL_take {l : List ND} {i : Nat} {x : ND} (h : l[i]? = some x) : ownedL (l.take (i + 1)) = ownedL (l.take i) ++ if x.o ≠ noOwn then [⟨x.a, x.n, x.o, 1⟩] else [] := by
  obtain ⟨hi, rfl⟩ := List.getElem?_eq_some_iff.1 h
  unfold ownedL
  rw [List.take_succ_eq_append_getElem hi, List.filter_append, List.map_append]
  congr 1
  simp only [List.filter_cons, List.filter_nil]
  by_cases h1 : l[i].o = noOwn <;> simp [h1]
theorem ownedL_len (l : List ND) : (ownedL l).length ≤ l.length := by
  unfold ownedL; rw [List.length_map]; exact List.length_filter_le _ _
theorem take_len {α : Type} (l : List α) (i : Nat) : (l.take i).length ≤ l.length := by rw [List.length_take]; omega

end Go.Proofs.YtgpleldhddpcgaaGreatDoor
