/- Tries: lists of nodes and trees; what grows of a list. -/
import Derived.Test.YtckkmfoccefcfaaTr3
namespace Go.Proofs.Ytckkmfoccefcfaa
set_option linter.unusedVariables false
set_option linter.unusedSimpArgs false

/-- a node of a list: address, bits, owner, size -/
structure ND where
  a : Int
  n : Int
  o : ByteArray
  s : Int
theorem ND.ext' {x y : ND} (h1 : x.a = y.a) (h2 : x.n = y.n) (h3 : x.o = y.o) (h4 : x.s = y.s) : x = y := by
  cases x; cases y; simp at h1 h2 h3 h4; subst h1; subst h2; subst h3; subst h4; rfl
def ND.pv (x : ND) : List PV := [.v (.int .u32 x.a), .v (.int .i64 x.n), .v (.string x.o), .v (.int .i64 x.s)]
structure ND.OK (x : ND) : Prop where
  a0 : 0 ≤ x.a
  a1 : x.a < 4294967296
  n0 : -9223372036854775808 ≤ x.n
  n1 : x.n ≤ 9223372036854775807
  s0 : -9223372036854775808 ≤ x.s
  s1 : x.s ≤ 9223372036854775807
  oz : x.o.size ≤ 140737488351232
def ND.fault (x : ND) : Int := netFault x.a x.n
def ND.key (x : ND) : Key := keyOf x.a.toNat x.n.toNat
def toND (x : Nd) : ND := ⟨addrK x.1, x.1.length, x.2.1, x.2.2⟩
def TR.list (t : TR) : List ND := t.nodes.map toND
def TR.short : TR → Prop
  | .nil => True
  | .nd p _ l r => p.length ≤ 32 ∧ l.short ∧ r.short
theorem TR.list_nil : TR.nil.list = [] := rfl
theorem TR.list_nd (p : Key) (o : Own) (l r : TR) : (TR.nd p o l r).list = ⟨addrK p, p.length, o, (((l.list ++ r.list).length + 1 : Nat) : Int)⟩ :: (l.list ++ r.list) := by
  simp only [TR.list, TR.nodes, List.map_cons, List.map_append, toND, List.length_append, List.length_map]
  congr 2
  omega
theorem addr_key (p : Key) (hp : p.length ≤ 32) : keyOf (addrK p).toNat ((p.length : Nat) : Int).toNat = p := by
  have h1 : (addrK p).toNat = addrN p := by unfold addrK; omega
  rw [h1, Int.toNat_natCast]
  refine valK_inj (keyOf_len _ _) ?_
  rw [keyOf_val _ _ (addrN_lt p hp) hp, addrN_div p _ hp (Nat.le_refl _), List.take_length]
theorem ND.keyed {x : ND} (h0 : 0 ≤ x.a) (h1 : x.a < 4294967296) (hf : x.fault = 0) : x.key.length ≤ 32 ∧ x.a = addrK x.key ∧ x.n = (x.key.length : Int) := by
  obtain ⟨p, hp, ha, hn⟩ := net_key h0 h1 hf
  have : x.key = p := by unfold ND.key; rw [ha, hn]; exact addr_key p hp
  rw [this]; exact ⟨hp, ha, hn⟩
theorem TR.list_fault : ∀ {t : TR}, t.short → ∀ x ∈ t.list, x.fault = 0
  | .nil, _, x, h => by cases h
  | .nd p o l r, hs, x, h => by
    rw [TR.list_nd] at h
    rcases List.mem_cons.1 h with rfl | h
    · exact fault_addr p hs.1
    · rcases List.mem_append.1 h with h | h
      · exact TR.list_fault hs.2.1 x h
      · exact TR.list_fault hs.2.2 x h

/-- may a net stand below another one -/
def belowB (p q : Key) : Bool := decide (p.length < q.length) && decide (p <+: q)
theorem belowB_iff {p q : Key} : belowB p q = true ↔ p ++ [bitAt q p.length] <+: q := by
  unfold belowB
  simp only [Bool.and_eq_true, decide_eq_true_eq]
  constructor
  · rintro ⟨h1, h2⟩
    exact pre_next h2 fun e => by rw [e] at h1; omega
  · intro h
    have h1 := h.length_le
    simp at h1
    exact ⟨by omega, pre_of_snoc h⟩

def kidsF (g : List ND → Option (TR × List ND)) (p : Key) : Nat → TR → TR → List ND → Option (TR × TR)
  | _, k0, k1, [] => some (k0, k1)
  | 0, _, _, _ :: _ => none
  | m + 1, k0, k1, x :: l =>
    match g (x :: l) with
    | some (.nd q o a b, more) =>
      if belowB p q = true then
        if bitAt q p.length = true then (if k1.isNil = true then kidsF g p m k0 (.nd q o a b) more else none)
        else (if k0.isNil = true ∧ k1.isNil = true then kidsF g p m (.nd q o a b) k1 more else none)
      else none
    | _ => none
def growTop (p : Key) (o : Own) (rest : List ND) : Option (TR × TR) → Option (TR × List ND)
  | none => none
  | some (k0, k1) => if o = noOwn ∧ (k0.isNil = true ∨ k1.isNil = true) then none else some (.nd p o k0 k1, rest)
theorem growTop_no {p : Key} {o : Own} {rest : List ND} {k0 k1 : TR} (h : o = noOwn ∧ (k0.isNil = true ∨ k1.isNil = true)) : growTop p o rest (some (k0, k1)) = none := by simp only [growTop]; rw [if_pos h]
theorem growTop_yes {p : Key} {o : Own} {rest : List ND} {k0 k1 : TR} (h : ¬ (o = noOwn ∧ (k0.isNil = true ∨ k1.isNil = true))) : growTop p o rest (some (k0, k1)) = some (.nd p o k0 k1, rest) := by simp only [growTop]; rw [if_neg h]
def growF : Nat → List ND → Option (TR × List ND)
  | 0, _ => none
  | _ + 1, [] => none
  | n + 1, x :: l =>
    if x.s < 1 ∨ ((l.length + 1 : Nat) : Int) < x.s ∨ x.fault ≠ 0 then none
    else growTop x.key x.o (l.drop (x.s.toNat - 1)) (kidsF (growF n) x.key (l.take (x.s.toNat - 1)).length .nil .nil (l.take (x.s.toNat - 1)))

def GoodT (t : TR) : Prop := t.valid ∧ t.short ∧ t ≠ .nil
theorem kidsF_sound {g : List ND → Option (TR × List ND)} {p : Key} (hg : ∀ l t rest, (∀ x ∈ l, x.OK) → g l = some (t, rest) → GoodT t ∧ l = t.list ++ rest) :
    ∀ {m : Nat} {k0 k1 : TR} {l : List ND} {r0 r1 : TR}, (∀ x ∈ l, x.OK) → kidsF g p m k0 k1 l = some (r0, r1) → (k0.valid ∧ k0.short ∧ k0.under (p ++ [false])) → (k1.valid ∧ k1.short ∧ k1.under (p ++ [true])) →
      (r0.valid ∧ r0.short ∧ r0.under (p ++ [false])) ∧ (r1.valid ∧ r1.short ∧ r1.under (p ++ [true])) ∧ k0.list ++ k1.list ++ l = r0.list ++ r1.list
  | m, k0, k1, [], r0, r1, _, h, h0, h1 => by
    cases m <;> (simp only [kidsF, Option.some.injEq, Prod.mk.injEq] at h; obtain ⟨rfl, rfl⟩ := h; exact ⟨h0, h1, by simp⟩)
  | 0, k0, k1, _ :: _, r0, r1, _, h, _, _ => by simp [kidsF] at h
  | m + 1, k0, k1, x :: l, r0, r1, hok, h, h0, h1 => by
    simp only [kidsF] at h
    split at h
    · rename_i q o a b more hq
      obtain ⟨hgt, hl⟩ := hg _ _ _ hok hq
      have hmore : ∀ x ∈ more, x.OK := fun y hy => hok y (by rw [hl]; exact List.mem_append.2 (.inr hy))
      split at h
      · rename_i hb
        have hb' := belowB_iff.1 hb
        split at h
        · rename_i hbit
          rw [hbit] at hb'
          split at h
          · rename_i hn
            rw [TR.isNil_iff] at hn
            subst hn
            obtain ⟨a1, a2, a3⟩ := kidsF_sound hg hmore h h0 ⟨hgt.1, hgt.2.1, hb'⟩
            refine ⟨a1, a2, ?_⟩
            rw [← a3, hl, TR.list_nil]
            simp
          · cases h
        · rename_i hbit
          have hbit' : bitAt q p.length = false := by simpa using hbit
          rw [hbit'] at hb'
          split at h
          · rename_i hn
            rw [TR.isNil_iff, TR.isNil_iff] at hn
            obtain ⟨rfl, rfl⟩ := hn
            obtain ⟨a1, a2, a3⟩ := kidsF_sound hg hmore h ⟨hgt.1, hgt.2.1, hb'⟩ h1
            refine ⟨a1, a2, ?_⟩
            rw [← a3, hl, TR.list_nil]
            simp
          · cases h
      · cases h
    · cases h
theorem growF_sound : ∀ {n : Nat} {l : List ND} {t : TR} {rest : List ND}, (∀ x ∈ l, x.OK) → growF n l = some (t, rest) → GoodT t ∧ l = t.list ++ rest
  | 0, l, t, rest, _, h => by simp [growF] at h
  | n + 1, [], t, rest, _, h => by simp [growF] at h
  | n + 1, x :: l, t, rest, hok, h => by
    simp only [growF] at h
    split at h
    · cases h
    · rename_i hc
      simp only [not_or, Int.not_lt] at hc
      obtain ⟨c1, c2, c3⟩ := hc
      have c3 : x.fault = 0 := Decidable.not_not.1 c3
      cases hk : kidsF (growF n) x.key (l.take (x.s.toNat - 1)).length .nil .nil (l.take (x.s.toNat - 1)) with
      | none => rw [hk] at h; cases h
      | some r =>
        obtain ⟨k0, k1⟩ := r
        rw [hk] at h
        simp only [growTop] at h
        split at h
        · cases h
        · rename_i hn
          simp only [Option.some.injEq, Prod.mk.injEq] at h
          obtain ⟨rfl, rfl⟩ := h
          have hx := hok x (by simp)
          obtain ⟨q1, q2, q3⟩ := ND.keyed hx.a0 hx.a1 c3
          have hmine : ∀ y ∈ l.take (x.s.toNat - 1), y.OK := fun y hy => hok y (List.mem_cons_of_mem _ (List.mem_of_mem_take hy))
          obtain ⟨a1, a2, a3⟩ := kidsF_sound (fun l t rest => growF_sound) hmine hk ⟨trivial, trivial, trivial⟩ ⟨trivial, trivial, trivial⟩
          simp only [TR.list_nil, List.nil_append] at a3
          refine ⟨⟨⟨a1.1, a2.1, a1.2.2, a2.2.2, fun e => ?_⟩, ⟨q1, a1.2.1, a2.2.1⟩, by simp⟩, ?_⟩
          · simp only [not_and, not_or] at hn
            obtain ⟨u1, u2⟩ := hn e
            exact ⟨fun e => u1 (TR.isNil_iff.2 e), fun e => u2 (TR.isNil_iff.2 e)⟩
          · rw [TR.list_nd, ← a3, List.cons_append, List.take_append_drop]
            congr 1
            refine ND.ext' q2 q3 rfl ?_
            simp only [List.length_take]
            omega
theorem kidsF_one {g : List ND → Option (TR × List ND)} {p q : Key} {o : Own} {a b k0 k1 : TR} {m : Nat} {l more : List ND} (hl : l ≠ []) (hg : g l = some (.nd q o a b, more)) (hb : belowB p q = true) :
    kidsF g p (m + 1) k0 k1 l = if bitAt q p.length = true then (if k1.isNil = true then kidsF g p m k0 (.nd q o a b) more else none) else (if k0.isNil = true ∧ k1.isNil = true then kidsF g p m (.nd q o a b) k1 more else none) := by
  cases l with
  | nil => exact absurd rfl hl
  | cons x l => simp only [kidsF, hg, hb, if_true]
theorem kidsF_end {g : List ND → Option (TR × List ND)} {p : Key} {m : Nat} {k0 k1 : TR} : kidsF g p m k0 k1 [] = some (k0, k1) := by cases m <;> simp [kidsF]
theorem TR.list_ne {t : TR} (h : t ≠ .nil) : t.list ≠ [] := by
  cases t with
  | nil => exact absurd rfl h
  | nd p o l r => rw [TR.list_nd]; simp
theorem under_below {p : Key} {b : Bool} {q : Key} {o : Own} {l r : TR} (h : (TR.nd q o l r).under (p ++ [b])) : belowB p q = true ∧ bitAt q p.length = b := by
  have hb : bitAt q p.length = b := pre_bit h
  exact ⟨belowB_iff.2 (by rw [hb]; exact h), hb⟩
theorem growF_full : ∀ {t : TR} {n : Nat} {rest : List ND}, GoodT t → t.list.length ≤ n → growF n (t.list ++ rest) = some (t, rest)
  | .nil, n, rest, h, _ => absurd rfl h.2.2
  | .nd p o l r, 0, rest, h, hn => by rw [TR.list_nd] at hn; simp at hn
  | .nd p o l r, n + 1, rest, h, hn => by
    obtain ⟨⟨v1, v2, v3, v4, v5⟩, ⟨s0, s1, s2⟩, _⟩ := h
    have hkey : ND.key ⟨addrK p, p.length, o, (((l.list ++ r.list).length + 1 : Nat) : Int)⟩ = p := addr_key p s0
    have hf : ND.fault ⟨addrK p, p.length, o, (((l.list ++ r.list).length + 1 : Nat) : Int)⟩ = 0 := fault_addr p s0
    have hlen : l.list.length + r.list.length ≤ n := by rw [TR.list_nd] at hn; simp at hn; exact hn
    have ht : ((l.list ++ r.list) ++ rest).take ((((l.list ++ r.list).length + 1 : Nat) : Int).toNat - 1) = l.list ++ r.list := by
      rw [show (((l.list ++ r.list).length + 1 : Nat) : Int).toNat - 1 = (l.list ++ r.list).length by omega, List.take_left']
      rfl
    have hd : ((l.list ++ r.list) ++ rest).drop ((((l.list ++ r.list).length + 1 : Nat) : Int).toNat - 1) = rest := by
      rw [show (((l.list ++ r.list).length + 1 : Nat) : Int).toNat - 1 = (l.list ++ r.list).length by omega, List.drop_left']
      rfl
    rw [TR.list_nd, List.cons_append, growF, if_neg (by
      rintro (h | h | h)
      · have h' : (((l.list ++ r.list).length + 1 : Nat) : Int) < 1 := h
        omega
      · have h' : ((((l.list ++ r.list) ++ rest).length + 1 : Nat) : Int) < (((l.list ++ r.list).length + 1 : Nat) : Int) := h
        have e9 : ((l.list ++ r.list) ++ rest).length = (l.list ++ r.list).length + rest.length := List.length_append
        rw [e9] at h'
        omega
      · exact h hf)]
    simp only [hkey, ht, hd]
    have hk : kidsF (growF n) p (l.list ++ r.list).length .nil .nil (l.list ++ r.list) = some (l, r) := by
      have hr : ∀ (m : Nat) (k0 : TR), r.list.length ≤ m → kidsF (growF n) p m k0 .nil r.list = some (k0, r) := fun m k0 hm => by
        cases r with
        | nil => rw [TR.list_nil]; exact kidsF_end
        | nd q o' a b =>
          have hne : (TR.nd q o' a b).list ≠ [] := TR.list_ne (by simp)
          obtain ⟨u1, u2⟩ := under_below v4
          have hg := growF_full (t := .nd q o' a b) (n := n) (rest := []) ⟨v2, s2, by simp⟩ (by omega)
          rw [List.append_nil] at hg
          cases m with
          | zero => exact absurd (List.eq_nil_of_length_eq_zero (by omega)) hne
          | succ m => rw [kidsF_one hne hg u1, if_pos u2]; simp only [TR.isNil, if_true]; exact kidsF_end
      cases l with
      | nil => rw [TR.list_nil, List.nil_append]; exact hr _ _ (Nat.le_refl _)
      | nd q o' a b =>
        have hne : (TR.nd q o' a b).list ≠ [] := TR.list_ne (by simp)
        obtain ⟨u1, u2⟩ := under_below v3
        have hg := growF_full (t := .nd q o' a b) (n := n) (rest := r.list) ⟨v1, s1, by simp⟩ (by omega)
        have hpos := List.length_pos_iff.2 hne
        obtain ⟨m, hm⟩ : ∃ m, ((TR.nd q o' a b).list ++ r.list).length = m + 1 := ⟨((TR.nd q o' a b).list ++ r.list).length - 1, by rw [List.length_append]; omega⟩
        rw [hm, kidsF_one (by simp [hne]) hg u1, if_neg (by simp [u2])]
        simp only [TR.isNil, and_self, if_true]
        exact hr m _ (by rw [List.length_append] at hm; omega)
    rw [hk]
    refine growTop_yes ?_
    rintro ⟨e, h⟩
    obtain ⟨w1, w2⟩ := v5 e
    rcases h with h | h
    · exact w1 (TR.isNil_iff.1 h)
    · exact w2 (TR.isNil_iff.1 h)
end Go.Proofs.Ytckkmfoccefcfaa
