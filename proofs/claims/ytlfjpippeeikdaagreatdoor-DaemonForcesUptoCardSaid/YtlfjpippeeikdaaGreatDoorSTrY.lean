/- Nets and lists of bits. Tries: lists of nodes and trees; what grows of a list. Tries: owned nets, the tree that they grow to, both checks are one. Tries: what the references do with lists of owned nets is what is done with trees. -/
import Derived.Test.YtlfjpippeeikdaaGreatDoorSNetY
set_option linter.all false
namespace Go.Proofs.YtlfjpippeeikdaaGreatDoor
def valK (p : Key) : Nat := p.foldl (fun a b => 2 * a + b.toNat) 0
theorem valK_go (p : Key) (a : Nat) : p.foldl (fun a b => 2 * a + b.toNat) a = a * 2 ^ p.length + valK p := by
 unfold valK
 induction p generalizing a with
 | nil => simp
 | cons b p ih =>
  rw [List.foldl_cons, ih, List.foldl_cons, ih (2 * 0 + b.toNat), qaO, qb5, qbx]
  have e0 : 2 * 0 + b.toNat = b.toNat := qk
  rw [e0]
  have : 2 * a * 2 ^ p.length = a * (2 ^ p.length * 2) := by rw [qb6 2 a, Nat.mul_assoc, qb6 2]
  omega
theorem zew (p q : Key) : valK (p ++ q) = valK p * 2 ^ q.length + valK q := by
 conv => lhs; unfold valK
 rw [qbJ]
 exact valK_go q _
theorem zgz (b : Bool) : valK [b] = b.toNat := by simp [valK]
theorem zh6 : ∀ p : Key, valK p < 2 ^ p.length := by
 intro p
 induction p with
 | nil => simp [valK]
 | cons b p ih =>
  have h := zew [b] p
  rw [qbN, zgz] at h
  rw [h, qaO, qb5]
  have : b.toNat * 2 ^ p.length ≤ 1 * 2 ^ p.length := qba _ (by cases b <;> decide)
  omega
theorem zh7 : ∀ {p q : Key}, p.length = q.length → valK p = valK q → p = q
 | [], [], _, _ => rfl
 | [], _ :: _, h, _ => by simp at h
 | _ :: _, [], h, _ => by simp at h
 | a :: p, b :: q, h, k => by
  have h' : p.length = q.length := by simpa using h
  have h1 := zew [a] p
  have h2 := zew [b] q
  rw [qbN, zgz] at h1 h2
  rw [h1, h2, h'] at k
  have l1 := zh6 p
  have l2 := zh6 q
  rw [h'] at l1
  have hab : a = b := by
   cases a <;> cases b <;> simp at k ⊢ <;> omega
  subst hab
  rw [zh7 h' (by omega)]
theorem valK_take (q : Key) (k : Nat) (h : k ≤ q.length) : valK (q.take k) = valK q / 2 ^ (q.length - k) := by
 have h1 := zew (q.take k) (q.drop k)
 rw [qa1, qaP] at h1
 have h2 := zh6 (q.drop k)
 rw [qaP] at h2
 rw [h1, qb6, Nat.mul_add_div (qbq _), Nat.div_eq_of_lt h2, qbi]
def zd1 (p : Key) : Nat := valK p * 2 ^ (32 - p.length)
def zau (p : Key) : Int := (zd1 p : Nat)
theorem addrN_lt (p : Key) (h : p.length ≤ 32) : zd1 p < 4294967296 := by
 have h1 := zh6 p
 have h2 : valK p * 2 ^ (32 - p.length) < 2 ^ p.length * 2 ^ (32 - p.length) := Nat.mul_lt_mul_of_pos_right h1 (qbq _)
 rw [← Nat.pow_add, show p.length + (32 - p.length) = 32 by omega] at h2
 exact h2
theorem zbk (p : Key) (h : p.length ≤ 32) : 0 ≤ zau p ∧ zau p < 4294967296 := by
 have := addrN_lt p h
 unfold zau; omega
theorem zhy (q : Key) (k : Nat) (hq : q.length ≤ 32) (hk : k ≤ q.length) : zd1 q / 2 ^ (32 - k) = valK (q.take k) := by
 rw [valK_take q k hk, zd1]
 have e : 32 - k = (q.length - k) + (32 - q.length) := qk
 rw [e, Nat.pow_add, qb6 (2 ^ (q.length - k)), ← Nat.div_div_eq_div_mul, Nat.mul_div_cancel _ (qbq _)]
theorem pow_toN (k : Nat) (hk : k ≤ 32) : ((2 : Int) ^ (32 - (k : Int)).toNat) = ((2 ^ (32 - k) : Nat) : Int) := by
 rw [show (32 - (k : Int)).toNat = 32 - k by omega]
 simp
theorem zfc (q : Key) (k : Nat) (hq : q.length ≤ 32) (hk : k ≤ q.length) : topI (zau q) k = zau (q.take k) := by
 unfold topI zau
 rw [pow_toN k (by omega)]
 have h1 := zhy q k hq hk
 have h2 : zd1 (q.take k) = valK (q.take k) * 2 ^ (32 - k) := by unfold zd1; rw [List.length_take, Nat.min_eq_left hk]
 have h3 := Nat.div_add_mod (zd1 q) (2 ^ (32 - k))
 rw [h2, ← h1, qb6]
 generalize zd1 q / 2 ^ (32 - k) = D at *
 generalize hM : 2 ^ (32 - k) = M at *
 have h4 : ((zd1 q : Nat) : Int) % ((M : Nat) : Int) = ((zd1 q % M : Nat) : Int) := qz
 rw [h4]
 have h5 : zd1 q % M ≤ zd1 q := Nat.mod_le _ _
 omega
theorem zbL (p : Key) (hp : p.length ≤ 32) : zap (zau p) p.length = 0 := by
 unfold zap
 rw [if_neg (by omega), if_pos]
 rw [pow_toN _ hp]
 unfold zau zd1
 simp
theorem zhz {p q : Key} (hp : p.length ≤ 32) (hl : p.length = q.length) (h : zau p = zau q) : p = q := by
 have h' : zd1 p = zd1 q := by unfold zau at h; omega
 unfold zd1 at h'
 rw [← hl] at h'
 exact zh7 hl (Nat.eq_of_mul_eq_mul_right (qbq _) h')
theorem pre_iff {p q : Key} : p <+: q ↔ p.length ≤ q.length ∧ q.take p.length = p := by
 constructor
 ·intro h; exact ⟨h.length_le, (List.prefix_iff_eq_take.1 h).symm⟩
 ·rintro ⟨_, h⟩; rw [← h]; exact List.take_prefix _ _
theorem top_pre (p q : Key) (hq : q.length ≤ 32) (hk : p.length ≤ q.length) : topI (zau q) p.length = zau p ↔ p <+: q := by
 rw [zfc q _ hq hk, pre_iff]
 constructor
 ·intro h
  have hl : (q.take p.length).length = p.length := by rw [List.length_take]; omega
  exact ⟨hk, zhz qk hl h⟩
 ·rintro ⟨_, h⟩; rw [h]
theorem holds_pre (p q : Key) (hp : p.length ≤ 32) (hq : q.length ≤ 32) : zby (zau p) p.length (zau q) q.length = decide (p <+: q) := by
 unfold zby zc4
 rw [zbL p hp, zbL q hq]
 simp only [true_and]
 by_cases hl : p.length ≤ q.length
 ·rw [show decide (((p.length : Nat) : Int) ≤ ((q.length : Nat) : Int)) = true by simp; omega, Bool.true_and]
  exact decide_eq_decide.2 (top_pre p q hq hl)
 ·rw [show decide (((p.length : Nat) : Int) ≤ ((q.length : Nat) : Int)) = false by simp; omega, Bool.false_and]
  symm
  rw [decide_eq_false_iff_not]
  intro h; exact hl h.length_le
def zhC (a n : Nat) : Key := (List.range n).map fun i => decide (a / 2 ^ (31 - i) % 2 = 1)
theorem zfq (a n : Nat) : (zhC a n).length = n := by simp [zhC]
theorem keyOf_val (a n : Nat) (ha : a < 4294967296) (hn : n ≤ 32) : valK (zhC a n) = a / 2 ^ (32 - n) := by
 induction n with
 | zero =>
  rw [qcb, Nat.div_eq_of_lt ha]; rfl
 | succ n ih =>
  have e : zhC a (n + 1) = zhC a n ++ [decide (a / 2 ^ (31 - n) % 2 = 1)] := by simp [zhC, List.range_succ]
  rw [e, zew, zgz, ih (by omega), List.length_singleton, Nat.pow_one]
  rw [show 32 - (n + 1) = 31 - n by omega, show 32 - n = (31 - n) + 1 by omega, qb5, ← Nat.div_div_eq_div_mul]
  generalize a / 2 ^ (31 - n) = x
  by_cases h : x % 2 = 1
  ·rw [decide_eq_true h]; simp; omega
  ·rw [decide_eq_false h]; simp; omega
theorem net_key {a n : Int} (h0 : 0 ≤ a) (h1 : a < 4294967296) (hf : zap a n = 0) : ∃ p : Key, p.length ≤ 32 ∧ a = zau p ∧ n = p.length := by
 obtain ⟨n0, n1, hm⟩ := zb5 hf
 obtain ⟨a, rfl⟩ := qaU h0
 obtain ⟨n, rfl⟩ := qaU n0
 refine ⟨zhC a n, by rw [zfq]; omega, ?_, by rw [zfq]⟩
 have ha : a < 4294967296 := qk
 rw [pow_toN n (by omega)] at hm
 have hm' : a % 2 ^ (32 - n) = 0 := by
  have h4 : ((a : Nat) : Int) % ((2 ^ (32 - n) : Nat) : Int) = ((a % 2 ^ (32 - n) : Nat) : Int) := qz
  rw [h4] at hm; omega
 unfold zau zd1
 rw [zfq, keyOf_val a n ha (by omega)]
 have := Nat.div_add_mod a (2 ^ (32 - n))
 rw [qb6] at this
 omega
theorem bit_key (q : Key) (i : Nat) (hq : q.length ≤ 32) (hi : i < q.length) : zau q / 2 ^ (31 - (i : Int)).toNat % 2 = if zbH q i = true then 1 else 0 := by
 have h1 := zhy q (i + 1) hq qk
 rw [show (31 - (i : Int)).toNat = 32 - (i + 1) by omega]
 have h2 : zau q / 2 ^ (32 - (i + 1)) = ((zd1 q / 2 ^ (32 - (i + 1)) : Nat) : Int) := by unfold zau; simp
 rw [h2, h1, qaM hi, zew, zgz]
 have e : zbH q i = q[i] := by unfold zbH; rw [List.getD_eq_getElem?_getD, List.getElem?_eq_getElem hi]; rfl
 rw [e]
 cases q[i] <;> simp <;> omega
theorem lcpL_len_iff (p q : Key) (k : Nat) (h1 : k ≤ p.length) (h2 : k ≤ q.length) : k ≤ (lcpL p q).length ↔ p.take k = q.take k := by
 constructor
 ·intro h
  have a1 := List.prefix_iff_eq_take.1 (zc6 p q)
  have a2 := List.prefix_iff_eq_take.1 (zcV p q)
  have b1 : p.take k = (lcpL p q).take k := by conv => rhs; rw [a1]
                                               rw [qbT, Nat.min_eq_left h]
  have b2 : q.take k = (lcpL p q).take k := by conv => rhs; rw [a2]
                                               rw [qbT, Nat.min_eq_left h]
  rw [b1, b2]
 ·intro h
  have := (zeC (List.take_prefix k p) (by rw [h]; exact List.take_prefix k q)).length_le
  rw [List.length_take] at this
  omega
theorem join_key (p q : Key) (hp : p.length ≤ 32) (hq : q.length ≤ 32) : joinE (zau p) p.length (zau q) q.length = 0 ∧ joinN (zau p) p.length (zau q) q.length = (lcpL p q).length ∧ joinA (zau p) p.length (zau q) q.length = zau (lcpL p q) := by
 have hE : joinE (zau p) p.length (zau q) q.length = 0 := by unfold joinE; rw [if_pos (zbL p hp)]; exact zbL q hq
 obtain ⟨b0, b1⟩ := zbk p hp
 obtain ⟨b2, b3⟩ := zbk q hq
 obtain ⟨c0, c1⟩ := lcp_bd (zau p) (zau q) b0 b1 b2 b3
 have key : ∀ k : Nat, k ≤ p.length → k ≤ q.length → (k ≤ (lcpL p q).length ↔ (k : Int) ≤ lcp (zau p) (zau q)) := fun k h1 h2 => by
  rw [lcpL_len_iff p q k h1 h2, ← zgQ (zau p) (zau q) k b0 b1 b2 b3 (by omega) (by omega), zfc p k hp h1, zfc q k hq h2]
  constructor
  ·intro h; rw [h]
  ·intro h
   exact (zhz qW (by rw [List.length_take, List.length_take]; omega) h).symm
 have l1 := (zc6 p q).length_le
 have l2 := (zcV p q).length_le
 have hJ : min (min (p.length : Int) (q.length : Int)) (lcp (zau p) (zau q)) = ((lcpL p q).length : Int) := by
  have k1 := (key (lcpL p q).length l1 l2).1 (Nat.le_refl _)
  obtain ⟨J, hJ⟩ : ∃ J : Nat, min (min (p.length : Int) (q.length : Int)) (lcp (zau p) (zau q)) = (J : Int) := ⟨(min (min (p.length : Int) (q.length : Int)) (lcp (zau p) (zau q))).toNat, qk⟩
  have k2 := (key J qk qk).2 qk
  omega
 refine ⟨hE, ?_, ?_⟩
 ·unfold joinN; rw [if_pos hE, hJ]
 ·unfold joinA; rw [if_pos hE, hJ, zfc p _ hp l1, ← List.prefix_iff_eq_take.1 (zc6 p q)]
structure ND where
 a : Int
 n : Int
 o : ByteArray
 s : Int
theorem ND.ext' {x y : ND} (h1 : x.a = y.a) (h2 : x.n = y.n) (h3 : x.o = y.o) (h4 : x.s = y.s) : x = y := by
 cases x; cases y; simp at h1 h2 h3 h4; subst h1; subst h2; subst h3; subst h4; rfl
def ND.pv (x : ND) : List PV := [qi x.a, qh x.n, qg x.o, qh x.s]
structure ND.OK (x : ND) : Prop where
 a0 : 0 ≤ x.a
 a1 : x.a < 4294967296
 n0 : -9223372036854775808 ≤ x.n
 n1 : x.n ≤ 9223372036854775807
 s0 : -9223372036854775808 ≤ x.s
 s1 : x.s ≤ 9223372036854775807
 oz : x.o.size ≤ 140737488351232
def ND.fault (x : ND) : Int := zap x.a x.n
def ND.key (x : ND) : Key := zhC x.a.toNat x.n.toNat
def toND (x : Nd) : ND := ⟨zau x.1, x.1.length, x.2.1, x.2.2⟩
def TR.list (t : TR) : List ND := t.nodes.map toND
def TR.short : TR → Prop
 | .nil => True
 | .nd p _ l r => p.length ≤ 32 ∧ l.short ∧ r.short
theorem TR.list_nil : TR.nil.list = [] := rfl
theorem TR.list_nd (p : Key) (o : Own) (l r : TR) : (TR.nd p o l r).list = ⟨zau p, p.length, o, (((l.list ++ r.list).length + 1 : Nat) : Int)⟩ :: (l.list ++ r.list) := by
 simp only [TR.list, TR.nodes, qaF, qa4, toND, qaC, qaR]
 congr 2
 omega
theorem addr_key (p : Key) (hp : p.length ≤ 32) : zhC (zau p).toNat ((p.length : Nat) : Int).toNat = p := by
 have h1 : (zau p).toNat = zd1 p := by unfold zau; omega
 rw [h1, qaS]
 refine zh7 (zfq _ _) ?_
 rw [keyOf_val _ _ (addrN_lt p hp) hp, zhy p _ hp (Nat.le_refl _), qa5]
theorem ND.keyed {x : ND} (h0 : 0 ≤ x.a) (h1 : x.a < 4294967296) (hf : x.fault = 0) : x.key.length ≤ 32 ∧ x.a = zau x.key ∧ x.n = (x.key.length : Int) := by
 obtain ⟨p, hp, ha, hn⟩ := net_key h0 h1 hf
 have : x.key = p := by unfold ND.key; rw [ha, hn]; exact addr_key p hp
 rw [this]; exact ⟨hp, ha, hn⟩
theorem TR.list_fault : ∀ {t : TR}, t.short → ∀ x ∈ t.list, x.fault = 0
 | .nil, _, x, h => by cases h
 | .nd p o l r, hs, x, h => by
  rw [TR.list_nd] at h
  rcases qaI.1 h with rfl | h
  ·exact zbL p hs.1
  ·rcases qaW.1 h with h | h
   ·exact TR.list_fault hs.2.1 x h
   ·exact TR.list_fault hs.2.2 x h
def zeI (p q : Key) : Bool := decide (p.length < q.length) && decide (p <+: q)
theorem zh2 {p q : Key} : zeI p q = true ↔ p ++ [zbH q p.length] <+: q := by
 unfold zeI
 simp only [qaT, decide_eq_true_eq]
 constructor
 ·rintro ⟨h1, h2⟩
  exact zcv h2 fun e => by rw [e] at h1; omega
 ·intro h
  have h1 := h.length_le
  simp at h1
  exact ⟨qk, zdS h⟩
def zdU (g : List ND → Option (TR × List ND)) (p : Key) : Nat → TR → TR → List ND → Option (TR × TR)
 | _, k0, k1, [] => some (k0, k1)
 | 0, _, _, _ :: _ => none
 | m + 1, k0, k1, x :: l =>
  match g (x :: l) with
  | some (.nd q o a b, more) =>
   if zeI p q = true then
    if zbH q p.length = true then (if k1.isNil = true then zdU g p m k0 (.nd q o a b) more else none)
    else (if k0.isNil = true ∧ k1.isNil = true then zdU g p m (.nd q o a b) k1 more else none)
   else none
  | _ => none
def zf5 (p : Key) (o : Own) (rest : List ND) : Option (TR × TR) → Option (TR × List ND)
 | none => none
 | some (k0, k1) => if o = noOwn ∧ (k0.isNil = true ∨ k1.isNil = true) then none else some (.nd p o k0 k1, rest)
theorem growTop_no {p : Key} {o : Own} {rest : List ND} {k0 k1 : TR} (h : o = noOwn ∧ (k0.isNil = true ∨ k1.isNil = true)) : zf5 p o rest (some (k0, k1)) = none := by simp only [zf5]; rw [if_pos h]
theorem zhl {p : Key} {o : Own} {rest : List ND} {k0 k1 : TR} (h : ¬ (o = noOwn ∧ (k0.isNil = true ∨ k1.isNil = true))) : zf5 p o rest (some (k0, k1)) = some (.nd p o k0 k1, rest) := by simp only [zf5]; rw [if_neg h]
def zdg : Nat → List ND → Option (TR × List ND)
 | 0, _ => none
 | _ + 1, [] => none
 | n + 1, x :: l =>
  if x.s < 1 ∨ ((l.length + 1 : Nat) : Int) < x.s ∨ x.fault ≠ 0 then none
  else zf5 x.key x.o (l.drop (x.s.toNat - 1)) (zdU (zdg n) x.key (l.take (x.s.toNat - 1)).length .nil .nil (l.take (x.s.toNat - 1)))
def GoodT (t : TR) : Prop := t.valid ∧ t.short ∧ t ≠ .nil
theorem zeZ {g : List ND → Option (TR × List ND)} {p : Key} (hg : ∀ l t rest, (∀ x ∈ l, x.OK) → g l = some (t, rest) → GoodT t ∧ l = t.list ++ rest) :
 ∀ {m : Nat} {k0 k1 : TR} {l : List ND} {r0 r1 : TR}, (∀ x ∈ l, x.OK) → zdU g p m k0 k1 l = some (r0, r1) → (k0.valid ∧ k0.short ∧ k0.under (p ++ [false])) → (k1.valid ∧ k1.short ∧ k1.under (p ++ [true])) →
  (r0.valid ∧ r0.short ∧ r0.under (p ++ [false])) ∧ (r1.valid ∧ r1.short ∧ r1.under (p ++ [true])) ∧ k0.list ++ k1.list ++ l = r0.list ++ r1.list
 | m, k0, k1, [], r0, r1, _, h, h0, h1 => by
  cases m <;> (simp only [zdU, Option.some.injEq, Prod.mk.injEq] at h; obtain ⟨rfl, rfl⟩ := h; exact ⟨h0, h1, qz⟩)
 | 0, k0, k1, _ :: _, r0, r1, _, h, _, _ => by simp [zdU] at h
 | m + 1, k0, k1, x :: l, r0, r1, hok, h, h0, h1 => by
  simp only [zdU] at h
  split at h
  ·rename_i q o a b more hq
   obtain ⟨hgt, hl⟩ := hg _ _ _ hok hq
   have hmore : ∀ x ∈ more, x.OK := fun y hy => hok y (by rw [hl]; exact qaW.2 (.inr hy))
   split at h
   ·rename_i hb
    have hb' := zh2.1 hb
    split at h
    ·rename_i hbit
     rw [hbit] at hb'
     split at h
     ·rename_i hn
      rw [TR.isNil_iff] at hn
      subst hn
      obtain ⟨a1, a2, a3⟩ := zeZ hg hmore h h0 ⟨hgt.1, hgt.2.1, hb'⟩
      refine ⟨a1, a2, ?_⟩
      rw [← a3, hl, TR.list_nil]
      simp
     ·cases h
    ·rename_i hbit
     have hbit' : zbH q p.length = false := by simpa using hbit
     rw [hbit'] at hb'
     split at h
     ·rename_i hn
      rw [TR.isNil_iff, TR.isNil_iff] at hn
      obtain ⟨rfl, rfl⟩ := hn
      obtain ⟨a1, a2, a3⟩ := zeZ hg hmore h ⟨hgt.1, hgt.2.1, hb'⟩ h1
      refine ⟨a1, a2, ?_⟩
      rw [← a3, hl, TR.list_nil]
      simp
     ·cases h
   ·cases h
  ·cases h
theorem zdX : ∀ {n : Nat} {l : List ND} {t : TR} {rest : List ND}, (∀ x ∈ l, x.OK) → zdg n l = some (t, rest) → GoodT t ∧ l = t.list ++ rest
 | 0, l, t, rest, _, h => by simp [zdg] at h
 | n + 1, [], t, rest, _, h => by simp [zdg] at h
 | n + 1, x :: l, t, rest, hok, h => by
  simp only [zdg] at h
  split at h
  ·cases h
  ·rename_i hc
   simp only [not_or, Int.not_lt] at hc
   obtain ⟨c1, c2, c3⟩ := hc
   have c3 : x.fault = 0 := qaH.1 c3
   cases hk : zdU (zdg n) x.key (l.take (x.s.toNat - 1)).length .nil .nil (l.take (x.s.toNat - 1)) with
   | none => rw [hk] at h; cases h
   | some r =>
    obtain ⟨k0, k1⟩ := r
    rw [hk] at h
    simp only [zf5] at h
    split at h
    ·cases h
    ·rename_i hn
     simp only [Option.some.injEq, Prod.mk.injEq] at h
     obtain ⟨rfl, rfl⟩ := h
     have hx := hok x qz
     obtain ⟨q1, q2, q3⟩ := ND.keyed hx.a0 hx.a1 c3
     have hmine : ∀ y ∈ l.take (x.s.toNat - 1), y.OK := fun y hy => hok y (qbS _ (qbj hy))
     obtain ⟨a1, a2, a3⟩ := zeZ (fun l t rest => zdX) hmine hk ⟨trivial, trivial, trivial⟩ ⟨trivial, trivial, trivial⟩
     simp only [TR.list_nil, qbc] at a3
     refine ⟨⟨⟨a1.1, a2.1, a1.2.2, a2.2.2, fun e => ?_⟩, ⟨q1, a1.2.1, a2.2.1⟩, qz⟩, ?_⟩
     ·simp only [not_and, not_or] at hn
      obtain ⟨u1, u2⟩ := hn e
      exact ⟨fun e => u1 (TR.isNil_iff.2 e), fun e => u2 (TR.isNil_iff.2 e)⟩
     ·rw [TR.list_nd, ← a3, qa2, qa1]
      congr 1
      refine ND.ext' q2 q3 rfl ?_
      simp only [List.length_take]
      omega
theorem kidsF_one {g : List ND → Option (TR × List ND)} {p q : Key} {o : Own} {a b k0 k1 : TR} {m : Nat} {l more : List ND} (hl : l ≠ []) (hg : g l = some (.nd q o a b, more)) (hb : zeI p q = true) :
 zdU g p (m + 1) k0 k1 l = if zbH q p.length = true then (if k1.isNil = true then zdU g p m k0 (.nd q o a b) more else none) else (if k0.isNil = true ∧ k1.isNil = true then zdU g p m (.nd q o a b) k1 more else none) := by
 cases l with
 | nil => exact absurd rfl hl
 | cons x l => simp only [zdU, hg, hb, if_true]
theorem zhd {g : List ND → Option (TR × List ND)} {p : Key} {m : Nat} {k0 k1 : TR} : zdU g p m k0 k1 [] = some (k0, k1) := by cases m <;> simp [zdU]
theorem TR.list_ne {t : TR} (h : t ≠ .nil) : t.list ≠ [] := by
 cases t with
 | nil => exact absurd rfl h
 | nd p o l r => rw [TR.list_nd]; simp
theorem zgN {p : Key} {b : Bool} {q : Key} {o : Own} {l r : TR} (h : (TR.nd q o l r).under (p ++ [b])) : zeI p q = true ∧ zbH q p.length = b := by
 have hb : zbH q p.length = b := zc2 h
 exact ⟨zh2.2 (by rw [hb]; exact h), hb⟩
theorem zeD : ∀ {t : TR} {n : Nat} {rest : List ND}, GoodT t → t.list.length ≤ n → zdg n (t.list ++ rest) = some (t, rest)
 | .nil, n, rest, h, _ => absurd rfl h.2.2
 | .nd p o l r, 0, rest, h, hn => by rw [TR.list_nd] at hn; simp at hn
 | .nd p o l r, n + 1, rest, h, hn => by
  obtain ⟨⟨v1, v2, v3, v4, v5⟩, ⟨s0, s1, s2⟩, _⟩ := h
  have hkey : ND.key ⟨zau p, p.length, o, (((l.list ++ r.list).length + 1 : Nat) : Int)⟩ = p := addr_key p s0
  have hf : ND.fault ⟨zau p, p.length, o, (((l.list ++ r.list).length + 1 : Nat) : Int)⟩ = 0 := zbL p s0
  have hlen : l.list.length + r.list.length ≤ n := by rw [TR.list_nd] at hn; simp at hn; exact hn
  have ht : ((l.list ++ r.list) ++ rest).take ((((l.list ++ r.list).length + 1 : Nat) : Int).toNat - 1) = l.list ++ r.list := by
   rw [show (((l.list ++ r.list).length + 1 : Nat) : Int).toNat - 1 = (l.list ++ r.list).length by omega, List.take_left']
   rfl
  have hd : ((l.list ++ r.list) ++ rest).drop ((((l.list ++ r.list).length + 1 : Nat) : Int).toNat - 1) = rest := by
   rw [show (((l.list ++ r.list).length + 1 : Nat) : Int).toNat - 1 = (l.list ++ r.list).length by omega, List.drop_left']
   rfl
  rw [TR.list_nd, qa2, zdg, if_neg (by
   rintro (h | h | h)
   ·have h' : (((l.list ++ r.list).length + 1 : Nat) : Int) < 1 := h
    omega
   ·have h' : ((((l.list ++ r.list) ++ rest).length + 1 : Nat) : Int) < (((l.list ++ r.list).length + 1 : Nat) : Int) := h
    have e9 : ((l.list ++ r.list) ++ rest).length = (l.list ++ r.list).length + rest.length := qaC
    rw [e9] at h'
    omega
   ·exact h hf)]
  simp only [hkey, ht, hd]
  have hk : zdU (zdg n) p (l.list ++ r.list).length .nil .nil (l.list ++ r.list) = some (l, r) := by
   have hr : ∀ (m : Nat) (k0 : TR), r.list.length ≤ m → zdU (zdg n) p m k0 .nil r.list = some (k0, r) := fun m k0 hm => by
    cases r with
    | nil => rw [TR.list_nil]; exact zhd
    | nd q o' a b =>
     have hne : (TR.nd q o' a b).list ≠ [] := TR.list_ne qz
     obtain ⟨u1, u2⟩ := zgN v4
     have hg := zeD (t := .nd q o' a b) (n := n) (rest := []) ⟨v2, s2, qz⟩ qk
     rw [qaV] at hg
     cases m with
     | zero => exact absurd (qaQ qk) hne
     | succ m => rw [kidsF_one hne hg u1, if_pos u2]; simp only [TR.isNil, if_true]; exact zhd
   cases l with
   | nil => rw [TR.list_nil, qbc]; exact hr _ _ (Nat.le_refl _)
   | nd q o' a b =>
    have hne : (TR.nd q o' a b).list ≠ [] := TR.list_ne qz
    obtain ⟨u1, u2⟩ := zgN v3
    have hg := zeD (t := .nd q o' a b) (n := n) (rest := r.list) ⟨v1, s1, qz⟩ qk
    have hpos := List.length_pos_iff.2 hne
    obtain ⟨m, hm⟩ : ∃ m, ((TR.nd q o' a b).list ++ r.list).length = m + 1 := ⟨((TR.nd q o' a b).list ++ r.list).length - 1, by rw [qaC]; omega⟩
    rw [hm, kidsF_one (by simp [hne]) hg u1, if_neg (by simp [u2])]
    simp only [TR.isNil, and_self, if_true]
    exact hr m _ (by rw [qaC] at hm; omega)
  rw [hk]
  refine zhl ?_
  rintro ⟨e, h⟩
  obtain ⟨w1, w2⟩ := v5 e
  rcases h with h | h
  ·exact w1 (TR.isNil_iff.1 h)
  ·exact w2 (TR.isNil_iff.1 h)
theorem side_pre {M : List (Key × Own)} {b : Bool} : ∀ x ∈ zaV (zaW M) b M, zaW M ++ [b] <+: x.1 := fun x hx => by
 obtain ⟨h1, h2, h3⟩ := zgY.1 hx
 rw [← h3]; exact zcv (zdV x h1) h2
theorem side_lt {M : List (Key × Own)} (hM : M ≠ []) (b : Bool) : (zaV (zaW M) b M).length < M.length := by
 have hle : (zaV (zaW M) b M).length ≤ M.length := List.length_filter_le _ _
 rcases qbH (zaV (zaW M) b M).length M.length with h | h
 ·exact h
 ·exfalso
  have e : zaV (zaW M) b M = M := by
   have := List.filter_sublist (p := fun x : Key × Own => !decide (x.1 = zaW M) && (zbH x.1 (zaW M).length == b)) (l := M)
   exact this.eq_of_length (Nat.le_antisymm hle h)
  have hm : zaW M ++ [b] <+: zaW M := zhf hM fun x hx => side_pre x (by rw [e]; exact hx)
  have := hm.length_le
  simp only [qaC, List.length_singleton] at this
  omega
theorem zib (top : Key) (M : List (Key × Own)) : (zaV top false M).length + (zaV top true M).length ≤ M.length := by
 induction M with
 | nil => simp [zaV]
 | cons x M ih =>
  unfold zaV at ih ⊢
  simp only [List.filter_cons]
  split <;> split <;> simp only [qaO] <;> first
   | omega
   | (rename_i h1 h2; simp only [qaT, beq_iff_eq] at h1 h2; rw [h1.2] at h2; exact absurd h2.2 qw)
theorem zdF : ∀ (n : Nat) (M : List (Key × Own)), (zbm n M).length ≤ 2 * M.length - 1
 | 0, [] => by simp [zbm]
 | 0, _ :: _ => by simp [zbm]
 | _ + 1, [] => by simp [zbm]
 | n + 1, x :: l => by
  have h1 := zdF n (zaV (zaW (x :: l)) false (x :: l))
  have h2 := zdF n (zaV (zaW (x :: l)) true (x :: l))
  have h3 := zib (zaW (x :: l)) (x :: l)
  have h4 := side_lt (M := x :: l) qz false
  have h5 := side_lt (M := x :: l) qz true
  simp only [zbm, qaO, qaC] at *
  omega
theorem joinAll_le {M : List (Key × Own)} {k : Nat} (h : ∀ x ∈ M, x.1.length ≤ k) : (zaW M).length ≤ k := by
 cases M with
 | nil => simp [zaW]
 | cons x M => exact qby (zdV (l := x :: M) x qz).length_le (h x qz)
def one (x : Key × Own) : ND := ⟨zau x.1, x.1.length, x.2, 1⟩
theorem TR.list_ok : ∀ {t : TR}, t.short → (∀ x ∈ t.pairs, x.2.size ≤ 140737488351232) → t.list.length ≤ 4611686018427387904 → ∀ x ∈ t.list, x.OK
 | .nil, _, _, _, x, h => by cases h
 | .nd p o l r, hs, ho, hz, x, h => by
  have hpo : o.size ≤ 140737488351232 := by
   by_cases e : o = noOwn
   ·subst e; decide
   ·exact ho (p, o) (by simp [TR.pairs, zeX e])
  rw [TR.list_nd] at h hz
  have hz' := hz
  simp only [qaO, qaC] at hz'
  rcases qaI.1 h with rfl | h
  ·obtain ⟨b0, b1⟩ := zbk p hs.1
   have := hs.1
   constructor <;> simp only [qaC] <;> omega
  ·rcases qaW.1 h with h | h
   ·exact TR.list_ok hs.2.1 (fun x hx => ho x qal) qk x h
   ·exact TR.list_ok hs.2.2 (fun x hx => ho x qal) qk x h
def isTrie (l : List ND) (t : TR) : Prop := t.valid ∧ t.short ∧ l = t.list
theorem TR.short_of : ∀ {t : TR}, t.valid → (∀ x ∈ t.pairs, x.1.length ≤ 32) → t.short
 | .nil, _, _ => trivial
 | .nd p o l r, hv, h => by
  obtain ⟨x, hx⟩ := TR.pairs_ne hv qz
  refine ⟨qby (TR.root_pre hv x hx).length_le (h x hx), TR.short_of hv.1 fun x hx => h x qal, TR.short_of hv.2.1 fun x hx => h x qal⟩
theorem TR.pairs_short : ∀ {t : TR}, t.short → ∀ x ∈ t.pairs, x.1.length ≤ 32
 | .nil, _, x, h => by cases h
 | .nd p o l r, hs, x, h => by
  simp only [TR.pairs, qaW] at h
  rcases h with h | h | h
  ·obtain ⟨rfl, _⟩ := zgB h; exact hs.1
  ·exact TR.pairs_short hs.2.1 x h
  ·exact TR.pairs_short hs.2.2 x h
def grownL (K : List (Key × Own)) : List ND := (zbm K.length K).map toND
theorem grownL_tree {t : TR} {K : List (Key × Own)} (hv : t.valid) (hp : K.Perm t.pairs) : grownL K = t.list := by
 unfold grownL; rw [ze1 hv hp (Nat.le_refl _)]; rfl
theorem isTrie_grow {l : List ND} (hok : ∀ x ∈ l, x.OK) (hne : l ≠ []) : (∃ t, isTrie l t) ↔ ∃ t, zdg l.length l = some (t, []) := by
 constructor
 ·rintro ⟨t, hv, hs, rfl⟩
  have := zeD (t := t) (n := t.list.length) (rest := []) ⟨hv, hs, fun e => by subst e; exact hne rfl⟩ (Nat.le_refl _)
  rw [qaV] at this
  exact ⟨t, this⟩
 ·rintro ⟨t, h⟩
  obtain ⟨⟨hv, hs, _⟩, hl⟩ := zdX hok h
  exact ⟨t, hv, hs, by simpa using hl⟩
theorem put_short {t : TR} {n : Key} {o : Own} (hv : t.valid) (hs : t.short) (hn : n.length ≤ 32) (ho : o ≠ noOwn) : (t.put n o).short :=
 TR.short_of (TR.put_valid hv ho).1 fun x hx => by
  have := (TR.put_pairs (n := n) (o := o) hv ho).mem_iff.1 hx
  rcases qaI.1 this with rfl | h
  ·exact hn
  ·exact TR.pairs_short hs x ((qbM.1 h).1)
theorem rootOwn_take {top : Key} {M : List (Key × Own)} {i : Nat} {x : Key × Own} (h : M[i]? = some x) : zdr top (M.take (i + 1)) = if x.1 = top then x.2 else zdr top (M.take i) := by
 obtain ⟨hi, rfl⟩ := qaG.1 h
 unfold zdr
 rw [qaM hi, qbJ]; rfl
theorem zhF {top : Key} {b : Bool} {M : List (Key × Own)} {i : Nat} {x : Key × Own} (h : M[i]? = some x) : zaV top b (M.take (i + 1)) = zaV top b (M.take i) ++ if x.1 ≠ top ∧ zbH x.1 top.length = b then [x] else [] := by
 obtain ⟨hi, rfl⟩ := qaG.1 h
 unfold zaV
 rw [qaM hi, qbX]
 congr 1
 simp only [List.filter_cons, List.filter_nil]
 by_cases h1 : M[i].1 = top <;> by_cases h2 : zbH M[i].1 top.length = b <;> simp [h1, h2]
theorem joinK_take {p : Key} {M : List (Key × Own)} {i : Nat} {x : Key × Own} (h : M[i]? = some x) : zhe p ((M.take (i + 1)).map Prod.fst) = lcpL (zhe p ((M.take i).map Prod.fst)) x.1 := by
 obtain ⟨hi, rfl⟩ := qaG.1 h
 unfold zhe
 rw [qaM hi, qa4, qbJ]; rfl
theorem take_len {α : Type} (l : List α) (i : Nat) : (l.take i).length ≤ l.length := by rw [List.length_take]; omega
end Go.Proofs.YtlfjpippeeikdaaGreatDoor
