/- Nets and lists of bits. Tries: lists of nodes and trees; what grows of a list. Tries: owned nets, the tree that they grow to, both checks are one. Tries: what the references do with lists of owned nets is what is done with trees. -/
import Derived.Test.YtbjdjclkbjpebaaGreatDoorSTrZ
import Derived.Test.YtbjdjclkbjpebaaGreatDoorSNetY
namespace Go.Proofs.YtbjdjclkbjpebaaGreatDoor
set_option linter.unusedVariables false
set_option linter.unusedSimpArgs false
def valK (p : Key) : Nat := p.foldl (fun a b => 2 * a + b.toNat) 0
theorem valK_go (p : Key) (a : Nat) : p.foldl (fun a b => 2 * a + b.toNat) a = a * 2 ^ p.length + valK p := by
 unfold valK
 induction p generalizing a with
 | nil => simp
 | cons b p ih =>
  rw [List.foldl_cons, ih, List.foldl_cons, ih (2 * 0 + b.toNat), List.length_cons, Nat.pow_succ, Nat.add_mul]
  have e0 : 2 * 0 + b.toNat = b.toNat := by omega
  rw [e0]
  have : 2 * a * 2 ^ p.length = a * (2 ^ p.length * 2) := by rw [Nat.mul_comm 2 a, Nat.mul_assoc, Nat.mul_comm 2]
  omega
theorem zep (p q : Key) : valK (p ++ q) = valK p * 2 ^ q.length + valK q := by
 conv => lhs; unfold valK
 rw [List.foldl_append]
 exact valK_go q _
theorem zga (b : Bool) : valK [b] = b.toNat := by simp [valK]
theorem zhZ : ∀ p : Key, valK p < 2 ^ p.length := by
 intro p
 induction p with
 | nil => simp [valK]
 | cons b p ih =>
  have h := zep [b] p
  rw [List.singleton_append, zga] at h
  rw [h, List.length_cons, Nat.pow_succ]
  have : b.toNat * 2 ^ p.length ≤ 1 * 2 ^ p.length := Nat.mul_le_mul_right _ (by cases b <;> decide)
  omega
theorem zh0 : ∀ {p q : Key}, p.length = q.length → valK p = valK q → p = q
 | [], [], _, _ => rfl
 | [], _ :: _, h, _ => by simp at h
 | _ :: _, [], h, _ => by simp at h
 | a :: p, b :: q, h, k => by
  have h' : p.length = q.length := by simpa using h
  have h1 := zep [a] p
  have h2 := zep [b] q
  rw [List.singleton_append, zga] at h1 h2
  rw [h1, h2, h'] at k
  have l1 := zhZ p
  have l2 := zhZ q
  rw [h'] at l1
  have hab : a = b := by
   cases a <;> cases b <;> simp at k ⊢ <;> omega
  subst hab
  rw [zh0 h' (by omega)]
theorem valK_take (q : Key) (k : Nat) (h : k ≤ q.length) : valK (q.take k) = valK q / 2 ^ (q.length - k) := by
 have h1 := zep (q.take k) (q.drop k)
 rw [List.take_append_drop, List.length_drop] at h1
 have h2 := zhZ (q.drop k)
 rw [List.length_drop] at h2
 rw [h1, Nat.mul_comm, Nat.mul_add_div (Nat.two_pow_pos _), Nat.div_eq_of_lt h2, Nat.add_zero]
def zd2 (p : Key) : Nat := valK p * 2 ^ (32 - p.length)
def zaA (p : Key) : Int := (zd2 p : Nat)
theorem addrN_lt (p : Key) (h : p.length ≤ 32) : zd2 p < 4294967296 := by
 have h1 := zhZ p
 have h2 : valK p * 2 ^ (32 - p.length) < 2 ^ p.length * 2 ^ (32 - p.length) := Nat.mul_lt_mul_of_pos_right h1 (Nat.two_pow_pos _)
 rw [← Nat.pow_add, show p.length + (32 - p.length) = 32 by omega] at h2
 exact h2
theorem zbq (p : Key) (h : p.length ≤ 32) : 0 ≤ zaA p ∧ zaA p < 4294967296 := by
 have := addrN_lt p h
 unfold zaA; omega
theorem zhj (q : Key) (k : Nat) (hq : q.length ≤ 32) (hk : k ≤ q.length) : zd2 q / 2 ^ (32 - k) = valK (q.take k) := by
 rw [valK_take q k hk, zd2]
 have e : 32 - k = (q.length - k) + (32 - q.length) := by omega
 rw [e, Nat.pow_add, Nat.mul_comm (2 ^ (q.length - k)), ← Nat.div_div_eq_div_mul, Nat.mul_div_cancel _ (Nat.two_pow_pos _)]
theorem pow_toN (k : Nat) (hk : k ≤ 32) : ((2 : Int) ^ (32 - (k : Int)).toNat) = ((2 ^ (32 - k) : Nat) : Int) := by
 rw [show (32 - (k : Int)).toNat = 32 - k by omega]
 simp
theorem zfe (q : Key) (k : Nat) (hq : q.length ≤ 32) (hk : k ≤ q.length) : topI (zaA q) k = zaA (q.take k) := by
 unfold topI zaA
 rw [pow_toN k (by omega)]
 have h1 := zhj q k hq hk
 have h2 : zd2 (q.take k) = valK (q.take k) * 2 ^ (32 - k) := by unfold zd2; rw [List.length_take, Nat.min_eq_left hk]
 have h3 := Nat.div_add_mod (zd2 q) (2 ^ (32 - k))
 rw [h2, ← h1, Nat.mul_comm]
 generalize zd2 q / 2 ^ (32 - k) = D at *
 generalize hM : 2 ^ (32 - k) = M at *
 have h4 : ((zd2 q : Nat) : Int) % ((M : Nat) : Int) = ((zd2 q % M : Nat) : Int) := by simp
 rw [h4]
 have h5 : zd2 q % M ≤ zd2 q := Nat.mod_le _ _
 omega
theorem zcZ (p : Key) (hp : p.length ≤ 32) : zai (zaA p) p.length = 0 := by
 unfold zai
 rw [if_neg (by omega), if_pos]
 rw [pow_toN _ hp]
 unfold zaA zd2
 simp
theorem zhk {p q : Key} (hp : p.length ≤ 32) (hl : p.length = q.length) (h : zaA p = zaA q) : p = q := by
 have h' : zd2 p = zd2 q := by unfold zaA at h; omega
 unfold zd2 at h'
 rw [← hl] at h'
 exact zh0 hl (Nat.eq_of_mul_eq_mul_right (Nat.two_pow_pos _) h')
theorem pre_iff {p q : Key} : p <+: q ↔ p.length ≤ q.length ∧ q.take p.length = p := by
 constructor
 ·intro h; exact ⟨h.length_le, (List.prefix_iff_eq_take.1 h).symm⟩
 ·rintro ⟨_, h⟩; rw [← h]; exact List.take_prefix _ _
theorem top_pre (p q : Key) (hq : q.length ≤ 32) (hk : p.length ≤ q.length) : topI (zaA q) p.length = zaA p ↔ p <+: q := by
 rw [zfe q _ hq hk, pre_iff]
 constructor
 ·intro h
  have hl : (q.take p.length).length = p.length := by rw [List.length_take]; omega
  exact ⟨hk, zhk (by omega) hl h⟩
 ·rintro ⟨_, h⟩; rw [h]
theorem holds_pre (p q : Key) (hp : p.length ≤ 32) (hq : q.length ≤ 32) : zaY (zaA p) p.length (zaA q) q.length = decide (p <+: q) := by
 unfold zaY zdb
 rw [zcZ p hp, zcZ q hq]
 simp only [true_and]
 by_cases hl : p.length ≤ q.length
 ·rw [show decide (((p.length : Nat) : Int) ≤ ((q.length : Nat) : Int)) = true by simp; omega, Bool.true_and]
  exact decide_eq_decide.2 (top_pre p q hq hl)
 ·rw [show decide (((p.length : Nat) : Int) ≤ ((q.length : Nat) : Int)) = false by simp; omega, Bool.false_and]
  symm
  rw [decide_eq_false_iff_not]
  intro h; exact hl h.length_le
def zhq (a n : Nat) : Key := (List.range n).map fun i => decide (a / 2 ^ (31 - i) % 2 = 1)
theorem zfr (a n : Nat) : (zhq a n).length = n := by simp [zhq]
theorem keyOf_val (a n : Nat) (ha : a < 4294967296) (hn : n ≤ 32) : valK (zhq a n) = a / 2 ^ (32 - n) := by
 induction n with
 | zero =>
  rw [Nat.sub_zero, Nat.div_eq_of_lt ha]; rfl
 | succ n ih =>
  have e : zhq a (n + 1) = zhq a n ++ [decide (a / 2 ^ (31 - n) % 2 = 1)] := by simp [zhq, List.range_succ]
  rw [e, zep, zga, ih (by omega), List.length_singleton, Nat.pow_one]
  rw [show 32 - (n + 1) = 31 - n by omega, show 32 - n = (31 - n) + 1 by omega, Nat.pow_succ, ← Nat.div_div_eq_div_mul]
  generalize a / 2 ^ (31 - n) = x
  by_cases h : x % 2 = 1
  ·rw [decide_eq_true h]; simp; omega
  ·rw [decide_eq_false h]; simp; omega
theorem net_key {a n : Int} (h0 : 0 ≤ a) (h1 : a < 4294967296) (hf : zai a n = 0) : ∃ p : Key, p.length ≤ 32 ∧ a = zaA p ∧ n = p.length := by
 obtain ⟨n0, n1, hm⟩ := zcc hf
 obtain ⟨a, rfl⟩ := Int.eq_ofNat_of_zero_le h0
 obtain ⟨n, rfl⟩ := Int.eq_ofNat_of_zero_le n0
 refine ⟨zhq a n, by rw [zfr]; omega, ?_, by rw [zfr]⟩
 have ha : a < 4294967296 := by omega
 rw [pow_toN n (by omega)] at hm
 have hm' : a % 2 ^ (32 - n) = 0 := by
  have h4 : ((a : Nat) : Int) % ((2 ^ (32 - n) : Nat) : Int) = ((a % 2 ^ (32 - n) : Nat) : Int) := by simp
  rw [h4] at hm; omega
 unfold zaA zd2
 rw [zfr, keyOf_val a n ha (by omega)]
 have := Nat.div_add_mod a (2 ^ (32 - n))
 rw [Nat.mul_comm] at this
 omega
theorem bit_key (q : Key) (i : Nat) (hq : q.length ≤ 32) (hi : i < q.length) : zaA q / 2 ^ (31 - (i : Int)).toNat % 2 = if zbK q i = true then 1 else 0 := by
 have h1 := zhj q (i + 1) hq (by omega)
 rw [show (31 - (i : Int)).toNat = 32 - (i + 1) by omega]
 have h2 : zaA q / 2 ^ (32 - (i + 1)) = ((zd2 q / 2 ^ (32 - (i + 1)) : Nat) : Int) := by unfold zaA; simp
 rw [h2, h1, List.take_succ_eq_append_getElem hi, zep, zga]
 have e : zbK q i = q[i] := by unfold zbK; rw [List.getD_eq_getElem?_getD, List.getElem?_eq_getElem hi]; rfl
 rw [e]
 cases q[i] <;> simp <;> omega
theorem lcpL_len_iff (p q : Key) (k : Nat) (h1 : k ≤ p.length) (h2 : k ≤ q.length) : k ≤ (lcpL p q).length ↔ p.take k = q.take k := by
 constructor
 ·intro h
  have a1 := List.prefix_iff_eq_take.1 (zdc p q)
  have a2 := List.prefix_iff_eq_take.1 (zcY p q)
  have b1 : p.take k = (lcpL p q).take k := by conv => rhs; rw [a1]
                                               rw [List.take_take, Nat.min_eq_left h]
  have b2 : q.take k = (lcpL p q).take k := by conv => rhs; rw [a2]
                                               rw [List.take_take, Nat.min_eq_left h]
  rw [b1, b2]
 ·intro h
  have := (zex (List.take_prefix k p) (by rw [h]; exact List.take_prefix k q)).length_le
  rw [List.length_take] at this
  omega
theorem join_key (p q : Key) (hp : p.length ≤ 32) (hq : q.length ≤ 32) : zcJ (zaA p) p.length (zaA q) q.length = 0 ∧ zeD (zaA p) p.length (zaA q) q.length = (lcpL p q).length ∧ zeE (zaA p) p.length (zaA q) q.length = zaA (lcpL p q) := by
 have hE : zcJ (zaA p) p.length (zaA q) q.length = 0 := by unfold zcJ; rw [if_pos (zcZ p hp)]; exact zcZ q hq
 obtain ⟨b0, b1⟩ := zbq p hp
 obtain ⟨b2, b3⟩ := zbq q hq
 obtain ⟨c0, c1⟩ := lcp_bd (zaA p) (zaA q) b0 b1 b2 b3
 have key : ∀ k : Nat, k ≤ p.length → k ≤ q.length → (k ≤ (lcpL p q).length ↔ (k : Int) ≤ lcp (zaA p) (zaA q)) := fun k h1 h2 => by
  rw [lcpL_len_iff p q k h1 h2, ← zgw (zaA p) (zaA q) k b0 b1 b2 b3 (by omega) (by omega), zfe p k hp h1, zfe q k hq h2]
  constructor
  ·intro h; rw [h]
  ·intro h
   exact (zhk (by rw [List.length_take]; omega) (by rw [List.length_take, List.length_take]; omega) h).symm
 have l1 := (zdc p q).length_le
 have l2 := (zcY p q).length_le
 have hJ : min (min (p.length : Int) (q.length : Int)) (lcp (zaA p) (zaA q)) = ((lcpL p q).length : Int) := by
  have k1 := (key (lcpL p q).length l1 l2).1 (Nat.le_refl _)
  obtain ⟨J, hJ⟩ : ∃ J : Nat, min (min (p.length : Int) (q.length : Int)) (lcp (zaA p) (zaA q)) = (J : Int) := ⟨(min (min (p.length : Int) (q.length : Int)) (lcp (zaA p) (zaA q))).toNat, by omega⟩
  have k2 := (key J (by omega) (by omega)).2 (by omega)
  omega
 refine ⟨hE, ?_, ?_⟩
 ·unfold zeD; rw [if_pos hE, hJ]
 ·unfold zeE; rw [if_pos hE, hJ, zfe p _ hp l1, ← List.prefix_iff_eq_take.1 (zdc p q)]
structure ND where
 a : Int
 n : Int
 o : ByteArray
 s : Int
theorem ND.ext' {x y : ND} (h1 : x.a = y.a) (h2 : x.n = y.n) (h3 : x.o = y.o) (h4 : x.s = y.s) : x = y := by
 cases x; cases y; simp at h1 h2 h3 h4; subst h1; subst h2; subst h3; subst h4; rfl
def ND.pv (x : ND) : List PV := [.v (.int .u32 x.a), .v (.int .i64 x.n), .v (.string x.o), .v (.int .i64 x.s)]
structure ND.OK (x : ND) : Prop where
 a0 : 0 ≤ x.a
 a1 : x.a < 4294967296
 n0 : -9223372036854775808 ≤ x.n
 n1 : x.n ≤ 9223372036854775807
 s0 : -9223372036854775808 ≤ x.s
 s1 : x.s ≤ 9223372036854775807
 oz : x.o.size ≤ 140737488351232
def ND.fault (x : ND) : Int := zai x.a x.n
def ND.key (x : ND) : Key := zhq x.a.toNat x.n.toNat
def toND (x : Nd) : ND := ⟨zaA x.1, x.1.length, x.2.1, x.2.2⟩
def TR.list (t : TR) : List ND := t.nodes.map toND
def TR.short : TR → Prop
 | .nil => True
 | .nd p _ l r => p.length ≤ 32 ∧ l.short ∧ r.short
theorem TR.list_nil : TR.nil.list = [] := rfl
theorem TR.list_nd (p : Key) (o : Own) (l r : TR) : (TR.nd p o l r).list = ⟨zaA p, p.length, o, (((l.list ++ r.list).length + 1 : Nat) : Int)⟩ :: (l.list ++ r.list) := by
 simp only [TR.list, TR.nodes, List.map_cons, List.map_append, toND, List.length_append, List.length_map]
 congr 2
 omega
theorem addr_key (p : Key) (hp : p.length ≤ 32) : zhq (zaA p).toNat ((p.length : Nat) : Int).toNat = p := by
 have h1 : (zaA p).toNat = zd2 p := by unfold zaA; omega
 rw [h1, Int.toNat_natCast]
 refine zh0 (zfr _ _) ?_
 rw [keyOf_val _ _ (addrN_lt p hp) hp, zhj p _ hp (Nat.le_refl _), List.take_length]
theorem ND.keyed {x : ND} (h0 : 0 ≤ x.a) (h1 : x.a < 4294967296) (hf : x.fault = 0) : x.key.length ≤ 32 ∧ x.a = zaA x.key ∧ x.n = (x.key.length : Int) := by
 obtain ⟨p, hp, ha, hn⟩ := net_key h0 h1 hf
 have : x.key = p := by unfold ND.key; rw [ha, hn]; exact addr_key p hp
 rw [this]; exact ⟨hp, ha, hn⟩
theorem TR.list_fault : ∀ {t : TR}, t.short → ∀ x ∈ t.list, x.fault = 0
 | .nil, _, x, h => by cases h
 | .nd p o l r, hs, x, h => by
  rw [TR.list_nd] at h
  rcases List.mem_cons.1 h with rfl | h
  ·exact zcZ p hs.1
  ·rcases List.mem_append.1 h with h | h
   ·exact TR.list_fault hs.2.1 x h
   ·exact TR.list_fault hs.2.2 x h
def zeK (p q : Key) : Bool := decide (p.length < q.length) && decide (p <+: q)
theorem zhV {p q : Key} : zeK p q = true ↔ p ++ [zbK q p.length] <+: q := by
 unfold zeK
 simp only [Bool.and_eq_true, decide_eq_true_eq]
 constructor
 ·rintro ⟨h1, h2⟩
  exact zcD h2 fun e => by rw [e] at h1; omega
 ·intro h
  have h1 := h.length_le
  simp at h1
  exact ⟨by omega, zdT h⟩
def zdV (g : List ND → Option (TR × List ND)) (p : Key) : Nat → TR → TR → List ND → Option (TR × TR)
 | _, k0, k1, [] => some (k0, k1)
 | 0, _, _, _ :: _ => none
 | m + 1, k0, k1, x :: l =>
  match g (x :: l) with
  | some (.nd q o a b, more) =>
   if zeK p q = true then
    if zbK q p.length = true then (if k1.isNil = true then zdV g p m k0 (.nd q o a b) more else none)
    else (if k0.isNil = true ∧ k1.isNil = true then zdV g p m (.nd q o a b) k1 more else none)
   else none
  | _ => none
def zfM (p : Key) (o : Own) (rest : List ND) : Option (TR × TR) → Option (TR × List ND)
 | none => none
 | some (k0, k1) => if o = noOwn ∧ (k0.isNil = true ∨ k1.isNil = true) then none else some (.nd p o k0 k1, rest)
theorem growTop_no {p : Key} {o : Own} {rest : List ND} {k0 k1 : TR} (h : o = noOwn ∧ (k0.isNil = true ∨ k1.isNil = true)) : zfM p o rest (some (k0, k1)) = none := by simp only [zfM]; rw [if_pos h]
theorem zg7 {p : Key} {o : Own} {rest : List ND} {k0 k1 : TR} (h : ¬ (o = noOwn ∧ (k0.isNil = true ∨ k1.isNil = true))) : zfM p o rest (some (k0, k1)) = some (.nd p o k0 k1, rest) := by simp only [zfM]; rw [if_neg h]
def zdk : Nat → List ND → Option (TR × List ND)
 | 0, _ => none
 | _ + 1, [] => none
 | n + 1, x :: l =>
  if x.s < 1 ∨ ((l.length + 1 : Nat) : Int) < x.s ∨ x.fault ≠ 0 then none
  else zfM x.key x.o (l.drop (x.s.toNat - 1)) (zdV (zdk n) x.key (l.take (x.s.toNat - 1)).length .nil .nil (l.take (x.s.toNat - 1)))
def GoodT (t : TR) : Prop := t.valid ∧ t.short ∧ t ≠ .nil
theorem zeY {g : List ND → Option (TR × List ND)} {p : Key} (hg : ∀ l t rest, (∀ x ∈ l, x.OK) → g l = some (t, rest) → GoodT t ∧ l = t.list ++ rest) :
  ∀ {m : Nat} {k0 k1 : TR} {l : List ND} {r0 r1 : TR}, (∀ x ∈ l, x.OK) → zdV g p m k0 k1 l = some (r0, r1) → (k0.valid ∧ k0.short ∧ k0.under (p ++ [false])) → (k1.valid ∧ k1.short ∧ k1.under (p ++ [true])) →
   (r0.valid ∧ r0.short ∧ r0.under (p ++ [false])) ∧ (r1.valid ∧ r1.short ∧ r1.under (p ++ [true])) ∧ k0.list ++ k1.list ++ l = r0.list ++ r1.list
 | m, k0, k1, [], r0, r1, _, h, h0, h1 => by
  cases m <;> (simp only [zdV, Option.some.injEq, Prod.mk.injEq] at h; obtain ⟨rfl, rfl⟩ := h; exact ⟨h0, h1, by simp⟩)
 | 0, k0, k1, _ :: _, r0, r1, _, h, _, _ => by simp [zdV] at h
 | m + 1, k0, k1, x :: l, r0, r1, hok, h, h0, h1 => by
  simp only [zdV] at h
  split at h
  ·rename_i q o a b more hq
   obtain ⟨hgt, hl⟩ := hg _ _ _ hok hq
   have hmore : ∀ x ∈ more, x.OK := fun y hy => hok y (by rw [hl]; exact List.mem_append.2 (.inr hy))
   split at h
   ·rename_i hb
    have hb' := zhV.1 hb
    split at h
    ·rename_i hbit
     rw [hbit] at hb'
     split at h
     ·rename_i hn
      rw [TR.isNil_iff] at hn
      subst hn
      obtain ⟨a1, a2, a3⟩ := zeY hg hmore h h0 ⟨hgt.1, hgt.2.1, hb'⟩
      refine ⟨a1, a2, ?_⟩
      rw [← a3, hl, TR.list_nil]
      simp
     ·cases h
    ·rename_i hbit
     have hbit' : zbK q p.length = false := by simpa using hbit
     rw [hbit'] at hb'
     split at h
     ·rename_i hn
      rw [TR.isNil_iff, TR.isNil_iff] at hn
      obtain ⟨rfl, rfl⟩ := hn
      obtain ⟨a1, a2, a3⟩ := zeY hg hmore h ⟨hgt.1, hgt.2.1, hb'⟩ h1
      refine ⟨a1, a2, ?_⟩
      rw [← a3, hl, TR.list_nil]
      simp
     ·cases h
   ·cases h
  ·cases h
theorem zdY : ∀ {n : Nat} {l : List ND} {t : TR} {rest : List ND}, (∀ x ∈ l, x.OK) → zdk n l = some (t, rest) → GoodT t ∧ l = t.list ++ rest
 | 0, l, t, rest, _, h => by simp [zdk] at h
 | n + 1, [], t, rest, _, h => by simp [zdk] at h
 | n + 1, x :: l, t, rest, hok, h => by
  simp only [zdk] at h
  split at h
  ·cases h
  ·rename_i hc
   simp only [not_or, Int.not_lt] at hc
   obtain ⟨c1, c2, c3⟩ := hc
   have c3 : x.fault = 0 := Decidable.not_not.1 c3
   cases hk : zdV (zdk n) x.key (l.take (x.s.toNat - 1)).length .nil .nil (l.take (x.s.toNat - 1)) with
   | none => rw [hk] at h; cases h
   | some r =>
    obtain ⟨k0, k1⟩ := r
    rw [hk] at h
    simp only [zfM] at h
    split at h
    ·cases h
    ·rename_i hn
     simp only [Option.some.injEq, Prod.mk.injEq] at h
     obtain ⟨rfl, rfl⟩ := h
     have hx := hok x (by simp)
     obtain ⟨q1, q2, q3⟩ := ND.keyed hx.a0 hx.a1 c3
     have hmine : ∀ y ∈ l.take (x.s.toNat - 1), y.OK := fun y hy => hok y (List.mem_cons_of_mem _ (List.mem_of_mem_take hy))
     obtain ⟨a1, a2, a3⟩ := zeY (fun l t rest => zdY) hmine hk ⟨trivial, trivial, trivial⟩ ⟨trivial, trivial, trivial⟩
     simp only [TR.list_nil, List.nil_append] at a3
     refine ⟨⟨⟨a1.1, a2.1, a1.2.2, a2.2.2, fun e => ?_⟩, ⟨q1, a1.2.1, a2.2.1⟩, by simp⟩, ?_⟩
     ·simp only [not_and, not_or] at hn
      obtain ⟨u1, u2⟩ := hn e
      exact ⟨fun e => u1 (TR.isNil_iff.2 e), fun e => u2 (TR.isNil_iff.2 e)⟩
     ·rw [TR.list_nd, ← a3, List.cons_append, List.take_append_drop]
      congr 1
      refine ND.ext' q2 q3 rfl ?_
      simp only [List.length_take]
      omega
theorem kidsF_one {g : List ND → Option (TR × List ND)} {p q : Key} {o : Own} {a b k0 k1 : TR} {m : Nat} {l more : List ND} (hl : l ≠ []) (hg : g l = some (.nd q o a b, more)) (hb : zeK p q = true) :
  zdV g p (m + 1) k0 k1 l = if zbK q p.length = true then (if k1.isNil = true then zdV g p m k0 (.nd q o a b) more else none) else (if k0.isNil = true ∧ k1.isNil = true then zdV g p m (.nd q o a b) k1 more else none) := by
 cases l with
 | nil => exact absurd rfl hl
 | cons x l => simp only [zdV, hg, hb, if_true]
theorem zgV {g : List ND → Option (TR × List ND)} {p : Key} {m : Nat} {k0 k1 : TR} : zdV g p m k0 k1 [] = some (k0, k1) := by cases m <;> simp [zdV]
theorem TR.list_ne {t : TR} (h : t ≠ .nil) : t.list ≠ [] := by
 cases t with
 | nil => exact absurd rfl h
 | nd p o l r => rw [TR.list_nd]; simp
theorem zgs {p : Key} {b : Bool} {q : Key} {o : Own} {l r : TR} (h : (TR.nd q o l r).under (p ++ [b])) : zeK p q = true ∧ zbK q p.length = b := by
 have hb : zbK q p.length = b := zda h
 exact ⟨zhV.2 (by rw [hb]; exact h), hb⟩
theorem zez : ∀ {t : TR} {n : Nat} {rest : List ND}, GoodT t → t.list.length ≤ n → zdk n (t.list ++ rest) = some (t, rest)
 | .nil, n, rest, h, _ => absurd rfl h.2.2
 | .nd p o l r, 0, rest, h, hn => by rw [TR.list_nd] at hn; simp at hn
 | .nd p o l r, n + 1, rest, h, hn => by
  obtain ⟨⟨v1, v2, v3, v4, v5⟩, ⟨s0, s1, s2⟩, _⟩ := h
  have hkey : ND.key ⟨zaA p, p.length, o, (((l.list ++ r.list).length + 1 : Nat) : Int)⟩ = p := addr_key p s0
  have hf : ND.fault ⟨zaA p, p.length, o, (((l.list ++ r.list).length + 1 : Nat) : Int)⟩ = 0 := zcZ p s0
  have hlen : l.list.length + r.list.length ≤ n := by rw [TR.list_nd] at hn; simp at hn; exact hn
  have ht : ((l.list ++ r.list) ++ rest).take ((((l.list ++ r.list).length + 1 : Nat) : Int).toNat - 1) = l.list ++ r.list := by
   rw [show (((l.list ++ r.list).length + 1 : Nat) : Int).toNat - 1 = (l.list ++ r.list).length by omega, List.take_left']
   rfl
  have hd : ((l.list ++ r.list) ++ rest).drop ((((l.list ++ r.list).length + 1 : Nat) : Int).toNat - 1) = rest := by
   rw [show (((l.list ++ r.list).length + 1 : Nat) : Int).toNat - 1 = (l.list ++ r.list).length by omega, List.drop_left']
   rfl
  rw [TR.list_nd, List.cons_append, zdk, if_neg (by
   rintro (h | h | h)
   ·have h' : (((l.list ++ r.list).length + 1 : Nat) : Int) < 1 := h
    omega
   ·have h' : ((((l.list ++ r.list) ++ rest).length + 1 : Nat) : Int) < (((l.list ++ r.list).length + 1 : Nat) : Int) := h
    have e9 : ((l.list ++ r.list) ++ rest).length = (l.list ++ r.list).length + rest.length := List.length_append
    rw [e9] at h'
    omega
   ·exact h hf)]
  simp only [hkey, ht, hd]
  have hk : zdV (zdk n) p (l.list ++ r.list).length .nil .nil (l.list ++ r.list) = some (l, r) := by
   have hr : ∀ (m : Nat) (k0 : TR), r.list.length ≤ m → zdV (zdk n) p m k0 .nil r.list = some (k0, r) := fun m k0 hm => by
    cases r with
    | nil => rw [TR.list_nil]; exact zgV
    | nd q o' a b =>
     have hne : (TR.nd q o' a b).list ≠ [] := TR.list_ne (by simp)
     obtain ⟨u1, u2⟩ := zgs v4
     have hg := zez (t := .nd q o' a b) (n := n) (rest := []) ⟨v2, s2, by simp⟩ (by omega)
     rw [List.append_nil] at hg
     cases m with
     | zero => exact absurd (List.eq_nil_of_length_eq_zero (by omega)) hne
     | succ m => rw [kidsF_one hne hg u1, if_pos u2]; simp only [TR.isNil, if_true]; exact zgV
   cases l with
   | nil => rw [TR.list_nil, List.nil_append]; exact hr _ _ (Nat.le_refl _)
   | nd q o' a b =>
    have hne : (TR.nd q o' a b).list ≠ [] := TR.list_ne (by simp)
    obtain ⟨u1, u2⟩ := zgs v3
    have hg := zez (t := .nd q o' a b) (n := n) (rest := r.list) ⟨v1, s1, by simp⟩ (by omega)
    have hpos := List.length_pos_iff.2 hne
    obtain ⟨m, hm⟩ : ∃ m, ((TR.nd q o' a b).list ++ r.list).length = m + 1 := ⟨((TR.nd q o' a b).list ++ r.list).length - 1, by rw [List.length_append]; omega⟩
    rw [hm, kidsF_one (by simp [hne]) hg u1, if_neg (by simp [u2])]
    simp only [TR.isNil, and_self, if_true]
    exact hr m _ (by rw [List.length_append] at hm; omega)
  rw [hk]
  refine zg7 ?_
  rintro ⟨e, h⟩
  obtain ⟨w1, w2⟩ := v5 e
  rcases h with h | h
  ·exact w1 (TR.isNil_iff.1 h)
  ·exact w2 (TR.isNil_iff.1 h)
theorem side_pre {M : List (Key × Own)} {b : Bool} : ∀ x ∈ zaS (zaT M) b M, zaT M ++ [b] <+: x.1 := fun x hx => by
 obtain ⟨h1, h2, h3⟩ := zgD.1 hx
 rw [← h3]; exact zcD (zdW x h1) h2
theorem side_lt {M : List (Key × Own)} (hM : M ≠ []) (b : Bool) : (zaS (zaT M) b M).length < M.length := by
 have hle : (zaS (zaT M) b M).length ≤ M.length := List.length_filter_le _ _
 rcases Nat.lt_or_ge (zaS (zaT M) b M).length M.length with h | h
 ·exact h
 ·exfalso
  have e : zaS (zaT M) b M = M := by
   have := List.filter_sublist (p := fun x : Key × Own => !decide (x.1 = zaT M) && (zbK x.1 (zaT M).length == b)) (l := M)
   exact this.eq_of_length (Nat.le_antisymm hle h)
  have hm : zaT M ++ [b] <+: zaT M := zgZ hM fun x hx => side_pre x (by rw [e]; exact hx)
  have := hm.length_le
  simp only [List.length_append, List.length_singleton] at this
  omega
theorem zh4 (top : Key) (M : List (Key × Own)) : (zaS top false M).length + (zaS top true M).length ≤ M.length := by
 induction M with
 | nil => simp [zaS]
 | cons x M ih =>
  unfold zaS at ih ⊢
  simp only [List.filter_cons]
  split <;> split <;> simp only [List.length_cons] <;> first
   | omega
   | (rename_i h1 h2; simp only [Bool.and_eq_true, beq_iff_eq] at h1 h2; rw [h1.2] at h2; exact absurd h2.2 (by decide))
theorem zdK : ∀ (n : Nat) (M : List (Key × Own)), (zbr n M).length ≤ 2 * M.length - 1
 | 0, [] => by simp [zbr]
 | 0, _ :: _ => by simp [zbr]
 | _ + 1, [] => by simp [zbr]
 | n + 1, x :: l => by
  have h1 := zdK n (zaS (zaT (x :: l)) false (x :: l))
  have h2 := zdK n (zaS (zaT (x :: l)) true (x :: l))
  have h3 := zh4 (zaT (x :: l)) (x :: l)
  have h4 := side_lt (M := x :: l) (by simp) false
  have h5 := side_lt (M := x :: l) (by simp) true
  simp only [zbr, List.length_cons, List.length_append] at *
  omega
theorem joinAll_le {M : List (Key × Own)} {k : Nat} (h : ∀ x ∈ M, x.1.length ≤ k) : (zaT M).length ≤ k := by
 cases M with
 | nil => simp [zaT]
 | cons x M => exact Nat.le_trans (zdW (l := x :: M) x (by simp)).length_le (h x (by simp))
def one (x : Key × Own) : ND := ⟨zaA x.1, x.1.length, x.2, 1⟩
theorem TR.list_ok : ∀ {t : TR}, t.short → (∀ x ∈ t.pairs, x.2.size ≤ 140737488351232) → t.list.length ≤ 4611686018427387904 → ∀ x ∈ t.list, x.OK
 | .nil, _, _, _, x, h => by cases h
 | .nd p o l r, hs, ho, hz, x, h => by
  have hpo : o.size ≤ 140737488351232 := by
   by_cases e : o = noOwn
   ·subst e; decide
   ·exact ho (p, o) (by simp [TR.pairs, zeX e])
  rw [TR.list_nd] at h hz
  have hz' := hz
  simp only [List.length_cons, List.length_append] at hz'
  rcases List.mem_cons.1 h with rfl | h
  ·obtain ⟨b0, b1⟩ := zbq p hs.1
   have := hs.1
   constructor <;> simp only [List.length_append] <;> omega
  ·rcases List.mem_append.1 h with h | h
   ·exact TR.list_ok hs.2.1 (fun x hx => ho x (by simp [TR.pairs, hx])) (by omega) x h
   ·exact TR.list_ok hs.2.2 (fun x hx => ho x (by simp [TR.pairs, hx])) (by omega) x h
def isTrie (l : List ND) (t : TR) : Prop := t.valid ∧ t.short ∧ l = t.list
theorem TR.short_of : ∀ {t : TR}, t.valid → (∀ x ∈ t.pairs, x.1.length ≤ 32) → t.short
 | .nil, _, _ => trivial
 | .nd p o l r, hv, h => by
  obtain ⟨x, hx⟩ := TR.pairs_ne hv (by simp)
  refine ⟨Nat.le_trans (TR.root_pre hv x hx).length_le (h x hx), TR.short_of hv.1 fun x hx => h x (by simp [TR.pairs, hx]), TR.short_of hv.2.1 fun x hx => h x (by simp [TR.pairs, hx])⟩
theorem TR.pairs_short : ∀ {t : TR}, t.short → ∀ x ∈ t.pairs, x.1.length ≤ 32
 | .nil, _, x, h => by cases h
 | .nd p o l r, hs, x, h => by
  simp only [TR.pairs, List.mem_append] at h
  rcases h with h | h | h
  ·obtain ⟨rfl, _⟩ := zgf h; exact hs.1
  ·exact TR.pairs_short hs.2.1 x h
  ·exact TR.pairs_short hs.2.2 x h
def grownL (K : List (Key × Own)) : List ND := (zbr K.length K).map toND
theorem grownL_tree {t : TR} {K : List (Key × Own)} (hv : t.valid) (hp : K.Perm t.pairs) : grownL K = t.list := by
 unfold grownL; rw [ze0 hv hp (Nat.le_refl _)]; rfl
theorem isTrie_grow {l : List ND} (hok : ∀ x ∈ l, x.OK) (hne : l ≠ []) : (∃ t, isTrie l t) ↔ ∃ t, zdk l.length l = some (t, []) := by
 constructor
 ·rintro ⟨t, hv, hs, rfl⟩
  have := zez (t := t) (n := t.list.length) (rest := []) ⟨hv, hs, fun e => by subst e; exact hne rfl⟩ (Nat.le_refl _)
  rw [List.append_nil] at this
  exact ⟨t, this⟩
 ·rintro ⟨t, h⟩
  obtain ⟨⟨hv, hs, _⟩, hl⟩ := zdY hok h
  exact ⟨t, hv, hs, by simpa using hl⟩
theorem put_short {t : TR} {n : Key} {o : Own} (hv : t.valid) (hs : t.short) (hn : n.length ≤ 32) (ho : o ≠ noOwn) : (t.put n o).short :=
 TR.short_of (TR.put_valid hv ho).1 fun x hx => by
  have := (TR.put_pairs (n := n) (o := o) hv ho).mem_iff.1 hx
  rcases List.mem_cons.1 this with rfl | h
  ·exact hn
  ·exact TR.pairs_short hs x ((List.mem_filter.1 h).1)
theorem rootOwn_take {top : Key} {M : List (Key × Own)} {i : Nat} {x : Key × Own} (h : M[i]? = some x) : zdx top (M.take (i + 1)) = if x.1 = top then x.2 else zdx top (M.take i) := by
 obtain ⟨hi, rfl⟩ := List.getElem?_eq_some_iff.1 h
 unfold zdx
 rw [List.take_succ_eq_append_getElem hi, List.foldl_append]; rfl
theorem zhz {top : Key} {b : Bool} {M : List (Key × Own)} {i : Nat} {x : Key × Own} (h : M[i]? = some x) : zaS top b (M.take (i + 1)) = zaS top b (M.take i) ++ if x.1 ≠ top ∧ zbK x.1 top.length = b then [x] else [] := by
 obtain ⟨hi, rfl⟩ := List.getElem?_eq_some_iff.1 h
 unfold zaS
 rw [List.take_succ_eq_append_getElem hi, List.filter_append]
 congr 1
 simp only [List.filter_cons, List.filter_nil]
 by_cases h1 : M[i].1 = top <;> by_cases h2 : zbK M[i].1 top.length = b <;> simp [h1, h2]
theorem joinK_take {p : Key} {M : List (Key × Own)} {i : Nat} {x : Key × Own} (h : M[i]? = some x) : zgY p ((M.take (i + 1)).map Prod.fst) = lcpL (zgY p ((M.take i).map Prod.fst)) x.1 := by
 obtain ⟨hi, rfl⟩ := List.getElem?_eq_some_iff.1 h
 unfold zgY
 rw [List.take_succ_eq_append_getElem hi, List.map_append, List.foldl_append]; rfl
theorem take_len {α : Type} (l : List α) (i : Nat) : (l.take i).length ≤ l.length := by rw [List.length_take]; omega
end Go.Proofs.YtbjdjclkbjpebaaGreatDoor
