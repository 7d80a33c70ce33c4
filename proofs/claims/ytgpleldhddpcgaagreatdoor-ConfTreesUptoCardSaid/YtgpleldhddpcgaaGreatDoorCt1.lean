/- The tree of a configuration's nets, as data. -/
import Derived.Test.YtgpleldhddpcgaaGreatDoorCf2
import Derived.Test.YtgpleldhddpcgaaGreatDoorTw5
import Derived.Test.YtgpleldhddpcgaaGreatDoorTrY
--%T
namespace Go.Proofs.YtgpleldhddpcgaaGreatDoor
open Go.RowKit Go.Sort
set_option linter.unusedVariables false
set_option linter.unusedSimpArgs false
set_option maxRecDepth 100000

def nkey (n : NtP) : Key := keyOf n.1.toNat n.2.toNat
/-- a tree, and what was put into it, in order -/
structure TM (T : TR) (M : List (Key × Own)) : Prop where
  v : T.valid
  s : T.short
  p : M.Perm T.pairs
  l : T.list.length ≤ 2 * M.length
  k : ∀ x ∈ M, x.1.length ≤ 32
  o : ∀ x ∈ M, x.2.size ≤ 140737488351232
theorem TM.nil : TM .nil [] := ⟨trivial, trivial, .nil, Nat.le_refl _, by simp, by simp⟩
theorem TM.put {T : TR} {M : List (Key × Own)} (h : TM T M) {n : Key} {o : Own} (hn : n.length ≤ 32) (ho : o ≠ noOwn) (hz : o.size ≤ 140737488351232) (hk : ∀ x ∈ M, x.1 ≠ n) : TM (T.put n o) (M ++ [(n, o)]) := by
  have hp := TR.put_pairs (n := n) h.v ho
  rw [notK_all (fun x hx => hk x (h.p.mem_iff.2 hx))] at hp
  refine ⟨(TR.put_valid h.v ho).1, put_short h.v h.s hn ho, ?_, ?_, ?_, ?_⟩
  · exact (List.perm_append_singleton _ _).trans ((List.Perm.cons _ h.p).trans hp.symm)
  · have := TR.put_len T n o
    have := h.l
    rw [List.length_append]
    simp only [List.length_cons, List.length_nil]
    omega
  · intro x hx
    rcases List.mem_append.1 hx with hx | hx
    · exact h.k x hx
    · have : x = (n, o) := by simpa using hx
      rw [this]; exact hn
  · intro x hx
    rcases List.mem_append.1 hx with hx | hx
    · exact h.o x hx
    · have : x = (n, o) := by simpa using hx
      rw [this]; exact hz
theorem TM.ok {T : TR} {M : List (Key × Own)} (h : TM T M) (hM : M.length ≤ 1000) : ∀ x ∈ T.list, x.OK :=
  TR.list_ok h.s (fun x hx => h.o x (h.p.mem_iff.2 hx)) (by have := h.l; omega)
theorem TM.grown {T : TR} {M : List (Key × Own)} (h : TM T M) : grownL M = T.list := grownL_tree h.v h.p
/-- a net that may be, and its key -/
theorem nkey_ok {a b : Int} (h0 : 0 ≤ a) (h1 : a < 4294967296) (hf : netFault a b = 0) : (nkey (a, b)).length ≤ 32 ∧ a = addrK (nkey (a, b)) ∧ b = ((nkey (a, b)).length : Int) :=
  ND.keyed (x := ⟨a, b, noOwn, 0⟩) h0 h1 hf
theorem nkey_inj {n m : NtP} (hn : ntOK n) (hm : ntOK m) (fn : netFault n.1 n.2 = 0) (fm : netFault m.1 m.2 = 0) (h : nkey n = nkey m) : n = m := by
  obtain ⟨a, b⟩ := n
  obtain ⟨c, d⟩ := m
  obtain ⟨_, h1, h2⟩ := nkey_ok hn.1 hn.2 fn
  obtain ⟨_, h3, h4⟩ := nkey_ok hm.1 hm.2 fm
  rw [h] at h1 h2
  have e1 : a = c := h1.trans h3.symm
  have e2 : b = d := h2.trans h4.symm
  rw [e1, e2]
/-! what a configuration puts -/
def pairsP (p : PE) (j : Nat) : List (Key × Own) := (p.nets.take j).map fun n => (nkey n, p.key)
def pairsB (l : List PE) (i : Nat) : List (Key × Own) := (l.take i).flatMap fun p => p.nets.map fun n => (nkey n, p.key)
theorem pairsB_next {l : List PE} {i : Nat} {p : PE} (h : l[i]? = some p) : pairsB l (i + 1) = pairsB l i ++ pairsP p p.nets.length := by
  obtain ⟨h1, h2⟩ := List.getElem?_eq_some_iff.1 h
  unfold pairsB pairsP
  rw [List.take_succ_eq_append_getElem h1, h2, List.flatMap_append, List.take_length]
  simp
theorem pairsP_next {p : PE} {j : Nat} {n : NtP} (h : p.nets[j]? = some n) : pairsP p (j + 1) = pairsP p j ++ [(nkey n, p.key)] := by
  obtain ⟨h1, h2⟩ := List.getElem?_eq_some_iff.1 h
  unfold pairsP
  rw [List.take_succ_eq_append_getElem h1, h2, List.map_append]
  rfl
theorem pairs_keys (l : List PE) (i : Nat) (p : PE) (j : Nat) : ∀ x ∈ pairsB l i ++ pairsP p j, ∃ m, m ∈ netsB l i ++ p.nets.take j ∧ x.1 = nkey m := by
  intro x hx
  rcases List.mem_append.1 hx with hx | hx
  · unfold pairsB at hx
    obtain ⟨q, hq, hx⟩ := List.mem_flatMap.1 hx
    obtain ⟨m, hm, rfl⟩ := List.mem_map.1 hx
    exact ⟨m, List.mem_append.2 (.inl (List.mem_flatMap.2 ⟨q, hq, hm⟩)), rfl⟩
  · unfold pairsP at hx
    obtain ⟨m, hm, rfl⟩ := List.mem_map.1 hx
    exact ⟨m, List.mem_append.2 (.inr hm), rfl⟩
theorem pairsB_len (l : List PE) : ∀ i, (pairsB l i).length = (netsB l i).length := by
  intro i
  unfold pairsB netsB
  induction (l.take i) with
  | nil => rfl
  | cons p r ih => simp [List.flatMap_cons, ih]
theorem dupN_no : ∀ (ns acc : List NtP), dupN acc ns = false → ∀ j (n : NtP), ns[j]? = some n → n ∉ acc ++ ns.take j
  | [], _, _, j, n, h => by simp at h
  | x :: r, acc, hd, 0, n, h => by
    unfold dupN at hd
    rw [Bool.or_eq_false_iff] at hd
    simp at h; subst h
    simpa using hd.1
  | x :: r, acc, hd, j + 1, n, h => by
    unfold dupN at hd
    rw [Bool.or_eq_false_iff] at hd
    have := dupN_no r (acc ++ [x]) hd.2 j n (by simpa using h)
    rwa [List.append_assoc, List.singleton_append] at this
/-- a good configuration -/
structure CfGood (l : List PE) : Prop where
  n6 : l.length ≤ 6
  pe : ∀ p ∈ l, peE p = 0
  nd : ∀ i p, l[i]? = some p → dupN (netsB l i) p.nets = false
theorem cf_good {c : CF} (h : cfE c = 0) : CfGood c.ps := by
  unfold cfE at h
  split at h
  · rename_i h2; exact absurd h h2.2
  split at h
  · cases h
  split at h
  · cases h
  have key : ∀ i p, c.ps[i]? = some p → peE p = 0 ∧ dupN (netsB c.ps i) p.nets = false := by
    intro i p hp
    have hi := (List.getElem?_eq_some_iff.1 hp).1
    have h1 := fnz_zero h i hi
    unfold cfStep at h1
    rw [peG_at hp] at h1
    split at h1
    · exact absurd h1 (by assumption)
    · rename_i h2
      split at h1
      · cases h1
      split at h1
      · cases h1
      · rename_i h3
        exact ⟨Decidable.not_not.1 h2, by simpa using h3⟩
  refine ⟨by omega, fun p hp => ?_, fun i p hp => (key i p hp).2⟩
  obtain ⟨i, hi, rfl⟩ := List.getElem_of_mem hp
  exact (key i _ (List.getElem?_eq_getElem hi)).1
theorem CfGood.net {l : List PE} (h : CfGood l) {p : PE} (hp : p ∈ l) : ∀ n ∈ p.nets, netFault n.1 n.2 = 0 := by
  have h1 := h.pe p hp
  unfold peE at h1
  split at h1
  · exact absurd h1 (by assumption)
  split at h1
  · rename_i h2; exact absurd h1 h2.2
  split at h1
  · cases h1
  split at h1
  · rename_i h2; exact absurd h1 h2.2
  split at h1
  · cases h1
  split at h1
  · cases h1
  intro n hn
  obtain ⟨j, hj, rfl⟩ := List.getElem_of_mem hn
  have h2 := fnz_zero h1 j hj
  unfold ntStep at h2
  have hg : ntG p.nets j = p.nets[j] := by unfold ntG; rw [List.getD_eq_getElem?_getD, List.getElem?_eq_getElem hj]; rfl
  rw [hg] at h2
  split at h2
  · exact absurd h2 (by assumption)
  · rename_i h3; exact Decidable.not_not.1 h3
theorem CfGood.netB {l : List PE} (h : CfGood l) (ok : ∀ p ∈ l, p.OK) (i : Nat) : ∀ n ∈ netsB l i, ntOK n ∧ netFault n.1 n.2 = 0 := by
  intro n hn
  obtain ⟨p, hp, hn⟩ := List.mem_flatMap.1 hn
  have hm := List.mem_of_mem_take hp
  exact ⟨(ok p hm).nets n hn, h.net hm n hn⟩
/-- a net of a good configuration is new at its turn -/
theorem CfGood.new {l : List PE} (h : CfGood l) (ok : ∀ p ∈ l, p.OK) {i j : Nat} {p : PE} {n : NtP} (hp : l[i]? = some p) (hn : p.nets[j]? = some n) : ∀ x ∈ pairsB l i ++ pairsP p j, x.1 ≠ nkey n := by
  intro x hx he
  obtain ⟨m, hm, hk⟩ := pairs_keys l i p j x hx
  have hpm := List.mem_of_getElem? hp
  have hnm := List.mem_of_getElem? hn
  have hmok : ntOK m ∧ netFault m.1 m.2 = 0 := by
    rcases List.mem_append.1 hm with hm | hm
    · exact h.netB ok i m hm
    · have hm := List.mem_of_mem_take hm
      exact ⟨(ok p hpm).nets m hm, h.net hpm m hm⟩
  have : m = n := nkey_inj hmok.1 ((ok p hpm).nets n hnm) hmok.2 (h.net hpm n hnm) (hk.symm.trans he)
  subst this
  exact dupN_no _ _ (h.nd i p hp) j m hn hm
theorem key_size {s : ByteArray} (h : keyE s = 0) : s.size ≤ 140737488351232 := by
  unfold keyE at h
  split at h
  · omega
  · cases h
theorem key_own {s : ByteArray} (h : keyE s = 0) : s ≠ noOwn := by
  intro e
  rw [e] at h
  exact absurd h (by decide +kernel)
/-- all of these put into an empty tree -/
def tOf (M : List (Key × Own)) : TR := M.foldl (fun t x => t.put x.1 x.2) .nil
theorem tOf_snoc (M : List (Key × Own)) (x : Key × Own) : tOf (M ++ [x]) = (tOf M).put x.1 x.2 := by
  unfold tOf
  rw [List.foldl_append]
  rfl
theorem pairsP_zero (p : PE) : pairsP p 0 = [] := by simp [pairsP]
theorem pairsB_zero (l : List PE) : pairsB l 0 = [] := by simp [pairsB]
theorem pairsP_len (p : PE) {j : Nat} (h : j ≤ p.nets.length) : (pairsP p j).length = j := by
  unfold pairsP
  rw [List.length_map, List.length_take]
  omega
theorem tOf_in {l : List PE} (h : CfGood l) (ok : ∀ p ∈ l, p.OK) {i : Nat} {p : PE} (hp : l[i]? = some p) (hT : TM (tOf (pairsB l i)) (pairsB l i)) : ∀ j, j ≤ p.nets.length → TM (tOf (pairsB l i ++ pairsP p j)) (pairsB l i ++ pairsP p j)
  | 0, _ => by rw [pairsP_zero, List.append_nil]; exact hT
  | j + 1, hj => by
    have ih := tOf_in h ok hp hT j (by omega)
    have hm := List.mem_of_getElem? hp
    have hn : p.nets[j]? = some p.nets[j] := List.getElem?_eq_getElem (by omega)
    have hnm := List.mem_of_getElem? hn
    have hk := (peE_nets (h.pe p hm)).2
    have hno := (ok p hm).nets _ hnm
    rw [pairsP_next hn, ← List.append_assoc, tOf_snoc]
    exact ih.put (nkey_ok hno.1 hno.2 (h.net hm _ hnm)).1 (key_own hk) (key_size hk) (h.new ok hp hn)
theorem tOf_all {l : List PE} (h : CfGood l) (ok : ∀ p ∈ l, p.OK) : ∀ i, i ≤ l.length → TM (tOf (pairsB l i)) (pairsB l i)
  | 0, _ => by rw [pairsB_zero]; exact TM.nil
  | i + 1, hi => by
    have hp : l[i]? = some l[i] := List.getElem?_eq_getElem (by omega)
    rw [pairsB_next hp]
    exact tOf_in h ok hp (tOf_all h ok i (by omega)) _ (Nat.le_refl _)
theorem pairs_few {l : List PE} (h : CfGood l) {i : Nat} (hi : i ≤ l.length) : (pairsB l i).length ≤ 8 * i := by
  rw [pairsB_len]
  refine netsB_len (fun j hj => ?_) hi
  have hj' : l[j]? = some l[j] := List.getElem?_eq_getElem (by omega)
  rw [peG_at hj']
  exact (peE_nets (h.pe _ (List.mem_of_getElem? hj'))).1
end Go.Proofs.YtgpleldhddpcgaaGreatDoor
