/- Tries, the references: the check. -/
import Derived.Test.YtgpleldhddpcgaaGreatDoorTw7
--%T
namespace Go.Proofs.YtgpleldhddpcgaaGreatDoor
open Go.RowKit Go.Sort
set_option linter.unusedVariables false
set_option linter.unusedSimpArgs false
set_option maxRecDepth 100000

theorem trieE_cases {l : List ND} (hf : ∀ x ∈ l, x.fault = 0) : trieE l = 0 ∨ trieE l = 14 := by
  unfold trieE
  rw [if_neg (by rw [Decidable.not_not]; exact faultL_zero.2 hf)]
  split
  · exact .inl rfl
  · split
    · exact .inl rfl
    · exact .inr rfl
theorem trieE_no {l : List ND} (hok : ∀ x ∈ l, x.OK) (hf : ∀ x ∈ l, x.fault = 0) (h : ¬ (((prs l).map Prod.fst).Nodup ∧ grownL (prs l) = l)) : trieE l = 14 := by
  rcases trieE_cases hf with h0 | h0
  · exact absurd ((isTrie_grown hok hf).1 ⟨_, (trieE_iff hok).1 h0⟩) h
  · exact h0
theorem trieE_yes {l : List ND} (hok : ∀ x ∈ l, x.OK) (hf : ∀ x ∈ l, x.fault = 0) (h : ((prs l).map Prod.fst).Nodup ∧ grownL (prs l) = l) : trieE l = 0 := by
  obtain ⟨t, hv, hs, hl⟩ := (isTrie_grown hok hf).2 h
  have := (trieE_list (t := t) (by rw [← hl]; exact hok) hv hs).1
  rw [hl]; exact this
def ndVals (x : ND) : List Value := [.int .u32 x.a, .int .i64 x.n, .string x.o, .int .i64 x.s]
theorem ndEq {x y : ND} : eqL (ndVals x) (ndVals y) = true ↔ x = y := by
  rw [eqL_true]
  constructor
  · intro h
    simp only [ndVals, List.cons.injEq, Value.int.injEq, Value.string.injEq, true_and, and_true] at h
    exact ND.ext' h.1 h.2.1 h.2.2.1 h.2.2.2
  · intro h; rw [h]

/-! the law -/
theorem ND.of_ty {n : Nat} {ps : List PV} (h : Ty Tryz.prog (n + 3) 55 ps) : ∃ x : ND, x.OK ∧ ps = x.pv := by
  obtain ⟨_, rfl, x0, _, rfl, t0, x1, _, rfl, t1, x2, _, rfl, t2, rfl⟩ := ty_struct (ts := [52, 9, 3]) (by kernel_rfl) h
  obtain ⟨_, rfl, y0, _, rfl, u0, y1, _, rfl, u1, rfl⟩ := ty_struct (ts := [50, 3]) (by kernel_rfl) t0
  obtain ⟨a1, rfl, w1⟩ := ty_string Tryz.underlying9 t1
  obtain ⟨a2, rfl, w2⟩ := ty_int Tryz.underlying3 t2
  obtain ⟨b0, rfl, v0⟩ := ty_int Tryz.underlying50 u0
  obtain ⟨b1, rfl, v1⟩ := ty_int Tryz.underlying3 u1
  refine ⟨⟨b0, b1, a1, a2⟩, ?_, rfl⟩
  have := wf_i64 w2; have := wf_i64 v1; have := wf_u32 v0
  have : reachBytes ≤ 140737488351232 := Nat.le_of_ble_eq_true rfl
  constructor <;> simp only <;> omega
theorem nodes_of_ty {n : Nat} {ps : List PV} (h : Ty Tryz.prog (n + 4) 25 ps) : ∃ l : List ND, (∀ x ∈ l, x.OK) ∧ l.length * 40 ≤ 140737488351232 ∧ ps = [ndsV l] := by
  obtain ⟨L, rfl, hz, hL⟩ := ty_sliceS Tryz.underlying25 (sz := 4) (by kernel_rfl) h
  have hb : Tryz.prog.bytesOf 55 = 40 := by kernel_rfl
  rw [hb] at hz
  have : reachBytes ≤ 140737488351232 := Nat.le_of_ble_eq_true rfl
  have hex : ∃ l : List ND, (∀ x ∈ l, x.OK) ∧ L = l.map ND.pv := by
    clear hz this h
    induction L with
    | nil => exact ⟨[], by simp, rfl⟩
    | cons y L ih =>
      obtain ⟨l, h1, h2⟩ := ih (fun x hx => hL x (by simp [hx]))
      obtain ⟨x, hx, e⟩ := ND.of_ty (hL y (by simp)).1
      refine ⟨x :: l, fun z hz => ?_, by rw [h2, e]; rfl⟩
      rcases List.mem_cons.1 hz with rfl | hz
      · exact hx
      · exact h1 z hz
  obtain ⟨l, h1, rfl⟩ := hex
  rw [List.length_map] at hz
  refine ⟨l, h1, by omega, ?_⟩
  rw [List.length_map]
  unfold ndsV nds
  rw [List.flatMap_def]
end Go.Proofs.YtgpleldhddpcgaaGreatDoor
