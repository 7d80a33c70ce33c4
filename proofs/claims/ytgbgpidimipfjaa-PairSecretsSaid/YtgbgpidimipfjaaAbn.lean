/- How an argument of whatever data type is read: as plain data of its type. -/
import Derived.Test.YtgbgpidimipfjaaAbz
import Derived.OpenShut
import Derived.Deep.Slices
import Derived.SizedLaws
namespace Go.Proofs.Ytgbgpidimipfjaa
open Go.RowKit Go.Sort
set_option linter.unusedVariables false

/-- data of a type (looked at to a depth) -/
def Ty (P : Program) : Nat → TypeId → List PV → Prop
  | 0, _, _ => False
  | n + 1, t, ps => match P.underlying t with
    | some .bool => ∃ b, ps = [.v (.bool b)]
    | some (.int k) => ∃ i, ps = [.v (.int k i)] ∧ (Lit.int k i).wf = true
    | some .string => ∃ s, ps = [.v (.string s)] ∧ s.size ≤ reachBytes
    | some (.slice e) => ∃ L : List (List PV), ps = [.sl L.length (P.cellsOf e) L.flatten] ∧ (L.length ≤ maxLen ∧ L.length * P.bytesOf e ≤ reachBytes) ∧ ∀ x ∈ L, Ty P n e x ∧ x.length = P.cellsOf e
    | some (.struct fs) => ∃ L : List (List PV), ps = L.flatten ∧ L.length = fs.size ∧ ∀ (i : Nat) (f : Field) x, fs[i]? = some f → L[i]? = some x → Ty P n f.type x ∧ x.length = P.cellsOf f.type
    | some (.array m e) => ∃ L : List (List PV), ps = L.flatten ∧ L.length = m ∧ ∀ x ∈ L, Ty P n e x ∧ x.length = P.cellsOf e
    | _ => False

/-- the fields of a struct lie one behind the other -/
def tiles (P : Program) : List Field → Nat → Option Nat
  | [], off => some off
  | f :: fs, off => if f.offset = off then tiles P fs (off + P.cellsOf f.type) else none
def dataT (P : Program) : Nat → TypeId → Bool
  | 0, _ => false
  | n + 1, t => match P.underlying t with
    | some .bool => true
    | some (.int _) => true
    | some .string => true
    | some (.slice e) => decide (0 < P.cellsOf e) && dataT P n e
    | some (.struct fs) => (tiles P fs.toList 0 == some (P.cellsOf t)) && fs.toList.all fun f => dataT P n f.type
    | some (.array m e) => (m * P.cellsOf e == P.cellsOf t) && dataT P n e
    | _ => false

theorem prepL_flatten {S : Nat → Prop} {w : World} : ∀ {L : List (List PV)} {M : List (List Value)}, L.length = M.length → (∀ (i : Nat) (x : List PV) (y : List Value), L[i]? = some x → M[i]? = some y → PRepL S w x y) → PRepL S w L.flatten M.flatten
  | [], [], _, _ => by simp [PRepL]
  | x :: L, y :: M, hl, h => by
    simp only [List.flatten_cons]
    exact (h 0 x y (by simp) (by simp)).append (prepL_flatten (by simpa using hl) fun i a b ha hb => h (i + 1) a b (by simpa using ha) (by simpa using hb))
theorem cut_parts {α : Type} : ∀ (n k : Nat) (l : List α), l.length = n * k → ((List.range n).map fun i => (l.drop (i * k)).take k).flatten = l
  | 0, k, l, h => by simp at h; simp [h]
  | n + 1, k, l, h => by
    rw [List.range_succ_eq_map, List.map_cons, List.map_map, List.flatten_cons, Nat.zero_mul, List.drop_zero]
    have e : ((fun i => (l.drop (i * k)).take k) ∘ Nat.succ) = fun i => ((l.drop k).drop (i * k)).take k := by
      funext i
      simp only [Function.comp, List.drop_drop]
      congr 2
      rw [Nat.succ_mul, Nat.add_comm]
    rw [e, cut_parts n k (l.drop k) (by rw [List.length_drop, h, Nat.add_mul]; omega), List.take_append_drop]
theorem tile_parts {P : Program} {α : Type} : ∀ (fs : List Field) (off : Nat) (l : List α), tiles P fs off = some (off + l.length) → (fs.map fun f => (l.drop (f.offset - off)).take (P.cellsOf f.type)).flatten = l
  | [], off, l, h => by
    simp only [tiles, Option.some.injEq] at h
    have : l = [] := List.eq_nil_of_length_eq_zero (by omega)
    simp [this]
  | f :: fs, off, l, h => by
    have tl : ∀ (fs : List Field) (off n : Nat), tiles P fs off = some n → off ≤ n := by
      intro fs
      induction fs with
      | nil => intro off n h; simp only [tiles, Option.some.injEq] at h; omega
      | cons g gs ih =>
        intro off n h
        simp only [tiles] at h
        split at h
        · have := ih _ _ h; omega
        · cases h
    simp only [tiles] at h
    split at h
    · rename_i hf
      have hle := tl _ _ _ h
      have tf : ∀ (gs : List Field) (o n : Nat), tiles P gs o = some n → ∀ g ∈ gs, o ≤ g.offset := by
        intro gs
        induction gs with
        | nil => intro _ _ _ g hg; cases hg
        | cons a as ih =>
          intro o n hn g hg
          simp only [tiles] at hn
          split at hn
          · rename_i ha
            rcases List.mem_cons.1 hg with rfl | hg
            · omega
            · have := ih _ _ hn g hg; omega
          · cases hn
      have hfs := tf _ _ _ h
      rw [List.map_cons, List.flatten_cons, hf, Nat.sub_self, List.drop_zero]
      have e : (fs.map fun g => (l.drop (g.offset - off)).take (P.cellsOf g.type)) = fs.map fun g => ((l.drop (P.cellsOf f.type)).drop (g.offset - (off + P.cellsOf f.type))).take (P.cellsOf g.type) := by
        refine List.map_congr_left fun g hg => ?_
        rw [List.drop_drop]
        congr 2
        have := hfs g hg
        omega
      rw [e, tile_parts fs (off + P.cellsOf f.type) (l.drop (P.cellsOf f.type)) (by rw [h, List.length_drop]; congr 1; omega), List.take_append_drop]
    · cases h

section
variable {H : Type} {enc : TypeId × Value → H} {P : Program} {w : World} {spare : Nat → Bool} {held : Bool}
theorem cells_range {a : Addr} {n : Nat} {cs : List Value} (h : w.cells? 0 a n = some cs) : cs.length = n ∧ ∀ j v, cs[j]? = some v → w.cell? (a.add j) = some v := by
  unfold World.cells? at h
  rw [if_pos (Nat.zero_le _)] at h
  have hl := mapM_some_length h
  refine ⟨by simpa using hl, fun j v hj => ?_⟩
  have hjn : j < n := by have := (List.getElem?_eq_some_iff.1 hj).1; simp at hl; omega
  have := mapM_some_get h j j (by simp [hjn])
  rw [this]; exact hj
theorem weights_mem_all {z : Nat} {d : DataW H} {e : TypeId} : ∀ {l : List (DataW H)}, d ∈ l → z ∈ d.weights P e → z ∈ DataW.weightsAll P e l
  | [], h, _ => by cases h
  | a :: l, h, hz => by
    simp only [DataW.weightsAll, List.mem_append]
    rcases List.mem_cons.1 h with rfl | h
    · exact .inl hz
    · exact .inr (weights_mem_all h hz)
theorem open_any : ∀ (d n : Nat) (t : TypeId) (cs : List Value) (x : DataW H × List MemPlace), dataT P d t = true → DataW.trod enc P w 0 spare held n t cs = some x → (∀ z ∈ x.1.weights P t, z ≤ reachBytes) → ∃ ps, PRepL (fun b => b < w.heap.size) w ps cs ∧ Ty P d t ps
  | 0, _, _, _, _, h, _, _ => by simp [dataT] at h
  | d + 1, n, t, cs, x, hd, ht, hz => by
    unfold dataT at hd
    unfold Ty
    cases hu : P.underlying t with
    | none => simp [hu] at hd
    | some u =>
      simp only [hu] at hd ⊢
      cases u <;> simp only [Bool.false_eq_true] at hd
      case bool =>
        obtain ⟨b, rfl, _⟩ := DataW.trod_bool hu ht
        exact ⟨[.v (.bool b)], by simp only [PRepL, PRep]; exact ⟨_, _, rfl, ⟨rfl, rfl⟩, rfl⟩, b, rfl⟩
      case int k =>
        obtain ⟨i, rfl, _, hw⟩ := DataW.trod_int hu ht
        exact ⟨[.v (.int k i)], by simp only [PRepL, PRep]; exact ⟨_, _, rfl, ⟨rfl, rfl⟩, rfl⟩, i, rfl, hw⟩
      case string =>
        obtain ⟨s, rfl, hxe, hl⟩ := DataW.trod_string hu ht
        have hl2 : s.size ≤ reachBytes := by
          refine hz _ ?_
          rw [hxe]; simp [DataW.weights]
        exact ⟨[.v (.string s)], by simp only [PRepL, PRep]; exact ⟨_, _, rfl, ⟨rfl, rfl⟩, rfl⟩, s, rfl, hl2⟩
      case slice e =>
        simp only [Bool.and_eq_true, decide_eq_true_eq] at hd
        rcases Go.Deep.open_slice hu ht with ⟨rfl, _⟩ | ⟨a, len, cap, m, n', D, Pl, rfl, _, hlc, hcm, hm, hxe, hel⟩
        · refine ⟨[.sl 0 (P.cellsOf e) []], ?_, [], rfl, by simp, by simp⟩
          simp only [PRepL, PRep]
          exact ⟨_, _, rfl, ⟨none, 0, [], rfl, Nat.le_refl _, by simp, rfl, .inl trivial⟩, rfl⟩
        · have hmle : len ≤ m := by rw [hm]; split <;> omega
          have hby : len * P.bytesOf e ≤ reachBytes := by
            have h1 : (((List.range len).map D).length + ((List.range (m - len)).map fun j => D (len + j)).length) * P.bytesOf e ≤ reachBytes := by
              refine hz _ ?_
              rw [hxe]; simp [DataW.weights, hu]
            refine Nat.le_trans (Nat.mul_le_mul_right _ ?_) h1
            simp
          have hzD : ∀ i, i < len → ∀ z ∈ (D i).weights P e, z ≤ reachBytes := fun i hi z hz' => by
            refine hz z ?_
            rw [hxe]
            simp only [DataW.weights, hu]
            exact List.mem_cons_of_mem _ (List.mem_append_left _ (weights_mem_all (List.mem_map.2 ⟨i, by simpa using hi, rfl⟩) hz'))
          have hall : ∀ i, ∃ p : List Value × List PV, i < len → w.cells? 0 (a.add (i * P.cellsOf e)) (P.cellsOf e) = some p.1 ∧ PRepL (fun b => b < w.heap.size) w p.2 p.1 ∧ Ty P d e p.2 := by
            intro i
            by_cases hi : i < len
            · obtain ⟨cs', h1, h2⟩ := hel i (by omega)
              obtain ⟨ps, h3, h4⟩ := open_any d n' e cs' _ hd.2 h2 (hzD i hi)
              exact ⟨(cs', ps), fun _ => ⟨h1, h3, h4⟩⟩
            · exact ⟨([], []), fun h => absurd h hi⟩
          obtain ⟨F, hF⟩ := Classical.axiomOfChoice hall
          have hLl : ((List.range len).map fun i => (F i).2).length = len := by simp
          have hget : ∀ i x, ((List.range len).map fun i => (F i).2)[i]? = some x → i < len ∧ x = (F i).2 := by
            intro i x hx
            have hi : i < len := by have := (List.getElem?_eq_some_iff.1 hx).1; simpa using this
            simp [hi] at hx
            exact ⟨hi, hx.symm⟩
          have hsz : ∀ i, i < len → (F i).2.length = P.cellsOf e := fun i hi => by
            obtain ⟨h1, h2, _⟩ := hF i hi
            have := h2.length
            have h3 := (cells_range h1).1
            omega
          refine ⟨[.sl len (P.cellsOf e) ((List.range len).map fun i => (F i).2).flatten], ?_, (List.range len).map fun i => (F i).2, by rw [hLl], by rw [hLl]; exact ⟨by omega, hby⟩, ?_⟩
          · simp only [PRepL, PRep]
            refine ⟨_, _, rfl, ⟨some a, cap, ((List.range len).map fun i => (F i).1).flatten, rfl, hlc, ?_, ?_, ?_⟩, rfl⟩
            · have : ∀ l : List Nat, (∀ i ∈ l, i < len) → (l.map fun i => (F i).2).flatten.length = l.length * P.cellsOf e := by
                intro l
                induction l with
                | nil => intro _; simp
                | cons i l ih =>
                  intro hl
                  simp only [List.map_cons, List.flatten_cons, List.length_append, List.length_cons]
                  rw [ih fun j hj => hl j (by simp [hj]), hsz i (hl i (by simp)), Nat.add_mul]
                  omega
              rw [this _ fun i hi => by simpa using hi, List.length_range]
            · refine prepL_flatten (by simp) fun i x y hx hy => ?_
              obtain ⟨hi, rfl⟩ := hget i x hx
              have hy' : y = (F i).1 := by simp [hi] at hy; exact hy.symm
              rw [hy']
              exact (hF i hi).2.1
            · by_cases h0 : len = 0
              · exact .inl h0
              · right
                have h0' : 0 < len := by omega
                have c0 := cells_range (hF 0 h0').1
                obtain ⟨v0, hv0⟩ : ∃ v, (F 0).1[0]? = some v := ⟨_, List.getElem?_eq_getElem (by rw [c0.1]; exact hd.1)⟩
                have hc0 := c0.2 0 v0 hv0
                rw [Nat.zero_mul] at hc0
                obtain ⟨b, off, spot⟩ := a
                have hadd0 : ((⟨b, off, spot⟩ : Addr).add 0).add 0 = ⟨b, off, spot⟩ := by simp [Addr.add]
                rw [hadd0] at hc0
                have hspot : spot = none := by simpa using World.cell?_spot hc0
                subst hspot
                refine ⟨b, off, rfl, World.block_lt_of_cell? w _ hc0, fun j v hj => ?_⟩
                have hk : 0 < P.cellsOf e := hd.1
                have key : ∀ (n : Nat) (j : Nat) (v : Value), n ≤ len → (((List.range n).map fun i => (F i).1).flatten)[j]? = some v → w.cell? ⟨b, off + j, none⟩ = some v := by
                  intro n
                  induction n with
                  | zero => intro j v _ hj; simp at hj
                  | succ n ih =>
                    intro j v hn hj
                    have hlen : (((List.range n).map fun i => (F i).1).flatten).length = n * P.cellsOf e := by
                      have : ∀ l : List Nat, (∀ i ∈ l, i < len) → (l.map fun i => (F i).1).flatten.length = l.length * P.cellsOf e := by
                        intro l
                        induction l with
                        | nil => intro _; simp
                        | cons i l ih2 =>
                          intro hl
                          simp only [List.map_cons, List.flatten_cons, List.length_append, List.length_cons]
                          rw [ih2 fun j hj => hl j (by simp [hj]), (cells_range (hF i (hl i (by simp))).1).1, Nat.add_mul]
                          omega
                      rw [this _ fun i hi => by have : i < n := by simpa using hi
                                                omega, List.length_range]
                    rw [List.range_succ, List.map_append, List.flatten_append, List.getElem?_append, hlen] at hj
                    split at hj
                    · exact ih j v (by omega) hj
                    · rename_i hge
                      simp only [List.map_cons, List.map_nil, List.flatten_cons, List.flatten_nil, List.append_nil] at hj
                      have := (cells_range (hF n (by omega)).1).2 _ v hj
                      rw [Addr.add_mid, Addr.add_mid] at this
                      rw [← this]
                      congr 2
                      omega
                exact key len j v (Nat.le_refl _) hj
          · intro x hx
            obtain ⟨i, hi, rfl⟩ := List.mem_map.1 hx
            have hi' : i < len := by simpa using hi
            exact ⟨(hF i hi').2.2, hsz i hi'⟩
      case struct fs =>
        simp only [Bool.and_eq_true, beq_iff_eq, List.all_eq_true] at hd
        obtain ⟨xs, n', _, hxe, hl, hxl, hx⟩ := DataW.trod_struct hu ht
        have hall : ∀ f : Field, ∃ ps : List PV, f ∈ fs.toList → PRepL (fun b => b < w.heap.size) w ps ((cs.drop f.offset).take (P.cellsOf f.type)) ∧ Ty P d f.type ps := by
          intro f
          by_cases hf : f ∈ fs.toList
          · obtain ⟨i, hi, he⟩ := List.mem_iff_getElem.1 hf
            have hi' : i < fs.size := by simpa using hi
            have hfi : fs[i]? = some f := by rw [Array.getElem?_eq_getElem hi']; simpa using he
            have := hx i f hfi
            rw [List.getElem?_eq_getElem (by omega)] at this
            obtain ⟨ps, h3, h4⟩ := open_any d n' f.type _ _ (hd.2 f hf) this fun z hz' => by
              refine hz z ?_
              rw [hxe]
              simp only [DataW.weights, hu]
              exact DataW.weights_mem_each (j := i) (by rw [List.getElem?_map, show fs.toList[i]? = some f by simpa using hfi]; rfl) (by rw [List.getElem?_map, List.getElem?_eq_getElem (by omega)]; rfl) z hz'
            exact ⟨ps, fun _ => ⟨h3, h4⟩⟩
          · exact ⟨[], fun h => absurd h hf⟩
        obtain ⟨F, hF⟩ := Classical.axiomOfChoice hall
        have hcut := tile_parts (P := P) fs.toList 0 cs (by rw [hd.1, hl, Nat.zero_add])
        simp only [Nat.sub_zero] at hcut
        refine ⟨(fs.toList.map F).flatten, ?_, fs.toList.map F, rfl, by simp, fun i f x hi hx => ?_⟩
        · rw [← hcut]
          refine prepL_flatten (by simp) fun i x y hx hy => ?_
          simp only [List.getElem?_map, Option.map_eq_some_iff] at hx hy
          obtain ⟨f, h1, rfl⟩ := hx
          obtain ⟨f', h2, rfl⟩ := hy
          rw [h1] at h2; cases h2
          exact (hF f (List.mem_of_getElem? h1)).1
        · simp only [List.getElem?_map, Option.map_eq_some_iff] at hx
          obtain ⟨f', h1, rfl⟩ := hx
          have h2 : fs.toList[i]? = some f := by simpa using hi
          rw [h2] at h1; cases h1
          have hmem := List.mem_of_getElem? h2
          obtain ⟨k1, k2⟩ := hF f hmem
          refine ⟨k2, ?_⟩
          have k3 := k1.length
          rw [← k3, List.length_take, List.length_drop]
          have tb : ∀ (gs : List Field) (o n : Nat), tiles P gs o = some n → ∀ g ∈ gs, g.offset + P.cellsOf g.type ≤ n := by
            intro gs
            induction gs with
            | nil => intro _ _ _ g hg; cases hg
            | cons a as ih =>
              intro o n hn g hg
              simp only [tiles] at hn
              split at hn
              · rename_i ha
                rcases List.mem_cons.1 hg with rfl | hg
                · have tl : ∀ (fs : List Field) (off n : Nat), tiles P fs off = some n → off ≤ n := by
                    intro fs
                    induction fs with
                    | nil => intro off n h; simp only [tiles, Option.some.injEq] at h; omega
                    | cons g gs ih =>
                      intro off n h
                      simp only [tiles] at h
                      split at h
                      · have := ih _ _ h; omega
                      · cases h
                  have := tl _ _ _ hn
                  omega
                · exact ih _ _ hn g hg
              · cases hn
          have := tb _ _ _ hd.1 f hmem
          omega
      case array m e =>
        simp only [Bool.and_eq_true, beq_iff_eq] at hd
        obtain ⟨xs, n', _, hxe, hl, hxl, hx⟩ := DataW.trod_array hu ht
        have hall : ∀ i : Nat, ∃ ps : List PV, i < m → PRepL (fun b => b < w.heap.size) w ps ((cs.drop (i * P.cellsOf e)).take (P.cellsOf e)) ∧ Ty P d e ps := by
          intro i
          by_cases hi : i < m
          · have := hx i hi
            rw [List.getElem?_eq_getElem (by omega)] at this
            obtain ⟨ps, h3, h4⟩ := open_any d n' e _ _ hd.2 this fun z hz' => by
              refine hz z ?_
              rw [hxe]
              simp only [DataW.weights, hu]
              exact weights_mem_all (List.mem_map.2 ⟨_, List.getElem_mem _, rfl⟩) hz'
            exact ⟨ps, fun _ => ⟨h3, h4⟩⟩
          · exact ⟨[], fun h => absurd h hi⟩
        obtain ⟨F, hF⟩ := Classical.axiomOfChoice hall
        have hcut := cut_parts m (P.cellsOf e) cs (by rw [hl, hd.1])
        refine ⟨((List.range m).map F).flatten, ?_, (List.range m).map F, rfl, by simp, fun x hx => ?_⟩
        · rw [← hcut]
          refine prepL_flatten (by simp) fun i x y hx hy => ?_
          have hi : i < m := by have := (List.getElem?_eq_some_iff.1 hx).1; simpa using this
          simp [hi] at hx hy
          rw [← hx, ← hy]
          exact (hF i hi).1
        · obtain ⟨i, hi, rfl⟩ := List.mem_map.1 hx
          have hi' : i < m := by simpa using hi
          obtain ⟨k1, k2⟩ := hF i hi'
          refine ⟨k2, ?_⟩
          rw [← k1.length, List.length_take, List.length_drop, hl, ← hd.1]
          have : i * P.cellsOf e + P.cellsOf e ≤ m * P.cellsOf e := by rw [← Nat.succ_mul]; exact Nat.mul_le_mul_right _ hi'
          omega

/-- an argument as data -/
def argAV (row : Bool) (ps : List PV) : AV := bif row then .agg (ps.map AV.p) else match ps with
  | [x] => .p x
  | _ => .any
theorem arg_rep {t : TypeId} {u : TypeDesc} {d : Nat} {v : Value} {dd : DataW H} {pl : List MemPlace} {r : Reach} {b0 : Nat} (hu : P.underlying t = some u) (hd : dataT P d t = true) (hval : Value.okWide P w r b0 t v) (ht : DataW.Trod enc P w 0 spare held t v dd pl) (hz : ∀ z ∈ dd.weights P t, z ≤ reachBytes) :
    ∃ ps, Ty P d t ps ∧ Rep (fun b => b < w.heap.size) (fun _ => none) w (argAV u.isRow ps) v := by
  obtain ⟨n, hn⟩ := ht
  obtain ⟨ps, h1, h2⟩ := open_any d n t _ _ hd hn hz
  refine ⟨ps, h2, ?_⟩
  have scalar : u.isRow = false → v.cells = #[v] → Rep (fun b => b < w.heap.size) (fun _ => none) w (argAV u.isRow ps) v := by
    intro e1 e2
    rw [e2] at h1
    have hl := h1.length
    match ps, hl with
    | [x], _ =>
      rw [e1]
      simp only [PRepL] at h1
      obtain ⟨a, as, h3, h4, h5⟩ := h1
      simp only [List.cons.injEq] at h3
      show Rep _ _ _ (.p x) v
      simp only [Rep]
      rw [h3.1]; exact h4
  have agg : ∀ cs : Array Value, v = .agg cs → u.isRow = true → Rep (fun b => b < w.heap.size) (fun _ => none) w (argAV u.isRow ps) v := by
    intro cs e1 e2
    subst e1
    rw [e2]
    show Rep _ _ _ (.agg (ps.map AV.p)) _
    simp only [Rep]
    exact ⟨cs.toList, by simp, h1.repL, h1.one⟩
  cases d with
  | zero => simp [dataT] at hd
  | succ d =>
    unfold dataT at hd
    rw [hu] at hd
    cases u <;> simp only [Bool.false_eq_true] at hd
    case bool => obtain ⟨b, rfl⟩ := Go.WideShapes.okWide_bool hu hval; exact scalar rfl rfl
    case int k => obtain ⟨i, rfl⟩ := Go.WideShapes.okWide_int hu hval; exact scalar rfl rfl
    case string => obtain ⟨s, rfl⟩ := Go.WideShapes.okWide_string hu hval; exact scalar rfl rfl
    case slice e => obtain ⟨a, len, cap, rfl⟩ := Go.WideShapes.okWide_slice hu hval; exact scalar rfl rfl
    case struct fs => obtain ⟨cs, rfl, _⟩ := Go.WideShapes.okWide_struct hu hval; exact agg cs rfl rfl
    case array m e =>
      simp only [Value.okWide, hu] at hval
      obtain ⟨cs, rfl, _⟩ := hval
      exact agg cs rfl rfl
end
end Go.Proofs.Ytgbgpidimipfjaa
