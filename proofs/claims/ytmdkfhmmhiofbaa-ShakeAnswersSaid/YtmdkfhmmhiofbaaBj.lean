/- bytes.Join without a separator, over data. -/
import Derived.Test.YtmdkfhmmhiofbaaMa4
import Derived.Test.YtmdkfhmmhiofbaaShelf
import Derived.Test.YtmdkfhmmhiofbaaStb
namespace Go.Proofs.Ytmdkfhmmhiofbaa
open Go.RowKit Go.Sort
set_option linter.unusedVariables false
set_option linter.unusedSimpArgs false
set_option maxRecDepth 100000

theorem bytes_inj {xs ys : List Int} (h : isB xs) (k : isB ys) (e : Lib.bytesOf xs = Lib.bytesOf ys) : xs = ys := by
  refine nums_inj h k ?_
  show (⟨(Lib.bytesOf xs).toArray⟩ : ByteArray) = ⟨(Lib.bytesOf ys).toArray⟩
  rw [e]
theorem bs_vals {S : Nat → Prop} {w : World} : ∀ {xs : List Int} {vs : List Value}, PRepL S w (bs xs) vs → vs = xs.map (.int .u8)
  | [], vs, h => by simpa [bs, PRepL] using h
  | x :: xs, vs, h => by
    simp only [bs, List.map_cons, PRepL, PRep] at h
    obtain ⟨u, us, rfl, ⟨rfl, _⟩, h3⟩ := h
    rw [bs_vals (xs := xs) h3]; rfl
theorem bsR_rep {S : Nat → Prop} {w : World} : ∀ xs : List Int, PRepL S w (bs xs) (xs.map (.int .u8))
  | [] => by simp [bs, PRepL]
  | x :: xs => by
    simp only [bs, List.map_cons, PRepL, PRep]
    exact ⟨_, _, rfl, ⟨rfl, rfl⟩, bsR_rep xs⟩
theorem holds_of {S : Nat → Prop} {w : World} {xs : List Int} {v : Value} (hB : isB xs) (h : PRep S w (.sl xs.length 1 (bs xs)) v) : Lib.HoldsBytes w v (Lib.bytesOf xs) := by
  simp only [PRep] at h
  obtain ⟨a, cap, vs, rfl, h2, h3, h4, h5⟩ := h
  have hl : (Lib.bytesOf xs).length = xs.length := Lib.bytesOf_length xs
  refine ⟨a, cap, by rw [hl], fun hn => ?_, fun ad had i x hx => ?_⟩
  · rcases h5 with h5 | ⟨b, off, h6, _⟩
    · exact List.eq_nil_of_length_eq_zero (by rw [hl]; exact h5)
    · rw [hn] at h6; cases h6
  · have hi : i < xs.length := by rw [← hl]; exact (List.getElem?_eq_some_iff.1 hx).1
    rcases h5 with h5 | ⟨b, off, h6, _, h8⟩
    · omega
    · rw [had] at h6
      obtain rfl := Option.some.inj h6
      have hv := bs_vals h4
      have e1 : xs[i]? = some xs[i] := List.getElem?_eq_getElem hi
      have e2 : vs[i]? = some (.int .u8 xs[i]) := by rw [hv, List.getElem?_map, e1]; rfl
      have e3 : x.toNat = xs[i].toNat := by
        unfold Lib.bytesOf at hx
        rw [List.getElem?_map, e1] at hx
        simp only [Option.map_some, Option.some.injEq] at hx
        rw [← hx]
        have := hB xs[i] (List.getElem_mem hi)
        rw [UInt8.toNat_ofNat']; omega
      have e4 : ((x.toNat : Nat) : Int) = xs[i] := by
        have := hB xs[i] (List.getElem_mem hi)
        omega
      rw [e4]
      rw [Addr.add_mid]
      exact h8 i _ e2
def bParts (ls : List (List Int)) : List PV := ls.map fun xs => .sl xs.length 1 (bs xs)
theorem parts_holds {S : Nat → Prop} {w : World} : ∀ {ls : List (List Int)} {vs : List Value}, (∀ xs ∈ ls, isB xs) → PRepL S w (bParts ls) vs → vs.length = (ls.map Lib.bytesOf).length ∧ ∀ (i : Nat) v l, vs[i]? = some v → (ls.map Lib.bytesOf)[i]? = some l → Lib.HoldsBytes w v l
  | [], vs, _, h => by
    simp only [bParts, List.map_nil, PRepL] at h
    subst h
    exact ⟨rfl, fun i v l h => by simp at h⟩
  | xs :: ls, vs, hB, h => by
    simp only [bParts, List.map_cons, PRepL] at h
    obtain ⟨u, us, rfl, h2, h3⟩ := h
    obtain ⟨i1, i2⟩ := parts_holds (ls := ls) (fun y hy => hB y (by simp [hy])) h3
    refine ⟨by simp only [List.length_cons, List.map_cons]; rw [i1], fun i v l hv hl => ?_⟩
    cases i with
    | zero =>
      simp at hv hl
      subst hv; subst hl
      exact holds_of (hB xs (by simp)) h2
    | succ i => exact i2 i v l (by simpa using hv) (by simpa using hl)
theorem join_flat : ∀ ls : List (List Int), Lib.join (ls.map Lib.bytesOf) [] = Lib.bytesOf ls.flatten
  | [] => rfl
  | x :: ls => by
    rw [List.map_cons, Lib.join_cons, List.flatten_cons]
    have e : Lib.joinTail [] (ls.map Lib.bytesOf) = (ls.map Lib.bytesOf).flatten := by unfold Lib.joinTail; rw [show ((fun x => ([] : List UInt8) ++ x)) = id from rfl, List.map_id]
    have e2 : ∀ l : List (List Int), (l.map Lib.bytesOf).flatten = Lib.bytesOf l.flatten := fun l => by
      induction l with
      | nil => rfl
      | cons y l ih => rw [List.map_cons, List.flatten_cons, List.flatten_cons, ih]; simp [Lib.bytesOf]
    rw [e, e2]
    simp [Lib.bytesOf]
theorem lens_flat : ∀ ls : List (List Int), Lib.lens (ls.map Lib.bytesOf) = ls.flatten.length
  | [] => rfl
  | x :: ls => by
    have := lens_flat ls
    unfold Lib.lens at this ⊢
    rw [List.map_cons, List.map_cons, List.sum_cons, this, List.flatten_cons, List.length_append, Lib.bytesOf_length]
theorem flat_B {ls : List (List Int)} (h : ∀ xs ∈ ls, isB xs) : isB ls.flatten := fun x hx => by
  obtain ⟨xs, h1, h2⟩ := List.mem_flatten.1 hx
  exact h xs h1 x h2
theorem bjoin_s (ls : List (List Int)) (hB : ∀ xs ∈ ls, isB xs) (h2 : 2 ≤ ls.length) (hn : ls.length ≤ 1000) (hz : ls.flatten.length ≤ 140737488355328) :
    Fn Try.prog 29 [.p (.sl ls.length 1 (bParts ls)), .p (.v (.slice none 0 0))] (.p (.sl ls.flatten.length 1 (bs ls.flatten))) [] := by
  intro w A us hA hG hus
  simp only [RepL] at hus
  obtain ⟨u1, us1, rfl, h3, u2, us2, rfl, h4, rfl⟩ := hus
  have h4 := rep_v h4
  subst h4
  simp only [Rep, PRep] at h3
  obtain ⟨a, cap, vs, rfl, g1, g2, g3, g4⟩ := h3
  rcases g4 with g4 | ⟨b, off, rfl, g5, g6⟩
  · omega
  obtain ⟨i1, i2⟩ := parts_holds hB g3
  have hP : Lib.PartsAt w ⟨b, off, none⟩ vs (ls.map Lib.bytesOf) := ⟨i1, fun i v hv => by
    rw [Addr.add_mid]
    exact g6 i v hv, i2⟩
  have hS : Lib.HoldsBytes w (.slice none 0 0) [] := ⟨none, 0, rfl, fun _ => rfl, fun a h => by cases h⟩
  have hC := Try.bytes_Join_many b off ls.length cap vs (ls.map Lib.bytesOf) (.slice none 0 0) [] w (by simp) h2 hP g1 hS (by omega) (by rw [lens_flat, List.length_nil, Nat.zero_mul, Nat.add_zero]; exact hz)
  refine hC.mono ?_
  rintro e w' ⟨v', rfl, hf, hbel⟩
  rw [join_flat] at hf
  obtain ⟨g, c, zs, rfl, f1, f2, f3, f4, f5, f6, f7, f8⟩ := hf
  rw [Lib.bytesOf_length] at f2 f6 ⊢
  have hFB := flat_B hB
  have hzs : zs.take ls.flatten.length = ls.flatten := bytes_inj (fun x hx => f5 x (List.mem_of_mem_take hx)) hFB f6
  refine ⟨_, rfl, fun x => A x ∨ (x = g ∧ 0 < ls.flatten.length), fun _ => none, ?_, ?_⟩
  · simp only [Rep, PRep]
    refine ⟨_, c, ls.flatten.map (.int .u8), rfl, f2, by rw [Nat.mul_one]; unfold bs; exact List.length_map .., bsR_rep _, ?_⟩
    by_cases h0 : ls.flatten.length = 0
    · exact .inl h0
    · refine .inr ⟨g, 0, rfl, .inr ⟨rfl, by omega⟩, fun j v hj => ?_⟩
      rw [List.getElem?_map] at hj
      cases hq : ls.flatten[j]? with
      | none => rw [hq] at hj; cases hj
      | some x =>
        rw [hq] at hj
        simp only [Option.map_some, Option.some.injEq] at hj
        subst hj
        have hjl := (List.getElem?_eq_some_iff.1 hq).1
        rw [Nat.zero_add, f7 j (by omega)]
        have : zs.getD j 0 = x := by
          rw [List.getD_eq_getElem?_getD]
          have h9 : (zs.take ls.flatten.length)[j]? = some x := by rw [hzs]; exact hq
          rw [List.getElem?_take, if_pos hjl] at h9
          rw [h9]; rfl
        rw [this]
  · refine ⟨hbel, ?_, ?_, fun o _ => rfl, fun o ob ho => (by cases ho), fun o o' ob ob' v v' b ho => (by cases ho), hG⟩
    · rintro x (hx | ⟨rfl, _⟩)
      · exact .inl hx
      · exact .inr f1
    · rintro x (hx | ⟨rfl, hpos⟩)
      · exact Nat.lt_of_lt_of_le (hA x hx) hbel.size
      · have hc := f7 0 (by omega)
        rw [World.cell?] at hc
        cases hq : w'.heap[x]? with
        | none => simp [hq] at hc
        | some ob => exact (Array.getElem?_eq_some_iff.1 hq).1
end Go.Proofs.Ytmdkfhmmhiofbaa
