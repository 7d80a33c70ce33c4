/- The machine over data: slices of slices, make, append, conversions, literals, calls. -/
import Derived.Test.YtgbgpidimipfjaaAbt
namespace Go.Proofs.Ytgbgpidimipfjaa
open Go.RowKit Go.Sort
set_option linter.unusedVariables false

section
variable {P : Program}
/-- a bound of a slice expression: left out, or a number -/
def Bnd (v : Option Value) (dflt n : Nat) : Prop := (v = none ∧ n = dflt) ∨ ∃ k i, v = some (.int k i) ∧ 0 ≤ i ∧ i.toNat = n
theorem run_bounds {isS : Bool} {len cap l h : Nat} {lo hi : Option Value} (h1 : Bnd lo 0 l) (h2 : Bnd hi len h) (hlh : l ≤ h) (hh : h ≤ cap) (w : World) :
    (Instr.sliceBounds isS len cap lo hi none).run P w = .ok (l, h, cap) w := by
  rcases h1 with ⟨rfl, rfl⟩ | ⟨k, i, rfl, h3, rfl⟩ <;> rcases h2 with ⟨rfl, rfl⟩ | ⟨k', j, rfl, h4, rfl⟩
  · simp [Instr.sliceBounds]
  · have e : j ≤ (cap : Int) := by omega
    simp [Instr.sliceBounds, Instr.sliceBound, asIntOf, h4, e]
  · have e : i ≤ (h : Int) := by omega
    simp [Instr.sliceBounds, Instr.sliceBound, asIntOf, h3, e]
  · have e : j ≤ (cap : Int) := by omega
    have e2 : i ≤ max j 0 := by omega
    have e3 : i ≤ ((j.toNat : Nat) : Int) := by omega
    simp [Instr.sliceBounds, Instr.sliceBound, asIntOf, h3, h4, e]
    intro hc
    omega
theorem run_sliceS {t e : TypeId} {size : Nat} (hu : P.underlying t = some (.slice e)) (hi : (P.info? e).map (·.size) = some size) {lo hi' : Option Value} {a : Option Addr} {len cap l h : Nat} (h1 : Bnd lo 0 l) (h2 : Bnd hi' len h) (hlh : l ≤ h) (hh : h ≤ cap) (w : World) :
    (Instr.sliceAt t (.slice a len cap) lo hi' none).run P w = .ok (.slice (if cap = l then a else a.map (·.add (l * size))) (h - l) (cap - l)) w := by
  have hb := run_bounds (P := P) (isS := true) h1 h2 hlh hh w
  simp [Instr.sliceAt, Instr.slice, run_underlying hu, hb, run_sizeOf hi]
theorem run_sliceA {t e : TypeId} {size n : Nat} (hu : P.underlying t = some (.array n e)) (hi : (P.info? e).map (·.size) = some size) {lo hi' : Option Value} {b o l h : Nat} (h1 : Bnd lo 0 l) (h2 : Bnd hi' n h) (hlh : l ≤ h) (hh : h ≤ n) (w : World) :
    (Instr.sliceAt t (.pointer (some ⟨b, o, none⟩)) lo hi' none).run P w = .ok (.slice (some (if n = l then ⟨b, o, none⟩ else ⟨b, o + l * size, none⟩)) (h - l) (n - l)) w := by
  have hb := run_bounds (P := P) (isS := false) h1 h2 hlh hh w
  simp [Instr.sliceAt, Instr.sureAddr, run_underlying hu, hb, run_sizeOf hi, Addr.add_mid]
theorem run_sliceStr {t : TypeId} (hu : P.underlying t = some .string) {lo hi' : Option Value} {s : ByteArray} {l h : Nat} (h1 : Bnd lo 0 l) (h2 : Bnd hi' s.size h) (hlh : l ≤ h) (hh : h ≤ s.size) (w : World) :
    (Instr.sliceAt t (.string s) lo hi' none).run P w = .ok (.string (s.extract l h)) w := by
  have hb := run_bounds (P := P) (isS := false) h1 h2 hlh hh w
  simp [Instr.sliceAt, Instr.slice, run_underlying hu, hb]
end

/-- the bounds of a slice expression among the operands -/
def bndA : Option Operand → Nat → Option AV → Prop
  | none, _, x => x = none
  | some _, n, x => ∃ k i, x = some (.p (.v (.int k i))) ∧ 0 ≤ i ∧ i.toNat = n
theorem bnd_of {S : Nat → Prop} {m : Nat → Option Value} {w : World} {ev : Operand → Value} {y : Operand} {k : IntKind} {i : Int} {dflt n : Nat} (h : Rep S m w (.p (.v (.int k i))) (ev y)) (h0 : 0 ≤ i) (hn : i.toNat = n) : Bnd (some (ev y)) dflt n :=
  .inr ⟨k, i, by rw [rep_v h], h0, hn⟩

section
variable {P : Program} {d : Option Tmp} {ty : TypeId} {pos : String} {af : Array Edge} {g : Option (Nat × Bool)}
/-- how a slice expression's operands stand: x, and one or two bounds -/
def SlOps (x : Operand) (lo hi : Option Operand) (X : AV) (L H : Option (IntKind × Int)) : List AV :=
  X :: ((match lo, L with | some _, some (k, i) => [AV.p (.v (.int k i))] | some _, none => [.any] | _, _ => []) ++ (match hi, H with | some _, some (k, i) => [AV.p (.v (.int k i))] | some _, none => [.any] | _, _ => []))
def bOK (lo : Option Operand) (L : Option (IntKind × Int)) (dflt n : Nat) : Prop :=
  match lo, L with
  | none, none => n = dflt
  | some _, some (_, i) => 0 ≤ i ∧ i.toNat = n
  | _, _ => False
theorem slOps_rep {S : Nat → Prop} {m : Nat → Option Value} {w : World} {ev : Operand → Value} {t : TypeId} {x : Operand} {lo hi : Option Operand} {X : AV} {L H : Option (IntKind × Int)} {dl dh l h : Nat}
    (hL : bOK lo L dl l) (hH : bOK hi H dh h) (hr : RepL S m w (SlOps x lo hi X L H) ((Op.slice t x lo hi none).operands.toList.map ev)) : Rep S m w X (ev x) ∧ Bnd (lo.map ev) dl l ∧ Bnd (hi.map ev) dh h := by
  cases lo <;> cases hi <;> cases L <;> cases H <;> simp only [bOK] at hL hH
  · refine ⟨repL1 (u := ev x) hr, .inl ⟨rfl, hL⟩, .inl ⟨rfl, hH⟩⟩
  · rename_i y q
    obtain ⟨h1, h2⟩ := repL2 (u := ev x) (v := ev y) hr
    exact ⟨h1, .inl ⟨rfl, hL⟩, bnd_of h2 hH.1 hH.2⟩
  · rename_i y q
    obtain ⟨h1, h2⟩ := repL2 (u := ev x) (v := ev y) hr
    exact ⟨h1, bnd_of h2 hL.1 hL.2, .inl ⟨rfl, hH⟩⟩
  · rename_i y z q r
    obtain ⟨h1, h2, h3⟩ := repL3 (u := ev x) (v := ev y) (t := ev z) hr
    exact ⟨h1, bnd_of h2 hL.1 hL.2, bnd_of h3 hH.1 hH.2⟩

theorem a_sliceStr {t : TypeId} {x : Operand} {lo hi : Option Operand} {L H : Option (IntKind × Int)} {s u : ByteArray} {l h : Nat} (hu : P.underlying t = some .string) (hL : bOK lo L 0 l) (hH : bOK hi H s.size h) (hlh : l ≤ h) (hh : h ≤ s.size) (he : s.extract l h = u) :
    AOp P ⟨d, .slice t x lo hi none, ty, pos, af, g⟩ (SlOps x lo hi (.p (.v (.string s))) L H) [] [] (.p (.v (.string u))) :=
  aop_pure fun S m w ev hr => by
    obtain ⟨h1, h2, h3⟩ := slOps_rep (t := t) hL hH hr
    exact ⟨_, by simp only [execOp, rep_v h1, Option.map_none, Sem.run_bind, run_sliceStr hu h2 h3 hlh hh, Result.andThen_ok, Sem.run_pure]; rw [he], rep_mk rfl⟩
theorem a_sliceS {t e : TypeId} {x : Operand} {lo hi : Option Operand} {L H : Option (IntKind × Int)} {n k l h n' : Nat} {cs ds : List PV} (hu : P.underlying t = some (.slice e)) (hi' : (P.info? e).map (·.size) = some k) (hL : bOK lo L 0 l) (hH : bOK hi H n h) (hlh : l ≤ h) (hh : h ≤ n)
    (hn : h - l = n') (he : (cs.drop (l * k)).take (n' * k) = ds) :
    AOp P ⟨d, .slice t x lo hi none, ty, pos, af, g⟩ (SlOps x lo hi (.p (.sl n k cs)) L H) [] [] (.p (.sl n' k ds)) :=
  aop_pure fun S m w ev hr => by
    obtain ⟨h1, h2, h3⟩ := slOps_rep (t := t) hL hH hr
    simp only [Rep, PRep] at h1
    obtain ⟨a, cap, vs, k1, k2, k3, k4, k5⟩ := h1
    have hl := k4.length
    subst hn
    have hmul : l * k + (h - l) * k ≤ n * k := by rw [← Nat.add_mul]; exact Nat.mul_le_mul_right _ (by omega)
    refine ⟨.slice (if cap = l then a else a.map (·.add (l * k))) (h - l) (cap - l), by simp only [execOp, k1, Option.map_none, Sem.run_bind, run_sliceS hu hi' h2 h3 hlh (show h ≤ cap by omega), Result.andThen_ok, Sem.run_pure], ?_⟩
    simp only [Rep, PRep]
    refine ⟨_, _, (vs.drop (l * k)).take ((h - l) * k), rfl, by omega, by rw [← he, List.length_take, List.length_drop]; omega, he ▸ (k4.drop _).take _, ?_⟩
    by_cases h0 : h - l = 0
    · exact .inl h0
    · rcases k5 with k5 | ⟨b, off, rfl, k6, k7⟩
      · omega
      · rw [if_neg (by omega)]
        refine .inr ⟨b, off + l * k, by simp [Addr.add_mid], k6, fun j v hj => ?_⟩
        rw [List.getElem?_take] at hj
        split at hj
        · rw [List.getElem?_drop] at hj
          rw [Nat.add_assoc]
          exact k7 _ v hj
        · cases hj
theorem a_sliceR {t e e' : TypeId} {x : Operand} {lo hi : Option Operand} {L H : Option (IntKind × Int)} {o n k l h n' q size : Nat} {cs : List PV} (hu : P.underlying t = some (.slice e)) (hi' : (P.info? e).map (·.size) = some k) (hL : bOK lo L 0 l) (hH : bOK hi H n h) (hlh : l ≤ h) (hh : h ≤ n)
    (hn : h - l = n') (hq : l * k = q) :
    AOp P ⟨d, .slice t x lo hi none, ty, pos, af, g⟩ (SlOps x lo hi (.row o) L H) [(o, .live (.row e' size n cs))] [] (.psl o q n' k) :=
  aop_read fun w0 A S m heap w ev hm hR hrd => by
    obtain ⟨h1, h2, h3⟩ := slOps_rep (t := t) hL hH hR
    simp only [Rep] at h1
    obtain ⟨hx, _⟩ := h1
    obtain ⟨v, k1, k2, _⟩ := hm.live o _ (rd1 hrd)
    rw [hx] at k1
    subst hn
    obtain ⟨us, j1, j2, j3⟩ := k2
    rcases j3 with ⟨rfl, rfl⟩ | ⟨b, cap, cur, fz, rfl, _, _, _, j4, _⟩
    · have e1 : ev x = .slice none 0 0 := Option.some.inj k1
      refine ⟨.slice (if 0 = l then none else (none : Option Addr).map (·.add (l * k))) (h - l) (0 - l), by simp only [execOp, e1, Option.map_none, Sem.run_bind, run_sliceS hu hi' h2 h3 hlh hh, Result.andThen_ok, Sem.run_pure], ?_⟩
      simp only [Rep]
      exact ⟨_, _, rfl, by omega, .inl (by omega)⟩
    · have e1 : ev x = .slice (some ⟨b, 0, none⟩) n cap := Option.some.inj k1
      refine ⟨.slice (if cap = l then some ⟨b, 0, none⟩ else (some (⟨b, 0, none⟩ : Addr)).map (·.add (l * k))) (h - l) (cap - l), by simp only [execOp, e1, Option.map_none, Sem.run_bind, run_sliceS hu hi' h2 h3 hlh (show h ≤ cap by omega), Result.andThen_ok, Sem.run_pure], ?_⟩
      simp only [Rep]
      refine ⟨_, _, rfl, by omega, ?_⟩
      by_cases h0 : h - l = 0
      · exact .inl h0
      · rw [if_neg (by omega)]
        exact .inr ⟨b, _, hx, by rw [e1]; rfl, by simp [Addr.add_mid, hq]⟩
theorem a_sliceV {t e : TypeId} {x : Operand} {lo hi : Option Operand} {L H : Option (IntKind × Int)} {o off n k l h n' q : Nat} (hu : P.underlying t = some (.slice e)) (hi' : (P.info? e).map (·.size) = some k) (hL : bOK lo L 0 l) (hH : bOK hi H n h) (hlh : l ≤ h) (hh : h ≤ n)
    (hn : h - l = n') (hq : off + l * k = q) :
    AOp P ⟨d, .slice t x lo hi none, ty, pos, af, g⟩ (SlOps x lo hi (.psl o off n k) L H) [] [] (.psl o q n' k) :=
  aop_pure fun S m w ev hR => by
    obtain ⟨h1, h2, h3⟩ := slOps_rep (t := t) hL hH hR
    simp only [Rep] at h1
    obtain ⟨a, cap, k1, k2, k3⟩ := h1
    subst hn
    refine ⟨.slice (if cap = l then a else a.map (·.add (l * k))) (h - l) (cap - l), by simp only [execOp, k1, Option.map_none, Sem.run_bind, run_sliceS hu hi' h2 h3 hlh (show h ≤ cap by omega), Result.andThen_ok, Sem.run_pure], ?_⟩
    simp only [Rep]
    refine ⟨_, _, rfl, by omega, ?_⟩
    by_cases h0 : h - l = 0
    · exact .inl h0
    · rcases k3 with k3 | ⟨b, v0, k4, k5, rfl⟩
      · omega
      · rw [if_neg (by omega)]
        exact .inr ⟨b, v0, k4, k5, by simp [Addr.add_mid, hq]⟩
theorem a_sliceA {t e : TypeId} {x : Operand} {lo hi : Option Operand} {L H : Option (IntKind × Int)} {o off n k l h n' q : Nat} (hu : P.underlying t = some (.array n e)) (hi' : (P.info? e).map (·.size) = some k) (hL : bOK lo L 0 l) (hH : bOK hi H n h) (hlh : l ≤ h) (hh : h ≤ n)
    (hn : h - l = n') (hq : off + l * k = q) :
    AOp P ⟨d, .slice t x lo hi none, ty, pos, af, g⟩ (SlOps x lo hi (.ref o off) L H) [] [] (.psl o q n' k) :=
  aop_pure fun S m w ev hR => by
    obtain ⟨h1, h2, h3⟩ := slOps_rep (t := t) hL hH hR
    simp only [Rep] at h1
    obtain ⟨b, v0, k1, k2, k3⟩ := h1
    subst hn
    refine ⟨.slice (some (if n = l then ⟨b, off, none⟩ else ⟨b, off + l * k, none⟩)) (h - l) (n - l), by simp only [execOp, k3, Option.map_none, Sem.run_bind, run_sliceA hu hi' h2 h3 hlh hh, Result.andThen_ok, Sem.run_pure], ?_⟩
    simp only [Rep]
    refine ⟨_, _, rfl, by omega, ?_⟩
    by_cases h0 : h - l = 0
    · exact .inl h0
    · rw [if_neg (by omega)]
      exact .inr ⟨b, v0, k1, k2, by rw [hq]⟩
end
end Go.Proofs.Ytgbgpidimipfjaa
