/- The machine over data: == and != of structs. -/
import Derived.Test.YtgbgpidimipfjaaAbk
import Derived.Laws.StructEq
namespace Go.Proofs.Ytgbgpidimipfjaa
open Go.RowKit Go.Sort
set_option linter.unusedVariables false

noncomputable def eqL (xs ys : List Value) : Bool := @decide (xs = ys) (Classical.propDecidable _)
theorem eqL_true {xs ys : List Value} : eqL xs ys = true ↔ xs = ys := by unfold eqL; simp
theorem eqL_false {xs ys : List Value} : eqL xs ys = false ↔ xs ≠ ys := by unfold eqL; simp
theorem eqL_refl (xs : List Value) : eqL xs xs = true := eqL_true.2 rfl

def okF (P : Program) (f : TypeId → List Value → Bool) : List Field → Nat → List Value → Bool
  | [], _, xs => xs.isEmpty
  | fd :: fs, off, xs => (fd.name != "_") && Nat.beq fd.offset off && (match P.info? fd.type with
    | some i => Nat.ble i.size xs.length && f fd.type (xs.take i.size) && okF P f fs (off + i.size) (xs.drop i.size)
    | none => false)
def okS (P : Program) : Nat → TypeId → List Value → Bool
  | 0, _, _ => false
  | n + 1, t, xs => match P.underlying t with
    | some (.int k) => match xs with | [.int k' _] => decide (k = k') | _ => false
    | some .bool => match xs with | [.bool _] => true | _ => false
    | some .string => match xs with | [.string _] => true | _ => false
    | some (.struct fs) => !P.stoodInHeld t && okF P (okS P n) fs.toList 0 xs
    | _ => false
/-- the value that so many cells make -/
def mkV (P : Program) (t : TypeId) (xs : List Value) : Value :=
  match P.underlying t with
  | some (.struct _) => .agg xs.toArray
  | _ => xs.headD undef

theorem part_run {P : Program} {n : Nat} {t : TypeId} {i : TypeInfo} {X : Array Value} {off : Nat} {w : World} (hi : P.info? t = some i) (hl : i.size ≤ (X.toList.drop off).length) (h : okS P n t ((X.toList.drop off).take i.size) = true) :
    (part t X off).run P w = .ok (mkV P t ((X.toList.drop off).take i.size)) w := by
  have hsz := run_sizeOf (P := P) (t := t) (n := i.size) (by rw [hi]; rfl) w
  have hext : (X.extract off (off + i.size)) = ((X.toList.drop off).take i.size).toArray := by
    apply Array.ext'
    simp [Array.toList_extract, List.extract_eq_take_drop]
  cases n with
  | zero => simp [okS] at h
  | succ n =>
    unfold okS at h
    cases hu : P.underlying t with
    | none => simp [hu] at h
    | some ds =>
      simp only [hu] at h
      have one : ds.isRow = false → ((X.toList.drop off).take i.size).length = 1 → (∀ fs, ds ≠ .struct fs) → (part t X off).run P w = .ok (mkV P t ((X.toList.drop off).take i.size)) w := by
        intro h1 h2 h3
        unfold part
        rw [Sem.run_bind, isAgg_run hu]
        have hx : X[off]? = some (((X.toList.drop off).take i.size).headD undef) := by
          generalize hq : (X.toList.drop off).take i.size = l at h2
          match l, h2 with
          | [x], _ =>
            have h4 : ((X.toList.drop off).take i.size)[0]? = some x := by rw [hq]; rfl
            rw [List.getElem?_take] at h4
            split at h4
            · rw [List.getElem?_drop] at h4
              simpa using h4
            · cases h4
        have hmk : mkV P t ((X.toList.drop off).take i.size) = ((X.toList.drop off).take i.size).headD undef := by
          unfold mkV; rw [hu]
          cases ds <;> first | rfl | exact absurd rfl (h3 _)
        simp only [h1, Result.andThen_ok, Bool.false_eq_true, if_false, hx, Sem.run_pure, hmk]
      cases ds <;> simp only [Bool.false_eq_true] at h
      case int k =>
        refine one rfl ?_ (fun fs e => by cases e)
        generalize (X.toList.drop off).take i.size = l at h ⊢
        split at h
        · rfl
        · cases h
      case bool =>
        refine one rfl ?_ (fun fs e => by cases e)
        generalize (X.toList.drop off).take i.size = l at h ⊢
        split at h
        · rfl
        · cases h
      case string =>
        refine one rfl ?_ (fun fs e => by cases e)
        generalize (X.toList.drop off).take i.size = l at h ⊢
        split at h
        · rfl
        · cases h
      case struct fs =>
        unfold part
        rw [Sem.run_bind, isAgg_run hu]
        simp only [TypeDesc.isRow, Result.andThen_ok, if_true, Sem.run_bind, hsz, Sem.run_pure, mkV, hu, hext]

theorem eqL_nil : eqL [] [] = true := eqL_refl []
theorem eqL_split (k : Nat) (xs ys : List Value) : eqL xs ys = (eqL (xs.take k) (ys.take k) && eqL (xs.drop k) (ys.drop k)) := by
  rw [Bool.eq_iff_iff, Bool.and_eq_true, eqL_true, eqL_true, eqL_true]
  constructor
  · intro e; rw [e]; exact ⟨rfl, rfl⟩
  · intro ⟨h1, h2⟩
    rw [← List.take_append_drop k xs, h1, h2, List.take_append_drop]

theorem eqFields_run {P : Program} {n m : Nat} (ih : ∀ (t : TypeId) (xs ys : List Value) (w : World), okS P n t xs = true → okS P n t ys = true → (Op.equalIn m t (mkV P t xs) (mkV P t ys)).run P w = .ok (eqL xs ys) w) (X Y : Array Value) :
    ∀ (fs : List Field) (off : Nat) (w : World), okF P (okS P n) fs off (X.toList.drop off) = true → okF P (okS P n) fs off (Y.toList.drop off) = true →
      (Op.eqFields m X Y fs).run P w = .ok (eqL (X.toList.drop off) (Y.toList.drop off)) w
  | [], off, w, h1, h2 => by
    simp only [okF, List.isEmpty_iff] at h1 h2
    rw [h1, h2, eqL_nil]; rfl
  | f :: fs, off, w, h1, h2 => by
    simp only [okF, Bool.and_eq_true] at h1 h2
    obtain ⟨⟨a1, a2⟩, a3⟩ := h1
    obtain ⟨⟨_, _⟩, b3⟩ := h2
    have hoff : f.offset = off := Nat.eq_of_beq_eq_true a2
    cases hi : P.info? f.type with
    | none => simp [hi] at a3
    | some i =>
      simp only [hi, Bool.and_eq_true] at a3 b3
      obtain ⟨⟨c1, c2⟩, c3⟩ := a3
      obtain ⟨⟨d1, d2⟩, d3⟩ := b3
      rw [List.drop_drop] at c3 d3
      have e1 := part_run (w := w) hi (Nat.le_of_ble_eq_true c1) c2
      have e2 := part_run (w := w) hi (Nat.le_of_ble_eq_true d1) d2
      have e3 := ih f.type _ _ w c2 d2
      have e4 := eqFields_run ih X Y fs (off + i.size) w c3 d3
      rw [eqL_split i.size, List.drop_drop, List.drop_drop]
      have hne : f.name ≠ "_" := by simpa using a1
      unfold Op.eqFields
      rw [if_pos hne]
      simp only [Sem.run_bind, hoff, e1, Result.andThen_ok, e2, e3]
      cases eqL (List.take i.size (List.drop off X.toList)) (List.take i.size (List.drop off Y.toList)) with
      | true => simpa using e4
      | false => simp

theorem equalIn_run {P : Program} : ∀ (n m : Nat), n ≤ m → ∀ (t : TypeId) (xs ys : List Value) (w : World), okS P n t xs = true → okS P n t ys = true → (Op.equalIn m t (mkV P t xs) (mkV P t ys)).run P w = .ok (eqL xs ys) w
  | 0, m, _, t, xs, ys, w, h, _ => by simp [okS] at h
  | n + 1, 0, hm, t, xs, ys, w, h, k => by omega
  | n + 1, m + 1, hm, t, xs, ys, w, h, k => by
    unfold okS at h k
    cases hu : P.underlying t with
    | none => simp [hu] at h
    | some ds =>
      simp only [hu] at h k
      cases ds <;> simp only [Bool.false_eq_true] at h k
      case int kk =>
        split at h
        · rename_i k1 a
          split at k
          · rename_i k2 b
            have e1 : kk = k1 := by simpa using h
            have e2 : kk = k2 := by simpa using k
            subst e1; subst e2
            have hr := run_equalIn_int (P := P) w m t kk kk a b hu
            simp only [mkV, hu, List.headD_cons, hr]
            congr 1
            rw [Bool.eq_iff_iff, eqL_true]; simp
          · cases k
        · cases h
      case bool =>
        split at h
        · rename_i a
          split at k
          · rename_i b
            have hr := run_equalIn_bool' (P := P) w m t a b hu
            simp only [mkV, hu, List.headD_cons, hr]
            congr 1
            rw [Bool.eq_iff_iff, eqL_true]; simp
          · cases k
        · cases h
      case string =>
        split at h
        · rename_i a
          split at k
          · rename_i b
            have hr := run_equalIn_string (P := P) w m t a b hu
            rw [str_beq] at hr
            simp only [mkV, hu, List.headD_cons, hr]
            congr 1
            rw [Bool.eq_iff_iff, eqL_true]; simp
          · cases k
        · cases h
      case struct fs =>
        simp only [Bool.and_eq_true, Bool.not_eq_true'] at h k
        have hfo : P.fieldsOf t = fs := by unfold Program.fieldsOf; rw [hu]
        have hr := run_equalIn_agg (P := P) w m t xs.toArray ys.toArray (by rw [hfo]; exact hu) h.1
        simp only [mkV, hu, hr, hfo]
        have := eqFields_run (m := m) (equalIn_run n m (by omega)) xs.toArray ys.toArray fs.toList 0 w (by simpa using h.2) (by simpa using k.2)
        simpa using this

/-- the values of cells that are plain -/
def valsOf : List AV → Option (List Value)
  | [] => some []
  | .p (.v x) :: l => (valsOf l).map (x :: ·)
  | _ :: _ => none
theorem valsOf_rep {S : Nat → Prop} {m : Nat → Option Value} {w : World} : ∀ {cs : List AV} {xs us : List Value}, valsOf cs = some xs → RepL S m w cs us → us = xs
  | [], xs, us, h, hr => by
    simp only [valsOf, Option.some.injEq] at h
    simp only [RepL] at hr
    rw [hr, ← h]
  | c :: cs, xs, us, h, hr => by
    simp only [RepL] at hr
    obtain ⟨u, us, rfl, h2, h3⟩ := hr
    cases c with
    | p x =>
      cases x with
      | v x =>
        simp only [valsOf] at h
        cases hq : valsOf cs with
        | none => simp [hq] at h
        | some zs =>
          simp only [hq, Option.map_some, Option.some.injEq] at h
          rw [rep_v h2, valsOf_rep hq h3, h]
      | _ => simp [valsOf] at h
    | _ => simp [valsOf] at h
section
variable {P : Program} {d : Option Tmp} {ty : TypeId} {pos : String} {af : Array Edge} {g : Option (Nat × Bool)}
theorem a_structEq {op : BinOp} {t yt : TypeId} {x y : Operand} {cs ds : List AV} {xs ys : List Value} {fs : Array Field} (hop : op = .eql ∨ op = .neq) (hu : P.underlying t = some (.struct fs)) (hx : valsOf cs = some xs) (hy : valsOf ds = some ys) (hg : P.eqGuardType P.depth t = false) (h1 : okS P 20 t xs = true) (h2 : okS P 20 t ys = true) :
    AOp P ⟨d, .binOp op t x y yt, ty, pos, af, g⟩ [.agg cs, .agg ds] [] [] (.p (.v (.bool (if op = .eql then eqL xs ys else !eqL xs ys)))) :=
  aop_pure fun S m w ev hr => by
    obtain ⟨k1, k2⟩ := repL2 (u := ev x) (v := ev y) hr
    simp only [Rep] at k1 k2
    obtain ⟨us, a1, a2, _⟩ := k1
    obtain ⟨vs, b1, b2, _⟩ := k2
    obtain rfl := valsOf_rep hx a2
    obtain rfl := valsOf_rep hy b2
    have hq := equalIn_run (P := P) 20 10000 (by omega) t us vs w h1 h2
    simp only [mkV, hu] at hq
    have hgd := run_eqGuard_agg (P := P) w op t x y us.toArray vs.toArray hg
    refine ⟨.bool (if op = .eql then eqL us vs else !eqL us vs), ?_, rep_mk rfl⟩
    rcases hop with rfl | rfl
    · simp only [execOp, a1, b1, Sem.run_bind, hgd, Result.andThen_ok, run_eql_struct, hq, Sem.run_pure, if_true]
    · simp only [execOp, a1, b1, Sem.run_bind, hgd, Result.andThen_ok, run_neq_struct, hq, Sem.run_pure, reduceCtorEq, if_false]
theorem a_steql {t yt : TypeId} {x y : Operand} {cs ds : List AV} {xs ys : List Value} {fs : Array Field} (hu : P.underlying t = some (.struct fs)) (hx : valsOf cs = some xs) (hy : valsOf ds = some ys) (hg : P.eqGuardType P.depth t = false) (h1 : okS P 20 t xs = true) (h2 : okS P 20 t ys = true) :
    AOp P ⟨d, .binOp .eql t x y yt, ty, pos, af, g⟩ [.agg cs, .agg ds] [] [] (.p (.v (.bool (eqL xs ys)))) := a_structEq (.inl rfl) hu hx hy hg h1 h2
theorem a_stneq {t yt : TypeId} {x y : Operand} {cs ds : List AV} {xs ys : List Value} {fs : Array Field} (hu : P.underlying t = some (.struct fs)) (hx : valsOf cs = some xs) (hy : valsOf ds = some ys) (hg : P.eqGuardType P.depth t = false) (h1 : okS P 20 t xs = true) (h2 : okS P 20 t ys = true) :
    AOp P ⟨d, .binOp .neq t x y yt, ty, pos, af, g⟩ [.agg cs, .agg ds] [] [] (.p (.v (.bool (!eqL xs ys)))) := a_structEq (.inr rfl) hu hx hy hg h1 h2
end
end Go.Proofs.Ytgbgpidimipfjaa
