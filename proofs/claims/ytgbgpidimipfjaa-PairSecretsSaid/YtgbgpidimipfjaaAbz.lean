/- The machine over data: facts on types in a form that is checked at once; small rules. -/
import Derived.Test.YtgbgpidimipfjaaAby
namespace Go.Proofs.Ytgbgpidimipfjaa
open Go.RowKit Go.Sort
set_option linter.unusedVariables false

def fieldInfo (P : Program) (s : TypeId) (f : Nat) : Option (Nat × Nat) :=
  match P.underlying s with
  | some (.struct fs) => match fs[f]? with
    | some x => (P.info? x.type).map fun i => (x.offset, i.size)
    | none => none
  | _ => none
theorem fieldInfo_spec {P : Program} {s : TypeId} {f off k : Nat} (h : fieldInfo P s f = some (off, k)) : ∃ fs, P.underlying s = some (.struct fs) ∧ (fs[f]?).map (·.offset) = some off ∧ ((fs[f]?).bind fun x => (P.info? x.type).map (·.size)) = some k := by
  unfold fieldInfo at h
  split at h
  · rename_i fs hu
    refine ⟨fs, hu, ?_⟩
    cases hq : fs[f]? with
    | none => simp [hq] at h
    | some x =>
      simp only [hq, Option.map_eq_some_iff, Prod.mk.injEq] at h
      obtain ⟨i, hi, rfl, rfl⟩ := h
      simp [hi]
  · cases h
/-- the type of a field, whether it is held in one cell, its place, its size -/
def fieldPart (P : Program) (s : TypeId) (f : Nat) : Option (Bool × Nat × Nat) :=
  match P.underlying s with
  | some (.struct fs) => match fs[f]? with
    | some x => match P.underlying x.type, P.info? x.type with
      | some d, some i => some (d.isRow, x.offset, i.size)
      | _, _ => none
    | none => none
  | _ => none
def placesOf (P : Program) (t : TypeId) : Option (List (Nat × Nat)) :=
  match P.underlying t with
  | some (.struct fs) => fs.toList.mapM fun f => (P.info? f.type).map fun i => (f.offset, i.size)
  | _ => none
theorem places_run {P : Program} (w : World) : ∀ {l : List Field} {ps : List (Nat × Nat)}, l.mapM (fun f => (P.info? f.type).map fun i => (f.offset, i.size)) = some ps →
    (l.mapM (fun f => do pure (f.offset, ← sizeOf f.type)) : Sem (List (Nat × Nat))).run P w = .ok ps w
  | [], ps, h => by simp at h; subst h; rfl
  | f :: l, ps, h => by
    simp only [List.mapM_cons, Option.bind_eq_bind, Option.bind_eq_some_iff, Option.map_eq_some_iff] at h
    obtain ⟨p, ⟨i, hi, rfl⟩, qs, hq, h⟩ := h
    have hp : ps = (f.offset, i.size) :: qs := by simpa using h.symm
    subst hp
    have hs := run_sizeOf (P := P) (t := f.type) (n := i.size) (by rw [hi]; rfl) w
    simp only [List.mapM_cons, Sem.run_bind, hs, Result.andThen_ok, Sem.run_pure, places_run w hq]
section
variable {P : Program} {d : Option Tmp} {ty : TypeId} {pos : String} {af : Array Edge} {g : Option (Nat × Bool)}
theorem b_fieldAddr {x : Operand} {s : TypeId} {f off k : Nat} {o p : Nat} (h : fieldInfo P s f = some (off, k + 1)) {q : Nat} (hq : p + off = q) : AOp P ⟨d, .fieldAddr s x f, ty, pos, af, g⟩ [.ref o p] [] [] (.ref o q) := by
  obtain ⟨fs, h1, h2, h3⟩ := fieldInfo_spec h
  exact a_fieldAddr h1 h2 h3 hq
theorem b_fieldAddrP {x : Operand} {s : TypeId} {f off k : Nat} {cs ds : List PV} (h : fieldInfo P s f = some (off, k + 1)) (hd : cs.drop off = ds) : AOp P ⟨d, .fieldAddr s x f, ty, pos, af, g⟩ [.ptr cs] [] [] (.ptr ds) := by
  obtain ⟨fs, h1, h2, h3⟩ := fieldInfo_spec h
  exact a_fieldAddrP h1 h2 h3 hd
theorem b_field1 {x : Operand} {s : TypeId} {f off k : Nat} {cs : List AV} {r : AV} (h : fieldPart P s f = some (false, off, k)) (hr : cs[off]? = some r) : AOp P ⟨d, .field s x f, ty, pos, af, g⟩ [.agg cs] [] [] r := by
  unfold fieldPart at h
  split at h
  · rename_i fs hu
    cases hq : fs[f]? with
    | none => simp [hq] at h
    | some z =>
      simp only [hq] at h
      split at h
      · rename_i ds i h1 h2
        simp only [Option.some.injEq, Prod.mk.injEq] at h
        exact a_field1 (fd := z) hu (by rw [hq]; simp [h.2.1]) h1 h.1 hr
      · cases h
  · cases h
theorem b_fieldN {x : Operand} {s : TypeId} {f off k : Nat} {cs es : List AV} (h : fieldPart P s f = some (true, off, k)) (hr : (cs.drop off).take k = es) : AOp P ⟨d, .field s x f, ty, pos, af, g⟩ [.agg cs] [] [] (.agg es) := by
  unfold fieldPart at h
  split at h
  · rename_i fs hu
    cases hq : fs[f]? with
    | none => simp [hq] at h
    | some z =>
      simp only [hq] at h
      split at h
      · rename_i ds i h1 h2
        simp only [Option.some.injEq, Prod.mk.injEq] at h
        exact a_fieldN (fd := z) hu (by rw [hq]; simp [h.2.1]) h1 h.1 (by rw [h2]; simp [h.2.2]) hr
      · cases h
  · cases h
theorem a_storeAll {x y : Operand} {t bt : TypeId} {o k : Nat} {cs : List AV} {Y : AV} (hi : (P.info? t).map (·.size) = some k) (hY : Y.stor = true) (hl : Y.cells.length = k) (hc : cs.length = k) :
    AOp P ⟨d, .store t x y, ty, pos, af, g⟩ [.ref o 0, Y] [(o, .live (.box bt cs))] [(o, .live (.box bt Y.cells))] .any :=
  a_store hi hY hl (by omega) (by
    unfold setR
    rw [hl, ← hc, List.take_zero, List.nil_append, Nat.zero_add, List.drop_length, List.append_nil])
theorem a_max {x y : Operand} {ts : Array TypeId} {k k' : IntKind} {a b : Int} : AOp P ⟨d, .call { callee := .builtin .max, args := #[x, y], argTypes := ts }, ty, pos, af, g⟩ [.p (.v (.int k a)), .p (.v (.int k' b))] [] [] (.p (.v (.int k (max a b)))) :=
  aop_pure fun S m w ev hr => by
    obtain ⟨h1, h2⟩ := repL2 (u := ev x) (v := ev y) hr
    refine ⟨.int k (max a b), ?_, rep_mk rfl⟩
    have e : (if b > a then b else a) = max a b := by split <;> omega
    simp [execOp, resolve, invoke, builtin, Builtin.max_, Builtin.max2, rep_v h1, rep_v h2, e]
theorem a_min {x y : Operand} {ts : Array TypeId} {k k' : IntKind} {a b : Int} : AOp P ⟨d, .call { callee := .builtin .min, args := #[x, y], argTypes := ts }, ty, pos, af, g⟩ [.p (.v (.int k a)), .p (.v (.int k' b))] [] [] (.p (.v (.int k (min a b)))) :=
  aop_pure fun S m w ev hr => by
    obtain ⟨h1, h2⟩ := repL2 (u := ev x) (v := ev y) hr
    refine ⟨.int k (min a b), ?_, rep_mk rfl⟩
    have e : (if b < a then b else a) = min a b := by split <;> omega
    simp [execOp, resolve, invoke, builtin, Builtin.min_, Builtin.min2, rep_v h1, rep_v h2, e]
theorem b_build {t : TypeId} {parts : Array (Nat × Operand)} {z : Value} {places : List (Nat × Nat)} {xs es : List AV} (hp : placesOf P t = some places) (hz : (P.info? t).map (·.zero) = some (some z)) (hz1 : (constAV z).stor = true)
    (hf : fillA (fun i => places[i]?) (constAV z).cells ((parts.toList.map Prod.fst).zip xs) = some es) : AOp P ⟨d, .build t parts, ty, pos, af, g⟩ xs [] [] (.agg es) := by
  unfold placesOf at hp
  split at hp
  · rename_i fs hu
    refine a_build (places := places.toArray) hu hz hz1 (fun w => ?_) (by simpa using hf)
    rw [Array.mapM_eq_mapM_toList, Sem.run_map, places_run (P := P) w hp]
    rfl
  · cases hp
end

/-! guarded operations -/
def AV.strip : AV → AV
  | .mb _ x => x
  | x => x
inductive StripOK (b : Bool) : List AV → Prop
  | nil : StripOK b []
  | plain (x : AV) (l : List AV) : x.strip = x → StripOK b l → StripOK b (x :: l)
  | mb (b' : Bool) (x : AV) (l : List AV) : (b = true → b' = true) → StripOK b l → StripOK b (.mb b' x :: l)
theorem stripOK_nil {b : Bool} : StripOK b [] := .nil
theorem stripOK_p {b : Bool} {x : PV} {l : List AV} (h : StripOK b l) : StripOK b (.p x :: l) := .plain _ _ rfl h
theorem stripOK_ref {b : Bool} {o off : Nat} {l : List AV} (h : StripOK b l) : StripOK b (.ref o off :: l) := .plain _ _ rfl h
theorem stripOK_row {b : Bool} {o : Nat} {l : List AV} (h : StripOK b l) : StripOK b (.row o :: l) := .plain _ _ rfl h
theorem stripOK_ptr {b : Bool} {c : List PV} {l : List AV} (h : StripOK b l) : StripOK b (.ptr c :: l) := .plain _ _ rfl h
theorem stripOK_agg {b : Bool} {c : List AV} {l : List AV} (h : StripOK b l) : StripOK b (.agg c :: l) := .plain _ _ rfl h
theorem stripOK_mb {b b' : Bool} {x : AV} {l : List AV} (hb : b = true → b' = true) (h : StripOK b l) : StripOK b (.mb b' x :: l) := .mb _ _ _ hb h
theorem StripOK.rep {b : Bool} (hb : b = true) {S : Nat → Prop} {m : Nat → Option Value} {w : World} : ∀ {xs : List AV} {us : List Value}, StripOK b xs → RepL S m w xs us → RepL S m w (xs.map AV.strip) us
  | [], us, _, h => h
  | x :: xs, us, hs, h => by
    simp only [List.map_cons, RepL] at h ⊢
    obtain ⟨u, us, h1, h2, h3⟩ := h
    cases hs with
    | plain _ _ e hl => exact ⟨u, us, h1, by rw [e]; exact h2, hl.rep hb h3⟩
    | mb b' x _ e hl =>
      simp only [Rep] at h2
      exact ⟨u, us, h1, h2 (e hb), hl.rep hb h3⟩
theorem r_mb2 {P : Program} {ops : Array Oper} {K : List Foot → St → Prop} {o : Oper} {l : List Oper} {fs : List Foot} {st : St} {xs' : List AV} {rds : List (Nat × Slot)} {r : AV} (b : Bool) (hg : awanted ops o st = some b) (hx : (o.op.operands.toList.map st.ev).map AV.strip = xs')
    (hs : StripOK b (o.op.operands.toList.map st.ev)) (h : b = true → AOp P o xs' rds [] r) (hr : b = true → Rds st rds)
    (k : ARun P ops K l (fs ++ [(rds.map Prod.fst, [])]) (st.put o.dst (.mb b r))) : ARun P ops K (o :: l) fs st :=
  r_mb b hg rfl (fun hb S m w us hR => hs.rep hb hR) (fun hb => hx ▸ h hb) hr k
theorem take_all {α : Type} {l : List α} {k : Nat} (h : l.length = k) : (l.drop 0).take k = l := by rw [List.drop_zero, List.take_of_length_le (by omega)]
theorem thn_n {K : St → Prop} {Q : Exit → St → Prop} {st : St} (h : K st) : Thn K Q .normal st := h
theorem thn_r {K : St → Prop} {Q : Exit → St → Prop} {st : St} (h : Q .ret st) : Thn K Q .ret st := h
theorem thn_x {K : St → Prop} {Q : Exit → St → Prop} {st : St} {i : Nat} (h : Q (.exit i) st) : Thn K Q (.exit i) st := h
theorem inb_n {i : Nat} {Q : Exit → St → Prop} {st : St} (h : Q .normal st) : InB i Q .normal st := h
theorem inb_r {i : Nat} {Q : Exit → St → Prop} {st : St} (h : Q .ret st) : InB i Q .ret st := h
theorem inb_x {i : Nat} {Q : Exit → St → Prop} {st : St} (h : Q .normal st) : InB i Q (.exit i) st := by simp only [InB, if_true]; exact h
theorem inb_y {i j : Nat} {Q : Exit → St → Prop} {st : St} (hne : Nat.beq j i = false) (h : Q (.exit j) st) : InB i Q (.exit j) st := by
  have : j ≠ i := fun e => by subst e; simp at hne
  simp only [InB, if_neg this]; exact h
theorem re_of {st : St} (ρ : Nat → Nat) (ts : List (Nat × AV)) (hs : List (Nat × AObj)) (h1 : LeT ρ st (hs.map Prod.fst) ts) (h2 : LeO ρ st (hs.map Prod.fst) hs) (h3 : nodupB (hs.map fun p => ρ p.1) = true) : Re st (St.of ts hs) :=
  fun w0 A nt a w h => h.restate ρ ts hs h1 h2 h3
theorem Re.trans {a b c : St} (h : Re a b) (k : Re b c) : Re a c := fun w0 A nt x w hs => k w0 A nt x w (h w0 A nt x w hs)
theorem Re.refl (a : St) : Re a a := fun _ _ _ _ _ h => h
/-- a loop: what holds at its head, of the state restated -/
theorem awp_loopR {P : Program} {w0 : World} {A : Nat → Prop} {nt : Nat} {Q : Exit → St → Prop} {st : St} {c : Code} (I : Nat → St → Prop) (n : Nat) (h0 : ∃ st1, Re st st1 ∧ I n st1) (round : ∀ n st, I n st → awp ⟨P, w0, ctx0 A, nt⟩ c (Thn (fun st' => ∃ n' < n, ∃ st1, Re st' st1 ∧ I n' st1) Q) st) : awp ⟨P, w0, ctx0 A, nt⟩ (.loop c) Q st :=
  awp_loop (fun n st => ∃ st1, Re st st1 ∧ I n st1) h0 fun n st ⟨st1, h1, h2⟩ => awp_re h1 (round n st1 h2)
theorem arun_nil {P : Program} {ops : Array Oper} {K : List Foot → St → Prop} {fs : List Foot} {st : St} (h : K fs st) : ARun P ops K [] fs st := h
theorem awp_text {P : Program} {w0 : World} {A : Ctx} {nt : Nat} {Q : Exit → St → Prop} {st : St} {id : Nat} {l : List Oper} (hd : dstOK nt l = true) (h : ARun P l.toArray (fun _ st' => Q .normal st') l [] st) : awp ⟨P, w0, A, nt⟩ (.region id l.toArray false) Q st := awp_region_text hd h
theorem awp_draw (fuel : Nat) {P : Program} {w0 : World} {A : Ctx} {nt : Nat} {Q : Exit → St → Prop} {st : St} {id : Nat} {l : List Oper} (hm : P.follows .mixedOrders = true) (h : ARun P l.toArray (fun fs st' => regionOK nt fuel l.toArray fs = true ∧ Q .normal st') l [] st) : awp ⟨P, w0, A, nt⟩ (.region id l.toArray true) Q st := awp_region_draw hm h

section
variable {P : Program} {ops : Array Oper} {K : List Foot → St → Prop} {l : List Oper} {fs : List Foot} {st : St} {d : Option Tmp} {ty : TypeId} {pos : String} {af : Array Edge} {gd : Option (Nat × Bool)}
/-- a call, its arguments as the slots hold them -/
theorem r_callV {x : Operand} {args : Array Operand} {ts : Array TypeId} {f : FuncId} {fn : Func} {as cs : List AV} {res : AV} {news : List (Nat × AObj)} (ρ : Nat → Nat) (hC : Fn P f as res news) (hx : st.ev x = .fn f cs) (hxs : AV.viewL (fun _ => false) st.heap (args.toList.map st.ev ++ cs) = as) (hf : P.funcs[f]? = some fn) (hb : fn.body.isNone = false) (hn : (fn.name == "runtime.NumGoroutine") = false)
    (h1 : res.noSl = true) (h2 : news.all (fun p => p.2.noSl) = true) (h3 : res.okIn (news.map Prod.fst) = true) (h4 : nodupB (news.map Prod.fst) = true) (h5 : nodupB (news.map fun p => ρ p.1) = true)
    (hun : Rds st (news.map fun p => (ρ p.1, .un))) (hg : awanted ops ⟨d, .call { callee := .value x, args := args, argTypes := ts }, ty, pos, af, gd⟩ st = some true) {r : AV} (hr : res.ren ρ = r) {wrs : List (Nat × Slot)} (hw : wrsOf ρ news = wrs)
    (k : ARun P ops K l (fs ++ [(AV.objsL (args.toList.map st.ev ++ cs) ++ news.map (fun p => ρ p.1), news.map fun p => ρ p.1)]) ((st.upd wrs).put d r)) :
    ARun P ops K (⟨d, .call { callee := .value x, args := args, argTypes := ts }, ty, pos, af, gd⟩ :: l) fs st := by
  subst hxs
  subst hr
  subst hw
  have hview : AV.viewL (fun _ => false) (slotOf ((AV.objsL (args.toList.map st.ev ++ cs)).map fun o => (o, st.heap o))) (args.toList.map st.ev ++ cs) = AV.viewL (fun _ => false) st.heap (args.toList.map st.ev ++ cs) := view_objsL _ _ fun o ho => by
    have : ∀ l : List Nat, o ∈ l → slotOf (l.map fun o => (o, st.heap o)) o = st.heap o := by
      intro l
      induction l with
      | nil => intro h; cases h
      | cons a l ih =>
        intro h
        by_cases e : o = a
        · subst e; simp [slotOf, updL]
        · rcases List.mem_cons.1 h with h | h
          · exact absurd h e
          · simp only [List.map_cons, slotOf, updL, nbeq e, cond_false]; exact ih h
    exact this _ ho
  have hop := a_callV (P := P) (d := d) (ty := ty) (pos := pos) (af := af) (g := gd) (x := x) (args := args) (ts := ts) (rds := (AV.objsL (args.toList.map st.ev ++ cs)).map fun o => (o, st.heap o)) ρ hf hb hn (by rw [hview]; exact hC) h1 h2 h3 h4 h5
  refine r_run hop ?_ hg ?_ ?_
  · rw [← hx]
    simp [Op.operands, Call.operands]
  · have app : ∀ a b : List (Nat × Slot), Rds st a → Rds st b → Rds st (a ++ b) := by
      intro a
      induction a with
      | nil => intro b _ h; exact h
      | cons p a ih => intro b h1 h2; exact ⟨h1.1, ih b h1.2 h2⟩
    refine app _ _ ?_ hun
    generalize AV.objsL (args.toList.map st.ev ++ cs) = l
    induction l with
    | nil => trivial
    | cons a l ih => exact ⟨rfl, ih⟩
  · have e1 : ((AV.objsL (args.toList.map st.ev ++ cs)).map (fun o => (o, st.heap o)) ++ news.map fun p => (ρ p.1, Slot.un)).map Prod.fst = AV.objsL (args.toList.map st.ev ++ cs) ++ news.map (fun p => ρ p.1) := by
      simp [List.map_map, Function.comp_def]
    have e2 : (wrsOf ρ news).map Prod.fst = news.map fun p => ρ p.1 := by simp [wrsOf, List.map_map, Function.comp_def]
    rw [e1, e2]
    exact k
theorem okInL_map (K : List Nat) : ∀ l : List PV, AV.okInL K (l.map AV.p) = true
  | [] => rfl
  | c :: l => by simp only [List.map_cons, AV.okInL, AV.okIn, Bool.true_and, okInL_map K l]
theorem r_callS {x : Operand} {args : Array Operand} {ts : Array TypeId} {f : FuncId} {fn : Func} {as cs : List AV} {res : AV} {news : List (Nat × AObj)} (ρ : Nat → Nat) (hC : Fn P f as res news) (hx : st.ev x = .fn f cs) (hxs : args.toList.map st.ev ++ cs = as) (hf : P.funcs[f]? = some fn) (hb : fn.body.isNone = false) (hn : (fn.name == "runtime.NumGoroutine") = false)
    (h1 : AV.okInL [] as = true) (h3 : res.okIn (news.map Prod.fst) = true) (h4 : nodupB (news.map Prod.fst) = true) (h5 : nodupB (news.map fun p => ρ p.1) = true)
    (hun : Rds st (news.map fun p => (ρ p.1, .un))) (hg : awanted ops ⟨d, .call { callee := .value x, args := args, argTypes := ts }, ty, pos, af, gd⟩ st = some true) {r : AV} (hr : res.ren ρ = r) {wrs : List (Nat × Slot)} (hw : wrsOf ρ news = wrs)
    (k : ARun P ops K l (fs ++ [(news.map (fun p => ρ p.1), news.map fun p => ρ p.1)]) ((st.upd wrs).put d r)) :
    ARun P ops K (⟨d, .call { callee := .value x, args := args, argTypes := ts }, ty, pos, af, gd⟩ :: l) fs st := by
  subst hxs
  subst hr
  subst hw
  have hop := a_callS (P := P) (d := d) (ty := ty) (pos := pos) (af := af) (g := gd) (x := x) (args := args) (ts := ts) ρ hf hb hn hC h1 h3 h4 h5
  refine r_run hop ?_ hg hun ?_
  · rw [← hx]
    simp [Op.operands, Call.operands]
  · have e1 : (news.map fun p => (ρ p.1, Slot.un)).map Prod.fst = news.map (fun p => ρ p.1) := by simp [List.map_map, Function.comp_def]
    have e2 : (wrsOf ρ news).map Prod.fst = news.map fun p => ρ p.1 := by simp [wrsOf, List.map_map, Function.comp_def]
    rw [e1, e2]
    exact k
end
end Go.Proofs.Ytgbgpidimipfjaa
