/- Lists of records as cells. An interface value against nil, over data. Comparisons with a known end; the first of numbers that is not 0. Strings in order; bounds of plain data. Rows of strings, over data; a call that answers a new row. What a row lists of the package's variables, as the walks take it. -/
import Derived.Test.YtkdfdcodkeclmaaGreatDoorSMa4
import Derived.Test.YtkdfdcodkeclmaaGreatDoorSMa3
import Derived.Lib.LaidU8
namespace Go.Proofs.YtkdfdcodkeclmaaGreatDoor
open Go.RowKit Go.Sort
set_option linter.unusedVariables false
set_option linter.unusedSimpArgs false
theorem zaU {α β : Type} {f : α → List β} {k : Nat} (hf : ∀ x, (f x).length = k) : ∀ l : List α, (l.flatMap f).length = l.length * k
 | [] => by simp
 | a :: l => by rw [List.flatMap_cons, List.length_append, hf, zaU hf l, List.length_cons]; rw [Nat.add_mul]; omega
theorem zaW {α β : Type} {f : α → List β} {k : Nat} (hf : ∀ x, (f x).length = k) : ∀ {l : List α} {i : Nat} {x : α}, l[i]? = some x → ((l.flatMap f).drop (i * k)).take k = f x
 | [], i, x, h => by simp at h
 | a :: l, 0, x, h => by
  simp at h; subst h
  rw [Nat.zero_mul, List.drop_zero, List.flatMap_cons, List.take_append_of_le_length (by rw [hf]; exact Nat.le_refl _), List.take_of_length_le (by rw [hf]; exact Nat.le_refl _)]
 | a :: l, i + 1, x, h => by
  have h' : l[i]? = some x := by simpa using h
  have e : (i + 1) * k = (f a).length + i * k := by rw [hf, Nat.add_mul]; omega
  rw [List.flatMap_cons, e, ← List.drop_drop, List.drop_left]
  exact zaW hf h'
theorem zaV {α β : Type} {f : α → List β} {k : Nat} (hf : ∀ x, (f x).length = k) {l : List α} {i : Nat} (h : i < l.length) : i * k + k ≤ (l.flatMap f).length := by
 rw [zaU hf]
 have : (i + 1) * k ≤ l.length * k := Nat.mul_le_mul_right _ h
 rw [Nat.add_mul] at this; omega
theorem ze2 {α β : Type} {f : α → List β} {k : Nat} (hf : ∀ x, (f x).length = k) : ∀ (l : List α) (i : Nat), (l.flatMap f).drop (i * k) = (l.drop i).flatMap f
 | [], i => by simp
 | a :: l, 0 => by simp
 | a :: l, i + 1 => by
  have e : (i + 1) * k = (f a).length + i * k := by rw [hf, Nat.add_mul]; omega
  rw [List.flatMap_cons, e, ← List.drop_drop, List.drop_left, List.drop_succ_cons, ze2 hf l i]
/-- records out of typed parts -/
theorem zgu {α : Type} {f : α → List PV} {Q : α → Prop} : ∀ {L : List (List PV)}, (∀ x ∈ L, ∃ a, Q a ∧ x = f a) → ∃ l : List α, l.length = L.length ∧ L.flatten = l.flatMap f ∧ ∀ a ∈ l, Q a
 | [], _ => ⟨[], rfl, rfl, by simp⟩
 | x :: L, h => by
  obtain ⟨a, h1, rfl⟩ := h x qS
  obtain ⟨l, h2, h3, h4⟩ := zgu (L := L) fun y hy => h y (by simp [hy])
  exact ⟨a :: l, by simp [h2], by simp [h3], fun b hb => by
   rcases List.mem_cons.1 hb with rfl | hb
   ·exact h1
   ·exact h4 b hb⟩
/-- a slice of records -/
theorem ty_recs {P : Program} {n t e sz : Nat} {ps : List PV} {α : Type} {f : α → List PV} {Q : α → Prop} (hu : P.underlying t = some (.slice e)) (hs : P.cellsOf e = sz) (hT : Ty P (n + 1) t ps) (hr : ∀ x, Ty P n e x → ∃ a, Q a ∧ x = f a) :
  ∃ l : List α, ps = [.sl l.length sz (l.flatMap f)] ∧ l.length * P.bytesOf e ≤ reachBytes ∧ ∀ a ∈ l, Q a := by
 obtain ⟨L, rfl, h2, h3⟩ := ty_sliceS hu hs hT
 obtain ⟨l, k1, k2, k3⟩ := zgu (f := f) (Q := Q) fun x hx => hr x (h3 x hx).1
 exact ⟨l, by rw [k1, k2], by rw [k1]; exact h2, k3⟩
end Go.Proofs.YtkdfdcodkeclmaaGreatDoor
namespace Go.Proofs.YtkdfdcodkeclmaaGreatDoor
open Go.RowKit Go.Sort
set_option linter.unusedVariables false
set_option linter.unusedSimpArgs false
def isIfc : Value → Bool
 | .iface _ _ => true
 | _ => false
theorem isIfc_ex {v : Value} (h : isIfc v = true) : ∃ t x, v = .iface t x := by
 cases v <;> simp [isIfc] at h
 exact ⟨_, _, rfl⟩
theorem guard_ifI (op : BinOp) (t : TypeId) (x y : Operand) (te : TypeId) (pe : Value) (w : World) {P : Program} : (eqGuard op t x y (.iface te pe) .nilIface).run P w = .ok () w := by
 unfold eqGuard
 cases op <;> rfl
theorem guard_ifN (op : BinOp) (t : TypeId) (x : Operand) (c : Value) (w : World) {P : Program} : (eqGuard op t x (.const c) .nilIface .nilIface).run P w = .ok () w := by
 unfold eqGuard
 cases op <;> first | rfl | simp
section
variable {P : Program} {d : Option Tmp} {ty : TypeId} {pos : String} {af : Array Edge} {g : Option (Nat × Bool)} {xt yt : TypeId} {x : Operand} {c : Value} {ms : Array (String × TypeId)}
theorem run_ifI (w : World) (hu : P.underlying xt = some (.interface ms)) (te : TypeId) (pe : Value) : (Op.equal xt (.iface te pe) .nilIface).run P w = .ok false w := by
 show (Op.equalIn (9999 + 1) xt (.iface te pe) .nilIface).run P w = .ok false w
 generalize 9999 = d
 simp [Op.equalIn, run_underlying hu]
theorem run_ifN (w : World) (hu : P.underlying xt = some (.interface ms)) : (Op.equal xt .nilIface .nilIface).run P w = .ok true w := by
 show (Op.equalIn (9999 + 1) xt .nilIface .nilIface).run P w = .ok true w
 generalize 9999 = d
 simp [Op.equalIn, run_underlying hu]
theorem a_ifneqI (hu : P.underlying xt = some (.interface ms)) : AOp P ⟨d, .binOp .neq xt x (.const c) yt, ty, pos, af, g⟩ [.sat isIfc, .p (.v .nilIface)] [] [] (.p (.v (.bool true))) :=
 zba fun S m w ev hr => by
  obtain ⟨h1, h2⟩ := zc4 (u := ev x) (v := ev (.const c)) hr
  simp only [Rep] at h1
  obtain ⟨te, pe, h3⟩ := isIfc_ex h1.1
  exact ⟨.bool true, by simp only [execOp, h3, zbY h2, Sem.run_bind, guard_ifI, Result.andThen_ok, binOp, run_ifI w hu, Sem.run_pure]; rfl, zbB rfl⟩
theorem a_ifneqN (hu : P.underlying xt = some (.interface ms)) : AOp P ⟨d, .binOp .neq xt x (.const c) yt, ty, pos, af, g⟩ [.p (.v .nilIface), .p (.v .nilIface)] [] [] (.p (.v (.bool false))) :=
 zba fun S m w ev hr => by
  obtain ⟨h1, h2⟩ := zc4 (u := ev x) (v := ev (.const c)) hr
  exact ⟨.bool false, by simp only [execOp, zbY h1, zbY h2, Sem.run_bind, guard_ifN, Result.andThen_ok, binOp, run_ifN w hu, Sem.run_pure]; rfl, zbB rfl⟩
end
end Go.Proofs.YtkdfdcodkeclmaaGreatDoor
namespace Go.Proofs.YtkdfdcodkeclmaaGreatDoor
open Go.RowKit Go.Sort
set_option linter.unusedVariables false
set_option linter.unusedSimpArgs false
section
variable {P : Program} {d : Option Tmp} {ty : TypeId} {pos : String} {af : Array Edge} {g : Option (Nat × Bool)} {xt yt : TypeId} {x y : Operand} {k : IntKind} {a b : Int} {c : Bool}
theorem zbU (h : decide (b < a) = c) : AOp P ⟨d, .binOp .gtr xt x y yt, ty, pos, af, g⟩ [.p (.v (.int k a)), .p (.v (.int k b))] [] [] (.p (.v (.bool c))) :=
 zcv (zbr _ _ _ _ _ _ _ _) (fun w => by subst h; simp [binOp, Op.intCmp]) rfl
theorem zbi (h : decide (a < b) = c) : AOp P ⟨d, .binOp .lss xt x y yt, ty, pos, af, g⟩ [.p (.v (.int k a)), .p (.v (.int k b))] [] [] (.p (.v (.bool c))) :=
 zcv (zbr _ _ _ _ _ _ _ _) (fun w => by subst h; simp [binOp, Op.intCmp]) rfl
theorem zbC (h : (a == b) = c) : AOp P ⟨d, .binOp .eql xt x y yt, ty, pos, af, g⟩ [.p (.v (.int k a)), .p (.v (.int k b))] [] [] (.p (.v (.bool c))) :=
 zcv (zbr _ _ _ _ _ _ _ _) (fun w => by subst h; simp [binOp, Op.intCmp]) rfl
theorem zaX (h : (a != b) = c) : AOp P ⟨d, .binOp .neq xt x y yt, ty, pos, af, g⟩ [.p (.v (.int k a)), .p (.v (.int k b))] [] [] (.p (.v (.bool c))) :=
 zcv (zbr _ _ _ _ _ _ _ _) (fun w => by subst h; simp [binOp, Op.intCmp]) rfl
theorem zaF {s t : ByteArray} (h : decide (s = t) = c) : AOp P ⟨d, .binOp .eql xt x y yt, ty, pos, af, g⟩ [.p (.v (.string s)), .p (.v (.string t))] [] [] (.p (.v (.bool c))) :=
 zcv (zcQ _ _ _ _ _ _) (fun w => by subst h; simp only [binOp, Op.stringOp, zd6, Sem.run_pure]) rfl
theorem zay {s t : ByteArray} (h : (!decide (s = t)) = c) : AOp P ⟨d, .binOp .neq xt x y yt, ty, pos, af, g⟩ [.p (.v (.string s)), .p (.v (.string t))] [] [] (.p (.v (.bool c))) :=
 zcv (zcQ _ _ _ _ _ _) (fun w => by subst h; simp only [binOp, Op.stringOp, zd6, Sem.run_pure]) rfl
end
/-- the first of n numbers that is not 0; 0 if all are -/
def fnz (f : Nat → Int) : Nat → Int
 | 0 => 0
 | n + 1 => if fnz f n ≠ 0 then fnz f n else f n
theorem zfd {f : Nat → Int} : ∀ {n : Nat}, (∀ j, j < n → f j = 0) → fnz f n = 0
 | 0, _ => rfl
 | n + 1, h => by
  have h1 := zfd (f := f) (n := n) fun j hj => h j qO
  unfold fnz
  rw [h1, if_neg (by simp), h n (by omega)]
theorem zef {f : Nat → Int} {i : Nat} : ∀ {n : Nat}, (∀ j, j < i → f j = 0) → i < n → f i ≠ 0 → fnz f n = f i
 | 0, _, h, _ => by omega
 | n + 1, h1, h2, h3 => by
  unfold fnz
  by_cases e : i = n
  ·subst e
   rw [zfd h1, if_neg (by simp)]
  ·have := zef h1 (n := n) qO h3
   rw [this, if_pos h3]
end Go.Proofs.YtkdfdcodkeclmaaGreatDoor
namespace Go.Proofs.YtkdfdcodkeclmaaGreatDoor
open Go.RowKit Go.Sort
set_option linter.unusedVariables false
set_option linter.unusedSimpArgs false
theorem zcK {N : Nat} {L : List (List PV)} (h : PV.bdL N L.flatten) : ∀ x ∈ L, PV.bdL N x := fun x hx => zfW.2 fun y hy => zfW.1 h y (List.mem_flatten.2 ⟨x, hx, hy⟩)
def leK (a b : ByteArray) : Bool := sLt a b || decide (a = b)
theorem sLt_empty (a : ByteArray) : sLt a ⟨#[]⟩ = false := by
 unfold sLt
 generalize a.toList = l
 show Op.bytesLess l (ByteArray.toList ⟨#[]⟩) = false
 have : ByteArray.toList ⟨#[]⟩ = [] := by
  unfold ByteArray.toList
  unfold ByteArray.toList.loop
  rfl
 rw [this]
 cases l <;> rfl
end Go.Proofs.YtkdfdcodkeclmaaGreatDoor
namespace Go.Proofs.YtkdfdcodkeclmaaGreatDoor
open Go.RowKit Go.Sort
set_option linter.unusedVariables false
set_option linter.unusedSimpArgs false
def strs (ts : List ByteArray) : List PV := ts.map fun s => .v (.string s)
theorem strs_len (ts : List ByteArray) : (strs ts).length = ts.length := by simp [strs]
theorem strs_rep {S : Nat → Prop} {w : World} : ∀ ts : List ByteArray, PRepL S w (strs ts) (ts.map .string)
 | [] => by simp [strs, PRepL]
 | t :: ts => by
  simp only [strs, List.map_cons, PRepL, PRep]
  exact ⟨_, _, rfl, ⟨rfl, rfl⟩, strs_rep ts⟩
theorem strs_get {ts : List ByteArray} {i : Nat} {t : ByteArray} (h : ts[i]? = some t) : (strs ts)[i]? = some (.v (.string t)) := by simp [strs, h]
/-- a call that answers a new row -/
theorem fn_alloc {P : Program} {f : FuncId} {args : List AV} {vs : List Value} {e : TypeId} {n : Nat} {cs : List PV} {us : List Value} (ha : ze3 args = some vs) (hl : us.length = n) (hn : n ≤ maxLen) (hp : ∀ S w, PRepL S w cs us)
  (h : ∀ w, Calls P f vs.toArray w fun x w' => x = .returned (.slice (some ⟨w.heap.size, 0, none⟩) n n) ∧ w' = w.alloc (.cells us.toArray e)) : Fn P f args (.row 0) [(0, .row e 1 n cs)] := by
 intro w A us' hA hG hus
 rw [zdM ha hus]
 refine (h w).mono ?_
 rintro x w' ⟨rfl, rfl⟩
 refine ⟨_, rfl, A, fun o => if o = 0 then some (.slice (some ⟨w.heap.size, 0, none⟩) n n) else none, ?_, (Below.refl _ w).alloc (Nat.le_refl _) _, fun b hb => .inl hb, fun b hb => ?_, fun o ho => ?_, fun o ob ho => ?_, fun o o' ob ob' v v' b ho ho' _ _ _ _ => ?_, hG⟩
 ·simp only [Rep]
  exact ⟨rfl, _, _, _, rfl⟩
 ·have := hA b hb
  show b < (w.heap.push _).size
  rw [Array.size_push]
  omega
 ·by_cases e : o = 0
  ·subst e; cases ho
  ·simp only [if_neg e]
 ·by_cases e : o = 0
  ·subst e
   cases ho
   refine ⟨_, if_pos rfl, ⟨us, hp _ _, by rw [Nat.mul_one]; exact hl, .inr ⟨w.heap.size, n, us.toArray, (0, 0), rfl, Nat.le_refl _, ?_, .inl rfl, Nat.le_refl _, hn, by simp [hl], ?_⟩⟩, fun b hb hA' => ?_⟩
   ·show (w.heap.push _)[w.heap.size]? = _
    exact Array.getElem?_push_size
   ·simp only [Nat.mul_one]
    rw [List.take_of_length_le (by simp [hl])]
   ·simp only [blk, Option.some.injEq] at hb
    subst hb
    exact absurd (hA _ hA') (Nat.lt_irrefl _)
  ·simp only [zbc, nbeq e, cond_false] at ho; cases ho
 ·have key : ∀ {o : Nat} {ob : AObj}, zbc [(0, AObj.row e 1 n cs)] o = .live ob → o = 0 := fun {o ob} ho => by
   by_cases e : o = 0
   ·exact e
   ·simp only [zbc, nbeq e, cond_false] at ho; cases ho
  rw [key ho, key ho']
end Go.Proofs.YtkdfdcodkeclmaaGreatDoor
namespace Go.Proofs.YtkdfdcodkeclmaaGreatDoor
open Go.RowKit Go.Sort
set_option linter.unusedVariables false
theorem err_reads {P : Program} {w : World} {n : String} {d : DataW Unit} {g t : Nat} {ms : Array (String × TypeId)} (hg : P.globalNamed n = some g) (hty : (P.globals[g]?).map (·.type) = some t) (ht : P.underlying t = some (.interface ms))
  (h : Lib.VarReads P w n d) : ∃ ev t fz, w.heap[g]? = some (.cells #[ev] t fz) ∧ (ev = .nilIface ∨ ∃ te pe, ev = .iface te pe) := by
 obtain ⟨g', t', cs, fuel, p, h1, h2, h3, h4⟩ := h
 obtain rfl := Option.some.inj (hg.symm.trans h1)
 obtain rfl := Option.some.inj (hty.symm.trans h2)
 obtain ⟨ty, fz, h5⟩ := zfO hg h3
 have key : ∃ ev, cs.toList = [ev] ∧ (ev = .nilIface ∨ ∃ te pe, ev = .iface te pe) := by
  cases fuel with
  | zero => simp [DataW.trod] at h4
  | succ fuel =>
   unfold DataW.trod at h4
   rw [ht] at h4
   split at h4 <;> first | cases h4 | skip
   all_goals first | (rename_i e1 e2; cases e1) | skip
   all_goals simp_all
 obtain ⟨ev, h6, h7⟩ := key
 refine ⟨ev, ty, fz, ?_, h7⟩
 rw [h5]
 have : cs = #[ev] := by rw [← Array.toList_inj, h6]
 rw [this]
theorem tab_reads {P : Program} {w : World} {n : String} {g t e m : Nat} {k : IntKind} {zs : List Int} (hg : P.globalNamed n = some g) (hty : (P.globals[g]?).map (·.type) = some t) (ht : P.underlying t = some (.array m e)) (he : P.underlying e = some (.int k)) (hce : P.cellsOf e = 1) (hct : P.cellsOf t = m)
  (h : Lib.VarReads P w n (Lib.tabData k zs)) : ∃ t fz, w.heap[g]? = some (.cells (zs.map fun z => Value.int k z).toArray t fz) := by
 obtain ⟨g', t', cs, fuel, p, h1, h2, h3, h4⟩ := h
 obtain rfl := Option.some.inj (hg.symm.trans h1)
 obtain rfl := Option.some.inj (hty.symm.trans h2)
 obtain ⟨ty, fz, h5⟩ := zfO hg h3
 have := Lib.cells_of_tab ht he hce hct h4
 refine ⟨ty, fz, ?_⟩
 rw [h5, ← this]
end Go.Proofs.YtkdfdcodkeclmaaGreatDoor
