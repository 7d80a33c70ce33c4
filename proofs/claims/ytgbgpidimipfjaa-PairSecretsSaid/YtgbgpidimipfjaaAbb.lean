/- The machine over data: pointers: nil checks, comparisons, the conversions that strings.Builder uses. -/
import Derived.Test.YtgbgpidimipfjaaAbl
import Derived.Lib.Builder
import Derived.Lib.UnsafeStr
import Derived.Laws.Externs
import Derived.Test.YtgbgpidimipfjaaTab
namespace Go.Proofs.Ytgbgpidimipfjaa
open Go.RowKit Go.Sort
set_option linter.unusedVariables false
section
variable {P : Program} {d : Option Tmp} {ty : TypeId} {pos : String} {af : Array Edge} {g : Option (Nat × Bool)}
theorem a_nilRef {x : Operand} {o off : Nat} : AOp P ⟨d, .nilCheck x, ty, pos, af, g⟩ [.ref o off] [] [] (.ref o off) :=
  aop_pure fun S m w ev hr => by
    have h := repL1 (u := ev x) hr
    have h' := h
    simp only [Rep] at h
    obtain ⟨b, v0, h1, h2, h3⟩ := h
    exact ⟨.pointer (some ⟨b, off, none⟩), by simp only [execOp, h3, Sem.run_pure], by rw [← h3]; exact h'⟩
theorem a_nilPtr {x : Operand} {cs : List PV} : AOp P ⟨d, .nilCheck x, ty, pos, af, g⟩ [.ptr cs] [] [] (.ptr cs) :=
  aop_pure fun S m w ev hr => by
    have h := repL1 (u := ev x) hr
    have h' := h
    simp only [Rep] at h
    obtain ⟨b, off, vs, h1, h2, h3, h4⟩ := h
    exact ⟨.pointer (some ⟨b, off, none⟩), by simp only [execOp, h1, Sem.run_pure], by rw [← h1]; exact h'⟩
theorem a_nilPt {x : Operand} {cs : List PV} : AOp P ⟨d, .nilCheck x, ty, pos, af, g⟩ [.p (.pt cs)] [] [] (.ptr cs) :=
  aop_pure fun S m w ev hr => by
    have h := repL1 (u := ev x) hr
    simp only [Rep, PRep] at h
    obtain ⟨b, off, vs, h1, h2, h3, h4⟩ := h
    exact ⟨.pointer (some ⟨b, off, none⟩), by simp only [execOp, h1, Sem.run_pure], by simp only [Rep]; exact ⟨b, off, vs, rfl, h2, h3, h4⟩⟩
theorem guard_ptr (op : BinOp) (t : TypeId) (x y : Operand) (a b : Option Addr) (w : World) : (eqGuard op t x y (.pointer a) (.pointer b)).run P w = .ok () w := by
  unfold eqGuard
  cases op <;> rfl
section
variable {xt yt : TypeId} {x y : Operand} {e : TypeId}
/-- a pointer compared with nil -/
theorem run_ptrNil (w : World) (hu : P.underlying xt = some (.pointer e)) (a : Addr) : (Op.equal xt (.pointer (some a)) (.pointer none)).run P w = .ok false w := by
  show (Op.equalIn (9999 + 1) xt (.pointer (some a)) (.pointer none)).run P w = .ok false w
  generalize 9999 = d
  simp [Op.equalIn, run_underlying hu]
theorem run_nilNil (w : World) (hu : P.underlying xt = some (.pointer e)) : (Op.equal xt (.pointer none) (.pointer none)).run P w = .ok true w := by
  show (Op.equalIn (9999 + 1) xt (.pointer none) (.pointer none)).run P w = .ok true w
  generalize 9999 = d
  simp [Op.equalIn, run_underlying hu]
theorem run_ptrSame (w : World) (hu : P.underlying xt = some (.pointer e)) {k : Nat} (hk : (P.info? e).map (·.size) = some (k + 1)) (a : Addr) : (Op.equal xt (.pointer (some a)) (.pointer (some a))).run P w = .ok true w := by
  have hs := run_sizeOf (P := P) hk w
  show (Op.equalIn (9999 + 1) xt (.pointer (some a)) (.pointer (some a))).run P w = .ok true w
  generalize 9999 = d
  simp [Op.equalIn, run_underlying hu, hs, sameAddr]
theorem a_peqNN (hu : P.underlying xt = some (.pointer e)) : AOp P ⟨d, .binOp .eql xt x y yt, ty, pos, af, g⟩ [.p (.v (.pointer none)), .p (.v (.pointer none))] [] [] (.p (.v (.bool true))) :=
  a_bin (guard_ptr _ _ _ _ _ _) (fun w => by simp only [binOp, Sem.run_bind, run_nilNil w hu, Result.andThen_ok, Sem.run_pure]) rfl
theorem a_pneNN (hu : P.underlying xt = some (.pointer e)) : AOp P ⟨d, .binOp .neq xt x y yt, ty, pos, af, g⟩ [.p (.v (.pointer none)), .p (.v (.pointer none))] [] [] (.p (.v (.bool false))) :=
  a_bin (guard_ptr _ _ _ _ _ _) (fun w => by simp only [binOp, Sem.run_bind, run_nilNil w hu, Result.andThen_ok, Sem.run_pure]; rfl) rfl
theorem a_peqRN {o off : Nat} (hu : P.underlying xt = some (.pointer e)) : AOp P ⟨d, .binOp .eql xt x y yt, ty, pos, af, g⟩ [.ref o off, .p (.v (.pointer none))] [] [] (.p (.v (.bool false))) :=
  aop_pure fun S m w ev hr => by
    obtain ⟨h1, h2⟩ := repL2 (u := ev x) (v := ev y) hr
    simp only [Rep] at h1
    obtain ⟨b, v0, _, _, h3⟩ := h1
    exact ⟨.bool false, by simp only [execOp, h3, rep_v h2, Sem.run_bind, guard_ptr, Result.andThen_ok, binOp, run_ptrNil w hu, Sem.run_pure], rep_mk rfl⟩
theorem a_pneRN {o off : Nat} (hu : P.underlying xt = some (.pointer e)) : AOp P ⟨d, .binOp .neq xt x y yt, ty, pos, af, g⟩ [.ref o off, .p (.v (.pointer none))] [] [] (.p (.v (.bool true))) :=
  aop_pure fun S m w ev hr => by
    obtain ⟨h1, h2⟩ := repL2 (u := ev x) (v := ev y) hr
    simp only [Rep] at h1
    obtain ⟨b, v0, _, _, h3⟩ := h1
    exact ⟨.bool true, by simp only [execOp, h3, rep_v h2, Sem.run_bind, guard_ptr, Result.andThen_ok, binOp, run_ptrNil w hu, Sem.run_pure]; rfl, rep_mk rfl⟩
theorem a_peqPN {cs : List PV} (hu : P.underlying xt = some (.pointer e)) : AOp P ⟨d, .binOp .eql xt x y yt, ty, pos, af, g⟩ [.p (.pt cs), .p (.v (.pointer none))] [] [] (.p (.v (.bool false))) :=
  aop_pure fun S m w ev hr => by
    obtain ⟨h1, h2⟩ := repL2 (u := ev x) (v := ev y) hr
    simp only [Rep, PRep] at h1
    obtain ⟨b, off, vs, h3, _⟩ := h1
    exact ⟨.bool false, by simp only [execOp, h3, rep_v h2, Sem.run_bind, guard_ptr, Result.andThen_ok, binOp, run_ptrNil w hu, Sem.run_pure], rep_mk rfl⟩
theorem a_pnePN {cs : List PV} (hu : P.underlying xt = some (.pointer e)) : AOp P ⟨d, .binOp .neq xt x y yt, ty, pos, af, g⟩ [.p (.pt cs), .p (.v (.pointer none))] [] [] (.p (.v (.bool true))) :=
  aop_pure fun S m w ev hr => by
    obtain ⟨h1, h2⟩ := repL2 (u := ev x) (v := ev y) hr
    simp only [Rep, PRep] at h1
    obtain ⟨b, off, vs, h3, _⟩ := h1
    exact ⟨.bool true, by simp only [execOp, h3, rep_v h2, Sem.run_bind, guard_ptr, Result.andThen_ok, binOp, run_ptrNil w hu, Sem.run_pure]; rfl, rep_mk rfl⟩
theorem a_peqRR {o off k : Nat} (hu : P.underlying xt = some (.pointer e)) (hk : (P.info? e).map (·.size) = some (k + 1)) : AOp P ⟨d, .binOp .eql xt x y yt, ty, pos, af, g⟩ [.ref o off, .ref o off] [] [] (.p (.v (.bool true))) :=
  aop_pure fun S m w ev hr => by
    obtain ⟨h1, h2⟩ := repL2 (u := ev x) (v := ev y) hr
    simp only [Rep] at h1 h2
    obtain ⟨b, v0, a1, a2, a3⟩ := h1
    obtain ⟨b', v0', c1, c2, c3⟩ := h2
    rw [a1] at c1; cases c1
    rw [a2] at c2; cases c2
    exact ⟨.bool true, by simp only [execOp, a3, c3, Sem.run_bind, guard_ptr, Result.andThen_ok, binOp, run_ptrSame w hu hk, Sem.run_pure], rep_mk rfl⟩
theorem a_pneRR {o off k : Nat} (hu : P.underlying xt = some (.pointer e)) (hk : (P.info? e).map (·.size) = some (k + 1)) : AOp P ⟨d, .binOp .neq xt x y yt, ty, pos, af, g⟩ [.ref o off, .ref o off] [] [] (.p (.v (.bool false))) :=
  aop_pure fun S m w ev hr => by
    obtain ⟨h1, h2⟩ := repL2 (u := ev x) (v := ev y) hr
    simp only [Rep] at h1 h2
    obtain ⟨b, v0, a1, a2, a3⟩ := h1
    obtain ⟨b', v0', c1, c2, c3⟩ := h2
    rw [a1] at c1; cases c1
    rw [a2] at c2; cases c2
    exact ⟨.bool false, by simp only [execOp, a3, c3, Sem.run_bind, guard_ptr, Result.andThen_ok, binOp, run_ptrSame w hu hk, Sem.run_pure]; rfl, rep_mk rfl⟩
end
theorem box_shape {w : World} {b : Nat} {us : List Value} {ty : TypeId} {fz : Nat × Nat} (h : w.heap[b]? = some (.cells us.toArray ty fz)) : w.shape? b = some (ty, us.length) := by simp [World.shape?, h]
/-- a variable's address as an unsafe.Pointer, and back -/
theorem a_toUnsafe {x : Operand} {src dst t bt : TypeId} {o k : Nat} {c : AV} {cs : List AV} (hs : P.underlying src = some (.pointer t)) (hd : P.underlying dst = some .unsafePointer) (hk : (P.info? t).map (·.size) = some (k + 1)) :
    AOp P ⟨d, .convert src dst x, ty, pos, af, g⟩ [.ref o 0] [(o, .live (.box bt (c :: cs)))] [] (.ref o 0) :=
  aop_read fun w0 A S m heap w ev hm hR hrd => by
    have ho : heap o = .live (.box bt (c :: cs)) := rd1 hrd
    have hx := repL1 (u := ev x) hR
    have hx' := hx
    simp only [Rep] at hx
    obtain ⟨b, v0, h1, h2, h3⟩ := hx
    obtain ⟨v, k1, k2, _⟩ := hm.live o _ ho
    rw [h1] at k1; cases k1
    obtain ⟨b', us, rfl, _, j1, _, j3⟩ := k2
    obtain rfl : b' = b := by simpa [blk] using h2
    have hl := j1.length
    cases hq : P.info? t with
    | none => simp [hq] at hk
    | some j =>
      have hj : j.size = k + 1 := by simpa [hq] using hk
      have := Lib.run_to_unsafe (P := P) w ⟨b', 0, none⟩ hs hd hq (by omega) (box_shape j3) (by rw [hl]; simp)
      exact ⟨.pointer (some ⟨b', 0, none⟩), by simp only [execOp, h3, this, Sem.run_bind, Result.andThen_ok, Sem.run_pure], by rw [← h3]; exact hx'⟩
theorem a_fromUnsafe {x : Operand} {src dst u bt : TypeId} {o k : Nat} {cs : List AV} (hs : P.underlying src = some .unsafePointer) (hd : P.underlying dst = some (.pointer u)) (hk : (P.info? u).map (·.size) = some k) (hl : liesAt P P.depth bt (cs.length / P.cellsOf bt) 0 u 1 = true) :
    AOp P ⟨d, .convert src dst x, ty, pos, af, g⟩ [.ref o 0] [(o, .live (.box bt cs))] [] (.ref o 0) :=
  aop_read fun w0 A S m heap w ev hm hR hrd => by
    have ho : heap o = .live (.box bt cs) := rd1 hrd
    have hx := repL1 (u := ev x) hR
    have hx' := hx
    simp only [Rep] at hx
    obtain ⟨b, v0, h1, h2, h3⟩ := hx
    obtain ⟨v, k1, k2, _⟩ := hm.live o _ ho
    rw [h1] at k1; cases k1
    obtain ⟨b', us, rfl, _, j1, _, j3⟩ := k2
    obtain rfl : b' = b := by simpa [blk] using h2
    have hlen := j1.length
    cases hq : P.info? u with
    | none => simp [hq] at hk
    | some j =>
      have := Lib.run_from_unsafe (P := P) w ⟨b', 0, none⟩ hs hd hq (box_shape j3) (by rw [hlen]; exact hl)
      exact ⟨.pointer (some ⟨b', 0, none⟩), by simp only [execOp, h3, this, Sem.run_bind, Result.andThen_ok, Sem.run_pure], by rw [← h3]; exact hx'⟩
/-- abi.NoEscape gives what it is given -/
theorem a_noEscape {x y : Operand} {ts : Array TypeId} {f : FuncId} {fn : Func} {X : AV} (hf : P.funcs[f]? = some fn) (hname : (fn.name == "runtime.NumGoroutine") = false) (hb : fn.body.isNone = true) (hn : Extern.findNext fn = none) (he : Extern.find fn = some Extern.AbiNoEscape.same) :
    AOp P ⟨d, .call { callee := .value x, args := #[y], argTypes := ts }, ty, pos, af, g⟩ [.fn f [], X] [] [] X :=
  aop_pure fun S m w ev hr => by
    have hr' : RepL S m w [.fn f [], X] [ev x, ev y] := by simpa [Op.operands, Call.operands] using hr
    simp only [RepL, Rep] at hr'
    obtain ⟨u, vs, h1, ⟨us, h2, h3⟩, v, vs', h4, h5, h6⟩ := hr'
    subst h6 h4 h3
    simp only [List.cons.injEq, and_true] at h1
    obtain ⟨rfl, rfl⟩ := h1
    refine ⟨ev y, ?_, h5⟩
    simp only [execOp, resolve, h2, Deferred.ofValue, invoke, Sem.run_bind, Sem.run_pure, Result.andThen_ok]
    have := run_callFunc_extern (P := P) hf hname hb hn he #[ev y] w
    rw [Lib.run_noEscape] at this
    simpa using this
/-! strings out of a buffer -/
theorem a_sdNil {x : Operand} {ts : Array TypeId} : AOp P ⟨d, .call { callee := .builtin .unsafeSliceData, args := #[x], argTypes := ts }, ty, pos, af, g⟩ [.p (.v (.slice none 0 0))] [] [] (.p (.v (.pointer none))) :=
  aop_pure fun S m w ev hr => by
    have h := rep_v (repL1 (x := .p (.v (.slice none 0 0))) (u := ev x) (by simpa [Op.operands, Call.operands] using hr))
    exact ⟨.pointer none, by simp [execOp, resolve, invoke, builtin, h, Lib.run_unsafeSliceData_nil], rep_mk rfl⟩
theorem a_sdRow {x : Operand} {ts : Array TypeId} {o n size : Nat} {e : TypeId} {cs : List PV} (hn : 0 < n) : AOp P ⟨d, .call { callee := .builtin .unsafeSliceData, args := #[x], argTypes := ts }, ty, pos, af, g⟩ [.row o] [(o, .live (.row e size n cs))] [] (.ref o 0) :=
  aop_read fun w0 A S m heap w ev hm hR hrd => by
    have ho : heap o = .live (.row e size n cs) := rd1 hrd
    have hx := repL1 (x := .row o) (u := ev x) (by simpa [Op.operands, Call.operands] using hR)
    simp only [Rep] at hx
    obtain ⟨hx, _⟩ := hx
    obtain ⟨v, k1, k2, _⟩ := hm.live o _ ho
    rw [hx] at k1
    obtain rfl := Option.some.inj k1
    obtain ⟨us, j1, j2, j3⟩ := k2
    rcases j3 with ⟨_, h0⟩ | ⟨b', cap, cur, fz, hv, g1, g2, g3, g4, g5, g6, g7⟩
    · omega
    · refine ⟨.pointer (some ⟨b', 0, none⟩), by simp [execOp, resolve, invoke, builtin, hv, Lib.run_unsafeSliceData_row (P := P) w ts ty ⟨b', 0, none⟩ n cap (by omega)], ?_⟩
      simp only [Rep]
      exact ⟨b', ev x, hx, by rw [hv]; rfl, rfl⟩
theorem a_usNil {x y : Operand} {t1 t2 : TypeId} : AOp P ⟨d, .call { callee := .builtin .unsafeString, args := #[x, y], argTypes := #[t1, t2] }, ty, pos, af, g⟩ [.p (.v (.pointer none)), .p (.v (.int .i64 0))] [] [] (.p (.v (.string ⟨#[]⟩))) :=
  aop_pure fun S m w ev hr => by
    obtain ⟨h1, h2⟩ := repL2 (x := .p (.v (.pointer none))) (y := .p (.v (.int .i64 0))) (u := ev x) (v := ev y) (by simpa [Op.operands, Call.operands] using hr)
    exact ⟨.string ⟨#[]⟩, by simp [execOp, resolve, invoke, builtin, rep_v h1, rep_v h2, Lib.run_unsafeString_none (P := P) w t1 t2 ty none]; rfl, rep_mk rfl⟩
/-- the bytes of a row as a string; the row is given up -/
theorem a_usRow {x y : Operand} {t1 t2 e : TypeId} {o n : Nat} {xs : List Int} (hp : P.underlying t1 = some (.pointer e)) (hc : P.cellsOf e = 1) (hn : 0 < n) (hB : isB xs) :
    AOp P ⟨d, .call { callee := .builtin .unsafeString, args := #[x, y], argTypes := #[t1, t2] }, ty, pos, af, g⟩ [.ref o 0, .p (.v (.int .i64 n))] [(o, .live (.row e 1 n (bs xs)))] [(o, .dead)] (.p (.v (.string (strOfNums xs)))) := by
  intro w0 A S m heap w ev hm hR hrd
  have ho : heap o = .live (.row e 1 n (bs xs)) := rd1 hrd
  obtain ⟨h1, h2⟩ := repL2 (x := .ref o 0) (y := .p (.v (.int .i64 n))) (u := ev x) (v := ev y) (by simpa [Op.operands, Call.operands] using hR)
  simp only [Rep] at h1
  obtain ⟨b, v0, a1, a2, a3⟩ := h1
  obtain ⟨v, k1, k2, k3⟩ := hm.live o _ ho
  rw [a1] at k1
  obtain rfl := Option.some.inj k1
  obtain ⟨us, j1, j2, j3⟩ := k2
  have hus := bs_rep j1
  rw [Nat.mul_one] at j2
  have hxl : xs.length = n := by rw [← j2, hus]; simp
  rcases j3 with ⟨rfl, h0⟩ | ⟨b', cap, cur, fz, hv, g1, g2, g3, g4, g5, g6, g7⟩
  · omega
  obtain rfl : b' = b := by rw [hv] at a2; simpa [blk] using a2
  rw [Nat.mul_one] at g6 g7
  have hl8 : (xs.map fun z => UInt8.ofNat z.toNat).length = n := by simp [hxl]
  have hrun := Lib.run_unsafeString_row (P := P) w t1 t2 ty e hp hc b' cur.size (by simp [World.shape?, g2]) (xs.map fun z => UInt8.ofNat z.toNat) (by intro h; rw [h] at hl8; simp at hl8; omega) (by rw [hl8]; omega) (by rw [hl8]; simp only [maxLen] at g5; omega) (by
    intro j z hj
    rw [List.getElem?_map] at hj
    cases hxj : xs[j]? with
    | none => simp [hxj] at hj
    | some q =>
      simp only [hxj, Option.map_some, Option.some.injEq] at hj
      have hq := hB q (List.mem_of_getElem? hxj)
      have hjn : j < n := by rw [← hxl]; exact (List.getElem?_eq_some_iff.1 hxj).1
      have hcur : cur[j]? = some (.int .u8 q) := by
        have : us[j]? = some (.int .u8 q) := by rw [hus, List.getElem?_map, hxj]; rfl
        rw [← g7, List.getElem?_take_of_lt hjn] at this
        simpa using this
      have hz : (z.toNat : Int) = q := by
        rw [← hj, UInt8.toNat_ofNat']; omega
      rw [show (⟨b', 0, none⟩ : Addr).add j = ⟨b', j, none⟩ by (simp [Addr.add]; omega), cell_of_row w b' j cur e fz g2, hcur, hz])
  rw [hl8] at hrun
  have hex : (execOp ev ⟨d, .call { callee := .builtin .unsafeString, args := #[x, y], argTypes := #[t1, t2] }, ty, pos, af, g⟩).run P w = .ok (.value (.string (strOfNums xs))) (w.freeze ⟨b', 0, none⟩ n) := by
    simp [execOp, resolve, invoke, builtin, a3, rep_v h2, hrun]
    rfl
  unfold Out
  rw [hex]
  obtain ⟨fz', hw⟩ : ∃ fz', w.freeze ⟨b', 0, none⟩ n = { w with heap := w.heap.modify b' fun _ => .cells cur e fz' } := by
    refine ⟨if fz.1 == fz.2 then (0, 0 + n) else (min fz.1 0, max fz.2 (0 + n)), ?_⟩
    unfold World.freeze
    rw [if_neg (by omega)]
    congr 1
    apply Array.ext (by simp)
    intro i h1 h2
    simp only [Array.getElem_modify]
    split
    · rename_i e1
      subst e1
      have : w.heap[b']'(by simpa using h1) = .cells cur e fz := by
        have hlt : b' < w.heap.size := by simpa using h1
        rw [Array.getElem?_eq_getElem hlt] at g2
        exact Option.some.inj g2
      rw [this]
    · rfl
  rw [hw]
  have q5 : ∀ k, k ≠ b' → (w.heap.modify b' fun _ => Obj.cells cur e fz')[k]? = w.heap[k]? := fun k hk => by
    rw [Array.getElem?_modify, if_neg (Ne.symm hk)]
  have hbS := k3 b' a2
  have hgr : Grow S m w S m { w with heap := w.heap.modify b' fun _ => .cells cur e fz' } := ⟨fun _ h => h, fun c hS => q5 c (fun e => hbS (e ▸ hS)), fun _ _ h => h⟩
  have hbw : Below w0.heap.size w { w with heap := w.heap.modify b' fun _ => .cells cur e fz' } := ⟨rfl, rfl, rfl, by simp, fun k hk => q5 k (by omega)⟩
  refine ⟨S, m, rep_mk rfl, ⟨hm.bel.trans hbw, hm.sA, fun c h => by have := hm.sW c h; simpa using this, fun o' ho' => ?_, fun o' ob2 ho' => ?_, fun o1 o2 ob1 ob2 v1 v2 c h1 h2 h3 h4 h5 h6 => ?_⟩, hgr⟩
  · by_cases e1 : o' = o
    · subst e1; simp [updL] at ho'
    · simp only [updL, nbeq e1, cond_false] at ho'
      exact hm.un o' ho'
  · by_cases e1 : o' = o
    · subst e1; simp [updL] at ho'
    · simp only [updL, nbeq e1, cond_false] at ho'
      obtain ⟨u, i1, i2, i3⟩ := hm.live o' ob2 ho'
      exact ⟨u, i1, i2.mono hgr fun c hc' => q5 c (fun eb => by subst eb; exact e1 (hm.inj _ _ _ _ _ _ _ ho' ho i1 a1 hc' a2)), i3⟩
  · have key : ∀ {z : Nat} {obz : AObj}, updL heap [(o, .dead)] z = .live obz → heap z = .live obz := by
      intro z obz hz
      by_cases e1 : z = o
      · subst e1; simp [updL] at hz
      · simpa only [updL, nbeq e1, cond_false] using hz
    exact hm.inj _ _ _ _ _ _ _ (key h1) (key h2) h3 h4 h5 h6
end
end Go.Proofs.Ytgbgpidimipfjaa
