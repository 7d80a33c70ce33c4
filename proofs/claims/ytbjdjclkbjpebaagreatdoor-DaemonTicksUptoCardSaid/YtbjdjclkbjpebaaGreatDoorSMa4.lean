/- The machine over data: pointers: nil checks, comparisons, the conversions that strings.Builder uses. The machine over data: what is compared with itself; operations whose guard is known. -/
import Derived.Test.YtbjdjclkbjpebaaGreatDoorSMa3
import Derived.Lib.Builder
import Derived.Lib.UnsafeStr
import Derived.Laws.Externs
import Derived.LoopN
import Derived.Test.YtbjdjclkbjpebaaGreatDoorSTab
namespace Go.Proofs.YtbjdjclkbjpebaaGreatDoor
open Go.RowKit Go.Sort
set_option linter.unusedVariables false
section
variable {P : Program} {d : Option Tmp} {ty : TypeId} {pos : String} {af : Array Edge} {g : Option (Nat × Bool)}
theorem zfx {x : Operand} {o off : Nat} : AOp P ⟨d, .nilCheck x, ty, pos, af, g⟩ [.ref o off] [] [] (.ref o off) :=
 zau fun S m w ev hr => by
  have h := zca (u := ev x) hr
  have h' := h
  simp only [Rep] at h
  obtain ⟨b, v0, h1, h2, h3⟩ := h
  exact ⟨.pointer (some ⟨b, off, none⟩), by simp only [execOp, h3, Sem.run_pure], by rw [← h3]; exact h'⟩
theorem zbv {x : Operand} {cs : List PV} : AOp P ⟨d, .nilCheck x, ty, pos, af, g⟩ [.p (.pt cs)] [] [] (.ptr cs) :=
 zau fun S m w ev hr => by
  have h := zca (u := ev x) hr
  simp only [Rep, PRep] at h
  obtain ⟨b, off, vs, h1, h2, h3, h4⟩ := h
  exact ⟨.pointer (some ⟨b, off, none⟩), by simp only [execOp, h1, Sem.run_pure], by simp only [Rep]; exact ⟨b, off, vs, rfl, h2, h3, h4⟩⟩
theorem zcT {x y : Operand} {t e : TypeId} {k len : Nat} {kk : IntKind} {i : Int} {cs ds : List PV} (hu : P.underlying t = some (.array len e)) (hi : (P.info? e).map (·.size) = some k) (h0 : 0 ≤ i) (h1 : i < len) (hd : cs.drop (i.toNat * k) = ds) :
  AOp P ⟨d, .indexAddr t x y, ty, pos, af, g⟩ [.ptr cs, .p (.v (.int kk i))] [] [] (.ptr ds) :=
 zau fun S m w ev hr => by
  obtain ⟨hx, hy⟩ := zb5 (u := ev x) (v := ev y) hr
  simp only [Rep] at hx
  obtain ⟨b, o, vs, h1', h2, h3, h4⟩ := hx
  refine ⟨.pointer (some ⟨b, o + i.toNat * k, none⟩), by simp [execOp, h1', zba hy, zfV hu hi h0 h1], ?_⟩
  simp only [Rep]
  refine ⟨b, o + i.toNat * k, vs.drop (i.toNat * k), rfl, h2, hd ▸ h3.drop (i.toNat * k), fun j v hj => ?_⟩
  rw [List.getElem?_drop] at hj
  rw [Nat.add_assoc]
  exact h4 _ v hj
theorem zdJ (op : BinOp) (t : TypeId) (x y : Operand) (a b : Option Addr) (w : World) : (eqGuard op t x y (.pointer a) (.pointer b)).run P w = .ok () w := by
 unfold eqGuard
 cases op <;> rfl
section
variable {xt yt : TypeId} {x y : Operand} {e : TypeId}
theorem zfD (w : World) (hu : P.underlying xt = some (.pointer e)) (a : Addr) : (Op.equal xt (.pointer (some a)) (.pointer none)).run P w = .ok false w := by
 show (Op.equalIn (9999 + 1) xt (.pointer (some a)) (.pointer none)).run P w = .ok false w
 generalize 9999 = d
 simp [Op.equalIn, run_underlying hu]
theorem zhD (w : World) (hu : P.underlying xt = some (.pointer e)) : (Op.equal xt (.pointer none) (.pointer none)).run P w = .ok true w := by
 show (Op.equalIn (9999 + 1) xt (.pointer none) (.pointer none)).run P w = .ok true w
 generalize 9999 = d
 simp [Op.equalIn, run_underlying hu]
theorem run_ptrSame (w : World) (hu : P.underlying xt = some (.pointer e)) {k : Nat} (hk : (P.info? e).map (·.size) = some (k + 1)) (a : Addr) : (Op.equal xt (.pointer (some a)) (.pointer (some a))).run P w = .ok true w := by
 have hs := zbd (P := P) hk w
 show (Op.equalIn (9999 + 1) xt (.pointer (some a)) (.pointer (some a))).run P w = .ok true w
 generalize 9999 = d
 simp [Op.equalIn, run_underlying hu, hs, sameAddr]
theorem ziF (hu : P.underlying xt = some (.pointer e)) : AOp P ⟨d, .binOp .eql xt x y yt, ty, pos, af, g⟩ [.p (.v (.pointer none)), .p (.v (.pointer none))] [] [] (.p (.v (.bool true))) :=
 zck (zdJ _ _ _ _ _ _) (fun w => by simp only [binOp, Sem.run_bind, zhD w hu, Result.andThen_ok, Sem.run_pure]) rfl
theorem a_pneNN (hu : P.underlying xt = some (.pointer e)) : AOp P ⟨d, .binOp .neq xt x y yt, ty, pos, af, g⟩ [.p (.v (.pointer none)), .p (.v (.pointer none))] [] [] (.p (.v (.bool false))) :=
 zck (zdJ _ _ _ _ _ _) (fun w => by simp only [binOp, Sem.run_bind, zhD w hu, Result.andThen_ok, Sem.run_pure]; rfl) rfl
theorem a_peqRN {o off : Nat} (hu : P.underlying xt = some (.pointer e)) : AOp P ⟨d, .binOp .eql xt x y yt, ty, pos, af, g⟩ [.ref o off, .p (.v (.pointer none))] [] [] (.p (.v (.bool false))) :=
 zau fun S m w ev hr => by
  obtain ⟨h1, h2⟩ := zb5 (u := ev x) (v := ev y) hr
  simp only [Rep] at h1
  obtain ⟨b, v0, _, _, h3⟩ := h1
  exact ⟨.bool false, by simp only [execOp, h3, zba h2, Sem.run_bind, zdJ, Result.andThen_ok, binOp, zfD w hu, Sem.run_pure], zaV rfl⟩
theorem a_peqPN {cs : List PV} (hu : P.underlying xt = some (.pointer e)) : AOp P ⟨d, .binOp .eql xt x y yt, ty, pos, af, g⟩ [.p (.pt cs), .p (.v (.pointer none))] [] [] (.p (.v (.bool false))) :=
 zau fun S m w ev hr => by
  obtain ⟨h1, h2⟩ := zb5 (u := ev x) (v := ev y) hr
  simp only [Rep, PRep] at h1
  obtain ⟨b, off, vs, h3, _⟩ := h1
  exact ⟨.bool false, by simp only [execOp, h3, zba h2, Sem.run_bind, zdJ, Result.andThen_ok, binOp, zfD w hu, Sem.run_pure], zaV rfl⟩
theorem a_pnePN {cs : List PV} (hu : P.underlying xt = some (.pointer e)) : AOp P ⟨d, .binOp .neq xt x y yt, ty, pos, af, g⟩ [.p (.pt cs), .p (.v (.pointer none))] [] [] (.p (.v (.bool true))) :=
 zau fun S m w ev hr => by
  obtain ⟨h1, h2⟩ := zb5 (u := ev x) (v := ev y) hr
  simp only [Rep, PRep] at h1
  obtain ⟨b, off, vs, h3, _⟩ := h1
  exact ⟨.bool true, by simp only [execOp, h3, zba h2, Sem.run_bind, zdJ, Result.andThen_ok, binOp, zfD w hu, Sem.run_pure]; rfl, zaV rfl⟩
theorem a_pneRR {o off k : Nat} (hu : P.underlying xt = some (.pointer e)) (hk : (P.info? e).map (·.size) = some (k + 1)) : AOp P ⟨d, .binOp .neq xt x y yt, ty, pos, af, g⟩ [.ref o off, .ref o off] [] [] (.p (.v (.bool false))) :=
 zau fun S m w ev hr => by
  obtain ⟨h1, h2⟩ := zb5 (u := ev x) (v := ev y) hr
  simp only [Rep] at h1 h2
  obtain ⟨b, v0, a1, a2, a3⟩ := h1
  obtain ⟨b', v0', c1, c2, c3⟩ := h2
  rw [a1] at c1; cases c1
  rw [a2] at c2; cases c2
  exact ⟨.bool false, by simp only [execOp, a3, c3, Sem.run_bind, zdJ, Result.andThen_ok, binOp, run_ptrSame w hu hk, Sem.run_pure]; rfl, zaV rfl⟩
end
theorem re_of0 {st : St} (ts : List (Nat × AV)) (h1 : LeT id st [] ts) : Re st (St.of ts []) := zah id ts [] h1 trivial rfl
def zg0 : Value → Bool
 | .bool _ => true
 | _ => false
theorem guard_slc (op : BinOp) (t : TypeId) (x y : Operand) (a b : Option Addr) (n c m k : Nat) (w : World) : (eqGuard op t x y (.slice a n c) (.slice b m k)).run P w = .ok () w := by
 unfold eqGuard
 cases op <;> rfl
section
variable {xt yt : TypeId} {x y : Operand} {e : TypeId}
theorem run_slcNil (w : World) (hu : P.underlying xt = some (.slice e)) (a : Option Addr) (n c : Nat) : (Op.equal xt (.slice a n c) (.slice none 0 0)).run P w = .ok a.isNone w := by
 show (Op.equalIn (9999 + 1) xt (.slice a n c) (.slice none 0 0)).run P w = .ok a.isNone w
 generalize 9999 = d
 cases a <;> simp [Op.equalIn, run_underlying hu]
theorem bin_slcEq (w : World) (hu : P.underlying xt = some (.slice e)) (a : Option Addr) (n c : Nat) : (binOp .eql xt (.slice a n c) (.slice none 0 0)).run P w = .ok (.bool a.isNone) w := by
 simp only [binOp, Sem.run_bind, run_slcNil w hu, Result.andThen_ok, Sem.run_pure]
theorem exec_slc {op : BinOp} {S : Nat → Prop} {m : Nat → Option Value} {w : World} {ev : Operand → Value} {X R : AV} {f : Option Addr → Bool} (hb : ∀ a n c, (binOp op xt (.slice a n c) (.slice none 0 0)).run P w = .ok (.bool (f a)) w)
  (hr : RepL S m w [X, .p (.v (.slice none 0 0))] [ev x, ev y]) (k : ∀ u, Rep S m w X u → ∃ a n c, u = .slice a n c ∧ Rep S m w R (.bool (f a))) : ∃ v, (execOp ev ⟨d, .binOp op xt x y yt, ty, pos, af, g⟩).run P w = .ok (.value v) w ∧ Rep S m w R v := by
 obtain ⟨h1, h2⟩ := zb5 (u := ev x) (v := ev y) hr
 obtain ⟨a, n, c, h3, h4⟩ := k _ h1
 exact ⟨.bool (f a), by simp only [execOp, h3, zba h2, Sem.run_bind, guard_slc, Result.andThen_ok, hb, Sem.run_pure], h4⟩
theorem rep_sat {S : Nat → Prop} {m : Nat → Option Value} {w : World} {b : Bool} : Rep S m w (.sat zg0) (.bool b) := by simp [Rep, zg0, Value.oneCell']
theorem sl_some {S : Nat → Prop} {m : Nat → Option Value} {w : World} {n size : Nat} {cs : List PV} {u : Value} (hn : 0 < n) (h : Rep S m w (.p (.sl n size cs)) u) : ∃ a n c, u = .slice (some a) n c := by
 simp only [Rep, PRep] at h
 obtain ⟨a, cap, vs, rfl, _, _, _, h5⟩ := h
 rcases h5 with h5 | ⟨b, off, rfl, _⟩
 ·omega
 ·exact ⟨_, _, _, rfl⟩
theorem sl_slc {S : Nat → Prop} {m : Nat → Option Value} {w : World} {n size : Nat} {cs : List PV} {u : Value} (h : Rep S m w (.p (.sl n size cs)) u) : ∃ a n c, u = .slice a n c := by
 simp only [Rep, PRep] at h
 obtain ⟨a, cap, vs, rfl, _⟩ := h
 exact ⟨_, _, _, rfl⟩
theorem a_seqS {n size : Nat} {cs : List PV} (hu : P.underlying xt = some (.slice e)) (hn : 0 < n) : AOp P ⟨d, .binOp .eql xt x y yt, ty, pos, af, g⟩ [.p (.sl n size cs), .p (.v (.slice none 0 0))] [] [] (.p (.v (.bool false))) :=
 zau fun S m w ev hr => exec_slc (fun a n c => bin_slcEq w hu a n c) hr fun u h => let ⟨a, n, c, h⟩ := sl_some hn h; ⟨some a, n, c, h, zaV rfl⟩
theorem a_seqX {n size : Nat} {cs : List PV} (hu : P.underlying xt = some (.slice e)) : AOp P ⟨d, .binOp .eql xt x y yt, ty, pos, af, g⟩ [.p (.sl n size cs), .p (.v (.slice none 0 0))] [] [] (.sat zg0) :=
 zau fun S m w ev hr => exec_slc (fun a n c => bin_slcEq w hu a n c) hr fun u h => let ⟨a, n, c, h⟩ := sl_slc h; ⟨a, n, c, h, rep_sat⟩
end
theorem zem {G : Env} {Q : Exit → St → Prop} {st : St} {c : Operand} {x y : Code} (hc : st.ev c = .sat zg0) (h1 : awp G x Q st) (h2 : awp G y Q st) : awp G (.cond c x y) Q st := by
 intro a w hs
 obtain ⟨S, m, hm, hj, ht⟩ := hs.mem
 have := ev_rep ht c
 rw [hc] at this
 simp only [Rep] at this
 have h3 := this.1
 cases hv : a.eval c <;> rw [hv] at h3 <;> simp only [zg0, Bool.false_eq_true] at h3
 exact wp_cond_split hv (fun _ => h1 a w hs) (fun _ => h2 a w hs)
theorem box_shape {w : World} {b : Nat} {us : List Value} {ty : TypeId} {fz : Nat × Nat} (h : w.heap[b]? = some (.cells us.toArray ty fz)) : w.shape? b = some (ty, us.length) := by simp [World.shape?, h]
theorem a_toUnsafe {x : Operand} {src dst t bt : TypeId} {o k : Nat} {c : AV} {cs : List AV} (hs : P.underlying src = some (.pointer t)) (hd : P.underlying dst = some .unsafePointer) (hk : (P.info? t).map (·.size) = some (k + 1)) :
  AOp P ⟨d, .convert src dst x, ty, pos, af, g⟩ [.ref o 0] [(o, .live (.box bt (c :: cs)))] [] (.ref o 0) :=
 zb0 fun w0 A S m heap w ev hm hR hrd => by
  have ho : heap o = .live (.box bt (c :: cs)) := rd1 hrd
  have hx := zca (u := ev x) hR
  have hx' := hx
  simp only [Rep] at hx
  obtain ⟨b, v0, h1, h2, h3⟩ := hx
  obtain ⟨v, k1, k2, _⟩ := hm.live o _ ho
  rw [h1] at k1; cases k1
  obtain ⟨b', us, rfl, _, j1, _, j3⟩ := k2
  obtain rfl : b' = b := by simpa [blk] using h2
  have hl := j1.length
  cases hq : P.info? t with
  | none => simp [hq] at hk
  | some j =>
   have hj : j.size = k + 1 := by simpa [hq] using hk
   have := Lib.run_to_unsafe (P := P) w ⟨b', 0, none⟩ hs hd hq (by omega) (box_shape j3) (by rw [hl]; simp)
   exact ⟨.pointer (some ⟨b', 0, none⟩), by simp only [execOp, h3, this, Sem.run_bind, Result.andThen_ok, Sem.run_pure], by rw [← h3]; exact hx'⟩
theorem a_fromUnsafe {x : Operand} {src dst u bt : TypeId} {o k : Nat} {cs : List AV} (hs : P.underlying src = some .unsafePointer) (hd : P.underlying dst = some (.pointer u)) (hk : (P.info? u).map (·.size) = some k) (hl : liesAt P P.depth bt (cs.length / P.cellsOf bt) 0 u 1 = true) :
  AOp P ⟨d, .convert src dst x, ty, pos, af, g⟩ [.ref o 0] [(o, .live (.box bt cs))] [] (.ref o 0) :=
 zb0 fun w0 A S m heap w ev hm hR hrd => by
  have ho : heap o = .live (.box bt cs) := rd1 hrd
  have hx := zca (u := ev x) hR
  have hx' := hx
  simp only [Rep] at hx
  obtain ⟨b, v0, h1, h2, h3⟩ := hx
  obtain ⟨v, k1, k2, _⟩ := hm.live o _ ho
  rw [h1] at k1; cases k1
  obtain ⟨b', us, rfl, _, j1, _, j3⟩ := k2
  obtain rfl : b' = b := by simpa [blk] using h2
  have hlen := j1.length
  cases hq : P.info? u with
  | none => simp [hq] at hk
  | some j =>
   have := Lib.run_from_unsafe (P := P) w ⟨b', 0, none⟩ hs hd hq (box_shape j3) (by rw [hlen]; exact hl)
   exact ⟨.pointer (some ⟨b', 0, none⟩), by simp only [execOp, h3, this, Sem.run_bind, Result.andThen_ok, Sem.run_pure], by rw [← h3]; exact hx'⟩
theorem a_noEscape {x y : Operand} {ts : Array TypeId} {f : FuncId} {fn : Func} {X : AV} (hf : P.funcs[f]? = some fn) (hname : (fn.name == "runtime.NumGoroutine") = false) (hb : fn.body.isNone = true) (hn : Extern.findNext fn = none) (he : Extern.find fn = some Extern.AbiNoEscape.same) :
  AOp P ⟨d, .call { callee := .value x, args := #[y], argTypes := ts }, ty, pos, af, g⟩ [.fn f [], X] [] [] X :=
 zau fun S m w ev hr => by
  have hr' : RepL S m w [.fn f [], X] [ev x, ev y] := by simpa [Op.operands, Call.operands] using hr
  simp only [RepL, Rep] at hr'
  obtain ⟨u, vs, h1, ⟨us, h2, h3⟩, v, vs', h4, h5, h6⟩ := hr'
  subst h6 h4 h3
  simp only [List.cons.injEq, and_true] at h1
  obtain ⟨rfl, rfl⟩ := h1
  refine ⟨ev y, ?_, h5⟩
  simp only [execOp, resolve, h2, Deferred.ofValue, invoke, Sem.run_bind, Sem.run_pure, Result.andThen_ok]
  have := run_callFunc_extern (P := P) hf hname hb hn he #[ev y] w
  rw [Lib.run_noEscape] at this
  simpa using this
theorem a_sdNil {x : Operand} {ts : Array TypeId} : AOp P ⟨d, .call { callee := .builtin .unsafeSliceData, args := #[x], argTypes := ts }, ty, pos, af, g⟩ [.p (.v (.slice none 0 0))] [] [] (.p (.v (.pointer none))) :=
 zau fun S m w ev hr => by
  have h := zba (zca (x := .p (.v (.slice none 0 0))) (u := ev x) (by simpa [Op.operands, Call.operands] using hr))
  exact ⟨.pointer none, by simp [execOp, resolve, invoke, builtin, h, Lib.run_unsafeSliceData_nil], zaV rfl⟩
theorem a_sdRow {x : Operand} {ts : Array TypeId} {o n size : Nat} {e : TypeId} {cs : List PV} (hn : 0 < n) : AOp P ⟨d, .call { callee := .builtin .unsafeSliceData, args := #[x], argTypes := ts }, ty, pos, af, g⟩ [.row o] [(o, .live (.row e size n cs))] [] (.ref o 0) :=
 zb0 fun w0 A S m heap w ev hm hR hrd => by
  have ho : heap o = .live (.row e size n cs) := rd1 hrd
  have hx := zca (x := .row o) (u := ev x) (by simpa [Op.operands, Call.operands] using hR)
  simp only [Rep] at hx
  obtain ⟨hx, _⟩ := hx
  obtain ⟨v, k1, k2, _⟩ := hm.live o _ ho
  rw [hx] at k1
  obtain rfl := Option.some.inj k1
  obtain ⟨us, j1, j2, j3⟩ := k2
  rcases j3 with ⟨_, h0⟩ | ⟨b', cap, cur, fz, hv, g1, g2, g3, g4, g5, g6, g7⟩
  ·omega
  ·refine ⟨.pointer (some ⟨b', 0, none⟩), by simp [execOp, resolve, invoke, builtin, hv, Lib.run_unsafeSliceData_row (P := P) w ts ty ⟨b', 0, none⟩ n cap (by omega)], ?_⟩
   simp only [Rep]
   exact ⟨b', ev x, hx, by rw [hv]; rfl, rfl⟩
theorem a_usNil {x y : Operand} {t1 t2 : TypeId} : AOp P ⟨d, .call { callee := .builtin .unsafeString, args := #[x, y], argTypes := #[t1, t2] }, ty, pos, af, g⟩ [.p (.v (.pointer none)), .p (.v (.int .i64 0))] [] [] (.p (.v (.string ⟨#[]⟩))) :=
 zau fun S m w ev hr => by
  obtain ⟨h1, h2⟩ := zb5 (x := .p (.v (.pointer none))) (y := .p (.v (.int .i64 0))) (u := ev x) (v := ev y) (by simpa [Op.operands, Call.operands] using hr)
  exact ⟨.string ⟨#[]⟩, by simp [execOp, resolve, invoke, builtin, zba h1, zba h2, Lib.run_unsafeString_none (P := P) w t1 t2 ty none]; rfl, zaV rfl⟩
theorem a_usRow {x y : Operand} {t1 t2 e : TypeId} {o n : Nat} {xs : List Int} (hp : P.underlying t1 = some (.pointer e)) (hc : P.cellsOf e = 1) (hn : 0 < n) (hB : isB xs) :
  AOp P ⟨d, .call { callee := .builtin .unsafeString, args := #[x, y], argTypes := #[t1, t2] }, ty, pos, af, g⟩ [.ref o 0, .p (.v (.int .i64 n))] [(o, .live (.row e 1 n (bs xs)))] [(o, .dead)] (.p (.v (.string (strOfNums xs)))) := by
 intro w0 A S m heap w ev hm hR hrd
 have ho : heap o = .live (.row e 1 n (bs xs)) := rd1 hrd
 obtain ⟨h1, h2⟩ := zb5 (x := .ref o 0) (y := .p (.v (.int .i64 n))) (u := ev x) (v := ev y) (by simpa [Op.operands, Call.operands] using hR)
 simp only [Rep] at h1
 obtain ⟨b, v0, a1, a2, a3⟩ := h1
 obtain ⟨v, k1, k2, k3⟩ := hm.live o _ ho
 rw [a1] at k1
 obtain rfl := Option.some.inj k1
 obtain ⟨us, j1, j2, j3⟩ := k2
 have hus := bs_rep j1
 rw [Nat.mul_one] at j2
 have hxl : xs.length = n := by rw [← j2, hus]; simp
 rcases j3 with ⟨rfl, h0⟩ | ⟨b', cap, cur, fz, hv, g1, g2, g3, g4, g5, g6, g7⟩
 ·omega
 obtain rfl : b' = b := by rw [hv] at a2; simpa [blk] using a2
 rw [Nat.mul_one] at g6 g7
 have hl8 : (xs.map fun z => UInt8.ofNat z.toNat).length = n := by simp [hxl]
 have hrun := Lib.run_unsafeString_row (P := P) w t1 t2 ty e hp hc b' cur.size (by simp [World.shape?, g2]) (xs.map fun z => UInt8.ofNat z.toNat) (by intro h; rw [h] at hl8; simp at hl8; omega) (by rw [hl8]; omega) (by rw [hl8]; simp only [maxLen] at g5; omega) (by
  intro j z hj
  rw [List.getElem?_map] at hj
  cases hxj : xs[j]? with
  | none => simp [hxj] at hj
  | some q =>
   simp only [hxj, Option.map_some, Option.some.injEq] at hj
   have hq := hB q (List.mem_of_getElem? hxj)
   have hjn : j < n := by rw [← hxl]; exact (List.getElem?_eq_some_iff.1 hxj).1
   have hcur : cur[j]? = some (.int .u8 q) := by
    have : us[j]? = some (.int .u8 q) := by rw [hus, List.getElem?_map, hxj]; rfl
    rw [← g7, List.getElem?_take_of_lt hjn] at this
    simpa using this
   have hz : (z.toNat : Int) = q := by
    rw [← hj, UInt8.toNat_ofNat']; omega
   rw [show (⟨b', 0, none⟩ : Addr).add j = ⟨b', j, none⟩ by (simp [Addr.add]; omega), cell_of_row w b' j cur e fz g2, hcur, hz])
 rw [hl8] at hrun
 have hex : (execOp ev ⟨d, .call { callee := .builtin .unsafeString, args := #[x, y], argTypes := #[t1, t2] }, ty, pos, af, g⟩).run P w = .ok (.value (.string (strOfNums xs))) (w.freeze ⟨b', 0, none⟩ n) := by
  simp [execOp, resolve, invoke, builtin, a3, zba h2, hrun]
  rfl
 unfold Out
 rw [hex]
 obtain ⟨fz', hw⟩ : ∃ fz', w.freeze ⟨b', 0, none⟩ n = { w with heap := w.heap.modify b' fun _ => .cells cur e fz' } := by
  refine ⟨if fz.1 == fz.2 then (0, 0 + n) else (min fz.1 0, max fz.2 (0 + n)), ?_⟩
  unfold World.freeze
  rw [if_neg (by omega)]
  congr 1
  apply Array.ext (by simp)
  intro i h1 h2
  simp only [Array.getElem_modify]
  split
  ·rename_i e1
   subst e1
   have : w.heap[b']'(by simpa using h1) = .cells cur e fz := by
    have hlt : b' < w.heap.size := by simpa using h1
    rw [Array.getElem?_eq_getElem hlt] at g2
    exact Option.some.inj g2
   rw [this]
  ·rfl
 rw [hw]
 have q5 : ∀ k, k ≠ b' → (w.heap.modify b' fun _ => Obj.cells cur e fz')[k]? = w.heap[k]? := fun k hk => by
  rw [Array.getElem?_modify, if_neg (Ne.symm hk)]
 have hbS := k3 b' a2
 have hgr : Grow S m w S m { w with heap := w.heap.modify b' fun _ => .cells cur e fz' } := ⟨fun _ h => h, fun c hS => q5 c (fun e => hbS (e ▸ hS)), fun _ _ h => h⟩
 have hbw : Below w0.heap.size w { w with heap := w.heap.modify b' fun _ => .cells cur e fz' } := ⟨rfl, rfl, rfl, by simp, fun k hk => q5 k (by omega)⟩
 refine ⟨S, m, zaV rfl, ⟨hm.bel.trans hbw, hm.sA, fun c h => by have := hm.sW c h; simpa using this, fun o' ho' => ?_, fun o' ob2 ho' => ?_, fun o1 o2 ob1 ob2 v1 v2 c h1 h2 h3 h4 h5 h6 => ?_, hm.gl⟩, hgr⟩
 ·by_cases e1 : o' = o
  ·subst e1; simp [updL] at ho'
  ·simp only [updL, nbeq e1, cond_false] at ho'
   exact hm.un o' ho'
 ·by_cases e1 : o' = o
  ·subst e1; simp [updL] at ho'
  ·simp only [updL, nbeq e1, cond_false] at ho'
   obtain ⟨u, i1, i2, i3⟩ := hm.live o' ob2 ho'
   exact ⟨u, i1, i2.mono hgr fun c hc' => q5 c (fun eb => by subst eb; exact e1 (hm.inj _ _ _ _ _ _ _ ho' ho i1 a1 hc' a2)), i3⟩
 ·have key : ∀ {z : Nat} {obz : AObj}, updL heap [(o, .dead)] z = .live obz → heap z = .live obz := by
   intro z obz hz
   by_cases e1 : z = o
   ·subst e1; simp [updL] at hz
   ·simpa only [updL, nbeq e1, cond_false] using hz
  exact hm.inj _ _ _ _ _ _ _ (key h1) (key h2) h3 h4 h5 h6
end
section
variable {P : Program} {d : Option Tmp} {ty : TypeId} {pos : String} {af : Array Edge} {g : Option (Nat × Bool)} {xt yt : TypeId} {x y : Operand}
theorem a_eqlT {k : IntKind} {a : Int} : AOp P ⟨d, .binOp .eql xt x y yt, ty, pos, af, g⟩ [.p (.v (.int k a)), .p (.v (.int k a))] [] [] (.p (.v (.bool true))) := by
 have h : AOp P ⟨d, .binOp .eql xt x y yt, ty, pos, af, g⟩ [.p (.v (.int k a)), .p (.v (.int k a))] [] [] (.p (.v (.bool (a == a)))) := a_eql
 rwa [beq_self_eq_true] at h
theorem a_neqT {k : IntKind} {a : Int} : AOp P ⟨d, .binOp .neq xt x y yt, ty, pos, af, g⟩ [.p (.v (.int k a)), .p (.v (.int k a))] [] [] (.p (.v (.bool false))) := by
 have h : AOp P ⟨d, .binOp .neq xt x y yt, ty, pos, af, g⟩ [.p (.v (.int k a)), .p (.v (.int k a))] [] [] (.p (.v (.bool (a != a)))) := a_neq
 rwa [bne_self_eq_false] at h
theorem a_seqlT {s : ByteArray} : AOp P ⟨d, .binOp .eql xt x y yt, ty, pos, af, g⟩ [.p (.v (.string s)), .p (.v (.string s))] [] [] (.p (.v (.bool true))) := by
 have h : AOp P ⟨d, .binOp .eql xt x y yt, ty, pos, af, g⟩ [.p (.v (.string s)), .p (.v (.string s))] [] [] (.p (.v (.bool (decide (s = s))))) := zhY
 rwa [decide_eq_true rfl] at h
theorem a_sneqT {s : ByteArray} : AOp P ⟨d, .binOp .neq xt x y yt, ty, pos, af, g⟩ [.p (.v (.string s)), .p (.v (.string s))] [] [] (.p (.v (.bool false))) := by
 have h : AOp P ⟨d, .binOp .neq xt x y yt, ty, pos, af, g⟩ [.p (.v (.string s)), .p (.v (.string s))] [] [] (.p (.v (.bool (!decide (s = s))))) := a_sneq
 rwa [decide_eq_true rfl] at h
theorem a_steqT {cs : List AV} {xs : List Value} {fs : Array Field} (hu : P.underlying xt = some (.struct fs)) (hx : zcf cs = some xs) (hg : P.eqGuardType P.depth xt = false) (h1 : okS P 20 xt xs = true) : AOp P ⟨d, .binOp .eql xt x y yt, ty, pos, af, g⟩ [.agg cs, .agg cs] [] [] (.p (.v (.bool true))) := by
 have h := ze6 (d := d) (ty := ty) (pos := pos) (af := af) (g := g) (yt := yt) (x := x) (y := y) hu hx hx hg h1 h1
 rwa [eqL_refl] at h
theorem a_pickT {c a b : Operand} {X Y : AV} : AOp P ⟨d, .pick c a b, ty, pos, af, g⟩ [.p (.v (.bool true)), X, Y] [] [] X :=
 zau fun S m w ev hr => by
  obtain ⟨k1, k2, k3⟩ := repL3 (u := ev c) (v := ev a) (t := ev b) hr
  exact ⟨_, by simp [execOp, zba k1, asBool], k2⟩
theorem a_pickF {c a b : Operand} {X Y : AV} : AOp P ⟨d, .pick c a b, ty, pos, af, g⟩ [.p (.v (.bool false)), X, Y] [] [] Y :=
 zau fun S m w ev hr => by
  obtain ⟨k1, k2, k3⟩ := repL3 (u := ev c) (v := ev a) (t := ev b) hr
  exact ⟨_, by simp [execOp, zba k1, asBool], k3⟩
theorem a_smin {x y : Operand} {ts : Array TypeId} {s t : ByteArray} : AOp P ⟨d, .call { callee := .builtin .min, args := #[x, y], argTypes := ts }, ty, pos, af, g⟩ [.p (.v (.string s)), .p (.v (.string t))] [] [] (.p (.v (.string (if sLt s t || decide (s = t) then s else t)))) :=
 zau fun S m w ev hr => by
  obtain ⟨h1, h2⟩ := zb5 (u := ev x) (v := ev y) hr
  refine ⟨_, ?_, zaV rfl⟩
  simp only [execOp, resolve, invoke, builtin, Builtin.min_]
  simp [Builtin.min2, Op.stringOp, sLt, asBool, zba h1, zba h2, ← zeN]
theorem a_smax {x y : Operand} {ts : Array TypeId} {s t : ByteArray} : AOp P ⟨d, .call { callee := .builtin .max, args := #[x, y], argTypes := ts }, ty, pos, af, g⟩ [.p (.v (.string s)), .p (.v (.string t))] [] [] (.p (.v (.string (if !sLt s t then s else t)))) :=
 zau fun S m w ev hr => by
  obtain ⟨h1, h2⟩ := zb5 (u := ev x) (v := ev y) hr
  refine ⟨_, ?_, zaV rfl⟩
  simp only [execOp, resolve, invoke, builtin, Builtin.max_]
  simp [Builtin.max2, Op.stringOp, sLt, asBool, zba h1, zba h2]
end
theorem zbc {P : Program} {d : Option Tmp} {ty : TypeId} {pos : String} {af : Array Edge} {g : Option (Nat × Bool)} {x : Operand} {args : Array Operand} {ts : Array TypeId} {f : FuncId} {fn : Func} {xs cs : List AV} {res : AV} (hf : P.funcs[f]? = some fn) (hb : fn.body.isNone = false) (hn : (fn.name == "runtime.NumGoroutine") = false)
  (hC : Fn P f (xs ++ cs) res []) (h1 : AV.okInL [] (xs ++ cs) = true) (h3 : res.okIn [] = true) :
  AOp P ⟨d, .call { callee := .value x, args := args, argTypes := ts }, ty, pos, af, g⟩ (.fn f cs :: xs) [] [] res := by
 have h := a_callS (P := P) (d := d) (ty := ty) (pos := pos) (af := af) (g := g) (x := x) (args := args) (ts := ts) (fun o => o) hf hb hn hC h1 h3 rfl rfl
 rw [ren_id] at h
 exact h
theorem less_not : ∀ {x y : List UInt8}, x ≠ y → Op.bytesLess y x = !Op.bytesLess x y
 | [], [], h => absurd rfl h
 | [], b :: y, _ => rfl
 | a :: x, [], _ => rfl
 | a :: x, b :: y, h => by
  simp only [Op.bytesLess]
  by_cases e : a = b
  ·subst e
   have h2 : x ≠ y := fun e => h (by rw [e])
   have hl : ¬ a < a := UInt8.lt_irrefl a
   simp [hl, less_not h2]
  ·rcases UInt8.lt_or_lt_of_ne e with hl | hl
   ·have hn : ¬ b < a := fun k => absurd (UInt8.lt_trans hl k) (UInt8.lt_irrefl a)
    simp [hl, hn, Ne.symm e]
   ·have hn : ¬ a < b := fun k => absurd (UInt8.lt_trans hl k) (UInt8.lt_irrefl b)
    simp [hl, hn, e]
theorem sLt_not {s t : ByteArray} (h : s ≠ t) : sLt t s = !sLt s t := by
 refine less_not fun e => h ?_
 rw [ByteArray.toList_eq, ByteArray.toList_eq] at e
 cases s; cases t
 congr 1
 exact Array.toList_inj.1 e
theorem zcH {P : Program} {w0 : World} {A : Ctx1} {nt : Nat} {c d : Code} {Q : Exit → St → Prop} {st : St} (st1 : St) (h : awp ⟨P, w0, ctx0 A, nt⟩ c (Thn (fun st' => Re st' st1) Q) st) (k : awp ⟨P, w0, ctx0 A, nt⟩ d Q st1) : awp ⟨P, w0, ctx0 A, nt⟩ c (Thn (awp ⟨P, w0, ctx0 A, nt⟩ d Q) Q) st :=
 zfv h fun e st' hq => by
  cases e with
  | normal => exact za8 hq k
  | _ => exact hq
def structTs (P : Program) (t : Nat) : Option (List TypeId) := match P.underlying t with
 | some (.struct fs) => some (fs.toList.map (·.type))
 | _ => none
def TyL (P : Program) (n : Nat) : List TypeId → List (List PV) → Prop
 | [], L => L = []
 | t :: ts, L => ∃ x L', L = x :: L' ∧ Ty P n t x ∧ TyL P n ts L'
theorem tyL_mk {P : Program} {n : Nat} : ∀ {fs : List Field} {L : List (List PV)}, L.length = fs.length → (∀ (i : Nat) (f : Field) x, fs[i]? = some f → L[i]? = some x → Ty P n f.type x ∧ x.length = P.cellsOf f.type) → TyL P n (fs.map (·.type)) L
 | [], [], _, _ => rfl
 | [], _ :: _, h, _ => by simp at h
 | _ :: _, [], h, _ => by simp at h
 | f :: fs, x :: L, h, k => by
  refine ⟨x, L, rfl, (k 0 f x (by simp) (by simp)).1, tyL_mk (by simpa using h) fun i f' x' h1 h2 => k (i + 1) f' x' (by simpa using h1) (by simpa using h2)⟩
theorem zbh {P : Program} {n t : Nat} {ts : List TypeId} {ps : List PV} (hu : structTs P t = some ts) (hT : Ty P (n + 1) t ps) : ∃ L : List (List PV), ps = L.flatten ∧ TyL P n ts L := by
 unfold structTs at hu
 unfold Ty at hT
 cases hq : P.underlying t with
 | none => simp [hq] at hu
 | some u =>
  simp only [hq] at hu hT
  cases u <;> simp at hu
  rename_i fs
  obtain ⟨L, rfl, hl, hL⟩ := hT
  subst hu
  exact ⟨L, rfl, tyL_mk (by simpa using hl) fun i f x h1 h2 => hL i f x (by simpa using h1) h2⟩
def zfQ : List AV → Option (List Value)
 | [] => some []
 | .p (.v x) :: l => (zfQ l).map (x :: ·)
 | .agg cs :: l => (zcf cs).bind fun xs => (zfQ l).map (.agg xs.toArray :: ·)
 | _ :: _ => none
theorem zen {S : Nat → Prop} {m : Nat → Option Value} {w : World} : ∀ {cs : List AV} {xs us : List Value}, zfQ cs = some xs → RepL S m w cs us → us = xs
 | [], xs, us, h, hr => by
  simp only [zfQ, Option.some.injEq] at h
  simp only [RepL] at hr
  rw [hr, ← h]
 | c :: cs, xs, us, h, hr => by
  simp only [RepL] at hr
  obtain ⟨u, us, rfl, h2, h3⟩ := hr
  cases c with
  | p x =>
   cases x with
   | v x =>
    simp only [zfQ] at h
    cases hq : zfQ cs with
    | none => simp [hq] at h
    | some zs =>
     simp only [hq, Option.map_some, Option.some.injEq] at h
     rw [zba h2, zen hq h3, h]
   | _ => simp [zfQ] at h
  | agg ds =>
   simp only [zfQ] at h
   cases hv : zcf ds with
   | none => simp [hv] at h
   | some vs =>
    cases hq : zfQ cs with
    | none => simp [hv, hq] at h
    | some zs =>
     simp only [hv, hq, Option.bind_some, Option.map_some, Option.some.injEq] at h
     simp only [Rep] at h2
     obtain ⟨ws, e1, e2, _⟩ := h2
     rw [zdB hv e2] at e1
     rw [e1, zen hq h3, h]
  | _ => simp [zfQ] at h
theorem zcS {P : Program} {f : FuncId} {args : List AV} {vs : List Value} {res : AV} {r : Value} (ha : zfQ args = some vs) (hr : ∀ S m w, Rep S m w res r) (h : Gives P f vs.toArray r) : Fn P f args res [] := by
 intro w A us hA hG hus
 rw [zen ha hus]
 refine (h w).mono ?_
 rintro e w' ⟨rfl, hb⟩
 exact ⟨r, rfl, A, fun _ => none, hr _ _ _, hb, fun b hb => .inl hb, fun b h => Nat.lt_of_lt_of_le (hA b h) hb.size, fun o _ => rfl, fun o ob ho => (by cases ho), fun o o' ob ob' v v' b ho => (by cases ho), hG⟩
def ziG (G : Env) (c : Code) (Q : Exit → St → Prop) : Nat → St → Prop
 | 0, _ => False
 | n + 1, st => awp G c (Thn (ziG G c Q n) Q) st
theorem zf3 {G : Env} {c : Code} {Q : Exit → St → Prop} {n : Nat} {st : St} (h : awp G c (Thn (ziG G c Q n) Q) st) : ziG G c Q (n + 1) st := h
theorem zel {G : Env} {c : Code} {Q : Exit → St → Prop} {st : St} (n : Nat) (h : ziG G c Q n st) : awp G (.loop c) Q st := by
 intro a w hs
 refine wp_loop_rounds n ?_
 revert h hs
 induction n generalizing st a w with
 | zero => intro h; exact h.elim
 | succ n ih =>
  intro h hs
  refine wp_mono (h a w hs) ?_
  rintro e a' w' ⟨st', h1, h2⟩
  cases e
  case normal => exact ih a' w' h1 h2
  all_goals exact ⟨st', h1, h2⟩
theorem awp_join3 {P : Program} {w0 : World} {A : Ctx1} {nt : Nat} {c : Code} {Q : Exit → St → Prop} {st : St} (st1 : St) (h : awp ⟨P, w0, ctx0 A, nt⟩ c (Thn (fun st' => Re st' st1) Q) st) (k : ∀ st', Re st' st1 → Q .normal st') : awp ⟨P, w0, ctx0 A, nt⟩ c Q st :=
 zfv h fun e st' he => by
  cases e
  case normal => exact k st' he
  all_goals exact he
theorem zcb {P : Program} {ops : Array Oper} {K : List Foot → St → Prop} {o : Oper} {l : List Oper} {fs : List Foot} {st : St} (hg : zaB ops o st = some false) (k : ARun P ops K l (fs ++ [([], [])]) (st.put o.dst (.mb false (.p (.v (.bool false)))))) : ARun P ops K (o :: l) fs st :=
 ⟨([], []), _, .skip _ _ hg (fun _ _ _ => by simp [Rep]), k⟩
section
variable {P : Program} {ops : Array Oper} {K : List Foot → St → Prop} {l : List Oper} {fs : List Foot} {st : St} {d : Option Tmp} {ty : TypeId} {pos : String} {af : Array Edge} {g : Option (Nat × Bool)} {x : Operand}
theorem mP {v : PV} (hx : (⟨d, .move x, ty, pos, af, g⟩ : Oper).op.operands.toList.map st.ev = [.p v]) (hg : zaB ops ⟨d, .move x, ty, pos, af, g⟩ st = some true)
  (k : ARun P ops K l (fs ++ [([], [])]) (st.put d (.p v))) : ARun P ops K (⟨d, .move x, ty, pos, af, g⟩ :: l) fs st := zaa zav hx hg k
theorem aP {v : PV} (hx : (⟨d, .assign x, ty, pos, af, g⟩ : Oper).op.operands.toList.map st.ev = [.p v]) (hg : zaB ops ⟨d, .assign x, ty, pos, af, g⟩ st = some true)
  (k : ARun P ops K l (fs ++ [([], [])]) (st.put d (.p v))) : ARun P ops K (⟨d, .assign x, ty, pos, af, g⟩ :: l) fs st := zaa zaw hx hg k
theorem fA {s : TypeId} {f off k o p : Nat} (h : zaL P s f = some (off, k + 1)) (hx : (⟨d, .fieldAddr s x f, ty, pos, af, g⟩ : Oper).op.operands.toList.map st.ev = [.ref o p]) (hg : zaB ops ⟨d, .fieldAddr s x f, ty, pos, af, g⟩ st = some true)
  (n : ARun P ops K l (fs ++ [([], [])]) (st.put d (.ref o (p + off)))) : ARun P ops K (⟨d, .fieldAddr s x f, ty, pos, af, g⟩ :: l) fs st := zaa (zat h rfl) hx hg n
theorem l1 {t bt : TypeId} {ds : TypeDesc} {o off : Nat} {cs : List AV} {r : AV} (hu : P.underlying t = some ds) (hd : ds.isRow = false) (hx : (⟨d, .load t x, ty, pos, af, g⟩ : Oper).op.operands.toList.map st.ev = [.ref o off]) (hg : zaB ops ⟨d, .load t x, ty, pos, af, g⟩ st = some true)
  (hr : Rds st [(o, .live (.box bt cs))]) (k : ARun P ops K l (fs ++ [([o], [])]) (st.put d r)) (h : cs[off]? = some r := by first | rfl | assumption) : ARun P ops K (⟨d, .load t x, ty, pos, af, g⟩ :: l) fs st :=
 zab (zcs hu hd h) hx hg hr k
theorem lN {t bt : TypeId} {ds : TypeDesc} {o off m : Nat} {cs es : List AV} (hu : P.underlying t = some ds) (hd : ds.isRow = true) (hi : (P.info? t).map (·.size) = some m) (hx : (⟨d, .load t x, ty, pos, af, g⟩ : Oper).op.operands.toList.map st.ev = [.ref o off]) (hg : zaB ops ⟨d, .load t x, ty, pos, af, g⟩ st = some true)
  (hr : Rds st [(o, .live (.box bt cs))]) (k : ARun P ops K l (fs ++ [([o], [])]) (st.put d (.agg es))) (hk : off + m ≤ cs.length := by first | exact Nat.le_of_ble_eq_true rfl | omega | (simp only [AV.cells, List.length_map]; omega)) (h : (cs.drop off).take m = es := by first | exact zcC (by first | assumption | exact Nat.eq_of_beq_eq_true rfl | (simp only [AV.cells, List.length_map]; first | assumption | omega)) | (simp only [List.take_succ_cons, List.take_zero, List.drop_succ_cons, List.drop_zero]; rfl) | rfl) : ARun P ops K (⟨d, .load t x, ty, pos, af, g⟩ :: l) fs st :=
 zab (zak hu hd hi hk h) hx hg hr k
theorem mb2 {o : Oper} {xs' : List AV} {rds : List (Nat × Slot)} {r : AV} (b : Bool) (hg : zaB ops o st = some b) (hx : (o.op.operands.toList.map st.ev).map AV.strip = xs')
  (h : b = true → AOp P o xs' rds [] r) (hr : b = true → Rds st rds) (k : ARun P ops K l (fs ++ [(rds.map Prod.fst, [])]) (st.put o.dst (.mb b r)))
  (hs : StripOK b (o.op.operands.toList.map st.ev) := by (repeat (first | exact zdO | refine zcg id ?_ | refine stripOK_p ?_ | refine zgz ?_ | refine zgy ?_ | refine zgA ?_ | refine zgB ?_ | refine zcg (by simp_all) ?_ | refine StripOK.plain _ _ rfl ?_))) : ARun P ops K (o :: l) fs st := r_mb2 b hg hx hs h hr k
theorem tx {w0 : World} {A : Ctx} {nt : Nat} {Q : Exit → St → Prop} {id : Nat} (h : ARun P l.toArray (fun _ st' => Q .normal st') l [] st) (hd : dstOK nt l = true := by kernel_rfl) : awp ⟨P, w0, A, nt⟩ (.region id l.toArray false) Q st := zaF hd h
theorem fT {rs : List ResultVar} {res : AV} {news : List (Nat × AObj)} {e : Exit} {vals : List AV} (ρ : Nat → Nat) (h : ResIs P st rs vals) (hv : (oneA vals).view (zfs ρ news) st.heap = res.ren ρ) (ho : LeO ρ st (news.map Prod.fst) news)
  (he : e = .normal ∨ e = .ret := by first | exact .inl rfl | exact .inr rfl) (hk : res.okIn (news.map Prod.fst) = true := by exact rfl) (hn : zby (news.map fun p => ρ p.1) = true := by exact rfl) : Fin P rs res news e st :=
 ⟨he, vals, ρ, h, hv, hk, ho, hn⟩
end
section
variable {P : Program} {d : Option Tmp} {ty : TypeId} {pos : String} {af : Array Edge} {g : Option (Nat × Bool)} {xt yt : TypeId} {x y : Operand} {k : IntKind} {a b : Int} {c : Bool}
theorem a_gtrV (h : decide (b < a) = c) : AOp P ⟨d, .binOp .gtr xt x y yt, ty, pos, af, g⟩ [.p (.v (.int k a)), .p (.v (.int k b))] [] [] (.p (.v (.bool c))) :=
 zck (za4 _ _ _ _ _ _ _ _) (fun w => by subst h; simp [binOp, Op.intCmp]) rfl
theorem a_lssV (h : decide (a < b) = c) : AOp P ⟨d, .binOp .lss xt x y yt, ty, pos, af, g⟩ [.p (.v (.int k a)), .p (.v (.int k b))] [] [] (.p (.v (.bool c))) :=
 zck (za4 _ _ _ _ _ _ _ _) (fun w => by subst h; simp [binOp, Op.intCmp]) rfl
theorem a_leqV (h : decide (a ≤ b) = c) : AOp P ⟨d, .binOp .leq xt x y yt, ty, pos, af, g⟩ [.p (.v (.int k a)), .p (.v (.int k b))] [] [] (.p (.v (.bool c))) :=
 zck (za4 _ _ _ _ _ _ _ _) (fun w => by subst h; simp [binOp, Op.intCmp]) rfl
theorem a_geqV (h : decide (b ≤ a) = c) : AOp P ⟨d, .binOp .geq xt x y yt, ty, pos, af, g⟩ [.p (.v (.int k a)), .p (.v (.int k b))] [] [] (.p (.v (.bool c))) :=
 zck (za4 _ _ _ _ _ _ _ _) (fun w => by subst h; simp [binOp, Op.intCmp]) rfl
theorem a_eqlV (h : (a == b) = c) : AOp P ⟨d, .binOp .eql xt x y yt, ty, pos, af, g⟩ [.p (.v (.int k a)), .p (.v (.int k b))] [] [] (.p (.v (.bool c))) :=
 zck (za4 _ _ _ _ _ _ _ _) (fun w => by subst h; simp [binOp, Op.intCmp]) rfl
theorem a_neqV (h : (a != b) = c) : AOp P ⟨d, .binOp .neq xt x y yt, ty, pos, af, g⟩ [.p (.v (.int k a)), .p (.v (.int k b))] [] [] (.p (.v (.bool c))) :=
 zck (za4 _ _ _ _ _ _ _ _) (fun w => by subst h; simp [binOp, Op.intCmp]) rfl
theorem zbu {s t : ByteArray} (h : decide (s = t) = c) : AOp P ⟨d, .binOp .eql xt x y yt, ty, pos, af, g⟩ [.p (.v (.string s)), .p (.v (.string t))] [] [] (.p (.v (.bool c))) :=
 zck (zde _ _ _ _ _ _) (fun w => by subst h; simp only [binOp, Op.stringOp, zeN, Sem.run_pure]) rfl
theorem a_sneqV {s t : ByteArray} (h : (!decide (s = t)) = c) : AOp P ⟨d, .binOp .neq xt x y yt, ty, pos, af, g⟩ [.p (.v (.string s)), .p (.v (.string t))] [] [] (.p (.v (.bool c))) :=
 zck (zde _ _ _ _ _ _) (fun w => by subst h; simp only [binOp, Op.stringOp, zeN, Sem.run_pure]) rfl
end
theorem awp_cT {G : Env} {Q : Exit → St → Prop} {st : St} {c : Operand} {x y : Code} (hc : st.ev c = .p (.v (.bool true))) (h1 : awp G x Q st) : awp G (.cond c x y) Q st :=
 zaJ true hc (fun _ => h1) (fun h => by cases h)
theorem awp_cF {G : Env} {Q : Exit → St → Prop} {st : St} {c : Operand} {x y : Code} (hc : st.ev c = .p (.v (.bool false))) (h1 : awp G y Q st) : awp G (.cond c x y) Q st :=
 zaJ false hc (fun h => by cases h) (fun _ => h1)
section
variable {P : Program} {d : Option Tmp} {ty : TypeId} {pos : String} {af : Array Edge} {g : Option (Nat × Bool)}
theorem zaC {t yt : TypeId} {x y : Operand} {cs ds : List AV} {xs ys : List Value} {fs : Array Field} {c : Bool} (hu : P.underlying t = some (.struct fs)) (hx : zcf cs = some xs) (hy : zcf ds = some ys) (hg : P.eqGuardType P.depth t = false) (h1 : okS P 20 t xs = true) (h2 : okS P 20 t ys = true) (hc : (!eqL xs ys) = c) :
  AOp P ⟨d, .binOp .neq t x y yt, ty, pos, af, g⟩ [.agg cs, .agg ds] [] [] (.p (.v (.bool c))) := by
 subst hc
 exact zcK hu hx hy hg h1 h2
theorem zd3 {t yt : TypeId} {x y : Operand} {cs ds : List AV} {xs ys : List Value} {fs : Array Field} {c : Bool} (hu : P.underlying t = some (.struct fs)) (hx : zcf cs = some xs) (hy : zcf ds = some ys) (hg : P.eqGuardType P.depth t = false) (h1 : okS P 20 t xs = true) (h2 : okS P 20 t ys = true) (hc : eqL xs ys = c) :
  AOp P ⟨d, .binOp .eql t x y yt, ty, pos, af, g⟩ [.agg cs, .agg ds] [] [] (.p (.v (.bool c))) := by
 subst hc
 exact ze6 hu hx hy hg h1 h2
end
def W (_ : List Nat) (q p : Prop) : Prop := q → p
section
variable {c : List Nat} {q p r : Prop} {st : St} {Q : Exit → St → Prop}
theorem Gg.n {n : Nat} (h : r → p) (k : W (n :: c) q r) : W ((n + 1) :: c) q p := fun x => h (k x)
theorem Gg.c1 (h : r → p) (k : W c q r) : W (0 :: 1 :: c) q p := fun x => h (k x)
theorem Gg.c2 (h : r → p) (k : W c q r) : W (0 :: 2 :: c) q p := fun x => h (k x)
theorem Gg.c3 (h : r → p) (k : W c q r) : W (0 :: 3 :: c) q p := fun x => h (k x)
theorem Gg.c4 (h : r → p) (k : W c q r) : W (0 :: 4 :: c) q p := fun x => h (k x)
theorem Gg.c9 (k : W c q p) : W (0 :: 9 :: c) q p := k
theorem Gg.z : W [0] p p := id
theorem Gg.f1 {K : St → Prop} (k : W c q (K st)) : W c q (Thn K Q .normal st) := k
theorem Gg.f2 {K : St → Prop} (k : W c q (Q .ret st)) : W c q (Thn K Q .ret st) := k
theorem Gg.f3 {K : St → Prop} {i : Nat} (k : W c q (Q (.exit i) st)) : W c q (Thn K Q (.exit i) st) := k
theorem Gg.f4 {i : Nat} (k : W c q (Q .normal st)) : W c q (InB i Q .normal st) := k
theorem Gg.f5 {i : Nat} (k : W c q (Q .ret st)) : W c q (InB i Q .ret st) := k
theorem Gg.f6 {i : Nat} (k : W c q (Q .normal st)) : W c q (InB i Q (.exit i) st) := fun x => zcR (k x)
theorem Gg.f7 {i j : Nat} (h : Nat.beq j i = false) (k : W c q (Q (.exit j) st)) : W c q (InB i Q (.exit j) st) := fun x => zdX h (k x)
end
section
variable {P : Program} {ops : Array Oper} {l : List Oper} {fs : List Foot} {st : St} {d : Option Tmp} {ty : TypeId} {pos : String} {af : Array Edge} {gd : Option (Nat × Bool)}
theorem Gg.ni {Q : Exit → St → Prop} (h : Q .normal st) : ARun P ops (fun _ st' => Q .normal st') [] fs st := h
theorem Gg.nd {Q : Exit → St → Prop} {nt fuel : Nat} (h1 : zdR nt fuel ops fs = true) (h : Q .normal st) : ARun P ops (fun fs st' => zdR nt fuel ops fs = true ∧ Q .normal st') [] fs st := ⟨h1, h⟩
variable {K : List Foot → St → Prop}
theorem Gg.pu {o : Oper} {xs : List AV} {r : AV} (h : AOp P o xs [] [] r) (e : (o.op.operands.toList.map st.ev, zaB ops o st) = (xs, some true)) (k : ARun P ops K l (fs ++ [([], [])]) (st.put o.dst r)) : ARun P ops K (o :: l) fs st := zaa h (congrArg Prod.fst e) (congrArg Prod.snd e) k
theorem Gg.r1 {o : Oper} {xs : List AV} {a : Nat × Slot} {wrs : List (Nat × Slot)} {r : AV} (h : AOp P o xs [a] wrs r) (e : (o.op.operands.toList.map st.ev, zaB ops o st, st.heap a.1) = (xs, some true, a.2)) (k : ARun P ops K l (fs ++ [([a.1], wrs.map Prod.fst)]) ((st.upd wrs).put o.dst r)) : ARun P ops K (o :: l) fs st := by
 simp only [Prod.mk.injEq] at e
 exact zab h e.1 e.2.1 ⟨e.2.2, trivial⟩ k
theorem Gg.sk {o : Op} {gd : Nat × Bool} (hg : zaB ops ⟨d, o, ty, pos, af, some gd⟩ st = some false) (k : ARun P ops K l (fs ++ [([], [])]) (st.put d (.mb false (.p (.v (.bool false)))))) : ARun P ops K (⟨d, o, ty, pos, af, some gd⟩ :: l) fs st := zcb hg k
theorem Gg.fa {x : Operand} {s : TypeId} {f off j o p : Nat} [h : FI P s f (off, j + 1)] (e : ([st.ev x], zaB ops ⟨d, .fieldAddr s x f, ty, pos, af, gd⟩ st) = ([.ref o p], some true)) (n : ARun P ops K l (fs ++ [([], [])]) (st.put d (.ref o (p + off)))) : ARun P ops K (⟨d, .fieldAddr s x f, ty, pos, af, gd⟩ :: l) fs st := fA h.h (congrArg Prod.fst e) (congrArg Prod.snd e) n
theorem Gg.fb {x : Operand} {s : TypeId} {f off j : Nat} {cs : List PV} [h : FI P s f (off, j + 1)] (e : ([st.ev x], zaB ops ⟨d, .fieldAddr s x f, ty, pos, af, gd⟩ st) = ([.ptr cs], some true)) (n : ARun P ops K l (fs ++ [([], [])]) (st.put d (.ptr (cs.drop off)))) : ARun P ops K (⟨d, .fieldAddr s x f, ty, pos, af, gd⟩ :: l) fs st := Gg.pu (zam h.h rfl) e n
theorem Gg.ld {x : Operand} {t bt : TypeId} {o off : Nat} {cs : List AV} {r : AV} [hu : RW P t false] (e : ([st.ev x], zaB ops ⟨d, .load t x, ty, pos, af, gd⟩ st, st.heap o) = ([.ref o off], some true, .live (.box bt cs))) (h : cs[off]? = some r) (k : ARun P ops K l (fs ++ [([o], [])]) (st.put d r)) : ARun P ops K (⟨d, .load t x, ty, pos, af, gd⟩ :: l) fs st := by
 obtain ⟨ds, h1, h2⟩ := hu.h
 simp only [Prod.mk.injEq] at e
 exact l1 h1 h2 e.1 e.2.1 ⟨e.2.2, trivial⟩ k h
theorem Gg.ln {x : Operand} {t bt : TypeId} {o off m : Nat} {cs es : List AV} [hu : RW P t true] [hi : SZ P t m] (e : ([st.ev x], zaB ops ⟨d, .load t x, ty, pos, af, gd⟩ st, st.heap o) = ([.ref o off], some true, .live (.box bt cs))) (hk : off + m ≤ cs.length) (h : (cs.drop off).take m = es) (k : ARun P ops K l (fs ++ [([o], [])]) (st.put d (.agg es))) : ARun P ops K (⟨d, .load t x, ty, pos, af, gd⟩ :: l) fs st := by
 obtain ⟨ds, h1, h2⟩ := hu.h
 simp only [Prod.mk.injEq] at e
 exact lN h1 h2 hi.h e.1 e.2.1 ⟨e.2.2, trivial⟩ k hk h
theorem Gg.ex {x : Operand} {i : Nat} {vs : List AV} {r : AV} (e : ([st.ev x], zaB ops ⟨d, .extract x i, ty, pos, af, gd⟩ st) = ([.tup vs], some true)) (h : vs[i]? = some r) (k : ARun P ops K l (fs ++ [([], [])]) (st.put d r)) : ARun P ops K (⟨d, .extract x i, ty, pos, af, gd⟩ :: l) fs st := Gg.pu (zdh h) e k
theorem Gg.bx {x : Operand} {t : TypeId} {X : AV} {n : Nat} (e : ([st.ev x], zaB ops ⟨some n, .box t x, ty, pos, af, gd⟩ st, st.heap n) = ([X], some true, .un)) (hX : X.stor = true) (k : ARun P ops K l (fs ++ [([n], [n])]) ((st.upd [(n, .live (.box t X.cells))]).put (some n) (.ref n 0))) : ARun P ops K (⟨some n, .box t x, ty, pos, af, gd⟩ :: l) fs st := Gg.r1 (a := (n, .un)) (a_box n hX) e k
theorem Gg.al {t : TypeId} {z : Value} {n : Nat} [hz : ZR P t z] (e : (([] : List AV), zaB ops ⟨some n, .alloc t, ty, pos, af, gd⟩ st, st.heap n) = ([], some true, .un)) (hX : (zbQ z).stor = true) (k : ARun P ops K l (fs ++ [([n], [n])]) ((st.upd [(n, .live (.box t (zbQ z).cells))]).put (some n) (.ref n 0))) : ARun P ops K (⟨some n, .alloc t, ty, pos, af, gd⟩ :: l) fs st := Gg.r1 (a := (n, .un)) (zaX n hz.h hX) e k
theorem Gg.bu {t : TypeId} {parts : Array (Nat × Operand)} {z : Value} {places : List (Nat × Nat)} {xs es : List AV} [hp : PL P t places] [hz : ZR P t z] (e : ((⟨d, .build t parts, ty, pos, af, gd⟩ : Oper).op.operands.toList.map st.ev, zaB ops ⟨d, .build t parts, ty, pos, af, gd⟩ st, (zbQ z).stor) = (xs, some true, true)) (hf : zf6 (fun i => places[i]?) (zbQ z).cells ((parts.toList.map Prod.fst).zip xs) = some es) (k : ARun P ops K l (fs ++ [([], [])]) (st.put d (.agg es))) : ARun P ops K (⟨d, .build t parts, ty, pos, af, gd⟩ :: l) fs st := by
 simp only [Prod.mk.injEq] at e
 exact zaa (zcB hp.h hz.h e.2.2 hf) e.1 e.2.1 k
theorem Gg.sa {x y : Operand} {t bt : TypeId} {o j : Nat} {cs : List AV} {Y : AV} [hi : SZ P t j] (e : ([st.ev x, st.ev y], zaB ops ⟨d, .store t x y, ty, pos, af, gd⟩ st, st.heap o) = ([.ref o 0, Y], some true, .live (.box bt cs))) (hY : Y.stor = true) (hl : Y.cells.length = j) (hc : cs.length = j) (k : ARun P ops K l (fs ++ [([o], [o])]) ((st.upd [(o, .live (.box bt Y.cells))]).put d .any)) : ARun P ops K (⟨d, .store t x y, ty, pos, af, gd⟩ :: l) fs st := Gg.r1 (a := (o, .live (.box bt cs))) (zaf hi.h hY hl hc) e k
theorem Gg.sn {x y : Operand} {t bt : TypeId} {o off j : Nat} {cs es : List AV} {Y : AV} [hi : SZ P t j] (e : ([st.ev x, st.ev y], zaB ops ⟨d, .store t x y, ty, pos, af, gd⟩ st, st.heap o) = ([.ref o off, Y], some true, .live (.box bt cs))) (hY : Y.stor = true) (hl : Y.cells.length = j) (hk : off + j ≤ cs.length) (h : setR cs off Y.cells = es) (k : ARun P ops K l (fs ++ [([o], [o])]) ((st.upd [(o, .live (.box bt es))]).put d .any)) : ARun P ops K (⟨d, .store t x y, ty, pos, af, gd⟩ :: l) fs st := Gg.r1 (a := (o, .live (.box bt cs))) (zb3 hi.h hY hl hk h) e k
theorem Gg.an {c a b : Operand} {t t' y : Bool} (e : ([st.ev c, st.ev a, st.ev b], zaB ops ⟨d, .pick c a b, ty, pos, af, gd⟩ st) = ([.p (.v (.bool t)), .mb t' (.p (.v (.bool y))), .p (.v (.bool false))], some true)) (ht : t = true → t' = true) (k : ARun P ops K l (fs ++ [([], [])]) (st.put d (.p (.v (.bool (t && y)))))) : ARun P ops K (⟨d, .pick c a b, ty, pos, af, gd⟩ :: l) fs st := Gg.pu (a_and ht) e k
theorem Gg.or {c a b : Operand} {t t' y : Bool} (e : ([st.ev c, st.ev a, st.ev b], zaB ops ⟨d, .pick c a b, ty, pos, af, gd⟩ st) = ([.p (.v (.bool t)), .p (.v (.bool true)), .mb t' (.p (.v (.bool y)))], some true)) (ht : t = false → t' = true) (k : ARun P ops K l (fs ++ [([], [])]) (st.put d (.p (.v (.bool (t || y)))))) : ARun P ops K (⟨d, .pick c a b, ty, pos, af, gd⟩ :: l) fs st := Gg.pu (a_or ht) e k
theorem Gg.mp {o : Op} {gd : Nat × Bool} {xs' : List AV} {r : AV} {b : Bool} (e : (zaB ops ⟨d, o, ty, pos, af, some gd⟩ st, (o.operands.toList.map st.ev).map AV.strip) = (some b, xs')) (h : AOp P ⟨d, o, ty, pos, af, some gd⟩ xs' [] [] r) (hs : StripOK b (o.operands.toList.map st.ev)) (k : ARun P ops K l (fs ++ [([], [])]) (st.put d (.mb b r))) : ARun P ops K (⟨d, o, ty, pos, af, some gd⟩ :: l) fs st := r_mb2 b (congrArg Prod.fst e) (congrArg Prod.snd e) hs (fun _ => h) (fun _ => trivial) k
theorem Gg.ml {x : Operand} {t bt : TypeId} {o off : Nat} {cs : List AV} {gd : Nat × Bool} {r : AV} {b : Bool} [hu : RW P t false] (e : (zaB ops ⟨d, .load t x, ty, pos, af, some gd⟩ st, [(st.ev x).strip], st.heap o) = (some b, [.ref o off], .live (.box bt cs))) (h : cs[off]? = some r) (hs : StripOK b [st.ev x]) (k : ARun P ops K l (fs ++ [([o], [])]) (st.put d (.mb b r))) : ARun P ops K (⟨d, .load t x, ty, pos, af, some gd⟩ :: l) fs st := by
 obtain ⟨ds, h1, h2⟩ := hu.h
 simp only [Prod.mk.injEq] at e
 exact r_mb2 (rds := [(o, .live (.box bt cs))]) b e.1 e.2.1 hs (fun _ => zcs h1 h2 h) (fun _ => ⟨e.2.2, trivial⟩) k
theorem Gg.mf {x : Operand} {s : TypeId} {f off j o p : Nat} {gd : Nat × Bool} {b : Bool} [h : FI P s f (off, j + 1)] (e : (zaB ops ⟨d, .fieldAddr s x f, ty, pos, af, some gd⟩ st, [(st.ev x).strip]) = (some b, [.ref o p])) (hs : StripOK b [st.ev x]) (k : ARun P ops K l (fs ++ [([], [])]) (st.put d (.mb b (.ref o (p + off))))) : ARun P ops K (⟨d, .fieldAddr s x f, ty, pos, af, some gd⟩ :: l) fs st := Gg.mp e (zat h.h rfl) hs k
theorem Gg.ix {x y : Operand} {t e : TypeId} {j n : Nat} {kk : IntKind} {i : Int} {cs : List PV} [hu : SL P t e] [hi : SZ P e j] (e' : ([st.ev x, st.ev y], zaB ops ⟨d, .indexAddr t x y, ty, pos, af, gd⟩ st) = ([.p (.sl n j cs), .p (.v (.int kk i))], some true)) (h0 : 0 ≤ i) (h1 : i < n) (k : ARun P ops K l (fs ++ [([], [])]) (st.put d (.ptr (cs.drop (i.toNat * j))))) : ARun P ops K (⟨d, .indexAddr t x y, ty, pos, af, gd⟩ :: l) fs st := Gg.pu (zaM hu.h hi.h h0 h1 rfl) e' k
theorem Gg.iy {x y : Operand} {t e e2 : TypeId} {j n o size q : Nat} {kk : IntKind} {i : Int} {cs : List PV} [hu : SL P t e] [hi : SZ P e j] (e' : ([st.ev x, st.ev y], zaB ops ⟨d, .indexAddr t x y, ty, pos, af, gd⟩ st, st.heap o) = ([.row o, .p (.v (.int kk i))], some true, .live (.row e2 size n cs))) (h0 : 0 ≤ i) (h1 : i < n) (hq : i.toNat * j = q) (k : ARun P ops K l (fs ++ [([o], [])]) (st.put d (.ref o q))) : ARun P ops K (⟨d, .indexAddr t x y, ty, pos, af, gd⟩ :: l) fs st := Gg.r1 (a := (o, .live (.row e2 size n cs))) (zan hu.h hi.h h0 h1 hq) e' k
theorem Gg.lq {x : Operand} {t : TypeId} {j : Nat} {cs es : List PV} [hu : RW P t true] [hi : SZ P t j] (e : ([st.ev x], zaB ops ⟨d, .load t x, ty, pos, af, gd⟩ st) = ([.ptr cs], some true)) (hk : j ≤ cs.length) (h : cs.take j = es) (k : ARun P ops K l (fs ++ [([], [])]) (st.put d (.agg (es.map AV.p)))) : ARun P ops K (⟨d, .load t x, ty, pos, af, gd⟩ :: l) fs st := by
 obtain ⟨ds, h1, h2⟩ := hu.h
 exact Gg.pu (zaI h1 h2 hi.h hk h) e k
theorem Gg.lo {x : Operand} {t : TypeId} {cs : List PV} {r : PV} [hu : RW P t false] (e : ([st.ev x], zaB ops ⟨d, .load t x, ty, pos, af, gd⟩ st) = ([.ptr cs], some true)) (h : cs[0]? = some r) (k : ARun P ops K l (fs ++ [([], [])]) (st.put d (.p r))) : ARun P ops K (⟨d, .load t x, ty, pos, af, gd⟩ :: l) fs st := by
 obtain ⟨ds, h1, h2⟩ := hu.h
 exact Gg.pu (zaG h1 h2 h) e k
theorem Gg.lr {x : Operand} {t e : TypeId} {o off size n : Nat} {cs : List PV} {r : PV} [hu : RW P t false] (e' : ([st.ev x], zaB ops ⟨d, .load t x, ty, pos, af, gd⟩ st, st.heap o) = ([.ref o off], some true, .live (.row e size n cs))) (h : cs[off]? = some r) (k : ARun P ops K l (fs ++ [([o], [])]) (st.put d (.p r))) : ARun P ops K (⟨d, .load t x, ty, pos, af, gd⟩ :: l) fs st := by
 obtain ⟨ds, h1, h2⟩ := hu.h
 exact Gg.r1 (a := (o, .live (.row e size n cs))) (zaO h1 h2 h) e' k
theorem Gg.ls {x : Operand} {t e : TypeId} {n j : Nat} {cs : List PV} [hu : SL P t e] (e' : ([st.ev x], zaB ops ⟨d, .call { callee := .builtin .len, args := #[x], argTypes := #[t] }, ty, pos, af, gd⟩ st) = ([.p (.sl n j cs)], some true)) (k : ARun P ops K l (fs ++ [([], [])]) (st.put d (.p (.v (.int .i64 n))))) : ARun P ops K (⟨d, .call { callee := .builtin .len, args := #[x], argTypes := #[t] }, ty, pos, af, gd⟩ :: l) fs st := Gg.pu (zdu hu.h) e' k
theorem Gg.lt {x : Operand} {t : TypeId} {s : ByteArray} [hu : SR P t] (e' : ([st.ev x], zaB ops ⟨d, .call { callee := .builtin .len, args := #[x], argTypes := #[t] }, ty, pos, af, gd⟩ st) = ([.p (.v (.string s))], some true)) (k : ARun P ops K l (fs ++ [([], [])]) (st.put d (.p (.v (.int .i64 s.size))))) : ARun P ops K (⟨d, .call { callee := .builtin .len, args := #[x], argTypes := #[t] }, ty, pos, af, gd⟩ :: l) fs st := Gg.pu (zgp hu.h) e' k
theorem Gg.lv {x : Operand} {t e : TypeId} {o off n j : Nat} [hu : SL P t e] (e' : ([st.ev x], zaB ops ⟨d, .call { callee := .builtin .len, args := #[x], argTypes := #[t] }, ty, pos, af, gd⟩ st) = ([.psl o off n j], some true)) (k : ARun P ops K l (fs ++ [([], [])]) (st.put d (.p (.v (.int .i64 n))))) : ARun P ops K (⟨d, .call { callee := .builtin .len, args := #[x], argTypes := #[t] }, ty, pos, af, gd⟩ :: l) fs st := Gg.pu (a_lenV hu.h) e' k
theorem Gg.lw {x : Operand} {t e e2 : TypeId} {o n j : Nat} {cs : List PV} [hu : SL P t e] (e' : ([st.ev x], zaB ops ⟨d, .call { callee := .builtin .len, args := #[x], argTypes := #[t] }, ty, pos, af, gd⟩ st, st.heap o) = ([.row o], some true, .live (.row e2 j n cs))) (k : ARun P ops K l (fs ++ [([o], [])]) (st.put d (.p (.v (.int .i64 n))))) : ARun P ops K (⟨d, .call { callee := .builtin .len, args := #[x], argTypes := #[t] }, ty, pos, af, gd⟩ :: l) fs st := Gg.r1 (a := (o, .live (.row e2 j n cs))) (a_lenR hu.h) e' k
theorem Gg.cv {x : Operand} {src dst : TypeId} {kk kd : IntKind} {a c : Int} {b : Bool} [hs : RW P src b] [hd : IK P dst kd] (e : ([st.ev x], zaB ops ⟨d, .convert src dst x, ty, pos, af, gd⟩ st) = ([.p (.v (.int kk a))], some true)) (h : kd.wrap a = c) (k : ARun P ops K l (fs ++ [([], [])]) (st.put d (.p (.v (.int kd c))))) : ARun P ops K (⟨d, .convert src dst x, ty, pos, af, gd⟩ :: l) fs st := by
 obtain ⟨ds, h1, _⟩ := hs.h
 exact Gg.pu (zbL h1 hd.h h) e k
theorem Gg.bi {o : BinOp} {x y : Operand} {xt yt : TypeId} {kk : IntKind} {a b c : Int} {b' : Int} (e : ([st.ev x, st.ev y], zaB ops ⟨d, .binOp o xt x y yt, ty, pos, af, gd⟩ st) = ([.p (.v (.int kk a)), .p (.v (.int kk b))], some true)) (hb : o = .add ∧ b' = a + b ∨ o = .sub ∧ b' = a - b ∨ o = .mul ∧ b' = a * b) (h : kk.wrap b' = c) (k : ARun P ops K l (fs ++ [([], [])]) (st.put d (.p (.v (.int kk c))))) : ARun P ops K (⟨d, .binOp o xt x y yt, ty, pos, af, gd⟩ :: l) fs st := by
 rcases hb with ⟨rfl, rfl⟩ | ⟨rfl, rfl⟩ | ⟨rfl, rfl⟩
 ·exact Gg.pu (za3 h) e k
 ·exact Gg.pu (ze5 h) e k
 ·exact Gg.pu (a_mul h) e k
theorem Gg.vi {o : BinOp} {x y : Operand} {xt yt : TypeId} {kk : IntKind} {a b : Int} {u c : Bool} (e : ([st.ev x, st.ev y], zaB ops ⟨d, .binOp o xt x y yt, ty, pos, af, gd⟩ st) = ([.p (.v (.int kk a)), .p (.v (.int kk b))], some true)) (hb : o = .eql ∧ u = (a == b) ∨ o = .neq ∧ u = (a != b) ∨ o = .lss ∧ u = decide (a < b) ∨ o = .leq ∧ u = decide (a ≤ b) ∨ o = .gtr ∧ u = decide (b < a) ∨ o = .geq ∧ u = decide (b ≤ a)) (h : u = c) (k : ARun P ops K l (fs ++ [([], [])]) (st.put d (.p (.v (.bool c))))) : ARun P ops K (⟨d, .binOp o xt x y yt, ty, pos, af, gd⟩ :: l) fs st := by
 rcases hb with ⟨rfl, rfl⟩ | ⟨rfl, rfl⟩ | ⟨rfl, rfl⟩ | ⟨rfl, rfl⟩ | ⟨rfl, rfl⟩ | ⟨rfl, rfl⟩
 ·exact Gg.pu (a_eqlV h) e k
 ·exact Gg.pu (a_neqV h) e k
 ·exact Gg.pu (a_lssV h) e k
 ·exact Gg.pu (a_leqV h) e k
 ·exact Gg.pu (a_gtrV h) e k
 ·exact Gg.pu (a_geqV h) e k
theorem Gg.vs {o : BinOp} {x y : Operand} {xt yt : TypeId} {a b : ByteArray} {u c : Bool} (e : ([st.ev x, st.ev y], zaB ops ⟨d, .binOp o xt x y yt, ty, pos, af, gd⟩ st) = ([.p (.v (.string a)), .p (.v (.string b))], some true)) (hb : o = .eql ∧ u = decide (a = b) ∨ o = .neq ∧ u = (!decide (a = b))) (h : u = c) (k : ARun P ops K l (fs ++ [([], [])]) (st.put d (.p (.v (.bool c))))) : ARun P ops K (⟨d, .binOp o xt x y yt, ty, pos, af, gd⟩ :: l) fs st := by
 rcases hb with ⟨rfl, rfl⟩ | ⟨rfl, rfl⟩
 ·exact Gg.pu (zbu h) e k
 ·exact Gg.pu (a_sneqV h) e k
theorem cX {P : Program} {w0 : World} {A : Ctx} {nt : Nat} {st : St} {Q : Exit → St → Prop} {c : Operand} {x y : Code} {t : Bool} (h1 : t = true → awp ⟨P, w0, A, nt⟩ x Q st) (h2 : t = false → awp ⟨P, w0, A, nt⟩ y Q st) (hc : st.ev c = .p (.v (.bool t)) := by exact rfl) : awp ⟨P, w0, A, nt⟩ (.cond c x y) Q st := zaJ t hc h1 h2
theorem fnI {f : FuncId} {fn : Func} {c : Code} {args : List AV} {res : AV} {news : List (Nat × AObj)} [hf : FU P f fn] (h : ∀ w0 A, awp ⟨P, w0, ctx0 A, fn.ntmps⟩ c (Fin P fn.results.toList res news) (St.of (zhr 0 args) [])) (hb : fn.body = some c := by exact rfl) (hn : args.length ≤ fn.ntmps := by exact Nat.le_of_ble_eq_true rfl) : Fn P f args res news := zb7 hf.h hb hn h
theorem fnIO {f : FuncId} {fn : Func} {c : Code} {args : List AV} {res : AV} {rds wrs : List (Nat × Slot)} [hf : FU P f fn] (h : ∀ w0 A heap, awp ⟨P, w0, A, fn.ntmps⟩ c (FinO P fn.results.toList res heap wrs) ⟨zfq (zhr 0 args), updL heap rds⟩) (hb : fn.body = some c := by exact rfl) (hn : args.length ≤ fn.ntmps := by exact Nat.le_of_ble_eq_true rfl) : FnO P f args rds wrs res := zg8 hf.h hb hn h
theorem cK {x : Operand} {args : Array Operand} {ts : Array TypeId} {f : FuncId} {fn : Func} {us cs : List AV} {res : AV} {news : List (Nat × AObj)} {n : Nat} (hC : Fn P f us res news) [hf : FU P f fn] {r : AV} {wrs : List (Nat × Slot)}
  (k : ARun P ops K l (fs ++ [(news.map (fun p => n + 1000 * p.1), news.map fun p => n + 1000 * p.1)]) ((st.upd wrs).put (some n) r))
  (hx : st.ev x = .fn f cs := by exact rfl) (hxs : args.toList.map st.ev ++ cs = us := by exact rfl) (hb : fn.body.isNone = false := by exact rfl) (hn : (fn.name == "runtime.NumGoroutine") = false := by exact rfl)
  (h1 : AV.okInL [] us = true := by first | rfl | simp [AV.okInL, AV.okIn, zay]) (h3 : res.okIn (news.map Prod.fst) = true := by exact rfl) (h4 : zby (news.map Prod.fst) = true := by exact rfl) (h5 : zby (news.map fun p => n + 1000 * p.1) = true := by exact rfl)
  (hun : Rds st (news.map fun p => (n + 1000 * p.1, .un)) := by first | exact trivial | exact ⟨rfl, trivial⟩ | exact ⟨rfl, rfl, trivial⟩ | exact ⟨rfl, rfl, rfl, rfl, rfl, trivial⟩) (hg : zaB ops ⟨some n, .call { callee := .value x, args := args, argTypes := ts }, ty, pos, af, gd⟩ st = some true := by exact rfl) (hr : res.ren (fun m => n + 1000 * m) = r := by exact rfl) (hw : zbN (fun m => n + 1000 * m) news = wrs := by exact rfl) :
  ARun P ops K (⟨some n, .call { callee := .value x, args := args, argTypes := ts }, ty, pos, af, gd⟩ :: l) fs st := zbO (fun m => n + 1000 * m) hC hx hxs hf.h hb hn h1 h3 h4 h5 hun hg hr hw k
theorem cV {x : Operand} {args : Array Operand} {ts : Array TypeId} {f : FuncId} {fn : Func} {us cs : List AV} {res : AV} {news : List (Nat × AObj)} {n : Nat} (hC : Fn P f us res news) [hf : FU P f fn] {r : AV} {wrs : List (Nat × Slot)}
  (k : ARun P ops K l (fs ++ [(AV.objsL (args.toList.map st.ev ++ cs) ++ news.map (fun p => n + 1000 * p.1), news.map fun p => n + 1000 * p.1)]) ((st.upd wrs).put (some n) r))
  (hx : st.ev x = .fn f cs := by exact rfl) (hxs : AV.viewL (fun _ => false) st.heap (args.toList.map st.ev ++ cs) = us := by exact rfl) (hb : fn.body.isNone = false := by exact rfl) (hn : (fn.name == "runtime.NumGoroutine") = false := by exact rfl)
  (h1 : res.noSl = true := by first | rfl | simp [AV.noSl, AV.noSlL, AObj.noSl, PV.isV, zaH]) (h2 : news.all (fun p => p.2.noSl) = true := by first | rfl | simp [AV.noSl, AV.noSlL, AObj.noSl, PV.isV, zaH]) (h3 : res.okIn (news.map Prod.fst) = true := by exact rfl) (h4 : zby (news.map Prod.fst) = true := by exact rfl) (h5 : zby (news.map fun p => n + 1000 * p.1) = true := by exact rfl)
  (hun : Rds st (news.map fun p => (n + 1000 * p.1, .un)) := by first | exact trivial | exact ⟨rfl, trivial⟩ | exact ⟨rfl, rfl, trivial⟩ | exact ⟨rfl, rfl, rfl, rfl, rfl, trivial⟩) (hg : zaB ops ⟨some n, .call { callee := .value x, args := args, argTypes := ts }, ty, pos, af, gd⟩ st = some true := by exact rfl) (hr : res.ren (fun m => n + 1000 * m) = r := by exact rfl) (hw : zbN (fun m => n + 1000 * m) news = wrs := by exact rfl) :
  ARun P ops K (⟨some n, .call { callee := .value x, args := args, argTypes := ts }, ty, pos, af, gd⟩ :: l) fs st := zaR (fun m => n + 1000 * m) hC hx hxs hf.h hb hn h1 h2 h3 h4 h5 hun hg hr hw k
theorem Gg.y1 {a t : Nat} {l : List ResultVar} {o bt : Nat} {c : AV} {xs : List AV} [h : RW P t false] (h1 : st.tmps a = .ref o 0) (h2 : st.heap o = .live (.box bt [c])) (h3 : ResIs P st l xs) : ResIs P st (.cell a t :: l) (c :: xs) := by
 obtain ⟨ds, k1, k2⟩ := h.h
 exact .cell1 _ _ _ _ _ _ _ _ h1 h2 k1 k2 h3
theorem Gg.y2 {a t : Nat} {l : List ResultVar} {o bt j : Nat} {cs : List AV} {xs : List AV} [h : RW P t true] [hi : SZ P t j] (h1 : st.tmps a = .ref o 0) (h2 : st.heap o = .live (.box bt cs)) (hc : cs.length = j) (h3 : ResIs P st l xs) : ResIs P st (.cell a t :: l) (.agg cs :: xs) := by
 obtain ⟨ds, k1, k2⟩ := h.h
 exact .cellN _ _ _ _ _ _ _ _ _ h1 h2 k1 k2 hi.h hc h3
theorem yT {rs : List ResultVar} {res : AV} {e : Exit} {vals : List AV} {news : List (Nat × AObj)} (ρ : Nat → Nat) (hv : (oneA vals).view (zfs ρ news) st.heap = res.ren ρ) (ho : LeO ρ st (news.map Prod.fst) news) (h : ResIs P st rs vals := by repeat (first | exact ResIs.nil | (apply ResIs.tmp; exact rfl) | (apply Gg.y1; exact rfl; exact rfl) | (apply Gg.y2; exact rfl; exact rfl; (first | assumption | kernel_rfl))))
  (he : e = .normal ∨ e = .ret := by first | exact .inl rfl | exact .inr rfl) (hk : res.okIn (news.map Prod.fst) = true := by exact rfl) (hn : zby (news.map fun p => ρ p.1) = true := by exact rfl) : Fin P rs res news e st := fT ρ h hv ho he hk hn
theorem yE {rs : List ResultVar} {res : AV} {e : Exit} {vals : List AV} {news : List (Nat × AObj)} (h : ResIs P st rs vals := by repeat (first | exact ResIs.nil | (apply ResIs.tmp; exact rfl) | (apply Gg.y1; exact rfl; exact rfl) | (apply Gg.y2; exact rfl; exact rfl; (first | assumption | kernel_rfl))))
  (hv : (oneA vals).view (zfs (fun o => o) news) st.heap = res.ren fun o => o := by exact rfl) (ho : LeO (fun o => o) st (news.map Prod.fst) news := by exact trivial) (he : e = .normal ∨ e = .ret := by first | exact .inl rfl | exact .inr rfl) (hk : res.okIn (news.map Prod.fst) = true := by exact rfl) (hn : zby (news.map fun p => p.1) = true := by exact rfl) : Fin P rs res news e st := fT (fun o => o) h hv ho he hk hn
end
set_option maxRecDepth 100000
theorem G {p q : Prop} (c : List Nat) (k : q) (h : W c q p := by
 repeat (first
  | (with_reducible apply Gg.z)
  | (with_reducible apply Gg.f1)
  | (with_reducible apply Gg.f2)
  | (with_reducible apply Gg.f3)
  | (with_reducible apply Gg.f4)
  | (with_reducible apply Gg.f5)
  | (with_reducible apply Gg.f6)
  | ((with_reducible apply Gg.f7); exact rfl)
  | ((with_reducible apply Gg.n); first
   | ((with_reducible apply Gg.ni))
   | ((with_reducible apply zad))
   | ((with_reducible apply zaF); kernel_rfl)
   | ((with_reducible apply Gg.pu (zaw (r := .p _))); exact rfl)
   | ((with_reducible apply Gg.pu (zav (r := .p _))); exact rfl)
   | ((with_reducible apply Gg.sk); exact rfl)
   | ((with_reducible apply Gg.fa); exact rfl)
   | ((with_reducible apply Gg.ld); exact rfl; (first | exact rfl | assumption))
   | ((with_reducible apply Gg.pu a_pickF); exact rfl)
   | ((with_reducible apply Gg.pu a_pickT); exact rfl)
   | ((with_reducible apply awp_cF); exact rfl)
   | ((with_reducible apply awp_cT); exact rfl)
   | ((with_reducible apply zap))
   | ((with_reducible apply zao))
   | ((with_reducible apply zaE))
   | ((with_reducible apply zaN))
   | ((with_reducible apply Gg.ln); exact rfl; (first | exact Nat.le_of_ble_eq_true rfl | omega | (simp only [AV.cells, List.length_map]; omega)); (first | exact zcC (by first | assumption | exact Nat.eq_of_beq_eq_true rfl | (simp only [AV.cells, List.length_map]; first | assumption | omega)) | (simp only [List.take_succ_cons, List.take_zero, List.drop_succ_cons, List.drop_zero]; rfl) | rfl))
   | ((with_reducible apply Gg.pu a_eql); exact rfl)
   | ((with_reducible apply Gg.pu a_neq); exact rfl)
   | ((with_reducible apply Gg.pu zcI); exact rfl)
   | ((with_reducible apply Gg.pu a_leq); exact rfl)
   | ((with_reducible apply Gg.pu a_gtr); exact rfl)
   | ((with_reducible apply Gg.pu a_geq); exact rfl)
   | ((with_reducible apply Gg.pu zhY); exact rfl)
   | ((with_reducible apply Gg.pu a_sneq); exact rfl)
   | ((with_reducible apply Gg.pu a_not); exact rfl)
   | ((with_reducible apply Gg.ex); exact rfl; exact rfl)
   | ((with_reducible apply Gg.pu (zav (r := .row _))); exact rfl)
   | ((with_reducible apply Gg.pu (zaw (r := .row _))); exact rfl)
   | ((with_reducible apply Gg.pu (zav (r := .tup _))); exact rfl)
   | ((with_reducible apply Gg.pu (zaw (r := .tup _))); exact rfl)
   | ((with_reducible apply Gg.pu (zav (r := .ref _ _))); exact rfl)
   | ((with_reducible apply Gg.pu (zaw (r := .ref _ _))); exact rfl)
   | ((with_reducible apply Gg.pu (zav (r := .agg _))); exact rfl)
   | ((with_reducible apply Gg.pu (zaw (r := .agg _))); exact rfl)
   | ((with_reducible apply Gg.pu (zav (r := .psl _ _ _ _))); exact rfl)
   | ((with_reducible apply Gg.pu (zaw (r := .psl _ _ _ _))); exact rfl)
   | ((with_reducible apply Gg.pu (zav (r := .ptr _))); exact rfl)
   | ((with_reducible apply Gg.pu (zaw (r := .ptr _))); exact rfl)
   | ((with_reducible apply Gg.pu (zav (r := .fn _ _))); exact rfl)
   | ((with_reducible apply Gg.pu (zaw (r := .fn _ _))); exact rfl)
   | ((with_reducible apply Gg.ls); exact rfl)
   | ((with_reducible apply Gg.lt); exact rfl)
   | ((with_reducible apply Gg.lw); exact rfl)
   | ((with_reducible apply Gg.lv); exact rfl)
   | ((with_reducible apply Gg.ix); exact rfl; omega; omega)
   | ((with_reducible apply Gg.iy); exact rfl; omega; omega; (first | (simp only [Int.toNat_natCast, Nat.mul_one, Nat.zero_add]; rfl) | rfl))
   | ((with_reducible apply Gg.lq); exact rfl; (focus (first | omega | (simp; done) | (simp; omega))); (first | assumption | rfl))
   | ((with_reducible apply Gg.lo); exact rfl; (first | rfl | assumption | ((try simp only [List.getElem?_drop, List.getElem?_take, Int.toNat_natCast, Nat.mul_one, Nat.add_zero, Nat.zero_add]); first | assumption | rfl)))
   | ((with_reducible apply Gg.lr); exact rfl; (first | rfl | assumption | ((try simp only [List.getElem?_drop, List.getElem?_take, Int.toNat_natCast, Nat.mul_one, Nat.add_zero, Nat.zero_add]); first | assumption | rfl)))
   | ((with_reducible apply Gg.bi); exact rfl; (first | exact .inl ⟨rfl, rfl⟩ | exact .inr (.inl ⟨rfl, rfl⟩) | exact .inr (.inr ⟨rfl, rfl⟩)); (first | exact IntWalk.i64_in _ (by omega) | exact IntWalk.u32_in _ (by omega) | exact IntWalk.u8_in _ (by omega) | exact IntWalk.u64_in _ (by omega) | rfl))
   | ((with_reducible apply Gg.cv); exact rfl; (first | exact IntWalk.i64_in _ (by omega) | exact IntWalk.u32_in _ (by omega) | exact IntWalk.u8_in _ (by omega) | exact IntWalk.u64_in _ (by omega) | rfl))
   | ((with_reducible apply Gg.sn); exact rfl; exact rfl; (first | exact Nat.eq_of_beq_eq_true rfl | (simp only [AV.cells, List.length_map]; first | assumption | omega)); (first | exact Nat.le_of_ble_eq_true rfl | omega | (simp only [AV.cells, List.length_map]; omega)); (first | (simp only [setR, AV.cells, List.take_succ_cons, List.take_zero, List.drop_succ_cons, List.drop_zero, List.drop_nil, List.take_nil, List.nil_append, List.cons_append, List.append_nil, List.length_cons, List.length_nil, Nat.reduceAdd, Nat.zero_add, Nat.add_zero]; rfl) | rfl))
   | ((with_reducible apply Gg.bx); exact rfl; exact rfl)
   | ((with_reducible apply Gg.al); exact rfl; exact rfl)
   | ((with_reducible apply Gg.bu); exact rfl; exact rfl)
   | ((with_reducible apply Gg.sa); exact rfl; exact rfl; (first | exact Nat.eq_of_beq_eq_true rfl | (simp only [AV.cells, List.length_map]; first | assumption | omega)); exact Nat.eq_of_beq_eq_true rfl)
   | ((with_reducible apply Gg.fb); exact rfl)
   | ((with_reducible apply zbA 4); kernel_rfl)
   | ((with_reducible apply Gg.nd); kernel_rfl)
   | ((with_reducible apply Gg.pu zfx); exact rfl)
   | ((with_reducible apply Gg.pu (zav (r := .mb _ _))); exact rfl)
   | ((with_reducible apply Gg.pu (zaw (r := .mb _ _))); exact rfl)
   | ((with_reducible apply Gg.pu (zav (r := .mp _))); exact rfl)
   | ((with_reducible apply Gg.pu (zaw (r := .mp _))); exact rfl)
   | ((with_reducible apply Gg.pu (zav (r := .sat _))); exact rfl)
   | ((with_reducible apply Gg.pu (zaw (r := .sat _))); exact rfl)
   | ((with_reducible apply Gg.pu (zav (r := .any))); exact rfl)
   | ((with_reducible apply Gg.pu (zaw (r := .any))); exact rfl)
   | ((with_reducible apply Gg.mp); exact rfl; (first | apply zav (r := .p _) | apply a_eql | apply a_neq | apply zcI | apply a_gtr | apply a_leq | apply a_geq | apply zhY | apply a_sneq | apply a_not); (repeat (first | exact zdO | refine zcg id ?_ | refine stripOK_p ?_ | refine zgz ?_ | refine zgy ?_ | refine zgA ?_ | refine zgB ?_ | refine zcg (by simp_all) ?_ | refine StripOK.plain _ _ rfl ?_)))
   | ((with_reducible apply Gg.ml); exact rfl; (first | exact rfl | assumption); (repeat (first | exact zdO | refine zcg id ?_ | refine zcg (by simp_all) ?_ | refine StripOK.plain _ _ rfl ?_)))
   | ((with_reducible apply Gg.mf); exact rfl; (repeat (first | exact zdO | refine zcg id ?_ | refine zcg (by simp_all) ?_ | refine StripOK.plain _ _ rfl ?_))))
  | ((with_reducible apply Gg.c1); first
   | ((with_reducible apply Gg.pu a_eqlT); exact rfl)
   | ((with_reducible apply Gg.pu a_neqT); exact rfl)
   | ((with_reducible apply Gg.pu a_seqlT); exact rfl)
   | ((with_reducible apply Gg.pu a_sneqT); exact rfl))
  | ((with_reducible apply Gg.c3); first
   | ((with_reducible apply Gg.vi (c := false)); exact rfl; (first | exact .inl ⟨rfl, rfl⟩ | exact .inr (.inl ⟨rfl, rfl⟩) | exact .inr (.inr (.inl ⟨rfl, rfl⟩)) | exact .inr (.inr (.inr (.inl ⟨rfl, rfl⟩))) | exact .inr (.inr (.inr (.inr (.inl ⟨rfl, rfl⟩)))) | exact .inr (.inr (.inr (.inr (.inr ⟨rfl, rfl⟩))))); (focus (first | decide | (simp; done) | (simp; omega) | (simp [*]; done) | simp_all)))
   | ((with_reducible apply Gg.vs (c := false)); exact rfl; (first | exact .inl ⟨rfl, rfl⟩ | exact .inr ⟨rfl, rfl⟩); (focus (first | decide | (simp; done) | (simp; omega) | (simp [*]; done) | simp_all))))
  | ((with_reducible apply Gg.c4); first
   | ((with_reducible apply Gg.vi (c := true)); exact rfl; (first | exact .inl ⟨rfl, rfl⟩ | exact .inr (.inl ⟨rfl, rfl⟩) | exact .inr (.inr (.inl ⟨rfl, rfl⟩)) | exact .inr (.inr (.inr (.inl ⟨rfl, rfl⟩))) | exact .inr (.inr (.inr (.inr (.inl ⟨rfl, rfl⟩)))) | exact .inr (.inr (.inr (.inr (.inr ⟨rfl, rfl⟩))))); (focus (first | decide | (simp; done) | (simp; omega) | (simp [*]; done) | simp_all)))
   | ((with_reducible apply Gg.vs (c := true)); exact rfl; (first | exact .inl ⟨rfl, rfl⟩ | exact .inr ⟨rfl, rfl⟩); (focus (first | decide | (simp; done) | (simp; omega) | (simp [*]; done) | simp_all))))
  | (with_reducible apply Gg.c9)
  | ((with_reducible apply Gg.c2); first
   | ((with_reducible apply Gg.an); exact rfl; (focus (first | exact id | (simp; done) | grind)))
   | ((with_reducible apply Gg.or); exact rfl; (focus (first | exact id | (simp; done) | grind)))))) : p := h k
theorem jak {p : Prop} (h : p := by
 (repeat (first | exact trivial | (refine ⟨⟨(by first | rfl | (simp; done) | (simp; omega)), rfl⟩, ?_⟩)))) : p := h
theorem jal {p : Prop} (h : p := by
 clear h
 obtain ⟨DD, hDD⟩ : ∃ b, dupB (allT l i) (0 :: zbb s) = b := ⟨_, rfl⟩
 rw [hDD] at hst
 refine G [3] ?_
 refine jcI ?_
 refine cK hNum ?_
 refine G [3] ?_
 refine zag (fun m' st => ∃ j : Nat, m' + j = 5 ∧ (∃ X : List Int, X.length = 5 * i + j ∧ DD = dupB X ((0 :: zbb s).drop j) ∧ X = allT l i ++ (0 :: zbb s).take j ∧ st = St.of [(0, .p (.sl l.length 41 L)), (3, .row 100), (12, .p (.sl l.length 41 L)), (13, .p (.v (.int .i64 l.length))), (14, .p (.v (.int .i64 i))), (38, .agg [.p (.v (.int .i64 0)), .p (.v (.int .i64 s.a.mine)), .p (.v (.int .i64 s.b.mine)), .p (.v (.int .i64 s.c.mine)), .p (.v (.int .i64 s.h.mine))]), (39, .p (.v (.int .i64 j)))] [(100, .row 3 1 (5 * i + j) (is X))])) 5 ?_ ?_
 ·refine ⟨_, zah id _ _ ?_ ?_ rfl, 0, by omega, allT l i, by omega, hDD.symm, by simp, rfl⟩
  ·exact jak
  ·exact ⟨⟨rfl, rfl⟩, trivial⟩
 rintro m' st ⟨j, hj, X, hX, hdp, hXe, rfl⟩
 refine G [5] ?_
 refine cX (fun h => ?_) fun h => ?_
 ·have hlj : j < 5 := by simp at h; omega
  clear h
  obtain ⟨n, hn5⟩ : ∃ n, (0 :: zbb s)[j]? = some n := ⟨(0 :: zbb s)[j]'(by show j < 5; exact hlj), List.getElem?_eq_getElem _⟩
  have hix : ([.p (.v (.int .i64 0)), .p (.v (.int .i64 s.a.mine)), .p (.v (.int .i64 s.b.mine)), .p (.v (.int .i64 s.c.mine)), .p (.v (.int .i64 s.h.mine))] : List AV)[j * 1]? = some (.p (.v (.int .i64 n))) := by
   rw [Nat.mul_one]
   have : ([.p (.v (.int .i64 0)), .p (.v (.int .i64 s.a.mine)), .p (.v (.int .i64 s.b.mine)), .p (.v (.int .i64 s.c.mine)), .p (.v (.int .i64 s.h.mine))] : List AV) = (0 :: zbb s).map fun n => .p (.v (.int .i64 n)) := rfl
   rw [this, List.getElem?_map, hn5]
   rfl
  have hdr : (0 :: zbb s).drop j = n :: (0 :: zbb s).drop (j + 1) := by
   obtain ⟨q1, q2⟩ := List.getElem?_eq_some_iff.1 hn5
   rw [List.drop_eq_getElem_cons q1, q2]
  have htk : (0 :: zbb s).take (j + 1) = (0 :: zbb s).take j ++ [n] := by
   obtain ⟨q1, q2⟩ := List.getElem?_eq_some_iff.1 hn5
   exact jce
  rw [hdr, dupB] at hdp
  have hCt := zhU X n (5 * i + j) hX (by omega)
  have hil := is_len X
  have hps := is_push X n
  generalize hIs : is X = IX at *
  refine G [5] ?_
  refine zaa (zcE underlying117 sz3 U3 rfl (by omega) (by omega) (show _ = some (.p (.v (.int .i64 n))) by rw [Int.toNat_natCast]; exact hix)) rfl rfl ?_
  refine G [2] ?_
  by_cases h0 : 0 < n
  ·by_cases hm : n ∈ X
   ·rw [show (decide (0 < n) && decide (n ∈ X) || dupB (X ++ [n]) ((0 :: zbb s).drop (j + 1))) = true by simp [h0, hm]] at hdp
    rw [if_pos hdp] at hst
    rw [hhit (by rw [hst]; decide), hst] at hE
    subst hE
    rw [decide_eq_true hm] at hCt
    refine G [4, 4, 3] ?_
    (first | refine zcb rfl ?_ | refine zaR (fun n => 47 + 1000 * n) (hCt) rfl rfl func60 rfl rfl (by first | rfl | simp [AV.noSl, AV.noSlL, AObj.noSl, PV.isV, zaH]) (by first | rfl | simp [AV.noSl, AV.noSlL, AObj.noSl, PV.isV, zaH]) rfl rfl rfl (by first | exact trivial | exact ⟨rfl, trivial⟩ | exact ⟨rfl, rfl, trivial⟩ | exact ⟨rfl, rfl, rfl, rfl, rfl, trivial⟩) rfl rfl rfl ?_)
    refine G [7] ?_
    (repeat (first | refine zad ?_ | refine zao ?_ | refine zap ?_ | refine zaE ?_ | refine zaN ?_ | refine zaz ?_ | refine zbG ?_ | refine zct ?_ | refine zbz ?_ | refine zcz ?_ | refine zcR ?_ | refine zdX rfl ?_))
    exact yE
   ·rw [show (decide (0 < n) && decide (n ∈ X) || dupB (X ++ [n]) ((0 :: zbb s).drop (j + 1))) = dupB (X ++ [n]) ((0 :: zbb s).drop (j + 1)) by simp [hm]] at hdp
    rw [decide_eq_false hm] at hCt
    refine G [4, 4, 3] ?_
    (first | refine zcb rfl ?_ | refine zaR (fun n => 47 + 1000 * n) (hCt) rfl rfl func60 rfl rfl (by first | rfl | simp [AV.noSl, AV.noSlL, AObj.noSl, PV.isV, zaH]) (by first | rfl | simp [AV.noSl, AV.noSlL, AObj.noSl, PV.isV, zaH]) rfl rfl rfl (by first | exact trivial | exact ⟨rfl, trivial⟩ | exact ⟨rfl, rfl, trivial⟩ | exact ⟨rfl, rfl, rfl, rfl, rfl, trivial⟩) rfl rfl rfl ?_)
    refine G [7] ?_
    refine jcP ?_
    refine zab (zal 52 U115 eo3 (zax) (by simp only [maxLen]; omega) (by omega) (show _ = 5 * i + (j + 1) by omega) hps) rfl rfl ⟨rfl, rfl, rfl, trivial⟩ ?_
    refine jcs ?_
    refine ⟨m' - 1, by omega, _, zah (fun _ => 52) _ _ ?_ ?_ rfl, j + 1, by omega, X ++ [n], by simp [hX]; omega, hdp, by rw [hXe, htk, List.append_assoc], rfl⟩
    ·exact jak
    ·exact ⟨⟨rfl, rfl⟩, trivial⟩
  ·rw [show (decide (0 < n) && decide (n ∈ X) || dupB (X ++ [n]) ((0 :: zbb s).drop (j + 1))) = dupB (X ++ [n]) ((0 :: zbb s).drop (j + 1)) by simp [h0]] at hdp
   refine G [4, 3, 11] ?_
   refine jcP ?_
   refine zab (zal 52 U115 eo3 (zax) (by simp only [maxLen]; omega) (by omega) (show _ = 5 * i + (j + 1) by omega) hps) rfl rfl ⟨rfl, rfl, rfl, trivial⟩ ?_
   refine jcs ?_
   refine ⟨m' - 1, by omega, _, zah (fun _ => 52) _ _ ?_ ?_ rfl, j + 1, by omega, X ++ [n], by simp [hX]; omega, hdp, by rw [hXe, htk, List.append_assoc], rfl⟩
   ·exact jak
   ·exact ⟨⟨rfl, rfl⟩, trivial⟩
 have hge : j = 5 := by simp at h; omega
 clear h
 subst hge
 have hz : dupB X ((0 :: zbb s).drop 5) = false := rfl
 rw [hz] at hdp
 rw [if_neg (by rw [hdp]; decide)] at hst
 have hXn : X = allT l (i + 1) := by rw [hXe, hnx]; rfl
 subst hXn
 refine jct ?_
 refine ⟨m - 1, by omega, _, zah id _ _ ?_ ?_ rfl, i + 1, by omega, fun q hq => ?_, rfl⟩
 ·exact jak
 ·exact ⟨⟨rfl, rfl⟩, trivial⟩
 ·exact jbL) : p := h
theorem jam {p : Prop} (h : p := by
 refine zaa (zaC U88 rfl rfl (by kernel_rfl) (by kernel_rfl) (by kernel_rfl) (c := true) (by rw [zbj]; simp; omega)) rfl rfl ?_
 refine G [2, 4, 9, 9, 0] ?_
 exact yE) : p := h
theorem jan {p : Prop} (h : p := by
 refine ⟨u - 1, by omega, _, zah id _ _ ?_ ?_ rfl, i + 1, by omega, fun j hj => ?_, rfl⟩
 ·exact jak
 ·exact trivial
 ·by_cases e : j = i
  ·rw [e]; exact hxy he
  ·exact hf j (by omega)) : p := h
theorem jao {p : Prop} (h : p := by
 (intro o ho; simp only [List.any_cons, List.any_nil, Bool.or_false, Bool.or_eq_false_iff] at ho; simp [St.put, St.upd, updL, zbN, ho])) : p := h
theorem jap {p : Prop} (h : p := by
 rw [show (2 : Int) ^ min (8 : Int).toNat IntKind.i64.bits = 256 from rfl, Int.fdiv_eq_ediv_of_nonneg _ (by omega)]
 rw [Nat.pow_succ, ← Nat.div_div_eq_div_mul]; omega) : p := h
theorem jaq {p : Prop} (h : p := by
 exact zah id _ _ (by repeat (first | exact trivial | refine ⟨⟨rfl, rfl⟩, ?_⟩)) (by repeat (first | exact trivial | refine ⟨⟨rfl, rfl⟩, ?_⟩)) rfl) : p := h
theorem jar {p : Prop} (h : p := by
 refine ⟨_, zah id _ _ ?_ ?_ rfl, 0, by omega, by omega, rfl⟩
 ·exact jak
 ·exact ⟨⟨rfl, rfl⟩, trivial⟩) : p := h
theorem jas {p : Prop} (h : p := by
 refine ⟨_, zah id _ _ ?_ ?_ rfl, 0, by omega, by omega, rfl⟩
 ·exact jak
 ·exact trivial) : p := h
theorem jat {p : Prop} (h : p := by
 refine jcv ?_
 refine G [7] ?_
 rw [if_neg (show ¬ seF ⟨6, t, n, a, b⟩ by simp [seF, isT, isN, isC, *])] at hE
 rw [seV_6] at hE
 refine G [6, 3, 16, 3, 11] ?_
 by_cases h1 : t = ⟨#[]⟩
 ·rw [if_pos h1] at hE
  subst hE
  refine G [8, 4, 9, 9, 0] ?_
  exact yE
 rw [if_neg h1] at hE
 refine G [8, 3, 4] ?_
 by_cases h2 : t = zfS
 ·rw [if_pos h2] at hE
  subst hE
  refine G [8] ?_
  (first | refine zcb rfl ?_ | refine zbO (fun n => 93 + 1000 * n) (hZ) rfl rfl func110 rfl rfl (by first | rfl | simp [AV.okInL, AV.okIn, zay]) rfl rfl rfl (by first | exact trivial | exact ⟨rfl, trivial⟩ | exact ⟨rfl, rfl, trivial⟩ | exact ⟨rfl, rfl, rfl, rfl, rfl, trivial⟩) rfl rfl rfl ?_)
  refine G [0, 4, 9, 9, 0] ?_
  exact yE
 rw [if_neg h2] at hE
 refine G [8] ?_
 (first | refine zcb rfl ?_ | refine zbO (fun n => 93 + 1000 * n) (hZ) rfl rfl func110 rfl rfl (by first | rfl | simp [AV.okInL, AV.okIn, zay]) rfl rfl rfl (by first | exact trivial | exact ⟨rfl, trivial⟩ | exact ⟨rfl, rfl, trivial⟩ | exact ⟨rfl, rfl, rfl, rfl, rfl, trivial⟩) rfl rfl rfl ?_)
 refine G [0, 3, 4] ?_
 subst hE
 refine G [3, 4, 7] ?_
 refine cV hH ?_
 refine jcJ ?_
 exact yE) : p := h
theorem jau {p : Prop} (h : p := by
 by_cases hl : n < 0
 ·rw [if_pos (.inl hl)] at hE
  subst hE
  refine G [6, 4, 3, 4, 14, 9, 0] ?_
  exact yE
 refine G [6, 4, 3, 3, 8, 9, 0] ?_
 refine cX (fun h => ?_) fun h => ?_
 ·exact jbu
 have h1 : ¬ 65535 < n := by simpa using h
 clear h
 rw [if_neg (by omega)] at hE
 subst hE
 refine G [3, 3, 41, 3, 9, 9, 0] ?_
 exact yE) : p := h
theorem jav {p : Prop} (h : p := by
 refine fnI fun w0 A => ?_
 refine G [4] ?_
 by_cases h0 : n = 0
 ·subst h0
  obtain rfl : xs = [] := List.eq_nil_of_length_eq_zero hx
  refine G [4] ?_
  refine zaa (a_seqX U62) rfl rfl ?_
  refine zac (zaz (zem rfl ?_ ?_))
  ·refine G [4, 9, 0] ?_
   refine za8 (zco 2 100 5 1 rfl rfl) ?_
   refine zaE (zbG ?_)
   exact jbl
  ·refine G [3] ?_
   refine zab (za0 5 U62 sz5) rfl rfl ⟨rfl, trivial⟩ ?_
   refine jco ?_
   refine zab (zal 7 U62 eo5 (zbn) (by simp only [maxLen]; omega) (by omega) rfl rfl) rfl rfl ⟨rfl, rfl, trivial⟩ ?_
   exact jbi
 ·refine G [4] ?_
  refine zaa (a_seqS U62 (by omega)) rfl rfl ?_
  refine zac (zaz (cX (fun h => ?_) fun h => ?_))
  ·cases h
  ·refine G [3] ?_
   refine zab (za0 5 U62 sz5) rfl rfl ⟨rfl, trivial⟩ ?_
   refine jco ?_
   refine zab (zal 7 U62 eo5 (zbn) (by simp only [maxLen]; omega) (by omega) (show _ = n by omega) rfl) rfl rfl ⟨rfl, rfl, trivial⟩ ?_
   exact jbi) : p := h
theorem jaw {p : Prop} (h : p := by
 have hhit := @zcd (fun i => seE (seG rest i)) i rest.length hf hlt
 have hgx : seE (seG rest i) = seE x := by rw [seG_at hx]
 generalize rest.flatMap SE.pv = R at *
 generalize seE x = e at *
 obtain ⟨xk, xt, xn, xa, xb⟩ := x
 change Fn prog _ [.agg [.p (.v (.int .i64 xk)), .p (.v (.string xt)), .p (.v (.int .i64 xn)), .p (.v (.int .u32 xa)), .p (.v (.int .i64 xb))]] _ _ at hC
 refine G [8] ?_
 refine zab (zaf (Y := .agg [.p (.v (.int .i64 xk)), .p (.v (.string xt)), .p (.v (.int .i64 xn)), .p (.v (.int .u32 xa)), .p (.v (.int .i64 xb))]) sz121 rfl rfl (Nat.eq_of_beq_eq_true rfl)) rfl rfl ⟨rfl, trivial⟩ ?_
 refine G [4] ?_
 refine cV hC ?_
 refine jcq ?_
 refine cX (fun h => ?_) fun h => ?_
 ·have h7 : e ≠ 0 := by simpa using h
  rw [hrE, hhit (by rw [hgx]; exact h7), hgx, if_pos h7] at hE
  subst hE
  refine jcs ?_
  exact yE
 have h7 : e = 0 := by simpa using h
 clear h
 refine jct ?_
 refine ⟨m - 1, by omega, _, zah id _ _ ?_ ?_ rfl, i + 1, by omega, fun q hq => ?_, rfl⟩
 ·exact jak
 ·exact ⟨⟨rfl, rfl⟩, trivial⟩
 ·by_cases eq : q = i
  ·rw [eq, hgx]; exact h7
  ·exact hf q (by omega)) : p := h
theorem jax {p : Prop} (h : p := by
 refine ⟨(by first | exact .inl rfl | exact .inr rfl), ⟨_, (.tmp _ _ _ _ rfl .nil), ?_⟩, ?_, ?_⟩
 ·exact rfl
 ·exact jbm
 ·exact jao) : p := h
theorem jay {p : Prop} (h : p := by
 generalize l.length = n at *
 generalize m.length = k at *
 refine fnI fun w0 A => ?_
 refine G [11, 4, 7, 9, 0] ?_
 exact yE) : p := h
theorem jaz {p : Prop} (h : p := by
 have hl : k.live = false := by simpa using h
 have hE : kE k = if k.zero = true then 0 else 14 := by unfold kE; rw [if_pos hl]
 rw [hE]
 refine G [5] ?_
 refine zaa (zcK U49 rfl rfl (by kernel_rfl) (by kernel_rfl) (by kernel_rfl)) rfl rfl ?_
 refine zac (zaz (cX (fun h => ?_) fun h => ?_))
 ·have hz : ¬ k.zero = true := by
   intro hz
   have hz' : eqL k.vals KY0.vals = true := hz
   have h' : (!eqL k.vals KY0.vals) = true := h
   rw [hz'] at h'; cases h'
  rw [if_neg hz]
  refine jct ?_
  exact yE
 ·have hz : k.zero = true := by
   have h' : (!eqL k.vals KY0.vals) = false := h
   show eqL k.vals KY0.vals = true
   cases hq : eqL k.vals KY0.vals
   ·rw [hq] at h'; cases h'
   ·rfl
  rw [if_pos hz]
  refine jcs ?_
  exact yE) : p := h
theorem jaA {p : Prop} (h : p := by
 refine ⟨(by first | exact .inl rfl | exact .inr rfl), ⟨_, (.cellN _ _ _ _ _ _ _ _ _ rfl rfl U49 rfl sz49 (by first | assumption | kernel_rfl) .nil), ?_⟩, ?_, ?_⟩
 ·exact rfl
 ·exact jbm
 ·exact jao) : p := h
theorem jaB {p : Prop} (h : p := by
 refine ⟨_, zah id _ _ ?_ ?_ rfl, 0, by omega, by omega, rfl⟩
 ·exact jak
 ·exact ⟨⟨rfl, rfl⟩, ⟨rfl, rfl⟩, trivial⟩) : p := h
theorem jaC {p : Prop} (h : p := by
 exact ⟨⟨rfl, rfl⟩, ⟨rfl, rfl⟩, ⟨rfl, rfl⟩, trivial⟩) : p := h
theorem jaD {p : Prop} (h : p := by
 refine zab (zfz U62 U5 U9 (zbn) rfl rfl) rfl rfl trivial ?_
 refine zaa (zcU (by omega) cL) rfl rfl ?_
 refine zab (zf7 43 U9 U62 U5 (by first | omega | (simp only [maxLen]; omega)) zL xL) rfl rfl ⟨rfl, trivial⟩ ?_
 refine G [4, 9, 0] ?_
 refine yT (fun _ => 43) ?_ ?_
 ·exact rfl
 ·exact ⟨⟨rfl, rfl⟩, trivial⟩) : p := h
theorem jaE {p : Prop} (h : p := by
 refine G [1, 2, 4, 2, 4, 2, 1, 9, 0] ?_
 refine cX (fun h => ?_) fun h => ?_
 ·have h9 : (at_ ≠ ⟨#[]⟩ ∧ k1 ≠ 0) ∨ err < 0 ∨ 14 < err := by
   simp at h
   rcases h with (q | q) | q
   ·exact .inl q
   ·exact .inr (.inl q)
   ·exact .inr (.inr q)
  rw [if_pos h9] at hE
  subst hE
  refine jct ?_
  exact yE
 ·have h9 : ¬ ((at_ ≠ ⟨#[]⟩ ∧ k1 ≠ 0) ∨ err < 0 ∨ 14 < err) := by
   simp at h
   obtain ⟨⟨q1, q2⟩, q3⟩ := h
   rintro (⟨p1, p2⟩ | p | p)
   ·exact p2 (q1 p1)
   ·omega
   ·omega
  rw [if_neg h9] at hE
  subst hE
  refine jcs ?_
  exact yE) : p := h
theorem jaF {p : Prop} (h : p := by
 refine ⟨(by first | exact .inl rfl | exact .inr rfl), ⟨_, .nil, ?_⟩, ?_, ?_⟩
 ·exact rfl
 ·exact jbm
 ·exact jao) : p := h
theorem jaG {p : Prop} (h : p := by
 obtain ⟨e1, e2⟩ := zbZ (e' := macE s (4 + l.size)) rfl he 32 D
 rw [zcm rfl he]
 rw [e1, e2] at hT
 generalize macE s (4 + l.size) = e at hT he
 refine G [9] ?_
 refine jds ?_
 refine jdr ?_
 refine cV hT ?_
 refine G [12, 9, 0] ?_
 refine cX (fun h => ?_) fun h => ?_
 ·refine jcq ?_
  exact yE
 ·exact absurd (by simpa using h) he) : p := h
theorem jaH {p : Prop} (h : p := by
 refine zab (zal 47 U62 eo5 (zax) (by simp only [maxLen]; omega) (by omega) rfl rfl) rfl rfl ⟨rfl, rfl, rfl, trivial⟩ ?_
 refine jcq ?_
 refine ⟨m - 1, by omega, _, zah (fun o => bif Nat.beq o 9 then 42 else bif Nat.beq o 10 then 47 else o) _ _ ?_ ?_ rfl, i + 1, by omega, rfl⟩
 ·exact jak
 ·rw [n1, n2, ← zcr, ← zcr]
  exact jaC) : p := h
theorem jaI {p : Prop} (h : p := by
 refine jcA ?_
 refine jcA ?_
 refine zac (zaE (zbG ?_))
 exact jcl) : p := h
theorem jaJ {p : Prop} (h : p := by
 rw [if_pos h7] at hst
 rw [hhit (by rw [hst]; exact h7), hst] at hE
 subst hE
 refine jcs ?_
 exact yE) : p := h
theorem jaK {p : Prop} (h : p := by
 refine cK hC ?_
 refine G [2, 9, 0] ?_
 refine cX (fun h => ?_) fun h => ?_
 ·refine jct ?_
  exact yE
 ·cases h) : p := h
theorem jaL {p : Prop} (h : p := by
 (repeat (first | refine zad ?_ | refine zao ?_ | refine zap ?_ | refine zaE ?_ | refine zaN ?_ | refine zaz ?_ | refine zbG ?_ | refine zct ?_ | refine zbz ?_ | refine zcz ?_ | refine zcR ?_ | refine zdX rfl ?_))
 exact yE) : p := h
theorem jaM {p : Prop} (h : p := by
 refine zab (zhl underlying138 U3 rfl (zgi 0 hm)) rfl rfl ⟨rfl, trivial⟩ ?_
 refine jct ?_
 refine ⟨m' - 1, by omega, _, zah id _ _ ?_ ?_ rfl, j + 1, by omega, D ++ [n], hDn, hdp, rfl⟩
 ·exact jak
 ·exact ⟨⟨congrArg (fun x => Slot.live (AObj.map x)) hpush, rfl⟩, ⟨rfl, rfl⟩, trivial⟩) : p := h
theorem jaN {p : Prop} (h : p := by
 have hE : tkE d n = 4 := by rw [hE', if_pos (.inr (.inl h2))]
 refine zfU ?_ (by rw [hE]; decide)
 rw [hE]
 refine fnI fun w0 A => ?_
 refine G [10] ?_
 refine jcr ?_
 refine cK hC ?_
 refine G [5, 1, 7, 3, 2, 4, 18, 9, 0] ?_
 exact yE) : p := h
theorem jaO {p : Prop} (h : p := by
 refine jcS ?_ ?_
 ·exact jak
 ·exact ⟨⟨rfl, rfl⟩, trivial⟩) : p := h
theorem jaP {p : Prop} (h : p := by
 rw [if_pos h1] at hE
 subst hE
 refine jcs ?_
 exact yE) : p := h
theorem jaQ {p : Prop} (h : p := by
 have hE : tkE d n = dmE d := if_pos h0
 refine zfU ?_ (by rw [hE]; exact h0)
 rw [hE]
 generalize dmE d = e at *
 refine fnI fun w0 A => ?_
 refine G [10] ?_
 refine jcr ?_
 refine cK hC ?_
 refine G [5, 4, 11, 9, 0] ?_
 exact yE) : p := h
theorem jaR {p : Prop} (h : p := by
 have hE : seE s = 2 := if_pos hk
 rw [hE]
 obtain ⟨k, t, n, a, b⟩ := s
 dsimp only at hk
 show Fn prog _ [.agg [.p (.v (.int .i64 k)), .p (.v (.string t)), .p (.v (.int .i64 n)), .p (.v (.int .u32 a)), .p (.v (.int .i64 b))]] _ _
 refine fnI fun w0 A => ?_
 refine G [15, 2, 1, 9, 0] ?_
 refine cX (fun h => ?_) fun h => ?_
 ·refine jct ?_
  exact yE
 ·exact absurd hk (by simp at h; omega)) : p := h
theorem jaS {p : Prop} (h : p := by
 have hE : tkE d n = 4 := by rw [hE', if_pos (.inl h1)]
 refine zfU ?_ (by rw [hE]; decide)
 rw [hE]
 refine fnI fun w0 A => ?_
 refine G [10] ?_
 refine jcr ?_
 refine cK hC ?_
 refine G [5, 1, 7, 4, 21, 9, 0] ?_
 exact yE) : p := h
theorem jaT {p : Prop} (h : p := by
 obtain ⟨e1, e2, e3⟩ := join_key p q hp hq
 rw [e1, e2, e3] at h
 refine zcS rfl (fun S m w => ?_) h
 simp only [Rep]
 refine ⟨_, rfl, ?_⟩
 simp only [RepL, Rep, keyA, netA, PRep]
 exact ⟨_, _, rfl, ⟨_, rfl, ⟨_, _, rfl, ⟨rfl, rfl⟩, _, _, rfl, ⟨rfl, rfl⟩, rfl⟩, by intro x hx; simp at hx; rcases hx with rfl | rfl <;> rfl⟩, _, _, rfl, ⟨rfl, rfl⟩, rfl⟩) : p := h
theorem jaU {p : Prop} (h : p := by
 exact ⟨⟨rfl, rfl⟩, ⟨rfl, rfl⟩, ⟨rfl, rfl⟩, ⟨rfl, rfl⟩, trivial⟩) : p := h
theorem jaV {p : Prop} (h : p := by
 have hge : i = l.length := by simp at h; omega
 clear h
 subst hge
 rw [List.take_length]
 refine jcq ?_
 exact jbl) : p := h
theorem jaW {p : Prop} (h : p := by
 have he : padE n = 1 := by unfold padE; rw [if_pos hbig]
 obtain ⟨e1, e2⟩ := zbZ (e' := 1) he (by omega) 32 (shaD xs)
 obtain ⟨e3, e4⟩ := zbZ (e' := 1) he (by omega) (zbo n) (zb1 xs)
 rw [e3, e4] at hP
 rw [e1, e2]
 refine G [8] ?_
 refine cV hP ?_
 refine G [12, 9, 0] ?_
 refine cX (fun h => ?_) fun h => ?_
 ·refine jcq ?_
  exact yE
 ·cases h) : p := h
theorem jaX {p : Prop} (h : p := by
 refine jcv ?_
 refine G [7] ?_
 rw [if_neg (show ¬ seF ⟨1, t, n, a, b⟩ by simp [seF, isT, isN, isC, *])] at hE
 rw [seV_1] at hE
 exact jch) : p := h
theorem jaY {p : Prop} (h : p := by
 refine jcv ?_
 refine G [7] ?_
 rw [if_neg (show ¬ seF ⟨4, t, n, a, b⟩ by simp [seF, isT, isN, isC, *])] at hE
 rw [seV_4] at hE
 exact jch) : p := h
theorem jaZ {p : Prop} (h : p := by
 refine jcv ?_
 refine G [7] ?_
 rw [if_neg (show ¬ seF ⟨7, t, n, a, b⟩ by simp [seF, isT, isN, isC, *])] at hE
 rw [seV_7] at hE
 refine G [6, 3, 16, 3, 11] ?_
 subst hE
 refine G [4] ?_
 refine cV hEn ?_
 refine G [14, 9, 0] ?_
 exact yE) : p := h
theorem ja0 {p : Prop} (h : p := by
 subst hE
 refine G [5, 3, 7, 4, 2, 4, 19, 9, 0] ?_
 exact yE) : p := h
theorem ja1 {p : Prop} (h : p := by
 refine fnI fun w0 A => ?_
 refine G [28, 9, 0] ?_
 exact yE) : p := h
theorem ja2 {p : Prop} (h : p := by
 rw [if_neg (by omega)] at hst
 refine G [4, 3, 12, 9, 0] ?_
 refine cX (fun h => ?_) fun h => ?_
 ·cases h
 refine jct ?_
 refine hnext _ hst (zah id _ _ ?_ ?_ rfl)
 ·exact jak
 ·exact ⟨⟨rfl, rfl⟩, trivial⟩) : p := h
theorem ja3 {p : Prop} (h : p := by
 intro j hj
 obtain ⟨r, hr⟩ : ∃ r, nets[j]? = some r := ⟨nets[j], List.getElem?_eq_getElem (by omega)⟩
 have : ntG nets j = r := by unfold ntG; rw [List.getD_eq_getElem?_getD, hr]; rfl
 rw [this]
 exact ⟨zar (f := ntC) (k := 2) (fun _ => rfl) hr, zas (f := ntC) (k := 2) (fun _ => rfl) (by omega)⟩) : p := h
theorem ja4 {p : Prop} (h : p := by
 skip
 refine jct ?_
 exact zah id _ _ ⟨⟨rfl, rfl⟩, ⟨rfl, rfl⟩, ⟨rfl, rfl⟩, ⟨rfl, rfl⟩, trivial⟩ ⟨⟨rfl, rfl⟩, trivial⟩ rfl) : p := h
theorem ja5 {p : Prop} (h : p := by
 have h6 : 6 < l.length := by simp at h; omega
 rw [if_pos h6] at hE
 subst hE
 refine jct ?_
 exact yE) : p := h
theorem ja6 {p : Prop} (h : p := by
 rw [BitVec.ofInt_natCast, BitVec.toNat_ofNat]; exact Nat.mod_eq_of_lt (by omega)) : p := h
theorem ja7 {p : Prop} (h : p := by
 generalize x1.length = n1 at *
 generalize x2.length = n2 at *
 refine fnI fun w0 A => ?_
 refine G [19, 2, 5] ?_
 refine mb2 _ rfl rfl (fun _ => zbc func22 rfl rfl (hS) (by first | rfl | simp [AV.okInL, AV.okIn, zay]) rfl) (fun _ => trivial) ?_
 refine G [0, 2, 3, 9, 0] ?_
 exact yE) : p := h
theorem ja8 {p : Prop} (h : p := by
 rw [if_pos h1] at hE
 rw [zew hE h1]
 rw [zcm rfl h1] at hS
 generalize secE a b sh = e at *
 refine fnI fun w0 A => ?_
 refine G [10] ?_
 refine cV hS ?_
 refine G [12, 9, 0] ?_
 refine cX (fun h => ?_) fun h => ?_
 ·refine jcM ?_
  exact yE
 ·exact absurd (by simpa using h) h1) : p := h
theorem ja9 {p : Prop} (h : p := by
 refine ⟨_, zah (fun _ => 13) _ _ ?_ ?_ rfl, 0, by omega, rfl⟩
 ·exact jak
 ·rw [show zea xs 0 = xs ++ [128] by simp [zea], ← zcr]
  exact ⟨⟨rfl, rfl⟩, trivial⟩) : p := h
theorem jba {p : Prop} (h : p := by
 refine jcS ?_ ?_
 ·exact jak
 ·rw [zeT, List.append_nil]
  exact ⟨⟨rfl, rfl⟩, ⟨rfl, rfl⟩, trivial⟩) : p := h
theorem jbb {p : Prop} (h : p := by
 refine fnI fun w0 A => ?_
 refine G [8] ?_
 refine cK hC ?_
 refine jcJ ?_
 exact yE) : p := h
theorem jbc {p : Prop} (h : p := by
 have hex : (execOp ev ⟨d, .mapUpdate t x y z, ty, pos, af, g⟩).run P w = .ok .skip w' := by
  simp only [execOp, zba h2, zba h3, Sem.run_bind, hrun, Result.andThen_ok]
  rfl
 unfold Out
 rw [hex]
 exact ⟨S, m, by simp only [Rep], q1, q2⟩) : p := h
theorem jbd {p : Prop} (h : p := by
 refine jcS ?_ ?_
 ·exact jak
 ·exact jaC) : p := h
theorem jbe {p : Prop} (h : p := by
 rw [if_pos ⟨by omega, h8⟩] at hst
 rw [hhit (by rw [hst]; decide), hst] at hE
 subst hE
 refine jct ?_
 exact yE) : p := h
theorem jbf {p : Prop} (h : p := by
 refine zab (zaf (Y := .agg (moD d (.row 11))) sz32 rfl rfl (Nat.eq_of_beq_eq_true rfl)) rfl rfl ⟨rfl, trivial⟩ ?_
 refine G [2, 9, 0] ?_
 refine yT (fun _ => 11) ?_ ?_
 ·exact rfl
 ·exact ⟨⟨rfl, rfl⟩, trivial⟩) : p := h
theorem jbg {p : Prop} (h : p := by
 refine jcS ?_ ?_
 ·exact jak
 ·rw [zeV]
  exact ⟨⟨rfl, rfl⟩, trivial⟩) : p := h
theorem jbh {p : Prop} (h : p := by
 subst hE
 refine G [5, 4, 2, 4, 27, 9, 0] ?_
 exact yE) : p := h
theorem jbi {p : Prop} (h : p := by
 refine jcJ ?_
 refine yT (fun _ => 7) ?_ ?_
 ·exact rfl
 ·exact ⟨⟨rfl, rfl⟩, trivial⟩) : p := h
theorem jbj {p : Prop} (h : p := by
 refine jcA ?_
 refine zac (zbz (zaz (tx (jcu ?_))))
 refine jco ?_
 refine zac (zad (tx (jcY ?_)))
 refine zac (zad (zaJ _ rfl (fun h => ?_) (fun h => ?_)))
 ·cases h
 clear h
 refine zaN (zad (tx (jcw ?_)))
 refine jcL ?_
 refine zac (zaE ?_)
 exact jax) : p := h
theorem jbk {p : Prop} (h : p := by
 refine cK hC ?_
 refine G [2, 9, 0] ?_
 refine cX (fun h => ?_) fun h => ?_
 ·cases h
 refine jct ?_
 exact jan) : p := h
theorem jbl {p : Prop} (h : p := by
 refine yT (fun _ => 100) ?_ ?_
 ·exact rfl
 ·exact ⟨⟨rfl, rfl⟩, trivial⟩) : p := h
theorem jbm {p : Prop} (h : p := by
 (repeat (first | exact trivial | refine ⟨rfl, ?_⟩))) : p := h
theorem jbn {p : Prop} (h : p := by
 subst hE
 refine G [5, 3, 7, 3, 9] ?_
 exact jam) : p := h
theorem jbo {p : Prop} (h : p := by
 refine jcv ?_
 refine G [7] ?_
 rw [if_neg (show ¬ seF ⟨2, t, n, a, b⟩ by simp [seF, isT, isN, isC, *])] at hE
 rw [seV_2] at hE
 exact jau) : p := h
theorem jbp {p : Prop} (h : p := by
 refine jcv ?_
 refine G [7] ?_
 rw [if_neg (show ¬ seF ⟨8, t, n, a, b⟩ by simp [seF, isT, isN, isC, *])] at hE
 rw [seV_8] at hE
 exact jau) : p := h
theorem jbq {p : Prop} (h : p := by
 refine cX (fun h => ?_) fun h => ?_
 ·rw [hR2 (by rw [hE]; intro ⟨q1, q2, q3, q4⟩; simp at h; omega)]
  refine jcq ?_
  exact yE
 ·rw [hR1 (by rw [hE]; simp at h; omega)]
  refine G [10, 9, 0] ?_
  exact yE) : p := h
theorem jbr {p : Prop} (h : p := by
 rw [zef (f := ST.pv) (k := 41) (fun _ => rfl) (hxa { tkL d'.now s with h := HS0 }) (q := 40) (ys := [.sl 0 3 []]) (show 40 + 1 ≤ 41 by decide) (x' := { tkL d'.now s with h := HS0, q := [] }) rfl, List.set_set]) : p := h
theorem jbs {p : Prop} (h : p := by
 rw [if_pos h1] at hE
 subst hE
 refine jct ?_
 exact yE) : p := h
theorem jbt {p : Prop} (h : p := by
 rw [if_neg (show ¬ seF ⟨10, t, n, a, b⟩ by simp [seF, isT, isN, isC, *])] at hE
 rw [seV_10] at hE
 refine G [6, 3, 16, 4, 3] ?_
 subst hE
 refine G [4] ?_
 refine cV hC ?_
 refine jcJ ?_
 exact yE) : p := h
theorem jbu {p : Prop} (h : p := by
 have h1 : 65535 < n := by simpa using h
 rw [if_pos (.inr h1)] at hE
 subst hE
 refine jct ?_
 exact yE) : p := h
theorem jbv {p : Prop} (h : p := by
 have h2 : ¬ s.size % 2 = 0 := by simp at h; omega
 refine jcs ?_
 obtain ⟨e1, e2⟩ := zbw (s := s) (e := 3) (by unfold hexE; rw [if_neg (by omega), if_neg h2]) (by omega)
 rw [e1, e2]
 exact yE) : p := h
theorem jbw {p : Prop} (h : p := by
 refine jdp ?_
 exact jaK) : p := h
theorem jbx {p : Prop} (h : p := by
 have h2 : 1000 < n := by simp at h; omega
 refine jcs ?_
 obtain ⟨e1, e2⟩ := zbZ (e' := 1) (show padE n = 1 by unfold padE; rw [if_pos h2]) (by omega) (zbo n) (zb1 xs)
 rw [e1, e2]
 exact yE) : p := h
theorem jby {p : Prop} (h : p := by
 have h3 : 936 < n := by simp at h; omega
 obtain ⟨e1, e2⟩ := zbZ (show macE s n = 1 by unfold macE; rw [if_pos h2, if_pos h3]) (by omega) 32 (macD s b)
 rw [e1, e2]
 refine jcs ?_
 exact yE) : p := h
theorem jbz {p : Prop} (h : p := by
 cases i with
 | zero => exact .inl rfl
 | succ j => exact .inr ⟨j, rfl⟩) : p := h
theorem jbA {p : Prop} (h : p := by
 generalize wE m = e at *
 refine fnI fun w0 A => ?_
 refine G [10] ?_
 refine cV hC ?_
 refine jcq ?_
 refine cX (fun h => ?_) fun h => ?_
 ·refine jcq ?_
  exact yE
 ·simp at h; omega) : p := h
theorem jbB {p : Prop} (h : p := by
 refine jcq ?_
 refine yT (fun _ => 5) ?_ ?_
 ·exact rfl
 ·exact ⟨⟨rfl, rfl⟩, trivial⟩) : p := h
theorem jbC {p : Prop} (h : p := by
 rw [List.take_succ_eq_append_getElem h1, h2, List.flatMap_append]
 simp) : p := h
theorem jbD {p : Prop} (h : p := by
 subst hE
 refine G [9, 4, 27, 9, 0] ?_
 exact yE) : p := h
theorem jbE {p : Prop} (h : p := by
 have h2 : keyE s ≠ 0 := by simpa using h
 obtain ⟨e1, e2⟩ := zbZ (show macE s n = keyE s by unfold macE; rw [if_neg h2]) h2 32 (macD s b)
 rw [e1, e2]
 refine jcq ?_
 exact yE) : p := h
theorem jbF {p : Prop} (h : p := by
 refine jdy ?_
 show AV.p (.v (.int .i64 ((w : Int) - 1))) = AV.p (.v (.int .i64 ((w : Int) - 1 - ((0 : Nat) : Int))))
 congr 3; omega) : p := h
theorem jbG {p : Prop} (h : p := by
 refine fnI fun w0 A => ?_
 refine G [8] ?_
 refine zaa (a_neg (by first | exact IntWalk.i64_in _ (by omega) | rfl)) rfl rfl ?_
 refine cV (rotL_s x n) ?_
 refine jcJ ?_
 exact yE) : p := h
theorem jbH {p : Prop} (h : p := by
 exact ⟨rfl, zah id _ _ (by (repeat (first | exact trivial | (refine ⟨⟨(by first | rfl | (simp; done) | (simp; omega)), rfl⟩, ?_⟩)))) ⟨⟨rfl, rfl⟩, trivial⟩ rfl⟩) : p := h
theorem jbI {p : Prop} (h : p := by
 have h2 : 2000 < s.size := by simp at h; omega
 refine jcs ?_
 obtain ⟨e1, e2⟩ := zbw (s := s) (e := 1) (by unfold hexE; rw [if_pos h2]) (by omega)
 rw [e1, e2]
 exact yE) : p := h
theorem jbJ {p : Prop} (h : p := by
 refine zap (zaz ?_)
 exact zah id _ _ (by (repeat (first | exact trivial | (refine ⟨⟨(by first | rfl | (simp; done) | (simp; omega)), rfl⟩, ?_⟩)))) trivial rfl) : p := h
theorem jbK {p : Prop} (h : p := by
 refine zaa (zbu (c := true) (decide_eq_true hkk)) rfl rfl ?_
 refine jcM ?_
 exact yE) : p := h
theorem jbL {p : Prop} (h : p := by
 by_cases eq : q = i
 ·rw [eq]; exact hst
 ·exact hf q (by omega)) : p := h
theorem jbM {p : Prop} (h : p := by
 subst hE
 refine G [5, 4, 2, 3, 4, 4, 2, 4, 19, 9, 0] ?_
 exact yE) : p := h
theorem jbN {p : Prop} (h : p := by
 have hg := zhb h0
 have h1 := (zgx hg (fun p hp => (ok.c.ps p hp).1) d.c.ps.length (Nat.le_refl _)).l
 have h2 := zd9 hg (Nat.le_refl d.c.ps.length)
 have h6 := hg.n6
 omega) : p := h
theorem jbO {p : Prop} (h : p := by
 refine fnI fun w0 A => ?_
 refine G [12, 9, 0] ?_
 refine cX (fun h => ?_) fun h => ?_
 ·simp [hz] at h
 refine G [4] ?_
 refine cV hB ?_
 refine jcs ?_
 exact yE) : p := h
theorem jbP {p : Prop} (h : p := by
 apply List.ext_getElem?
 intro j
 rw [List.getElem?_set]
 by_cases e : i = j
 ·subst e
  obtain ⟨h1, h2⟩ := List.getElem?_eq_some_iff.1 h
  simp [h1, h2]
 ·simp [e]) : p := h
theorem jbQ {p : Prop} (h : p := by
 rw [zef (f := ST.pv) (k := 41) (fun _ => rfl) hxL (q := 35) (ys := HS0.pv) (show 35 + 5 ≤ 41 by decide) (x' := { tkL d'.now s with h := HS0 }) rfl, List.set_set]) : p := h
theorem jbR {p : Prop} (h : p := by
 intro y hy
 simp only [List.mem_append] at hy
 rcases hy with ((h0 | h1) | h2) | h3
 ·simp at h0; omega
 ·exact zhp _ _ _ h1
 ·exact zhp _ _ _ h2
 ·exact hB _ h3) : p := h
theorem jbS {p : Prop} (h : p := by
 rw [if_pos h5] at hE
 subst hE
 refine jct ?_
 exact yE) : p := h
theorem jbT {p : Prop} (h : p := by
 exact ⟨rfl, zah id _ _ (by (repeat (first | exact trivial | (refine ⟨⟨(by first | rfl | (simp; done) | (simp; omega)), rfl⟩, ?_⟩)))) trivial rfl⟩) : p := h
theorem jbU {p : Prop} (h : p := by
 by_cases h0 : sh = ⟨#[]⟩
 ·rw [h0]; exact Nat.zero_le _
 ·by_cases hk : keyE sh = 0
  ·exact Nat.le_of_eq (zb6 hk).1
  ·exact absurd ⟨h0, hk⟩ hbad) : p := h
theorem jbV {p : Prop} (h : p := by
 simp only [Instr.mapUpdate, Sem.run_bind, run_underlying hu, Result.andThen_ok, MapKept.run_getObj_map g2, hck, hfk]
 exact MapKept.run_setObj_map _ g2) : p := h
theorem jbW {p : Prop} (h : p := by
 refine fT (fun o => o) (.tmp _ _ _ _ rfl .nil) ?_ ?_
 ·exact rfl
 ·exact trivial) : p := h
theorem jbX {p : Prop} (h : p := by
 match i, h with
 | 0, _ => rfl
 | 1, _ => rfl
 | 2, _ => rfl) : p := h
theorem jbY {p : Prop} (h : p := by
 obtain ⟨e1, e2⟩ := zbw (s := s) (e := 3) (by unfold hexE; rw [if_neg (by omega), if_pos hev, if_neg hb]) (by omega)
 rw [e1, e2]
 exact yE) : p := h
theorem jbZ {p : Prop} (h : p := by
 exact ⟨⟨zbl rfl, zcy _ _⟩, ⟨zbl rfl, zcy _ _⟩, ⟨zbl rfl, zcy _ _⟩, ⟨zbl rfl, zcy _ _⟩, ⟨zbl rfl, zcy _ _⟩, trivial⟩) : p := h
theorem jb0 {p : Prop} (h : p := by
 clear h
 subst hge
 rw [zcN hf] at hE
 subst hE
 refine jcs ?_
 exact yE) : p := h
theorem jb1 {p : Prop} (h : p := by
 refine G [6, 3, 16, 3, 38] ?_
 subst hE
 refine G [3, 3, 9, 9, 0] ?_
 exact yE) : p := h
theorem jb2 {p : Prop} (h : p := by
 show AV.p (.v (.int .i64 ((w : Int) - 1 - (k : Int) - 1))) = AV.p (.v (.int .i64 ((w : Int) - 1 - ((k + 1 : Nat) : Int))))
 congr 3; omega) : p := h
theorem jb3 {p : Prop} (h : p := by
 subst hE
 refine G [5, 4, 2, 3, 4, 3, 9] ?_
 exact jam) : p := h
theorem jb4 {p : Prop} (h : p := by
 subst hE
 refine G [9, 3, 7, 4, 19, 9, 0] ?_
 exact yE) : p := h
theorem jb5 {p : Prop} (h : p := by
 rw [hlo2, hhi2]
 rcases hlo with ⟨h1, h2⟩ | ⟨h1, h2⟩ <;> rw [h1, h2]
 ·exact ⟨az, aE, bz, bE⟩
 ·exact ⟨bz, bE, az, aE⟩) : p := h
theorem jb6 {p : Prop} (h : p := by
 have h2 : ¬ s.size = 64 := by simp at h; omega
 refine jct ?_
 rw [show keyE s = 1 by unfold keyE; rw [if_neg h2]]
 exact yE) : p := h
theorem jb7 {p : Prop} (h : p := by
 refine G [12, 9, 0] ?_
 refine cX (fun h => ?_) fun h => ?_
 ·refine jcM ?_
  exact yE
 ·exact absurd (by simpa using h) h2) : p := h
theorem jb8 {p : Prop} (h : p := by
 exact ⟨⟨zbl rfl, zcy _ _⟩, ⟨zbl rfl, zcy _ _⟩, trivial⟩) : p := h
theorem jb9 {p : Prop} (h : p := by
 have h1 : k1 ≠ 0 := by simpa using h
 exact jaP) : p := h
theorem jca {p : Prop} (h : p := by
 have h7 : e ≠ 0 := by simpa using h
 exact jaJ) : p := h
theorem jcb {p : Prop} (h : p := by
 subst hE
 refine G [16, 4, 19, 9, 0] ?_
 exact yE) : p := h
theorem jcc {p : Prop} (h : p := by
 have hne : kE x ≠ 0 := by simpa using h
 rw [hks, hhit hne, if_pos hne] at hE
 subst hE
 refine jcs ?_
 exact yE) : p := h
theorem jcd {p : Prop} (h : p := by
 have h2 : 60 < rest.length := by simp at h; omega
 rw [if_pos h2] at hE
 subst hE
 refine jct ?_
 exact yE) : p := h
theorem jce {p : Prop} (h : p := by
 rw [List.take_succ_eq_append_getElem q1, q2]) : p := h
theorem jcf {p : Prop} (h : p := by
 have h6 : 8 < nets.length := by simp at h; omega
 rw [if_pos h6] at hE
 subst hE
 refine jct ?_
 exact yE) : p := h
theorem jcg {p : Prop} (h : p := by
 refine jdp ?_
 exact jbk) : p := h
theorem jch {p : Prop} (h : p := by
 refine G [6, 3, 16, 3, 38] ?_
 subst hE
 refine G [3, 4, 7] ?_
 refine cV hH ?_
 refine jcJ ?_
 exact yE) : p := h
theorem jci {p : Prop} (h : p := by
 exact ⟨l, k3, by rw [k1]; exact hb.1, by rw [k1, k2]⟩) : p := h
theorem jcj {p : Prop} (h : p := by
 match j, h with
 | 0, _ => rfl
 | 1, _ => rfl
 | 2, _ => rfl) : p := h
theorem jck {p : Prop} (h : p := by
 have : reachBytes ≤ 140737488351232 := Nat.le_of_ble_eq_true rfl
 constructor <;> simp only <;> omega) : p := h
theorem jcl {p : Prop} (h : p := by
 refine fT (fun o => o) (.tmp _ _ _ _ rfl (.tmp _ _ _ _ rfl .nil)) ?_ ?_
 ·exact rfl
 ·exact trivial) : p := h
theorem jcm {p q : Prop} (k : q) (h : Bx q → p := by intro xj0; refine zab (xs := [.p (.v (.string ⟨#[]⟩)), .p (.v (.string ⟨#[116]⟩)), .p (.v (.string ⟨#[110]⟩)), .p (.v (.string ⟨#[]⟩)), .p (.v (.string ⟨#[116]⟩)), .p (.v (.string ⟨#[]⟩)), .p (.v (.string ⟨#[116]⟩)), .p (.v (.string ⟨#[116]⟩)), .p (.v (.string ⟨#[110]⟩)), .p (.v (.string ⟨#[]⟩)), .p (.v (.string ⟨#[99]⟩))]) (zae (es := [.p (.v (.string ⟨#[]⟩)), .p (.v (.string ⟨#[116]⟩)), .p (.v (.string ⟨#[110]⟩)), .p (.v (.string ⟨#[]⟩)), .p (.v (.string ⟨#[116]⟩)), .p (.v (.string ⟨#[]⟩)), .p (.v (.string ⟨#[116]⟩)), .p (.v (.string ⟨#[116]⟩)), .p (.v (.string ⟨#[110]⟩)), .p (.v (.string ⟨#[]⟩)), .p (.v (.string ⟨#[99]⟩))]) (cs := [.v (.string ⟨#[]⟩), .v (.string ⟨#[116]⟩), .v (.string ⟨#[110]⟩), .v (.string ⟨#[]⟩), .v (.string ⟨#[116]⟩), .v (.string ⟨#[]⟩), .v (.string ⟨#[116]⟩), .v (.string ⟨#[116]⟩), .v (.string ⟨#[110]⟩), .v (.string ⟨#[]⟩), .v (.string ⟨#[99]⟩)]) 15 U170 sz9 zc9 (Nat.le_of_ble_eq_true rfl) (Nat.le_of_ble_eq_true rfl) rfl (by kernel_rfl) (by kernel_rfl) (by kernel_rfl) (Nat.le_of_ble_eq_true rfl)) (by first | rfl | kernel_rfl) rfl ⟨rfl, trivial⟩ ?_; exact xj0.o) : p := h ⟨k⟩
theorem jcn {p q0 q1 q2 : Prop} (k0 : q0) (k1 : q1) (k2 : q2) (h : Bx q0 → Bx q1 → Bx q2 → p := by intro xj0 xj1 xj2; refine zaa (zaG U86 rfl (by first | rfl | assumption | ((try simp only [List.getElem?_drop, List.getElem?_take, Int.toNat_natCast, Nat.mul_one, Nat.add_zero, Nat.zero_add]); first | assumption | rfl))) rfl rfl ?_; exact xj0.o; exact xj1.o; exact xj2.o) : p := h ⟨k0⟩ ⟨k1⟩ ⟨k2⟩
theorem jco {p q : Prop} (k : q) (h : Bx q → p := by intro xj0; refine mP rfl rfl ?_; exact xj0.o) : p := h ⟨k⟩
theorem jcp {p q : Prop} (k : q) (h : Bx q → p := by intro xj0; refine zaa (zaj U206 sz86 (by omega) (by omega) (by first | (simp only [Int.toNat_natCast, Nat.mul_one, Nat.zero_add]; rfl) | rfl)) rfl rfl ?_; exact xj0.o) : p := h ⟨k⟩
theorem jcq {p q : Prop} (k : q) (h : Bx q → p := by intro xj0; refine G [7, 9, 0] ?_; exact xj0.o) : p := h ⟨k⟩
theorem jcr {p q : Prop} (k : q) (h : Bx q → p := by intro xj0; refine zab (zak U32 rfl sz32 (by first | exact Nat.le_of_ble_eq_true rfl | omega | (simp only [AV.cells, List.length_map]; omega)) (show _ = d.cells from rfl)) rfl rfl ⟨rfl, trivial⟩ ?_; exact xj0.o) : p := h ⟨k⟩
theorem jcs {p q : Prop} (k : q) (h : Bx q → p := by intro xj0; refine G [6, 9, 0] ?_; exact xj0.o) : p := h ⟨k⟩
theorem jct {p q : Prop} (k : q) (h : Bx q → p := by intro xj0; refine G [5, 9, 0] ?_; exact xj0.o) : p := h ⟨k⟩
theorem jcu {p q : Prop} (k : q) (h : Bx q → p := by intro xj0; refine zaa (za3 (by first | exact IntWalk.i64_in _ (by omega) | rfl)) rfl rfl ?_; exact xj0.o) : p := h ⟨k⟩
theorem jcv {p q : Prop} (k : q) (h : Bx q → p := by intro xj0; refine zaa (zaC U88 rfl rfl (by kernel_rfl) (by kernel_rfl) (by kernel_rfl) (c := false) (by rw [zbj]; simp [hq])) rfl rfl ?_; exact xj0.o) : p := h ⟨k⟩
theorem jcw {p q : Prop} (k : q) (h : Bx q → p := by intro xj0; refine zaa (zav (r := .row _)) rfl rfl ?_; exact xj0.o) : p := h ⟨k⟩
theorem jcx {p q : Prop} (k : q) (h : Bx q → p := by intro xj0; refine zaa (zaU (by simp) rfl) rfl rfl ?_; exact xj0.o) : p := h ⟨k⟩
theorem jcy {p q : Prop} (k : q) (h : Bx q → p := by intro xj0; refine zaa (zfw (by omega) (by first | exact IntWalk.i64_quo _ _ (by omega) | rfl)) rfl rfl ?_; exact xj0.o) : p := h ⟨k⟩
theorem jcz {p q : Prop} (k : q) (h : Bx q → p := by intro xj0; refine l1 U86 rfl rfl rfl ⟨rfl, trivial⟩ ?_; exact xj0.o) : p := h ⟨k⟩
theorem jcA {p q : Prop} (k : q) (h : Bx q → p := by intro xj0; refine aP rfl rfl ?_; exact xj0.o) : p := h ⟨k⟩
theorem jcB {p q : Prop} (k : q) (h : Bx q → p := by intro xj0; refine zab (xs := [.p (.v (.int .u8 ((n / 256 ^ 0 % 256 : Nat) : Int)))]) (zae (es := [.p (.v (.int .u8 ((n / 256 ^ 0 % 256 : Nat) : Int)))]) (cs := (bs [((n / 256 ^ 0 % 256 : Nat) : Int)])) 100 U62 sz5 zc5 (Nat.le_of_ble_eq_true rfl) (Nat.le_of_ble_eq_true rfl) rfl (by kernel_rfl) (by kernel_rfl) (by kernel_rfl) (Nat.le_of_ble_eq_true rfl)) (by first | rfl | kernel_rfl) rfl ⟨rfl, trivial⟩ ?_; exact xj0.o) : p := h ⟨k⟩
theorem jcC {p q : Prop} (k : q) (h : Bx q → p := by intro xj0; refine zab (xs := [.p (.v (.int .u8 ((n / 256 ^ 1 % 256 : Nat) : Int)))]) (zae (es := [.p (.v (.int .u8 ((n / 256 ^ 1 % 256 : Nat) : Int)))]) (cs := (bs [((n / 256 ^ 1 % 256 : Nat) : Int)])) 102 U62 sz5 zc5 (Nat.le_of_ble_eq_true rfl) (Nat.le_of_ble_eq_true rfl) rfl (by kernel_rfl) (by kernel_rfl) (by kernel_rfl) (Nat.le_of_ble_eq_true rfl)) (by first | rfl | kernel_rfl) rfl ⟨rfl, trivial⟩ ?_; exact xj0.o) : p := h ⟨k⟩
theorem jcD {p q : Prop} (k : q) (h : Bx q → p := by intro xj0; refine zab (xs := [.p (.v (.int .u8 ((n / 256 ^ 2 % 256 : Nat) : Int)))]) (zae (es := [.p (.v (.int .u8 ((n / 256 ^ 2 % 256 : Nat) : Int)))]) (cs := (bs [((n / 256 ^ 2 % 256 : Nat) : Int)])) 104 U62 sz5 zc5 (Nat.le_of_ble_eq_true rfl) (Nat.le_of_ble_eq_true rfl) rfl (by kernel_rfl) (by kernel_rfl) (by kernel_rfl) (Nat.le_of_ble_eq_true rfl)) (by first | rfl | kernel_rfl) rfl ⟨rfl, trivial⟩ ?_; exact xj0.o) : p := h ⟨k⟩
theorem jcE {p q : Prop} (k : q) (h : Bx q → p := by intro xj0; refine zab (xs := [.p (.v (.int .u8 ((n / 256 ^ 3 % 256 : Nat) : Int)))]) (zae (es := [.p (.v (.int .u8 ((n / 256 ^ 3 % 256 : Nat) : Int)))]) (cs := (bs [((n / 256 ^ 3 % 256 : Nat) : Int)])) 106 U62 sz5 zc5 (Nat.le_of_ble_eq_true rfl) (Nat.le_of_ble_eq_true rfl) rfl (by kernel_rfl) (by kernel_rfl) (by kernel_rfl) (Nat.le_of_ble_eq_true rfl)) (by first | rfl | kernel_rfl) rfl ⟨rfl, trivial⟩ ?_; exact xj0.o) : p := h ⟨k⟩
theorem jcF {p q : Prop} (k : q) (h : Bx q → p := by intro xj0; refine zaa (zcK U88 rfl rfl (by kernel_rfl) (by kernel_rfl) (by kernel_rfl)) rfl rfl ?_; exact xj0.o) : p := h ⟨k⟩
theorem jcG {p q0 q1 : Prop} (k0 : q0) (k1 : q1) (h : Bx q0 → Bx q1 → p := by intro xj0 xj1; refine ⟨m - 1, by omega, _, zah id _ _ ?_ ?_ rfl, k + 1, by omega, rfl⟩; exact xj0.o; exact xj1.o) : p := h ⟨k0⟩ ⟨k1⟩
theorem jcH {p q : Prop} (k : q) (h : Bx q → p := by intro xj0; refine zab (zak U56 rfl sz56 (by first | exact Nat.le_of_ble_eq_true rfl | omega | (simp only [AV.cells, List.length_map]; omega)) (show _ = x.cells from rfl)) rfl rfl ⟨rfl, trivial⟩ ?_; exact xj0.o) : p := h ⟨k⟩
theorem jcI {p q : Prop} (k : q) (h : Bx q → p := by intro xj0; refine zab (zak U56 rfl sz56 (by first | exact Nat.le_of_ble_eq_true rfl | omega | (simp only [AV.cells, List.length_map]; omega)) (show _ = s.cells from rfl)) rfl rfl ⟨rfl, trivial⟩ ?_; exact xj0.o) : p := h ⟨k⟩
theorem jcJ {p q : Prop} (k : q) (h : Bx q → p := by intro xj0; refine G [3, 9, 0] ?_; exact xj0.o) : p := h ⟨k⟩
theorem jcK {p q : Prop} (k : q) (h : Bx q → p := by intro xj0; refine zaa (zce (by omega) rfl) rfl rfl ?_; exact xj0.o) : p := h ⟨k⟩
theorem jcL {p q : Prop} (k : q) (h : Bx q → p := by intro xj0; refine zaa (zaw (r := .row _)) rfl rfl ?_; exact xj0.o) : p := h ⟨k⟩
theorem jcM {p q : Prop} (k : q) (h : Bx q → p := by intro xj0; refine G [8, 9, 0] ?_; exact xj0.o) : p := h ⟨k⟩
theorem jcN {p q : Prop} (k : q) (h : Bx q → p := by intro xj0; refine zab (zaf (Y := .agg _) sz228 rfl (by first | exact Nat.eq_of_beq_eq_true rfl | (simp only [AV.cells, List.length_map]; first | assumption | omega)) (Nat.eq_of_beq_eq_true rfl)) rfl rfl ⟨rfl, trivial⟩ ?_; exact xj0.o) : p := h ⟨k⟩
theorem jcO {p q : Prop} (k : q) (h : Bx q → p := by intro xj0; refine zab (zaf (Y := .agg _) sz206 rfl (by first | exact Nat.eq_of_beq_eq_true rfl | (simp only [AV.cells, List.length_map]; first | assumption | omega)) (Nat.eq_of_beq_eq_true rfl)) rfl rfl ⟨rfl, trivial⟩ ?_; exact xj0.o) : p := h ⟨k⟩
theorem jcP {p q : Prop} (k : q) (h : Bx q → p := by intro xj0; refine zab (xs := [.p (.v (.int .i64 n))]) (zae (es := [.p (.v (.int .i64 n))]) (cs := [.v (.int .i64 n)]) 51 U115 sz3 zc3 (Nat.le_of_ble_eq_true rfl) (Nat.le_of_ble_eq_true rfl) rfl (by kernel_rfl) (by kernel_rfl) (by kernel_rfl) (Nat.le_of_ble_eq_true rfl)) (by first | rfl | kernel_rfl) rfl ⟨rfl, trivial⟩ ?_; exact xj0.o) : p := h ⟨k⟩
theorem jcQ {p q : Prop} (k : q) (h : Bx q → p := by intro xj0; refine zab (zaf (Y := .agg p.cells) sz84 rfl rfl (Nat.eq_of_beq_eq_true rfl)) rfl rfl ⟨rfl, trivial⟩ ?_; exact xj0.o) : p := h ⟨k⟩
theorem jcR {p q : Prop} (k : q) (h : Bx q → p := by intro xj0; refine zab (xs := [.p (.v (.int .u8 c))]) (zae (es := [.p (.v (.int .u8 c))]) (cs := [.v (.int .u8 c)]) 13 U62 sz5 zc5 (Nat.le_of_ble_eq_true rfl) (Nat.le_of_ble_eq_true rfl) rfl (by kernel_rfl) (by kernel_rfl) (by kernel_rfl) (Nat.le_of_ble_eq_true rfl)) (by first | rfl | kernel_rfl) rfl ⟨rfl, trivial⟩ ?_; exact xj0.o) : p := h ⟨k⟩
theorem jcS {p q0 q1 : Prop} (k0 : q0) (k1 : q1) (h : Bx q0 → Bx q1 → p := by intro xj0 xj1; refine ⟨_, zah id _ _ ?_ ?_ rfl, 0, by omega, rfl⟩; exact xj0.o; exact xj1.o) : p := h ⟨k0⟩ ⟨k1⟩
theorem jcT {p q : Prop} (k : q) (h : Bx q → p := by intro xj0; refine zab (zak U53 rfl sz53 (by first | exact Nat.le_of_ble_eq_true rfl | omega | (simp only [AV.cells, List.length_map]; omega)) (show _ = [.p (.v (.bool lv)), .p (.v (.int .i64 mine)), .p (.v (.string nc)), .p (.v (.int .i64 hb)), .p (.v (.int .i64 hs))] from rfl)) rfl rfl ⟨rfl, trivial⟩ ?_; exact xj0.o) : p := h ⟨k⟩
theorem jcU {p q : Prop} (k : q) (h : Bx q → p := by intro xj0; refine zab (zak underlying97 rfl sz97 (by first | exact Nat.le_of_ble_eq_true rfl | omega | (simp only [AV.cells, List.length_map]; omega)) (show _ = m.cells from rfl)) rfl rfl ⟨rfl, trivial⟩ ?_; exact xj0.o) : p := h ⟨k⟩
theorem jcV {p q : Prop} (k : q) (h : Bx q → p := by intro xj0; refine zab (zak U32 rfl sz32 (by first | exact Nat.le_of_ble_eq_true rfl | omega | (simp only [AV.cells, List.length_map]; omega)) (show _ = moD d (.row 1) from rfl)) rfl rfl ⟨rfl, trivial⟩ ?_; exact xj0.o) : p := h ⟨k⟩
theorem jcW {p q : Prop} (k : q) (h : Bx q → p := by intro xj0; refine zap (zad (zao (zad ?_))); exact xj0.o) : p := h ⟨k⟩
theorem jcX {p q : Prop} (k : q) (h : Bx q → p := by intro xj0; refine zaa (za3 (by first | exact IntWalk.u32_in _ (by omega) | rfl)) rfl rfl ?_; exact xj0.o) : p := h ⟨k⟩
theorem jcY {p q : Prop} (k : q) (h : Bx q → p := by intro xj0; refine zaa zcI rfl rfl ?_; exact xj0.o) : p := h ⟨k⟩
theorem jcZ {p q : Prop} (k : q) (h : Bx q → p := by intro xj0; refine zab (zak U56 rfl sz56 (by first | exact Nat.le_of_ble_eq_true rfl | omega | (simp only [AV.cells, List.length_map]; omega)) (show _ = stC key ep a b c hh q.length (q.flatMap PQ.pv) from rfl)) rfl rfl ⟨rfl, trivial⟩ ?_; exact xj0.o) : p := h ⟨k⟩
theorem jc0 {p q : Prop} (k : q) (h : Bx q → p := by intro xj0; refine zab (zbB (Y := .p _) sz5 rfl rfl (by first | rfl | omega) (by first | omega | (simp; done) | (simp; omega)) g4) rfl rfl ⟨rfl, trivial⟩ ?_; exact xj0.o) : p := h ⟨k⟩
theorem jc1 {p q : Prop} (k : q) (h : Bx q → p := by intro xj0; refine zab (zaf (Y := .agg (stC key ep a b c hh q.length (q.flatMap PQ.pv))) sz56 rfl rfl (Nat.eq_of_beq_eq_true rfl)) rfl rfl ⟨rfl, trivial⟩ ?_; exact xj0.o) : p := h ⟨k⟩
theorem jc2 {p q : Prop} (k : q) (h : Bx q → p := by intro xj0; refine zab (zaf (Y := .agg [.p (.v (.bool lv)), .p (.v (.int .i64 mine)), .p (.v (.string nc)), .p (.v (.int .i64 hb)), .p (.v (.int .i64 hs))]) sz53 rfl rfl (Nat.eq_of_beq_eq_true rfl)) rfl rfl ⟨rfl, trivial⟩ ?_; exact xj0.o) : p := h ⟨k⟩
theorem jc3 {p q : Prop} (k : q) (h : Bx q → p := by intro xj0; refine zaa (zcE underlying158 sz9 U9 rfl (by omega) (by omega) (by first | rfl | assumption | ((try simp only [Int.toNat_natCast, Nat.mul_one, Nat.add_zero, Nat.zero_add]); first | assumption | rfl))) rfl rfl ?_; exact xj0.o) : p := h ⟨k⟩
theorem jc4 {p q : Prop} (k : q) (h : Bx q → p := by intro xj0; refine zab (zal 101 U62 eo5 (zax) (by simp only [maxLen]; omega) (by omega) (show _ = a + 1 by omega) (show _ = bs (ys ++ leN 1 n) by rw [zbp, L0, ← List.append_assoc])) rfl rfl ⟨rfl, rfl, rfl, trivial⟩ ?_; exact xj0.o) : p := h ⟨k⟩
theorem jc5 {p q : Prop} (k : q) (h : Bx q → p := by intro xj0; refine zab (zal 103 U62 eo5 (zax) (by simp only [maxLen]; omega) (by omega) (show _ = a + 2 by omega) (show _ = bs (ys ++ leN 2 n) by rw [zbp, L1, ← List.append_assoc])) rfl rfl ⟨rfl, rfl, rfl, trivial⟩ ?_; exact xj0.o) : p := h ⟨k⟩
theorem jc6 {p q : Prop} (k : q) (h : Bx q → p := by intro xj0; refine zab (zal 105 U62 eo5 (zax) (by simp only [maxLen]; omega) (by omega) (show _ = a + 3 by omega) (show _ = bs (ys ++ leN 3 n) by rw [zbp, L2, ← List.append_assoc])) rfl rfl ⟨rfl, rfl, rfl, trivial⟩ ?_; exact xj0.o) : p := h ⟨k⟩
theorem jc7 {p q : Prop} (k : q) (h : Bx q → p := by intro xj0; refine zab (zal 107 U62 eo5 (zax) (by simp only [maxLen]; omega) (by omega) (show _ = a + 4 by omega) (show _ = bs (ys ++ leN 4 n) by rw [zbp, L3, ← List.append_assoc])) rfl rfl ⟨rfl, rfl, rfl, trivial⟩ ?_; exact xj0.o) : p := h ⟨k⟩
theorem jc8 {p q : Prop} (k : q) (h : Bx q → p := by intro xj0; show Fn prog _ [.agg [.p (.v (.string key)), .p (.v (.int .i64 port)), .p (.sl ps.length 5 (ps.flatMap PE.pv))]] _ [(0, .row 90 4 (tOf (zaD ps ps.length)).list.length (nds (tOf (zaD ps ps.length)).list))]; exact xj0.o) : p := h ⟨k⟩
theorem jc9 {p q : Prop} (k : q) (h : Bx q → p := by intro xj0; refine zab (zeC (L := none) (H := (some (_, _))) U62 sz5 rfl ⟨by omega, rfl⟩ (by omega) (by omega) rfl rfl) rfl rfl ⟨rfl, trivial⟩ ?_; exact xj0.o) : p := h ⟨k⟩
theorem jda {p q : Prop} (k : q) (h : Bx q → p := by intro xj0; refine zab (zak underlying30 rfl sz30 (by first | exact Nat.le_of_ble_eq_true rfl | omega | (simp only [AV.cells, List.length_map]; omega)) (show _ = d.sg.cells from rfl)) rfl rfl ⟨rfl, trivial⟩ ?_; exact xj0.o) : p := h ⟨k⟩
theorem jdb {p q : Prop} (k : q) (h : Bx q → p := by intro xj0; refine zab (zan U62 sz5 (by omega) (by omega) (show _ = k / 2 by omega)) rfl rfl ⟨rfl, trivial⟩ ?_; exact xj0.o) : p := h ⟨k⟩
theorem jdc {p q : Prop} (k : q) (h : Bx q → p := by intro xj0; refine zab (zak underlying24 rfl sz24 (by first | exact Nat.le_of_ble_eq_true rfl | omega | (simp only [AV.cells, List.length_map]; omega)) (show _ = d.c.cells from rfl)) rfl rfl ⟨rfl, trivial⟩ ?_; exact xj0.o) : p := h ⟨k⟩
theorem jdd {p q : Prop} (k : q) (h : Bx q → p := by intro xj0; refine zaa (a_rem (by omega) (by first | exact IntWalk.rem_in _ _ (by omega) | rfl)) rfl rfl ?_; exact xj0.o) : p := h ⟨k⟩
theorem jde {p q : Prop} (k : q) (h : Bx q → p := by intro xj0; refine zab (zak U84 rfl sz84 (by first | exact Nat.le_of_ble_eq_true rfl | omega | (simp only [AV.cells, List.length_map]; omega)) (show _ = x.cells from rfl)) rfl rfl ⟨rfl, trivial⟩ ?_; exact xj0.o) : p := h ⟨k⟩
theorem jdf {p q : Prop} (k : q) (h : Bx q → p := by intro xj0; refine zab (zak U49 rfl sz49 (by first | exact Nat.le_of_ble_eq_true rfl | omega | (simp only [AV.cells, List.length_map]; omega)) (show _ = a.cells from rfl)) rfl rfl ⟨rfl, trivial⟩ ?_; exact xj0.o) : p := h ⟨k⟩
theorem jdg {p q : Prop} (k : q) (h : Bx q → p := by intro xj0; refine zab (zak U49 rfl sz49 (by first | exact Nat.le_of_ble_eq_true rfl | omega | (simp only [AV.cells, List.length_map]; omega)) (show _ = b.cells from rfl)) rfl rfl ⟨rfl, trivial⟩ ?_; exact xj0.o) : p := h ⟨k⟩
theorem jdh {p q : Prop} (k : q) (h : Bx q → p := by intro xj0; refine zab (zak U49 rfl sz49 (by first | exact Nat.le_of_ble_eq_true rfl | omega | (simp only [AV.cells, List.length_map]; omega)) (show _ = c.cells from rfl)) rfl rfl ⟨rfl, trivial⟩ ?_; exact xj0.o) : p := h ⟨k⟩
theorem jdi {p q : Prop} (k : q) (h : Bx q → p := by intro xj0; refine zab (zak U49 rfl sz49 (by first | exact Nat.le_of_ble_eq_true rfl | omega | (simp only [AV.cells, List.length_map]; omega)) (show _ = x.cells from rfl)) rfl rfl ⟨rfl, trivial⟩ ?_; exact xj0.o) : p := h ⟨k⟩
theorem jdj {p q : Prop} (k : q) (h : Bx q → p := by intro xj0; refine zab (zak U108 rfl zd4 (by first | exact Nat.le_of_ble_eq_true rfl | omega | (simp only [AV.cells, List.length_map]; omega)) (show _ = x.cells from rfl)) rfl rfl ⟨rfl, trivial⟩ ?_; exact xj0.o) : p := h ⟨k⟩
theorem jdk {p q : Prop} (k : q) (h : Bx q → p := by intro xj0; refine zab (zak U108 rfl zd4 (by first | exact Nat.le_of_ble_eq_true rfl | omega | (simp only [AV.cells, List.length_map]; omega)) (show _ = y.cells from rfl)) rfl rfl ⟨rfl, trivial⟩ ?_; exact xj0.o) : p := h ⟨k⟩
theorem jdl {p q : Prop} (k : q) (h : Bx q → p := by intro xj0; refine zab (zak U56 rfl sz56 (by first | exact Nat.le_of_ble_eq_true rfl | omega | (simp only [AV.cells, List.length_map]; omega)) (show _ = y.cells from rfl)) rfl rfl ⟨rfl, trivial⟩ ?_; exact xj0.o) : p := h ⟨k⟩
theorem jdm {p q : Prop} (k : q) (h : Bx q → p := by intro xj0; refine zab (zak U84 rfl sz84 (by first | exact Nat.le_of_ble_eq_true rfl | omega | (simp only [AV.cells, List.length_map]; omega)) (show _ = p.cells from rfl)) rfl rfl ⟨rfl, trivial⟩ ?_; exact xj0.o) : p := h ⟨k⟩
theorem jdn {p q : Prop} (k : q) (h : Bx q → p := by intro xj0; refine zab (zak U64 rfl sz64 (by first | exact Nat.le_of_ble_eq_true rfl | omega | (simp only [AV.cells, List.length_map]; omega)) (show _ = x.cells from rfl)) rfl rfl ⟨rfl, trivial⟩ ?_; exact xj0.o) : p := h ⟨k⟩
theorem jdo {p q : Prop} (k : q) (h : Bx q → p := by intro xj0; refine zab (zak U64 rfl sz64 (by first | exact Nat.le_of_ble_eq_true rfl | omega | (simp only [AV.cells, List.length_map]; omega)) (show _ = y.cells from rfl)) rfl rfl ⟨rfl, trivial⟩ ?_; exact xj0.o) : p := h ⟨k⟩
theorem jdp {p q : Prop} (k : q) (h : Bx q → p := by intro xj0; refine zab (zak U84 rfl sz84 (by first | exact Nat.le_of_ble_eq_true rfl | omega | (simp only [AV.cells, List.length_map]; omega)) (show _ = y.cells from rfl)) rfl rfl ⟨rfl, trivial⟩ ?_; exact xj0.o) : p := h ⟨k⟩
theorem jdq {p q : Prop} (k : q) (h : Bx q → p := by intro xj0; refine zab (zfz U62 U5 U9 (zax) rfl rfl) rfl rfl ⟨rfl, trivial⟩ ?_; exact xj0.o) : p := h ⟨k⟩
theorem jdr {p q : Prop} (k : q) (h : Bx q → p := by intro xj0; refine zab (zf7 12 U9 U62 U5 (by first | omega | (simp only [maxLen]; omega)) s1 s2) rfl rfl ⟨rfl, trivial⟩ ?_; exact xj0.o) : p := h ⟨k⟩
theorem jds {p q : Prop} (k : q) (h : Bx q → p := by intro xj0; refine zaa (zcU (by rw [show (⟨#[107, 101, 121, 32]⟩ : ByteArray).size = 4 from rfl]; omega) hu) rfl rfl ?_; exact xj0.o) : p := h ⟨k⟩
theorem jdt {p q : Prop} (k : q) (h : Bx q → p := by intro xj0; refine zaa (ze5 (by first | exact IntWalk.i64_in _ (by omega) | rfl)) rfl rfl ?_; exact xj0.o) : p := h ⟨k⟩
theorem jdu {p q : Prop} (k : q) (h : Bx q → p := by intro xj0; refine zab (zan U213 sz86 (by omega) (by omega) (show _ = 16 + k - 15 by omega)) rfl rfl ⟨rfl, trivial⟩ ?_; exact xj0.o) : p := h ⟨k⟩
theorem jdv {p q : Prop} (k : q) (h : Bx q → p := by intro xj0; refine zab (zan U213 sz86 (by omega) (by omega) (show _ = 16 + k - 2 by omega)) rfl rfl ⟨rfl, trivial⟩ ?_; exact xj0.o) : p := h ⟨k⟩
theorem jdw {p q : Prop} (k : q) (h : Bx q → p := by intro xj0; refine zaa (zaM U22 sz84 (by omega) (by omega) (show _ = L.drop (j0 * 5) by congr 2; omega)) rfl rfl ?_; exact xj0.o) : p := h ⟨k⟩
theorem jdx {p q : Prop} (k : q) (h : Bx q → p := by intro xj0; refine zab (zan U62 sz5 (by omega) (by omega) (show _ = i by omega)) rfl rfl ⟨rfl, trivial⟩ ?_; exact xj0.o) : p := h ⟨k⟩
theorem jdy {p q : Prop} (k : q) (h : Bx q → p := by intro xj0; refine ⟨⟨rfl, rfl⟩, ⟨rfl, rfl⟩, ⟨?_, rfl⟩, trivial⟩; exact xj0.o) : p := h ⟨k⟩
end Go.Proofs.YtbjdjclkbjpebaaGreatDoor
