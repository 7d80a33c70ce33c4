/- The machine over data: pointers: nil checks, comparisons, the conversions that strings.Builder uses. The machine over data: what is compared with itself; operations whose guard is known. -/
import Derived.Test.YtgpleldhddpcgaaGreatDoorMa3
import Derived.Lib.Builder
import Derived.Lib.UnsafeStr
import Derived.Laws.Externs
import Derived.LoopN
import Derived.Test.YtgpleldhddpcgaaGreatDoorTab
namespace Go.Proofs.YtgpleldhddpcgaaGreatDoor
open Go.RowKit Go.Sort
set_option linter.unusedVariables false

/-! The machine over data: pointers: nil checks, comparisons, the conversions that strings.Builder uses. -/
section
variable {P : Program} {d : Option Tmp} {ty : TypeId} {pos : String} {af : Array Edge} {g : Option (Nat × Bool)}
theorem a_nilRef {x : Operand} {o off : Nat} : AOp P ⟨d, .nilCheck x, ty, pos, af, g⟩ [.ref o off] [] [] (.ref o off) :=
  aop_pure fun S m w ev hr => by
    have h := repL1 (u := ev x) hr
    have h' := h
    simp only [Rep] at h
    obtain ⟨b, v0, h1, h2, h3⟩ := h
    exact ⟨.pointer (some ⟨b, off, none⟩), by simp only [execOp, h3, Sem.run_pure], by rw [← h3]; exact h'⟩
theorem a_nilPtr {x : Operand} {cs : List PV} : AOp P ⟨d, .nilCheck x, ty, pos, af, g⟩ [.ptr cs] [] [] (.ptr cs) :=
  aop_pure fun S m w ev hr => by
    have h := repL1 (u := ev x) hr
    have h' := h
    simp only [Rep] at h
    obtain ⟨b, off, vs, h1, h2, h3, h4⟩ := h
    exact ⟨.pointer (some ⟨b, off, none⟩), by simp only [execOp, h1, Sem.run_pure], by rw [← h1]; exact h'⟩
theorem a_nilPt {x : Operand} {cs : List PV} : AOp P ⟨d, .nilCheck x, ty, pos, af, g⟩ [.p (.pt cs)] [] [] (.ptr cs) :=
  aop_pure fun S m w ev hr => by
    have h := repL1 (u := ev x) hr
    simp only [Rep, PRep] at h
    obtain ⟨b, off, vs, h1, h2, h3, h4⟩ := h
    exact ⟨.pointer (some ⟨b, off, none⟩), by simp only [execOp, h1, Sem.run_pure], by simp only [Rep]; exact ⟨b, off, vs, rfl, h2, h3, h4⟩⟩
theorem a_indexAddrAP {x y : Operand} {t e : TypeId} {k len : Nat} {kk : IntKind} {i : Int} {cs ds : List PV} (hu : P.underlying t = some (.array len e)) (hi : (P.info? e).map (·.size) = some k) (h0 : 0 ≤ i) (h1 : i < len) (hd : cs.drop (i.toNat * k) = ds) :
    AOp P ⟨d, .indexAddr t x y, ty, pos, af, g⟩ [.ptr cs, .p (.v (.int kk i))] [] [] (.ptr ds) :=
  aop_pure fun S m w ev hr => by
    obtain ⟨hx, hy⟩ := repL2 (u := ev x) (v := ev y) hr
    simp only [Rep] at hx
    obtain ⟨b, o, vs, h1', h2, h3, h4⟩ := hx
    refine ⟨.pointer (some ⟨b, o + i.toNat * k, none⟩), by simp [execOp, h1', rep_v hy, run_indexAtA hu hi h0 h1], ?_⟩
    simp only [Rep]
    refine ⟨b, o + i.toNat * k, vs.drop (i.toNat * k), rfl, h2, hd ▸ h3.drop (i.toNat * k), fun j v hj => ?_⟩
    rw [List.getElem?_drop] at hj
    rw [Nat.add_assoc]
    exact h4 _ v hj
theorem guard_ptr (op : BinOp) (t : TypeId) (x y : Operand) (a b : Option Addr) (w : World) : (eqGuard op t x y (.pointer a) (.pointer b)).run P w = .ok () w := by
  unfold eqGuard
  cases op <;> rfl
section
variable {xt yt : TypeId} {x y : Operand} {e : TypeId}
/-- a pointer compared with nil -/
theorem run_ptrNil (w : World) (hu : P.underlying xt = some (.pointer e)) (a : Addr) : (Op.equal xt (.pointer (some a)) (.pointer none)).run P w = .ok false w := by
  show (Op.equalIn (9999 + 1) xt (.pointer (some a)) (.pointer none)).run P w = .ok false w
  generalize 9999 = d
  simp [Op.equalIn, run_underlying hu]
theorem run_nilNil (w : World) (hu : P.underlying xt = some (.pointer e)) : (Op.equal xt (.pointer none) (.pointer none)).run P w = .ok true w := by
  show (Op.equalIn (9999 + 1) xt (.pointer none) (.pointer none)).run P w = .ok true w
  generalize 9999 = d
  simp [Op.equalIn, run_underlying hu]
theorem run_ptrSame (w : World) (hu : P.underlying xt = some (.pointer e)) {k : Nat} (hk : (P.info? e).map (·.size) = some (k + 1)) (a : Addr) : (Op.equal xt (.pointer (some a)) (.pointer (some a))).run P w = .ok true w := by
  have hs := run_sizeOf (P := P) hk w
  show (Op.equalIn (9999 + 1) xt (.pointer (some a)) (.pointer (some a))).run P w = .ok true w
  generalize 9999 = d
  simp [Op.equalIn, run_underlying hu, hs, sameAddr]
theorem a_peqNN (hu : P.underlying xt = some (.pointer e)) : AOp P ⟨d, .binOp .eql xt x y yt, ty, pos, af, g⟩ [.p (.v (.pointer none)), .p (.v (.pointer none))] [] [] (.p (.v (.bool true))) :=
  a_bin (guard_ptr _ _ _ _ _ _) (fun w => by simp only [binOp, Sem.run_bind, run_nilNil w hu, Result.andThen_ok, Sem.run_pure]) rfl
theorem a_pneNN (hu : P.underlying xt = some (.pointer e)) : AOp P ⟨d, .binOp .neq xt x y yt, ty, pos, af, g⟩ [.p (.v (.pointer none)), .p (.v (.pointer none))] [] [] (.p (.v (.bool false))) :=
  a_bin (guard_ptr _ _ _ _ _ _) (fun w => by simp only [binOp, Sem.run_bind, run_nilNil w hu, Result.andThen_ok, Sem.run_pure]; rfl) rfl
theorem a_peqRN {o off : Nat} (hu : P.underlying xt = some (.pointer e)) : AOp P ⟨d, .binOp .eql xt x y yt, ty, pos, af, g⟩ [.ref o off, .p (.v (.pointer none))] [] [] (.p (.v (.bool false))) :=
  aop_pure fun S m w ev hr => by
    obtain ⟨h1, h2⟩ := repL2 (u := ev x) (v := ev y) hr
    simp only [Rep] at h1
    obtain ⟨b, v0, _, _, h3⟩ := h1
    exact ⟨.bool false, by simp only [execOp, h3, rep_v h2, Sem.run_bind, guard_ptr, Result.andThen_ok, binOp, run_ptrNil w hu, Sem.run_pure], rep_mk rfl⟩
theorem a_pneRN {o off : Nat} (hu : P.underlying xt = some (.pointer e)) : AOp P ⟨d, .binOp .neq xt x y yt, ty, pos, af, g⟩ [.ref o off, .p (.v (.pointer none))] [] [] (.p (.v (.bool true))) :=
  aop_pure fun S m w ev hr => by
    obtain ⟨h1, h2⟩ := repL2 (u := ev x) (v := ev y) hr
    simp only [Rep] at h1
    obtain ⟨b, v0, _, _, h3⟩ := h1
    exact ⟨.bool true, by simp only [execOp, h3, rep_v h2, Sem.run_bind, guard_ptr, Result.andThen_ok, binOp, run_ptrNil w hu, Sem.run_pure]; rfl, rep_mk rfl⟩
theorem a_peqPN {cs : List PV} (hu : P.underlying xt = some (.pointer e)) : AOp P ⟨d, .binOp .eql xt x y yt, ty, pos, af, g⟩ [.p (.pt cs), .p (.v (.pointer none))] [] [] (.p (.v (.bool false))) :=
  aop_pure fun S m w ev hr => by
    obtain ⟨h1, h2⟩ := repL2 (u := ev x) (v := ev y) hr
    simp only [Rep, PRep] at h1
    obtain ⟨b, off, vs, h3, _⟩ := h1
    exact ⟨.bool false, by simp only [execOp, h3, rep_v h2, Sem.run_bind, guard_ptr, Result.andThen_ok, binOp, run_ptrNil w hu, Sem.run_pure], rep_mk rfl⟩
theorem a_pnePN {cs : List PV} (hu : P.underlying xt = some (.pointer e)) : AOp P ⟨d, .binOp .neq xt x y yt, ty, pos, af, g⟩ [.p (.pt cs), .p (.v (.pointer none))] [] [] (.p (.v (.bool true))) :=
  aop_pure fun S m w ev hr => by
    obtain ⟨h1, h2⟩ := repL2 (u := ev x) (v := ev y) hr
    simp only [Rep, PRep] at h1
    obtain ⟨b, off, vs, h3, _⟩ := h1
    exact ⟨.bool true, by simp only [execOp, h3, rep_v h2, Sem.run_bind, guard_ptr, Result.andThen_ok, binOp, run_ptrNil w hu, Sem.run_pure]; rfl, rep_mk rfl⟩
theorem a_peqRR {o off k : Nat} (hu : P.underlying xt = some (.pointer e)) (hk : (P.info? e).map (·.size) = some (k + 1)) : AOp P ⟨d, .binOp .eql xt x y yt, ty, pos, af, g⟩ [.ref o off, .ref o off] [] [] (.p (.v (.bool true))) :=
  aop_pure fun S m w ev hr => by
    obtain ⟨h1, h2⟩ := repL2 (u := ev x) (v := ev y) hr
    simp only [Rep] at h1 h2
    obtain ⟨b, v0, a1, a2, a3⟩ := h1
    obtain ⟨b', v0', c1, c2, c3⟩ := h2
    rw [a1] at c1; cases c1
    rw [a2] at c2; cases c2
    exact ⟨.bool true, by simp only [execOp, a3, c3, Sem.run_bind, guard_ptr, Result.andThen_ok, binOp, run_ptrSame w hu hk, Sem.run_pure], rep_mk rfl⟩
theorem a_pneRR {o off k : Nat} (hu : P.underlying xt = some (.pointer e)) (hk : (P.info? e).map (·.size) = some (k + 1)) : AOp P ⟨d, .binOp .neq xt x y yt, ty, pos, af, g⟩ [.ref o off, .ref o off] [] [] (.p (.v (.bool false))) :=
  aop_pure fun S m w ev hr => by
    obtain ⟨h1, h2⟩ := repL2 (u := ev x) (v := ev y) hr
    simp only [Rep] at h1 h2
    obtain ⟨b, v0, a1, a2, a3⟩ := h1
    obtain ⟨b', v0', c1, c2, c3⟩ := h2
    rw [a1] at c1; cases c1
    rw [a2] at c2; cases c2
    exact ⟨.bool false, by simp only [execOp, a3, c3, Sem.run_bind, guard_ptr, Result.andThen_ok, binOp, run_ptrSame w hu hk, Sem.run_pure]; rfl, rep_mk rfl⟩
end
theorem re_of0 {st : St} (ts : List (Nat × AV)) (h1 : LeT id st [] ts) : Re st (St.of ts []) := re_of id ts [] h1 trivial rfl

/-! a slice against nil -/
def isBoolV : Value → Bool
  | .bool _ => true
  | _ => false
theorem guard_slc (op : BinOp) (t : TypeId) (x y : Operand) (a b : Option Addr) (n c m k : Nat) (w : World) : (eqGuard op t x y (.slice a n c) (.slice b m k)).run P w = .ok () w := by
  unfold eqGuard
  cases op <;> rfl
section
variable {xt yt : TypeId} {x y : Operand} {e : TypeId}
theorem run_slcNil (w : World) (hu : P.underlying xt = some (.slice e)) (a : Option Addr) (n c : Nat) : (Op.equal xt (.slice a n c) (.slice none 0 0)).run P w = .ok a.isNone w := by
  show (Op.equalIn (9999 + 1) xt (.slice a n c) (.slice none 0 0)).run P w = .ok a.isNone w
  generalize 9999 = d
  cases a <;> simp [Op.equalIn, run_underlying hu]
theorem bin_slcEq (w : World) (hu : P.underlying xt = some (.slice e)) (a : Option Addr) (n c : Nat) : (binOp .eql xt (.slice a n c) (.slice none 0 0)).run P w = .ok (.bool a.isNone) w := by
  simp only [binOp, Sem.run_bind, run_slcNil w hu, Result.andThen_ok, Sem.run_pure]
theorem bin_slcNe (w : World) (hu : P.underlying xt = some (.slice e)) (a : Option Addr) (n c : Nat) : (binOp .neq xt (.slice a n c) (.slice none 0 0)).run P w = .ok (.bool (!a.isNone)) w := by
  simp only [binOp, Sem.run_bind, run_slcNil w hu, Result.andThen_ok, Sem.run_pure]
theorem exec_slc {op : BinOp} {S : Nat → Prop} {m : Nat → Option Value} {w : World} {ev : Operand → Value} {X R : AV} {f : Option Addr → Bool} (hb : ∀ a n c, (binOp op xt (.slice a n c) (.slice none 0 0)).run P w = .ok (.bool (f a)) w)
    (hr : RepL S m w [X, .p (.v (.slice none 0 0))] [ev x, ev y]) (k : ∀ u, Rep S m w X u → ∃ a n c, u = .slice a n c ∧ Rep S m w R (.bool (f a))) : ∃ v, (execOp ev ⟨d, .binOp op xt x y yt, ty, pos, af, g⟩).run P w = .ok (.value v) w ∧ Rep S m w R v := by
  obtain ⟨h1, h2⟩ := repL2 (u := ev x) (v := ev y) hr
  obtain ⟨a, n, c, h3, h4⟩ := k _ h1
  exact ⟨.bool (f a), by simp only [execOp, h3, rep_v h2, Sem.run_bind, guard_slc, Result.andThen_ok, hb, Sem.run_pure], h4⟩
theorem rep_sat {S : Nat → Prop} {m : Nat → Option Value} {w : World} {b : Bool} : Rep S m w (.sat isBoolV) (.bool b) := by simp [Rep, isBoolV, Value.oneCell']
theorem sl_some {S : Nat → Prop} {m : Nat → Option Value} {w : World} {n size : Nat} {cs : List PV} {u : Value} (hn : 0 < n) (h : Rep S m w (.p (.sl n size cs)) u) : ∃ a n c, u = .slice (some a) n c := by
  simp only [Rep, PRep] at h
  obtain ⟨a, cap, vs, rfl, _, _, _, h5⟩ := h
  rcases h5 with h5 | ⟨b, off, rfl, _⟩
  · omega
  · exact ⟨_, _, _, rfl⟩
theorem sl_slc {S : Nat → Prop} {m : Nat → Option Value} {w : World} {n size : Nat} {cs : List PV} {u : Value} (h : Rep S m w (.p (.sl n size cs)) u) : ∃ a n c, u = .slice a n c := by
  simp only [Rep, PRep] at h
  obtain ⟨a, cap, vs, rfl, _⟩ := h
  exact ⟨_, _, _, rfl⟩
theorem a_seqnilS (hu : P.underlying xt = some (.slice e)) : AOp P ⟨d, .binOp .eql xt x y yt, ty, pos, af, g⟩ [.p (.v (.slice none 0 0)), .p (.v (.slice none 0 0))] [] [] (.p (.v (.bool true))) :=
  aop_pure fun S m w ev hr => exec_slc (fun a n c => bin_slcEq w hu a n c) hr fun u h => ⟨none, 0, 0, rep_v h, rep_mk rfl⟩
theorem a_snenilS (hu : P.underlying xt = some (.slice e)) : AOp P ⟨d, .binOp .neq xt x y yt, ty, pos, af, g⟩ [.p (.v (.slice none 0 0)), .p (.v (.slice none 0 0))] [] [] (.p (.v (.bool false))) :=
  aop_pure fun S m w ev hr => exec_slc (fun a n c => bin_slcNe w hu a n c) hr fun u h => ⟨none, 0, 0, rep_v h, rep_mk rfl⟩
theorem a_seqS {n size : Nat} {cs : List PV} (hu : P.underlying xt = some (.slice e)) (hn : 0 < n) : AOp P ⟨d, .binOp .eql xt x y yt, ty, pos, af, g⟩ [.p (.sl n size cs), .p (.v (.slice none 0 0))] [] [] (.p (.v (.bool false))) :=
  aop_pure fun S m w ev hr => exec_slc (fun a n c => bin_slcEq w hu a n c) hr fun u h => let ⟨a, n, c, h⟩ := sl_some hn h; ⟨some a, n, c, h, rep_mk rfl⟩
theorem a_sneS {n size : Nat} {cs : List PV} (hu : P.underlying xt = some (.slice e)) (hn : 0 < n) : AOp P ⟨d, .binOp .neq xt x y yt, ty, pos, af, g⟩ [.p (.sl n size cs), .p (.v (.slice none 0 0))] [] [] (.p (.v (.bool true))) :=
  aop_pure fun S m w ev hr => exec_slc (fun a n c => bin_slcNe w hu a n c) hr fun u h => let ⟨a, n, c, h⟩ := sl_some hn h; ⟨some a, n, c, h, rep_mk rfl⟩
theorem a_seqX {n size : Nat} {cs : List PV} (hu : P.underlying xt = some (.slice e)) : AOp P ⟨d, .binOp .eql xt x y yt, ty, pos, af, g⟩ [.p (.sl n size cs), .p (.v (.slice none 0 0))] [] [] (.sat isBoolV) :=
  aop_pure fun S m w ev hr => exec_slc (fun a n c => bin_slcEq w hu a n c) hr fun u h => let ⟨a, n, c, h⟩ := sl_slc h; ⟨a, n, c, h, rep_sat⟩
theorem a_sneX {n size : Nat} {cs : List PV} (hu : P.underlying xt = some (.slice e)) : AOp P ⟨d, .binOp .neq xt x y yt, ty, pos, af, g⟩ [.p (.sl n size cs), .p (.v (.slice none 0 0))] [] [] (.sat isBoolV) :=
  aop_pure fun S m w ev hr => exec_slc (fun a n c => bin_slcNe w hu a n c) hr fun u h => let ⟨a, n, c, h⟩ := sl_slc h; ⟨a, n, c, h, rep_sat⟩
theorem a_seqRX {o : Nat} (hu : P.underlying xt = some (.slice e)) : AOp P ⟨d, .binOp .eql xt x y yt, ty, pos, af, g⟩ [.row o, .p (.v (.slice none 0 0))] [] [] (.sat isBoolV) :=
  aop_pure fun S m w ev hr => exec_slc (fun a n c => bin_slcEq w hu a n c) hr fun u h => by
    simp only [Rep] at h
    obtain ⟨_, a, n, c, h⟩ := h
    exact ⟨a, n, c, h, rep_sat⟩
theorem a_sneRX {o : Nat} (hu : P.underlying xt = some (.slice e)) : AOp P ⟨d, .binOp .neq xt x y yt, ty, pos, af, g⟩ [.row o, .p (.v (.slice none 0 0))] [] [] (.sat isBoolV) :=
  aop_pure fun S m w ev hr => exec_slc (fun a n c => bin_slcNe w hu a n c) hr fun u h => by
    simp only [Rep] at h
    obtain ⟨_, a, n, c, h⟩ := h
    exact ⟨a, n, c, h, rep_sat⟩
end
/-- a choice of which only is known that it is one -/
theorem awp_condX {G : Env} {Q : Exit → St → Prop} {st : St} {c : Operand} {x y : Code} (hc : st.ev c = .sat isBoolV) (h1 : awp G x Q st) (h2 : awp G y Q st) : awp G (.cond c x y) Q st := by
  intro a w hs
  obtain ⟨S, m, hm, hj, ht⟩ := hs.mem
  have := ev_rep ht c
  rw [hc] at this
  simp only [Rep] at this
  have h3 := this.1
  cases hv : a.eval c <;> rw [hv] at h3 <;> simp only [isBoolV, Bool.false_eq_true] at h3
  exact wp_cond_split hv (fun _ => h1 a w hs) (fun _ => h2 a w hs)
theorem box_shape {w : World} {b : Nat} {us : List Value} {ty : TypeId} {fz : Nat × Nat} (h : w.heap[b]? = some (.cells us.toArray ty fz)) : w.shape? b = some (ty, us.length) := by simp [World.shape?, h]
/-- a variable's address as an unsafe.Pointer, and back -/
theorem a_toUnsafe {x : Operand} {src dst t bt : TypeId} {o k : Nat} {c : AV} {cs : List AV} (hs : P.underlying src = some (.pointer t)) (hd : P.underlying dst = some .unsafePointer) (hk : (P.info? t).map (·.size) = some (k + 1)) :
    AOp P ⟨d, .convert src dst x, ty, pos, af, g⟩ [.ref o 0] [(o, .live (.box bt (c :: cs)))] [] (.ref o 0) :=
  aop_read fun w0 A S m heap w ev hm hR hrd => by
    have ho : heap o = .live (.box bt (c :: cs)) := rd1 hrd
    have hx := repL1 (u := ev x) hR
    have hx' := hx
    simp only [Rep] at hx
    obtain ⟨b, v0, h1, h2, h3⟩ := hx
    obtain ⟨v, k1, k2, _⟩ := hm.live o _ ho
    rw [h1] at k1; cases k1
    obtain ⟨b', us, rfl, _, j1, _, j3⟩ := k2
    obtain rfl : b' = b := by simpa [blk] using h2
    have hl := j1.length
    cases hq : P.info? t with
    | none => simp [hq] at hk
    | some j =>
      have hj : j.size = k + 1 := by simpa [hq] using hk
      have := Lib.run_to_unsafe (P := P) w ⟨b', 0, none⟩ hs hd hq (by omega) (box_shape j3) (by rw [hl]; simp)
      exact ⟨.pointer (some ⟨b', 0, none⟩), by simp only [execOp, h3, this, Sem.run_bind, Result.andThen_ok, Sem.run_pure], by rw [← h3]; exact hx'⟩
theorem a_fromUnsafe {x : Operand} {src dst u bt : TypeId} {o k : Nat} {cs : List AV} (hs : P.underlying src = some .unsafePointer) (hd : P.underlying dst = some (.pointer u)) (hk : (P.info? u).map (·.size) = some k) (hl : liesAt P P.depth bt (cs.length / P.cellsOf bt) 0 u 1 = true) :
    AOp P ⟨d, .convert src dst x, ty, pos, af, g⟩ [.ref o 0] [(o, .live (.box bt cs))] [] (.ref o 0) :=
  aop_read fun w0 A S m heap w ev hm hR hrd => by
    have ho : heap o = .live (.box bt cs) := rd1 hrd
    have hx := repL1 (u := ev x) hR
    have hx' := hx
    simp only [Rep] at hx
    obtain ⟨b, v0, h1, h2, h3⟩ := hx
    obtain ⟨v, k1, k2, _⟩ := hm.live o _ ho
    rw [h1] at k1; cases k1
    obtain ⟨b', us, rfl, _, j1, _, j3⟩ := k2
    obtain rfl : b' = b := by simpa [blk] using h2
    have hlen := j1.length
    cases hq : P.info? u with
    | none => simp [hq] at hk
    | some j =>
      have := Lib.run_from_unsafe (P := P) w ⟨b', 0, none⟩ hs hd hq (box_shape j3) (by rw [hlen]; exact hl)
      exact ⟨.pointer (some ⟨b', 0, none⟩), by simp only [execOp, h3, this, Sem.run_bind, Result.andThen_ok, Sem.run_pure], by rw [← h3]; exact hx'⟩
/-- abi.NoEscape gives what it is given -/
theorem a_noEscape {x y : Operand} {ts : Array TypeId} {f : FuncId} {fn : Func} {X : AV} (hf : P.funcs[f]? = some fn) (hname : (fn.name == "runtime.NumGoroutine") = false) (hb : fn.body.isNone = true) (hn : Extern.findNext fn = none) (he : Extern.find fn = some Extern.AbiNoEscape.same) :
    AOp P ⟨d, .call { callee := .value x, args := #[y], argTypes := ts }, ty, pos, af, g⟩ [.fn f [], X] [] [] X :=
  aop_pure fun S m w ev hr => by
    have hr' : RepL S m w [.fn f [], X] [ev x, ev y] := by simpa [Op.operands, Call.operands] using hr
    simp only [RepL, Rep] at hr'
    obtain ⟨u, vs, h1, ⟨us, h2, h3⟩, v, vs', h4, h5, h6⟩ := hr'
    subst h6 h4 h3
    simp only [List.cons.injEq, and_true] at h1
    obtain ⟨rfl, rfl⟩ := h1
    refine ⟨ev y, ?_, h5⟩
    simp only [execOp, resolve, h2, Deferred.ofValue, invoke, Sem.run_bind, Sem.run_pure, Result.andThen_ok]
    have := run_callFunc_extern (P := P) hf hname hb hn he #[ev y] w
    rw [Lib.run_noEscape] at this
    simpa using this
/-! strings out of a buffer -/
theorem a_sdNil {x : Operand} {ts : Array TypeId} : AOp P ⟨d, .call { callee := .builtin .unsafeSliceData, args := #[x], argTypes := ts }, ty, pos, af, g⟩ [.p (.v (.slice none 0 0))] [] [] (.p (.v (.pointer none))) :=
  aop_pure fun S m w ev hr => by
    have h := rep_v (repL1 (x := .p (.v (.slice none 0 0))) (u := ev x) (by simpa [Op.operands, Call.operands] using hr))
    exact ⟨.pointer none, by simp [execOp, resolve, invoke, builtin, h, Lib.run_unsafeSliceData_nil], rep_mk rfl⟩
theorem a_sdRow {x : Operand} {ts : Array TypeId} {o n size : Nat} {e : TypeId} {cs : List PV} (hn : 0 < n) : AOp P ⟨d, .call { callee := .builtin .unsafeSliceData, args := #[x], argTypes := ts }, ty, pos, af, g⟩ [.row o] [(o, .live (.row e size n cs))] [] (.ref o 0) :=
  aop_read fun w0 A S m heap w ev hm hR hrd => by
    have ho : heap o = .live (.row e size n cs) := rd1 hrd
    have hx := repL1 (x := .row o) (u := ev x) (by simpa [Op.operands, Call.operands] using hR)
    simp only [Rep] at hx
    obtain ⟨hx, _⟩ := hx
    obtain ⟨v, k1, k2, _⟩ := hm.live o _ ho
    rw [hx] at k1
    obtain rfl := Option.some.inj k1
    obtain ⟨us, j1, j2, j3⟩ := k2
    rcases j3 with ⟨_, h0⟩ | ⟨b', cap, cur, fz, hv, g1, g2, g3, g4, g5, g6, g7⟩
    · omega
    · refine ⟨.pointer (some ⟨b', 0, none⟩), by simp [execOp, resolve, invoke, builtin, hv, Lib.run_unsafeSliceData_row (P := P) w ts ty ⟨b', 0, none⟩ n cap (by omega)], ?_⟩
      simp only [Rep]
      exact ⟨b', ev x, hx, by rw [hv]; rfl, rfl⟩
theorem a_usNil {x y : Operand} {t1 t2 : TypeId} : AOp P ⟨d, .call { callee := .builtin .unsafeString, args := #[x, y], argTypes := #[t1, t2] }, ty, pos, af, g⟩ [.p (.v (.pointer none)), .p (.v (.int .i64 0))] [] [] (.p (.v (.string ⟨#[]⟩))) :=
  aop_pure fun S m w ev hr => by
    obtain ⟨h1, h2⟩ := repL2 (x := .p (.v (.pointer none))) (y := .p (.v (.int .i64 0))) (u := ev x) (v := ev y) (by simpa [Op.operands, Call.operands] using hr)
    exact ⟨.string ⟨#[]⟩, by simp [execOp, resolve, invoke, builtin, rep_v h1, rep_v h2, Lib.run_unsafeString_none (P := P) w t1 t2 ty none]; rfl, rep_mk rfl⟩
/-- the bytes of a row as a string; the row is given up -/
theorem a_usRow {x y : Operand} {t1 t2 e : TypeId} {o n : Nat} {xs : List Int} (hp : P.underlying t1 = some (.pointer e)) (hc : P.cellsOf e = 1) (hn : 0 < n) (hB : isB xs) :
    AOp P ⟨d, .call { callee := .builtin .unsafeString, args := #[x, y], argTypes := #[t1, t2] }, ty, pos, af, g⟩ [.ref o 0, .p (.v (.int .i64 n))] [(o, .live (.row e 1 n (bs xs)))] [(o, .dead)] (.p (.v (.string (strOfNums xs)))) := by
  intro w0 A S m heap w ev hm hR hrd
  have ho : heap o = .live (.row e 1 n (bs xs)) := rd1 hrd
  obtain ⟨h1, h2⟩ := repL2 (x := .ref o 0) (y := .p (.v (.int .i64 n))) (u := ev x) (v := ev y) (by simpa [Op.operands, Call.operands] using hR)
  simp only [Rep] at h1
  obtain ⟨b, v0, a1, a2, a3⟩ := h1
  obtain ⟨v, k1, k2, k3⟩ := hm.live o _ ho
  rw [a1] at k1
  obtain rfl := Option.some.inj k1
  obtain ⟨us, j1, j2, j3⟩ := k2
  have hus := bs_rep j1
  rw [Nat.mul_one] at j2
  have hxl : xs.length = n := by rw [← j2, hus]; simp
  rcases j3 with ⟨rfl, h0⟩ | ⟨b', cap, cur, fz, hv, g1, g2, g3, g4, g5, g6, g7⟩
  · omega
  obtain rfl : b' = b := by rw [hv] at a2; simpa [blk] using a2
  rw [Nat.mul_one] at g6 g7
  have hl8 : (xs.map fun z => UInt8.ofNat z.toNat).length = n := by simp [hxl]
  have hrun := Lib.run_unsafeString_row (P := P) w t1 t2 ty e hp hc b' cur.size (by simp [World.shape?, g2]) (xs.map fun z => UInt8.ofNat z.toNat) (by intro h; rw [h] at hl8; simp at hl8; omega) (by rw [hl8]; omega) (by rw [hl8]; simp only [maxLen] at g5; omega) (by
    intro j z hj
    rw [List.getElem?_map] at hj
    cases hxj : xs[j]? with
    | none => simp [hxj] at hj
    | some q =>
      simp only [hxj, Option.map_some, Option.some.injEq] at hj
      have hq := hB q (List.mem_of_getElem? hxj)
      have hjn : j < n := by rw [← hxl]; exact (List.getElem?_eq_some_iff.1 hxj).1
      have hcur : cur[j]? = some (.int .u8 q) := by
        have : us[j]? = some (.int .u8 q) := by rw [hus, List.getElem?_map, hxj]; rfl
        rw [← g7, List.getElem?_take_of_lt hjn] at this
        simpa using this
      have hz : (z.toNat : Int) = q := by
        rw [← hj, UInt8.toNat_ofNat']; omega
      rw [show (⟨b', 0, none⟩ : Addr).add j = ⟨b', j, none⟩ by (simp [Addr.add]; omega), cell_of_row w b' j cur e fz g2, hcur, hz])
  rw [hl8] at hrun
  have hex : (execOp ev ⟨d, .call { callee := .builtin .unsafeString, args := #[x, y], argTypes := #[t1, t2] }, ty, pos, af, g⟩).run P w = .ok (.value (.string (strOfNums xs))) (w.freeze ⟨b', 0, none⟩ n) := by
    simp [execOp, resolve, invoke, builtin, a3, rep_v h2, hrun]
    rfl
  unfold Out
  rw [hex]
  obtain ⟨fz', hw⟩ : ∃ fz', w.freeze ⟨b', 0, none⟩ n = { w with heap := w.heap.modify b' fun _ => .cells cur e fz' } := by
    refine ⟨if fz.1 == fz.2 then (0, 0 + n) else (min fz.1 0, max fz.2 (0 + n)), ?_⟩
    unfold World.freeze
    rw [if_neg (by omega)]
    congr 1
    apply Array.ext (by simp)
    intro i h1 h2
    simp only [Array.getElem_modify]
    split
    · rename_i e1
      subst e1
      have : w.heap[b']'(by simpa using h1) = .cells cur e fz := by
        have hlt : b' < w.heap.size := by simpa using h1
        rw [Array.getElem?_eq_getElem hlt] at g2
        exact Option.some.inj g2
      rw [this]
    · rfl
  rw [hw]
  have q5 : ∀ k, k ≠ b' → (w.heap.modify b' fun _ => Obj.cells cur e fz')[k]? = w.heap[k]? := fun k hk => by
    rw [Array.getElem?_modify, if_neg (Ne.symm hk)]
  have hbS := k3 b' a2
  have hgr : Grow S m w S m { w with heap := w.heap.modify b' fun _ => .cells cur e fz' } := ⟨fun _ h => h, fun c hS => q5 c (fun e => hbS (e ▸ hS)), fun _ _ h => h⟩
  have hbw : Below w0.heap.size w { w with heap := w.heap.modify b' fun _ => .cells cur e fz' } := ⟨rfl, rfl, rfl, by simp, fun k hk => q5 k (by omega)⟩
  refine ⟨S, m, rep_mk rfl, ⟨hm.bel.trans hbw, hm.sA, fun c h => by have := hm.sW c h; simpa using this, fun o' ho' => ?_, fun o' ob2 ho' => ?_, fun o1 o2 ob1 ob2 v1 v2 c h1 h2 h3 h4 h5 h6 => ?_, hm.gl⟩, hgr⟩
  · by_cases e1 : o' = o
    · subst e1; simp [updL] at ho'
    · simp only [updL, nbeq e1, cond_false] at ho'
      exact hm.un o' ho'
  · by_cases e1 : o' = o
    · subst e1; simp [updL] at ho'
    · simp only [updL, nbeq e1, cond_false] at ho'
      obtain ⟨u, i1, i2, i3⟩ := hm.live o' ob2 ho'
      exact ⟨u, i1, i2.mono hgr fun c hc' => q5 c (fun eb => by subst eb; exact e1 (hm.inj _ _ _ _ _ _ _ ho' ho i1 a1 hc' a2)), i3⟩
  · have key : ∀ {z : Nat} {obz : AObj}, updL heap [(o, .dead)] z = .live obz → heap z = .live obz := by
      intro z obz hz
      by_cases e1 : z = o
      · subst e1; simp [updL] at hz
      · simpa only [updL, nbeq e1, cond_false] using hz
    exact hm.inj _ _ _ _ _ _ _ (key h1) (key h2) h3 h4 h5 h6
end

/-! The machine over data: what is compared with itself; operations whose guard is known. -/
section
variable {P : Program} {d : Option Tmp} {ty : TypeId} {pos : String} {af : Array Edge} {g : Option (Nat × Bool)} {xt yt : TypeId} {x y : Operand}
theorem a_eqlT {k : IntKind} {a : Int} : AOp P ⟨d, .binOp .eql xt x y yt, ty, pos, af, g⟩ [.p (.v (.int k a)), .p (.v (.int k a))] [] [] (.p (.v (.bool true))) := by
  have h : AOp P ⟨d, .binOp .eql xt x y yt, ty, pos, af, g⟩ [.p (.v (.int k a)), .p (.v (.int k a))] [] [] (.p (.v (.bool (a == a)))) := a_eql
  rwa [beq_self_eq_true] at h
theorem a_neqT {k : IntKind} {a : Int} : AOp P ⟨d, .binOp .neq xt x y yt, ty, pos, af, g⟩ [.p (.v (.int k a)), .p (.v (.int k a))] [] [] (.p (.v (.bool false))) := by
  have h : AOp P ⟨d, .binOp .neq xt x y yt, ty, pos, af, g⟩ [.p (.v (.int k a)), .p (.v (.int k a))] [] [] (.p (.v (.bool (a != a)))) := a_neq
  rwa [bne_self_eq_false] at h
theorem a_seqlT {s : ByteArray} : AOp P ⟨d, .binOp .eql xt x y yt, ty, pos, af, g⟩ [.p (.v (.string s)), .p (.v (.string s))] [] [] (.p (.v (.bool true))) := by
  have h : AOp P ⟨d, .binOp .eql xt x y yt, ty, pos, af, g⟩ [.p (.v (.string s)), .p (.v (.string s))] [] [] (.p (.v (.bool (decide (s = s))))) := a_seql
  rwa [decide_eq_true rfl] at h
theorem a_sneqT {s : ByteArray} : AOp P ⟨d, .binOp .neq xt x y yt, ty, pos, af, g⟩ [.p (.v (.string s)), .p (.v (.string s))] [] [] (.p (.v (.bool false))) := by
  have h : AOp P ⟨d, .binOp .neq xt x y yt, ty, pos, af, g⟩ [.p (.v (.string s)), .p (.v (.string s))] [] [] (.p (.v (.bool (!decide (s = s))))) := a_sneq
  rwa [decide_eq_true rfl] at h
theorem a_beqlT {b : Bool} (hu : P.underlying xt = some .bool) : AOp P ⟨d, .binOp .eql xt x y yt, ty, pos, af, g⟩ [.p (.v (.bool b)), .p (.v (.bool b))] [] [] (.p (.v (.bool true))) := by
  have h : AOp P ⟨d, .binOp .eql xt x y yt, ty, pos, af, g⟩ [.p (.v (.bool b)), .p (.v (.bool b))] [] [] (.p (.v (.bool (b == b)))) := a_beql hu
  rwa [beq_self_eq_true] at h
theorem a_bneqT {b : Bool} (hu : P.underlying xt = some .bool) : AOp P ⟨d, .binOp .neq xt x y yt, ty, pos, af, g⟩ [.p (.v (.bool b)), .p (.v (.bool b))] [] [] (.p (.v (.bool false))) := by
  have h : AOp P ⟨d, .binOp .neq xt x y yt, ty, pos, af, g⟩ [.p (.v (.bool b)), .p (.v (.bool b))] [] [] (.p (.v (.bool (b != b)))) := a_bneq hu
  rwa [bne_self_eq_false] at h
theorem a_steqT {cs : List AV} {xs : List Value} {fs : Array Field} (hu : P.underlying xt = some (.struct fs)) (hx : valsOf cs = some xs) (hg : P.eqGuardType P.depth xt = false) (h1 : okS P 20 xt xs = true) : AOp P ⟨d, .binOp .eql xt x y yt, ty, pos, af, g⟩ [.agg cs, .agg cs] [] [] (.p (.v (.bool true))) := by
  have h := a_steql (d := d) (ty := ty) (pos := pos) (af := af) (g := g) (yt := yt) (x := x) (y := y) hu hx hx hg h1 h1
  rwa [eqL_refl] at h
theorem a_stneT {cs : List AV} {xs : List Value} {fs : Array Field} (hu : P.underlying xt = some (.struct fs)) (hx : valsOf cs = some xs) (hg : P.eqGuardType P.depth xt = false) (h1 : okS P 20 xt xs = true) : AOp P ⟨d, .binOp .neq xt x y yt, ty, pos, af, g⟩ [.agg cs, .agg cs] [] [] (.p (.v (.bool false))) := by
  have h := a_stneq (d := d) (ty := ty) (pos := pos) (af := af) (g := g) (yt := yt) (x := x) (y := y) hu hx hx hg h1 h1
  rwa [eqL_refl] at h
theorem a_pickT {c a b : Operand} {X Y : AV} : AOp P ⟨d, .pick c a b, ty, pos, af, g⟩ [.p (.v (.bool true)), X, Y] [] [] X :=
  aop_pure fun S m w ev hr => by
    obtain ⟨k1, k2, k3⟩ := repL3 (u := ev c) (v := ev a) (t := ev b) hr
    exact ⟨_, by simp [execOp, rep_v k1, asBool], k2⟩
theorem a_pickF {c a b : Operand} {X Y : AV} : AOp P ⟨d, .pick c a b, ty, pos, af, g⟩ [.p (.v (.bool false)), X, Y] [] [] Y :=
  aop_pure fun S m w ev hr => by
    obtain ⟨k1, k2, k3⟩ := repL3 (u := ev c) (v := ev a) (t := ev b) hr
    exact ⟨_, by simp [execOp, rep_v k1, asBool], k3⟩
theorem a_smin {x y : Operand} {ts : Array TypeId} {s t : ByteArray} : AOp P ⟨d, .call { callee := .builtin .min, args := #[x, y], argTypes := ts }, ty, pos, af, g⟩ [.p (.v (.string s)), .p (.v (.string t))] [] [] (.p (.v (.string (if sLt s t || decide (s = t) then s else t)))) :=
  aop_pure fun S m w ev hr => by
    obtain ⟨h1, h2⟩ := repL2 (u := ev x) (v := ev y) hr
    refine ⟨_, ?_, rep_mk rfl⟩
    simp only [execOp, resolve, invoke, builtin, Builtin.min_]
    simp [Builtin.min2, Op.stringOp, sLt, asBool, rep_v h1, rep_v h2, ← str_beq]
theorem a_smax {x y : Operand} {ts : Array TypeId} {s t : ByteArray} : AOp P ⟨d, .call { callee := .builtin .max, args := #[x, y], argTypes := ts }, ty, pos, af, g⟩ [.p (.v (.string s)), .p (.v (.string t))] [] [] (.p (.v (.string (if !sLt s t then s else t)))) :=
  aop_pure fun S m w ev hr => by
    obtain ⟨h1, h2⟩ := repL2 (u := ev x) (v := ev y) hr
    refine ⟨_, ?_, rep_mk rfl⟩
    simp only [execOp, resolve, invoke, builtin, Builtin.max_]
    simp [Builtin.max2, Op.stringOp, sLt, asBool, rep_v h1, rep_v h2]
end
theorem a_callS0 {P : Program} {d : Option Tmp} {ty : TypeId} {pos : String} {af : Array Edge} {g : Option (Nat × Bool)} {x : Operand} {args : Array Operand} {ts : Array TypeId} {f : FuncId} {fn : Func} {xs cs : List AV} {res : AV} (hf : P.funcs[f]? = some fn) (hb : fn.body.isNone = false) (hn : (fn.name == "runtime.NumGoroutine") = false)
    (hC : Fn P f (xs ++ cs) res []) (h1 : AV.okInL [] (xs ++ cs) = true) (h3 : res.okIn [] = true) :
    AOp P ⟨d, .call { callee := .value x, args := args, argTypes := ts }, ty, pos, af, g⟩ (.fn f cs :: xs) [] [] res := by
  have h := a_callS (P := P) (d := d) (ty := ty) (pos := pos) (af := af) (g := g) (x := x) (args := args) (ts := ts) (fun o => o) hf hb hn hC h1 h3 rfl rfl
  rw [ren_id] at h
  exact h
theorem less_not : ∀ {x y : List UInt8}, x ≠ y → Op.bytesLess y x = !Op.bytesLess x y
  | [], [], h => absurd rfl h
  | [], b :: y, _ => rfl
  | a :: x, [], _ => rfl
  | a :: x, b :: y, h => by
    simp only [Op.bytesLess]
    by_cases e : a = b
    · subst e
      have h2 : x ≠ y := fun e => h (by rw [e])
      have hl : ¬ a < a := UInt8.lt_irrefl a
      simp [hl, less_not h2]
    · rcases UInt8.lt_or_lt_of_ne e with hl | hl
      · have hn : ¬ b < a := fun k => absurd (UInt8.lt_trans hl k) (UInt8.lt_irrefl a)
        simp [hl, hn, Ne.symm e]
      · have hn : ¬ a < b := fun k => absurd (UInt8.lt_trans hl k) (UInt8.lt_irrefl b)
        simp [hl, hn, e]
theorem sLt_not {s t : ByteArray} (h : s ≠ t) : sLt t s = !sLt s t := by
  refine less_not fun e => h ?_
  rw [ByteArray.toList_eq, ByteArray.toList_eq] at e
  cases s; cases t
  congr 1
  exact Array.toList_inj.1 e
/-- arms that meet, of which some may have left -/
theorem awp_join2 {P : Program} {w0 : World} {A : Nat → Prop} {nt : Nat} {c d : Code} {Q : Exit → St → Prop} {st : St} (st1 : St) (h : awp ⟨P, w0, ctx0 A, nt⟩ c (Thn (fun st' => Re st' st1) Q) st) (k : awp ⟨P, w0, ctx0 A, nt⟩ d Q st1) : awp ⟨P, w0, ctx0 A, nt⟩ c (Thn (awp ⟨P, w0, ctx0 A, nt⟩ d Q) Q) st :=
  awp_mono h fun e st' hq => by
    cases e with
    | normal => exact awp_re hq k
    | _ => exact hq
/-! structs as their fields -/
def structTs (P : Program) (t : Nat) : Option (List TypeId) := match P.underlying t with
  | some (.struct fs) => some (fs.toList.map (·.type))
  | _ => none
def TyL (P : Program) (n : Nat) : List TypeId → List (List PV) → Prop
  | [], L => L = []
  | t :: ts, L => ∃ x L', L = x :: L' ∧ Ty P n t x ∧ TyL P n ts L'
theorem tyL_mk {P : Program} {n : Nat} : ∀ {fs : List Field} {L : List (List PV)}, L.length = fs.length → (∀ (i : Nat) (f : Field) x, fs[i]? = some f → L[i]? = some x → Ty P n f.type x ∧ x.length = P.cellsOf f.type) → TyL P n (fs.map (·.type)) L
  | [], [], _, _ => rfl
  | [], _ :: _, h, _ => by simp at h
  | _ :: _, [], h, _ => by simp at h
  | f :: fs, x :: L, h, k => by
    refine ⟨x, L, rfl, (k 0 f x (by simp) (by simp)).1, tyL_mk (by simpa using h) fun i f' x' h1 h2 => k (i + 1) f' x' (by simpa using h1) (by simpa using h2)⟩
theorem ty_struct {P : Program} {n t : Nat} {ts : List TypeId} {ps : List PV} (hu : structTs P t = some ts) (hT : Ty P (n + 1) t ps) : ∃ L : List (List PV), ps = L.flatten ∧ TyL P n ts L := by
  unfold structTs at hu
  unfold Ty at hT
  cases hq : P.underlying t with
  | none => simp [hq] at hu
  | some u =>
    simp only [hq] at hu hT
    cases u <;> simp at hu
    rename_i fs
    obtain ⟨L, rfl, hl, hL⟩ := hT
    subst hu
    exact ⟨L, rfl, tyL_mk (by simpa using hl) fun i f x h1 h2 => hL i f x (by simpa using h1) h2⟩

/-! contracts that the kit's calls give -/
/-- the values of arguments that are plain -/
def avals : List AV → Option (List Value)
  | [] => some []
  | .p (.v x) :: l => (avals l).map (x :: ·)
  | .agg cs :: l => (valsOf cs).bind fun xs => (avals l).map (.agg xs.toArray :: ·)
  | _ :: _ => none
theorem avals_rep {S : Nat → Prop} {m : Nat → Option Value} {w : World} : ∀ {cs : List AV} {xs us : List Value}, avals cs = some xs → RepL S m w cs us → us = xs
  | [], xs, us, h, hr => by
    simp only [avals, Option.some.injEq] at h
    simp only [RepL] at hr
    rw [hr, ← h]
  | c :: cs, xs, us, h, hr => by
    simp only [RepL] at hr
    obtain ⟨u, us, rfl, h2, h3⟩ := hr
    cases c with
    | p x =>
      cases x with
      | v x =>
        simp only [avals] at h
        cases hq : avals cs with
        | none => simp [hq] at h
        | some zs =>
          simp only [hq, Option.map_some, Option.some.injEq] at h
          rw [rep_v h2, avals_rep hq h3, h]
      | _ => simp [avals] at h
    | agg ds =>
      simp only [avals] at h
      cases hv : valsOf ds with
      | none => simp [hv] at h
      | some vs =>
        cases hq : avals cs with
        | none => simp [hv, hq] at h
        | some zs =>
          simp only [hv, hq, Option.bind_some, Option.map_some, Option.some.injEq] at h
          simp only [Rep] at h2
          obtain ⟨ws, e1, e2, _⟩ := h2
          rw [valsOf_rep hv e2] at e1
          rw [e1, avals_rep hq h3, h]
    | _ => simp [avals] at h
/-- a call over plain values, and what it answers -/
theorem fn_gives {P : Program} {f : FuncId} {args : List AV} {vs : List Value} {res : AV} {r : Value} (ha : avals args = some vs) (hr : ∀ S m w, Rep S m w res r) (h : Gives P f vs.toArray r) : Fn P f args res [] := by
  intro w A us hA hG hus
  rw [avals_rep ha hus]
  refine (h w).mono ?_
  rintro e w' ⟨rfl, hb⟩
  exact ⟨r, rfl, A, fun _ => none, hr _ _ _, hb, fun b hb => .inl hb, fun b h => Nat.lt_of_lt_of_le (hA b h) hb.size, fun o _ => rfl, fun o ob ho => (by cases ho), fun o o' ob ob' v v' b ho => (by cases ho), hG⟩

/-- a loop of so many rounds -/
def ARounds (G : Env) (c : Code) (Q : Exit → St → Prop) : Nat → St → Prop
  | 0, _ => False
  | n + 1, st => awp G c (Thn (ARounds G c Q n) Q) st
theorem arounds_succ {G : Env} {c : Code} {Q : Exit → St → Prop} {n : Nat} {st : St} (h : awp G c (Thn (ARounds G c Q n) Q) st) : ARounds G c Q (n + 1) st := h
theorem awp_loop_rounds {G : Env} {c : Code} {Q : Exit → St → Prop} {st : St} (n : Nat) (h : ARounds G c Q n st) : awp G (.loop c) Q st := by
  intro a w hs
  refine wp_loop_rounds n ?_
  revert h hs
  induction n generalizing st a w with
  | zero => intro h; exact h.elim
  | succ n ih =>
    intro h hs
    refine wp_mono (h a w hs) ?_
    rintro e a' w' ⟨st', h1, h2⟩
    cases e
    case normal => exact ih a' w' h1 h2
    all_goals exact ⟨st', h1, h2⟩
/-- arms that meet, of which some may have left, in any place -/
theorem awp_join3 {P : Program} {w0 : World} {A : Nat → Prop} {nt : Nat} {c : Code} {Q : Exit → St → Prop} {st : St} (st1 : St) (h : awp ⟨P, w0, ctx0 A, nt⟩ c (Thn (fun st' => Re st' st1) Q) st) (k : ∀ st', Re st' st1 → Q .normal st') : awp ⟨P, w0, ctx0 A, nt⟩ c Q st :=
  awp_mono h fun e st' he => by
    cases e
    case normal => exact k st' he
    all_goals exact he
theorem r_skipG {P : Program} {ops : Array Oper} {K : List Foot → St → Prop} {o : Oper} {l : List Oper} {fs : List Foot} {st : St} (hg : awanted ops o st = some false) (k : ARun P ops K l (fs ++ [([], [])]) (st.put o.dst (.mb false (.p (.v (.bool false)))))) : ARun P ops K (o :: l) fs st :=
  ⟨([], []), _, .skip _ _ hg (fun _ _ _ => by simp [Rep]), k⟩
/-! the same in few signs -/
section
variable {P : Program} {ops : Array Oper} {K : List Foot → St → Prop} {l : List Oper} {fs : List Foot} {st : St} {d : Option Tmp} {ty : TypeId} {pos : String} {af : Array Edge} {g : Option (Nat × Bool)} {x : Operand}
theorem mP {v : PV} (hx : (⟨d, .move x, ty, pos, af, g⟩ : Oper).op.operands.toList.map st.ev = [.p v]) (hg : awanted ops ⟨d, .move x, ty, pos, af, g⟩ st = some true)
    (k : ARun P ops K l (fs ++ [([], [])]) (st.put d (.p v))) : ARun P ops K (⟨d, .move x, ty, pos, af, g⟩ :: l) fs st := r_pure a_move hx hg k
theorem aP {v : PV} (hx : (⟨d, .assign x, ty, pos, af, g⟩ : Oper).op.operands.toList.map st.ev = [.p v]) (hg : awanted ops ⟨d, .assign x, ty, pos, af, g⟩ st = some true)
    (k : ARun P ops K l (fs ++ [([], [])]) (st.put d (.p v))) : ARun P ops K (⟨d, .assign x, ty, pos, af, g⟩ :: l) fs st := r_pure a_assign hx hg k
theorem fA {s : TypeId} {f off k o p : Nat} (h : fieldInfo P s f = some (off, k + 1)) (hx : (⟨d, .fieldAddr s x f, ty, pos, af, g⟩ : Oper).op.operands.toList.map st.ev = [.ref o p]) (hg : awanted ops ⟨d, .fieldAddr s x f, ty, pos, af, g⟩ st = some true)
    (n : ARun P ops K l (fs ++ [([], [])]) (st.put d (.ref o (p + off)))) : ARun P ops K (⟨d, .fieldAddr s x f, ty, pos, af, g⟩ :: l) fs st := r_pure (b_fieldAddr h rfl) hx hg n
theorem l1 {t bt : TypeId} {ds : TypeDesc} {o off : Nat} {cs : List AV} {r : AV} (hu : P.underlying t = some ds) (hd : ds.isRow = false) (hx : (⟨d, .load t x, ty, pos, af, g⟩ : Oper).op.operands.toList.map st.ev = [.ref o off]) (hg : awanted ops ⟨d, .load t x, ty, pos, af, g⟩ st = some true)
    (hr : Rds st [(o, .live (.box bt cs))]) (k : ARun P ops K l (fs ++ [([o], [])]) (st.put d r)) (h : cs[off]? = some r := by first | rfl | assumption) : ARun P ops K (⟨d, .load t x, ty, pos, af, g⟩ :: l) fs st :=
  r_run (a_load1 hu hd h) hx hg hr k
theorem lN {t bt : TypeId} {ds : TypeDesc} {o off m : Nat} {cs es : List AV} (hu : P.underlying t = some ds) (hd : ds.isRow = true) (hi : (P.info? t).map (·.size) = some m) (hx : (⟨d, .load t x, ty, pos, af, g⟩ : Oper).op.operands.toList.map st.ev = [.ref o off]) (hg : awanted ops ⟨d, .load t x, ty, pos, af, g⟩ st = some true)
    (hr : Rds st [(o, .live (.box bt cs))]) (k : ARun P ops K l (fs ++ [([o], [])]) (st.put d (.agg es))) (hk : off + m ≤ cs.length := by first | exact Nat.le_of_ble_eq_true rfl | omega | (simp only [AV.cells, List.length_map]; omega)) (h : (cs.drop off).take m = es := by first | exact take_all (by first | assumption | exact Nat.eq_of_beq_eq_true rfl | (simp only [AV.cells, List.length_map]; first | assumption | omega)) | (simp only [List.take_succ_cons, List.take_zero, List.drop_succ_cons, List.drop_zero]; rfl) | rfl) : ARun P ops K (⟨d, .load t x, ty, pos, af, g⟩ :: l) fs st :=
  r_run (a_loadN hu hd hi hk h) hx hg hr k
theorem mb2 {o : Oper} {xs' : List AV} {rds : List (Nat × Slot)} {r : AV} (b : Bool) (hg : awanted ops o st = some b) (hx : (o.op.operands.toList.map st.ev).map AV.strip = xs')
    (h : b = true → AOp P o xs' rds [] r) (hr : b = true → Rds st rds) (k : ARun P ops K l (fs ++ [(rds.map Prod.fst, [])]) (st.put o.dst (.mb b r)))
    (hs : StripOK b (o.op.operands.toList.map st.ev) := by (repeat (first | exact stripOK_nil | refine stripOK_mb id ?_ | refine stripOK_p ?_ | refine stripOK_ref ?_ | refine stripOK_row ?_ | refine stripOK_ptr ?_ | refine stripOK_agg ?_ | refine stripOK_mb (by simp_all) ?_ | refine StripOK.plain _ _ rfl ?_))) : ARun P ops K (o :: l) fs st := r_mb2 b hg hx hs h hr k
theorem tx {w0 : World} {A : Ctx} {nt : Nat} {Q : Exit → St → Prop} {id : Nat} (h : ARun P l.toArray (fun _ st' => Q .normal st') l [] st) (hd : dstOK nt l = true := by kernel_rfl) : awp ⟨P, w0, A, nt⟩ (.region id l.toArray false) Q st := awp_text hd h
theorem fT {rs : List ResultVar} {res : AV} {news : List (Nat × AObj)} {e : Exit} {vals : List AV} (ρ : Nat → Nat) (h : ResIs P st rs vals) (hv : (oneA vals).view (keepOf ρ news) st.heap = res.ren ρ) (ho : LeO ρ st (news.map Prod.fst) news)
    (he : e = .normal ∨ e = .ret := by first | exact .inl rfl | exact .inr rfl) (hk : res.okIn (news.map Prod.fst) = true := by exact rfl) (hn : nodupB (news.map fun p => ρ p.1) = true := by exact rfl) : Fin P rs res news e st :=
  ⟨he, vals, ρ, h, hv, hk, ho, hn⟩
end
end Go.Proofs.YtgpleldhddpcgaaGreatDoor
