/- The machine over data: pointers: nil checks, comparisons, the conversions that strings.Builder uses. The machine over data: what is compared with itself; operations whose guard is known. -/
import Derived.Test.YtgpleldhddpcgaaGreatDoorSMa3
import Derived.Lib.Builder
import Derived.Lib.UnsafeStr
import Derived.Laws.Externs
import Derived.LoopN
import Derived.Test.YtgpleldhddpcgaaGreatDoorSTab
namespace Go.Proofs.YtgpleldhddpcgaaGreatDoor
open Go.RowKit Go.Sort
set_option linter.unusedVariables false
section
variable {P : Program} {d : Option Tmp} {ty : TypeId} {pos : String} {af : Array Edge} {g : Option (Nat × Bool)}
theorem zbk {x : Operand} {o off : Nat} : AOp P ⟨d, .nilCheck x, ty, pos, af, g⟩ [.ref o off] [] [] (.ref o off) :=
 za1 fun S m w ev hr => by
  have h := zcP (u := ev x) hr
  have h' := h
  simp only [Rep] at h
  obtain ⟨b, v0, h1, h2, h3⟩ := h
  exact ⟨.pointer (some ⟨b, off, none⟩), by simp only [execOp, h3, Sem.run_pure], by rw [← h3]; exact h'⟩
theorem zbC {x : Operand} {cs : List PV} : AOp P ⟨d, .nilCheck x, ty, pos, af, g⟩ [.p (.pt cs)] [] [] (.ptr cs) :=
 za1 fun S m w ev hr => by
  have h := zcP (u := ev x) hr
  simp only [Rep, PRep] at h
  obtain ⟨b, off, vs, h1, h2, h3, h4⟩ := h
  exact ⟨.pointer (some ⟨b, off, none⟩), by simp only [execOp, h1, Sem.run_pure], by simp only [Rep]; exact ⟨b, off, vs, rfl, h2, h3, h4⟩⟩
theorem zcI {x y : Operand} {t e : TypeId} {k len : Nat} {kk : IntKind} {i : Int} {cs ds : List PV} (hu : P.underlying t = some (.array len e)) (hi : (P.info? e).map (·.size) = some k) (h0 : 0 ≤ i) (h1 : i < len) (hd : cs.drop (i.toNat * k) = ds) :
  AOp P ⟨d, .indexAddr t x y, ty, pos, af, g⟩ [.ptr cs, .p (.v (.int kk i))] [] [] (.ptr ds) :=
 za1 fun S m w ev hr => by
  obtain ⟨hx, hy⟩ := zcO (u := ev x) (v := ev y) hr
  simp only [Rep] at hx
  obtain ⟨b, o, vs, h1', h2, h3, h4⟩ := hx
  refine ⟨.pointer (some ⟨b, o + i.toNat * k, none⟩), by simp [execOp, h1', zbE hy, zft hu hi h0 h1], ?_⟩
  simp only [Rep]
  refine ⟨b, o + i.toNat * k, vs.drop (i.toNat * k), rfl, h2, hd ▸ h3.drop (i.toNat * k), fun j v hj => ?_⟩
  rw [List.getElem?_drop] at hj
  rw [Nat.add_assoc]
  exact h4 _ v hj
theorem ze4 (op : BinOp) (t : TypeId) (x y : Operand) (a b : Option Addr) (w : World) : (eqGuard op t x y (.pointer a) (.pointer b)).run P w = .ok () w := by
 unfold eqGuard
 cases op <;> rfl
section
variable {xt yt : TypeId} {x y : Operand} {e : TypeId}
/-- a pointer compared with nil -/
theorem zgG (w : World) (hu : P.underlying xt = some (.pointer e)) (a : Addr) : (Op.equal xt (.pointer (some a)) (.pointer none)).run P w = .ok false w := by
 show (Op.equalIn (9999 + 1) xt (.pointer (some a)) (.pointer none)).run P w = .ok false w
 generalize 9999 = d
 simp [Op.equalIn, run_underlying hu]
theorem zgH (w : World) (hu : P.underlying xt = some (.pointer e)) : (Op.equal xt (.pointer none) (.pointer none)).run P w = .ok true w := by
 show (Op.equalIn (9999 + 1) xt (.pointer none) (.pointer none)).run P w = .ok true w
 generalize 9999 = d
 simp [Op.equalIn, run_underlying hu]
theorem a_peqNN (hu : P.underlying xt = some (.pointer e)) : AOp P ⟨d, .binOp .eql xt x y yt, ty, pos, af, g⟩ [.p (.v (.pointer none)), .p (.v (.pointer none))] [] [] (.p (.v (.bool true))) :=
 zch (ze4 _ _ _ _ _ _) (fun w => by simp only [binOp, Sem.run_bind, zgH w hu, Result.andThen_ok, Sem.run_pure]) rfl
theorem a_pneNN (hu : P.underlying xt = some (.pointer e)) : AOp P ⟨d, .binOp .neq xt x y yt, ty, pos, af, g⟩ [.p (.v (.pointer none)), .p (.v (.pointer none))] [] [] (.p (.v (.bool false))) :=
 zch (ze4 _ _ _ _ _ _) (fun w => by simp only [binOp, Sem.run_bind, zgH w hu, Result.andThen_ok, Sem.run_pure]; rfl) rfl
theorem a_peqPN {cs : List PV} (hu : P.underlying xt = some (.pointer e)) : AOp P ⟨d, .binOp .eql xt x y yt, ty, pos, af, g⟩ [.p (.pt cs), .p (.v (.pointer none))] [] [] (.p (.v (.bool false))) :=
 za1 fun S m w ev hr => by
  obtain ⟨h1, h2⟩ := zcO (u := ev x) (v := ev y) hr
  simp only [Rep, PRep] at h1
  obtain ⟨b, off, vs, h3, _⟩ := h1
  exact ⟨.bool false, by simp only [execOp, h3, zbE h2, Sem.run_bind, ze4, Result.andThen_ok, binOp, zgG w hu, Sem.run_pure], zbn rfl⟩
theorem a_pnePN {cs : List PV} (hu : P.underlying xt = some (.pointer e)) : AOp P ⟨d, .binOp .neq xt x y yt, ty, pos, af, g⟩ [.p (.pt cs), .p (.v (.pointer none))] [] [] (.p (.v (.bool true))) :=
 za1 fun S m w ev hr => by
  obtain ⟨h1, h2⟩ := zcO (u := ev x) (v := ev y) hr
  simp only [Rep, PRep] at h1
  obtain ⟨b, off, vs, h3, _⟩ := h1
  exact ⟨.bool true, by simp only [execOp, h3, zbE h2, Sem.run_bind, ze4, Result.andThen_ok, binOp, zgG w hu, Sem.run_pure]; rfl, zbn rfl⟩
end
theorem re_of0 {st : St} (ts : List (Nat × AV)) (h1 : LeT id st [] ts) : Re st (St.of ts []) := zaJ id ts [] h1 trivial rfl
def zgg : Value → Bool
 | .bool _ => true
 | _ => false
theorem guard_slc (op : BinOp) (t : TypeId) (x y : Operand) (a b : Option Addr) (n c m k : Nat) (w : World) : (eqGuard op t x y (.slice a n c) (.slice b m k)).run P w = .ok () w := by
 unfold eqGuard
 cases op <;> rfl
section
variable {xt yt : TypeId} {x y : Operand} {e : TypeId}
theorem run_slcNil (w : World) (hu : P.underlying xt = some (.slice e)) (a : Option Addr) (n c : Nat) : (Op.equal xt (.slice a n c) (.slice none 0 0)).run P w = .ok a.isNone w := by
 show (Op.equalIn (9999 + 1) xt (.slice a n c) (.slice none 0 0)).run P w = .ok a.isNone w
 generalize 9999 = d
 cases a <;> simp [Op.equalIn, run_underlying hu]
theorem bin_slcEq (w : World) (hu : P.underlying xt = some (.slice e)) (a : Option Addr) (n c : Nat) : (binOp .eql xt (.slice a n c) (.slice none 0 0)).run P w = .ok (.bool a.isNone) w := by
 simp only [binOp, Sem.run_bind, run_slcNil w hu, Result.andThen_ok, Sem.run_pure]
theorem exec_slc {op : BinOp} {S : Nat → Prop} {m : Nat → Option Value} {w : World} {ev : Operand → Value} {X R : AV} {f : Option Addr → Bool} (hb : ∀ a n c, (binOp op xt (.slice a n c) (.slice none 0 0)).run P w = .ok (.bool (f a)) w)
  (hr : RepL S m w [X, .p (.v (.slice none 0 0))] [ev x, ev y]) (k : ∀ u, Rep S m w X u → ∃ a n c, u = .slice a n c ∧ Rep S m w R (.bool (f a))) : ∃ v, (execOp ev ⟨d, .binOp op xt x y yt, ty, pos, af, g⟩).run P w = .ok (.value v) w ∧ Rep S m w R v := by
 obtain ⟨h1, h2⟩ := zcO (u := ev x) (v := ev y) hr
 obtain ⟨a, n, c, h3, h4⟩ := k _ h1
 exact ⟨.bool (f a), by simp only [execOp, h3, zbE h2, Sem.run_bind, guard_slc, Result.andThen_ok, hb, Sem.run_pure], h4⟩
theorem rep_sat {S : Nat → Prop} {m : Nat → Option Value} {w : World} {b : Bool} : Rep S m w (.sat zgg) (.bool b) := by simp [Rep, zgg, Value.oneCell']
theorem sl_some {S : Nat → Prop} {m : Nat → Option Value} {w : World} {n size : Nat} {cs : List PV} {u : Value} (hn : 0 < n) (h : Rep S m w (.p (.sl n size cs)) u) : ∃ a n c, u = .slice (some a) n c := by
 simp only [Rep, PRep] at h
 obtain ⟨a, cap, vs, rfl, _, _, _, h5⟩ := h
 rcases h5 with h5 | ⟨b, off, rfl, _⟩
 ·omega
 ·exact ⟨_, _, _, rfl⟩
theorem sl_slc {S : Nat → Prop} {m : Nat → Option Value} {w : World} {n size : Nat} {cs : List PV} {u : Value} (h : Rep S m w (.p (.sl n size cs)) u) : ∃ a n c, u = .slice a n c := by
 simp only [Rep, PRep] at h
 obtain ⟨a, cap, vs, rfl, _⟩ := h
 exact ⟨_, _, _, rfl⟩
theorem a_seqS {n size : Nat} {cs : List PV} (hu : P.underlying xt = some (.slice e)) (hn : 0 < n) : AOp P ⟨d, .binOp .eql xt x y yt, ty, pos, af, g⟩ [.p (.sl n size cs), .p (.v (.slice none 0 0))] [] [] (.p (.v (.bool false))) :=
 za1 fun S m w ev hr => exec_slc (fun a n c => bin_slcEq w hu a n c) hr fun u h => let ⟨a, n, c, h⟩ := sl_some hn h; ⟨some a, n, c, h, zbn rfl⟩
theorem a_seqX {n size : Nat} {cs : List PV} (hu : P.underlying xt = some (.slice e)) : AOp P ⟨d, .binOp .eql xt x y yt, ty, pos, af, g⟩ [.p (.sl n size cs), .p (.v (.slice none 0 0))] [] [] (.sat zgg) :=
 za1 fun S m w ev hr => exec_slc (fun a n c => bin_slcEq w hu a n c) hr fun u h => let ⟨a, n, c, h⟩ := sl_slc h; ⟨a, n, c, h, rep_sat⟩
end
/-- a choice of which only is known that it is one -/
theorem ze8 {G : Env} {Q : Exit → St → Prop} {st : St} {c : Operand} {x y : Code} (hc : st.ev c = .sat zgg) (h1 : awp G x Q st) (h2 : awp G y Q st) : awp G (.cond c x y) Q st := by
 intro a w hs
 obtain ⟨S, m, hm, hj, ht⟩ := hs.mem
 have := ev_rep ht c
 rw [hc] at this
 simp only [Rep] at this
 have h3 := this.1
 cases hv : a.eval c <;> rw [hv] at h3 <;> simp only [zgg, Bool.false_eq_true] at h3
 exact wp_cond_split hv (fun _ => h1 a w hs) (fun _ => h2 a w hs)
end
section
variable {P : Program} {d : Option Tmp} {ty : TypeId} {pos : String} {af : Array Edge} {g : Option (Nat × Bool)} {xt yt : TypeId} {x y : Operand}
theorem zb6 {k : IntKind} {a : Int} : AOp P ⟨d, .binOp .eql xt x y yt, ty, pos, af, g⟩ [.p (.v (.int k a)), .p (.v (.int k a))] [] [] (.p (.v (.bool true))) := by
 have h : AOp P ⟨d, .binOp .eql xt x y yt, ty, pos, af, g⟩ [.p (.v (.int k a)), .p (.v (.int k a))] [] [] (.p (.v (.bool (a == a)))) := zaF
 rwa [beq_self_eq_true] at h
theorem zea {k : IntKind} {a : Int} : AOp P ⟨d, .binOp .neq xt x y yt, ty, pos, af, g⟩ [.p (.v (.int k a)), .p (.v (.int k a))] [] [] (.p (.v (.bool false))) := by
 have h : AOp P ⟨d, .binOp .neq xt x y yt, ty, pos, af, g⟩ [.p (.v (.int k a)), .p (.v (.int k a))] [] [] (.p (.v (.bool (a != a)))) := za8
 rwa [bne_self_eq_false] at h
theorem zd9 {s : ByteArray} : AOp P ⟨d, .binOp .eql xt x y yt, ty, pos, af, g⟩ [.p (.v (.string s)), .p (.v (.string s))] [] [] (.p (.v (.bool true))) := by
 have h : AOp P ⟨d, .binOp .eql xt x y yt, ty, pos, af, g⟩ [.p (.v (.string s)), .p (.v (.string s))] [] [] (.p (.v (.bool (decide (s = s))))) := zbQ
 rwa [decide_eq_true rfl] at h
theorem a_beqlT {b : Bool} (hu : P.underlying xt = some .bool) : AOp P ⟨d, .binOp .eql xt x y yt, ty, pos, af, g⟩ [.p (.v (.bool b)), .p (.v (.bool b))] [] [] (.p (.v (.bool true))) := by
 have h : AOp P ⟨d, .binOp .eql xt x y yt, ty, pos, af, g⟩ [.p (.v (.bool b)), .p (.v (.bool b))] [] [] (.p (.v (.bool (b == b)))) := a_beql hu
 rwa [beq_self_eq_true] at h
theorem a_steqT {cs : List AV} {xs : List Value} {fs : Array Field} (hu : P.underlying xt = some (.struct fs)) (hx : zca cs = some xs) (hg : P.eqGuardType P.depth xt = false) (h1 : okS P 20 xt xs = true) : AOp P ⟨d, .binOp .eql xt x y yt, ty, pos, af, g⟩ [.agg cs, .agg cs] [] [] (.p (.v (.bool true))) := by
 have h := zdH (d := d) (ty := ty) (pos := pos) (af := af) (g := g) (yt := yt) (x := x) (y := y) hu hx hx hg h1 h1
 rwa [eqL_refl] at h
theorem zak {c a b : Operand} {X Y : AV} : AOp P ⟨d, .pick c a b, ty, pos, af, g⟩ [.p (.v (.bool true)), X, Y] [] [] X :=
 za1 fun S m w ev hr => by
  obtain ⟨k1, k2, k3⟩ := repL3 (u := ev c) (v := ev a) (t := ev b) hr
  exact ⟨_, by simp [execOp, zbE k1, asBool], k2⟩
theorem zai {c a b : Operand} {X Y : AV} : AOp P ⟨d, .pick c a b, ty, pos, af, g⟩ [.p (.v (.bool false)), X, Y] [] [] Y :=
 za1 fun S m w ev hr => by
  obtain ⟨k1, k2, k3⟩ := repL3 (u := ev c) (v := ev a) (t := ev b) hr
  exact ⟨_, by simp [execOp, zbE k1, asBool], k3⟩
end
theorem zbd {P : Program} {d : Option Tmp} {ty : TypeId} {pos : String} {af : Array Edge} {g : Option (Nat × Bool)} {x : Operand} {args : Array Operand} {ts : Array TypeId} {f : FuncId} {fn : Func} {xs cs : List AV} {res : AV} (hf : P.funcs[f]? = some fn) (hb : fn.body.isNone = false) (hn : (fn.name == "runtime.NumGoroutine") = false)
  (hC : Fn P f (xs ++ cs) res []) (h1 : AV.okInL [] (xs ++ cs) = true) (h3 : res.okIn [] = true) :
  AOp P ⟨d, .call { callee := .value x, args := args, argTypes := ts }, ty, pos, af, g⟩ (.fn f cs :: xs) [] [] res := by
 have h := a_callS (P := P) (d := d) (ty := ty) (pos := pos) (af := af) (g := g) (x := x) (args := args) (ts := ts) (fun o => o) hf hb hn hC h1 h3 rfl rfl
 rw [ren_id] at h
 exact h
/-- arms that meet, of which some may have left -/
theorem zcU {P : Program} {w0 : World} {A : Nat → Prop} {nt : Nat} {c d : Code} {Q : Exit → St → Prop} {st : St} (st1 : St) (h : awp ⟨P, w0, ctx0 A, nt⟩ c (Thn (fun st' => Re st' st1) Q) st) (k : awp ⟨P, w0, ctx0 A, nt⟩ d Q st1) : awp ⟨P, w0, ctx0 A, nt⟩ c (Thn (awp ⟨P, w0, ctx0 A, nt⟩ d Q) Q) st :=
 zhr h fun e st' hq => by
  cases e with
  | normal => exact zcu hq k
  | _ => exact hq
def structTs (P : Program) (t : Nat) : Option (List TypeId) := match P.underlying t with
 | some (.struct fs) => some (fs.toList.map (·.type))
 | _ => none
def TyL (P : Program) (n : Nat) : List TypeId → List (List PV) → Prop
 | [], L => L = []
 | t :: ts, L => ∃ x L', L = x :: L' ∧ Ty P n t x ∧ TyL P n ts L'
theorem tyL_mk {P : Program} {n : Nat} : ∀ {fs : List Field} {L : List (List PV)}, L.length = fs.length → (∀ (i : Nat) (f : Field) x, fs[i]? = some f → L[i]? = some x → Ty P n f.type x ∧ x.length = P.cellsOf f.type) → TyL P n (fs.map (·.type)) L
 | [], [], _, _ => rfl
 | [], _ :: _, h, _ => by simp at h
 | _ :: _, [], h, _ => by simp at h
 | f :: fs, x :: L, h, k => by
  refine ⟨x, L, rfl, (k 0 f x (by simp) (by simp)).1, tyL_mk (by simpa using h) fun i f' x' h1 h2 => k (i + 1) f' x' (by simpa using h1) (by simpa using h2)⟩
theorem zbv {P : Program} {n t : Nat} {ts : List TypeId} {ps : List PV} (hu : structTs P t = some ts) (hT : Ty P (n + 1) t ps) : ∃ L : List (List PV), ps = L.flatten ∧ TyL P n ts L := by
 unfold structTs at hu
 unfold Ty at hT
 cases hq : P.underlying t with
 | none => simp [hq] at hu
 | some u =>
  simp only [hq] at hu hT
  cases u <;> simp at hu
  rename_i fs
  obtain ⟨L, rfl, hl, hL⟩ := hT
  subst hu
  exact ⟨L, rfl, tyL_mk (by simpa using hl) fun i f x h1 h2 => hL i f x (by simpa using h1) h2⟩
/-- the values of arguments that are plain -/
def zfo : List AV → Option (List Value)
 | [] => some []
 | .p (.v x) :: l => (zfo l).map (x :: ·)
 | .agg cs :: l => (zca cs).bind fun xs => (zfo l).map (.agg xs.toArray :: ·)
 | _ :: _ => none
theorem zd8 {S : Nat → Prop} {m : Nat → Option Value} {w : World} : ∀ {cs : List AV} {xs us : List Value}, zfo cs = some xs → RepL S m w cs us → us = xs
 | [], xs, us, h, hr => by
  simp only [zfo, Option.some.injEq] at h
  simp only [RepL] at hr
  rw [hr, ← h]
 | c :: cs, xs, us, h, hr => by
  simp only [RepL] at hr
  obtain ⟨u, us, rfl, h2, h3⟩ := hr
  cases c with
  | p x =>
   cases x with
   | v x =>
    simp only [zfo] at h
    cases hq : zfo cs with
    | none => simp [hq] at h
    | some zs =>
     simp only [hq, Option.map_some, Option.some.injEq] at h
     rw [zbE h2, zd8 hq h3, h]
   | _ => simp [zfo] at h
  | agg ds =>
   simp only [zfo] at h
   cases hv : zca ds with
   | none => simp [hv] at h
   | some vs =>
    cases hq : zfo cs with
    | none => simp [hv, hq] at h
    | some zs =>
     simp only [hv, hq, Option.bind_some, Option.map_some, Option.some.injEq] at h
     simp only [Rep] at h2
     obtain ⟨ws, e1, e2, _⟩ := h2
     rw [zdh hv e2] at e1
     rw [e1, zd8 hq h3, h]
  | _ => simp [zfo] at h
/-- a call over plain values, and what it answers -/
theorem zcG {P : Program} {f : FuncId} {args : List AV} {vs : List Value} {res : AV} {r : Value} (ha : zfo args = some vs) (hr : ∀ S m w, Rep S m w res r) (h : Gives P f vs.toArray r) : Fn P f args res [] := by
 intro w A us hA hG hus
 rw [zd8 ha hus]
 refine (h w).mono ?_
 rintro e w' ⟨rfl, hb⟩
 exact ⟨r, rfl, A, fun _ => none, hr _ _ _, hb, fun b hb => .inl hb, fun b h => Nat.lt_of_lt_of_le (hA b h) hb.size, fun o _ => rfl, fun o ob ho => (by cases ho), fun o o' ob ob' v v' b ho => (by cases ho), hG⟩
theorem r_skipG {P : Program} {ops : Array Oper} {K : List Foot → St → Prop} {o : Oper} {l : List Oper} {fs : List Foot} {st : St} (hg : zbj ops o st = some false) (k : ARun P ops K l (fs ++ [([], [])]) (st.put o.dst (.mb false (.p (.v (.bool false)))))) : ARun P ops K (o :: l) fs st :=
 ⟨([], []), _, .skip _ _ hg (fun _ _ _ => by simp [Rep]), k⟩
section
variable {P : Program} {ops : Array Oper} {K : List Foot → St → Prop} {l : List Oper} {fs : List Foot} {st : St} {d : Option Tmp} {ty : TypeId} {pos : String} {af : Array Edge} {g : Option (Nat × Bool)} {x : Operand}
theorem mP {v : PV} (hx : (⟨d, .move x, ty, pos, af, g⟩ : Oper).op.operands.toList.map st.ev = [.p v]) (hg : zbj ops ⟨d, .move x, ty, pos, af, g⟩ st = some true)
  (k : ARun P ops K l (fs ++ [([], [])]) (st.put d (.p v))) : ARun P ops K (⟨d, .move x, ty, pos, af, g⟩ :: l) fs st := zac zaq hx hg k
theorem aP {v : PV} (hx : (⟨d, .assign x, ty, pos, af, g⟩ : Oper).op.operands.toList.map st.ev = [.p v]) (hg : zbj ops ⟨d, .assign x, ty, pos, af, g⟩ st = some true)
  (k : ARun P ops K l (fs ++ [([], [])]) (st.put d (.p v))) : ARun P ops K (⟨d, .assign x, ty, pos, af, g⟩ :: l) fs st := zac zas hx hg k
theorem fA {s : TypeId} {f off k o p : Nat} (h : zaB P s f = some (off, k + 1)) (hx : (⟨d, .fieldAddr s x f, ty, pos, af, g⟩ : Oper).op.operands.toList.map st.ev = [.ref o p]) (hg : zbj ops ⟨d, .fieldAddr s x f, ty, pos, af, g⟩ st = some true)
  (n : ARun P ops K l (fs ++ [([], [])]) (st.put d (.ref o (p + off)))) : ARun P ops K (⟨d, .fieldAddr s x f, ty, pos, af, g⟩ :: l) fs st := zac (zag h rfl) hx hg n
theorem l1 {t bt : TypeId} {ds : TypeDesc} {o off : Nat} {cs : List AV} {r : AV} (hu : P.underlying t = some ds) (hd : ds.isRow = false) (hx : (⟨d, .load t x, ty, pos, af, g⟩ : Oper).op.operands.toList.map st.ev = [.ref o off]) (hg : zbj ops ⟨d, .load t x, ty, pos, af, g⟩ st = some true)
  (hr : Rds st [(o, .live (.box bt cs))]) (k : ARun P ops K l (fs ++ [([o], [])]) (st.put d r)) (h : cs[off]? = some r := by first | rfl | assumption) : ARun P ops K (⟨d, .load t x, ty, pos, af, g⟩ :: l) fs st :=
 zal (zat hu hd h) hx hg hr k
theorem lN {t bt : TypeId} {ds : TypeDesc} {o off m : Nat} {cs es : List AV} (hu : P.underlying t = some ds) (hd : ds.isRow = true) (hi : (P.info? t).map (·.size) = some m) (hx : (⟨d, .load t x, ty, pos, af, g⟩ : Oper).op.operands.toList.map st.ev = [.ref o off]) (hg : zbj ops ⟨d, .load t x, ty, pos, af, g⟩ st = some true)
  (hr : Rds st [(o, .live (.box bt cs))]) (k : ARun P ops K l (fs ++ [([o], [])]) (st.put d (.agg es))) (hk : off + m ≤ cs.length := by first | exact Nat.le_of_ble_eq_true rfl | omega | (simp only [AV.cells, List.length_map]; omega)) (h : (cs.drop off).take m = es := by first | exact zce (by first | assumption | exact Nat.eq_of_beq_eq_true rfl | (simp only [AV.cells, List.length_map]; first | assumption | omega)) | (simp only [List.take_succ_cons, List.take_zero, List.drop_succ_cons, List.drop_zero]; rfl) | rfl) : ARun P ops K (⟨d, .load t x, ty, pos, af, g⟩ :: l) fs st :=
 zal (zaL hu hd hi hk h) hx hg hr k
theorem mb2 {o : Oper} {xs' : List AV} {rds : List (Nat × Slot)} {r : AV} (b : Bool) (hg : zbj ops o st = some b) (hx : (o.op.operands.toList.map st.ev).map AV.strip = xs')
  (h : b = true → AOp P o xs' rds [] r) (hr : b = true → Rds st rds) (k : ARun P ops K l (fs ++ [(rds.map Prod.fst, [])]) (st.put o.dst (.mb b r)))
  (hs : StripOK b (o.op.operands.toList.map st.ev) := by (repeat (first | exact zeA | refine zcJ id ?_ | refine zfW ?_ | refine zey ?_ | refine zex ?_ | refine zez ?_ | refine zeB ?_ | refine zcJ (by simp_all) ?_ | refine StripOK.plain _ _ rfl ?_))) : ARun P ops K (o :: l) fs st := r_mb2 b hg hx hs h hr k
theorem tx {w0 : World} {A : Ctx} {nt : Nat} {Q : Exit → St → Prop} {id : Nat} (h : ARun P l.toArray (fun _ st' => Q .normal st') l [] st) (hd : dstOK nt l = true := by kernel_rfl) : awp ⟨P, w0, A, nt⟩ (.region id l.toArray false) Q st := zaw hd h
theorem fT {rs : List ResultVar} {res : AV} {news : List (Nat × AObj)} {e : Exit} {vals : List AV} (ρ : Nat → Nat) (h : ResIs P st rs vals) (hv : (oneA vals).view (zfu ρ news) st.heap = res.ren ρ) (ho : LeO ρ st (news.map Prod.fst) news)
  (he : e = .normal ∨ e = .ret := by first | exact .inl rfl | exact .inr rfl) (hk : res.okIn (news.map Prod.fst) = true := by exact rfl) (hn : zbW (news.map fun p => ρ p.1) = true := by exact rfl) : Fin P rs res news e st :=
 ⟨he, vals, ρ, h, hv, hk, ho, hn⟩
end
section
variable {P : Program} {ops : Array Oper} {K : List Foot → St → Prop} {l : List Oper} {fs : List Foot} {st : St} {d : Option Tmp} {ty : TypeId} {pos : String} {af : Array Edge} {gd : Option (Nat × Bool)}
theorem cS {x : Operand} {args : Array Operand} {ts : Array TypeId} {f : FuncId} {fn : Func} {us cs : List AV} {res : AV} {news : List (Nat × AObj)} (ρ : Nat → Nat) (hC : Fn P f us res news) (hf : P.funcs[f]? = some fn) {r : AV} {wrs : List (Nat × Slot)}
  (k : ARun P ops K l (fs ++ [(news.map (fun p => ρ p.1), news.map fun p => ρ p.1)]) ((st.upd wrs).put d r))
  (hx : st.ev x = .fn f cs := by rfl) (hxs : args.toList.map st.ev ++ cs = us := by rfl) (hb : fn.body.isNone = false := by rfl) (hn : (fn.name == "runtime.NumGoroutine") = false := by rfl)
  (h1 : AV.okInL [] us = true := by first | rfl | simp [AV.okInL, AV.okIn, zaZ]) (h3 : res.okIn (news.map Prod.fst) = true := by rfl) (h4 : zbW (news.map Prod.fst) = true := by rfl) (h5 : zbW (news.map fun p => ρ p.1) = true := by rfl)
  (hun : Rds st (news.map fun p => (ρ p.1, .un)) := by first | exact trivial | exact ⟨rfl, trivial⟩ | exact ⟨rfl, rfl, trivial⟩ | exact ⟨rfl, rfl, rfl, rfl, rfl, trivial⟩) (hg : zbj ops ⟨d, .call { callee := .value x, args := args, argTypes := ts }, ty, pos, af, gd⟩ st = some true := by rfl) (hr : res.ren ρ = r := by rfl) (hw : zdQ ρ news = wrs := by rfl) :
  ARun P ops K (⟨d, .call { callee := .value x, args := args, argTypes := ts }, ty, pos, af, gd⟩ :: l) fs st := zeC ρ hC hx hxs hf hb hn h1 h3 h4 h5 hun hg hr hw k
theorem yV {x : Operand} {args : Array Operand} {ts : Array TypeId} {f : FuncId} {fn : Func} {us cs : List AV} {res : AV} {news : List (Nat × AObj)} (ρ : Nat → Nat) (hC : Fn P f us res news) (hf : P.funcs[f]? = some fn) {r : AV} {wrs : List (Nat × Slot)}
  (k : ARun P ops K l (fs ++ [(AV.objsL (args.toList.map st.ev ++ cs) ++ news.map (fun p => ρ p.1), news.map fun p => ρ p.1)]) ((st.upd wrs).put d r))
  (hx : st.ev x = .fn f cs := by rfl) (hxs : AV.viewL (fun _ => false) st.heap (args.toList.map st.ev ++ cs) = us := by rfl) (hb : fn.body.isNone = false := by rfl) (hn : (fn.name == "runtime.NumGoroutine") = false := by rfl)
  (h1 : res.noSl = true := by first | rfl | simp [AV.noSl, AV.noSlL, AObj.noSl, PV.isV, zd6]) (h2 : news.all (fun p => p.2.noSl) = true := by first | rfl | simp [AV.noSl, AV.noSlL, AObj.noSl, PV.isV, zd6]) (h3 : res.okIn (news.map Prod.fst) = true := by rfl) (h4 : zbW (news.map Prod.fst) = true := by rfl) (h5 : zbW (news.map fun p => ρ p.1) = true := by rfl)
  (hun : Rds st (news.map fun p => (ρ p.1, .un)) := by first | exact trivial | exact ⟨rfl, trivial⟩ | exact ⟨rfl, rfl, trivial⟩ | exact ⟨rfl, rfl, rfl, rfl, rfl, trivial⟩) (hg : zbj ops ⟨d, .call { callee := .value x, args := args, argTypes := ts }, ty, pos, af, gd⟩ st = some true := by rfl) (hr : res.ren ρ = r := by rfl) (hw : zdQ ρ news = wrs := by rfl) :
  ARun P ops K (⟨d, .call { callee := .value x, args := args, argTypes := ts }, ty, pos, af, gd⟩ :: l) fs st := zcv ρ hC hx hxs hf hb hn h1 h2 h3 h4 h5 hun hg hr hw k
theorem yM {x : Operand} {v : PV} (k : ARun P ops K l (fs ++ [([], [])]) (st.put d (.p v))) (hx : (⟨d, .move x, ty, pos, af, gd⟩ : Oper).op.operands.toList.map st.ev = [.p v] := by rfl) (hg : zbj ops ⟨d, .move x, ty, pos, af, gd⟩ st = some true := by rfl) : ARun P ops K (⟨d, .move x, ty, pos, af, gd⟩ :: l) fs st := mP hx hg k
theorem yA {x : Operand} {v : PV} (k : ARun P ops K l (fs ++ [([], [])]) (st.put d (.p v))) (hx : (⟨d, .assign x, ty, pos, af, gd⟩ : Oper).op.operands.toList.map st.ev = [.p v] := by rfl) (hg : zbj ops ⟨d, .assign x, ty, pos, af, gd⟩ st = some true := by rfl) : ARun P ops K (⟨d, .assign x, ty, pos, af, gd⟩ :: l) fs st := aP hx hg k
theorem yF {x : Operand} {s : TypeId} {f off j o p : Nat} (h : zaB P s f = some (off, j + 1)) (n : ARun P ops K l (fs ++ [([], [])]) (st.put d (.ref o (p + off)))) (hx : (⟨d, .fieldAddr s x f, ty, pos, af, gd⟩ : Oper).op.operands.toList.map st.ev = [.ref o p] := by rfl) (hg : zbj ops ⟨d, .fieldAddr s x f, ty, pos, af, gd⟩ st = some true := by rfl) : ARun P ops K (⟨d, .fieldAddr s x f, ty, pos, af, gd⟩ :: l) fs st := fA h hx hg n
theorem yL {x : Operand} {t bt : TypeId} {ds : TypeDesc} {o off : Nat} {cs : List AV} {r : AV} (hu : P.underlying t = some ds) (k : ARun P ops K l (fs ++ [([o], [])]) (st.put d r)) (hd : ds.isRow = false := by rfl) (hx : (⟨d, .load t x, ty, pos, af, gd⟩ : Oper).op.operands.toList.map st.ev = [.ref o off] := by rfl) (hg : zbj ops ⟨d, .load t x, ty, pos, af, gd⟩ st = some true := by rfl)
  (hr : Rds st [(o, .live (.box bt cs))] := by exact ⟨rfl, trivial⟩) (h : cs[off]? = some r := by first | rfl | assumption) : ARun P ops K (⟨d, .load t x, ty, pos, af, gd⟩ :: l) fs st := l1 hu hd hx hg hr k h
theorem yP {o : Oper} {xs : List AV} {r : AV} (h : AOp P o xs [] [] r) (k : ARun P ops K l (fs ++ [([], [])]) (st.put o.dst r)) (hx : o.op.operands.toList.map st.ev = xs := by rfl) (hg : zbj ops o st = some true := by rfl) : ARun P ops K (o :: l) fs st := zac h hx hg k
theorem yS {o : Oper} (k : ARun P ops K l (fs ++ [([], [])]) (st.put o.dst (.mb false (.p (.v (.bool false)))))) (hg : zbj ops o st = some false := by rfl) : ARun P ops K (o :: l) fs st := r_skipG hg k
theorem yT {st : St} {rs : List ResultVar} {res : AV} {news : List (Nat × AObj)} {e : Exit} {t : Tmp} {x : AV} (hv : (oneA [x]).view (zfu (fun o => o) news) st.heap = res.ren fun o => o) (ho : LeO (fun o => o) st (news.map Prod.fst) news) (h1 : st.tmps t = x := by rfl) (h2 : rs = [.tmp t] := by rfl)
  (he : e = .normal ∨ e = .ret := by first | exact .inl rfl | exact .inr rfl) (hk : res.okIn (news.map Prod.fst) = true := by exact rfl) (hn : zbW (news.map fun p => p.1) = true := by exact rfl) : Fin P rs res news e st := by
 subst h2
 exact fT (fun o => o) (.tmp _ _ _ _ h1 .nil) hv ho he hk hn
end
end Go.Proofs.YtgpleldhddpcgaaGreatDoor
