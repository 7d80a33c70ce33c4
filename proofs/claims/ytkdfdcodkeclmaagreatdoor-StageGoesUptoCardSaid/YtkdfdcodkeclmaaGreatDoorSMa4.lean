/- The machine over data: pointers: nil checks, comparisons, the conversions that strings.Builder uses. The machine over data: what is compared with itself; operations whose guard is known. -/
import Derived.Test.YtkdfdcodkeclmaaGreatDoorSMa3
import Derived.Lib.Builder
import Derived.Lib.UnsafeStr
import Derived.Laws.Externs
import Derived.LoopN
import Derived.Test.YtkdfdcodkeclmaaGreatDoorSTab
namespace Go.Proofs.YtkdfdcodkeclmaaGreatDoor
open Go.RowKit Go.Sort
set_option linter.unusedVariables false
section
variable {P : Program} {d : Option Tmp} {ty : TypeId} {pos : String} {af : Array Edge} {g : Option (Nat × Bool)}
theorem zaZ {x : Operand} {o off : Nat} : AOp P ⟨d, .nilCheck x, ty, pos, af, g⟩ [.ref o off] [] [] (.ref o off) :=
 zba fun S m w ev hr => by
  have h := zcx (u := ev x) hr
  have h' := h
  simp only [Rep] at h
  obtain ⟨b, v0, h1, h2, h3⟩ := h
  exact ⟨.pointer (some ⟨b, off, none⟩), by simp only [execOp, h3, Sem.run_pure], by rw [← h3]; exact h'⟩
section
variable {xt yt : TypeId} {x y : Operand} {e : TypeId}
end
def zfK : Value → Bool
 | .bool _ => true
 | _ => false
theorem guard_slc (op : BinOp) (t : TypeId) (x y : Operand) (a b : Option Addr) (n c m k : Nat) (w : World) : (eqGuard op t x y (.slice a n c) (.slice b m k)).run P w = .ok () w := by
 unfold eqGuard
 cases op <;> rfl
section
variable {xt yt : TypeId} {x y : Operand} {e : TypeId}
theorem run_slcNil (w : World) (hu : P.underlying xt = some (.slice e)) (a : Option Addr) (n c : Nat) : (Op.equal xt (.slice a n c) (.slice none 0 0)).run P w = .ok a.isNone w := by
 show (Op.equalIn (9999 + 1) xt (.slice a n c) (.slice none 0 0)).run P w = .ok a.isNone w
 generalize 9999 = d
 cases a <;> simp [Op.equalIn, run_underlying hu]
theorem bin_slcEq (w : World) (hu : P.underlying xt = some (.slice e)) (a : Option Addr) (n c : Nat) : (binOp .eql xt (.slice a n c) (.slice none 0 0)).run P w = .ok (.bool a.isNone) w := by
 simp only [binOp, Sem.run_bind, run_slcNil w hu, Result.andThen_ok, Sem.run_pure]
theorem exec_slc {op : BinOp} {S : Nat → Prop} {m : Nat → Option Value} {w : World} {ev : Operand → Value} {X R : AV} {f : Option Addr → Bool} (hb : ∀ a n c, (binOp op xt (.slice a n c) (.slice none 0 0)).run P w = .ok (.bool (f a)) w)
  (hr : RepL S m w [X, .p (.v (.slice none 0 0))] [ev x, ev y]) (k : ∀ u, Rep S m w X u → ∃ a n c, u = .slice a n c ∧ Rep S m w R (.bool (f a))) : ∃ v, (execOp ev ⟨d, .binOp op xt x y yt, ty, pos, af, g⟩).run P w = .ok (.value v) w ∧ Rep S m w R v := by
 obtain ⟨h1, h2⟩ := zc4 (u := ev x) (v := ev y) hr
 obtain ⟨a, n, c, h3, h4⟩ := k _ h1
 exact ⟨.bool (f a), by simp only [execOp, h3, zbY h2, Sem.run_bind, guard_slc, Result.andThen_ok, hb, Sem.run_pure], h4⟩
theorem rep_sat {S : Nat → Prop} {m : Nat → Option Value} {w : World} {b : Bool} : Rep S m w (.sat zfK) (.bool b) := by simp [Rep, zfK, Value.oneCell']
theorem sl_some {S : Nat → Prop} {m : Nat → Option Value} {w : World} {n size : Nat} {cs : List PV} {u : Value} (hn : 0 < n) (h : Rep S m w (.p (.sl n size cs)) u) : ∃ a n c, u = .slice (some a) n c := by
 simp only [Rep, PRep] at h
 obtain ⟨a, cap, vs, rfl, _, _, _, h5⟩ := h
 rcases h5 with h5 | ⟨b, off, rfl, _⟩
 ·omega
 ·exact ⟨_, _, _, rfl⟩
theorem sl_slc {S : Nat → Prop} {m : Nat → Option Value} {w : World} {n size : Nat} {cs : List PV} {u : Value} (h : Rep S m w (.p (.sl n size cs)) u) : ∃ a n c, u = .slice a n c := by
 simp only [Rep, PRep] at h
 obtain ⟨a, cap, vs, rfl, _⟩ := h
 exact ⟨_, _, _, rfl⟩
theorem a_seqS {n size : Nat} {cs : List PV} (hu : P.underlying xt = some (.slice e)) (hn : 0 < n) : AOp P ⟨d, .binOp .eql xt x y yt, ty, pos, af, g⟩ [.p (.sl n size cs), .p (.v (.slice none 0 0))] [] [] (.p (.v (.bool false))) :=
 zba fun S m w ev hr => exec_slc (fun a n c => bin_slcEq w hu a n c) hr fun u h => let ⟨a, n, c, h⟩ := sl_some hn h; ⟨some a, n, c, h, zbB rfl⟩
theorem a_seqX {n size : Nat} {cs : List PV} (hu : P.underlying xt = some (.slice e)) : AOp P ⟨d, .binOp .eql xt x y yt, ty, pos, af, g⟩ [.p (.sl n size cs), .p (.v (.slice none 0 0))] [] [] (.sat zfK) :=
 zba fun S m w ev hr => exec_slc (fun a n c => bin_slcEq w hu a n c) hr fun u h => let ⟨a, n, c, h⟩ := sl_slc h; ⟨a, n, c, h, rep_sat⟩
end
/-- a choice of which only is known that it is one -/
theorem awp_condX {G : Env} {Q : Exit → St → Prop} {st : St} {c : Operand} {x y : Code} (hc : st.ev c = .sat zfK) (h1 : awp G x Q st) (h2 : awp G y Q st) : awp G (.cond c x y) Q st := by
 intro a w hs
 obtain ⟨S, m, hm, hj, ht⟩ := hs.mem
 have := ev_rep ht c
 rw [hc] at this
 simp only [Rep] at this
 have h3 := this.1
 cases hv : a.eval c <;> rw [hv] at h3 <;> simp only [zfK, Bool.false_eq_true] at h3
 exact wp_cond_split hv (fun _ => h1 a w hs) (fun _ => h2 a w hs)
end
section
variable {P : Program} {d : Option Tmp} {ty : TypeId} {pos : String} {af : Array Edge} {g : Option (Nat × Bool)} {xt yt : TypeId} {x y : Operand}
theorem za0 {k : IntKind} {a : Int} : AOp P ⟨d, .binOp .eql xt x y yt, ty, pos, af, g⟩ [.p (.v (.int k a)), .p (.v (.int k a))] [] [] (.p (.v (.bool true))) := by
 have h : AOp P ⟨d, .binOp .eql xt x y yt, ty, pos, af, g⟩ [.p (.v (.int k a)), .p (.v (.int k a))] [] [] (.p (.v (.bool (a == a)))) := zaz
 rwa [beq_self_eq_true] at h
theorem za5 {k : IntKind} {a : Int} : AOp P ⟨d, .binOp .neq xt x y yt, ty, pos, af, g⟩ [.p (.v (.int k a)), .p (.v (.int k a))] [] [] (.p (.v (.bool false))) := by
 have h : AOp P ⟨d, .binOp .neq xt x y yt, ty, pos, af, g⟩ [.p (.v (.int k a)), .p (.v (.int k a))] [] [] (.p (.v (.bool (a != a)))) := zbw
 rwa [bne_self_eq_false] at h
theorem zf0 {s : ByteArray} : AOp P ⟨d, .binOp .eql xt x y yt, ty, pos, af, g⟩ [.p (.v (.string s)), .p (.v (.string s))] [] [] (.p (.v (.bool true))) := by
 have h : AOp P ⟨d, .binOp .eql xt x y yt, ty, pos, af, g⟩ [.p (.v (.string s)), .p (.v (.string s))] [] [] (.p (.v (.bool (decide (s = s))))) := zeK
 rwa [decide_eq_true rfl] at h
theorem a_beqlT {b : Bool} (hu : P.underlying xt = some .bool) : AOp P ⟨d, .binOp .eql xt x y yt, ty, pos, af, g⟩ [.p (.v (.bool b)), .p (.v (.bool b))] [] [] (.p (.v (.bool true))) := by
 have h : AOp P ⟨d, .binOp .eql xt x y yt, ty, pos, af, g⟩ [.p (.v (.bool b)), .p (.v (.bool b))] [] [] (.p (.v (.bool (b == b)))) := a_beql hu
 rwa [beq_self_eq_true] at h
theorem zao {c a b : Operand} {X Y : AV} : AOp P ⟨d, .pick c a b, ty, pos, af, g⟩ [.p (.v (.bool true)), X, Y] [] [] X :=
 zba fun S m w ev hr => by
  obtain ⟨k1, k2, k3⟩ := repL3 (u := ev c) (v := ev a) (t := ev b) hr
  exact ⟨_, by simp [execOp, zbY k1, asBool], k2⟩
theorem zaj {c a b : Operand} {X Y : AV} : AOp P ⟨d, .pick c a b, ty, pos, af, g⟩ [.p (.v (.bool false)), X, Y] [] [] Y :=
 zba fun S m w ev hr => by
  obtain ⟨k1, k2, k3⟩ := repL3 (u := ev c) (v := ev a) (t := ev b) hr
  exact ⟨_, by simp [execOp, zbY k1, asBool], k3⟩
end
theorem zfr {P : Program} {d : Option Tmp} {ty : TypeId} {pos : String} {af : Array Edge} {g : Option (Nat × Bool)} {x : Operand} {args : Array Operand} {ts : Array TypeId} {f : FuncId} {fn : Func} {xs cs : List AV} {res : AV} (hf : P.funcs[f]? = some fn) (hb : fn.body.isNone = false) (hn : (fn.name == "runtime.NumGoroutine") = false)
  (hC : Fn P f (xs ++ cs) res []) (h1 : AV.okInL [] (xs ++ cs) = true) (h3 : res.okIn [] = true) :
  AOp P ⟨d, .call { callee := .value x, args := args, argTypes := ts }, ty, pos, af, g⟩ (.fn f cs :: xs) [] [] res := by
 have h := a_callS (P := P) (d := d) (ty := ty) (pos := pos) (af := af) (g := g) (x := x) (args := args) (ts := ts) (fun o => o) hf hb hn hC h1 h3 rfl rfl
 rw [zf8] at h
 exact h
/-- arms that meet, of which some may have left -/
theorem zeJ {P : Program} {w0 : World} {A : Ctx1} {nt : Nat} {c d : Code} {Q : Exit → St → Prop} {st : St} (st1 : St) (h : awp ⟨P, w0, ctx0 A, nt⟩ c (Thn (fun st' => Re st' st1) Q) st) (k : awp ⟨P, w0, ctx0 A, nt⟩ d Q st1) : awp ⟨P, w0, ctx0 A, nt⟩ c (Thn (awp ⟨P, w0, ctx0 A, nt⟩ d Q) Q) st :=
 zgJ h fun e st' hq => by
  cases e with
  | normal => exact zbn hq k
  | _ => exact hq
def structTs (P : Program) (t : Nat) : Option (List TypeId) := match P.underlying t with
 | some (.struct fs) => some (fs.toList.map (·.type))
 | _ => none
def TyL (P : Program) (n : Nat) : List TypeId → List (List PV) → Prop
 | [], L => L = []
 | t :: ts, L => ∃ x L', L = x :: L' ∧ Ty P n t x ∧ TyL P n ts L'
theorem tyL_mk {P : Program} {n : Nat} : ∀ {fs : List Field} {L : List (List PV)}, L.length = fs.length → (∀ (i : Nat) (f : Field) x, fs[i]? = some f → L[i]? = some x → Ty P n f.type x ∧ x.length = P.cellsOf f.type) → TyL P n (fs.map (·.type)) L
 | [], [], _, _ => rfl
 | [], _ :: _, h, _ => by simp at h
 | _ :: _, [], h, _ => by simp at h
 | f :: fs, x :: L, h, k => by
  refine ⟨x, L, rfl, (k 0 f x (by simp) (by simp)).1, tyL_mk (by simpa using h) fun i f' x' h1 h2 => k (i + 1) f' x' (by simpa using h1) (by simpa using h2)⟩
theorem zdd {P : Program} {n t : Nat} {ts : List TypeId} {ps : List PV} (hu : structTs P t = some ts) (hT : Ty P (n + 1) t ps) : ∃ L : List (List PV), ps = L.flatten ∧ TyL P n ts L := by
 unfold structTs at hu
 unfold Ty at hT
 cases hq : P.underlying t with
 | none => simp [hq] at hu
 | some u =>
  simp only [hq] at hu hT
  cases u <;> simp at hu
  rename_i fs
  obtain ⟨L, rfl, hl, hL⟩ := hT
  subst hu
  exact ⟨L, rfl, tyL_mk (by simpa using hl) fun i f x h1 h2 => hL i f x (by simpa using h1) h2⟩
/-- the values of arguments that are plain -/
def ze3 : List AV → Option (List Value)
 | [] => some []
 | .p (.v x) :: l => (ze3 l).map (x :: ·)
 | .agg cs :: l => (zcd cs).bind fun xs => (ze3 l).map (.agg xs.toArray :: ·)
 | _ :: _ => none
theorem zdM {S : Nat → Prop} {m : Nat → Option Value} {w : World} : ∀ {cs : List AV} {xs us : List Value}, ze3 cs = some xs → RepL S m w cs us → us = xs
 | [], xs, us, h, hr => by
  simp only [ze3, Option.some.injEq] at h
  simp only [RepL] at hr
  rw [hr, ← h]
 | c :: cs, xs, us, h, hr => by
  simp only [RepL] at hr
  obtain ⟨u, us, rfl, h2, h3⟩ := hr
  cases c with
  | p x =>
   cases x with
   | v x =>
    simp only [ze3] at h
    cases hq : ze3 cs with
    | none => simp [hq] at h
    | some zs =>
     simp only [hq, Option.map_some, Option.some.injEq] at h
     rw [zbY h2, zdM hq h3, h]
   | _ => simp [ze3] at h
  | agg ds =>
   simp only [ze3] at h
   cases hv : zcd ds with
   | none => simp [hv] at h
   | some vs =>
    cases hq : ze3 cs with
    | none => simp [hv, hq] at h
    | some zs =>
     simp only [hv, hq, Option.bind_some, Option.map_some, Option.some.injEq] at h
     simp only [Rep] at h2
     obtain ⟨ws, e1, e2, _⟩ := h2
     rw [zdc hv e2] at e1
     rw [e1, zdM hq h3, h]
  | _ => simp [ze3] at h
/-- a call over plain values, and what it answers -/
theorem zfo {P : Program} {f : FuncId} {args : List AV} {vs : List Value} {res : AV} {r : Value} (ha : ze3 args = some vs) (hr : ∀ S m w, Rep S m w res r) (h : Gives P f vs.toArray r) : Fn P f args res [] := by
 intro w A us hA hG hus
 rw [zdM ha hus]
 refine (h w).mono ?_
 rintro e w' ⟨rfl, hb⟩
 exact ⟨r, rfl, A, fun _ => none, hr _ _ _, hb, fun b hb => .inl hb, fun b h => Nat.lt_of_lt_of_le (hA b h) hb.size, fun o _ => rfl, fun o ob ho => (by cases ho), fun o o' ob ob' v v' b ho => (by cases ho), hG⟩
theorem zad {P : Program} {ops : Array Oper} {K : List Foot → St → Prop} {o : Oper} {l : List Oper} {fs : List Foot} {st : St} (hg : zbz ops o st = some false) (k : ARun P ops K l (fs ++ [([], [])]) (st.put o.dst (.mb false (.p (.v (.bool false)))))) : ARun P ops K (o :: l) fs st :=
 ⟨([], []), _, .skip _ _ hg (fun _ _ _ => by simp [Rep]), k⟩
section
variable {P : Program} {ops : Array Oper} {K : List Foot → St → Prop} {l : List Oper} {fs : List Foot} {st : St} {d : Option Tmp} {ty : TypeId} {pos : String} {af : Array Edge} {g : Option (Nat × Bool)} {x : Operand}
theorem mP {v : PV} (hx : (⟨d, .move x, ty, pos, af, g⟩ : Oper).op.operands.toList.map st.ev = [.p v]) (hg : zbz ops ⟨d, .move x, ty, pos, af, g⟩ st = some true)
  (k : ARun P ops K l (fs ++ [([], [])]) (st.put d (.p v))) : ARun P ops K (⟨d, .move x, ty, pos, af, g⟩ :: l) fs st := zac zam hx hg k
theorem aP {v : PV} (hx : (⟨d, .assign x, ty, pos, af, g⟩ : Oper).op.operands.toList.map st.ev = [.p v]) (hg : zbz ops ⟨d, .assign x, ty, pos, af, g⟩ st = some true)
  (k : ARun P ops K l (fs ++ [([], [])]) (st.put d (.p v))) : ARun P ops K (⟨d, .assign x, ty, pos, af, g⟩ :: l) fs st := zac zav hx hg k
theorem fA {s : TypeId} {f off k o p : Nat} (h : zbg P s f = some (off, k + 1)) (hx : (⟨d, .fieldAddr s x f, ty, pos, af, g⟩ : Oper).op.operands.toList.map st.ev = [.ref o p]) (hg : zbz ops ⟨d, .fieldAddr s x f, ty, pos, af, g⟩ st = some true)
  (n : ARun P ops K l (fs ++ [([], [])]) (st.put d (.ref o (p + off)))) : ARun P ops K (⟨d, .fieldAddr s x f, ty, pos, af, g⟩ :: l) fs st := zac (zaL h rfl) hx hg n
theorem l1 {t bt : TypeId} {ds : TypeDesc} {o off : Nat} {cs : List AV} {r : AV} (hu : P.underlying t = some ds) (hd : ds.isRow = false) (hx : (⟨d, .load t x, ty, pos, af, g⟩ : Oper).op.operands.toList.map st.ev = [.ref o off]) (hg : zbz ops ⟨d, .load t x, ty, pos, af, g⟩ st = some true)
  (hr : Rds st [(o, .live (.box bt cs))]) (k : ARun P ops K l (fs ++ [([o], [])]) (st.put d r)) (h : cs[off]? = some r := by first | rfl | assumption) : ARun P ops K (⟨d, .load t x, ty, pos, af, g⟩ :: l) fs st :=
 zah (zbd hu hd h) hx hg hr k
theorem lN {t bt : TypeId} {ds : TypeDesc} {o off m : Nat} {cs es : List AV} (hu : P.underlying t = some ds) (hd : ds.isRow = true) (hi : (P.info? t).map (·.size) = some m) (hx : (⟨d, .load t x, ty, pos, af, g⟩ : Oper).op.operands.toList.map st.ev = [.ref o off]) (hg : zbz ops ⟨d, .load t x, ty, pos, af, g⟩ st = some true)
  (hr : Rds st [(o, .live (.box bt cs))]) (k : ARun P ops K l (fs ++ [([o], [])]) (st.put d (.agg es))) (hk : off + m ≤ cs.length := by first | exact Nat.le_of_ble_eq_true rfl | omega | (simp only [AV.cells, List.length_map]; omega)) (h : (cs.drop off).take m = es := by first | exact take_all (by first | assumption | exact Nat.eq_of_beq_eq_true rfl | (simp only [AV.cells, List.length_map]; first | assumption | omega)) | (simp only [List.take_succ_cons, List.take_zero, List.drop_succ_cons, List.drop_zero]; rfl) | rfl) : ARun P ops K (⟨d, .load t x, ty, pos, af, g⟩ :: l) fs st :=
 zah (zb9 hu hd hi hk h) hx hg hr k
theorem mb2 {o : Oper} {xs' : List AV} {rds : List (Nat × Slot)} {r : AV} (b : Bool) (hg : zbz ops o st = some b) (hx : (o.op.operands.toList.map st.ev).map AV.strip = xs')
  (h : b = true → AOp P o xs' rds [] r) (hr : b = true → Rds st rds) (k : ARun P ops K l (fs ++ [(rds.map Prod.fst, [])]) (st.put o.dst (.mb b r)))
  (hs : StripOK b (o.op.operands.toList.map st.ev) := by (repeat (first | exact zd4 | refine zcI id ?_ | refine zfw ?_ | refine zd2 ?_ | refine zd1 ?_ | refine zd3 ?_ | refine zd5 ?_ | refine zcI (by simp_all) ?_ | refine StripOK.plain _ _ rfl ?_))) : ARun P ops K (o :: l) fs st := r_mb2 b hg hx hs h hr k
theorem tx {w0 : World} {A : Ctx} {nt : Nat} {Q : Exit → St → Prop} {id : Nat} (h : ARun P l.toArray (fun _ st' => Q .normal st') l [] st) (hd : dstOK nt l = true := by kernel_rfl) : awp ⟨P, w0, A, nt⟩ (.region id l.toArray false) Q st := zaN hd h
theorem fT {rs : List ResultVar} {res : AV} {news : List (Nat × AObj)} {e : Exit} {vals : List AV} (ρ : Nat → Nat) (h : ResIs P st rs vals) (hv : (oneA vals).view (zfJ ρ news) st.heap = res.ren ρ) (ho : LeO ρ st (news.map Prod.fst) news)
  (he : e = .normal ∨ e = .ret := by first | exact .inl rfl | exact .inr rfl) (hk : res.okIn (news.map Prod.fst) = true := by exact rfl) (hn : zbT (news.map fun p => ρ p.1) = true := by exact rfl) : Fin P rs res news e st :=
 ⟨he, vals, ρ, h, hv, hk, ho, hn⟩
end
section
variable {P : Program} {ops : Array Oper} {K : List Foot → St → Prop} {l : List Oper} {fs : List Foot} {st : St} {d : Option Tmp} {ty : TypeId} {pos : String} {af : Array Edge} {gd : Option (Nat × Bool)}
theorem cS {x : Operand} {args : Array Operand} {ts : Array TypeId} {f : FuncId} {fn : Func} {us cs : List AV} {res : AV} {news : List (Nat × AObj)} (ρ : Nat → Nat) (hC : Fn P f us res news) (hf : P.funcs[f]? = some fn) {r : AV} {wrs : List (Nat × Slot)}
  (k : ARun P ops K l (fs ++ [(news.map (fun p => ρ p.1), news.map fun p => ρ p.1)]) ((st.upd wrs).put d r))
  (hx : st.ev x = .fn f cs := by rfl) (hxs : args.toList.map st.ev ++ cs = us := by rfl) (hb : fn.body.isNone = false := by rfl) (hn : (fn.name == "runtime.NumGoroutine") = false := by rfl)
  (h1 : AV.okInL [] us = true := by first | rfl | simp [AV.okInL, AV.okIn, zan]) (h3 : res.okIn (news.map Prod.fst) = true := by rfl) (h4 : zbT (news.map Prod.fst) = true := by rfl) (h5 : zbT (news.map fun p => ρ p.1) = true := by rfl)
  (hun : Rds st (news.map fun p => (ρ p.1, .un)) := by first | exact trivial | exact ⟨rfl, trivial⟩ | exact ⟨rfl, rfl, trivial⟩ | exact ⟨rfl, rfl, rfl, rfl, rfl, trivial⟩) (hg : zbz ops ⟨d, .call { callee := .value x, args := args, argTypes := ts }, ty, pos, af, gd⟩ st = some true := by rfl) (hr : res.ren ρ = r := by rfl) (hw : zbq ρ news = wrs := by rfl) :
  ARun P ops K (⟨d, .call { callee := .value x, args := args, argTypes := ts }, ty, pos, af, gd⟩ :: l) fs st := zas ρ hC hx hxs hf hb hn h1 h3 h4 h5 hun hg hr hw k
theorem yV {x : Operand} {args : Array Operand} {ts : Array TypeId} {f : FuncId} {fn : Func} {us cs : List AV} {res : AV} {news : List (Nat × AObj)} (ρ : Nat → Nat) (hC : Fn P f us res news) (hf : P.funcs[f]? = some fn) {r : AV} {wrs : List (Nat × Slot)}
  (k : ARun P ops K l (fs ++ [(AV.objsL (args.toList.map st.ev ++ cs) ++ news.map (fun p => ρ p.1), news.map fun p => ρ p.1)]) ((st.upd wrs).put d r))
  (hx : st.ev x = .fn f cs := by rfl) (hxs : AV.viewL (fun _ => false) st.heap (args.toList.map st.ev ++ cs) = us := by rfl) (hb : fn.body.isNone = false := by rfl) (hn : (fn.name == "runtime.NumGoroutine") = false := by rfl)
  (h1 : res.noSl = true := by first | rfl | simp [AV.noSl, AV.noSlL, AObj.noSl, PV.isV, zaq]) (h2 : news.all (fun p => p.2.noSl) = true := by first | rfl | simp [AV.noSl, AV.noSlL, AObj.noSl, PV.isV, zaq]) (h3 : res.okIn (news.map Prod.fst) = true := by rfl) (h4 : zbT (news.map Prod.fst) = true := by rfl) (h5 : zbT (news.map fun p => ρ p.1) = true := by rfl)
  (hun : Rds st (news.map fun p => (ρ p.1, .un)) := by first | exact trivial | exact ⟨rfl, trivial⟩ | exact ⟨rfl, rfl, trivial⟩ | exact ⟨rfl, rfl, rfl, rfl, rfl, trivial⟩) (hg : zbz ops ⟨d, .call { callee := .value x, args := args, argTypes := ts }, ty, pos, af, gd⟩ st = some true := by rfl) (hr : res.ren ρ = r := by rfl) (hw : zbq ρ news = wrs := by rfl) :
  ARun P ops K (⟨d, .call { callee := .value x, args := args, argTypes := ts }, ty, pos, af, gd⟩ :: l) fs st := zaC ρ hC hx hxs hf hb hn h1 h2 h3 h4 h5 hun hg hr hw k
theorem wM {x : Operand} {v : PV} (e : ((⟨d, .move x, ty, pos, af, gd⟩ : Oper).op.operands.toList.map st.ev, zbz ops ⟨d, .move x, ty, pos, af, gd⟩ st) = ([.p v], some true)) (k : ARun P ops K l (fs ++ [([], [])]) (st.put d (.p v))) : ARun P ops K (⟨d, .move x, ty, pos, af, gd⟩ :: l) fs st := mP (congrArg Prod.fst e) (congrArg Prod.snd e) k
theorem wA {x : Operand} {v : PV} (e : ((⟨d, .assign x, ty, pos, af, gd⟩ : Oper).op.operands.toList.map st.ev, zbz ops ⟨d, .assign x, ty, pos, af, gd⟩ st) = ([.p v], some true)) (k : ARun P ops K l (fs ++ [([], [])]) (st.put d (.p v))) : ARun P ops K (⟨d, .assign x, ty, pos, af, gd⟩ :: l) fs st := aP (congrArg Prod.fst e) (congrArg Prod.snd e) k
theorem wF {x : Operand} {s : TypeId} {f off j o p : Nat} (h : zbg P s f = some (off, j + 1)) (e : ((⟨d, .fieldAddr s x f, ty, pos, af, gd⟩ : Oper).op.operands.toList.map st.ev, zbz ops ⟨d, .fieldAddr s x f, ty, pos, af, gd⟩ st) = ([.ref o p], some true)) (n : ARun P ops K l (fs ++ [([], [])]) (st.put d (.ref o (p + off)))) : ARun P ops K (⟨d, .fieldAddr s x f, ty, pos, af, gd⟩ :: l) fs st := fA h (congrArg Prod.fst e) (congrArg Prod.snd e) n
theorem wL {x : Operand} {t bt : TypeId} {ds : TypeDesc} {o off : Nat} {cs : List AV} {r : AV} (hu : P.underlying t = some ds) (e : (ds.isRow, (⟨d, .load t x, ty, pos, af, gd⟩ : Oper).op.operands.toList.map st.ev, zbz ops ⟨d, .load t x, ty, pos, af, gd⟩ st, st.heap o, cs[off]?) = (false, [.ref o off], some true, .live (.box bt cs), some r)) (k : ARun P ops K l (fs ++ [([o], [])]) (st.put d r)) : ARun P ops K (⟨d, .load t x, ty, pos, af, gd⟩ :: l) fs st := by
 simp only [Prod.mk.injEq] at e
 exact l1 hu e.1 e.2.1 e.2.2.1 ⟨e.2.2.2.1, trivial⟩ k e.2.2.2.2
theorem wN {x : Operand} {t bt : TypeId} {ds : TypeDesc} {o off m : Nat} {cs es : List AV} (hu : P.underlying t = some ds) (hi : (P.info? t).map (·.size) = some m) (e : (ds.isRow, (⟨d, .load t x, ty, pos, af, gd⟩ : Oper).op.operands.toList.map st.ev, zbz ops ⟨d, .load t x, ty, pos, af, gd⟩ st, st.heap o) = (true, [.ref o off], some true, .live (.box bt cs))) (k : ARun P ops K l (fs ++ [([o], [])]) (st.put d (.agg es))) (hk : off + m ≤ cs.length := by first | exact Nat.le_of_ble_eq_true rfl | omega | (simp only [AV.cells, List.length_map]; omega)) (h : (cs.drop off).take m = es := by first | exact take_all (by first | assumption | exact Nat.eq_of_beq_eq_true rfl | (simp only [AV.cells, List.length_map]; first | assumption | omega)) | (simp only [List.take_succ_cons, List.take_zero, List.drop_succ_cons, List.drop_zero]; rfl) | rfl) : ARun P ops K (⟨d, .load t x, ty, pos, af, gd⟩ :: l) fs st := by
 simp only [Prod.mk.injEq] at e
 exact lN hu e.1 hi e.2.1 e.2.2.1 ⟨e.2.2.2, trivial⟩ k hk h
theorem wP {o : Oper} {xs : List AV} {r : AV} (h : AOp P o xs [] [] r) (e : (o.op.operands.toList.map st.ev, zbz ops o st) = (xs, some true)) (k : ARun P ops K l (fs ++ [([], [])]) (st.put o.dst r)) : ARun P ops K (o :: l) fs st := zac h (congrArg Prod.fst e) (congrArg Prod.snd e) k
theorem wG {o : Oper} {xs : List AV} {a : Nat × Slot} {wrs : List (Nat × Slot)} {r : AV} (h : AOp P o xs [a] wrs r) (e : (o.op.operands.toList.map st.ev, zbz ops o st, st.heap a.1) = (xs, some true, a.2)) (k : ARun P ops K l (fs ++ [([a.1], wrs.map Prod.fst)]) ((st.upd wrs).put o.dst r)) : ARun P ops K (o :: l) fs st := by
 simp only [Prod.mk.injEq] at e
 exact zah h e.1 e.2.1 ⟨e.2.2, trivial⟩ k
theorem wS {o : Oper} (hg : zbz ops o st = some false) (k : ARun P ops K l (fs ++ [([], [])]) (st.put o.dst (.mb false (.p (.v (.bool false)))))) : ARun P ops K (o :: l) fs st := zad hg k
theorem qK {p : Prop} (h : p := by kernel_rfl) : p := h
theorem qO {p : Prop} (h : p := by omega) : p := h
theorem qD {p : Prop} (h : p := by decide) : p := h
theorem qS {p : Prop} (h : p := by simp) : p := h
theorem qE {a b : Nat} (h : Nat.ble a b = true) : a ≤ b := Nat.le_of_ble_eq_true h
theorem yT {st : St} {rs : List ResultVar} {res : AV} {news : List (Nat × AObj)} {e : Exit} {t : Tmp} {x : AV} (hv : (oneA [x]).view (zfJ (fun o => o) news) st.heap = res.ren fun o => o) (ho : LeO (fun o => o) st (news.map Prod.fst) news) (h1 : st.tmps t = x := by rfl) (h2 : rs = [.tmp t] := by rfl)
  (he : e = .normal ∨ e = .ret := by first | exact .inl rfl | exact .inr rfl) (hk : res.okIn (news.map Prod.fst) = true := by exact rfl) (hn : zbT (news.map fun p => p.1) = true := by exact rfl) : Fin P rs res news e st := by
 subst h2
 exact fT (fun o => o) (.tmp _ _ _ _ h1 .nil) hv ho he hk hn
end
end Go.Proofs.YtkdfdcodkeclmaaGreatDoor
