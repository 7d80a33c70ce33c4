/- The machine over data: pointers: nil checks, comparisons, the conversions that strings.Builder uses. The machine over data: what is compared with itself; operations whose guard is known. -/
import Derived.Test.YtkdfdcodkeclmaaGreatDoorSMa3
import Derived.Lib.Builder
import Derived.Lib.UnsafeStr
import Derived.Laws.Externs
import Derived.LoopN
import Derived.Test.YtkdfdcodkeclmaaGreatDoorSTab
namespace Go.Proofs.YtkdfdcodkeclmaaGreatDoor
open Go.RowKit Go.Sort
set_option linter.unusedVariables false
section
variable {P : Program} {d : Option Tmp} {ty : TypeId} {pos : String} {af : Array Edge} {g : Option (Nat × Bool)}
theorem zb1 {x : Operand} {o off : Nat} : AOp P ⟨d, .nilCheck x, ty, pos, af, g⟩ [.ref o off] [] [] (.ref o off) :=
 zaE fun S m w ev hr => by
  have h := zb2 (u := ev x) hr
  have h' := h
  simp only [Rep] at h
  obtain ⟨b, v0, h1, h2, h3⟩ := h
  exact ⟨.pointer (some ⟨b, off, none⟩), by simp only [execOp, h3, Sem.run_pure], by rw [← h3]; exact h'⟩
section
variable {xt yt : TypeId} {x y : Operand} {e : TypeId}
end
def zfJ : Value → Bool
 | .bool _ => true
 | _ => false
theorem guard_slc (op : BinOp) (t : TypeId) (x y : Operand) (a b : Option Addr) (n c m k : Nat) (w : World) : (eqGuard op t x y (.slice a n c) (.slice b m k)).run P w = .ok () w := by
 unfold eqGuard
 cases op <;> rfl
section
variable {xt yt : TypeId} {x y : Operand} {e : TypeId}
theorem run_slcNil (w : World) (hu : P.underlying xt = some (.slice e)) (a : Option Addr) (n c : Nat) : (Op.equal xt (.slice a n c) (.slice none 0 0)).run P w = .ok a.isNone w := by
 show (Op.equalIn (9999 + 1) xt (.slice a n c) (.slice none 0 0)).run P w = .ok a.isNone w
 generalize 9999 = d
 cases a <;> simp [Op.equalIn, run_underlying hu]
theorem bin_slcEq (w : World) (hu : P.underlying xt = some (.slice e)) (a : Option Addr) (n c : Nat) : (binOp .eql xt (.slice a n c) (.slice none 0 0)).run P w = .ok (.bool a.isNone) w := by
 simp only [binOp, Sem.run_bind, run_slcNil w hu, Result.andThen_ok, Sem.run_pure]
theorem exec_slc {op : BinOp} {S : Nat → Prop} {m : Nat → Option Value} {w : World} {ev : Operand → Value} {X R : AV} {f : Option Addr → Bool} (hb : ∀ a n c, (binOp op xt (.slice a n c) (.slice none 0 0)).run P w = .ok (.bool (f a)) w)
  (hr : RepL S m w [X, .p (.v (.slice none 0 0))] [ev x, ev y]) (k : ∀ u, Rep S m w X u → ∃ a n c, u = .slice a n c ∧ Rep S m w R (.bool (f a))) : ∃ v, (execOp ev ⟨d, .binOp op xt x y yt, ty, pos, af, g⟩).run P w = .ok (.value v) w ∧ Rep S m w R v := by
 obtain ⟨h1, h2⟩ := zcn (u := ev x) (v := ev y) hr
 obtain ⟨a, n, c, h3, h4⟩ := k _ h1
 exact ⟨.bool (f a), by simp only [execOp, h3, zbu h2, Sem.run_bind, guard_slc, Result.andThen_ok, hb, Sem.run_pure], h4⟩
theorem rep_sat {S : Nat → Prop} {m : Nat → Option Value} {w : World} {b : Bool} : Rep S m w (.sat zfJ) (.bool b) := by simp [Rep, zfJ, Value.oneCell']
theorem sl_some {S : Nat → Prop} {m : Nat → Option Value} {w : World} {n size : Nat} {cs : List PV} {u : Value} (hn : 0 < n) (h : Rep S m w (.p (.sl n size cs)) u) : ∃ a n c, u = .slice (some a) n c := by
 simp only [Rep, PRep] at h
 obtain ⟨a, cap, vs, rfl, _, _, _, h5⟩ := h
 rcases h5 with h5 | ⟨b, off, rfl, _⟩
 ·omega
 ·exact ⟨_, _, _, rfl⟩
theorem sl_slc {S : Nat → Prop} {m : Nat → Option Value} {w : World} {n size : Nat} {cs : List PV} {u : Value} (h : Rep S m w (.p (.sl n size cs)) u) : ∃ a n c, u = .slice a n c := by
 simp only [Rep, PRep] at h
 obtain ⟨a, cap, vs, rfl, _⟩ := h
 exact ⟨_, _, _, rfl⟩
theorem a_seqS {n size : Nat} {cs : List PV} (hu : P.underlying xt = some (.slice e)) (hn : 0 < n) : AOp P ⟨d, .binOp .eql xt x y yt, ty, pos, af, g⟩ [.p (.sl n size cs), .p (.v (.slice none 0 0))] [] [] (.p (.v (.bool false))) :=
 zaE fun S m w ev hr => exec_slc (fun a n c => bin_slcEq w hu a n c) hr fun u h => let ⟨a, n, c, h⟩ := sl_some hn h; ⟨some a, n, c, h, za5 rfl⟩
theorem a_seqX {n size : Nat} {cs : List PV} (hu : P.underlying xt = some (.slice e)) : AOp P ⟨d, .binOp .eql xt x y yt, ty, pos, af, g⟩ [.p (.sl n size cs), .p (.v (.slice none 0 0))] [] [] (.sat zfJ) :=
 zaE fun S m w ev hr => exec_slc (fun a n c => bin_slcEq w hu a n c) hr fun u h => let ⟨a, n, c, h⟩ := sl_slc h; ⟨a, n, c, h, rep_sat⟩
end
theorem awp_condX {G : Env} {Q : Exit → St → Prop} {st : St} {c : Operand} {x y : Code} (hc : st.ev c = .sat zfJ) (h1 : awp G x Q st) (h2 : awp G y Q st) : awp G (.cond c x y) Q st := by
 intro a w hs
 obtain ⟨S, m, hm, hj, ht⟩ := hs.mem
 have := ev_rep ht c
 rw [hc] at this
 simp only [Rep] at this
 have h3 := this.1
 cases hv : a.eval c <;> rw [hv] at h3 <;> simp only [zfJ, Bool.false_eq_true] at h3
 exact wp_cond_split hv (fun _ => h1 a w hs) (fun _ => h2 a w hs)
end
section
variable {P : Program} {d : Option Tmp} {ty : TypeId} {pos : String} {af : Array Edge} {g : Option (Nat × Bool)} {xt yt : TypeId} {x y : Operand}
theorem zaY {k : IntKind} {a : Int} : AOp P ⟨d, .binOp .eql xt x y yt, ty, pos, af, g⟩ [.p (.v (.int k a)), .p (.v (.int k a))] [] [] (.p (.v (.bool true))) := by
 have h : AOp P ⟨d, .binOp .eql xt x y yt, ty, pos, af, g⟩ [.p (.v (.int k a)), .p (.v (.int k a))] [] [] (.p (.v (.bool (a == a)))) := zbp
 rwa [beq_self_eq_true] at h
theorem zcF {k : IntKind} {a : Int} : AOp P ⟨d, .binOp .neq xt x y yt, ty, pos, af, g⟩ [.p (.v (.int k a)), .p (.v (.int k a))] [] [] (.p (.v (.bool false))) := by
 have h : AOp P ⟨d, .binOp .neq xt x y yt, ty, pos, af, g⟩ [.p (.v (.int k a)), .p (.v (.int k a))] [] [] (.p (.v (.bool (a != a)))) := a_neq
 rwa [bne_self_eq_false] at h
theorem a_seqlT {s : ByteArray} : AOp P ⟨d, .binOp .eql xt x y yt, ty, pos, af, g⟩ [.p (.v (.string s)), .p (.v (.string s))] [] [] (.p (.v (.bool true))) := by
 have h : AOp P ⟨d, .binOp .eql xt x y yt, ty, pos, af, g⟩ [.p (.v (.string s)), .p (.v (.string s))] [] [] (.p (.v (.bool (decide (s = s))))) := a_seql
 rwa [decide_eq_true rfl] at h
theorem a_sneqT {s : ByteArray} : AOp P ⟨d, .binOp .neq xt x y yt, ty, pos, af, g⟩ [.p (.v (.string s)), .p (.v (.string s))] [] [] (.p (.v (.bool false))) := by
 have h : AOp P ⟨d, .binOp .neq xt x y yt, ty, pos, af, g⟩ [.p (.v (.string s)), .p (.v (.string s))] [] [] (.p (.v (.bool (!decide (s = s))))) := a_sneq
 rwa [decide_eq_true rfl] at h
theorem zf4 {c a b : Operand} {X Y : AV} : AOp P ⟨d, .pick c a b, ty, pos, af, g⟩ [.p (.v (.bool true)), X, Y] [] [] X :=
 zaE fun S m w ev hr => by
  obtain ⟨k1, k2, k3⟩ := repL3 (u := ev c) (v := ev a) (t := ev b) hr
  exact ⟨_, by simp [execOp, zbu k1, asBool], k2⟩
theorem zf5 {c a b : Operand} {X Y : AV} : AOp P ⟨d, .pick c a b, ty, pos, af, g⟩ [.p (.v (.bool false)), X, Y] [] [] Y :=
 zaE fun S m w ev hr => by
  obtain ⟨k1, k2, k3⟩ := repL3 (u := ev c) (v := ev a) (t := ev b) hr
  exact ⟨_, by simp [execOp, zbu k1, asBool], k3⟩
end
theorem zfo {P : Program} {d : Option Tmp} {ty : TypeId} {pos : String} {af : Array Edge} {g : Option (Nat × Bool)} {x : Operand} {args : Array Operand} {ts : Array TypeId} {f : FuncId} {fn : Func} {xs cs : List AV} {res : AV} (hf : P.funcs[f]? = some fn) (hb : fn.body.isNone = false) (hn : (fn.name == "runtime.NumGoroutine") = false)
  (hC : Fn P f (xs ++ cs) res []) (h1 : AV.okInL [] (xs ++ cs) = true) (h3 : res.okIn [] = true) :
  AOp P ⟨d, .call { callee := .value x, args := args, argTypes := ts }, ty, pos, af, g⟩ (.fn f cs :: xs) [] [] res := by
 have h := a_callS (P := P) (d := d) (ty := ty) (pos := pos) (af := af) (g := g) (x := x) (args := args) (ts := ts) (fun o => o) hf hb hn hC h1 h3 rfl rfl
 rw [zgg] at h
 exact h
theorem zey {P : Program} {w0 : World} {A : Ctx1} {nt : Nat} {c d : Code} {Q : Exit → St → Prop} {st : St} (st1 : St) (h : awp ⟨P, w0, ctx0 A, nt⟩ c (Thn (fun st' => Re st' st1) Q) st) (k : awp ⟨P, w0, ctx0 A, nt⟩ d Q st1) : awp ⟨P, w0, ctx0 A, nt⟩ c (Thn (awp ⟨P, w0, ctx0 A, nt⟩ d Q) Q) st :=
 zgX h fun e st' hq => by
  cases e with
  | normal => exact zaM hq k
  | _ => exact hq
def structTs (P : Program) (t : Nat) : Option (List TypeId) := match P.underlying t with
 | some (.struct fs) => some (fs.toList.map (·.type))
 | _ => none
def TyL (P : Program) (n : Nat) : List TypeId → List (List PV) → Prop
 | [], L => L = []
 | t :: ts, L => ∃ x L', L = x :: L' ∧ Ty P n t x ∧ TyL P n ts L'
theorem tyL_mk {P : Program} {n : Nat} : ∀ {fs : List Field} {L : List (List PV)}, L.length = fs.length → (∀ (i : Nat) (f : Field) x, fs[i]? = some f → L[i]? = some x → Ty P n f.type x ∧ x.length = P.cellsOf f.type) → TyL P n (fs.map (·.type)) L
 | [], [], _, _ => rfl
 | [], _ :: _, h, _ => by simp at h
 | _ :: _, [], h, _ => by simp at h
 | f :: fs, x :: L, h, k => by
  refine ⟨x, L, rfl, (k 0 f x (by simp) (by simp)).1, tyL_mk (by simpa using h) fun i f' x' h1 h2 => k (i + 1) f' x' (by simpa using h1) (by simpa using h2)⟩
theorem zdk {P : Program} {n t : Nat} {ts : List TypeId} {ps : List PV} (hu : structTs P t = some ts) (hT : Ty P (n + 1) t ps) : ∃ L : List (List PV), ps = L.flatten ∧ TyL P n ts L := by
 unfold structTs at hu
 unfold Ty at hT
 cases hq : P.underlying t with
 | none => simp [hq] at hu
 | some u =>
  simp only [hq] at hu hT
  cases u <;> simp at hu
  rename_i fs
  obtain ⟨L, rfl, hl, hL⟩ := hT
  subst hu
  exact ⟨L, rfl, tyL_mk (by simpa using hl) fun i f x h1 h2 => hL i f x (by simpa using h1) h2⟩
def zeW : List AV → Option (List Value)
 | [] => some []
 | .p (.v x) :: l => (zeW l).map (x :: ·)
 | .agg cs :: l => (zbP cs).bind fun xs => (zeW l).map (.agg xs.toArray :: ·)
 | _ :: _ => none
theorem zdw {S : Nat → Prop} {m : Nat → Option Value} {w : World} : ∀ {cs : List AV} {xs us : List Value}, zeW cs = some xs → RepL S m w cs us → us = xs
 | [], xs, us, h, hr => by
  simp only [zeW, Option.some.injEq] at h
  simp only [RepL] at hr
  rw [hr, ← h]
 | c :: cs, xs, us, h, hr => by
  simp only [RepL] at hr
  obtain ⟨u, us, rfl, h2, h3⟩ := hr
  cases c with
  | p x =>
   cases x with
   | v x =>
    simp only [zeW] at h
    cases hq : zeW cs with
    | none => simp [hq] at h
    | some zs =>
     simp only [hq, Option.map_some, Option.some.injEq] at h
     rw [zbu h2, zdw hq h3, h]
   | _ => simp [zeW] at h
  | agg ds =>
   simp only [zeW] at h
   cases hv : zbP ds with
   | none => simp [hv] at h
   | some vs =>
    cases hq : zeW cs with
    | none => simp [hv, hq] at h
    | some zs =>
     simp only [hv, hq, Option.bind_some, Option.map_some, Option.some.injEq] at h
     simp only [Rep] at h2
     obtain ⟨ws, e1, e2, _⟩ := h2
     rw [zcP hv e2] at e1
     rw [e1, zdw hq h3, h]
  | _ => simp [zeW] at h
theorem zfl {P : Program} {f : FuncId} {args : List AV} {vs : List Value} {res : AV} {r : Value} (ha : zeW args = some vs) (hr : ∀ S m w, Rep S m w res r) (h : Gives P f vs.toArray r) : Fn P f args res [] := by
 intro w A us hA hG hus
 rw [zdw ha hus]
 refine (h w).mono ?_
 rintro e w' ⟨rfl, hb⟩
 exact ⟨r, rfl, A, fun _ => none, hr _ _ _, hb, fun b hb => .inl hb, fun b h => Nat.lt_of_lt_of_le (hA b h) hb.size, fun o _ => rfl, fun o ob ho => (by cases ho), fun o o' ob ob' v v' b ho => (by cases ho), hG⟩
theorem za1 {P : Program} {ops : Array Oper} {K : List Foot → St → Prop} {o : Oper} {l : List Oper} {fs : List Foot} {st : St} (hg : zaz ops o st = some false) (k : ARun P ops K l (fs ++ [([], [])]) (st.put o.dst (.mb false (.p (.v (.bool false)))))) : ARun P ops K (o :: l) fs st :=
 ⟨([], []), _, .skip _ _ hg (fun _ _ _ => by simp [Rep]), k⟩
section
variable {P : Program} {ops : Array Oper} {K : List Foot → St → Prop} {l : List Oper} {fs : List Foot} {st : St} {d : Option Tmp} {ty : TypeId} {pos : String} {af : Array Edge} {g : Option (Nat × Bool)} {x : Operand}
theorem mP {v : PV} (hx : (⟨d, .move x, ty, pos, af, g⟩ : Oper).op.operands.toList.map st.ev = [.p v]) (hg : zaz ops ⟨d, .move x, ty, pos, af, g⟩ st = some true)
  (k : ARun P ops K l (fs ++ [([], [])]) (st.put d (.p v))) : ARun P ops K (⟨d, .move x, ty, pos, af, g⟩ :: l) fs st := zaa zaJ hx hg k
theorem aP {v : PV} (hx : (⟨d, .assign x, ty, pos, af, g⟩ : Oper).op.operands.toList.map st.ev = [.p v]) (hg : zaz ops ⟨d, .assign x, ty, pos, af, g⟩ st = some true)
  (k : ARun P ops K l (fs ++ [([], [])]) (st.put d (.p v))) : ARun P ops K (⟨d, .assign x, ty, pos, af, g⟩ :: l) fs st := zaa zbg hx hg k
theorem fA {s : TypeId} {f off k o p : Nat} (h : zbe P s f = some (off, k + 1)) (hx : (⟨d, .fieldAddr s x f, ty, pos, af, g⟩ : Oper).op.operands.toList.map st.ev = [.ref o p]) (hg : zaz ops ⟨d, .fieldAddr s x f, ty, pos, af, g⟩ st = some true)
  (n : ARun P ops K l (fs ++ [([], [])]) (st.put d (.ref o (p + off)))) : ARun P ops K (⟨d, .fieldAddr s x f, ty, pos, af, g⟩ :: l) fs st := zaa (zf1 h rfl) hx hg n
theorem l1 {t bt : TypeId} {ds : TypeDesc} {o off : Nat} {cs : List AV} {r : AV} (hu : P.underlying t = some ds) (hd : ds.isRow = false) (hx : (⟨d, .load t x, ty, pos, af, g⟩ : Oper).op.operands.toList.map st.ev = [.ref o off]) (hg : zaz ops ⟨d, .load t x, ty, pos, af, g⟩ st = some true)
  (hr : Rds st [(o, .live (.box bt cs))]) (k : ARun P ops K l (fs ++ [([o], [])]) (st.put d r)) (h : cs[off]? = some r := by first | rfl | assumption) : ARun P ops K (⟨d, .load t x, ty, pos, af, g⟩ :: l) fs st :=
 zac (zcM hu hd h) hx hg hr k
theorem lN {t bt : TypeId} {ds : TypeDesc} {o off m : Nat} {cs es : List AV} (hu : P.underlying t = some ds) (hd : ds.isRow = true) (hi : (P.info? t).map (·.size) = some m) (hx : (⟨d, .load t x, ty, pos, af, g⟩ : Oper).op.operands.toList.map st.ev = [.ref o off]) (hg : zaz ops ⟨d, .load t x, ty, pos, af, g⟩ st = some true)
  (hr : Rds st [(o, .live (.box bt cs))]) (k : ARun P ops K l (fs ++ [([o], [])]) (st.put d (.agg es))) (hk : off + m ≤ cs.length := by first | exact Nat.le_of_ble_eq_true rfl | omega | (simp only [AV.cells, List.length_map]; omega)) (h : (cs.drop off).take m = es := by first | exact take_all (by first | assumption | exact Nat.eq_of_beq_eq_true rfl | (simp only [AV.cells, List.length_map]; first | assumption | omega)) | (simp only [List.take_succ_cons, List.take_zero, List.drop_succ_cons, List.drop_zero]; rfl) | rfl) : ARun P ops K (⟨d, .load t x, ty, pos, af, g⟩ :: l) fs st :=
 zac (zbJ hu hd hi hk h) hx hg hr k
theorem mb2 {o : Oper} {xs' : List AV} {rds : List (Nat × Slot)} {r : AV} (b : Bool) (hg : zaz ops o st = some b) (hx : (o.op.operands.toList.map st.ev).map AV.strip = xs')
  (h : b = true → AOp P o xs' rds [] r) (hr : b = true → Rds st rds) (k : ARun P ops K l (fs ++ [(rds.map Prod.fst, [])]) (st.put o.dst (.mb b r)))
  (hs : StripOK b (o.op.operands.toList.map st.ev) := by (repeat (first | exact zc0 | refine zbK id ?_ | refine stripOK_p ?_ | refine zft ?_ | refine zfs ?_ | refine zfu ?_ | refine zfv ?_ | refine zbK (by simp_all) ?_ | refine StripOK.plain _ _ rfl ?_))) : ARun P ops K (o :: l) fs st := r_mb2 b hg hx hs h hr k
theorem tx {w0 : World} {A : Ctx} {nt : Nat} {Q : Exit → St → Prop} {id : Nat} (h : ARun P l.toArray (fun _ st' => Q .normal st') l [] st) (hd : dstOK nt l = true := by kernel_rfl) : awp ⟨P, w0, A, nt⟩ (.region id l.toArray false) Q st := awp_text hd h
theorem fT {rs : List ResultVar} {res : AV} {news : List (Nat × AObj)} {e : Exit} {vals : List AV} (ρ : Nat → Nat) (h : ResIs P st rs vals) (hv : (oneA vals).view (zen ρ news) st.heap = res.ren ρ) (ho : LeO ρ st (news.map Prod.fst) news)
  (he : e = .normal ∨ e = .ret := by first | exact .inl rfl | exact .inr rfl) (hk : res.okIn (news.map Prod.fst) = true := by exact rfl) (hn : za8 (news.map fun p => ρ p.1) = true := by exact rfl) : Fin P rs res news e st :=
 ⟨he, vals, ρ, h, hv, hk, ho, hn⟩
end
section
variable {P : Program} {d : Option Tmp} {ty : TypeId} {pos : String} {af : Array Edge} {g : Option (Nat × Bool)} {xt yt : TypeId} {x y : Operand} {k : IntKind} {a b : Int} {c : Bool}
theorem zbk (h : decide (b < a) = c) : AOp P ⟨d, .binOp .gtr xt x y yt, ty, pos, af, g⟩ [.p (.v (.int k a)), .p (.v (.int k b))] [] [] (.p (.v (.bool c))) :=
 zb7 (zaX _ _ _ _ _ _ _ _) (fun w => by subst h; simp [binOp, Op.intCmp]) rfl
theorem zaN (h : decide (a < b) = c) : AOp P ⟨d, .binOp .lss xt x y yt, ty, pos, af, g⟩ [.p (.v (.int k a)), .p (.v (.int k b))] [] [] (.p (.v (.bool c))) :=
 zb7 (zaX _ _ _ _ _ _ _ _) (fun w => by subst h; simp [binOp, Op.intCmp]) rfl
theorem zaA (h : (a == b) = c) : AOp P ⟨d, .binOp .eql xt x y yt, ty, pos, af, g⟩ [.p (.v (.int k a)), .p (.v (.int k b))] [] [] (.p (.v (.bool c))) :=
 zb7 (zaX _ _ _ _ _ _ _ _) (fun w => by subst h; simp [binOp, Op.intCmp]) rfl
theorem zao (h : (a != b) = c) : AOp P ⟨d, .binOp .neq xt x y yt, ty, pos, af, g⟩ [.p (.v (.int k a)), .p (.v (.int k b))] [] [] (.p (.v (.bool c))) :=
 zb7 (zaX _ _ _ _ _ _ _ _) (fun w => by subst h; simp [binOp, Op.intCmp]) rfl
theorem zah {s t : ByteArray} (h : decide (s = t) = c) : AOp P ⟨d, .binOp .eql xt x y yt, ty, pos, af, g⟩ [.p (.v (.string s)), .p (.v (.string t))] [] [] (.p (.v (.bool c))) :=
 zb7 (zcs _ _ _ _ _ _) (fun w => by subst h; simp only [binOp, Op.stringOp, zdK, Sem.run_pure]) rfl
theorem zae {s t : ByteArray} (h : (!decide (s = t)) = c) : AOp P ⟨d, .binOp .neq xt x y yt, ty, pos, af, g⟩ [.p (.v (.string s)), .p (.v (.string t))] [] [] (.p (.v (.bool c))) :=
 zb7 (zcs _ _ _ _ _ _) (fun w => by subst h; simp only [binOp, Op.stringOp, zdK, Sem.run_pure]) rfl
end
theorem awp_cT {G : Env} {Q : Exit → St → Prop} {st : St} {c : Operand} {x y : Code} (hc : st.ev c = .p (.v (.bool true))) (h1 : awp G x Q st) : awp G (.cond c x y) Q st :=
 zab true hc (fun _ => h1) (fun h => by cases h)
theorem zbA {G : Env} {Q : Exit → St → Prop} {st : St} {c : Operand} {x y : Code} (hc : st.ev c = .p (.v (.bool false))) (h1 : awp G y Q st) : awp G (.cond c x y) Q st :=
 zab false hc (fun h => by cases h) (fun _ => h1)
section
variable {P : Program} {d : Option Tmp} {ty : TypeId} {pos : String} {af : Array Edge} {g : Option (Nat × Bool)}
theorem zam {t yt : TypeId} {x y : Operand} {cs ds : List AV} {xs ys : List Value} {fs : Array Field} {c : Bool} (hu : P.underlying t = some (.struct fs)) (hx : zbP cs = some xs) (hy : zbP ds = some ys) (hg : P.eqGuardType P.depth t = false) (h1 : okS P 20 t xs = true) (h2 : okS P 20 t ys = true) (hc : (!eqL xs ys) = c) :
  AOp P ⟨d, .binOp .neq t x y yt, ty, pos, af, g⟩ [.agg cs, .agg ds] [] [] (.p (.v (.bool c))) := by
 subst hc
 exact zcL hu hx hy hg h1 h2
theorem zez {t yt : TypeId} {x y : Operand} {cs ds : List AV} {xs ys : List Value} {fs : Array Field} {c : Bool} (hu : P.underlying t = some (.struct fs)) (hx : zbP cs = some xs) (hy : zbP ds = some ys) (hg : P.eqGuardType P.depth t = false) (h1 : okS P 20 t xs = true) (h2 : okS P 20 t ys = true) (hc : eqL xs ys = c) :
  AOp P ⟨d, .binOp .eql t x y yt, ty, pos, af, g⟩ [.agg cs, .agg ds] [] [] (.p (.v (.bool c))) := by
 subst hc
 exact a_steql hu hx hy hg h1 h2
end
def W (_ : List Nat) (q p : Prop) : Prop := q → p
section
variable {c : List Nat} {q p r : Prop} {st : St} {Q : Exit → St → Prop}
theorem Gg.n {n : Nat} (h : r → p) (k : W (n :: c) q r) : W ((n + 1) :: c) q p := fun x => h (k x)
theorem Gg.c1 (h : r → p) (k : W c q r) : W (0 :: 1 :: c) q p := fun x => h (k x)
theorem Gg.c2 (h : r → p) (k : W c q r) : W (0 :: 2 :: c) q p := fun x => h (k x)
theorem Gg.c3 (h : r → p) (k : W c q r) : W (0 :: 3 :: c) q p := fun x => h (k x)
theorem Gg.c9 (k : W c q p) : W (0 :: 9 :: c) q p := k
theorem Gg.z : W [0] p p := id
theorem Gg.f1 {K : St → Prop} (k : W c q (K st)) : W c q (Thn K Q .normal st) := k
theorem Gg.f2 {K : St → Prop} (k : W c q (Q .ret st)) : W c q (Thn K Q .ret st) := k
theorem Gg.f3 {K : St → Prop} {i : Nat} (k : W c q (Q (.exit i) st)) : W c q (Thn K Q (.exit i) st) := k
theorem Gg.f4 {i : Nat} (k : W c q (Q .normal st)) : W c q (InB i Q .normal st) := k
theorem Gg.f5 {i : Nat} (k : W c q (Q .ret st)) : W c q (InB i Q .ret st) := k
theorem Gg.f6 {i : Nat} (k : W c q (Q .normal st)) : W c q (InB i Q (.exit i) st) := fun x => zer (k x)
theorem Gg.f7 {i j : Nat} (h : Nat.beq j i = false) (k : W c q (Q (.exit j) st)) : W c q (InB i Q (.exit j) st) := fun x => zf6 h (k x)
end
section
variable {P : Program} {ops : Array Oper} {l : List Oper} {fs : List Foot} {st : St} {d : Option Tmp} {ty : TypeId} {pos : String} {af : Array Edge} {gd : Option (Nat × Bool)}
theorem Gg.ni {Q : Exit → St → Prop} (h : Q .normal st) : ARun P ops (fun _ st' => Q .normal st') [] fs st := h
theorem Gg.nd {Q : Exit → St → Prop} {nt fuel : Nat} (h1 : zc6 nt fuel ops fs = true) (h : Q .normal st) : ARun P ops (fun fs st' => zc6 nt fuel ops fs = true ∧ Q .normal st') [] fs st := ⟨h1, h⟩
variable {K : List Foot → St → Prop}
theorem Gg.pu {o : Oper} {xs : List AV} {r : AV} (h : AOp P o xs [] [] r) (e : (o.op.operands.toList.map st.ev, zaz ops o st) = (xs, some true)) (k : ARun P ops K l (fs ++ [([], [])]) (st.put o.dst r)) : ARun P ops K (o :: l) fs st := zaa h (congrArg Prod.fst e) (congrArg Prod.snd e) k
theorem Gg.r1 {o : Oper} {xs : List AV} {a : Nat × Slot} {wrs : List (Nat × Slot)} {r : AV} (h : AOp P o xs [a] wrs r) (e : (o.op.operands.toList.map st.ev, zaz ops o st, st.heap a.1) = (xs, some true, a.2)) (k : ARun P ops K l (fs ++ [([a.1], wrs.map Prod.fst)]) ((st.upd wrs).put o.dst r)) : ARun P ops K (o :: l) fs st := by
 simp only [Prod.mk.injEq] at e
 exact zac h e.1 e.2.1 ⟨e.2.2, trivial⟩ k
theorem Gg.sk {o : Op} {gd : Nat × Bool} (hg : zaz ops ⟨d, o, ty, pos, af, some gd⟩ st = some false) (k : ARun P ops K l (fs ++ [([], [])]) (st.put d (.mb false (.p (.v (.bool false)))))) : ARun P ops K (⟨d, o, ty, pos, af, some gd⟩ :: l) fs st := za1 hg k
theorem Gg.fa {x : Operand} {s : TypeId} {f off j o p : Nat} [h : FI P s f (off, j + 1)] (e : ([st.ev x], zaz ops ⟨d, .fieldAddr s x f, ty, pos, af, gd⟩ st) = ([.ref o p], some true)) (n : ARun P ops K l (fs ++ [([], [])]) (st.put d (.ref o (p + off)))) : ARun P ops K (⟨d, .fieldAddr s x f, ty, pos, af, gd⟩ :: l) fs st := fA h.h (congrArg Prod.fst e) (congrArg Prod.snd e) n
theorem Gg.fb {x : Operand} {s : TypeId} {f off j : Nat} {cs : List PV} [h : FI P s f (off, j + 1)] (e : ([st.ev x], zaz ops ⟨d, .fieldAddr s x f, ty, pos, af, gd⟩ st) = ([.ptr cs], some true)) (n : ARun P ops K l (fs ++ [([], [])]) (st.put d (.ptr (cs.drop off)))) : ARun P ops K (⟨d, .fieldAddr s x f, ty, pos, af, gd⟩ :: l) fs st := Gg.pu (zbN h.h rfl) e n
theorem Gg.ld {x : Operand} {t bt : TypeId} {o off : Nat} {cs : List AV} {r : AV} [hu : RW P t false] (e : ([st.ev x], zaz ops ⟨d, .load t x, ty, pos, af, gd⟩ st, st.heap o) = ([.ref o off], some true, .live (.box bt cs))) (h : cs[off]? = some r) (k : ARun P ops K l (fs ++ [([o], [])]) (st.put d r)) : ARun P ops K (⟨d, .load t x, ty, pos, af, gd⟩ :: l) fs st := by
 obtain ⟨ds, h1, h2⟩ := hu.h
 simp only [Prod.mk.injEq] at e
 exact l1 h1 h2 e.1 e.2.1 ⟨e.2.2, trivial⟩ k h
theorem Gg.ln {x : Operand} {t bt : TypeId} {o off m : Nat} {cs es : List AV} [hu : RW P t true] [hi : SZ P t m] (e : ([st.ev x], zaz ops ⟨d, .load t x, ty, pos, af, gd⟩ st, st.heap o) = ([.ref o off], some true, .live (.box bt cs))) (hk : off + m ≤ cs.length) (h : (cs.drop off).take m = es) (k : ARun P ops K l (fs ++ [([o], [])]) (st.put d (.agg es))) : ARun P ops K (⟨d, .load t x, ty, pos, af, gd⟩ :: l) fs st := by
 obtain ⟨ds, h1, h2⟩ := hu.h
 simp only [Prod.mk.injEq] at e
 exact lN h1 h2 hi.h e.1 e.2.1 ⟨e.2.2, trivial⟩ k hk h
theorem Gg.ex {x : Operand} {i : Nat} {vs : List AV} {r : AV} (e : ([st.ev x], zaz ops ⟨d, .extract x i, ty, pos, af, gd⟩ st) = ([.tup vs], some true)) (h : vs[i]? = some r) (k : ARun P ops K l (fs ++ [([], [])]) (st.put d r)) : ARun P ops K (⟨d, .extract x i, ty, pos, af, gd⟩ :: l) fs st := Gg.pu (zaU h) e k
theorem Gg.bx {x : Operand} {t : TypeId} {X : AV} {n : Nat} (e : ([st.ev x], zaz ops ⟨some n, .box t x, ty, pos, af, gd⟩ st, st.heap n) = ([X], some true, .un)) (hX : X.stor = true) (k : ARun P ops K l (fs ++ [([n], [n])]) ((st.upd [(n, .live (.box t X.cells))]).put (some n) (.ref n 0))) : ARun P ops K (⟨some n, .box t x, ty, pos, af, gd⟩ :: l) fs st := Gg.r1 (a := (n, .un)) (zeB n hX) e k
theorem Gg.al {t : TypeId} {z : Value} {n : Nat} [hz : ZR P t z] (e : (([] : List AV), zaz ops ⟨some n, .alloc t, ty, pos, af, gd⟩ st, st.heap n) = ([], some true, .un)) (hX : (zbz z).stor = true) (k : ARun P ops K l (fs ++ [([n], [n])]) ((st.upd [(n, .live (.box t (zbz z).cells))]).put (some n) (.ref n 0))) : ARun P ops K (⟨some n, .alloc t, ty, pos, af, gd⟩ :: l) fs st := Gg.r1 (a := (n, .un)) (zaV n hz.h hX) e k
theorem Gg.bu {t : TypeId} {parts : Array (Nat × Operand)} {z : Value} {places : List (Nat × Nat)} {xs es : List AV} [hp : PL P t places] [hz : ZR P t z] (e : ((⟨d, .build t parts, ty, pos, af, gd⟩ : Oper).op.operands.toList.map st.ev, zaz ops ⟨d, .build t parts, ty, pos, af, gd⟩ st, (zbz z).stor) = (xs, some true, true)) (hf : zeT (fun i => places[i]?) (zbz z).cells ((parts.toList.map Prod.fst).zip xs) = some es) (k : ARun P ops K l (fs ++ [([], [])]) (st.put d (.agg es))) : ARun P ops K (⟨d, .build t parts, ty, pos, af, gd⟩ :: l) fs st := by
 simp only [Prod.mk.injEq] at e
 exact zaa (zgW hp.h hz.h e.2.2 hf) e.1 e.2.1 k
theorem Gg.sa {x y : Operand} {t bt : TypeId} {o j : Nat} {cs : List AV} {Y : AV} [hi : SZ P t j] (e : ([st.ev x, st.ev y], zaz ops ⟨d, .store t x y, ty, pos, af, gd⟩ st, st.heap o) = ([.ref o 0, Y], some true, .live (.box bt cs))) (hY : Y.stor = true) (hl : Y.cells.length = j) (hc : cs.length = j) (k : ARun P ops K l (fs ++ [([o], [o])]) ((st.upd [(o, .live (.box bt Y.cells))]).put d .any)) : ARun P ops K (⟨d, .store t x y, ty, pos, af, gd⟩ :: l) fs st := Gg.r1 (a := (o, .live (.box bt cs))) (zap hi.h hY hl hc) e k
theorem Gg.an {c a b : Operand} {t t' y : Bool} (e : ([st.ev c, st.ev a, st.ev b], zaz ops ⟨d, .pick c a b, ty, pos, af, gd⟩ st) = ([.p (.v (.bool t)), .mb t' (.p (.v (.bool y))), .p (.v (.bool false))], some true)) (ht : t = true → t' = true) (k : ARun P ops K l (fs ++ [([], [])]) (st.put d (.p (.v (.bool (t && y)))))) : ARun P ops K (⟨d, .pick c a b, ty, pos, af, gd⟩ :: l) fs st := Gg.pu (a_and ht) e k
theorem Gg.or {c a b : Operand} {t t' y : Bool} (e : ([st.ev c, st.ev a, st.ev b], zaz ops ⟨d, .pick c a b, ty, pos, af, gd⟩ st) = ([.p (.v (.bool t)), .p (.v (.bool true)), .mb t' (.p (.v (.bool y)))], some true)) (ht : t = false → t' = true) (k : ARun P ops K l (fs ++ [([], [])]) (st.put d (.p (.v (.bool (t || y)))))) : ARun P ops K (⟨d, .pick c a b, ty, pos, af, gd⟩ :: l) fs st := Gg.pu (a_or ht) e k
theorem Gg.mp {o : Op} {gd : Nat × Bool} {xs' : List AV} {r : AV} {b : Bool} (e : (zaz ops ⟨d, o, ty, pos, af, some gd⟩ st, (o.operands.toList.map st.ev).map AV.strip) = (some b, xs')) (h : AOp P ⟨d, o, ty, pos, af, some gd⟩ xs' [] [] r) (hs : StripOK b (o.operands.toList.map st.ev)) (k : ARun P ops K l (fs ++ [([], [])]) (st.put d (.mb b r))) : ARun P ops K (⟨d, o, ty, pos, af, some gd⟩ :: l) fs st := r_mb2 b (congrArg Prod.fst e) (congrArg Prod.snd e) hs (fun _ => h) (fun _ => trivial) k
theorem Gg.ml {x : Operand} {t bt : TypeId} {o off : Nat} {cs : List AV} {gd : Nat × Bool} {r : AV} {b : Bool} [hu : RW P t false] (e : (zaz ops ⟨d, .load t x, ty, pos, af, some gd⟩ st, [(st.ev x).strip], st.heap o) = (some b, [.ref o off], .live (.box bt cs))) (h : cs[off]? = some r) (hs : StripOK b [st.ev x]) (k : ARun P ops K l (fs ++ [([o], [])]) (st.put d (.mb b r))) : ARun P ops K (⟨d, .load t x, ty, pos, af, some gd⟩ :: l) fs st := by
 obtain ⟨ds, h1, h2⟩ := hu.h
 simp only [Prod.mk.injEq] at e
 exact r_mb2 (rds := [(o, .live (.box bt cs))]) b e.1 e.2.1 hs (fun _ => zcM h1 h2 h) (fun _ => ⟨e.2.2, trivial⟩) k
theorem Gg.mf {x : Operand} {s : TypeId} {f off j o p : Nat} {gd : Nat × Bool} {b : Bool} [h : FI P s f (off, j + 1)] (e : (zaz ops ⟨d, .fieldAddr s x f, ty, pos, af, some gd⟩ st, [(st.ev x).strip]) = (some b, [.ref o p])) (hs : StripOK b [st.ev x]) (k : ARun P ops K l (fs ++ [([], [])]) (st.put d (.mb b (.ref o (p + off))))) : ARun P ops K (⟨d, .fieldAddr s x f, ty, pos, af, some gd⟩ :: l) fs st := Gg.mp e (zf1 h.h rfl) hs k
theorem fnI {f : FuncId} {fn : Func} {c : Code} {args : List AV} {res : AV} {news : List (Nat × AObj)} [hf : FU P f fn] (h : ∀ w0 A, awp ⟨P, w0, ctx0 A, fn.ntmps⟩ c (Fin P fn.results.toList res news) (St.of (zfb 0 args) [])) (hb : fn.body = some c := by exact rfl) (hn : args.length ≤ fn.ntmps := by exact Nat.le_of_ble_eq_true rfl) : Fn P f args res news := zda hf.h hb hn h
theorem fnIO {f : FuncId} {fn : Func} {c : Code} {args : List AV} {res : AV} {rds wrs : List (Nat × Slot)} [hf : FU P f fn] (h : ∀ w0 A heap, awp ⟨P, w0, A, fn.ntmps⟩ c (FinO P fn.results.toList res heap wrs) ⟨zcd (zfb 0 args), updL heap rds⟩) (hb : fn.body = some c := by exact rfl) (hn : args.length ≤ fn.ntmps := by exact Nat.le_of_ble_eq_true rfl) : FnO P f args rds wrs res := zfS hf.h hb hn h
theorem cK {x : Operand} {args : Array Operand} {ts : Array TypeId} {f : FuncId} {fn : Func} {us cs : List AV} {res : AV} {news : List (Nat × AObj)} {n : Nat} (hC : Fn P f us res news) [hf : FU P f fn] {r : AV} {wrs : List (Nat × Slot)}
  (k : ARun P ops K l (fs ++ [(news.map (fun p => n + 1000 * p.1), news.map fun p => n + 1000 * p.1)]) ((st.upd wrs).put (some n) r))
  (hx : st.ev x = .fn f cs := by exact rfl) (hxs : args.toList.map st.ev ++ cs = us := by exact rfl) (hb : fn.body.isNone = false := by exact rfl) (hn : (fn.name == "runtime.NumGoroutine") = false := by exact rfl)
  (h1 : AV.okInL [] us = true := by first | rfl | simp [AV.okInL, AV.okIn, zaj]) (h3 : res.okIn (news.map Prod.fst) = true := by exact rfl) (h4 : za8 (news.map Prod.fst) = true := by exact rfl) (h5 : za8 (news.map fun p => n + 1000 * p.1) = true := by exact rfl)
  (hun : Rds st (news.map fun p => (n + 1000 * p.1, .un)) := by first | exact trivial | exact ⟨rfl, trivial⟩ | exact ⟨rfl, rfl, trivial⟩ | exact ⟨rfl, rfl, rfl, rfl, rfl, trivial⟩) (hg : zaz ops ⟨some n, .call { callee := .value x, args := args, argTypes := ts }, ty, pos, af, gd⟩ st = some true := by exact rfl) (hr : res.ren (fun m => n + 1000 * m) = r := by exact rfl) (hw : zaR (fun m => n + 1000 * m) news = wrs := by exact rfl) :
  ARun P ops K (⟨some n, .call { callee := .value x, args := args, argTypes := ts }, ty, pos, af, gd⟩ :: l) fs st := zaw (fun m => n + 1000 * m) hC hx hxs hf.h hb hn h1 h3 h4 h5 hun hg hr hw k
theorem cV {x : Operand} {args : Array Operand} {ts : Array TypeId} {f : FuncId} {fn : Func} {us cs : List AV} {res : AV} {news : List (Nat × AObj)} {n : Nat} (hC : Fn P f us res news) [hf : FU P f fn] {r : AV} {wrs : List (Nat × Slot)}
  (k : ARun P ops K l (fs ++ [(AV.objsL (args.toList.map st.ev ++ cs) ++ news.map (fun p => n + 1000 * p.1), news.map fun p => n + 1000 * p.1)]) ((st.upd wrs).put (some n) r))
  (hx : st.ev x = .fn f cs := by exact rfl) (hxs : AV.viewL (fun _ => false) st.heap (args.toList.map st.ev ++ cs) = us := by exact rfl) (hb : fn.body.isNone = false := by exact rfl) (hn : (fn.name == "runtime.NumGoroutine") = false := by exact rfl)
  (h1 : res.noSl = true := by first | rfl | simp [AV.noSl, AV.noSlL, AObj.noSl, PV.isV, zcK]) (h2 : news.all (fun p => p.2.noSl) = true := by first | rfl | simp [AV.noSl, AV.noSlL, AObj.noSl, PV.isV, zcK]) (h3 : res.okIn (news.map Prod.fst) = true := by exact rfl) (h4 : za8 (news.map Prod.fst) = true := by exact rfl) (h5 : za8 (news.map fun p => n + 1000 * p.1) = true := by exact rfl)
  (hun : Rds st (news.map fun p => (n + 1000 * p.1, .un)) := by first | exact trivial | exact ⟨rfl, trivial⟩ | exact ⟨rfl, rfl, trivial⟩ | exact ⟨rfl, rfl, rfl, rfl, rfl, trivial⟩) (hg : zaz ops ⟨some n, .call { callee := .value x, args := args, argTypes := ts }, ty, pos, af, gd⟩ st = some true := by exact rfl) (hr : res.ren (fun m => n + 1000 * m) = r := by exact rfl) (hw : zaR (fun m => n + 1000 * m) news = wrs := by exact rfl) :
  ARun P ops K (⟨some n, .call { callee := .value x, args := args, argTypes := ts }, ty, pos, af, gd⟩ :: l) fs st := zcq (fun m => n + 1000 * m) hC hx hxs hf.h hb hn h1 h2 h3 h4 h5 hun hg hr hw k
theorem Gg.y1 {a t : Nat} {l : List ResultVar} {o bt : Nat} {c : AV} {xs : List AV} [h : RW P t false] (h1 : st.tmps a = .ref o 0) (h2 : st.heap o = .live (.box bt [c])) (h3 : ResIs P st l xs) : ResIs P st (.cell a t :: l) (c :: xs) := by
 obtain ⟨ds, k1, k2⟩ := h.h
 exact .cell1 _ _ _ _ _ _ _ _ h1 h2 k1 k2 h3
theorem Gg.y2 {a t : Nat} {l : List ResultVar} {o bt j : Nat} {cs : List AV} {xs : List AV} [h : RW P t true] [hi : SZ P t j] (h1 : st.tmps a = .ref o 0) (h2 : st.heap o = .live (.box bt cs)) (hc : cs.length = j) (h3 : ResIs P st l xs) : ResIs P st (.cell a t :: l) (.agg cs :: xs) := by
 obtain ⟨ds, k1, k2⟩ := h.h
 exact .cellN _ _ _ _ _ _ _ _ _ h1 h2 k1 k2 hi.h hc h3
theorem yT {rs : List ResultVar} {res : AV} {e : Exit} {vals : List AV} {news : List (Nat × AObj)} (ρ : Nat → Nat) (hv : (oneA vals).view (zen ρ news) st.heap = res.ren ρ) (ho : LeO ρ st (news.map Prod.fst) news) (h : ResIs P st rs vals := by repeat (first | exact ResIs.nil | (apply ResIs.tmp; exact rfl) | (apply Gg.y1; exact rfl; exact rfl) | (apply Gg.y2; exact rfl; exact rfl; (first | assumption | kernel_rfl))))
  (he : e = .normal ∨ e = .ret := by first | exact .inl rfl | exact .inr rfl) (hk : res.okIn (news.map Prod.fst) = true := by exact rfl) (hn : za8 (news.map fun p => ρ p.1) = true := by exact rfl) : Fin P rs res news e st := fT ρ h hv ho he hk hn
theorem yE {rs : List ResultVar} {res : AV} {e : Exit} {vals : List AV} {news : List (Nat × AObj)} (h : ResIs P st rs vals := by repeat (first | exact ResIs.nil | (apply ResIs.tmp; exact rfl) | (apply Gg.y1; exact rfl; exact rfl) | (apply Gg.y2; exact rfl; exact rfl; (first | assumption | kernel_rfl))))
  (hv : (oneA vals).view (zen (fun o => o) news) st.heap = res.ren fun o => o := by exact rfl) (ho : LeO (fun o => o) st (news.map Prod.fst) news := by exact trivial) (he : e = .normal ∨ e = .ret := by first | exact .inl rfl | exact .inr rfl) (hk : res.okIn (news.map Prod.fst) = true := by exact rfl) (hn : za8 (news.map fun p => p.1) = true := by exact rfl) : Fin P rs res news e st := fT (fun o => o) h hv ho he hk hn
end
set_option maxRecDepth 100000
theorem G {p q : Prop} (c : List Nat) (k : q) (h : W c q p := by
 repeat (first
  | (with_reducible apply Gg.z)
  | (with_reducible apply Gg.f1)
  | (with_reducible apply Gg.f2)
  | (with_reducible apply Gg.f3)
  | (with_reducible apply Gg.f4)
  | (with_reducible apply Gg.f5)
  | (with_reducible apply Gg.f6)
  | ((with_reducible apply Gg.f7); exact rfl)
  | ((with_reducible apply Gg.n); first
   | ((with_reducible apply Gg.ni))
   | ((with_reducible apply zag))
   | ((with_reducible apply awp_text); kernel_rfl)
   | ((with_reducible apply Gg.pu (zbg (r := .p _))); exact rfl)
   | ((with_reducible apply Gg.pu (zaJ (r := .p _))); exact rfl)
   | ((with_reducible apply Gg.sk); exact rfl)
   | ((with_reducible apply Gg.fa); exact rfl)
   | ((with_reducible apply Gg.ld); exact rfl; (first | exact rfl | assumption))
   | ((with_reducible apply Gg.pu zf5); exact rfl)
   | ((with_reducible apply Gg.pu zf4); exact rfl)
   | ((with_reducible apply zbA); exact rfl)
   | ((with_reducible apply awp_cT); exact rfl)
   | ((with_reducible apply zaC))
   | ((with_reducible apply zaS))
   | ((with_reducible apply za2))
   | ((with_reducible apply zbs))
   | ((with_reducible apply Gg.ln); exact rfl; (first | exact Nat.le_of_ble_eq_true rfl | omega | (simp only [AV.cells, List.length_map]; omega)); (first | exact take_all (by first | assumption | exact Nat.eq_of_beq_eq_true rfl | (simp only [AV.cells, List.length_map]; first | assumption | omega)) | (simp only [List.take_succ_cons, List.take_zero, List.drop_succ_cons, List.drop_zero]; rfl) | rfl))
   | ((with_reducible apply Gg.pu zbp); exact rfl)
   | ((with_reducible apply Gg.pu a_neq); exact rfl)
   | ((with_reducible apply Gg.pu a_lss); exact rfl)
   | ((with_reducible apply Gg.pu a_leq); exact rfl)
   | ((with_reducible apply Gg.pu a_gtr); exact rfl)
   | ((with_reducible apply Gg.pu a_geq); exact rfl)
   | ((with_reducible apply Gg.pu a_seql); exact rfl)
   | ((with_reducible apply Gg.pu a_sneq); exact rfl)
   | ((with_reducible apply Gg.pu a_not); exact rfl)
   | ((with_reducible apply Gg.ex); exact rfl; exact rfl)
   | ((with_reducible apply Gg.pu (zaJ (r := .row _))); exact rfl)
   | ((with_reducible apply Gg.pu (zbg (r := .row _))); exact rfl)
   | ((with_reducible apply Gg.pu (zaJ (r := .tup _))); exact rfl)
   | ((with_reducible apply Gg.pu (zbg (r := .tup _))); exact rfl)
   | ((with_reducible apply Gg.pu (zaJ (r := .ref _ _))); exact rfl)
   | ((with_reducible apply Gg.pu (zbg (r := .ref _ _))); exact rfl)
   | ((with_reducible apply Gg.pu (zaJ (r := .agg _))); exact rfl)
   | ((with_reducible apply Gg.pu (zbg (r := .agg _))); exact rfl)
   | ((with_reducible apply Gg.pu (zaJ (r := .psl _ _ _ _))); exact rfl)
   | ((with_reducible apply Gg.pu (zbg (r := .psl _ _ _ _))); exact rfl)
   | ((with_reducible apply Gg.pu (zaJ (r := .ptr _))); exact rfl)
   | ((with_reducible apply Gg.pu (zbg (r := .ptr _))); exact rfl)
   | ((with_reducible apply Gg.pu (zaJ (r := .fn _ _))); exact rfl)
   | ((with_reducible apply Gg.pu (zbg (r := .fn _ _))); exact rfl)
   | ((with_reducible apply Gg.bx); exact rfl; exact rfl)
   | ((with_reducible apply Gg.al); exact rfl; exact rfl)
   | ((with_reducible apply Gg.bu); exact rfl; exact rfl)
   | ((with_reducible apply Gg.sa); exact rfl; exact rfl; (first | exact Nat.eq_of_beq_eq_true rfl | (simp only [AV.cells, List.length_map]; first | assumption | omega)); exact Nat.eq_of_beq_eq_true rfl)
   | ((with_reducible apply Gg.fb); exact rfl)
   | ((with_reducible apply zfm 4); kernel_rfl)
   | ((with_reducible apply Gg.nd); kernel_rfl)
   | ((with_reducible apply Gg.pu zb1); exact rfl)
   | ((with_reducible apply Gg.pu (zaJ (r := .mb _ _))); exact rfl)
   | ((with_reducible apply Gg.pu (zbg (r := .mb _ _))); exact rfl)
   | ((with_reducible apply Gg.pu (zaJ (r := .mp _))); exact rfl)
   | ((with_reducible apply Gg.pu (zbg (r := .mp _))); exact rfl)
   | ((with_reducible apply Gg.pu (zaJ (r := .sat _))); exact rfl)
   | ((with_reducible apply Gg.pu (zbg (r := .sat _))); exact rfl)
   | ((with_reducible apply Gg.pu (zaJ (r := .any))); exact rfl)
   | ((with_reducible apply Gg.pu (zbg (r := .any))); exact rfl)
   | ((with_reducible apply Gg.mp); exact rfl; (first | apply zaJ (r := .p _) | apply zbp | apply a_neq | apply a_lss | apply a_gtr | apply a_leq | apply a_geq | apply a_seql | apply a_sneq | apply a_not); (repeat (first | exact zc0 | refine zbK id ?_ | refine stripOK_p ?_ | refine zft ?_ | refine zfs ?_ | refine zfu ?_ | refine zfv ?_ | refine zbK (by simp_all) ?_ | refine StripOK.plain _ _ rfl ?_)))
   | ((with_reducible apply Gg.ml); exact rfl; (first | exact rfl | assumption); (repeat (first | exact zc0 | refine zbK id ?_ | refine zbK (by simp_all) ?_ | refine StripOK.plain _ _ rfl ?_)))
   | ((with_reducible apply Gg.mf); exact rfl; (repeat (first | exact zc0 | refine zbK id ?_ | refine zbK (by simp_all) ?_ | refine StripOK.plain _ _ rfl ?_))))
  | ((with_reducible apply Gg.c1); first
   | ((with_reducible apply Gg.pu zaY); exact rfl)
   | ((with_reducible apply Gg.pu zcF); exact rfl)
   | ((with_reducible apply Gg.pu a_seqlT); exact rfl)
   | ((with_reducible apply Gg.pu a_sneqT); exact rfl))
  | (with_reducible apply Gg.c9)
  | ((with_reducible apply Gg.c2); first
   | ((with_reducible apply Gg.an); exact rfl; (first | exact id | (simp; done) | grind))
   | ((with_reducible apply Gg.or); exact rfl; (first | exact id | (simp; done) | grind))))) : p := h k
end Go.Proofs.YtkdfdcodkeclmaaGreatDoor
