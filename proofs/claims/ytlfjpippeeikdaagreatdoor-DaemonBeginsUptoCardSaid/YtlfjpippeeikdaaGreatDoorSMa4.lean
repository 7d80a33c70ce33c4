/- Used. -/
import Derived.Test.YtlfjpippeeikdaaGreatDoorSTab
import Derived.Lib.Builder
import Derived.Lib.UnsafeStr
import Derived.Laws.Externs
import Derived.LoopN
set_option maxRecDepth 100000
set_option linter.all false
namespace Go.Proofs.YtlfjpippeeikdaaGreatDoor
open Go.RowKit
open Go.Sort
section
variable {P : Program} {d : Option Tmp} {ty : TypeId} {pos : String} {af : Array Edge} {g : Option (Nat × Bool)}
theorem zf3 {x : Operand} {o off : Nat} : AOp P ⟨d, .nilCheck x, ty, pos, af, g⟩ [.ref o off] [] [] (.ref o off) :=
 zaC fun S m w ev hr => by
  have h := zcy (u := ev x) hr
  have h' := h
  simp only [Rep] at h
  obtain ⟨b, v0, h1, h2, h3⟩ := h
  exact ⟨.pointer (some ⟨b, off, none⟩), by simp only [execOp, h3, qbq], by rw [← h3]; exact h'⟩
theorem zbq {x : Operand} {cs : List PV} : AOp P ⟨d, .nilCheck x, ty, pos, af, g⟩ [.p (.pt cs)] [] [] (.ptr cs) :=
 zaC fun S m w ev hr => by
  have h := zcy (u := ev x) hr
  simp only [Rep, PRep] at h
  obtain ⟨b, off, vs, h1, h2, h3, h4⟩ := h
  exact ⟨.pointer (some ⟨b, off, none⟩), by simp only [execOp, h1, qbq], by simp only [Rep]; exact ⟨b, off, vs, rfl, h2, h3, h4⟩⟩
theorem zcZ {x y : Operand} {t e : TypeId} {k len : Nat} {kk : IntKind} {i : Int} {cs ds : List PV} (hu : P.underlying t = some (.array len e)) (hi : (P.info? e).map (·.size) = some k) (h0 : 0 ≤ i) (h1 : i < len) (hd : cs.drop (i.toNat * k) = ds) :
 AOp P ⟨d, .indexAddr t x y, ty, pos, af, g⟩ [.ptr cs, .p (.v (.int kk i))] [] [] (.ptr ds) :=
 zaC fun S m w ev hr => by
  obtain ⟨hx, hy⟩ := zcj (u := ev x) (v := ev y) hr
  simp only [Rep] at hx
  obtain ⟨b, o, vs, h1', h2, h3, h4⟩ := hx
  refine ⟨.pointer (some ⟨b, o + i.toNat * k, none⟩), by simp [execOp, h1', za8 hy, zgI hu hi h0 h1], ?_⟩
  simp only [Rep]
  refine ⟨b, o + i.toNat * k, vs.drop (i.toNat * k), rfl, h2, hd ▸ h3.drop (i.toNat * k), fun j v hj => ?_⟩
  rw [qbN] at hj
  rw [qcL]
  exact h4 _ v hj
theorem zfP (op : BinOp) (t : TypeId) (x y : Operand) (a b : Option Addr) (w : World) : (eqGuard op t x y (.pointer a) (.pointer b)).run P w = .ok () w := by
 unfold eqGuard
 cases op <;> rfl
section
variable {xt yt : TypeId} {x y : Operand} {e : TypeId}
theorem zif (w : World) (hu : P.underlying xt = some (.pointer e)) (a : Addr) : (Op.equal xt (.pointer (some a)) (.pointer none)).run P w = .ok false w := by
 show (Op.equalIn (9999 + 1) xt (.pointer (some a)) (.pointer none)).run P w = .ok false w
 generalize 9999 = d
 simp [Op.equalIn, run_underlying hu]
theorem zig (w : World) (hu : P.underlying xt = some (.pointer e)) : (Op.equal xt (.pointer none) (.pointer none)).run P w = .ok true w := by
 show (Op.equalIn (9999 + 1) xt (.pointer none) (.pointer none)).run P w = .ok true w
 generalize 9999 = d
 simp [Op.equalIn, run_underlying hu]
theorem a_peqNN (hu : P.underlying xt = some (.pointer e)) : AOp P ⟨d, .binOp .eql xt x y yt, ty, pos, af, g⟩ [.p (.v (.pointer none)), .p (.v (.pointer none))] [] [] (.p (.v (.bool true))) :=
 zcm (zfP _ _ _ _ _ _) (fun w => by simp only [binOp, qbp, zig w hu, qbi, qbq]) rfl
theorem a_pneNN (hu : P.underlying xt = some (.pointer e)) : AOp P ⟨d, .binOp .neq xt x y yt, ty, pos, af, g⟩ [.p (.v (.pointer none)), .p (.v (.pointer none))] [] [] (.p (.v (.bool false))) :=
 zcm (zfP _ _ _ _ _ _) (fun w => by simp only [binOp, qbp, zig w hu, qbi, qbq]; rfl) rfl
theorem a_peqPN {cs : List PV} (hu : P.underlying xt = some (.pointer e)) : AOp P ⟨d, .binOp .eql xt x y yt, ty, pos, af, g⟩ [.p (.pt cs), .p (.v (.pointer none))] [] [] (.p (.v (.bool false))) :=
 zaC fun S m w ev hr => by
  obtain ⟨h1, h2⟩ := zcj (u := ev x) (v := ev y) hr
  simp only [Rep, PRep] at h1
  obtain ⟨b, off, vs, h3, _⟩ := h1
  exact ⟨.bool false, by simp only [execOp, h3, za8 h2, qbp, zfP, qbi, binOp, zif w hu, qbq], za1 rfl⟩
theorem a_pnePN {cs : List PV} (hu : P.underlying xt = some (.pointer e)) : AOp P ⟨d, .binOp .neq xt x y yt, ty, pos, af, g⟩ [.p (.pt cs), .p (.v (.pointer none))] [] [] (.p (.v (.bool true))) :=
 zaC fun S m w ev hr => by
  obtain ⟨h1, h2⟩ := zcj (u := ev x) (v := ev y) hr
  simp only [Rep, PRep] at h1
  obtain ⟨b, off, vs, h3, _⟩ := h1
  exact ⟨.bool true, by simp only [execOp, h3, za8 h2, qbp, zfP, qbi, binOp, zif w hu, qbq]; rfl, za1 rfl⟩
end
theorem re_of0 {st : St} (ts : List (Nat × AV)) (h1 : LeT id st [] ts) : Re st (St.of ts []) := zae id ts [] h1 trivial rfl
def zhH : Value → Bool
 | .bool _ => true
 | _ => false
theorem guard_slc (op : BinOp) (t : TypeId) (x y : Operand) (a b : Option Addr) (n c m k : Nat) (w : World) : (eqGuard op t x y (.slice a n c) (.slice b m k)).run P w = .ok () w := by
 unfold eqGuard
 cases op <;> rfl
section
variable {xt yt : TypeId} {x y : Operand} {e : TypeId}
theorem run_slcNil (w : World) (hu : P.underlying xt = some (.slice e)) (a : Option Addr) (n c : Nat) : (Op.equal xt (.slice a n c) (.slice none 0 0)).run P w = .ok a.isNone w := by
 show (Op.equalIn (9999 + 1) xt (.slice a n c) (.slice none 0 0)).run P w = .ok a.isNone w
 generalize 9999 = d
 cases a <;> simp [Op.equalIn, run_underlying hu]
theorem bin_slcEq (w : World) (hu : P.underlying xt = some (.slice e)) (a : Option Addr) (n c : Nat) : (binOp .eql xt (.slice a n c) (.slice none 0 0)).run P w = .ok (.bool a.isNone) w := by
 simp only [binOp, qbp, run_slcNil w hu, qbi, qbq]
theorem exec_slc {op : BinOp} {S : Nat → Prop} {m : Nat → Option Value} {w : World} {ev : Operand → Value} {X R : AV} {f : Option Addr → Bool} (hb : ∀ a n c, (binOp op xt (.slice a n c) (.slice none 0 0)).run P w = .ok (.bool (f a)) w)
 (hr : RepL S m w [X, .p (.v (.slice none 0 0))] [ev x, ev y]) (k : ∀ u, Rep S m w X u → ∃ a n c, u = .slice a n c ∧ Rep S m w R (.bool (f a))) : ∃ v, (execOp ev ⟨d, .binOp op xt x y yt, ty, pos, af, g⟩).run P w = .ok (.value v) w ∧ Rep S m w R v := by
 obtain ⟨h1, h2⟩ := zcj (u := ev x) (v := ev y) hr
 obtain ⟨a, n, c, h3, h4⟩ := k _ h1
 exact ⟨.bool (f a), by simp only [execOp, h3, za8 h2, qbp, guard_slc, qbi, hb, qbq], h4⟩
theorem rep_sat {S : Nat → Prop} {m : Nat → Option Value} {w : World} {b : Bool} : Rep S m w (.sat zhH) (.bool b) := by simp [Rep, zhH, Value.oneCell']
theorem sl_some {S : Nat → Prop} {m : Nat → Option Value} {w : World} {n size : Nat} {cs : List PV} {u : Value} (hn : 0 < n) (h : Rep S m w (.p (.sl n size cs)) u) : ∃ a n c, u = .slice (some a) n c := by
 simp only [Rep, PRep] at h
 obtain ⟨a, cap, vs, rfl, _, _, _, h5⟩ := h
 rcases h5 with h5 | ⟨b, off, rfl, _⟩
 ·omega
 ·exact ⟨_, _, _, rfl⟩
theorem sl_slc {S : Nat → Prop} {m : Nat → Option Value} {w : World} {n size : Nat} {cs : List PV} {u : Value} (h : Rep S m w (.p (.sl n size cs)) u) : ∃ a n c, u = .slice a n c := by
 simp only [Rep, PRep] at h
 obtain ⟨a, cap, vs, rfl, _⟩ := h
 exact ⟨_, _, _, rfl⟩
theorem a_seqS {n size : Nat} {cs : List PV} (hu : P.underlying xt = some (.slice e)) (hn : 0 < n) : AOp P ⟨d, .binOp .eql xt x y yt, ty, pos, af, g⟩ [.p (.sl n size cs), .p (.v (.slice none 0 0))] [] [] (.p (.v (.bool false))) :=
 zaC fun S m w ev hr => exec_slc (fun a n c => bin_slcEq w hu a n c) hr fun u h => let ⟨a, n, c, h⟩ := sl_some hn h; ⟨some a, n, c, h, za1 rfl⟩
theorem a_seqX {n size : Nat} {cs : List PV} (hu : P.underlying xt = some (.slice e)) : AOp P ⟨d, .binOp .eql xt x y yt, ty, pos, af, g⟩ [.p (.sl n size cs), .p (.v (.slice none 0 0))] [] [] (.sat zhH) :=
 zaC fun S m w ev hr => exec_slc (fun a n c => bin_slcEq w hu a n c) hr fun u h => let ⟨a, n, c, h⟩ := sl_slc h; ⟨a, n, c, h, rep_sat⟩
end
theorem zf2 {G : Env} {Q : Exit → St → Prop} {st : St} {c : Operand} {x y : Code} (hc : st.ev c = .sat zhH) (h1 : awp G x Q st) (h2 : awp G y Q st) : awp G (.cond c x y) Q st := by
 intro a w hs
 obtain ⟨S, m, hm, hj, ht⟩ := hs.mem
 have := ev_rep ht c
 rw [hc] at this
 simp only [Rep] at this
 have h3 := this.1
 cases hv : a.eval c <;> rw [hv] at h3 <;> simp only [zhH, qbE] at h3
 exact wp_cond_split hv (fun _ => h1 a w hs) (fun _ => h2 a w hs)
end
section
variable {P : Program} {d : Option Tmp} {ty : TypeId} {pos : String} {af : Array Edge} {g : Option (Nat × Bool)} {xt yt : TypeId} {x y : Operand}
theorem za4 {k : IntKind} {a : Int} : AOp P ⟨d, .binOp .eql xt x y yt, ty, pos, af, g⟩ [.p (.v (.int k a)), .p (.v (.int k a))] [] [] (.p (.v (.bool true))) := by
 have h : AOp P ⟨d, .binOp .eql xt x y yt, ty, pos, af, g⟩ [.p (.v (.int k a)), .p (.v (.int k a))] [] [] (.p (.v (.bool (a == a)))) := zbH
 rwa [beq_self_eq_true] at h
theorem a_neqT {k : IntKind} {a : Int} : AOp P ⟨d, .binOp .neq xt x y yt, ty, pos, af, g⟩ [.p (.v (.int k a)), .p (.v (.int k a))] [] [] (.p (.v (.bool false))) := by
 have h : AOp P ⟨d, .binOp .neq xt x y yt, ty, pos, af, g⟩ [.p (.v (.int k a)), .p (.v (.int k a))] [] [] (.p (.v (.bool (a != a)))) := a_neq
 rwa [bne_self_eq_false] at h
theorem a_seqlT {s : ByteArray} : AOp P ⟨d, .binOp .eql xt x y yt, ty, pos, af, g⟩ [.p (.v (.string s)), .p (.v (.string s))] [] [] (.p (.v (.bool true))) := by
 have h : AOp P ⟨d, .binOp .eql xt x y yt, ty, pos, af, g⟩ [.p (.v (.string s)), .p (.v (.string s))] [] [] (.p (.v (.bool (decide (s = s))))) := a_seql
 rwa [decide_eq_true rfl] at h
theorem a_sneqT {s : ByteArray} : AOp P ⟨d, .binOp .neq xt x y yt, ty, pos, af, g⟩ [.p (.v (.string s)), .p (.v (.string s))] [] [] (.p (.v (.bool false))) := by
 have h : AOp P ⟨d, .binOp .neq xt x y yt, ty, pos, af, g⟩ [.p (.v (.string s)), .p (.v (.string s))] [] [] (.p (.v (.bool (!decide (s = s))))) := a_sneq
 rwa [decide_eq_true rfl] at h
theorem a_steqT {cs : List AV} {xs : List Value} {fs : Array Field} (hu : P.underlying xt = some (.struct fs)) (hx : zcc cs = some xs) (hg : P.eqGuardType P.depth xt = false) (h1 : okS P 20 xt xs = true) : AOp P ⟨d, .binOp .eql xt x y yt, ty, pos, af, g⟩ [.agg cs, .agg cs] [] [] (.p (.v (.bool true))) := by
 have h := zfm (d := d) (ty := ty) (pos := pos) (af := af) (g := g) (yt := yt) (x := x) (y := y) hu hx hx hg h1 h1
 rwa [zb6] at h
theorem zfn {c a b : Operand} {X Y : AV} : AOp P ⟨d, .pick c a b, ty, pos, af, g⟩ [.p (.v (.bool true)), X, Y] [] [] X :=
 zaC fun S m w ev hr => by
  obtain ⟨k1, k2, k3⟩ := zhu (u := ev c) (v := ev a) (t := ev b) hr
  exact ⟨_, by simp [execOp, za8 k1, asBool], k2⟩
theorem a_pickF {c a b : Operand} {X Y : AV} : AOp P ⟨d, .pick c a b, ty, pos, af, g⟩ [.p (.v (.bool false)), X, Y] [] [] Y :=
 zaC fun S m w ev hr => by
  obtain ⟨k1, k2, k3⟩ := zhu (u := ev c) (v := ev a) (t := ev b) hr
  exact ⟨_, by simp [execOp, za8 k1, asBool], k3⟩
end
theorem zbc {P : Program} {d : Option Tmp} {ty : TypeId} {pos : String} {af : Array Edge} {g : Option (Nat × Bool)} {x : Operand} {args : Array Operand} {ts : Array TypeId} {f : FuncId} {fn : Func} {xs cs : List AV} {res : AV} (hf : P.funcs[f]? = some fn) (hb : fn.body.isNone = false) (hn : (fn.name == "runtime.NumGoroutine") = false)
 (hC : Fn P f (xs ++ cs) res []) (h1 : AV.okInL [] (xs ++ cs) = true) (h3 : res.okIn [] = true) :
 AOp P ⟨d, .call { callee := .value x, args := args, argTypes := ts }, ty, pos, af, g⟩ (.fn f cs :: xs) [] [] res := by
 have h := a_callS (P := P) (d := d) (ty := ty) (pos := pos) (af := af) (g := g) (x := x) (args := args) (ts := ts) (fun o => o) hf hb hn hC h1 h3 rfl rfl
 rw [zij] at h
 exact h
theorem zdp {P : Program} {w0 : World} {A : Ctx1} {nt : Nat} {c d : Code} {Q : Exit → St → Prop} {st : St} (st1 : St) (h : awp ⟨P, w0, ctx0 A, nt⟩ c (Thn (fun st' => Re st' st1) Q) st) (k : awp ⟨P, w0, ctx0 A, nt⟩ d Q st1) : awp ⟨P, w0, ctx0 A, nt⟩ c (Thn (awp ⟨P, w0, ctx0 A, nt⟩ d Q) Q) st :=
 zjl h fun e st' hq => by
  cases e with
  | normal => exact zaK hq k
  | _ => exact hq
def structTs (P : Program) (t : Nat) : Option (List TypeId) := match P.underlying t with
 | some (.struct fs) => some (fs.toList.map (·.type))
 | _ => none
def TyL (P : Program) (n : Nat) : List TypeId → List (List PV) → Prop
 | [], L => L = []
 | t :: ts, L => ∃ x L', L = x :: L' ∧ Ty P n t x ∧ TyL P n ts L'
theorem tyL_mk {P : Program} {n : Nat} : ∀ {fs : List Field} {L : List (List PV)}, L.length = fs.length → (∀ (i : Nat) (f : Field) x, fs[i]? = some f → L[i]? = some x → Ty P n f.type x ∧ x.length = P.cellsOf f.type) → TyL P n (fs.map (·.type)) L
 | [], [], _, _ => rfl
 | [], _ :: _, h, _ => by simp at h
 | _ :: _, [], h, _ => by simp at h
 | f :: fs, x :: L, h, k => by
  refine ⟨x, L, rfl, (k 0 f x qC qC).1, tyL_mk qz fun i f' x' h1 h2 => k (i + 1) f' x' qbb (by simpa using h2)⟩
theorem zbi {P : Program} {n t : Nat} {ts : List TypeId} {ps : List PV} (hu : structTs P t = some ts) (hT : Ty P (n + 1) t ps) : ∃ L : List (List PV), ps = L.flatten ∧ TyL P n ts L := by
 unfold structTs at hu
 unfold Ty at hT
 cases hq : P.underlying t with
 | none => simp [hq] at hu
 | some u =>
  simp only [hq] at hu hT
  cases u <;> simp at hu
  rename_i fs
  obtain ⟨L, rfl, hl, hL⟩ := hT
  subst hu
  exact ⟨L, rfl, tyL_mk qa4 fun i f x h1 h2 => hL i f x qbb h2⟩
def zgC : List AV → Option (List Value)
 | [] => some []
 | .p (.v x) :: l => (zgC l).map (x :: ·)
 | .agg cs :: l => (zcc cs).bind fun xs => (zgC l).map (.agg xs.toArray :: ·)
 | _ :: _ => none
theorem zeD {S : Nat → Prop} {m : Nat → Option Value} {w : World} : ∀ {cs : List AV} {xs us : List Value}, zgC cs = some xs → RepL S m w cs us → us = xs
 | [], xs, us, h, hr => by
  simp only [zgC, Option.some.injEq] at h
  simp only [RepL] at hr
  rw [hr, ← h]
 | c :: cs, xs, us, h, hr => by
  simp only [RepL] at hr
  obtain ⟨u, us, rfl, h2, h3⟩ := hr
  cases c with
  | p x =>
   cases x with
   | v x =>
    simp only [zgC] at h
    cases hq : zgC cs with
    | none => simp [hq] at h
    | some zs =>
     simp only [hq, qcQ, Option.some.injEq] at h
     rw [za8 h2, zeD hq h3, h]
   | _ => simp [zgC] at h
  | agg ds =>
   simp only [zgC] at h
   cases hv : zcc ds with
   | none => simp [hv] at h
   | some vs =>
    cases hq : zgC cs with
    | none => simp [hv, hq] at h
    | some zs =>
     simp only [hv, hq, qcM, qcQ, Option.some.injEq] at h
     simp only [Rep] at h2
     obtain ⟨ws, e1, e2, _⟩ := h2
     rw [zdI hv e2] at e1
     rw [e1, zeD hq h3, h]
  | _ => simp [zgC] at h
theorem zfS {P : Program} {f : FuncId} {args : List AV} {vs : List Value} {res : AV} {r : Value} (ha : zgC args = some vs) (hr : ∀ S m w, Rep S m w res r) (h : Gives P f vs.toArray r) : Fn P f args res [] := by
 intro w A us hA hG hus
 rw [zeD ha hus]
 refine (h w).mono ?_
 rintro e w' ⟨rfl, hb⟩
 exact ⟨r, rfl, A, fun _ => none, hr _ _ _, hb, fun b hb => .inl hb, fun b h => qct (hA b h) hb.size, fun o _ => rfl, fun o ob ho => qaG, fun o o' ob ob' v v' b ho => qaG, hG⟩
theorem zbX {P : Program} {ops : Array Oper} {K : List Foot → St → Prop} {o : Oper} {l : List Oper} {fs : List Foot} {st : St} (hg : zau ops o st = some false) (k : ARun P ops K l (fs ++ [([], [])]) (st.put o.dst (.mb false (.p (.v (.bool false)))))) : ARun P ops K (o :: l) fs st :=
 ⟨([], []), _, .skip _ _ hg (fun _ _ _ => by simp [Rep]), k⟩
section
variable {P : Program} {ops : Array Oper} {K : List Foot → St → Prop} {l : List Oper} {fs : List Foot} {st : St} {d : Option Tmp} {ty : TypeId} {pos : String} {af : Array Edge} {g : Option (Nat × Bool)} {x : Operand}
theorem mP {v : PV} (hx : (⟨d, .move x, ty, pos, af, g⟩ : Oper).op.operands.toList.map st.ev = [.p v]) (hg : zau ops ⟨d, .move x, ty, pos, af, g⟩ st = some true)
 (k : ARun P ops K l (fs ++ [([], [])]) (st.put d (.p v))) : ARun P ops K (⟨d, .move x, ty, pos, af, g⟩ :: l) fs st := zaa zaF hx hg k
theorem aP {v : PV} (hx : (⟨d, .assign x, ty, pos, af, g⟩ : Oper).op.operands.toList.map st.ev = [.p v]) (hg : zau ops ⟨d, .assign x, ty, pos, af, g⟩ st = some true)
 (k : ARun P ops K l (fs ++ [([], [])]) (st.put d (.p v))) : ARun P ops K (⟨d, .assign x, ty, pos, af, g⟩ :: l) fs st := zaa zaO hx hg k
theorem fA {s : TypeId} {f off k o p : Nat} (h : zaD P s f = some (off, k + 1)) (hx : (⟨d, .fieldAddr s x f, ty, pos, af, g⟩ : Oper).op.operands.toList.map st.ev = [.ref o p]) (hg : zau ops ⟨d, .fieldAddr s x f, ty, pos, af, g⟩ st = some true)
 (n : ARun P ops K l (fs ++ [([], [])]) (st.put d (.ref o (p + off)))) : ARun P ops K (⟨d, .fieldAddr s x f, ty, pos, af, g⟩ :: l) fs st := zaa (zar h rfl) hx hg n
theorem l1 {t bt : TypeId} {ds : TypeDesc} {o off : Nat} {cs : List AV} {r : AV} (hu : P.underlying t = some ds) (hd : ds.isRow = false) (hx : (⟨d, .load t x, ty, pos, af, g⟩ : Oper).op.operands.toList.map st.ev = [.ref o off]) (hg : zau ops ⟨d, .load t x, ty, pos, af, g⟩ st = some true)
 (hr : Rds st [(o, .live (.box bt cs))]) (k : ARun P ops K l (fs ++ [([o], [])]) (st.put d r)) (h : cs[off]? = some r := by first | rfl | assumption) : ARun P ops K (⟨d, .load t x, ty, pos, af, g⟩ :: l) fs st :=
 zab (zbr hu hd h) hx hg hr k
theorem lN {t bt : TypeId} {ds : TypeDesc} {o off m : Nat} {cs es : List AV} (hu : P.underlying t = some ds) (hd : ds.isRow = true) (hi : (P.info? t).map (·.size) = some m) (hx : (⟨d, .load t x, ty, pos, af, g⟩ : Oper).op.operands.toList.map st.ev = [.ref o off]) (hg : zau ops ⟨d, .load t x, ty, pos, af, g⟩ st = some true)
 (hr : Rds st [(o, .live (.box bt cs))]) (k : ARun P ops K l (fs ++ [([o], [])]) (st.put d (.agg es))) (hk : off + m ≤ cs.length := by first | exact qbe rfl | omega | (simp only [AV.cells, qbu]; omega)) (h : (cs.drop off).take m = es := by first | exact zcC qF | (simp only [qb7, qcT, qb8, qch]; rfl) | rfl) : ARun P ops K (⟨d, .load t x, ty, pos, af, g⟩ :: l) fs st :=
 zab (zao hu hd hi hk h) hx hg hr k
theorem mb2 {o : Oper} {xs' : List AV} {rds : List (Nat × Slot)} {r : AV} (b : Bool) (hg : zau ops o st = some b) (hx : (o.op.operands.toList.map st.ev).map AV.strip = xs')
 (h : b = true → AOp P o xs' rds [] r) (hr : b = true → Rds st rds) (k : ARun P ops K l (fs ++ [(rds.map Prod.fst, [])]) (st.put o.dst (.mb b r)))
 (hs : StripOK b (o.op.operands.toList.map st.ev) := by (repeat (first | exact zdX | refine zcd id ?_ | refine stripOK_p ?_ | refine zhj ?_ | refine zhi ?_ | refine zhk ?_ | refine zhl ?_ | refine zcd (by simp_all) ?_ | refine StripOK.plain _ _ rfl ?_))) : ARun P ops K (o :: l) fs st := r_mb2 b hg hx hs h hr k
theorem tx {w0 : World} {A : Ctx} {nt : Nat} {Q : Exit → St → Prop} {id : Nat} (h : ARun P l.toArray (fun _ st' => Q .normal st') l [] st) (hd : dstOK nt l = true := by kernel_rfl) : awp ⟨P, w0, A, nt⟩ (.region id l.toArray false) Q st := zaB hd h
theorem fT {rs : List ResultVar} {res : AV} {news : List (Nat × AObj)} {e : Exit} {vals : List AV} (ρ : Nat → Nat) (h : ResIs P st rs vals) (hv : (oneA vals).view (zfL ρ news) st.heap = res.ren ρ) (ho : LeO ρ st (news.map Prod.fst) news)
 (he : e = .normal ∨ e = .ret := by first | exact .inl rfl | exact .inr rfl) (hk : res.okIn (news.map Prod.fst) = true := by exact rfl) (hn : zbj (news.map fun p => ρ p.1) = true := by exact rfl) : Fin P rs res news e st :=
 ⟨he, vals, ρ, h, hv, hk, ho, hn⟩
end
section
variable {P : Program} {d : Option Tmp} {ty : TypeId} {pos : String} {af : Array Edge} {g : Option (Nat × Bool)} {xt yt : TypeId} {x y : Operand} {k : IntKind} {a b : Int} {c : Bool}
theorem a_gtrV (h : decide (b < a) = c) : AOp P ⟨d, .binOp .gtr xt x y yt, ty, pos, af, g⟩ [.p (.v (.int k a)), .p (.v (.int k b))] [] [] (.p (.v (.bool c))) :=
 zcm (zaY _ _ _ _ _ _ _ _) (fun w => by subst h; simp [binOp, Op.intCmp]) rfl
theorem zef (h : decide (a < b) = c) : AOp P ⟨d, .binOp .lss xt x y yt, ty, pos, af, g⟩ [.p (.v (.int k a)), .p (.v (.int k b))] [] [] (.p (.v (.bool c))) :=
 zcm (zaY _ _ _ _ _ _ _ _) (fun w => by subst h; simp [binOp, Op.intCmp]) rfl
theorem a_leqV (h : decide (a ≤ b) = c) : AOp P ⟨d, .binOp .leq xt x y yt, ty, pos, af, g⟩ [.p (.v (.int k a)), .p (.v (.int k b))] [] [] (.p (.v (.bool c))) :=
 zcm (zaY _ _ _ _ _ _ _ _) (fun w => by subst h; simp [binOp, Op.intCmp]) rfl
theorem a_geqV (h : decide (b ≤ a) = c) : AOp P ⟨d, .binOp .geq xt x y yt, ty, pos, af, g⟩ [.p (.v (.int k a)), .p (.v (.int k b))] [] [] (.p (.v (.bool c))) :=
 zcm (zaY _ _ _ _ _ _ _ _) (fun w => by subst h; simp [binOp, Op.intCmp]) rfl
theorem a_eqlV (h : (a == b) = c) : AOp P ⟨d, .binOp .eql xt x y yt, ty, pos, af, g⟩ [.p (.v (.int k a)), .p (.v (.int k b))] [] [] (.p (.v (.bool c))) :=
 zcm (zaY _ _ _ _ _ _ _ _) (fun w => by subst h; simp [binOp, Op.intCmp]) rfl
theorem a_neqV (h : (a != b) = c) : AOp P ⟨d, .binOp .neq xt x y yt, ty, pos, af, g⟩ [.p (.v (.int k a)), .p (.v (.int k b))] [] [] (.p (.v (.bool c))) :=
 zcm (zaY _ _ _ _ _ _ _ _) (fun w => by subst h; simp [binOp, Op.intCmp]) rfl
theorem zbp {s t : ByteArray} (h : decide (s = t) = c) : AOp P ⟨d, .binOp .eql xt x y yt, ty, pos, af, g⟩ [.p (.v (.string s)), .p (.v (.string t))] [] [] (.p (.v (.bool c))) :=
 zcm (zdi _ _ _ _ _ _) (fun w => by subst h; simp only [binOp, Op.stringOp, ze0, qbq]) rfl
theorem a_sneqV {s t : ByteArray} (h : (!decide (s = t)) = c) : AOp P ⟨d, .binOp .neq xt x y yt, ty, pos, af, g⟩ [.p (.v (.string s)), .p (.v (.string t))] [] [] (.p (.v (.bool c))) :=
 zcm (zdi _ _ _ _ _ _) (fun w => by subst h; simp only [binOp, Op.stringOp, ze0, qbq]) rfl
end
theorem awp_cT {G : Env} {Q : Exit → St → Prop} {st : St} {c : Operand} {x y : Code} (hc : st.ev c = .p (.v (.bool true))) (h1 : awp G x Q st) : awp G (.cond c x y) Q st :=
 zb7 true hc (fun _ => h1) (fun h => by cases h)
theorem awp_cF {G : Env} {Q : Exit → St → Prop} {st : St} {c : Operand} {x y : Code} (hc : st.ev c = .p (.v (.bool false))) (h1 : awp G y Q st) : awp G (.cond c x y) Q st :=
 zb7 false hc (fun h => by cases h) (fun _ => h1)
section
variable {P : Program} {d : Option Tmp} {ty : TypeId} {pos : String} {af : Array Edge} {g : Option (Nat × Bool)}
theorem zak {t yt : TypeId} {x y : Operand} {cs ds : List AV} {xs ys : List Value} {fs : Array Field} {c : Bool} (hu : P.underlying t = some (.struct fs)) (hx : zcc cs = some xs) (hy : zcc ds = some ys) (hg : P.eqGuardType P.depth t = false) (h1 : okS P 20 t xs = true) (h2 : okS P 20 t ys = true) (hc : (!eqL xs ys) = c) :
 AOp P ⟨d, .binOp .neq t x y yt, ty, pos, af, g⟩ [.agg cs, .agg ds] [] [] (.p (.v (.bool c))) := by
 subst hc
 exact zcN hu hx hy hg h1 h2
theorem zbW {t yt : TypeId} {x y : Operand} {cs ds : List AV} {xs ys : List Value} {fs : Array Field} {c : Bool} (hu : P.underlying t = some (.struct fs)) (hx : zcc cs = some xs) (hy : zcc ds = some ys) (hg : P.eqGuardType P.depth t = false) (h1 : okS P 20 t xs = true) (h2 : okS P 20 t ys = true) (hc : eqL xs ys = c) :
 AOp P ⟨d, .binOp .eql t x y yt, ty, pos, af, g⟩ [.agg cs, .agg ds] [] [] (.p (.v (.bool c))) := by
 subst hc
 exact zfm hu hx hy hg h1 h2
end
def W (_ : List Nat) (q p : Prop) : Prop := q → p
section
variable {c : List Nat} {q p r : Prop} {st : St} {Q : Exit → St → Prop}
theorem Gg.n {n : Nat} (h : r → p) (k : W (n :: c) q r) : W ((n + 1) :: c) q p := fun x => h (k x)
theorem Gg.c1 (h : r → p) (k : W c q r) : W (0 :: 1 :: c) q p := fun x => h (k x)
theorem Gg.c2 (h : r → p) (k : W c q r) : W (0 :: 2 :: c) q p := fun x => h (k x)
theorem Gg.c3 (h : r → p) (k : W c q r) : W (0 :: 3 :: c) q p := fun x => h (k x)
theorem Gg.c4 (h : r → p) (k : W c q r) : W (0 :: 4 :: c) q p := fun x => h (k x)
theorem Gg.c9 (k : W c q p) : W (0 :: 9 :: c) q p := k
theorem Gg.z : W [0] p p := id
theorem Gg.f1 {K : St → Prop} (k : W c q (K st)) : W c q (Thn K Q .normal st) := k
theorem Gg.f2 {K : St → Prop} (k : W c q (Q .ret st)) : W c q (Thn K Q .ret st) := k
theorem Gg.f3 {K : St → Prop} {i : Nat} (k : W c q (Q (.exit i) st)) : W c q (Thn K Q (.exit i) st) := k
theorem Gg.f4 {i : Nat} (k : W c q (Q .normal st)) : W c q (InB i Q .normal st) := k
theorem Gg.f5 {i : Nat} (k : W c q (Q .ret st)) : W c q (InB i Q .ret st) := k
theorem Gg.f6 {i : Nat} (k : W c q (Q .normal st)) : W c q (InB i Q (.exit i) st) := fun x => zb8 (k x)
theorem Gg.f7 {i j : Nat} (h : Nat.beq j i = false) (k : W c q (Q (.exit j) st)) : W c q (InB i Q (.exit j) st) := fun x => zdr h (k x)
end
section
variable {P : Program} {ops : Array Oper} {l : List Oper} {fs : List Foot} {st : St} {d : Option Tmp} {ty : TypeId} {pos : String} {af : Array Edge} {gd : Option (Nat × Bool)}
theorem Gg.ni {Q : Exit → St → Prop} (h : Q .normal st) : ARun P ops (fun _ st' => Q .normal st') [] fs st := h
theorem Gg.nd {Q : Exit → St → Prop} {nt fuel : Nat} (h1 : zd2 nt fuel ops fs = true) (h : Q .normal st) : ARun P ops (fun fs st' => zd2 nt fuel ops fs = true ∧ Q .normal st') [] fs st := ⟨h1, h⟩
variable {K : List Foot → St → Prop}
theorem Gg.pu {o : Oper} {xs : List AV} {r : AV} (h : AOp P o xs [] [] r) (e : (o.op.operands.toList.map st.ev, zau ops o st) = (xs, some true)) (k : ARun P ops K l (fs ++ [([], [])]) (st.put o.dst r)) : ARun P ops K (o :: l) fs st := zaa h (congrArg Prod.fst e) (congrArg Prod.snd e) k
theorem Gg.r1 {o : Oper} {xs : List AV} {a : Nat × Slot} {wrs : List (Nat × Slot)} {r : AV} (h : AOp P o xs [a] wrs r) (e : (o.op.operands.toList.map st.ev, zau ops o st, st.heap a.1) = (xs, some true, a.2)) (k : ARun P ops K l (fs ++ [([a.1], wrs.map Prod.fst)]) ((st.upd wrs).put o.dst r)) : ARun P ops K (o :: l) fs st := by
 simp only [Prod.mk.injEq] at e
 exact zab h e.1 e.2.1 ⟨e.2.2, trivial⟩ k
theorem Gg.sk {o : Op} {gd : Nat × Bool} (hg : zau ops ⟨d, o, ty, pos, af, some gd⟩ st = some false) (k : ARun P ops K l (fs ++ [([], [])]) (st.put d (.mb false (.p (.v (.bool false)))))) : ARun P ops K (⟨d, o, ty, pos, af, some gd⟩ :: l) fs st := zbX hg k
theorem Gg.fa {x : Operand} {s : TypeId} {f off j o p : Nat} [h : FI P s f (off, j + 1)] (e : ([st.ev x], zau ops ⟨d, .fieldAddr s x f, ty, pos, af, gd⟩ st) = ([.ref o p], some true)) (n : ARun P ops K l (fs ++ [([], [])]) (st.put d (.ref o (p + off)))) : ARun P ops K (⟨d, .fieldAddr s x f, ty, pos, af, gd⟩ :: l) fs st := fA h.h (congrArg Prod.fst e) (congrArg Prod.snd e) n
theorem Gg.fb {x : Operand} {s : TypeId} {f off j : Nat} {cs : List PV} [h : FI P s f (off, j + 1)] (e : ([st.ev x], zau ops ⟨d, .fieldAddr s x f, ty, pos, af, gd⟩ st) = ([.ptr cs], some true)) (n : ARun P ops K l (fs ++ [([], [])]) (st.put d (.ptr (cs.drop off)))) : ARun P ops K (⟨d, .fieldAddr s x f, ty, pos, af, gd⟩ :: l) fs st := Gg.pu (zam h.h rfl) e n
theorem Gg.ld {x : Operand} {t bt : TypeId} {o off : Nat} {cs : List AV} {r : AV} [hu : RW P t false] (e : ([st.ev x], zau ops ⟨d, .load t x, ty, pos, af, gd⟩ st, st.heap o) = ([.ref o off], some true, .live (.box bt cs))) (h : cs[off]? = some r) (k : ARun P ops K l (fs ++ [([o], [])]) (st.put d r)) : ARun P ops K (⟨d, .load t x, ty, pos, af, gd⟩ :: l) fs st := by
 obtain ⟨ds, h1, h2⟩ := hu.h
 simp only [Prod.mk.injEq] at e
 exact l1 h1 h2 e.1 e.2.1 ⟨e.2.2, trivial⟩ k h
theorem Gg.ln {x : Operand} {t bt : TypeId} {o off m : Nat} {cs es : List AV} [hu : RW P t true] [hi : SZ P t m] (e : ([st.ev x], zau ops ⟨d, .load t x, ty, pos, af, gd⟩ st, st.heap o) = ([.ref o off], some true, .live (.box bt cs))) (hk : off + m ≤ cs.length) (h : (cs.drop off).take m = es) (k : ARun P ops K l (fs ++ [([o], [])]) (st.put d (.agg es))) : ARun P ops K (⟨d, .load t x, ty, pos, af, gd⟩ :: l) fs st := by
 obtain ⟨ds, h1, h2⟩ := hu.h
 simp only [Prod.mk.injEq] at e
 exact lN h1 h2 hi.h e.1 e.2.1 ⟨e.2.2, trivial⟩ k hk h
theorem Gg.ex {x : Operand} {i : Nat} {vs : List AV} {r : AV} (e : ([st.ev x], zau ops ⟨d, .extract x i, ty, pos, af, gd⟩ st) = ([.tup vs], some true)) (h : vs[i]? = some r) (k : ARun P ops K l (fs ++ [([], [])]) (st.put d r)) : ARun P ops K (⟨d, .extract x i, ty, pos, af, gd⟩ :: l) fs st := Gg.pu (zbk h) e k
theorem Gg.bx {x : Operand} {t : TypeId} {X : AV} {n : Nat} (e : ([st.ev x], zau ops ⟨some n, .box t x, ty, pos, af, gd⟩ st, st.heap n) = ([X], some true, .un)) (hX : X.stor = true) (k : ARun P ops K l (fs ++ [([n], [n])]) ((st.upd [(n, .live (.box t X.cells))]).put (some n) (.ref n 0))) : ARun P ops K (⟨some n, .box t x, ty, pos, af, gd⟩ :: l) fs st := Gg.r1 (a := (n, .un)) (a_box n hX) e k
theorem Gg.al {t : TypeId} {z : Value} {n : Nat} [hz : ZR P t z] (e : (([] : List AV), zau ops ⟨some n, .alloc t, ty, pos, af, gd⟩ st, st.heap n) = ([], some true, .un)) (hX : (zbZ z).stor = true) (k : ARun P ops K l (fs ++ [([n], [n])]) ((st.upd [(n, .live (.box t (zbZ z).cells))]).put (some n) (.ref n 0))) : ARun P ops K (⟨some n, .alloc t, ty, pos, af, gd⟩ :: l) fs st := Gg.r1 (a := (n, .un)) (zaW n hz.h hX) e k
theorem Gg.bu {t : TypeId} {parts : Array (Nat × Operand)} {z : Value} {places : List (Nat × Nat)} {xs es : List AV} [hp : PL P t places] [hz : ZR P t z] (e : ((⟨d, .build t parts, ty, pos, af, gd⟩ : Oper).op.operands.toList.map st.ev, zau ops ⟨d, .build t parts, ty, pos, af, gd⟩ st, (zbZ z).stor) = (xs, some true, true)) (hf : zgx (fun i => places[i]?) (zbZ z).cells ((parts.toList.map Prod.fst).zip xs) = some es) (k : ARun P ops K l (fs ++ [([], [])]) (st.put d (.agg es))) : ARun P ops K (⟨d, .build t parts, ty, pos, af, gd⟩ :: l) fs st := by
 simp only [Prod.mk.injEq] at e
 exact zaa (zbT hp.h hz.h e.2.2 hf) e.1 e.2.1 k
theorem Gg.sa {x y : Operand} {t bt : TypeId} {o j : Nat} {cs : List AV} {Y : AV} [hi : SZ P t j] (e : ([st.ev x, st.ev y], zau ops ⟨d, .store t x y, ty, pos, af, gd⟩ st, st.heap o) = ([.ref o 0, Y], some true, .live (.box bt cs))) (hY : Y.stor = true) (hl : Y.cells.length = j) (hc : cs.length = j) (k : ARun P ops K l (fs ++ [([o], [o])]) ((st.upd [(o, .live (.box bt Y.cells))]).put d .any)) : ARun P ops K (⟨d, .store t x y, ty, pos, af, gd⟩ :: l) fs st := Gg.r1 (a := (o, .live (.box bt cs))) (zad hi.h hY hl hc) e k
theorem Gg.sn {x y : Operand} {t bt : TypeId} {o off j : Nat} {cs es : List AV} {Y : AV} [hi : SZ P t j] (e : ([st.ev x, st.ev y], zau ops ⟨d, .store t x y, ty, pos, af, gd⟩ st, st.heap o) = ([.ref o off, Y], some true, .live (.box bt cs))) (hY : Y.stor = true) (hl : Y.cells.length = j) (hk : off + j ≤ cs.length) (h : setR cs off Y.cells = es) (k : ARun P ops K l (fs ++ [([o], [o])]) ((st.upd [(o, .live (.box bt es))]).put d .any)) : ARun P ops K (⟨d, .store t x y, ty, pos, af, gd⟩ :: l) fs st := Gg.r1 (a := (o, .live (.box bt cs))) (zcM hi.h hY hl hk h) e k
theorem Gg.an {c a b : Operand} {t t' y : Bool} (e : ([st.ev c, st.ev a, st.ev b], zau ops ⟨d, .pick c a b, ty, pos, af, gd⟩ st) = ([.p (.v (.bool t)), .mb t' (.p (.v (.bool y))), .p (.v (.bool false))], some true)) (ht : t = true → t' = true) (k : ARun P ops K l (fs ++ [([], [])]) (st.put d (.p (.v (.bool (t && y)))))) : ARun P ops K (⟨d, .pick c a b, ty, pos, af, gd⟩ :: l) fs st := Gg.pu (a_and ht) e k
theorem Gg.or {c a b : Operand} {t t' y : Bool} (e : ([st.ev c, st.ev a, st.ev b], zau ops ⟨d, .pick c a b, ty, pos, af, gd⟩ st) = ([.p (.v (.bool t)), .p (.v (.bool true)), .mb t' (.p (.v (.bool y)))], some true)) (ht : t = false → t' = true) (k : ARun P ops K l (fs ++ [([], [])]) (st.put d (.p (.v (.bool (t || y)))))) : ARun P ops K (⟨d, .pick c a b, ty, pos, af, gd⟩ :: l) fs st := Gg.pu (a_or ht) e k
theorem Gg.mp {o : Op} {gd : Nat × Bool} {xs' : List AV} {r : AV} {b : Bool} (e : (zau ops ⟨d, o, ty, pos, af, some gd⟩ st, (o.operands.toList.map st.ev).map AV.strip) = (some b, xs')) (h : AOp P ⟨d, o, ty, pos, af, some gd⟩ xs' [] [] r) (hs : StripOK b (o.operands.toList.map st.ev)) (k : ARun P ops K l (fs ++ [([], [])]) (st.put d (.mb b r))) : ARun P ops K (⟨d, o, ty, pos, af, some gd⟩ :: l) fs st := r_mb2 b (congrArg Prod.fst e) (congrArg Prod.snd e) hs (fun _ => h) (fun _ => trivial) k
theorem Gg.ml {x : Operand} {t bt : TypeId} {o off : Nat} {cs : List AV} {gd : Nat × Bool} {r : AV} {b : Bool} [hu : RW P t false] (e : (zau ops ⟨d, .load t x, ty, pos, af, some gd⟩ st, [(st.ev x).strip], st.heap o) = (some b, [.ref o off], .live (.box bt cs))) (h : cs[off]? = some r) (hs : StripOK b [st.ev x]) (k : ARun P ops K l (fs ++ [([o], [])]) (st.put d (.mb b r))) : ARun P ops K (⟨d, .load t x, ty, pos, af, some gd⟩ :: l) fs st := by
 obtain ⟨ds, h1, h2⟩ := hu.h
 simp only [Prod.mk.injEq] at e
 exact r_mb2 (rds := [(o, .live (.box bt cs))]) b e.1 e.2.1 hs (fun _ => zbr h1 h2 h) (fun _ => ⟨e.2.2, trivial⟩) k
theorem Gg.mf {x : Operand} {s : TypeId} {f off j o p : Nat} {gd : Nat × Bool} {b : Bool} [h : FI P s f (off, j + 1)] (e : (zau ops ⟨d, .fieldAddr s x f, ty, pos, af, some gd⟩ st, [(st.ev x).strip]) = (some b, [.ref o p])) (hs : StripOK b [st.ev x]) (k : ARun P ops K l (fs ++ [([], [])]) (st.put d (.mb b (.ref o (p + off))))) : ARun P ops K (⟨d, .fieldAddr s x f, ty, pos, af, some gd⟩ :: l) fs st := Gg.mp e (zar h.h rfl) hs k
theorem Gg.ix {x y : Operand} {t e : TypeId} {j n : Nat} {kk : IntKind} {i : Int} {cs : List PV} [hu : SL P t e] [hi : SZ P e j] (e' : ([st.ev x, st.ev y], zau ops ⟨d, .indexAddr t x y, ty, pos, af, gd⟩ st) = ([.p (.sl n j cs), .p (.v (.int kk i))], some true)) (h0 : 0 ≤ i) (h1 : i < n) (k : ARun P ops K l (fs ++ [([], [])]) (st.put d (.ptr (cs.drop (i.toNat * j))))) : ARun P ops K (⟨d, .indexAddr t x y, ty, pos, af, gd⟩ :: l) fs st := Gg.pu (zaZ hu.h hi.h h0 h1 rfl) e' k
theorem Gg.iy {x y : Operand} {t e e2 : TypeId} {j n o size q : Nat} {kk : IntKind} {i : Int} {cs : List PV} [hu : SL P t e] [hi : SZ P e j] (e' : ([st.ev x, st.ev y], zau ops ⟨d, .indexAddr t x y, ty, pos, af, gd⟩ st, st.heap o) = ([.row o, .p (.v (.int kk i))], some true, .live (.row e2 size n cs))) (h0 : 0 ≤ i) (h1 : i < n) (hq : i.toNat * j = q) (k : ARun P ops K l (fs ++ [([o], [])]) (st.put d (.ref o q))) : ARun P ops K (⟨d, .indexAddr t x y, ty, pos, af, gd⟩ :: l) fs st := Gg.r1 (a := (o, .live (.row e2 size n cs))) (zat hu.h hi.h h0 h1 hq) e' k
theorem Gg.lq {x : Operand} {t : TypeId} {j : Nat} {cs es : List PV} [hu : RW P t true] [hi : SZ P t j] (e : ([st.ev x], zau ops ⟨d, .load t x, ty, pos, af, gd⟩ st) = ([.ptr cs], some true)) (hk : j ≤ cs.length) (h : cs.take j = es) (k : ARun P ops K l (fs ++ [([], [])]) (st.put d (.agg (es.map AV.p)))) : ARun P ops K (⟨d, .load t x, ty, pos, af, gd⟩ :: l) fs st := by
 obtain ⟨ds, h1, h2⟩ := hu.h
 exact Gg.pu (zas h1 h2 hi.h hk h) e k
theorem Gg.lo {x : Operand} {t : TypeId} {cs : List PV} {r : PV} [hu : RW P t false] (e : ([st.ev x], zau ops ⟨d, .load t x, ty, pos, af, gd⟩ st) = ([.ptr cs], some true)) (h : cs[0]? = some r) (k : ARun P ops K l (fs ++ [([], [])]) (st.put d (.p r))) : ARun P ops K (⟨d, .load t x, ty, pos, af, gd⟩ :: l) fs st := by
 obtain ⟨ds, h1, h2⟩ := hu.h
 exact Gg.pu (zaG h1 h2 h) e k
theorem Gg.lr {x : Operand} {t e : TypeId} {o off size n : Nat} {cs : List PV} {r : PV} [hu : RW P t false] (e' : ([st.ev x], zau ops ⟨d, .load t x, ty, pos, af, gd⟩ st, st.heap o) = ([.ref o off], some true, .live (.row e size n cs))) (h : cs[off]? = some r) (k : ARun P ops K l (fs ++ [([o], [])]) (st.put d (.p r))) : ARun P ops K (⟨d, .load t x, ty, pos, af, gd⟩ :: l) fs st := by
 obtain ⟨ds, h1, h2⟩ := hu.h
 exact Gg.r1 (a := (o, .live (.row e size n cs))) (zbC h1 h2 h) e' k
theorem Gg.ls {x : Operand} {t e : TypeId} {n j : Nat} {cs : List PV} [hu : SL P t e] (e' : ([st.ev x], zau ops ⟨d, .call { callee := .builtin .len, args := #[x], argTypes := #[t] }, ty, pos, af, gd⟩ st) = ([.p (.sl n j cs)], some true)) (k : ARun P ops K l (fs ++ [([], [])]) (st.put d (.p (.v (.int .i64 n))))) : ARun P ops K (⟨d, .call { callee := .builtin .len, args := #[x], argTypes := #[t] }, ty, pos, af, gd⟩ :: l) fs st := Gg.pu (zeg hu.h) e' k
theorem Gg.lt {x : Operand} {t : TypeId} {s : ByteArray} [hu : SR P t] (e' : ([st.ev x], zau ops ⟨d, .call { callee := .builtin .len, args := #[x], argTypes := #[t] }, ty, pos, af, gd⟩ st) = ([.p (.v (.string s))], some true)) (k : ARun P ops K l (fs ++ [([], [])]) (st.put d (.p (.v (.int .i64 s.size))))) : ARun P ops K (⟨d, .call { callee := .builtin .len, args := #[x], argTypes := #[t] }, ty, pos, af, gd⟩ :: l) fs st := Gg.pu (zdz hu.h) e' k
theorem Gg.lv {x : Operand} {t e : TypeId} {o off n j : Nat} [hu : SL P t e] (e' : ([st.ev x], zau ops ⟨d, .call { callee := .builtin .len, args := #[x], argTypes := #[t] }, ty, pos, af, gd⟩ st) = ([.psl o off n j], some true)) (k : ARun P ops K l (fs ++ [([], [])]) (st.put d (.p (.v (.int .i64 n))))) : ARun P ops K (⟨d, .call { callee := .builtin .len, args := #[x], argTypes := #[t] }, ty, pos, af, gd⟩ :: l) fs st := Gg.pu (a_lenV hu.h) e' k
theorem Gg.lw {x : Operand} {t e e2 : TypeId} {o n j : Nat} {cs : List PV} [hu : SL P t e] (e' : ([st.ev x], zau ops ⟨d, .call { callee := .builtin .len, args := #[x], argTypes := #[t] }, ty, pos, af, gd⟩ st, st.heap o) = ([.row o], some true, .live (.row e2 j n cs))) (k : ARun P ops K l (fs ++ [([o], [])]) (st.put d (.p (.v (.int .i64 n))))) : ARun P ops K (⟨d, .call { callee := .builtin .len, args := #[x], argTypes := #[t] }, ty, pos, af, gd⟩ :: l) fs st := Gg.r1 (a := (o, .live (.row e2 j n cs))) (a_lenR hu.h) e' k
theorem Gg.cv {x : Operand} {src dst : TypeId} {kk kd : IntKind} {a c : Int} {b : Bool} [hs : RW P src b] [hd : IK P dst kd] (e : ([st.ev x], zau ops ⟨d, .convert src dst x, ty, pos, af, gd⟩ st) = ([.p (.v (.int kk a))], some true)) (h : kd.wrap a = c) (k : ARun P ops K l (fs ++ [([], [])]) (st.put d (.p (.v (.int kd c))))) : ARun P ops K (⟨d, .convert src dst x, ty, pos, af, gd⟩ :: l) fs st := by
 obtain ⟨ds, h1, _⟩ := hs.h
 exact Gg.pu (ziF h1 hd.h h) e k
theorem Gg.bi {o : BinOp} {x y : Operand} {xt yt : TypeId} {kk : IntKind} {a b c : Int} {b' : Int} (e : ([st.ev x, st.ev y], zau ops ⟨d, .binOp o xt x y yt, ty, pos, af, gd⟩ st) = ([.p (.v (.int kk a)), .p (.v (.int kk b))], some true)) (hb : o = .add ∧ b' = a + b ∨ o = .sub ∧ b' = a - b ∨ o = .mul ∧ b' = a * b) (h : kk.wrap b' = c) (k : ARun P ops K l (fs ++ [([], [])]) (st.put d (.p (.v (.int kk c))))) : ARun P ops K (⟨d, .binOp o xt x y yt, ty, pos, af, gd⟩ :: l) fs st := by
 rcases hb with ⟨rfl, rfl⟩ | ⟨rfl, rfl⟩ | ⟨rfl, rfl⟩
 ·exact Gg.pu (zgF h) e k
 ·exact Gg.pu (zgD h) e k
 ·exact Gg.pu (a_mul h) e k
theorem Gg.vi {o : BinOp} {x y : Operand} {xt yt : TypeId} {kk : IntKind} {a b : Int} {u c : Bool} (e : ([st.ev x, st.ev y], zau ops ⟨d, .binOp o xt x y yt, ty, pos, af, gd⟩ st) = ([.p (.v (.int kk a)), .p (.v (.int kk b))], some true)) (hb : o = .eql ∧ u = (a == b) ∨ o = .neq ∧ u = (a != b) ∨ o = .lss ∧ u = decide (a < b) ∨ o = .leq ∧ u = decide (a ≤ b) ∨ o = .gtr ∧ u = decide (b < a) ∨ o = .geq ∧ u = decide (b ≤ a)) (h : u = c) (k : ARun P ops K l (fs ++ [([], [])]) (st.put d (.p (.v (.bool c))))) : ARun P ops K (⟨d, .binOp o xt x y yt, ty, pos, af, gd⟩ :: l) fs st := by
 rcases hb with ⟨rfl, rfl⟩ | ⟨rfl, rfl⟩ | ⟨rfl, rfl⟩ | ⟨rfl, rfl⟩ | ⟨rfl, rfl⟩ | ⟨rfl, rfl⟩
 ·exact Gg.pu (a_eqlV h) e k
 ·exact Gg.pu (a_neqV h) e k
 ·exact Gg.pu (zef h) e k
 ·exact Gg.pu (a_leqV h) e k
 ·exact Gg.pu (a_gtrV h) e k
 ·exact Gg.pu (a_geqV h) e k
theorem Gg.vs {o : BinOp} {x y : Operand} {xt yt : TypeId} {a b : ByteArray} {u c : Bool} (e : ([st.ev x, st.ev y], zau ops ⟨d, .binOp o xt x y yt, ty, pos, af, gd⟩ st) = ([.p (.v (.string a)), .p (.v (.string b))], some true)) (hb : o = .eql ∧ u = decide (a = b) ∨ o = .neq ∧ u = (!decide (a = b))) (h : u = c) (k : ARun P ops K l (fs ++ [([], [])]) (st.put d (.p (.v (.bool c))))) : ARun P ops K (⟨d, .binOp o xt x y yt, ty, pos, af, gd⟩ :: l) fs st := by
 rcases hb with ⟨rfl, rfl⟩ | ⟨rfl, rfl⟩
 ·exact Gg.pu (zbp h) e k
 ·exact Gg.pu (a_sneqV h) e k
theorem cX {P : Program} {w0 : World} {A : Ctx} {nt : Nat} {st : St} {Q : Exit → St → Prop} {c : Operand} {x y : Code} {t : Bool} (h1 : t = true → awp ⟨P, w0, A, nt⟩ x Q st) (h2 : t = false → awp ⟨P, w0, A, nt⟩ y Q st) (hc : st.ev c = .p (.v (.bool t)) := by exact rfl) : awp ⟨P, w0, A, nt⟩ (.cond c x y) Q st := zb7 t hc h1 h2
theorem fnI {f : FuncId} {fn : Func} {c : Code} {args : List AV} {res : AV} {news : List (Nat × AObj)} [hf : FU P f fn] (h : ∀ w0 A, awp ⟨P, w0, ctx0 A, fn.ntmps⟩ c (Fin P fn.results.toList res news) (St.of (zgY 0 args) [])) (hb : fn.body = some c := by exact rfl) (hn : args.length ≤ fn.ntmps := by exact qbe rfl) : Fn P f args res news := zcr hf.h hb hn h
theorem fnIO {f : FuncId} {fn : Func} {c : Code} {args : List AV} {res : AV} {rds wrs : List (Nat × Slot)} [hf : FU P f fn] (h : ∀ w0 A heap, awp ⟨P, w0, A, fn.ntmps⟩ c (FinO P fn.results.toList res heap wrs) ⟨zcV (zgY 0 args), updL heap rds⟩) (hb : fn.body = some c := by exact rfl) (hn : args.length ≤ fn.ntmps := by exact qbe rfl) : FnO P f args rds wrs res := fnO_intro hf.h hb hn h
theorem cK {x : Operand} {args : Array Operand} {ts : Array TypeId} {f : FuncId} {fn : Func} {us cs : List AV} {res : AV} {news : List (Nat × AObj)} {n : Nat} (hC : Fn P f us res news) [hf : FU P f fn] {r : AV} {wrs : List (Nat × Slot)}
 (k : ARun P ops K l (fs ++ [(news.map (fun p => n + 1000 * p.1), news.map fun p => n + 1000 * p.1)]) ((st.upd wrs).put (some n) r))
 (hx : st.ev x = .fn f cs := by exact rfl) (hxs : args.toList.map st.ev ++ cs = us := by exact rfl) (hb : fn.body.isNone = false := by exact rfl) (hn : (fn.name == "runtime.NumGoroutine") = false := by exact rfl)
 (h1 : AV.okInL [] us = true := by first | rfl | simp [AV.okInL, AV.okIn, zah]) (h3 : res.okIn (news.map Prod.fst) = true := by exact rfl) (h4 : zbj (news.map Prod.fst) = true := by exact rfl) (h5 : zbj (news.map fun p => n + 1000 * p.1) = true := by exact rfl)
 (hun : Rds st (news.map fun p => (n + 1000 * p.1, .un)) := by first | exact trivial | exact ⟨rfl, trivial⟩ | exact ⟨rfl, rfl, trivial⟩ | exact ⟨rfl, rfl, rfl, rfl, rfl, trivial⟩) (hg : zau ops ⟨some n, .call { callee := .value x, args := args, argTypes := ts }, ty, pos, af, gd⟩ st = some true := by exact rfl) (hr : res.ren (fun m => n + 1000 * m) = r := by exact rfl) (hw : za2 (fun m => n + 1000 * m) news = wrs := by exact rfl) :
 ARun P ops K (⟨some n, .call { callee := .value x, args := args, argTypes := ts }, ty, pos, af, gd⟩ :: l) fs st := zay (fun m => n + 1000 * m) hC hx hxs hf.h hb hn h1 h3 h4 h5 hun hg hr hw k
theorem cV {x : Operand} {args : Array Operand} {ts : Array TypeId} {f : FuncId} {fn : Func} {us cs : List AV} {res : AV} {news : List (Nat × AObj)} {n : Nat} (hC : Fn P f us res news) [hf : FU P f fn] {r : AV} {wrs : List (Nat × Slot)}
 (k : ARun P ops K l (fs ++ [(AV.objsL (args.toList.map st.ev ++ cs) ++ news.map (fun p => n + 1000 * p.1), news.map fun p => n + 1000 * p.1)]) ((st.upd wrs).put (some n) r))
 (hx : st.ev x = .fn f cs := by exact rfl) (hxs : AV.viewL (fun _ => false) st.heap (args.toList.map st.ev ++ cs) = us := by exact rfl) (hb : fn.body.isNone = false := by exact rfl) (hn : (fn.name == "runtime.NumGoroutine") = false := by exact rfl)
 (h1 : res.noSl = true := by first | rfl | simp [AV.noSl, AV.noSlL, AObj.noSl, PV.isV, zbS]) (h2 : news.all (fun p => p.2.noSl) = true := by first | rfl | simp [AV.noSl, AV.noSlL, AObj.noSl, PV.isV, zbS]) (h3 : res.okIn (news.map Prod.fst) = true := by exact rfl) (h4 : zbj (news.map Prod.fst) = true := by exact rfl) (h5 : zbj (news.map fun p => n + 1000 * p.1) = true := by exact rfl)
 (hun : Rds st (news.map fun p => (n + 1000 * p.1, .un)) := by first | exact trivial | exact ⟨rfl, trivial⟩ | exact ⟨rfl, rfl, trivial⟩ | exact ⟨rfl, rfl, rfl, rfl, rfl, trivial⟩) (hg : zau ops ⟨some n, .call { callee := .value x, args := args, argTypes := ts }, ty, pos, af, gd⟩ st = some true := by exact rfl) (hr : res.ren (fun m => n + 1000 * m) = r := by exact rfl) (hw : za2 (fun m => n + 1000 * m) news = wrs := by exact rfl) :
 ARun P ops K (⟨some n, .call { callee := .value x, args := args, argTypes := ts }, ty, pos, af, gd⟩ :: l) fs st := zbG (fun m => n + 1000 * m) hC hx hxs hf.h hb hn h1 h2 h3 h4 h5 hun hg hr hw k
theorem Gg.y1 {a t : Nat} {l : List ResultVar} {o bt : Nat} {c : AV} {xs : List AV} [h : RW P t false] (h1 : st.tmps a = .ref o 0) (h2 : st.heap o = .live (.box bt [c])) (h3 : ResIs P st l xs) : ResIs P st (.cell a t :: l) (c :: xs) := by
 obtain ⟨ds, k1, k2⟩ := h.h
 exact .cell1 _ _ _ _ _ _ _ _ h1 h2 k1 k2 h3
theorem Gg.y2 {a t : Nat} {l : List ResultVar} {o bt j : Nat} {cs : List AV} {xs : List AV} [h : RW P t true] [hi : SZ P t j] (h1 : st.tmps a = .ref o 0) (h2 : st.heap o = .live (.box bt cs)) (hc : cs.length = j) (h3 : ResIs P st l xs) : ResIs P st (.cell a t :: l) (.agg cs :: xs) := by
 obtain ⟨ds, k1, k2⟩ := h.h
 exact .cellN _ _ _ _ _ _ _ _ _ h1 h2 k1 k2 hi.h hc h3
theorem yT {rs : List ResultVar} {res : AV} {e : Exit} {vals : List AV} {news : List (Nat × AObj)} (ρ : Nat → Nat) (hv : (oneA vals).view (zfL ρ news) st.heap = res.ren ρ) (ho : LeO ρ st (news.map Prod.fst) news) (h : ResIs P st rs vals := by repeat (first | exact ResIs.nil | (apply ResIs.tmp; exact rfl) | (apply Gg.y1; exact rfl; exact rfl) | (apply Gg.y2; exact rfl; exact rfl; (first | assumption | kernel_rfl))))
 (he : e = .normal ∨ e = .ret := by first | exact .inl rfl | exact .inr rfl) (hk : res.okIn (news.map Prod.fst) = true := by exact rfl) (hn : zbj (news.map fun p => ρ p.1) = true := by exact rfl) : Fin P rs res news e st := fT ρ h hv ho he hk hn
theorem yE {rs : List ResultVar} {res : AV} {e : Exit} {vals : List AV} {news : List (Nat × AObj)} (h : ResIs P st rs vals := by repeat (first | exact ResIs.nil | (apply ResIs.tmp; exact rfl) | (apply Gg.y1; exact rfl; exact rfl) | (apply Gg.y2; exact rfl; exact rfl; (first | assumption | kernel_rfl))))
 (hv : (oneA vals).view (zfL (fun o => o) news) st.heap = res.ren fun o => o := by exact rfl) (ho : LeO (fun o => o) st (news.map Prod.fst) news := by exact trivial) (he : e = .normal ∨ e = .ret := by first | exact .inl rfl | exact .inr rfl) (hk : res.okIn (news.map Prod.fst) = true := by exact rfl) (hn : zbj (news.map fun p => p.1) = true := by exact rfl) : Fin P rs res news e st := fT (fun o => o) h hv ho he hk hn
end
theorem G {p q : Prop} (c : List Nat) (k : q) (h : W c q p := by
 repeat (first
  | (with_reducible apply Gg.z)
  | (with_reducible apply Gg.f1)
  | (with_reducible apply Gg.f2)
  | (with_reducible apply Gg.f3)
  | (with_reducible apply Gg.f4)
  | (with_reducible apply Gg.f5)
  | (with_reducible apply Gg.f6)
  | ((with_reducible apply Gg.f7); exact rfl)
  | ((with_reducible apply Gg.n); first
   | ((with_reducible apply Gg.ni))
   | ((with_reducible apply zal))
   | ((with_reducible apply zaB); kernel_rfl)
   | ((with_reducible apply Gg.pu (zaO (r := .p _))); exact rfl)
   | ((with_reducible apply Gg.pu (zaF (r := .p _))); exact rfl)
   | ((with_reducible apply Gg.sk); exact rfl)
   | ((with_reducible apply Gg.fa); exact rfl)
   | ((with_reducible apply Gg.ld); exact rfl; (first | exact rfl | assumption))
   | ((with_reducible apply Gg.pu a_pickF); exact rfl)
   | ((with_reducible apply Gg.pu zfn); exact rfl)
   | ((with_reducible apply awp_cF); exact rfl)
   | ((with_reducible apply awp_cT); exact rfl)
   | ((with_reducible apply zaE))
   | ((with_reducible apply zaw))
   | ((with_reducible apply zaA))
   | ((with_reducible apply zaJ))
   | ((with_reducible apply Gg.ln); exact rfl; (first | exact qbe rfl | omega | (simp only [AV.cells, qbu]; omega)); (first | exact zcC qF | (simp only [qb7, qcT, qb8, qch]; rfl) | rfl))
   | ((with_reducible apply Gg.pu zbH); exact rfl)
   | ((with_reducible apply Gg.pu a_neq); exact rfl)
   | ((with_reducible apply Gg.pu a_lss); exact rfl)
   | ((with_reducible apply Gg.pu a_leq); exact rfl)
   | ((with_reducible apply Gg.pu a_gtr); exact rfl)
   | ((with_reducible apply Gg.pu a_geq); exact rfl)
   | ((with_reducible apply Gg.pu a_seql); exact rfl)
   | ((with_reducible apply Gg.pu a_sneq); exact rfl)
   | ((with_reducible apply Gg.pu a_not); exact rfl)
   | ((with_reducible apply Gg.ex); exact rfl; exact rfl)
   | ((with_reducible apply Gg.pu (zaF (r := .row _))); exact rfl)
   | ((with_reducible apply Gg.pu (zaO (r := .row _))); exact rfl)
   | ((with_reducible apply Gg.pu (zaF (r := .tup _))); exact rfl)
   | ((with_reducible apply Gg.pu (zaO (r := .tup _))); exact rfl)
   | ((with_reducible apply Gg.pu (zaF (r := .ref _ _))); exact rfl)
   | ((with_reducible apply Gg.pu (zaO (r := .ref _ _))); exact rfl)
   | ((with_reducible apply Gg.pu (zaF (r := .agg _))); exact rfl)
   | ((with_reducible apply Gg.pu (zaO (r := .agg _))); exact rfl)
   | ((with_reducible apply Gg.pu (zaF (r := .psl _ _ _ _))); exact rfl)
   | ((with_reducible apply Gg.pu (zaO (r := .psl _ _ _ _))); exact rfl)
   | ((with_reducible apply Gg.pu (zaF (r := .ptr _))); exact rfl)
   | ((with_reducible apply Gg.pu (zaO (r := .ptr _))); exact rfl)
   | ((with_reducible apply Gg.pu (zaF (r := .fn _ _))); exact rfl)
   | ((with_reducible apply Gg.pu (zaO (r := .fn _ _))); exact rfl)
   | ((with_reducible apply Gg.ls); exact rfl)
   | ((with_reducible apply Gg.lt); exact rfl)
   | ((with_reducible apply Gg.lw); exact rfl)
   | ((with_reducible apply Gg.lv); exact rfl)
   | ((with_reducible apply Gg.ix); exact rfl; omega; omega)
   | ((with_reducible apply Gg.iy); exact rfl; omega; omega; (first | (simp only [qbx, qcE, Nat.zero_add]; rfl) | rfl))
   | ((with_reducible apply Gg.lq); exact rfl; (focus (first | omega | (simp; done) | (simp; omega))); (first | assumption | rfl))
   | ((with_reducible apply Gg.lo); exact rfl; (first | rfl | assumption | ((try simp only [qbN, qbO, qbx, qcE, qb0, Nat.zero_add]); first | assumption | rfl)))
   | ((with_reducible apply Gg.lr); exact rfl; (first | rfl | assumption | ((try simp only [qbN, qbO, qbx, qcE, qb0, Nat.zero_add]); first | assumption | rfl)))
   | ((with_reducible apply Gg.bi); exact rfl; (first | exact .inl ⟨rfl, rfl⟩ | exact .inr (.inl ⟨rfl, rfl⟩) | exact .inr (.inr ⟨rfl, rfl⟩)); (first | exact qbM _ qp | exact qcU _ qp | exact IntWalk.u8_in _ qp | exact IntWalk.u64_in _ qp | rfl))
   | ((with_reducible apply Gg.cv); exact rfl; (first | exact qbM _ qp | exact qcU _ qp | exact IntWalk.u8_in _ qp | exact IntWalk.u64_in _ qp | rfl))
   | ((with_reducible apply Gg.sn); exact rfl; exact rfl; (first | exact qbf rfl | (simp only [AV.cells, qbu]; first | assumption | omega)); (first | exact qbe rfl | omega | (simp only [AV.cells, qbu]; omega)); (first | (simp only [setR, AV.cells, qb7, qcT, qb8, qch, List.drop_nil, List.take_nil, qbK, qbG, qbA, qbs, qcy, Nat.reduceAdd, Nat.zero_add, qb0]; rfl) | rfl))
   | ((with_reducible apply Gg.bx); exact rfl; exact rfl)
   | ((with_reducible apply Gg.al); exact rfl; exact rfl)
   | ((with_reducible apply Gg.bu); exact rfl; exact rfl)
   | ((with_reducible apply Gg.sa); exact rfl; exact rfl; (first | exact qbf rfl | (simp only [AV.cells, qbu]; first | assumption | omega)); exact qbf rfl)
   | ((with_reducible apply Gg.fb); exact rfl)
   | ((with_reducible apply zf1 4); kernel_rfl)
   | ((with_reducible apply Gg.nd); kernel_rfl)
   | ((with_reducible apply Gg.pu zf3); exact rfl)
   | ((with_reducible apply Gg.pu (zaF (r := .mb _ _))); exact rfl)
   | ((with_reducible apply Gg.pu (zaO (r := .mb _ _))); exact rfl)
   | ((with_reducible apply Gg.pu (zaF (r := .mp _))); exact rfl)
   | ((with_reducible apply Gg.pu (zaO (r := .mp _))); exact rfl)
   | ((with_reducible apply Gg.pu (zaF (r := .sat _))); exact rfl)
   | ((with_reducible apply Gg.pu (zaO (r := .sat _))); exact rfl)
   | ((with_reducible apply Gg.pu (zaF (r := .any))); exact rfl)
   | ((with_reducible apply Gg.pu (zaO (r := .any))); exact rfl)
   | ((with_reducible apply Gg.mp); exact rfl; (first | apply zaF (r := .p _) | apply zbH | apply a_neq | apply a_lss | apply a_gtr | apply a_leq | apply a_geq | apply a_seql | apply a_sneq | apply a_not); (repeat (first | exact zdX | refine zcd id ?_ | refine stripOK_p ?_ | refine zhj ?_ | refine zhi ?_ | refine zhk ?_ | refine zhl ?_ | refine zcd (by simp_all) ?_ | refine StripOK.plain _ _ rfl ?_)))
   | ((with_reducible apply Gg.ml); exact rfl; (first | exact rfl | assumption); (repeat (first | exact zdX | refine zcd id ?_ | refine zcd (by simp_all) ?_ | refine StripOK.plain _ _ rfl ?_)))
   | ((with_reducible apply Gg.mf); exact rfl; (repeat (first | exact zdX | refine zcd id ?_ | refine zcd (by simp_all) ?_ | refine StripOK.plain _ _ rfl ?_))))
  | ((with_reducible apply Gg.c1); first
   | ((with_reducible apply Gg.pu za4); exact rfl)
   | ((with_reducible apply Gg.pu a_neqT); exact rfl)
   | ((with_reducible apply Gg.pu a_seqlT); exact rfl)
   | ((with_reducible apply Gg.pu a_sneqT); exact rfl))
  | ((with_reducible apply Gg.c3); first
   | ((with_reducible apply Gg.vi (c := false)); exact rfl; (first | exact .inl ⟨rfl, rfl⟩ | exact .inr (.inl ⟨rfl, rfl⟩) | exact .inr (.inr (.inl ⟨rfl, rfl⟩)) | exact .inr (.inr (.inr (.inl ⟨rfl, rfl⟩))) | exact .inr (.inr (.inr (.inr (.inl ⟨rfl, rfl⟩)))) | exact .inr (.inr (.inr (.inr (.inr ⟨rfl, rfl⟩))))); (focus (first | decide | (simp; done) | (simp; omega) | (simp [*]; done) | simp_all)))
   | ((with_reducible apply Gg.vs (c := false)); exact rfl; (first | exact .inl ⟨rfl, rfl⟩ | exact .inr ⟨rfl, rfl⟩); (focus (first | decide | (simp; done) | (simp; omega) | (simp [*]; done) | simp_all))))
  | ((with_reducible apply Gg.c4); first
   | ((with_reducible apply Gg.vi (c := true)); exact rfl; (first | exact .inl ⟨rfl, rfl⟩ | exact .inr (.inl ⟨rfl, rfl⟩) | exact .inr (.inr (.inl ⟨rfl, rfl⟩)) | exact .inr (.inr (.inr (.inl ⟨rfl, rfl⟩))) | exact .inr (.inr (.inr (.inr (.inl ⟨rfl, rfl⟩)))) | exact .inr (.inr (.inr (.inr (.inr ⟨rfl, rfl⟩))))); (focus (first | decide | (simp; done) | (simp; omega) | (simp [*]; done) | simp_all)))
   | ((with_reducible apply Gg.vs (c := true)); exact rfl; (first | exact .inl ⟨rfl, rfl⟩ | exact .inr ⟨rfl, rfl⟩); (focus (first | decide | (simp; done) | (simp; omega) | (simp [*]; done) | simp_all))))
  | (with_reducible apply Gg.c9)
  | ((with_reducible apply Gg.c2); first
   | ((with_reducible apply Gg.an); exact rfl; (focus (first | exact id | (simp; done) | grind)))
   | ((with_reducible apply Gg.or); exact rfl; (focus (first | exact id | (simp; done) | grind)))))) : p := h k
theorem jap {p : Prop} (h : p := by
 (repeat (first | exact trivial | (refine ⟨⟨qH, rfl⟩, ?_⟩)))) : p := h
theorem jaq {p : Prop} (h : p := by
 refine G [5] ?_
 refine cX ?_ ?_ <;> intro h
 ·have hlt : k < l.length := qu
  clear h
  by_cases hkU2 : k = U
  ·have hcl := zfQ (zbY U (a, b) k) l 0
   have hat0 := zi6 (zbY U (a, b) k) 4 qE l 0 k hlt
   have hat : (gC (fK U (a, b) k) 0 l)[k * 5 + 4]? = some (.p (.sl l[k].nets.length 2 (l[k].nets.flatMap ntC))) := by
    exact jcW
   have hpn := (hok l[k] (qce hlt)).2
   have hst : setR (gC (fK U (a, b) k) 0 l) (k * 5 + 4) [.row 77] = gC (fK2 U (a, b) k) 0 l := zgN (zbY U (a, b) k) 4 qE (.row 77) l 0 k hlt (by
    rw [Nat.zero_add]; unfold fK fK2; rw [if_neg (Nat.lt_irrefl k), if_pos rfl]; rfl) (fun i hi hne => by rw [Nat.zero_add]; unfold fK2; rw [if_neg hne])
   refine G [18] ?_
   refine jdu ?_
   refine fA zcQ rfl rfl ?_
   refine jeE ?_
   refine G [4] ?_
   refine zaK (zbF 16 77 82 2 rfl rfl) ?_
   refine zac (fun m2 st => ∃ i : Nat, m2 + i = l[k].nets.length ∧ st = St.of [(1, .p (.v (.string pt))), (5, .ref 5 0), (6, .ref 6 0), (9, .fn 96 []), (12, .ref 12 0), (13, .p (.v (.int .i64 U))), (186, .p (.v (.int .i64 l.length))), (187, .p (.v (.int .i64 k))), (15, .p (.v (.int .i64 k))), (16, .row 77), (195, .p (.sl l[k].nets.length 2 (l[k].nets.flatMap ntC))), (196, .p (.v (.int .i64 l[k].nets.length))), (197, .p (.v (.int .i64 i)))] [(5, .box 107 [.p (.v (.int .i64 10)), .p (.v (.string t)), .p (.v (.int .i64 n)), .p (.v (.int .u32 a)), .p (.v (.int .i64 b))]), (6, .box 24 [.p (.v (.string ⟨#[]⟩)), .p (.v (.int .i64 0)), .p (.v (.slice none 0 0))]), (12, .box 24 [.p (.v (.string key)), .p (.v (.int .i64 port)), .row 40]), (40, .rowA 48 5 l.length none (gC (fK U (a, b) k) 0 l)), (77, .row 82 2 (delN (a, b) (l[k].nets.take i)).length ((delN (a, b) (l[k].nets.take i)).flatMap ntC))]) l[k].nets.length ?_ ?_
   ·exact jbF
   ·rintro m2 st ⟨i, hi, rfl⟩
    refine G [5] ?_
    refine cX ?_ ?_ <;> intro h
    ·exact ja2
    have hge : i = l[k].nets.length := qu
    clear h
    subst hge
    rw [qbI]
    refine G [6] ?_
    refine jdu ?_
    refine fA zcQ rfl rfl ?_
    refine zab (zcx (Y := .row 77) (es := gC (fK2 U (a, b) k) 0 l) sz46 rfl rfl qa1 hst) rfl rfl ⟨rfl, trivial⟩ ?_
    refine jdD ?_
    have hfin : AV.renL (fun o => bif Nat.beq o 88 then 77 else o) (gC (fK U (a, b) (k + 1)) 0 l) = gC (fK2 U (a, b) k) 0 l := gC_ren U (a, b) l 0 k hkU2
    refine ⟨m - 1, qp, _, zae (fun o => bif Nat.beq o 88 then 77 else o) [(1, .p (.v (.string pt))), (5, .ref 5 0), (6, .ref 6 0), (9, .fn 96 []), (12, .ref 12 0), (13, .p (.v (.int .i64 U))), (186, .p (.v (.int .i64 l.length))), (187, .p (.v (.int .i64 (k + 1 : Nat))))] [(5, .box 107 [.p (.v (.int .i64 10)), .p (.v (.string t)), .p (.v (.int .i64 n)), .p (.v (.int .u32 a)), .p (.v (.int .i64 b))]), (6, .box 24 [.p (.v (.string ⟨#[]⟩)), .p (.v (.int .i64 0)), .p (.v (.slice none 0 0))]), (12, .box 24 [.p (.v (.string key)), .p (.v (.int .i64 port)), .row 40]), (40, .rowA 48 5 l.length none (gC (fK U (a, b) (k + 1)) 0 l)), (88, .row 82 2 (delN (a, b) l[k].nets).length ((delN (a, b) l[k].nets).flatMap ntC))] ?_ ?_ rfl, k + 1, qp, .inr ⟨qp, ?_⟩⟩
    ·exact jap
    ·refine ⟨⟨rfl, rfl⟩, ⟨rfl, rfl⟩, ⟨rfl, rfl⟩, ⟨by show _ = Slot.live (.rowA _ 5 l.length none (AV.renL _ (gC (fK U (a, b) (k + 1)) 0 l))); rw [hfin]; rfl, zdj l 0⟩, ⟨rfl, rfl⟩, trivial⟩
    ·subst hkU2; rfl
  ·have hne : k ≠ U := hkU2
   have hcl := zfQ (zbY U (a, b) k) l 0
   have hat0 := zi6 (zbY U (a, b) k) 4 qE l 0 k hlt
   have hat : (gC (fK U (a, b) k) 0 l)[k * 5 + 4]? = some (.p (.sl l[k].nets.length 2 (l[k].nets.flatMap ntC))) := by
    exact jcW
   have hpn := (hok l[k] (qce hlt)).2
   have hst : setR (gC (fK U (a, b) k) 0 l) (k * 5 + 4) [.p (.sl (delN (a, b) l[k].nets).length 2 ((delN (a, b) l[k].nets).flatMap ntC))] = gC (fK U (a, b) (k + 1)) 0 l := zgN (zbY U (a, b) k) 4 qE _ l 0 k hlt (by
    rw [Nat.zero_add]; unfold fK; rw [if_neg (Nat.lt_irrefl k), if_pos (Nat.lt_succ_self k), if_neg hne]; rfl) (fun i hi hik => by
    rw [Nat.zero_add]; unfold fK
    by_cases h1 : i < k
    ·rw [if_pos h1, if_pos (by omega)]
    ·rw [if_neg h1, if_neg (by omega)])
   refine G [18] ?_
   refine jdu ?_
   refine fA zcQ rfl rfl ?_
   refine jeE ?_
   refine G [4] ?_
   refine zaK (zbF 16 77 82 2 rfl rfl) ?_
   refine zac (fun m2 st => ∃ i : Nat, m2 + i = l[k].nets.length ∧ st = St.of [(1, .p (.v (.string pt))), (5, .ref 5 0), (6, .ref 6 0), (9, .fn 96 []), (12, .ref 12 0), (13, .p (.v (.int .i64 U))), (186, .p (.v (.int .i64 l.length))), (187, .p (.v (.int .i64 k))), (15, .p (.v (.int .i64 k))), (16, .row 77), (195, .p (.sl l[k].nets.length 2 (l[k].nets.flatMap ntC))), (196, .p (.v (.int .i64 l[k].nets.length))), (197, .p (.v (.int .i64 i)))] [(5, .box 107 [.p (.v (.int .i64 10)), .p (.v (.string t)), .p (.v (.int .i64 n)), .p (.v (.int .u32 a)), .p (.v (.int .i64 b))]), (6, .box 24 [.p (.v (.string ⟨#[]⟩)), .p (.v (.int .i64 0)), .p (.v (.slice none 0 0))]), (12, .box 24 [.p (.v (.string key)), .p (.v (.int .i64 port)), .row 40]), (40, .rowA 48 5 l.length none (gC (fK U (a, b) k) 0 l)), (77, .row 82 2 (delN (a, b) (l[k].nets.take i)).length ((delN (a, b) (l[k].nets.take i)).flatMap ntC))]) l[k].nets.length ?_ ?_
   ·exact jbF
   ·rintro m2 st ⟨i, hi, rfl⟩
    refine G [5] ?_
    refine cX ?_ ?_ <;> intro h
    ·exact ja2
    have hge : i = l[k].nets.length := qu
    clear h
    subst hge
    rw [qbI]
    refine zaJ (zbK (zbK (zb8 (zaH (zaX (zeF 16 77 rfl rfl) ?_)))))
    skip
    refine G [5] ?_
    refine jdu ?_
    refine fA zcQ rfl rfl ?_
    refine jel ?_
    refine jdD ?_
    refine ⟨m - 1, qp, _, zae id [(1, .p (.v (.string pt))), (5, .ref 5 0), (6, .ref 6 0), (9, .fn 96 []), (12, .ref 12 0), (13, .p (.v (.int .i64 U))), (186, .p (.v (.int .i64 l.length))), (187, .p (.v (.int .i64 (k + 1 : Nat))))] [(5, .box 107 [.p (.v (.int .i64 10)), .p (.v (.string t)), .p (.v (.int .i64 n)), .p (.v (.int .u32 a)), .p (.v (.int .i64 b))]), (6, .box 24 [.p (.v (.string ⟨#[]⟩)), .p (.v (.int .i64 0)), .p (.v (.slice none 0 0))]), (12, .box 24 [.p (.v (.string key)), .p (.v (.int .i64 port)), .row 40]), (40, .rowA 48 5 l.length none (gC (fK U (a, b) (k + 1)) 0 l))] ?_ ?_ rfl, k + 1, qp, .inl ⟨qp, rfl⟩⟩
    ·exact jap
    ·refine ⟨⟨rfl, rfl⟩, ⟨rfl, rfl⟩, ⟨rfl, rfl⟩, ⟨by show _ = Slot.live (.rowA _ 5 l.length none (AV.renL (fun o => o) _)); rw [zdc]; rfl, zbt l 0 (fun i hi => by omega)⟩, trivial⟩
 ·exfalso
  simp at h
  omega) : p := h
theorem jar {p : Prop} (h : p := by
 have hlt : k < l.length := qu
 clear h
 have hne : k ≠ U := qp
 have hcl := zfQ (zbY U (a, b) k) l 0
 have hat0 := zi6 (zbY U (a, b) k) 4 qE l 0 k hlt
 have hat : (gC (fK U (a, b) k) 0 l)[k * 5 + 4]? = some (.p (.sl l[k].nets.length 2 (l[k].nets.flatMap ntC))) := by
  exact jcW
 have hpn := (hok l[k] (qce hlt)).2
 have hst : setR (gC (fK U (a, b) k) 0 l) (k * 5 + 4) [.p (.sl (delN (a, b) l[k].nets).length 2 ((delN (a, b) l[k].nets).flatMap ntC))] = gC (fK U (a, b) (k + 1)) 0 l := zgN (zbY U (a, b) k) 4 qE _ l 0 k hlt (by
  rw [Nat.zero_add]; unfold fK; rw [if_neg (Nat.lt_irrefl k), if_pos (Nat.lt_succ_self k), if_neg hne]; rfl) (fun i hi hik => by
  rw [Nat.zero_add]; unfold fK
  by_cases h1 : i < k
  ·rw [if_pos h1, if_pos (by omega)]
  ·rw [if_neg h1, if_neg (by omega)])
 refine G [18] ?_
 refine jdu ?_
 refine fA zcQ rfl rfl ?_
 refine jeE ?_
 refine G [4] ?_
 refine zaK (zbF 16 77 82 2 rfl rfl) ?_
 refine zac (fun m2 st => ∃ i : Nat, m2 + i = l[k].nets.length ∧ st = St.of [(1, .p (.v (.string pt))), (5, .ref 5 0), (6, .ref 6 0), (9, .fn 96 []), (12, .ref 12 0), (13, .p (.v (.int .i64 U))), (186, .p (.v (.int .i64 l.length))), (187, .p (.v (.int .i64 k))), (15, .p (.v (.int .i64 k))), (16, .row 77), (195, .p (.sl l[k].nets.length 2 (l[k].nets.flatMap ntC))), (196, .p (.v (.int .i64 l[k].nets.length))), (197, .p (.v (.int .i64 i)))] [(5, .box 107 [.p (.v (.int .i64 10)), .p (.v (.string t)), .p (.v (.int .i64 n)), .p (.v (.int .u32 a)), .p (.v (.int .i64 b))]), (6, .box 24 [.p (.v (.string ⟨#[]⟩)), .p (.v (.int .i64 0)), .p (.v (.slice none 0 0))]), (12, .box 24 [.p (.v (.string key)), .p (.v (.int .i64 port)), .row 40]), (40, .rowA 48 5 l.length none (gC (fK U (a, b) k) 0 l)), (88, .row 82 2 (delN (a, b) l[U].nets).length ((delN (a, b) l[U].nets).flatMap ntC)), (77, .row 82 2 (delN (a, b) (l[k].nets.take i)).length ((delN (a, b) (l[k].nets.take i)).flatMap ntC))]) l[k].nets.length ?_ ?_
 ·refine jec ?_ ?_
  ·exact jap
  ·exact jbl
 ·rintro m2 st ⟨i, hi, rfl⟩
  refine G [5] ?_
  refine cX ?_ ?_ <;> intro h
  ·have hlt : i < l[k].nets.length := qu
   clear h
   have hx : l[k].nets[i]? = some (l[k].nets[i]'hlt) := List.getElem?_eq_getElem hlt
   have hch := zaj (f := ntC) (k := 2) (fun _ => rfl) hx
   have hle := zai (f := ntC) (k := 2) (fun _ => rfl) hlt
   have hnx := zdT (a, b) l[k].nets i hlt
   have hdl : (delN (a, b) (l[k].nets.take i)).length ≤ 1048576 := qcd zcu.1 qN
   generalize hD : delN (a, b) (l[k].nets.take i) = D at *
   obtain ⟨⟨xa, xb⟩, hxx⟩ : ∃ x, l[k].nets[i]'hlt = x := ⟨_, rfl⟩
   rw [hxx] at hch hnx
   obtain ⟨D2, hD2⟩ : ∃ D2, delN (a, b) (l[k].nets.take (i + 1)) = D2 := ⟨_, rfl⟩
   rw [hD2] at hnx
   refine G [6] ?_
   refine jeF ?_
   refine zab (zaW 18 zr82 rfl) rfl rfl ⟨rfl, trivial⟩ ?_
   refine zab (zad (Y := .agg [.p (.v (.int .u32 xa)), .p (.v (.int .i64 xb))]) sz82 rfl rfl (qbf rfl)) rfl rfl ⟨rfl, trivial⟩ ?_
   refine zaf ?_
   by_cases he : (xa, xb) = (a, b)
   ·rw [if_pos he, qbA] at hnx
    refine G [5] ?_
    refine zaa (zak U82 rfl rfl qr qr qr (c := false) (by rw [zdm, decide_eq_true he]; rfl)) rfl rfl ?_
    refine jdv ?_
    refine ⟨m2 - 1, qp, _, zae id _ _ ?_ ?_ rfl, i + 1, qp, by rw [hD2, hnx]⟩
    ·exact jap
    ·exact jbl
   ·rw [if_neg he] at hnx
    have hfm : D2.flatMap ntC = D.flatMap ntC ++ [.v (.int .u32 xa), .v (.int .i64 xb)] := by rw [hnx, qbD]; rfl
    have hln : D2.length = D.length + 1 := by rw [hnx]; simp
    refine G [5] ?_
    refine zaa (zak U82 rfl rfl qr qr qr (c := true) (by rw [zdm, decide_eq_false he]; rfl)) rfl rfl ?_
    refine G [2] ?_
    skip
    refine G [3] ?_
    refine zab (zag 207 U46 sz82 zc82 (qbe rfl) (qbe rfl) rfl rfl rfl rfl (qbe rfl)) rfl rfl ⟨rfl, trivial⟩ ?_
    refine zab (zaq 208 U46 eo82 (zaS) qB qp rfl rfl) rfl rfl ⟨rfl, rfl, rfl, trivial⟩ ?_
    refine jdI ?_
    refine ⟨m2 - 1, qp, _, zae (fun o => bif Nat.beq o 77 then 208 else o) [(1, .p (.v (.string pt))), (5, .ref 5 0), (6, .ref 6 0), (9, .fn 96 []), (12, .ref 12 0), (13, .p (.v (.int .i64 U))), (186, .p (.v (.int .i64 l.length))), (187, .p (.v (.int .i64 k))), (15, .p (.v (.int .i64 k))), (16, .row 77), (195, .p (.sl l[k].nets.length 2 (l[k].nets.flatMap ntC))), (196, .p (.v (.int .i64 l[k].nets.length))), (197, .p (.v (.int .i64 (i + 1 : Nat))))] [(5, .box 107 [.p (.v (.int .i64 10)), .p (.v (.string t)), .p (.v (.int .i64 n)), .p (.v (.int .u32 a)), .p (.v (.int .i64 b))]), (6, .box 24 [.p (.v (.string ⟨#[]⟩)), .p (.v (.int .i64 0)), .p (.v (.slice none 0 0))]), (12, .box 24 [.p (.v (.string key)), .p (.v (.int .i64 port)), .row 40]), (40, .rowA 48 5 l.length none (gC (fK U (a, b) k) 0 l)), (88, .row 82 2 (delN (a, b) l[U].nets).length ((delN (a, b) l[U].nets).flatMap ntC)), (77, .row 82 2 (D.length + 1) (D.flatMap ntC ++ [.v (.int .u32 xa), .v (.int .i64 xb)]))] ?_ ?_ rfl, i + 1, qp, by rw [hD2, hfm, hln]⟩
    ·exact jap
    ·exact jbl
  have hge : i = l[k].nets.length := qu
  clear h
  subst hge
  rw [qbI]
  refine zaJ (zbK (zbK (zb8 (zaH (zaX (zeF 16 77 rfl rfl) ?_)))))
  skip
  refine G [5] ?_
  refine jdu ?_
  refine fA zcQ rfl rfl ?_
  refine jel ?_
  refine jdD ?_
  refine ⟨m - 1, qp, _, zae id [(1, .p (.v (.string pt))), (5, .ref 5 0), (6, .ref 6 0), (9, .fn 96 []), (12, .ref 12 0), (13, .p (.v (.int .i64 U))), (186, .p (.v (.int .i64 l.length))), (187, .p (.v (.int .i64 (k + 1 : Nat))))] [(5, .box 107 [.p (.v (.int .i64 10)), .p (.v (.string t)), .p (.v (.int .i64 n)), .p (.v (.int .u32 a)), .p (.v (.int .i64 b))]), (6, .box 24 [.p (.v (.string ⟨#[]⟩)), .p (.v (.int .i64 0)), .p (.v (.slice none 0 0))]), (12, .box 24 [.p (.v (.string key)), .p (.v (.int .i64 port)), .row 40]), (40, .rowA 48 5 l.length none (gC (fK U (a, b) (k + 1)) 0 l)), (88, .row 82 2 (delN (a, b) l[U].nets).length ((delN (a, b) l[U].nets).flatMap ntC))] ?_ ?_ rfl, k + 1, qp, .inr ⟨qp, rfl⟩⟩
  ·exact jap
  ·refine ⟨⟨rfl, rfl⟩, ⟨rfl, rfl⟩, ⟨rfl, rfl⟩, ⟨by show _ = Slot.live (.rowA _ 5 l.length none (AV.renL (fun o => o) _)); rw [zdc]; rfl, zdj l 0⟩, ⟨rfl, rfl⟩, trivial⟩) : p := h
theorem jas {p : Prop} (h : p := by
 refine jdK ?_ ?_ ?_
 ·exact rfl
 ·exact jb4
 ·exact ja6) : p := h
theorem jat {p : Prop} (h : p := by
 have hlj : j < 5 := qu
 clear h
 obtain ⟨n, hn5⟩ : ∃ n, (0 :: za3 s)[j]? = some n := ⟨(0 :: za3 s)[j]'(by show j < 5; exact hlj), List.getElem?_eq_getElem _⟩
 have hix : ([.p (.v (.int .i64 0)), .p (.v (.int .i64 s.a.mine)), .p (.v (.int .i64 s.b.mine)), .p (.v (.int .i64 s.c.mine)), .p (.v (.int .i64 s.h.mine))] : List AV)[j * 1]? = some (.p (.v (.int .i64 n))) := by
  rw [qcE]
  have : ([.p (.v (.int .i64 0)), .p (.v (.int .i64 s.a.mine)), .p (.v (.int .i64 s.b.mine)), .p (.v (.int .i64 s.c.mine)), .p (.v (.int .i64 s.h.mine))] : List AV) = (0 :: za3 s).map fun n => .p (.v (.int .i64 n)) := rfl
  rw [this, qbV, hn5]
  rfl
 have hdr : (0 :: za3 s).drop j = n :: (0 :: za3 s).drop (j + 1) := by
  obtain ⟨q1, q2⟩ := qbl.1 hn5
  rw [qbY q1, q2]
 have htk : (0 :: za3 s).take (j + 1) = (0 :: za3 s).take j ++ [n] := by
  obtain ⟨q1, q2⟩ := qbl.1 hn5
  exact jdd
 rw [hdr, dupB] at hdp
 have hCt := ziz X n (5 * i + j) hX qp
 have hil := is_len X
 have hps := is_push X n
 generalize hIs : is X = IX at *
 refine G [5] ?_
 refine zaa (zc0 underlying114 sz3 U3 rfl qp qp (show _ = some (.p (.v (.int .i64 n))) by rw [qbx]; exact hix)) rfl rfl ?_
 refine G [2] ?_
 by_cases h0 : 0 < n
 ·by_cases hm : n ∈ X
  ·rw [show (decide (0 < n) && decide (n ∈ X) || dupB (X ++ [n]) ((0 :: za3 s).drop (j + 1))) = true by simp [h0, hm]] at hdp
   rw [if_pos hdp] at hst
   rw [hhit (by rw [hst]; decide), hst] at hE
   subst hE
   rw [decide_eq_true hm] at hCt
   refine G [4, 4, 3] ?_
   (first | refine zbX rfl ?_ | refine zbG (fun n => 47 + 1000 * n) (hCt) rfl rfl func71 rfl rfl qK qK rfl rfl rfl qq rfl rfl rfl ?_)
   refine G [7] ?_
   refine jdt ?_
   exact yE
  ·rw [show (decide (0 < n) && decide (n ∈ X) || dupB (X ++ [n]) ((0 :: za3 s).drop (j + 1))) = dupB (X ++ [n]) ((0 :: za3 s).drop (j + 1)) by simp [hm]] at hdp
   rw [decide_eq_false hm] at hCt
   refine G [4, 4, 3] ?_
   (first | refine zbX rfl ?_ | refine zbG (fun n => 47 + 1000 * n) (hCt) rfl rfl func71 rfl rfl qK qK rfl rfl rfl qq rfl rfl rfl ?_)
   refine G [7] ?_
   refine jdU ?_
   refine zab (zaq 52 U112 eo3 (zaS) qB qp (show _ = 5 * i + (j + 1) by omega) hps) rfl rfl ⟨rfl, rfl, rfl, trivial⟩ ?_
   refine jdI ?_
   refine ⟨m' - 1, qp, _, zae (fun _ => 52) _ _ ?_ ?_ rfl, j + 1, qp, X ++ [n], by simp [hX]; omega, hdp, by rw [hXe, htk, qbB], rfl⟩
   ·exact jap
   ·exact ja3
 ·rw [show (decide (0 < n) && decide (n ∈ X) || dupB (X ++ [n]) ((0 :: za3 s).drop (j + 1))) = dupB (X ++ [n]) ((0 :: za3 s).drop (j + 1)) by simp [h0]] at hdp
  refine G [4, 3, 11] ?_
  refine jdU ?_
  refine zab (zaq 52 U112 eo3 (zaS) qB qp (show _ = 5 * i + (j + 1) by omega) hps) rfl rfl ⟨rfl, rfl, rfl, trivial⟩ ?_
  refine jdI ?_
  refine ⟨m' - 1, qp, _, zae (fun _ => 52) _ _ ?_ ?_ rfl, j + 1, qp, X ++ [n], by simp [hX]; omega, hdp, by rw [hXe, htk, qbB], rfl⟩
  ·exact jap
  ·exact ja3) : p := h
theorem jau {p : Prop} (h : p := by
 by_cases hw : w = key ∧ u = v
 ·obtain ⟨rfl, rfl⟩ := hw
  rw [if_pos ⟨he, rfl, rfl⟩] at hR
  subst hR
  refine G [3, 3, 3] ?_
  refine zaa (zak U139 rfl rfl qr qr qr (c := false) (by rw [zb6]; rfl)) rfl rfl ?_
  refine G [11, 9, 0] ?_
  exact yE
 ·rw [if_neg (fun hh => hw hh.2)] at hR
  subst hR
  refine G [3, 3, 3] ?_
  refine zaa (zak U139 rfl rfl qr qr qr (c := true) (by rw [zeV]; simp only [qcn, qcr, decide_eq_false_iff_not]; grind)) rfl rfl ?_
  exact jcz) : p := h
theorem jav {p : Prop} (h : p := by
 have h105 : H 105 = .live (.box 107 [.p (.v (.int .i64 k)), .p (.v (.string t)), .p (.v (.int .i64 n)), .p (.v (.int .u32 a)), .p (.v (.int .i64 b))]) := qaL
 have h106 : H 106 = .live (.box 24 [.p (.v (.string ⟨#[]⟩)), .p (.v (.int .i64 0)), .p (.v (.slice none 0 0))]) := qaL
 refine jeI ?_
 rw [hH]
 refine G [3] ?_
 refine jdS ?_
 refine zaL hO rfl rfl func93 rfl rfl (zdd hR) rfl ?_
 refine G [6] ?_
 obtain ⟨GV, hG⟩ : ∃ GV, updL H wrs = GV := ⟨_, rfl⟩
 have g106 : GV 106 = .live (.box 24 [.p (.v (.string ⟨#[]⟩)), .p (.v (.int .i64 0)), .p (.v (.slice none 0 0))]) := qaO
 have g39 : GV 39 = .un := by rw [← hG, zaz hw.1]; exact hun2 39 qE qE
 refine za7 (zdM [(6, .ref 106 0), (11, .ref 0 0), (12, .p (.v (.string nx))), (13, .p (.v (.int .i64 0)))] GV qL (fun o => .inl (by rw [← hG]; rfl))) ?_
 have g0 : GV 0 = .live (.box 24 [.p (.v (.string key2)), .p (.v (.int .i64 port2)), .row q]) := by rw [← hG]; exact hg0 _
 have gq : GV q = .live (.row 48 5 l2.length (l2.flatMap PE.pv)) := by rw [← hG]; exact hgq _
 refine zaX (reo_fzBox g0 gq hq.1) ?_
 obtain ⟨G2, hG2⟩ : ∃ G2, updL GV [(0, .live (.box 24 (cfC key2 port2 l2.length (l2.flatMap PE.pv)))), (q, .dead)] = G2 := ⟨_, rfl⟩
 have ne : ∀ o, o ≠ 0 → o ≠ q → G2 o = GV o := fun o a1 a2 => by rw [← hG2]; simp only [updL, nbeq a1, nbeq a2, cond_false]
 have k0 : G2 0 = .live (.box 24 (cfC key2 port2 l2.length (l2.flatMap PE.pv))) := by rw [← hG2]; rfl
 have k39 := (ne 39 qE (Ne.symm hq.2.1)).trans g39
 have k106 := (ne 106 qE (Ne.symm hq.2.2)).trans g106
 show awp _ _ _ ⟨_, updL GV [(0, .live (.box 24 (cfC key2 port2 l2.length (l2.flatMap PE.pv)))), (q, .dead)]⟩
 rw [hG2]
 exact jbc) : p := h
theorem jaw {p : Prop} (h : p := by
 exact zae id _ _ qt qt rfl) : p := h
theorem jax {p : Prop} (h : p := by
 refine cK hL ?_
 refine G [7] ?_
 by_cases he : e = 0
 ·exact jau
 ·exact jbq) : p := h
theorem jay {p : Prop} (h : p := by
 refine zaa (zak U82 rfl rfl qr qr qr (c := true) (by rw [zbf]; simp; omega)) rfl rfl ?_
 refine G [2, 4, 9, 9, 0] ?_
 exact yE) : p := h
theorem jaz {p : Prop} (h : p := by
 refine ⟨⟨rfl, rfl⟩, ⟨?_, hPo _ fun j hj => by rw [qbj, qbj, qbj, qbj, hFf]; simp only [qbm, qbo, qcF]; exact .inr (.inr (.inr (.inr ⟨j, hj, rfl⟩)))⟩, ⟨(by show St.heap _ 5 = _; simp only [zbU, St.upd]; rw [zcn (show 5 ≠ 11 by decide), zcn (show 5 ≠ 11 by decide)]; exact hlow _ 5 qE), rfl⟩, ⟨(by show St.heap _ 6 = _; simp only [zbU, St.upd]; rw [zcn (show 6 ≠ 11 by decide), zcn (show 6 ≠ 11 by decide)]; exact hlow _ 6 qE), rfl⟩, leO_of fun q hq => ?_⟩
 ·show Slot.live (.rowA _ 5 l.length none (AV.renL (fun o => bif Nat.beq o 0 then 27 else o) (pcs (fun i => i + 1000) 0 l))) = .live (.rowA _ 5 l.length none (AV.renL (fun o => bif Nat.beq o 0 then 11 else bif Nat.beq o 1 then 27 else bif Nat.beq o 105 then 5 else bif Nat.beq o 106 then 6 else o) (pcs (fun i => i + 1000) 0 l)))
  rw [ze8, ze8]
  congr 2
 ·obtain ⟨j, hj, rfl⟩ := (hFm q).1 hq
  refine ⟨?_, rfl⟩
  show St.heap _ (bif Nat.beq (0 + j + 1000) 0 then 11 else bif Nat.beq (0 + j + 1000) 1 then 27 else bif Nat.beq (0 + j + 1000) 105 then 5 else bif Nat.beq (0 + j + 1000) 106 then 6 else (0 + j + 1000)) = _
  simp only [nbeq (show 0 + j + 1000 ≠ 0 by omega), nbeq (show 0 + j + 1000 ≠ 1 by omega), nbeq (show 0 + j + 1000 ≠ 105 by omega), nbeq (show 0 + j + 1000 ≠ 106 by omega), cond_false]
  simp only [zbU, St.upd]
  rw [zcn (show 0 + j + 1000 ≠ 11 by omega), zcn (show 0 + j + 1000 ≠ 11 by omega)]
  show updL _ ((27, _) :: za2 (fun o => bif Nat.beq o 0 then 27 else o) (zba 0 l)) (0 + j + 1000) = _
  simp only [updL, nbeq (show 0 + j + 1000 ≠ 27 by omega), cond_false]
  exact zb0 (by
   have : (za2 (fun o => bif Nat.beq o 0 then 27 else o) (zba 0 l)).map Prod.fst = (zba 0 l).map fun p => bif Nat.beq p.1 0 then 27 else p.1 := by simp only [za2, qbW]; rfl
   rw [this, zfY]
   exact (List.nodup_cons.1 (cpN_nd _ (show l.length < 7 by omega))).2) (0 + j + 1000, .live (nrO l[j])) (qbo.2 ⟨_, hq, by
    simp only [nbeq (show 0 + j + 1000 ≠ 0 by omega), cond_false]
    rfl⟩)) : p := h
theorem jaA {p : Prop} (h : p := by
 refine jeC ?_ ?_
 ·exact jap
 ·exact ja3) : p := h
theorem jaB {p : Prop} (h : p := by
 rw [h0] at hC
 rw [hs] at hP
 simp only [spR, bpN] at hP
 generalize ((spl s 10).map lnOf).map rdS = rl at *
 clear ok h0 hs
 obtain ⟨key, port, ps⟩ := c
 change Fn prog _ [.agg [.p (.v (.string key)), .p (.v (.int .i64 port)), .p (.sl ps.length 5 (ps.flatMap PE.pv))]] _ _ at hC
 change Fn prog _ [.agg [.p (.v (.string key)), .p (.v (.int .i64 port)), .p (.sl ps.length 5 (ps.flatMap PE.pv))]] (.agg [.p (.v (.string key)), .p (.v (.int .i64 port)), .row 0]) [(0, .row 48 5 ps.length (ps.flatMap PE.pv))] at hK
 show Fn prog _ [.agg [.p (.v (.string key)), .p (.v (.int .i64 port)), .p (.sl ps.length 5 (ps.flatMap PE.pv))], _] (.tup [.agg [.p (.v (.bool true)), .row 1, .p (.v (.string key)), .p (.v (.int .i64 port)), .row 0, .p (.v (.string ⟨#[]⟩)), .p (.v (.int .i64 0))], .p (.v (.int .i64 0)), .p (.v (.int .i64 0))]) [(0, .row 48 5 ps.length (ps.flatMap PE.pv)), (1, .row 107 5 rl.length (rl.flatMap SE.pv))]
 generalize ps.flatMap PE.pv = L at *
 generalize ps.length = M at *
 generalize rl.flatMap SE.pv = RL at *
 generalize rl.length = rn at *
 refine fnI fun w0 A => ?_
 refine G [11] ?_
 refine cK hC ?_
 refine G [5, 1, 1, 9, 0] ?_
 refine cX ?_ ?_ <;> intro h
 ·cases h
 refine G [4] ?_
 refine cK hP ?_
 refine G [12, 1, 1, 9, 0] ?_
 refine cX ?_ ?_ <;> intro h
 ·cases h
 refine G [5] ?_
 refine cK hK ?_
 refine zaa (zbT pl30 zr30 rfl rfl) rfl rfl ?_
 refine zab (zad (Y := .agg [.p (.v (.bool true)), .row 19, .p (.v (.string key)), .p (.v (.int .i64 port)), .row 30, .p (.v (.string ⟨#[]⟩)), .p (.v (.int .i64 0))]) sz30 rfl rfl (qbf rfl)) rfl rfl ⟨rfl, trivial⟩ ?_
 refine G [4, 9, 0] ?_
 refine yT (fun o => bif Nat.beq o 0 then 30 else 19) ?_ ?_
 ·exact rfl
 ·exact ja5) : p := h
theorem jaC {p : Prop} (h : p := by
 have hlt : i < q.length := qu
 clear h
 obtain ⟨p, hp⟩ : ∃ p, q[i]? = some p := ⟨q[i], List.getElem?_eq_getElem hlt⟩
 have hch := zaj (f := PQ.pv) (k := 3) (fun _ => rfl) hp
 have hle := zai (f := PQ.pv) (k := 3) (fun _ => rfl) hlt
 have hpx := hqx p (qbh hp)
 have hhit := @zca f i q.length hf hlt
 have hfi : f i = if 200 < p.xs.length then 1 else 0 := qQ
 obtain ⟨pa, pb, xs⟩ := p
 dsimp only at hpx hfi
 change _ = [PV.v (.int .u32 pa), .v (.int .u32 pb), .sl xs.length 1 (bs xs)] at hch
 have hC := pchk_s pa pb xs.length (bs xs) qp
 generalize hL : q.flatMap PQ.pv = L at *
 generalize bs xs = X at *
 generalize xs.length = N at *
 refine G [6] ?_
 refine zaa (zas U93 rfl sz93 qW (hch)) rfl rfl ?_
 refine zab (zaW 14 zr93 rfl) rfl rfl ⟨rfl, trivial⟩ ?_
 refine jeb ?_
 refine jdQ ?_
 refine cX ?_ ?_ <;> intro h
 ·have h6 : 200 < N := qu
  rw [if_pos h6] at hfi
  rw [hhit (by rw [hfi]; decide), hfi] at hE
  subst hE
  exact ja4
 ·have h6 : ¬ 200 < N := qu
  clear h
  refine jdD ?_
  exact jbs) : p := h
theorem jaD {p : Prop} (h : p := by
 rw [h0] at hC
 rw [hs] at hP
 simp only [spR, bpN] at hP
 generalize ((spl s 10).map lnOf).map rdS = rl at *
 clear ok h0 hs
 obtain ⟨key, port, ps⟩ := c
 change Fn prog _ [.agg [.p (.v (.string key)), .p (.v (.int .i64 port)), .p (.sl ps.length 5 (ps.flatMap PE.pv))]] _ _ at hC
 change Fn prog _ [.agg [.p (.v (.string key)), .p (.v (.int .i64 port)), .p (.sl ps.length 5 (ps.flatMap PE.pv))]] (.agg [.p (.v (.string key)), .p (.v (.int .i64 port)), .row 0]) [(0, .row 48 5 ps.length (ps.flatMap PE.pv))] at hK
 show Fn prog _ [.agg [.p (.v (.string key)), .p (.v (.int .i64 port)), .p (.sl ps.length 5 (ps.flatMap PE.pv))], _] (.tup [.agg [.p (.v (.bool true)), .p (.v (.slice none 0 0)), .p (.v (.string key)), .p (.v (.int .i64 port)), .row 0, .p (.v (.string ⟨#[]⟩)), .p (.v (.int .i64 0))], .p (.v (.int .i64 0)), .p (.v (.int .i64 0))]) [(0, .row 48 5 ps.length (ps.flatMap PE.pv))]
 generalize ps.flatMap PE.pv = L at *
 generalize ps.length = M at *
 generalize rl.flatMap SE.pv = RL at *
 generalize rl.length = rn at *
 refine fnI fun w0 A => ?_
 refine G [11] ?_
 refine cK hC ?_
 refine G [5, 1, 1, 9, 0] ?_
 refine cX ?_ ?_ <;> intro h
 ·cases h
 refine G [4] ?_
 refine cK hP ?_
 refine G [12, 1, 1, 9, 0] ?_
 refine cX ?_ ?_ <;> intro h
 ·cases h
 refine G [5] ?_
 refine cK hK ?_
 refine zaa (zbT pl30 zr30 rfl rfl) rfl rfl ?_
 refine zab (zad (Y := .agg [.p (.v (.bool true)), .p (.v (.slice none 0 0)), .p (.v (.string key)), .p (.v (.int .i64 port)), .row 30, .p (.v (.string ⟨#[]⟩)), .p (.v (.int .i64 0))]) sz30 rfl rfl (qbf rfl)) rfl rfl ⟨rfl, trivial⟩ ?_
 refine G [4, 9, 0] ?_
 refine yT (fun _ => 30) ?_ ?_
 ·exact rfl
 ·exact ja3) : p := h
theorem jaE {p : Prop} (h : p := by
 have h105 : H 105 = .live (.box 107 [.p (.v (.int .i64 k)), .p (.v (.string t)), .p (.v (.int .i64 n)), .p (.v (.int .u32 a)), .p (.v (.int .i64 b))]) := qaL
 have h106 : H 106 = .live (.box 24 [.p (.v (.string ⟨#[]⟩)), .p (.v (.int .i64 0)), .p (.v (.slice none 0 0))]) := qaL
 refine jeI ?_
 rw [hH]
 refine G [3] ?_
 refine jdS ?_
 refine zaL hO rfl rfl func93 rfl rfl (zdd hR) rfl ?_
 refine G [6] ?_
 obtain ⟨GV, hG⟩ : ∃ GV, updL H wrs = GV := ⟨_, rfl⟩
 have g106 : GV 106 = .live (.box 24 [.p (.v (.string ⟨#[]⟩)), .p (.v (.int .i64 0)), .p (.v (.slice none 0 0))]) := qaO
 have g39 : GV 39 = .un := by rw [← hG, zaz hw.1]; exact hun2 39 qE qE
 refine za7 (zdM [(6, .ref 106 0), (11, .ref 0 0), (12, .p (.v (.string nx))), (13, .p (.v (.int .i64 e)))] GV qL (fun o => .inl (by rw [← hG]; rfl))) ?_
 refine jdt ?_
 refine G [2, 4, 6] ?_
 refine zab (zad (Y := .agg [.p (.v (.string ⟨#[]⟩)), .p (.v (.int .i64 0)), .p (.v (.slice none 0 0))]) sz24 rfl rfl (qbf rfl)) rfl rfl ⟨g106, trivial⟩ ?_
 refine G [4, 9, 0] ?_
 exact yE) : p := h
theorem jaF {p : Prop} (h : p := by
 refine ⟨u - 1, qp, _, zae id _ _ ?_ ?_ rfl, i + 1, qp, fun j hj => ?_, rfl⟩
 ·exact jap
 ·exact trivial
 ·by_cases e : j = i
  ·rw [e]; exact hxy he
  ·exact hf j qp) : p := h
theorem jaG {p : Prop} (h : p := by
 refine jeC ?_ ?_
 ·exact jap
 ·exact trivial) : p := h
theorem jaH {p : Prop} (h : p := by
 refine jdI ?_
 exact yE) : p := h
theorem jaI {p : Prop} (h : p := by
 refine jdy ?_
 refine G [7] ?_
 rw [if_neg (show ¬ seF ⟨6, t, n, a, b⟩ by simp [seF, isT, isN, isC, *])] at hE
 rw [seV_6] at hE
 refine G [6, 3, 16, 3, 11] ?_
 by_cases h1 : t = ⟨#[]⟩
 ·rw [if_pos h1] at hE
  subst hE
  refine G [8, 4, 9, 9, 0] ?_
  exact yE
 rw [if_neg h1] at hE
 refine G [8, 3, 4] ?_
 by_cases h2 : t = zdW
 ·rw [if_pos h2] at hE
  subst hE
  refine G [8] ?_
  (first | refine zbX rfl ?_ | refine zay (fun n => 93 + 1000 * n) (hZ) rfl rfl func114 rfl rfl qw rfl rfl rfl qq rfl rfl rfl ?_)
  refine G [0, 4, 9, 9, 0] ?_
  exact yE
 rw [if_neg h2] at hE
 refine G [8] ?_
 (first | refine zbX rfl ?_ | refine zay (fun n => 93 + 1000 * n) (hZ) rfl rfl func114 rfl rfl qw rfl rfl rfl qq rfl rfl rfl ?_)
 refine G [0, 3, 4] ?_
 subst hE
 refine G [3, 4, 7] ?_
 refine cV hH ?_
 refine jdR ?_
 exact yE) : p := h
theorem jaJ {p : Prop} (h : p := by
 have hj : ∀ j, (h : j < l.length) → H (j + 1000) = nrow l[j] := fun j h => by
  rw [← hH]
  simp only [zaR, nbeq (show j + 1000 ≠ 0 by omega), nbeq (show j + 1000 ≠ 1 by omega), nbeq (show j + 1000 ≠ 105 by omega), nbeq (show j + 1000 ≠ 106 by omega), cond_false]
  exact hFa j h
 have hhi : ∀ o, 1100 ≤ o → H o = .un := fun o h => by
  rw [← hH]
  simp only [zaR, nbeq (show o ≠ 0 by omega), nbeq (show o ≠ 1 by omega), nbeq (show o ≠ 105 by omega), nbeq (show o ≠ 106 by omega), cond_false]
  refine zhB fun hm => ?_
  rw [hFf] at hm
  obtain ⟨i, hi, rfl⟩ := qbo.1 hm
  rw [qcF] at hi
  omega
 unfold mvR mvU at hp
 simp only [qbm, qbz, qb4, or_false] at hp
 rcases hp with rfl | rfl | rfl | rfl | rfl | rfl | rfl | rfl | hp | rfl | rfl | rfl | rfl | rfl | rfl
 ·exact hun2 3 qE qE
 ·exact hun2 4 qE qE
 ·exact hun2 5 qE qE
 ·rw [← hH]; rfl
 ·rw [← hH]; rfl
 ·exact hun2 64 qE qE
 ·exact hun2 65 qE qE
 ·exact hun2 66 qE qE
 ·obtain ⟨i, hi, rfl⟩ := zcE.1 hp
  show H (0 + i + 1000) = nrow l[i]
  rw [Nat.zero_add]
  exact hj i hi
 all_goals exact hhi _ qE) : p := h
theorem jaK {p : Prop} (h : p := by
 by_cases hl : n < 0
 ·rw [if_pos (.inl hl)] at hE
  subst hE
  refine G [6, 4, 3, 4, 14, 9, 0] ?_
  exact yE
 refine G [6, 4, 3, 3, 8, 9, 0] ?_
 refine cX ?_ ?_ <;> intro h
 ·exact jcv
 have h1 : ¬ 65535 < n := qz
 clear h
 rw [if_neg (by omega)] at hE
 subst hE
 refine G [3, 3, 41, 3, 9, 9, 0] ?_
 exact yE) : p := h
theorem jaL {p : Prop} (h : p := by
 have hz := zjo a
 have hbits := @zfH a n
 have hX : ntX a n = if zan a n = 0 then ntT a n else ⟨#[]⟩ := rfl
 unfold ntR
 generalize ntX a n = X at *
 have hNt : ntT a n = adT a ++ SLASH ++ itoS n := rfl
 generalize ntT a n = Z at *
 generalize zan a n = e at *
 generalize adT a = T at *
 change Fn prog _ [.agg [.p (.v (.int .u32 a)), .p (.v (.int .i64 n))]] _ _
 change Fn prog _ [.agg [.p (.v (.int .u32 a)), .p (.v (.int .i64 n))]] _ _ at hC
 refine fnI fun w0 A => ?_
 refine G [10] ?_
 refine cV hC ?_
 refine jdv ?_
 refine cX ?_ ?_ <;> intro h
 ·have h1 : e ≠ 0 := qz
  rw [if_neg h1] at hX
  subst hX
  exact jb3
 have h1 : e = 0 := qz
 clear h
 rw [if_pos h1] at hX
 subst hX
 obtain ⟨n0, n1⟩ := hbits h1
 have hI := zfM n qp qp
 have hs := zfN n n0 qp
 generalize itoS n = N at *
 have hd : SLASH.size = 1 := rfl
 obtain ⟨u0, e0⟩ : ∃ u, T ++ SLASH = u := ⟨_, rfl⟩
 have y0 : u0.size ≤ 24 := by rw [← e0, zdx]; omega
 rw [e0] at hNt
 rw [h1, hNt]
 refine G [5] ?_
 refine cK hT ?_
 refine zaa (zh5 (by show T.size + 1 ≤ _; omega) e0) rfl rfl ?_
 refine G [2] ?_
 refine cK hI ?_
 refine zaa (zh5 qp rfl) rfl rfl ?_
 exact jdh) : p := h
theorem jaM {p : Prop} (h : p := by
 have hhit := @zca (fun i => seE (seG rest i)) i rest.length hf hlt
 have hgx : seE (seG rest i) = seE x := by rw [seG_at hx]
 generalize rest.flatMap SE.pv = R at *
 generalize seE x = e at *
 obtain ⟨xk, xt, xn, xa, xb⟩ := x
 change Fn prog _ [.agg [.p (.v (.int .i64 xk)), .p (.v (.string xt)), .p (.v (.int .i64 xn)), .p (.v (.int .u32 xa)), .p (.v (.int .i64 xb))]] _ _ at hC
 refine G [8] ?_
 refine zab (zad (Y := .agg [.p (.v (.int .i64 xk)), .p (.v (.string xt)), .p (.v (.int .i64 xn)), .p (.v (.int .u32 xa)), .p (.v (.int .i64 xb))]) zdJ rfl rfl (qbf rfl)) rfl rfl ⟨rfl, trivial⟩ ?_
 refine G [4] ?_
 refine cV hC ?_
 refine jdv ?_
 refine cX ?_ ?_ <;> intro h
 ·have h7 : e ≠ 0 := qz
  rw [hrE, hhit (by rw [hgx]; exact h7), hgx, if_pos h7] at hE
  subst hE
  exact jaH
 have h7 : e = 0 := qz
 clear h
 refine jdD ?_
 refine ⟨m - 1, qp, _, zae id _ _ ?_ ?_ rfl, i + 1, qp, fun q hq => ?_, rfl⟩
 ·exact jap
 ·exact ja3
 ·by_cases eq : q = i
  ·rw [eq, hgx]; exact h7
  ·exact hf q qp) : p := h
theorem jaN {p : Prop} (h : p := by
 skip
 refine cX ?_ ?_ <;> intro h
 ·refine G [4] ?_
  refine cV hEn ?_
  refine G [13, 9, 0] ?_
  refine cX ?_ ?_ <;> intro h
  ·exact absurd ⟨by simp_all, by simpa using h⟩ h4
  ·exact jcH
 ·exact jcH) : p := h
theorem jaO {p : Prop} (h : p := by
 refine yT (fun _ => 100) ?_ ?_
 ·exact rfl
 ·exact ja3) : p := h
theorem jaP {p : Prop} (h : p := by
 rw [h0] at hC
 rw [hs] at hP
 simp only [spR, bpN] at hP
 clear ok h0 hs
 obtain ⟨key, port, ps⟩ := c
 change Fn prog _ [.agg [.p (.v (.string key)), .p (.v (.int .i64 port)), .p (.sl ps.length 5 (ps.flatMap PE.pv))]] _ _ at hC
 show Fn prog _ [.agg [.p (.v (.string key)), .p (.v (.int .i64 port)), .p (.sl ps.length 5 (ps.flatMap PE.pv))], _] _ _
 generalize ps.flatMap PE.pv = L at *
 generalize ps.length = M at *
 refine fnI fun w0 A => ?_
 refine G [11] ?_
 refine cK hC ?_
 refine G [5, 1, 1, 9, 0] ?_
 refine cX ?_ ?_ <;> intro h
 ·cases h
 refine G [4] ?_
 refine cK hP ?_
 refine G [14, 9, 0] ?_
 refine cX ?_ ?_ <;> intro h
 ·refine G [5] ?_
  exact jbC
 ·exact absurd qz he) : p := h
theorem jaQ {p : Prop} (h : p := by
 refine ⟨_, zae id [(1, .p (.v (.string pt))), (5, .ref 5 0), (6, .ref 6 0), (9, .fn 96 []), (12, .ref 12 0), (13, .p (.v (.int .i64 U))), (186, .p (.v (.int .i64 l.length))), (187, .p (.v (.int .i64 (0 : Nat))))] [(5, .box 107 [.p (.v (.int .i64 10)), .p (.v (.string t)), .p (.v (.int .i64 n)), .p (.v (.int .u32 a)), .p (.v (.int .i64 b))]), (6, .box 24 [.p (.v (.string ⟨#[]⟩)), .p (.v (.int .i64 0)), .p (.v (.slice none 0 0))]), (12, .box 24 [.p (.v (.string key)), .p (.v (.int .i64 port)), .row 40]), (40, .rowA 48 5 l.length none (gC (fK U (a, b) (0 : Nat)) 0 l))] ?_ ?_ rfl, 0, qp, .inl ⟨qb6 _, ?_⟩⟩
 ·exact jap
 ·exact ⟨⟨rfl, rfl⟩, ⟨rfl, rfl⟩, ⟨rfl, rfl⟩, ⟨(by show _ = Slot.live (.rowA _ 5 l.length none (AV.renL _ (gC (fK U (a, b) 0) 0 l))); rw [zby rfl, ← e00]; rfl), zbt l 0 (fun i hi => by omega)⟩, trivial⟩
 ·rfl) : p := h
theorem jaR {p : Prop} (h : p := by
 exact ⟨⟨rfl, rfl⟩, ⟨rfl, rfl⟩, ⟨rfl, rfl⟩, trivial⟩) : p := h
theorem jaS {p : Prop} (h : p := by
 refine ⟨qO, ⟨_, (.tmp _ _ _ _ rfl .nil), ?_⟩, ?_, ?_⟩
 ·exact rfl
 ·exact jb4
 ·exact ja6) : p := h
theorem jaT {p : Prop} (h : p := by
 refine jeC ?_ ?_
 ·exact jap
 ·exact ja5) : p := h
theorem jaU {p : Prop} (h : p := by
 generalize cfE c = e at *
 obtain ⟨key, port, ps⟩ := c
 change Fn prog _ [.agg [.p (.v (.string key)), .p (.v (.int .i64 port)), .p (.sl ps.length 5 (ps.flatMap PE.pv))]] _ _ at hC
 show Fn prog _ [.agg [.p (.v (.string key)), .p (.v (.int .i64 port)), .p (.sl ps.length 5 (ps.flatMap PE.pv))], _] _ _
 generalize ps.flatMap PE.pv = L at *
 generalize ps.length = M at *
 refine fnI fun w0 A => ?_
 refine G [11] ?_
 refine cK hC ?_
 refine jdv ?_
 refine cX ?_ ?_ <;> intro h
 ·refine G [4] ?_
  exact jbC
 ·exact absurd qz h0) : p := h
theorem jaV {p : Prop} (h : p := by
 refine ⟨h2.bel, ?_, ?_, fun o _ => rfl, fun o ob ho => qaG, fun o o' ob ob' v v' b ho => qaG, h2.gl⟩
 ·rintro b (hb | ⟨v0, h3, h4⟩)
  ·exact h2.sA b hb
  ·obtain ⟨v', k1, k2, _⟩ := h2.live 0 _ rfl
   rw [h3] at k1; cases k1
   exact .inr (k2.lt h4).1
 ·rintro b (hb | ⟨v0, h3, h4⟩)
  ·exact h2.sW b hb
  ·obtain ⟨v', k1, k2, _⟩ := h2.live 0 _ rfl
   rw [h3] at k1; cases k1
   exact (k2.lt h4).2) : p := h
theorem jaW {p : Prop} (h : p := by
 refine ⟨m - 1, qp, _, zae id _ _ ?_ ?_ rfl, i + 1, false, qp, ?_, ?_, rfl⟩
 ·exact jap
 ·exact ja3
 ·intro h; cases h
 ·intro _; exact hsbad hno) : p := h
theorem jaX {p : Prop} (h : p := by
 by_cases h0 : E ≠ 0
 ·rw [if_pos h0]
  refine fnI fun w0 A => ?_
  refine G [11] ?_
  refine cK hC ?_
  refine G [5, 4, 11, 9, 0] ?_
  exact yE
 rw [if_neg h0]
 have h0 : E = 0 := qbk.1 h0
 subst h0
 cases lv with
 | true =>
  rw [if_pos rfl]
  refine fnI fun w0 A => ?_
  refine G [11] ?_
  refine cK hC ?_
  refine G [5, 1, 19, 9, 0] ?_
  exact yE
 | false =>
  rw [if_neg (by simp)]
  by_cases h2 : E2 ≠ 0
  ·rw [if_pos h2]
   refine fnI fun w0 A => ?_
   refine G [11] ?_
   refine cK hC ?_
   refine G [5, 1, 17] ?_
   refine cK hB ?_
   refine G [13, 4, 12, 9, 0] ?_
   exact yE
  rw [if_neg h2]
  have h2 : E2 = 0 := qbk.1 h2
  subst h2
  refine fnI fun w0 A => ?_
  refine G [11] ?_
  refine cK hC ?_
  refine G [5, 1, 17] ?_
  refine cK hB ?_
  refine G [13, 1, 6] ?_
  refine cK hK ?_
  refine G [17, 9, 0] ?_
  exact yE) : p := h
theorem jaY {p : Prop} (h : p := by
 have hl : k.live = false := qz
 have hE : kE k = if k.zero = true then 0 else 14 := by unfold kE; rw [if_pos hl]
 rw [hE]
 refine G [5] ?_
 refine zaa (zcN U53 rfl rfl qr qr qr) rfl rfl ?_
 refine zaf (zaH (cX (fun h => ?_) fun h => ?_))
 ·have hz : ¬ k.zero = true := by
   intro hz
   have hz' : eqL k.vals KY0.vals = true := hz
   have h' : (!eqL k.vals KY0.vals) = true := h
   rw [hz'] at h'; cases h'
  rw [if_neg hz]
  exact ja4
 ·have hz : k.zero = true := by
   have h' : (!eqL k.vals KY0.vals) = false := h
   show eqL k.vals KY0.vals = true
   cases hq : eqL k.vals KY0.vals
   ·rw [hq] at h'; cases h'
   ·rfl
  rw [if_pos hz]
  exact jaH) : p := h
theorem jaZ {p : Prop} (h : p := by
 refine zco ?_
 show (11 :: 27 :: 5 :: 6 :: (zba 0 l).map fun p => bif Nat.beq p.1 0 then 11 else bif Nat.beq p.1 1 then 27 else bif Nat.beq p.1 105 then 5 else bif Nat.beq p.1 106 then 6 else p.1).Nodup
 have e1 : ((zba 0 l).map fun p => bif Nat.beq p.1 0 then 11 else bif Nat.beq p.1 1 then 27 else bif Nat.beq p.1 105 then 5 else bif Nat.beq p.1 106 then 6 else p.1) = (List.range l.length).map fun i => 0 + i + 1000 := by
  rw [← hFf]
  refine qcb fun q hq => ?_
  obtain ⟨j, hj, rfl⟩ := (hFm q).1 hq
  simp only [nbeq (show 0 + j + 1000 ≠ 0 by omega), nbeq (show 0 + j + 1000 ≠ 1 by omega), nbeq (show 0 + j + 1000 ≠ 105 by omega), nbeq (show 0 + j + 1000 ≠ 106 by omega), cond_false]
 rw [e1]
 exact cpN_nd6 _ qp) : p := h
theorem ja0 {p : Prop} (h : p := by
 refine jdt ?_
 refine jdD ?_
 refine ⟨m - 1, qp, _, zae id _ _ ?_ ?_ rfl, i + 1, true, qp, ?_, ?_, rfl⟩
 ·exact jap
 ·exact ja3
 ·intro _
  refine ⟨hgt, fun j hj s p hs hp => ?_⟩
  by_cases e : j = i
  ·subst e; rw [hx] at hs; rw [hy] at hp; cases hs; cases hp; exact ⟨hkk, HOK⟩
  ·exact hpre j qp s p hs hp
 ·intro h; cases h) : p := h
theorem ja1 {p : Prop} (h : p := by
 generalize l.length = n at *
 generalize m.length = k at *
 refine fnI fun w0 A => ?_
 refine G [11, 4, 7, 9, 0] ?_
 exact yE) : p := h
theorem ja2 {p : Prop} (h : p := by
 have hlt : i < l[k].nets.length := qu
 clear h
 have hx : l[k].nets[i]? = some (l[k].nets[i]'hlt) := List.getElem?_eq_getElem hlt
 have hch := zaj (f := ntC) (k := 2) (fun _ => rfl) hx
 have hle := zai (f := ntC) (k := 2) (fun _ => rfl) hlt
 have hnx := zdT (a, b) l[k].nets i hlt
 have hdl : (delN (a, b) (l[k].nets.take i)).length ≤ 1048576 := qcd zcu.1 qN
 generalize hD : delN (a, b) (l[k].nets.take i) = D at *
 obtain ⟨⟨xa, xb⟩, hxx⟩ : ∃ x, l[k].nets[i]'hlt = x := ⟨_, rfl⟩
 rw [hxx] at hch hnx
 obtain ⟨D2, hD2⟩ : ∃ D2, delN (a, b) (l[k].nets.take (i + 1)) = D2 := ⟨_, rfl⟩
 rw [hD2] at hnx
 refine G [6] ?_
 refine jeF ?_
 refine zab (zaW 18 zr82 rfl) rfl rfl ⟨rfl, trivial⟩ ?_
 refine zab (zad (Y := .agg [.p (.v (.int .u32 xa)), .p (.v (.int .i64 xb))]) sz82 rfl rfl (qbf rfl)) rfl rfl ⟨rfl, trivial⟩ ?_
 refine zaf ?_
 by_cases he : (xa, xb) = (a, b)
 ·rw [if_pos he, qbA] at hnx
  refine G [5] ?_
  refine zaa (zak U82 rfl rfl qr qr qr (c := false) (by rw [zdm, decide_eq_true he]; rfl)) rfl rfl ?_
  refine jdv ?_
  refine ⟨m2 - 1, qp, _, zae id _ _ ?_ ?_ rfl, i + 1, qp, by rw [hD2, hnx]⟩
  ·exact jap
  ·exact jb0
 ·rw [if_neg he] at hnx
  have hfm : D2.flatMap ntC = D.flatMap ntC ++ [.v (.int .u32 xa), .v (.int .i64 xb)] := by rw [hnx, qbD]; rfl
  have hln : D2.length = D.length + 1 := by rw [hnx]; simp
  refine G [5] ?_
  refine zaa (zak U82 rfl rfl qr qr qr (c := true) (by rw [zdm, decide_eq_false he]; rfl)) rfl rfl ?_
  refine G [2] ?_
  skip
  refine G [3] ?_
  refine zab (zag 207 U46 sz82 zc82 (qbe rfl) (qbe rfl) rfl rfl rfl rfl (qbe rfl)) rfl rfl ⟨rfl, trivial⟩ ?_
  refine zab (zaq 208 U46 eo82 (zaS) qB qp rfl rfl) rfl rfl ⟨rfl, rfl, rfl, trivial⟩ ?_
  refine jdI ?_
  refine ⟨m2 - 1, qp, _, zae (fun o => bif Nat.beq o 77 then 208 else o) [(1, .p (.v (.string pt))), (5, .ref 5 0), (6, .ref 6 0), (9, .fn 96 []), (12, .ref 12 0), (13, .p (.v (.int .i64 U))), (186, .p (.v (.int .i64 l.length))), (187, .p (.v (.int .i64 k))), (15, .p (.v (.int .i64 k))), (16, .row 77), (195, .p (.sl l[k].nets.length 2 (l[k].nets.flatMap ntC))), (196, .p (.v (.int .i64 l[k].nets.length))), (197, .p (.v (.int .i64 (i + 1 : Nat))))] [(5, .box 107 [.p (.v (.int .i64 10)), .p (.v (.string t)), .p (.v (.int .i64 n)), .p (.v (.int .u32 a)), .p (.v (.int .i64 b))]), (6, .box 24 [.p (.v (.string ⟨#[]⟩)), .p (.v (.int .i64 0)), .p (.v (.slice none 0 0))]), (12, .box 24 [.p (.v (.string key)), .p (.v (.int .i64 port)), .row 40]), (40, .rowA 48 5 l.length none (gC (fK U (a, b) k) 0 l)), (77, .row 82 2 (D.length + 1) (D.flatMap ntC ++ [.v (.int .u32 xa), .v (.int .i64 xb)]))] ?_ ?_ rfl, i + 1, qp, by rw [hD2, hfm, hln]⟩
  ·exact jap
  ·exact jb0) : p := h
theorem ja3 {p : Prop} (h : p := by
 exact ⟨⟨rfl, rfl⟩, trivial⟩) : p := h
theorem ja4 {p : Prop} (h : p := by
 refine jdD ?_
 exact yE) : p := h
theorem ja5 {p : Prop} (h : p := by
 exact ⟨⟨rfl, rfl⟩, ⟨rfl, rfl⟩, trivial⟩) : p := h
theorem ja6 {p : Prop} (h : p := by
 (intro o ho; simp only [List.any_cons, List.any_nil, Bool.or_false, qcg] at ho; simp [St.put, St.upd, updL, za2, ho])) : p := h
theorem ja7 {p : Prop} (h : p := by
 generalize l.flatMap PE.pv = L at *
 refine fnIO fun w0 A heap => ?_
 refine G [12] ?_
 refine jdH ?_
 refine G [17, 1, 9] ?_
 refine zaL (hP) rfl rfl func129 rfl rfl qL rfl ?_
 refine G [4, 9, 0] ?_
 exact jas) : p := h
theorem ja8 {p : Prop} (h : p := by
 refine jdt ?_
 exact yE) : p := h
theorem ja9 {p : Prop} (h : p := by
 generalize l.flatMap PE.pv = L at *
 refine fnIO fun w0 A heap => ?_
 refine G [12] ?_
 refine jdH ?_
 refine G [18, 9, 0] ?_
 exact jas) : p := h
theorem jba {p : Prop} (h : p := by
 refine cK hW ?_
 refine G [3] ?_
 refine zaa (zaG U9 rfl hWa) rfl rfl ?_
 exact jaH) : p := h
theorem jbb {p : Prop} (h : p := by
 by_cases h0 : E ≠ 0
 ·exact jda
 rw [if_neg h0]
 have h0 : E = 0 := qbk.1 h0
 subst h0
 by_cases h2 : E2 ≠ 0
 ·rw [if_pos h2]
  refine fnI fun w0 A => ?_
  refine G [10] ?_
  refine cK hC ?_
  refine G [5, 1, 8] ?_
  refine cK hB ?_
  refine G [11, 4, 10, 9, 0] ?_
  exact yE
 rw [if_neg h2]
 have h2 : E2 = 0 := qbk.1 h2
 subst h2
 refine fnI fun w0 A => ?_
 refine G [10] ?_
 refine cK hC ?_
 refine G [5, 1, 8] ?_
 refine cK hB ?_
 refine G [11, 1, 6] ?_
 refine cK hK ?_
 refine G [16, 9, 0] ?_
 exact yE) : p := h
theorem jbc {p : Prop} (h : p := by
 refine G [4, 1, 5] ?_
 refine zab (zao (es := cfC key2 port2 l2.length (l2.flatMap PE.pv)) U24 rfl sz24 (qbe rfl) rfl) rfl rfl ⟨k0, trivial⟩ ?_
 refine zay (fun _ => 39) hK2 rfl rfl F40 rfl rfl qw rfl rfl rfl ⟨k39, trivial⟩ rfl rfl rfl ?_
 refine jdJ ?_
 refine zab (zad (Y := .agg [.p (.v (.string key2)), .p (.v (.int .i64 port2)), .row 39]) sz24 rfl rfl (qbf rfl)) rfl rfl ⟨k106, trivial⟩ ?_
 refine G [4, 9, 0] ?_
 refine yT (fun _ => 39) ?_ ?_
 ·exact rfl
 ·exact ja3) : p := h
theorem jbd {p : Prop} (h : p := by
 (first | refine zaa zbH rfl rfl ?_ | refine zaa za4 rfl rfl ?_)
 refine G [3] ?_
 skip
 refine G [6] ?_
 refine zab (zb3 (Y := .p (.v (.string t))) (ys := [.v (.string t)]) sz9 rfl rfl rfl qp hset) rfl rfl ⟨rfl, trivial⟩ ?_
 refine G [8] ?_
 refine jdK ?_ ?_ ?_
 ·exact rfl
 ·exact jb4
 ·exact ja6) : p := h
theorem jbe {p : Prop} (h : p := by
 refine G [1, 2, 4, 2, 4, 2, 1, 9, 0] ?_
 refine cX ?_ ?_ <;> intro h
 ·have h9 : (at_ ≠ ⟨#[]⟩ ∧ k1 ≠ 0) ∨ err < 0 ∨ 14 < err := by
   simp at h
   rcases h with (q | q) | q
   ·exact .inl q
   ·exact .inr (.inl q)
   ·exact .inr (.inr q)
  rw [if_pos h9] at hE
  subst hE
  exact ja4
 ·have h9 : ¬ ((at_ ≠ ⟨#[]⟩ ∧ k1 ≠ 0) ∨ err < 0 ∨ 14 < err) := by
   simp at h
   obtain ⟨⟨q1, q2⟩, q3⟩ := h
   rintro (⟨p1, p2⟩ | p | p)
   ·exact p2 (q1 p1)
   ·omega
   ·omega
  rw [if_neg h9] at hE
  subst hE
  exact jaH) : p := h
theorem jbf {p : Prop} (h : p := by
 have hge : i = l.length := qu
 clear h
 subst hge
 rw [qbI]
 refine jdv ?_
 exact jaO) : p := h
theorem jbg {p : Prop} (h : p := by
 rw [hR2 (by rw [hE]; intro ⟨q1, q2, q3, q4⟩; simp at h; omega)]
 exact jb3) : p := h
theorem jbh {p : Prop} (h : p := by
 refine jdQ ?_
 exact yE) : p := h
theorem jbi {p : Prop} (h : p := by
 by_cases h0 : E ≠ 0
 ·exact jda
 rw [if_neg h0]
 have h0 : E = 0 := qbk.1 h0
 subst h0
 cases lv with
 | false =>
  rw [if_pos rfl]
  refine fnI fun w0 A => ?_
  refine G [10] ?_
  refine cK hC ?_
  refine G [5, 1, 19, 9, 0] ?_
  exact yE
 | true =>
  rw [if_neg (by simp)]
  refine fnI fun w0 A => ?_
  refine G [10] ?_
  refine cK hC ?_
  refine G [5, 1, 16] ?_
  refine cK hK ?_
  refine G [16, 9, 0] ?_
  exact yE) : p := h
theorem jbj {p : Prop} (h : p := by
 refine cX ?_ ?_ <;> intro h
 ·refine G [4] ?_
  refine cV hEn ?_
  refine G [13, 9, 0] ?_
  refine cX ?_ ?_ <;> intro h
  ·exact jaH
  ·exact absurd qz h4.2
 ·exact absurd qz h4.1) : p := h
theorem jbk {p : Prop} (h : p := by
 simp only [zbf] at h
 simp at h
 omega) : p := h
theorem jbl {p : Prop} (h : p := by
 exact ⟨⟨rfl, rfl⟩, ⟨rfl, rfl⟩, ⟨rfl, rfl⟩, ⟨qae, zdj l 0⟩, ⟨rfl, rfl⟩, ⟨rfl, rfl⟩, trivial⟩) : p := h
theorem jbm {p : Prop} (h : p := by
 refine jdR ?_
 exact yE) : p := h
theorem jbn {p : Prop} (h : p := by
 obtain ⟨q0, hq0, rfl⟩ := qbo.1 hq
 rcases qbm.1 hq0 with rfl | hq0
 ·rfl
 ·obtain ⟨j, hj, rfl⟩ := (hFm q0).1 hq0
  show zaR _ (bif Nat.beq (0 + j + 1000) 0 then 27 else 0 + j + 1000) = .un
  rw [nbeq (show 0 + j + 1000 ≠ 0 by omega), cond_false]
  simp only [zaR, nbeq (show 0 + j + 1000 ≠ 3 by omega), nbeq (show 0 + j + 1000 ≠ 5 by omega), nbeq (show 0 + j + 1000 ≠ 6 by omega), cond_false]) : p := h
theorem jbo {p : Prop} (h : p := by
 have hE : seE s = 2 := if_pos hk
 rw [hE]
 obtain ⟨k, t, n, a, b⟩ := s
 dsimp only at hk
 refine jd9 ?_
 refine fnI fun w0 A => ?_
 refine G [15, 2, 1, 9, 0] ?_
 refine cX ?_ ?_ <;> intro h
 ·exact ja4
 ·exact absurd hk qu) : p := h
theorem jbp {p : Prop} (h : p := by
 rw [if_pos h7] at hst
 rw [hhit (by rw [hst]; exact h7), hst] at hE
 subst hE
 exact jaH) : p := h
theorem jbq {p : Prop} (h : p := by
 rw [if_neg (fun hh => he hh.1)] at hR
 subst hR
 refine G [3, 4, 14, 9, 0] ?_
 exact yE) : p := h
theorem jbr {p : Prop} (h : p := by
 refine jdR ?_
 refine yT (fun _ => 7) ?_ ?_
 ·exact rfl
 ·exact ja3) : p := h
theorem jbs {p : Prop} (h : p := by
 refine ⟨m - 1, qp, _, zae id _ _ ?_ ?_ rfl, i + 1, qp, fun j hj => ?_, rfl⟩
 ·exact jap
 ·trivial
 ·by_cases ej : j = i
  ·rw [ej, hfi, if_neg h6]
  ·exact hf j qp) : p := h
theorem jbt {p : Prop} (h : p := by
 rcases qbm.1 hp with rfl | hp
 ·rw [← hH]; rfl
 rcases qbm.1 hp with rfl | hp
 ·rw [← hH]; rfl
 ·obtain ⟨h1, h2, h3⟩ := hun p hp
  rw [h1]; exact hun2 _ h2 h3) : p := h
theorem jbu {p : Prop} (h : p := by
 refine jdy ?_
 refine G [7] ?_
 rw [if_neg (show ¬ seF ⟨7, t, n, a, b⟩ by simp [seF, isT, isN, isC, *])] at hE
 rw [seV_7] at hE
 refine G [6, 3, 16, 3, 11] ?_
 subst hE
 refine G [4] ?_
 refine cV hEn ?_
 refine G [14, 9, 0] ?_
 exact yE) : p := h
theorem jbv {p : Prop} (h : p := by
 subst hE
 refine G [5, 3, 7, 4, 2, 4, 19, 9, 0] ?_
 exact yE) : p := h
theorem jbw {p : Prop} (h : p := by
 (first | refine zaa zbH rfl rfl ?_ | refine zaa za4 rfl rfl ?_)
 refine G [3] ?_
 skip
 refine G [8] ?_
 refine zab (zb3 (Y := .p (.v (.string t))) (ys := [.v (.string t)]) sz9 rfl rfl rfl qp hset) rfl rfl ⟨rfl, trivial⟩ ?_
 refine G [10, 9, 0] ?_
 refine yT (fun _ => 40) ?_ ?_
 ·exact rfl
 ·exact ja3) : p := h
theorem jbx {p : Prop} (h : p := by
 refine fnI fun w0 A => ?_
 refine G [28, 9, 0] ?_
 exact yE) : p := h
theorem jby {p : Prop} (h : p := by
 refine cK hC ?_
 refine G [2, 9, 0] ?_
 refine cX ?_ ?_ <;> intro h
 ·exact ja4
 ·cases h) : p := h
theorem jbz {p : Prop} (h : p := by
 refine G [8] ?_
 rcases hc : q x with _ | _
 ·rw [hc] at hC
  refine G [7] ?_
  refine cK hC ?_
  refine jdv ?_
  refine ⟨m - 1, qp, _, zae id _ _ ?_ ?_ rfl, i + 1, qp, hno hc, rfl⟩
  ·exact jap
  ·exact trivial
 ·rw [hyes hc]
  rw [hc] at hC
  refine G [7] ?_
  refine cK hC ?_
  exact jbh) : p := h
theorem jbA {p : Prop} (h : p := by
 refine cK hC ?_
 refine G [2, 9, 0] ?_
 refine cX ?_ ?_ <;> intro h
 ·cases h
 refine jdD ?_
 exact jaF) : p := h
theorem jbB {p : Prop} (h : p := by
 rw [← hH]
 simp only [zaR, nbeq (show o ≠ 0 by omega), nbeq (show o ≠ 1 by omega), nbeq (show o ≠ 105 by omega), nbeq (show o ≠ 106 by omega), cond_false]) : p := h
theorem jbC {p : Prop} (h : p := by
 refine zab (zad (Y := .agg [.p (.v (.bool false)), .p (.v (.slice none 0 0)), .p (.v (.string ⟨#[]⟩)), .p (.v (.int .i64 0)), .p (.v (.slice none 0 0)), .p (.v (.string ⟨#[]⟩)), .p (.v (.int .i64 0))]) sz30 rfl rfl (qbf rfl)) rfl rfl ⟨rfl, trivial⟩ ?_
 exact jdh) : p := h
theorem jbD {p : Prop} (h : p := by
 refine zab (zh3 underlying129 U3 rfl (zg7 0 hm)) rfl rfl ⟨rfl, trivial⟩ ?_
 refine jdD ?_
 refine ⟨m' - 1, qp, _, zae id _ _ ?_ ?_ rfl, j + 1, qp, D ++ [n], hDn, hdp, rfl⟩
 ·exact jap
 ·exact ⟨⟨congrArg (fun x => Slot.live (AObj.map x)) hpush, rfl⟩, ⟨rfl, rfl⟩, trivial⟩) : p := h
theorem jbE {p : Prop} (h : p := by
 intro j hj
 obtain ⟨r, hr⟩ : ∃ r, nets[j]? = some r := ⟨nets[j], List.getElem?_eq_getElem qp⟩
 have : ntG nets j = r := by unfold ntG; rw [List.getD_eq_getElem?_getD, hr]; rfl
 rw [this]
 exact ⟨zaj (f := ntC) (k := 2) (fun _ => rfl) hr, zai (f := ntC) (k := 2) (fun _ => rfl) qp⟩) : p := h
theorem jbF {p : Prop} (h : p := by
 refine jec ?_ ?_
 ·exact jap
 ·exact jb0) : p := h
theorem jbG {p : Prop} (h : p := by
 subst hE
 refine G [5, 3, 7, 3, 9] ?_
 exact jay) : p := h
theorem jbH {p : Prop} (h : p := by
 have hge : i = N + 1 := qu
 clear h
 subst hge
 rw [← hlen, qbI] at hf ⊢
 rw [zjk hf] at hO
 subst hO
 rw [show spN (ps.map lnOf) none = [(0, .row 139 2 ps.length ((ps.map lnOf).flatMap lnC))] by simp only [spN, qbu]]
 refine G [9, 9, 0] ?_
 exact jaO) : p := h
theorem jbI {p : Prop} (h : p := by
 refine fnI fun w0 A => ?_
 refine G [9] ?_
 refine zaa (zaG U9 rfl qy) rfl rfl ?_
 exact jdh) : p := h
theorem jbJ {p : Prop} (h : p := by
 have hge : i = l.length := qu
 clear h
 subst hge
 rw [qbI] at hf ⊢
 rw [bdA_ok hf] at hO
 subst hO
 rw [show bpN (l.map rdS) none = [(0, .row 107 5 l.length ((l.map rdS).flatMap SE.pv))] by simp only [bpN, qbu]]
 refine G [9, 9, 0] ?_
 exact jaO) : p := h
theorem jbK {p : Prop} (h : p := by
 simp only [Option.some.injEq] at e
 subst e
 obtain ⟨b', us, rfl, h2, h3, h4, h5⟩ := hO
 obtain rfl : b' = b := qat
 rw [zhb ha] at h3
 simp only [PRep]
 exact ⟨b', 0, us, rfl, .inr rfl, PRepL.mono (fun _ h => .inl h) (fun _ _ => rfl) _ _ (zbO h3), zcw h5⟩) : p := h
theorem jbL {p : Prop} (h : p := by
 rw [if_pos h3, if_pos h3] at hE
 obtain ⟨g1, g2⟩ := zbQ rfl h3
 rw [g1, g2] at hN
 subst hE
 generalize hexE nc = he at *
 refine G [6] ?_
 refine cV hN ?_
 refine G [11, 9, 0] ?_
 refine cX ?_ ?_ <;> intro h
 ·exact jaH
 ·exact absurd qz h3) : p := h
theorem jbM {p : Prop} (h : p := by
 refine jdy ?_
 refine G [7] ?_
 rw [if_neg (show ¬ seF ⟨2, t, n, a, b⟩ by simp [seF, isT, isN, isC, *])] at hE
 rw [seV_2] at hE
 exact jaK) : p := h
theorem jbN {p : Prop} (h : p := by
 refine jdy ?_
 refine G [7] ?_
 rw [if_neg (show ¬ seF ⟨8, t, n, a, b⟩ by simp [seF, isT, isN, isC, *])] at hE
 rw [seV_8] at hE
 exact jaK) : p := h
theorem jbO {p : Prop} (h : p := by
 have h1 : l.findIdx q ≤ i := by
  rcases qcl i (l.findIdx q) with h2 | h2
  ·have := List.not_of_lt_findIdx (p := q) (xs := l) h2
   rw [h] at this; simp at this
  ·exact h2
 have h2 : l.findIdx q = i := qp
 unfold fI; rw [h2, if_pos hlt]) : p := h
theorem jbP {p : Prop} (h : p := by
 obtain ⟨f1, f2⟩ := mem_append hm (o := o) (d := o') (v := .slice a n c) (v' := .slice a h c) ho hd' (by rw [hx, k1]) (zgM w _) (.inl (by cases a <;> rfl)) hobj
 exact ⟨S, _, by simp only [Rep]; exact ⟨by simp [setM], _, _, _, rfl⟩, f1, f2⟩) : p := h
theorem jbQ {p : Prop} (h : p := by
 refine ⟨m - 1, qp, _, zae id _ _ ?_ ?_ rfl, i + 1, qp, fun j hj s hs => ?_, rfl⟩
 ·exact jap
 ·exact ja3
 ·by_cases e : j = i
  ·subst e; rw [hx] at hs; cases hs; exact HOK
  ·exact hf j qp s hs) : p := h
theorem jbR {p : Prop} (h : p := by
 refine cX ?_ ?_ <;> intro h
 ·exact jaH
 ·cases h) : p := h
theorem jbS {p : Prop} (h : p := by
 have hex : (execOp ev ⟨d, .mapUpdate t x y z, ty, pos, af, g⟩).run P w = .ok .skip w' := by
  simp only [execOp, za8 h2, za8 h3, qbp, hrun, qbi]
  rfl
 unfold Out
 rw [hex]
 exact ⟨S, m, by simp only [Rep], q1, q2⟩) : p := h
theorem jbT {p : Prop} (h : p := by
 refine jdD ?_
 refine ⟨m - 1, qp, _, zae id _ _ ?_ ?_ rfl, i + 1, qp, ?_, rfl⟩
 ·exact jap
 ·exact ja3
 ·intro j hj
  by_cases e : j = i
  ·subst e; rw [hc]; exact h1
  ·exact hf j qp) : p := h
theorem jbU {p : Prop} (h : p := by
 refine jeC ?_ ?_
 ·exact jap
 ·trivial) : p := h
theorem jbV {p : Prop} (h : p := by
 rw [if_pos h1] at hE
 subst hE
 exact jaH) : p := h
theorem jbW {p : Prop} (h : p := by
 obtain ⟨h1, h2⟩ := qbl.1 hi
 intro q hq
 rw [qbn h1, h2] at hq
 rcases qbz.1 hq with hq | hq
 ·exact hf q hq
 ·have : q = p := by simpa using hq
  rw [this]; exact hp) : p := h
theorem jbX {p : Prop} (h : p := by
 by_cases eq : q = i
 ·rw [eq]; exact hst
 ·exact hf q qp) : p := h
theorem jbY {p : Prop} (h : p := by
 refine zab (zad (Y := .agg (moD d (.row 11))) sz32 rfl rfl (qbf rfl)) rfl rfl ⟨rfl, trivial⟩ ?_
 refine G [2, 9, 0] ?_
 refine yT (fun _ => 11) ?_ ?_
 ·exact rfl
 ·exact ja3) : p := h
theorem jbZ {p : Prop} (h : p := by
 rw [if_neg (by omega)] at hst
 refine G [4, 3, 12, 9, 0] ?_
 refine cX ?_ ?_ <;> intro h
 ·cases h
 refine jdD ?_
 refine hnext _ hst (zae id _ _ ?_ ?_ rfl)
 ·exact jap
 ·exact ja3) : p := h
theorem jb0 {p : Prop} (h : p := by
 exact ⟨⟨rfl, rfl⟩, ⟨rfl, rfl⟩, ⟨rfl, rfl⟩, ⟨qae, zbt l 0 (fun i hi => by omega)⟩, ⟨rfl, rfl⟩, trivial⟩) : p := h
theorem jb1 {p : Prop} (h : p := by
 refine jdy ?_
 refine G [7] ?_
 rw [if_neg (show ¬ seF ⟨1, t, n, a, b⟩ by simp [seF, isT, isN, isC, *])] at hE
 rw [seV_1] at hE
 refine G [6, 3, 16, 3, 38] ?_
 subst hE
 refine G [3, 4, 7] ?_
 refine cV hH ?_
 exact jbm) : p := h
theorem jb2 {p : Prop} (h : p := by
 refine jdy ?_
 refine G [7] ?_
 rw [if_neg (show ¬ seF ⟨4, t, n, a, b⟩ by simp [seF, isT, isN, isC, *])] at hE
 rw [seV_4] at hE
 refine G [6, 3, 16, 3, 38] ?_
 subst hE
 refine G [3, 4, 7] ?_
 refine cV hH ?_
 exact jbm) : p := h
theorem jb3 {p : Prop} (h : p := by
 refine jdv ?_
 exact yE) : p := h
theorem jb4 {p : Prop} (h : p := by
 (repeat (first | exact trivial | refine ⟨rfl, ?_⟩))) : p := h
theorem jb5 {p : Prop} (h : p := by
 refine fnI fun w0 A => ?_
 refine G [10] ?_
 refine cK hC ?_
 refine G [5, 1, 23] ?_
 skip
 refine G [18] ?_
 skip
 refine G [27] ?_
 exact jba) : p := h
theorem jb6 {p : Prop} (h : p := by
 have h5 : 3 < q.length := qu
 exact jcY) : p := h
theorem jb7 {p : Prop} (h : p := by
 have h6 : 6 < l.length := qu
 rw [if_pos h6] at hE
 subst hE
 exact ja4) : p := h
theorem jb8 {p : Prop} (h : p := by
 simp only [za2, qbW, qbo] at hm
 obtain ⟨q, hq, hq1⟩ := hm
 obtain ⟨j, hj, rfl⟩ := zct.1 hq
 simp only [Function.comp] at hq1
 rw [nbeq (show 0 + j + 1000 ≠ 0 by omega), cond_false] at hq1
 omega) : p := h
theorem jb9 {p : Prop} (h : p := by
 rcases qcl i (l.findIdx q) with h2 | h2
 ·exact h2
 ·have h3 : l.findIdx q = i := qp
  have h4 : q (l[l.findIdx q]'qp) = true := List.findIdx_getElem
  simp only [h3] at h4
  rw [h4] at h; cases h) : p := h
theorem jca {p : Prop} (h : p := by
 subst hE
 refine G [5, 4, 2, 4, 27, 9, 0] ?_
 exact yE) : p := h
theorem jcb {p : Prop} (h : p := by
 rw [List.drop_append_of_le_length (by rw [qbu]; omega), ← List.map_drop, qbH (by rw [hDl]; exact Nat.le_refl _), qbr (by rw [hDl]; exact Nat.le_refl _)]) : p := h
theorem jcc {p : Prop} (h : p := by
 have h2 : ¬ s.size % 2 = 0 := qu
 refine jdI ?_
 obtain ⟨e1, e2⟩ := zbQ (s := s) (e := 3) (by unfold hexE; rw [if_neg (by omega), if_neg h2]) qp
 rw [e1, e2]
 exact yE) : p := h
theorem jcd {p : Prop} (h : p := by
 refine jeB ?_
 exact jbA) : p := h
theorem jce {p : Prop} (h : p := by
 refine jeB ?_
 exact jby) : p := h
theorem jcf {p : Prop} (h : p := by
 cases i with
 | zero => exact .inl rfl
 | succ j => exact .inr ⟨j, rfl⟩) : p := h
theorem jcg {p : Prop} (h : p := by
 refine fnI fun w0 A => ?_
 refine G [19] ?_
 skip
 refine G [18] ?_
 skip
 refine G [25, 9, 0] ?_
 exact yE) : p := h
theorem jch {p : Prop} (h : p := by
 rw [qbn h1, h2, qbD]
 simp) : p := h
theorem jci {p : Prop} (h : p := by
 have h4 : ep ≠ ⟨#[]⟩ ∧ e1 ≠ 0 := qz
 rw [if_pos h4] at hE
 subst hE
 exact jaH) : p := h
theorem jcj {p : Prop} (h : p := by
 rw [if_pos ⟨by omega, h8⟩] at hst
 rw [hhit (by rw [hst]; decide), hst] at hE
 subst hE
 exact ja4) : p := h
theorem jck {p : Prop} (h : p := by
 subst hE
 refine G [9, 4, 27, 9, 0] ?_
 exact yE) : p := h
theorem jcl {p : Prop} (h : p := by
 rw [← hH]
 simp only [zaR, nbeq (show o ≠ 0 by omega), nbeq (show o ≠ 1 by omega), nbeq (show o ≠ 105 by omega), nbeq (show o ≠ 106 by omega), cond_false]
 exact hF o qp) : p := h
theorem jcm {p : Prop} (h : p := by
 rw [if_neg (show ¬ seF ⟨10, t, n, a, b⟩ by simp [seF, isT, isN, isC, *])] at hE
 rw [seV_10] at hE
 refine G [6, 3, 16, 4, 3] ?_
 subst hE
 refine G [4] ?_
 refine cV hC ?_
 exact jbm) : p := h
theorem jcn {p : Prop} (h : p := by
 refine fnI fun w0 A => ?_
 refine G [8] ?_
 refine cK hC ?_
 exact jbm) : p := h
theorem jco {p : Prop} (h : p := by
 have h2 : 2000 < s.size := qu
 refine jdI ?_
 obtain ⟨e1, e2⟩ := zbQ (s := s) (e := 1) (by unfold hexE; rw [if_pos h2]) qp
 rw [e1, e2]
 exact yE) : p := h
theorem jcp {p : Prop} (h : p := by
 rw [head_sl a c size ha, qck, qcP, qcP] at this
 simp only [execOp, k1, qck, qbp, this, qbi, qbq]) : p := h
theorem jcq {p : Prop} (h : p := by
 subst hE
 refine G [5, 4, 2, 3, 4, 4, 2, 4, 19, 9, 0] ?_
 exact yE) : p := h
theorem jcr {p : Prop} (h : p := by
 have h5 : mine < 1 ∨ 4294967295 < mine ∨ hb < 0 ∨ hs < hb ∨ 1099511627776 < hs := qu
 rw [if_pos h5, if_pos (by decide)] at hE
 subst hE
 exact ja4) : p := h
theorem jcs {p : Prop} (h : p := by
 have hg := zje h0
 have h1 := (zhh hg (fun p hp => (ok.c.ps p hp).1) d.c.ps.length (Nat.le_refl _)).l
 have h2 := zeu hg (Nat.le_refl d.c.ps.length)
 have h6 := hg.n6
 omega) : p := h
theorem jct {p : Prop} (h : p := by
 apply qcS
 intro j
 rw [List.getElem?_set]
 by_cases e : i = j
 ·subst e
  obtain ⟨h1, h2⟩ := qbl.1 h
  simp [h1, h2]
 ·simp [e]) : p := h
theorem jcu {p : Prop} (h : p := by
 refine ⟨_, zae id _ _ ?_ ?_ rfl, 0, qp, qC, rfl⟩
 ·exact jap
 ·exact ja3) : p := h
theorem jcv {p : Prop} (h : p := by
 have h1 : 65535 < n := qz
 rw [if_pos (.inr h1)] at hE
 subst hE
 exact ja4) : p := h
theorem jcw {p : Prop} (h : p := by
 refine ⟨m - 1, qp, _, zae id _ _ ?_ ?_ rfl, i + 1, false, qp, ?_, ?_, rfl⟩
 ·exact jap
 ·exact ja3
 ·intro h; cases h
 ·intro _; exact hkbad hkk) : p := h
theorem jcx {p : Prop} (h : p := by
 rw [qbH (by rw [qbu, List.length_take]; omega), qbr (by rw [qbu, List.length_take]; omega)]) : p := h
theorem jcy {p : Prop} (h : p := by
 rw [qbg, qbs, List.length_take, qby]; omega) : p := h
theorem jcz {p : Prop} (h : p := by
 refine G [10, 9, 0] ?_
 exact yE) : p := h
theorem jcA {p : Prop} (h : p := by
 rw [hnx]
 show AV.p (.v (.int .u32 ((a : Int) * 256 + v))) = AV.p (.v (.int .u32 ((a * 256 + v : Nat) : Int)))
 first | rfl | (congr 3; omega) | congr 3) : p := h
theorem jcB {p : Prop} (h : p := by
 simp only [Instr.mapUpdate, qbp, run_underlying hu, qbi, MapKept.run_getObj_map g2, hck, hfk]
 exact MapKept.run_setObj_map _ g2) : p := h
theorem jcC {p : Prop} (h : p := by
 refine fT (fun o => o) (.tmp _ _ _ _ rfl .nil) ?_ ?_
 ·exact rfl
 ·exact trivial) : p := h
theorem jcD {p : Prop} (h : p := by
 rw [qbO] at this
 simpa [PE.pv] using this) : p := h
theorem jcE {p : Prop} (h : p := by
 refine jec ?_ ?_
 ·exact jap
 ·exact ja3) : p := h
theorem jcF {p : Prop} (h : p := by
 refine jec ?_ ?_
 ·exact jap
 ·exact jaR) : p := h
theorem jcG {p : Prop} (h : p := by
 exact ⟨by show (0 : Nat) < _; omega, qC, qC, qC, qC⟩) : p := h
theorem jcH {p : Prop} (h : p := by
 refine zaE (zaH ?_)
 exact jaw) : p := h
theorem jcI {p : Prop} (h : p := by
 obtain ⟨e1, e2⟩ := zbQ (s := s) (e := 3) (by unfold hexE; rw [if_neg (by omega), if_pos hev, if_neg hb]) qp
 rw [e1, e2]
 exact yE) : p := h
theorem jcJ {p : Prop} (h : p := by
 rw [if_pos h6] at hC hfi
 rw [hhit (by rw [hfi]; decide), hfi] at hE
 subst hE
 refine G [3] ?_
 refine cK hC ?_
 refine G [14, 9, 0] ?_
 exact yE) : p := h
theorem jcK {p : Prop} (h : p := by
 clear h
 subst hge
 rw [zcP hf] at hE
 subst hE
 exact jaH) : p := h
theorem jcL {p : Prop} (h : p := by
 rw [qb1 (by omega), qbN]
 rw [show i + (j - F.length) = j by omega]
 exact List.getElem?_eq_getElem hlt) : p := h
theorem jcM {p : Prop} (h : p := by
 refine G [6, 3, 16, 3, 38] ?_
 subst hE
 refine G [3, 3, 9, 9, 0] ?_
 exact yE) : p := h
theorem jcN {p : Prop} (h : p := by
 rw [h2, ← h1, qcp, qcO]
 simp [qbD]) : p := h
theorem jcO {p : Prop} (h : p := by
 have h4 : ¬ 0 ≤ ix := qu
 rw [if_neg h4] at hE
 rw [hbad (by omega), hE] at hO
 subst hO
 refine G [9, 9, 0] ?_
 exact yE) : p := h
theorem jcP {p : Prop} (h : p := by
 have hge : i = l.length := qu
 clear h
 have hI : fI q l = -1 := by unfold fI; rw [if_neg (by omega)]
 rw [hI]
 exact jaH) : p := h
theorem jcQ {p : Prop} (h : p := by
 subst hE
 refine G [5, 4, 2, 3, 4, 3, 9] ?_
 exact jay) : p := h
theorem jcR {p : Prop} (h : p := by
 subst hE
 refine G [9, 3, 7, 4, 19, 9, 0] ?_
 exact yE) : p := h
theorem jcS {p : Prop} (h : p := by
 obtain ⟨e1, e2, e3⟩ := join_key p q hp hq
 unfold joinN at e2
 unfold joinA at e3
 rw [if_pos e1] at e2 e3
 rw [e3, e2] at h
 exact h) : p := h
theorem jcT {p : Prop} (h : p := by
 have h2 : ¬ s.size = 64 := qu
 refine jdD ?_
 rw [show keyE s = 1 by unfold keyE; rw [if_neg h2]]
 exact yE) : p := h
theorem jcU {p : Prop} (h : p := by
 refine G [6, 4, 7] ?_
 refine cK hC ?_
 refine zaa (a_eqlV (c := b) (by rw [hb]; simp [Bool.beq_eq_decide_eq])) rfl rfl ?_
 exact ja4) : p := h
theorem jcV {p : Prop} (h : p := by
 have := zg8 (l := l) (k := 0) (i := j) hj
 rwa [Nat.zero_add] at this) : p := h
theorem jcW {p : Prop} (h : p := by
 rw [hat0, Nat.zero_add]
 unfold fK
 rw [if_neg (Nat.lt_irrefl k)]
 rfl) : p := h
theorem jcX {p : Prop} (h : p := by
 rw [if_pos h1] at hE
 subst hE
 exact ja4) : p := h
theorem jcY {p : Prop} (h : p := by
 rw [if_pos h5] at hE
 subst hE
 exact ja4) : p := h
theorem jcZ {p : Prop} (h : p := by
 have h1 : k1 ≠ 0 := qz
 exact jbV) : p := h
theorem jc0 {p : Prop} (h : p := by
 exact ⟨none, 0, [], rfl, Nat.le_refl _, qC, rfl, qC⟩) : p := h
theorem jc1 {p : Prop} (h : p := by
 rcases j3 with ⟨e1, _⟩ | ⟨gb, cap, cur, fz, e1, _⟩
 ·cases e1; cases hx
 ·cases e1; cases hx; exact ⟨_, rfl⟩) : p := h
theorem jc2 {p : Prop} (h : p := by
 refine hkv _ hnx _ (zae id _ _ ?_ ?_ rfl)
 ·exact jap
 ·exact jaR) : p := h
theorem jc3 {p : Prop} (h : p := by
 have h7 : e ≠ 0 := qz
 exact jbp) : p := h
theorem jc4 {p : Prop} (h : p := by
 subst hE
 refine G [16, 4, 19, 9, 0] ?_
 exact yE) : p := h
theorem jc5 {p : Prop} (h : p := by
 refine ⟨_, zae (fun o => bif Nat.beq o 100 then 9 else o) _ _ ?_ ?_ rfl, 0, qp, rfl⟩
 ·exact jap
 ·exact jaR) : p := h
theorem jc6 {p : Prop} (h : p := by
 refine ⟨_, zae id _ _ ?_ ?_ rfl, 0, qp, allT l i, qp, hDD.symm, qC, rfl⟩
 ·exact jap
 ·exact ja3) : p := h
theorem jc7 {p : Prop} (h : p := by
 have h1 : e ≠ 0 := qz
 dsimp only at hO
 rw [if_neg h1] at hO
 subst hO
 refine G [9, 9, 0] ?_
 exact yE) : p := h
theorem jc8 {p : Prop} (h : p := by
 by_cases e : o' = o
 ·subst e; simp [updL] at ho
 ·simp only [updL, nbeq e, cond_false] at ho; exact ⟨e, ho⟩) : p := h
theorem jc9 {p : Prop} (h : p := by
 refine G [8] ?_
 refine cV hI ?_
 refine G [6, 4, 8, 9, 0] ?_
 refine yT (fun _ => 0) ?_ ?_
 ·exact rfl
 ·exact ja3) : p := h
theorem jda {p : Prop} (h : p := by
 rw [if_pos h0]
 refine fnI fun w0 A => ?_
 refine G [10] ?_
 refine cK hC ?_
 refine G [5, 4, 10, 9, 0] ?_
 exact yE) : p := h
theorem jdb {p : Prop} (h : p := by
 refine G [0, 2, 3, 9, 0] ?_
 exact yE) : p := h
theorem jdc {p : Prop} (h : p := by
 exact hm.inj _ _ _ _ _ _ _ g1 g2 h3 h4 h5 h6) : p := h
theorem jdd {p : Prop} (h : p := by
 rw [qbn q1, q2]) : p := h
theorem jde {p : Prop} (h : p := by
 have h2 : nc.size ≠ 16 := qu
 rw [if_pos h2, if_pos (by decide)] at hE
 subst hE
 exact ja4) : p := h
theorem jdf {p : Prop} (h : p := by
 have hge : i = v.size := qu
 clear h
 subst hge
 rw [if_neg (by rw [zeb hf]; simp)]
 exact jaH) : p := h
theorem jdg {p : Prop} (h : p := by
 exact absurd h qaf) : p := h
theorem jdh {p : Prop} (h : p := by
 refine G [4, 9, 0] ?_
 exact yE) : p := h
theorem jdi {p : Prop} (h : p := by
 refine jec ?_ ?_
 ·exact jap
 ·rw [ze9, qbA]
  exact ja5) : p := h
theorem jdj {p : Prop} (h : p := by
 show (match l[k]? with | some x => if g x then bk g l k else k + 1 | none => k + 1) = _
 rw [h]; simp [hg]) : p := h
theorem jdk {p : Prop} (h : p := by
 have h1 : lv = false := qz
 rw [if_pos h1] at hE
 subst hE
 rw [stV_e (by decide)]
 exact jb3) : p := h
theorem jdl {p : Prop} (h : p := by
 exact ⟨l, k3, by rw [k1]; exact hb.1, by rw [k1, k2]⟩) : p := h
theorem jdm {p : Prop} (h : p := by
 match i, h with
 | 0, _ => rfl
 | 1, _ => rfl
 | 2, _ => rfl) : p := h
theorem jdn {p : Prop} (h : p := by
 exact ⟨by show (0 : Nat) < _; omega, by dsimp only; omega, by dsimp only; omega, qC, qC⟩) : p := h
theorem jdo {p : Prop} (h : p := by
 have : reachBytes ≤ 140737488351232 := qbe rfl
 constructor <;> simp only <;> omega) : p := h
theorem jdp {p : Prop} (h : p := by
 refine ⟨_, zae id _ _ ?_ ?_ rfl, 0, qp, fun j hj => by omega, rfl⟩
 ·exact jap
 ·exact ja3) : p := h
theorem jdq {p q : Prop} (k : q) (h : Bx q → p := by intro xj0; refine zab (xs := [.p (.v (.string ⟨#[]⟩)), .p (.v (.string ⟨#[116]⟩)), .p (.v (.string ⟨#[110]⟩)), .p (.v (.string ⟨#[]⟩)), .p (.v (.string ⟨#[116]⟩)), .p (.v (.string ⟨#[]⟩)), .p (.v (.string ⟨#[116]⟩)), .p (.v (.string ⟨#[116]⟩)), .p (.v (.string ⟨#[110]⟩)), .p (.v (.string ⟨#[]⟩)), .p (.v (.string ⟨#[99]⟩))]) (zag (es := [.p (.v (.string ⟨#[]⟩)), .p (.v (.string ⟨#[116]⟩)), .p (.v (.string ⟨#[110]⟩)), .p (.v (.string ⟨#[]⟩)), .p (.v (.string ⟨#[116]⟩)), .p (.v (.string ⟨#[]⟩)), .p (.v (.string ⟨#[116]⟩)), .p (.v (.string ⟨#[116]⟩)), .p (.v (.string ⟨#[110]⟩)), .p (.v (.string ⟨#[]⟩)), .p (.v (.string ⟨#[99]⟩))]) (cs := [.v (.string ⟨#[]⟩), .v (.string ⟨#[116]⟩), .v (.string ⟨#[110]⟩), .v (.string ⟨#[]⟩), .v (.string ⟨#[116]⟩), .v (.string ⟨#[]⟩), .v (.string ⟨#[116]⟩), .v (.string ⟨#[116]⟩), .v (.string ⟨#[110]⟩), .v (.string ⟨#[]⟩), .v (.string ⟨#[99]⟩)]) 15 U168 sz9 zc9 (qbe rfl) (qbe rfl) rfl qr qr qr (qbe rfl)) qP rfl ⟨rfl, trivial⟩ ?_; exact xj0.o) : p := h ⟨k⟩
theorem jdr {p q : Prop} (k : q) (h : Bx q → p := by intro xj0; refine zaH (zaK (zae id [(1, .p (.v (.string pt))), (3, .ref 3 0), (5, .ref 5 0), (6, .ref 6 0), (9, .fn 96 []), (12, .ref 12 0)] [(3, .box 24 (cfC key port l.length L)), (5, .box 107 [.p (.v (.int .i64 4)), .p (.v (.string t)), .p (.v (.int .i64 n)), .p (.v (.int .u32 a)), .p (.v (.int .i64 b))]), (6, .box 24 [.p (.v (.string ⟨#[]⟩)), .p (.v (.int .i64 0)), .p (.v (.slice none 0 0))]), (12, .box 24 [.p (.v (.string key)), .p (.v (.int .i64 port)), .row 40]), (40, .row 48 5 l.length L)] qt qt rfl) ?_); exact xj0.o) : p := h ⟨k⟩
theorem jds {p q : Prop} (k : q) (h : Bx q → p := by intro xj0; show Fn prog _ [.agg (cfC key port l.length (l.flatMap PE.pv)), _, .agg [.p (.v (.int .i64 k)), .p (.v (.string t)), .p (.v (.int .i64 n)), .p (.v (.int .u32 a)), .p (.v (.int .i64 b))]] (.tup [.agg [.p (.v (.string ⟨#[]⟩)), .p (.v (.int .i64 0)), .p (.v (.slice none 0 0))], .p (.v (.string ⟨#[]⟩)), .p (.v (.int .i64 e))]) _; exact xj0.o) : p := h ⟨k⟩
theorem jdt {p q : Prop} (k : q) (h : Bx q → p := by intro xj0; (repeat (first | refine zal ?_ | refine zaw ?_ | refine zaE ?_ | refine zaA ?_ | refine zaJ ?_ | refine zaH ?_ | refine zbA ?_ | refine zbK ?_ | refine zcq ?_ | refine zcl ?_ | refine zb8 ?_ | refine zdr rfl ?_)); exact xj0.o) : p := h ⟨k⟩
theorem jdu {p q : Prop} (k : q) (h : Bx q → p := by intro xj0; refine zab (zaI U22 sz48 qp qp qD) rfl rfl ⟨rfl, trivial⟩ ?_; exact xj0.o) : p := h ⟨k⟩
theorem jdv {p q : Prop} (k : q) (h : Bx q → p := by intro xj0; refine G [7, 9, 0] ?_; exact xj0.o) : p := h ⟨k⟩
theorem jdw {p q : Prop} (k : q) (h : Bx q → p := by intro xj0; refine zaH (zaK (zae id [(1, .p (.v (.string pt))), (3, .ref 3 0), (5, .ref 5 0), (6, .ref 6 0), (9, .fn 96 []), (12, .ref 12 0)] [(3, .box 24 (cfC key port l.length (l.flatMap PE.pv))), (5, .box 107 [.p (.v (.int .i64 10)), .p (.v (.string t)), .p (.v (.int .i64 n)), .p (.v (.int .u32 a)), .p (.v (.int .i64 b))]), (6, .box 24 [.p (.v (.string ⟨#[]⟩)), .p (.v (.int .i64 0)), .p (.v (.slice none 0 0))]), (12, .box 24 [.p (.v (.string key)), .p (.v (.int .i64 port)), .row 40]), (40, .row 48 5 l.length (l.flatMap PE.pv))] qt qt rfl) ?_); exact xj0.o) : p := h ⟨k⟩
theorem jdx {p q : Prop} (k : q) (h : Bx q → p := by intro xj0; refine zab (zao U55 rfl sz55 qv (show _ = zdK a b c from rfl)) rfl rfl ⟨rfl, trivial⟩ ?_; exact xj0.o) : p := h ⟨k⟩
theorem jdy {p q : Prop} (k : q) (h : Bx q → p := by intro xj0; refine zaa (zak U82 rfl rfl qr qr qr (c := false) (by rw [zbf]; simp [hq])) rfl rfl ?_; exact xj0.o) : p := h ⟨k⟩
theorem jdz {p q : Prop} (k : q) (h : Bx q → p := by intro xj0; refine zaH (zaK (zae id [(1, .p (.v (.string pt))), (3, .ref 3 0), (5, .ref 5 0), (6, .ref 6 0), (9, .fn 96 []), (12, .ref 12 0)] [(3, .box 24 (cfC key port l.length L)), (5, .box 107 [.p (.v (.int .i64 1)), .p (.v (.string t)), .p (.v (.int .i64 n)), .p (.v (.int .u32 a)), .p (.v (.int .i64 b))]), (6, .box 24 [.p (.v (.string ⟨#[]⟩)), .p (.v (.int .i64 0)), .p (.v (.slice none 0 0))]), (12, .box 24 [.p (.v (.string key)), .p (.v (.int .i64 port)), .row 40]), (40, .row 48 5 l.length L)] qt qt rfl) ?_); exact xj0.o) : p := h ⟨k⟩
theorem jdA {p q : Prop} (k : q) (h : Bx q → p := by intro xj0; refine zab (zad (Y := .agg _) sz32 rfl qI (qbf rfl)) rfl rfl ⟨rfl, trivial⟩ ?_; exact xj0.o) : p := h ⟨k⟩
theorem jdB {p q : Prop} (k : q) (h : Bx q → p := by intro xj0; refine zaa (zef (c := decide (T < l.length)) (by first | (simp; done) | (simp; omega))) rfl rfl ?_; exact xj0.o) : p := h ⟨k⟩
theorem jdC {p q : Prop} (k : q) (h : Bx q → p := by intro xj0; refine zaK (zae id [(1, .p (.v (.string pt))), (3, .ref 3 0), (5, .ref 5 0), (6, .ref 6 0)] [(3, .box 24 (cfC key port l.length (l.flatMap PE.pv))), (5, .box 107 [.p (.v (.int .i64 k)), .p (.v (.string t)), .p (.v (.int .i64 n)), .p (.v (.int .u32 a)), .p (.v (.int .i64 b))]), (6, .box 24 [.p (.v (.string ⟨#[]⟩)), .p (.v (.int .i64 0)), .p (.v (.slice none 0 0))])] qt qt rfl) ?_; exact xj0.o) : p := h ⟨k⟩
theorem jdD {p q : Prop} (k : q) (h : Bx q → p := by intro xj0; refine G [5, 9, 0] ?_; exact xj0.o) : p := h ⟨k⟩
theorem jdE {p q : Prop} (k : q) (h : Bx q → p := by intro xj0; refine zab (zao U60 rfl sz60 qv (show _ = s.cells from rfl)) rfl rfl ⟨rfl, trivial⟩ ?_; exact xj0.o) : p := h ⟨k⟩
theorem jdF {p q : Prop} (k : q) (h : Bx q → p := by intro xj0; refine zab (zbC U9 rfl qy) rfl rfl ⟨rfl, trivial⟩ ?_; exact xj0.o) : p := h ⟨k⟩
theorem jdG {p q : Prop} (k : q) (h : Bx q → p := by intro xj0; refine zab (zad (Y := .agg [.p (.v (.string pk)), .p (.v (.string sh)), .p (.v (.string ep)), .p (.v (.int .i64 al)), .p (.sl nn.length 2 (nn.flatMap ntC))]) sz48 rfl rfl (qbf rfl)) rfl rfl ⟨rfl, trivial⟩ ?_; exact xj0.o) : p := h ⟨k⟩
theorem jdH {p q : Prop} (k : q) (h : Bx q → p := by intro xj0; refine zaL (hG) rfl rfl F128 rfl rfl qL rfl ?_; exact xj0.o) : p := h ⟨k⟩
theorem jdI {p q : Prop} (k : q) (h : Bx q → p := by intro xj0; refine G [6, 9, 0] ?_; exact xj0.o) : p := h ⟨k⟩
theorem jdJ {p q : Prop} (k : q) (h : Bx q → p := by intro xj0; refine mP rfl rfl ?_; exact xj0.o) : p := h ⟨k⟩
theorem jdK {p q0 q1 q2 : Prop} (k0 : q0) (k1 : q1) (k2 : q2) (h : Bx q0 → Bx q1 → Bx q2 → p := by intro xj0 xj1 xj2; refine ⟨qO, ⟨_, (.tmp _ _ _ _ rfl (.tmp _ _ _ _ rfl .nil)), ?_⟩, ?_, ?_⟩; exact xj0.o; exact xj1.o; exact xj2.o) : p := h ⟨k0⟩ ⟨k1⟩ ⟨k2⟩
theorem jdL {p q : Prop} (k : q) (h : Bx q → p := by intro xj0; refine zaa (zcN U82 rfl rfl qr qr qr) rfl rfl ?_; exact xj0.o) : p := h ⟨k⟩
theorem jdM {p q : Prop} (k : q) (h : Bx q → p := by intro xj0; show Fn prog _ [.agg (cfC key port l.length (l.flatMap PE.pv)), _, .agg [.p (.v (.int .i64 k)), .p (.v (.string t)), .p (.v (.int .i64 n)), .p (.v (.int .u32 a)), .p (.v (.int .i64 b))]] _ _; exact xj0.o) : p := h ⟨k⟩
theorem jdN {p q : Prop} (k : q) (h : Bx q → p := by intro xj0; show Fn prog _ [.agg (cfC key port l.length (l.flatMap PE.pv)), _, .agg [.p (.v (.int .i64 4)), .p (.v (.string t)), .p (.v (.int .i64 n)), .p (.v (.int .u32 a)), .p (.v (.int .i64 b))]] _ _; exact xj0.o) : p := h ⟨k⟩
theorem jdO {p q : Prop} (k : q) (h : Bx q → p := by intro xj0; refine zab (zao U60 rfl sz60 qv (show _ = x.cells from rfl)) rfl rfl ⟨rfl, trivial⟩ ?_; exact xj0.o) : p := h ⟨k⟩
theorem jdP {p q : Prop} (k : q) (h : Bx q → p := by intro xj0; refine zab (zbC U5 rfl qy) rfl rfl ⟨rfl, trivial⟩ ?_; exact xj0.o) : p := h ⟨k⟩
theorem jdQ {p q : Prop} (k : q) (h : Bx q → p := by intro xj0; refine G [8, 9, 0] ?_; exact xj0.o) : p := h ⟨k⟩
theorem jdR {p q : Prop} (k : q) (h : Bx q → p := by intro xj0; refine G [3, 9, 0] ?_; exact xj0.o) : p := h ⟨k⟩
theorem jdS {p q : Prop} (k : q) (h : Bx q → p := by intro xj0; refine zab (zao (es := [.p (.v (.int .i64 k)), .p (.v (.string t)), .p (.v (.int .i64 n)), .p (.v (.int .u32 a)), .p (.v (.int .i64 b))]) U107 rfl zdJ (qbe rfl) rfl) rfl rfl ⟨h105, trivial⟩ ?_; exact xj0.o) : p := h ⟨k⟩
theorem jdT {p q : Prop} (k : q) (h : Bx q → p := by intro xj0; refine zaa (zak U55 (xs := a.vals ++ b.vals ++ c.vals) (ys := KY0.vals ++ KY0.vals ++ KY0.vals) rfl rfl qr qr qr (c := false) (by rw [zaN.2 (zcA.2 hz)]; rfl)) rfl rfl ?_; exact xj0.o) : p := h ⟨k⟩
theorem jdU {p q : Prop} (k : q) (h : Bx q → p := by intro xj0; refine zab (xs := [.p (.v (.int .i64 n))]) (zag (es := [.p (.v (.int .i64 n))]) (cs := [.v (.int .i64 n)]) 51 U112 sz3 zc3 (qbe rfl) (qbe rfl) rfl qr qr qr (qbe rfl)) qP rfl ⟨rfl, trivial⟩ ?_; exact xj0.o) : p := h ⟨k⟩
theorem jdV {p q : Prop} (k : q) (h : Bx q → p := by intro xj0; refine zab (zao U57 rfl sz57 qv (show _ = [.p (.v (.bool false)), .p (.v (.int .i64 mine)), .p (.v (.string nc)), .p (.v (.int .i64 hb)), .p (.v (.int .i64 hs))] from rfl)) rfl rfl ⟨rfl, trivial⟩ ?_; exact xj0.o) : p := h ⟨k⟩
theorem jdW {p q : Prop} (k : q) (h : Bx q → p := by intro xj0; refine zab (zao U57 rfl sz57 qv (show _ = [.p (.v (.bool lv)), .p (.v (.int .i64 mine)), .p (.v (.string nc)), .p (.v (.int .i64 hb)), .p (.v (.int .i64 hs))] from rfl)) rfl rfl ⟨rfl, trivial⟩ ?_; exact xj0.o) : p := h ⟨k⟩
theorem jdX {p q : Prop} (k : q) (h : Bx q → p := by intro xj0; refine zaL (hP) rfl rfl F130 rfl rfl qL rfl ?_; exact xj0.o) : p := h ⟨k⟩
theorem jdY {p q : Prop} (k : q) (h : Bx q → p := by intro xj0; refine lN U32 rfl sz32 rfl rfl ⟨rfl, trivial⟩ ?_; exact xj0.o) : p := h ⟨k⟩
theorem jdZ {p q : Prop} (k : q) (h : Bx q → p := by intro xj0; show Fn prog _ [.agg [.p (.v (.int .i64 10)), .p (.v (.string t)), .p (.v (.int .i64 n)), .p (.v (.int .u32 a)), .p (.v (.int .i64 b))]] _ _; exact xj0.o) : p := h ⟨k⟩
theorem jd0 {p q : Prop} (k : q) (h : Bx q → p := by intro xj0; show Fn prog _ [.agg [.p (.v (.int .i64 1)), .p (.v (.string t)), .p (.v (.int .i64 n)), .p (.v (.int .u32 a)), .p (.v (.int .i64 b))]] _ _; exact xj0.o) : p := h ⟨k⟩
theorem jd1 {p q : Prop} (k : q) (h : Bx q → p := by intro xj0; show Fn prog _ [.agg [.p (.v (.int .i64 2)), .p (.v (.string t)), .p (.v (.int .i64 n)), .p (.v (.int .u32 a)), .p (.v (.int .i64 b))]] _ _; exact xj0.o) : p := h ⟨k⟩
theorem jd2 {p q : Prop} (k : q) (h : Bx q → p := by intro xj0; show Fn prog _ [.agg [.p (.v (.int .i64 3)), .p (.v (.string t)), .p (.v (.int .i64 n)), .p (.v (.int .u32 a)), .p (.v (.int .i64 b))]] _ _; exact xj0.o) : p := h ⟨k⟩
theorem jd3 {p q : Prop} (k : q) (h : Bx q → p := by intro xj0; show Fn prog _ [.agg [.p (.v (.int .i64 4)), .p (.v (.string t)), .p (.v (.int .i64 n)), .p (.v (.int .u32 a)), .p (.v (.int .i64 b))]] _ _; exact xj0.o) : p := h ⟨k⟩
theorem jd4 {p q : Prop} (k : q) (h : Bx q → p := by intro xj0; show Fn prog _ [.agg [.p (.v (.int .i64 5)), .p (.v (.string t)), .p (.v (.int .i64 n)), .p (.v (.int .u32 a)), .p (.v (.int .i64 b))]] _ _; exact xj0.o) : p := h ⟨k⟩
theorem jd5 {p q : Prop} (k : q) (h : Bx q → p := by intro xj0; show Fn prog _ [.agg [.p (.v (.int .i64 6)), .p (.v (.string t)), .p (.v (.int .i64 n)), .p (.v (.int .u32 a)), .p (.v (.int .i64 b))]] _ _; exact xj0.o) : p := h ⟨k⟩
theorem jd6 {p q : Prop} (k : q) (h : Bx q → p := by intro xj0; show Fn prog _ [.agg [.p (.v (.int .i64 7)), .p (.v (.string t)), .p (.v (.int .i64 n)), .p (.v (.int .u32 a)), .p (.v (.int .i64 b))]] _ _; exact xj0.o) : p := h ⟨k⟩
theorem jd7 {p q : Prop} (k : q) (h : Bx q → p := by intro xj0; show Fn prog _ [.agg [.p (.v (.int .i64 8)), .p (.v (.string t)), .p (.v (.int .i64 n)), .p (.v (.int .u32 a)), .p (.v (.int .i64 b))]] _ _; exact xj0.o) : p := h ⟨k⟩
theorem jd8 {p q : Prop} (k : q) (h : Bx q → p := by intro xj0; show Fn prog _ [.agg [.p (.v (.int .i64 9)), .p (.v (.string t)), .p (.v (.int .i64 n)), .p (.v (.int .u32 a)), .p (.v (.int .i64 b))]] _ _; exact xj0.o) : p := h ⟨k⟩
theorem jd9 {p q : Prop} (k : q) (h : Bx q → p := by intro xj0; show Fn prog _ [.agg [.p (.v (.int .i64 k)), .p (.v (.string t)), .p (.v (.int .i64 n)), .p (.v (.int .u32 a)), .p (.v (.int .i64 b))]] _ _; exact xj0.o) : p := h ⟨k⟩
theorem jea {p q : Prop} (k : q) (h : Bx q → p := by intro xj0; refine zaa (a_quo qp (by first | exact IntWalk.i64_quo _ _ qp | rfl)) rfl rfl ?_; exact xj0.o) : p := h ⟨k⟩
theorem jeb {p q : Prop} (k : q) (h : Bx q → p := by intro xj0; refine zab (zad (Y := .agg [.p (.v (.int .u32 pa)), .p (.v (.int .u32 pb)), .p (.sl N 1 X)]) sz93 rfl rfl (qbf rfl)) rfl rfl ⟨rfl, trivial⟩ ?_; exact xj0.o) : p := h ⟨k⟩
theorem jec {p q0 q1 : Prop} (k0 : q0) (k1 : q1) (h : Bx q0 → Bx q1 → p := by intro xj0 xj1; refine ⟨_, zae id _ _ ?_ ?_ rfl, 0, qp, rfl⟩; exact xj0.o; exact xj1.o) : p := h ⟨k0⟩ ⟨k1⟩
theorem jed {p q : Prop} (k : q) (h : Bx q → p := by intro xj0; refine zab (zao U60 rfl sz60 qv (show _ = stC key ep a b c hh q.length (q.flatMap PQ.pv) from rfl)) rfl rfl ⟨rfl, trivial⟩ ?_; exact xj0.o) : p := h ⟨k⟩
theorem jee {p q : Prop} (k : q) (h : Bx q → p := by intro xj0; refine zaa (zbk rfl) rfl rfl ?_; exact xj0.o) : p := h ⟨k⟩
theorem jef {p q : Prop} (k : q) (h : Bx q → p := by intro xj0; refine zab (zad (Y := .agg (stC key ep a b c hh q.length (q.flatMap PQ.pv))) sz60 rfl rfl (qbf rfl)) rfl rfl ⟨rfl, trivial⟩ ?_; exact xj0.o) : p := h ⟨k⟩
theorem jeg {p q : Prop} (k : q) (h : Bx q → p := by intro xj0; refine zab (zad (Y := .agg [.p (.v (.bool lv)), .p (.v (.int .i64 mine)), .p (.v (.string nc)), .p (.v (.int .i64 hb)), .p (.v (.int .i64 hs))]) sz57 rfl rfl (qbf rfl)) rfl rfl ⟨rfl, trivial⟩ ?_; exact xj0.o) : p := h ⟨k⟩
theorem jeh {p q : Prop} (k : q) (h : Bx q → p := by intro xj0; show Fn prog _ [.agg (sgC lv rest.length (rest.flatMap SE.pv) key port ps.length (ps.flatMap PE.pv) at_ err)] (.agg (sgC lv rest.length (rest.flatMap SE.pv) key port ps.length (ps.flatMap PE.pv) at_ err)) []; exact xj0.o) : p := h ⟨k⟩
theorem jei {p q : Prop} (k : q) (h : Bx q → p := by intro xj0; refine zaa (zbp (c := true) (decide_eq_true hk)) rfl rfl ?_; exact xj0.o) : p := h ⟨k⟩
theorem jej {p q : Prop} (k : q) (h : Bx q → p := by intro xj0; refine zab (zad (Y := .agg p.cells) sz48 rfl rfl (qbf rfl)) rfl rfl ⟨rfl, trivial⟩ ?_; exact xj0.o) : p := h ⟨k⟩
theorem jek {p q : Prop} (k : q) (h : Bx q → p := by intro xj0; show Fn prog _ [.agg [.p (.v (.string key)), .p (.v (.int .i64 port)), .p (.sl ps.length 5 (ps.flatMap PE.pv))]] _ [(0, .row 84 4 (tOf (zax ps ps.length)).list.length (nds (tOf (zax ps ps.length)).list))]; exact xj0.o) : p := h ⟨k⟩
theorem jel {p q : Prop} (k : q) (h : Bx q → p := by intro xj0; refine zab (zcx (Y := .p (.sl (delN (a, b) l[k].nets).length 2 ((delN (a, b) l[k].nets).flatMap ntC))) (es := gC (fK U (a, b) (k + 1)) 0 l) sz46 rfl rfl qa1 hst) rfl rfl ⟨rfl, trivial⟩ ?_; exact xj0.o) : p := h ⟨k⟩
theorem jem {p q : Prop} (k : q) (h : Bx q → p := by intro xj0; refine zab (zao underlying30 rfl sz30 qv (show _ = d.sg.cells from rfl)) rfl rfl ⟨rfl, trivial⟩ ?_; exact xj0.o) : p := h ⟨k⟩
theorem jen {p q : Prop} (k : q) (h : Bx q → p := by intro xj0; refine zaa (zbW U55 (xs := a.vals ++ b.vals ++ c.vals) (ys := KY0.vals ++ KY0.vals ++ KY0.vals) rfl rfl qr qr qr (c := true) (zaN.2 (zcA.2 hz))) rfl rfl ?_; exact xj0.o) : p := h ⟨k⟩
theorem jeo {p q : Prop} (k : q) (h : Bx q → p := by intro xj0; show Fn prog _ [.agg (cfC key port l.length (l.flatMap PE.pv)), _, .agg [.p (.v (.int .i64 10)), .p (.v (.string t)), .p (.v (.int .i64 n)), .p (.v (.int .u32 a)), .p (.v (.int .i64 b))]] _ _; exact xj0.o) : p := h ⟨k⟩
theorem jep {p q : Prop} (k : q) (h : Bx q → p := by intro xj0; refine zaa (a_rem qp (by first | exact IntWalk.rem_in _ _ qp | rfl)) rfl rfl ?_; exact xj0.o) : p := h ⟨k⟩
theorem jeq {p q : Prop} (k : q) (h : Bx q → p := by intro xj0; show Fn prog _ [.agg (cfC key port l.length (l.flatMap PE.pv)), _, .agg [.p (.v (.int .i64 1)), .p (.v (.string t)), .p (.v (.int .i64 n)), .p (.v (.int .u32 a)), .p (.v (.int .i64 b))]] _ _; exact xj0.o) : p := h ⟨k⟩
theorem jer {p q : Prop} (k : q) (h : Bx q → p := by intro xj0; refine zab (zao U24 rfl sz24 qv (show _ = d.c.cells from rfl)) rfl rfl ⟨rfl, trivial⟩ ?_; exact xj0.o) : p := h ⟨k⟩
theorem jes {p q : Prop} (k : q) (h : Bx q → p := by intro xj0; refine zab (zao U48 rfl sz48 qv (show _ = x.cells from rfl)) rfl rfl ⟨rfl, trivial⟩ ?_; exact xj0.o) : p := h ⟨k⟩
theorem jet {p q : Prop} (k : q) (h : Bx q → p := by intro xj0; refine zab (zao U53 rfl sz53 qv (show _ = a.cells from rfl)) rfl rfl ⟨rfl, trivial⟩ ?_; exact xj0.o) : p := h ⟨k⟩
theorem jeu {p q : Prop} (k : q) (h : Bx q → p := by intro xj0; refine zab (zao U53 rfl sz53 qv (show _ = b.cells from rfl)) rfl rfl ⟨rfl, trivial⟩ ?_; exact xj0.o) : p := h ⟨k⟩
theorem jev {p q : Prop} (k : q) (h : Bx q → p := by intro xj0; refine zab (zao U53 rfl sz53 qv (show _ = c.cells from rfl)) rfl rfl ⟨rfl, trivial⟩ ?_; exact xj0.o) : p := h ⟨k⟩
theorem jew {p q : Prop} (k : q) (h : Bx q → p := by intro xj0; refine zab (zao U53 rfl sz53 qv (show _ = x.cells from rfl)) rfl rfl ⟨rfl, trivial⟩ ?_; exact xj0.o) : p := h ⟨k⟩
theorem jex {p q : Prop} (k : q) (h : Bx q → p := by intro xj0; refine zab (zao U93 rfl sz93 qv (show _ = x.cells from rfl)) rfl rfl ⟨rfl, trivial⟩ ?_; exact xj0.o) : p := h ⟨k⟩
theorem jey {p q : Prop} (k : q) (h : Bx q → p := by intro xj0; refine zab (zao U93 rfl sz93 qv (show _ = y.cells from rfl)) rfl rfl ⟨rfl, trivial⟩ ?_; exact xj0.o) : p := h ⟨k⟩
theorem jez {p q : Prop} (k : q) (h : Bx q → p := by intro xj0; refine zab (zao U60 rfl sz60 qv (show _ = y.cells from rfl)) rfl rfl ⟨rfl, trivial⟩ ?_; exact xj0.o) : p := h ⟨k⟩
theorem jeA {p q : Prop} (k : q) (h : Bx q → p := by intro xj0; refine zab (zao U48 rfl sz48 qv (show _ = p.cells from rfl)) rfl rfl ⟨rfl, trivial⟩ ?_; exact xj0.o) : p := h ⟨k⟩
theorem jeB {p q : Prop} (k : q) (h : Bx q → p := by intro xj0; refine zab (zao U48 rfl sz48 qv (show _ = y.cells from rfl)) rfl rfl ⟨rfl, trivial⟩ ?_; exact xj0.o) : p := h ⟨k⟩
theorem jeC {p q0 q1 : Prop} (k0 : q0) (k1 : q1) (h : Bx q0 → Bx q1 → p := by intro xj0 xj1; refine ⟨_, zae id _ _ ?_ ?_ rfl, 0, qp, qp, rfl⟩; exact xj0.o; exact xj1.o) : p := h ⟨k0⟩ ⟨k1⟩
theorem jeD {p q : Prop} (k : q) (h : Bx q → p := by intro xj0; refine zaa (zaG U9 rfl hpk) rfl rfl ?_; exact xj0.o) : p := h ⟨k⟩
theorem jeE {p q : Prop} (k : q) (h : Bx q → p := by intro xj0; refine zab (zbw U46 rfl hat) rfl rfl ⟨rfl, trivial⟩ ?_; exact xj0.o) : p := h ⟨k⟩
theorem jeF {p q : Prop} (k : q) (h : Bx q → p := by intro xj0; refine zaa (zas U82 rfl sz82 qW (hch)) rfl rfl ?_; exact xj0.o) : p := h ⟨k⟩
theorem jeG {p q : Prop} (k : q) (h : Bx q → p := by intro xj0; refine zaa (zb4 U9 qp (by rw [qbx]; exact g1)) rfl rfl ?_; exact xj0.o) : p := h ⟨k⟩
theorem jeH {p q : Prop} (k : q) (h : Bx q → p := by intro xj0; refine zaa (zbT pl55 zr55 rfl rfl) rfl rfl ?_; exact xj0.o) : p := h ⟨k⟩
theorem jeI {p q : Prop} (k : q) (h : Bx q → p := by intro xj0; show awp _ _ _ ⟨zcV [(1, .p (.v (.string pt))), (5, .ref 105 0), (6, .ref 106 0), (11, .ref 0 0)], zaR _⟩; exact xj0.o) : p := h ⟨k⟩
theorem jeJ {p q : Prop} (k : q) (h : Bx q → p := by intro xj0; refine zaa (zbp (c := false) (decide_eq_false hk)) rfl rfl ?_; exact xj0.o) : p := h ⟨k⟩
theorem jeK {p q : Prop} (k : q) (h : Bx q → p := by intro xj0; refine zaa (zbp (c := true) (decide_eq_true hkk)) rfl rfl ?_; exact xj0.o) : p := h ⟨k⟩
theorem jeL {p q : Prop} (k : q) (h : Bx q → p := by intro xj0; refine G [16] ?_; refine cK hC ?_; refine G [5, 1, 7] ?_; refine cK hS ?_; refine G [5, 1, 6] ?_; exact xj0.o) : p := h ⟨k⟩
theorem jeM {p q : Prop} (k : q) (h : Bx q → p := by intro xj0; refine G [5] ?_; refine cV hA ?_; refine G [8] ?_; refine jdB ?_; exact xj0.o) : p := h ⟨k⟩
theorem jeN {p q : Prop} (k : q) (h : Bx q → p := by intro xj0; refine aP rfl rfl ?_; refine zaf ?_; refine zal ?_; refine tx ?_; refine jdY ?_; exact xj0.o) : p := h ⟨k⟩
theorem jeO {p q : Prop} (k : q) (h : Bx q → p := by intro xj0; refine G [21] ?_; refine jdq ?_; refine G [2] ?_; exact xj0.o) : p := h ⟨k⟩
theorem jeP {p q : Prop} (k : q) (h : Bx q → p := by intro xj0; refine G [12] ?_; refine cK hC ?_; refine G [5, 1, 7] ?_; refine cK hS ?_; exact xj0.o) : p := h ⟨k⟩
theorem jeQ {p q : Prop} (k : q) (h : Bx q → p := by intro xj0; refine G [4] ?_; refine zab (zag 25 U22 sz48 zc48 (qbe rfl) (qbe rfl) rfl rfl rfl rfl (qbe rfl)) rfl rfl ⟨rfl, trivial⟩ ?_; refine zab (zaq 26 U22 eo48 (zaS) qB qp rfl rfl) rfl rfl ⟨rfl, rfl, rfl, trivial⟩ ?_; refine jdv ?_; exact xj0.o) : p := h ⟨k⟩
theorem jeR {p q : Prop} (k : q) (h : Bx q → p := by intro xj0; refine zaa (zaF (r := .tup _)) rfl rfl ?_; refine jee ?_; refine jee ?_; exact xj0.o) : p := h ⟨k⟩
theorem jeS {p q : Prop} (k : q) (h : Bx q → p := by intro xj0; refine zab (zat U46 sz82 qp qp qD) rfl rfl ⟨rfl, trivial⟩ ?_; refine zab (zeP U82 rfl sz82 qp (hk)) rfl rfl ⟨rfl, trivial⟩ ?_; refine lN U82 rfl sz82 rfl rfl ⟨rfl, trivial⟩ ?_; refine cK hO ?_; exact xj0.o) : p := h ⟨k⟩
theorem jeT {p q : Prop} (k : q) (h : Bx q → p := by intro xj0; refine G [10] ?_; refine cK hC ?_; exact xj0.o) : p := h ⟨k⟩
theorem jeU {p q : Prop} (k : q) (h : Bx q → p := by intro xj0; refine zaa (zam zgP rfl) rfl rfl ?_; refine jeD ?_; exact xj0.o) : p := h ⟨k⟩
theorem jeV {p q : Prop} (k : q) (h : Bx q → p := by intro xj0; refine jdJ ?_; refine jdJ ?_; refine jdJ ?_; refine zaa za4 rfl rfl ?_; refine zaa zfn rfl rfl ?_; exact xj0.o) : p := h ⟨k⟩
theorem jeW {p q : Prop} (k : q) (h : Bx q → p := by intro xj0; refine G [23] ?_; refine cK hM ?_; refine G [34] ?_; exact xj0.o) : p := h ⟨k⟩
theorem jeX {p q : Prop} (k : q) (h : Bx q → p := by intro xj0; refine G [7] ?_; refine jeF ?_; refine G [2] ?_; refine zab (zad (Y := .agg [.p (.v (.int .u32 qa)), .p (.v (.int .i64 qn))]) sz82 rfl rfl (qbf rfl)) rfl rfl ⟨rfl, trivial⟩ ?_; refine G [5] ?_; refine cV hC ?_; refine jdv ?_; exact xj0.o) : p := h ⟨k⟩
theorem jeY {p q : Prop} (k : q) (h : Bx q → p := by intro xj0; refine zab (zaW 5 zr53 rfl) rfl rfl ⟨rfl, trivial⟩ ?_; refine zab (zad (Y := .agg x.cells) sz53 rfl rfl (qbf rfl)) rfl rfl ⟨rfl, trivial⟩ ?_; refine G [3] ?_; refine jew ?_; refine cK hC ?_; refine jdv ?_; exact xj0.o) : p := h ⟨k⟩
theorem jeZ {p q : Prop} (k : q) (h : Bx q → p := by intro xj0; refine G [5] ?_; refine jei ?_; refine G [2] ?_; exact xj0.o) : p := h ⟨k⟩
theorem je0 {p q : Prop} (k : q) (h : Bx q → p := by intro xj0; refine G [12] ?_; refine jdH ?_; refine G [25] ?_; refine jdX ?_; exact xj0.o) : p := h ⟨k⟩
theorem je1 {p q : Prop} (k : q) (h : Bx q → p := by intro xj0; refine zaf ?_; refine zaH ?_; exact xj0.o) : p := h ⟨k⟩
theorem je2 {p q : Prop} (k : q) (h : Bx q → p := by intro xj0; refine G [8] ?_; refine zab (zad (Y := .agg [.p (.v (.int .u32 pa)), .p (.v (.int .u32 pb)), .p (.sl xs.length 1 (bs xs))]) sz93 rfl rfl (qbf rfl)) rfl rfl ⟨rfl, trivial⟩ ?_; exact xj0.o) : p := h ⟨k⟩
theorem je3 {p q : Prop} (k : q) (h : Bx q → p := by intro xj0; refine G [6] ?_; refine zaa (zas U93 rfl sz93 qW (hch)) rfl rfl ?_; refine zab (zaW 14 zr93 rfl) rfl rfl ⟨rfl, trivial⟩ ?_; refine jeb ?_; refine zaf ?_; exact xj0.o) : p := h ⟨k⟩
theorem je4 {p q : Prop} (k : q) (h : Bx q → p := by intro xj0; refine zab (zad (Y := .agg (stC key ep a b c ⟨lv, mine, nc, hb, hs⟩ q.length (q.flatMap PQ.pv))) sz60 rfl rfl (qbf rfl)) rfl rfl ⟨rfl, trivial⟩ ?_; refine zaf ?_; exact xj0.o) : p := h ⟨k⟩
theorem je5 {p q : Prop} (k : q) (h : Bx q → p := by intro xj0; refine G [8] ?_; refine zab (zad (Y := .agg [.p (.v (.int .u32 qa)), .p (.v (.int .i64 qb))]) sz82 rfl rfl (qbf rfl)) rfl rfl ⟨rfl, trivial⟩ ?_; refine zaf ?_; exact xj0.o) : p := h ⟨k⟩
theorem je6 {p q : Prop} (k : q) (h : Bx q → p := by intro xj0; refine G [6] ?_; refine jdF ?_; refine G [5] ?_; refine cV hC ?_; exact xj0.o) : p := h ⟨k⟩
theorem je7 {p q : Prop} (k : q) (h : Bx q → p := by intro xj0; refine zab (zad (Y := .agg s.cells) sz60 rfl rfl (qbf rfl)) rfl rfl ⟨rfl, trivial⟩ ?_; refine G [4] ?_; refine jdE ?_; refine cK hC ?_; refine jdv ?_; exact xj0.o) : p := h ⟨k⟩
theorem je8 {p q : Prop} (k : q) (h : Bx q → p := by intro xj0; refine jeM ?_; refine G [38] ?_; refine cV hA2 ?_; exact xj0.o) : p := h ⟨k⟩
theorem je9 {p q : Prop} (k : q) (h : Bx q → p := by intro xj0; refine zab (zb3 (Y := .p _) sz5 rfl rfl (by first | rfl | omega) qG q2) rfl rfl ⟨rfl, trivial⟩ ?_; refine jdD ?_; exact xj0.o) : p := h ⟨k⟩
theorem jfa {p q : Prop} (k : q) (h : Bx q → p := by intro xj0; refine G [8] ?_; refine zab (zad (Y := .agg [.p (.v (.int .u32 a)), .p (.v (.int .i64 b))]) sz82 rfl rfl (qbf rfl)) rfl rfl ⟨rfl, trivial⟩ ?_; exact xj0.o) : p := h ⟨k⟩
end Go.Proofs.YtlfjpippeeikdaaGreatDoor
