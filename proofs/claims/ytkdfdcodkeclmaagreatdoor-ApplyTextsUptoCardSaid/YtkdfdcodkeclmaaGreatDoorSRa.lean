/- Rows of data and of own things (objects 'rowA'): opened and closed, sliced, read, written, copied. -/
import Derived.Test.YtkdfdcodkeclmaaGreatDoorSMa4
import Derived.Test.YtkdfdcodkeclmaaGreatDoorSFz
import Derived.Lib.Overlaps
import Derived.Lib.AppendZerosOnto
namespace Go.Proofs.YtkdfdcodkeclmaaGreatDoor
open Go.RowKit Go.Sort
set_option linter.unusedVariables false
set_option linter.unusedSimpArgs false
section
variable {w0 : World} {A S : Nat → Prop} {m : Nat → Option Value} {heap : Nat → Slot} {w w' : World}
theorem mem_say (hm : Mem w0 A S m heap w) {o : Nat} {ob ob' : AObj} {v : Value} (hl : heap o = .live ob) (hv : m o = some v) (ho : ORep w0.heap.size S m w ob' v) : Mem w0 A S m (updL heap [(o, .live ob')]) w := by
 obtain ⟨v', k1, k2, k3⟩ := hm.live o ob hl
 rw [hv] at k1; cases k1
 refine ⟨hm.bel, hm.sA, hm.sW, fun o' ho' => ?_, fun o' ob2 ho' => ?_, fun o1 o2 ob1 ob2 v1 v2 b' h1 h2 h3 h4 h5 h6 => ?_, hm.gl⟩
 ·by_cases e : o' = o
  ·subst e; simp [updL] at ho'
  ·simp only [updL, nbeq e, cond_false] at ho'
   exact hm.un o' ho'
 ·by_cases e : o' = o
  ·subst e
   simp only [updL, Nat.beq_refl, cond_true, Slot.live.injEq] at ho'
   subst ho'
   exact ⟨v, hv, ho, k3⟩
  ·simp only [updL, nbeq e, cond_false] at ho'
   exact hm.live o' ob2 ho'
 ·have key : ∀ {x : Nat} {obx : AObj}, updL heap [(o, .live ob')] x = .live obx → ∃ oby, heap x = .live oby := by
   intro x obx hx
   by_cases e : x = o
   ·subst e; exact ⟨ob, hl⟩
   ·simp only [updL, nbeq e, cond_false] at hx; exact ⟨obx, hx⟩
  obtain ⟨_, g1⟩ := key h1
  obtain ⟨_, g2⟩ := key h2
  exact hm.inj _ _ _ _ _ _ _ g1 g2 h3 h4 h5 h6
end
theorem awp_openR {G : Env} {c : Code} {Q : Exit → St → Prop} {st : St} (o : Nat) {e size n : Nat} {cs : List PV} (h : st.heap o = .live (.row e size n cs))
  (k : ∀ cap, n ≤ cap → cap ≤ maxLen → awp G c Q ⟨st.tmps, updL st.heap [(o, .live (.rowA e size n (some cap) (cs.map AV.p)))]⟩) : awp G c Q st := by
 intro a w hs
 obtain ⟨⟨S, m, hm, hj, ht⟩, hsz, hd⟩ := hs
 obtain ⟨v, h1, h2, h3⟩ := hm.live o _ h
 obtain ⟨us, j1, j2⟩ := h2
 obtain ⟨cap, q1, q2, q3⟩ : ∃ cap, n ≤ cap ∧ cap ≤ maxLen ∧ ∃ a, v = .slice a n cap := by
  rcases j2.2 with ⟨rfl, rfl⟩ | ⟨g, cap, cur, fz, rfl, _, _, _, g4, g5, _⟩
  ·exact ⟨0, Nat.le_refl _, Nat.zero_le _, none, rfl⟩
  ·exact ⟨cap, g4, g5, _, rfl⟩
 exact k cap q1 q2 a w ⟨⟨S, m, mem_say hm h h1 ⟨us, j1.repL, j2, fun k hk => by cases hk; exact q3⟩, hj, ht⟩, hsz, hd⟩
theorem zcj {st : St} (o : Nat) {e size n : Nat} {c : Option Nat} {cs : List PV} (h : st.heap o = .live (.rowA e size n c (cs.map AV.p))) : ReO st ⟨st.tmps, updL st.heap [(o, .live (.row e size n cs))]⟩ := by
 intro w0 A nt a w hs
 obtain ⟨⟨S, m, hm, hj, ht⟩, hsz, hd⟩ := hs
 obtain ⟨v, h1, h2, h3⟩ := hm.live o _ h
 obtain ⟨us, j1, j2, _⟩ := h2
 exact ⟨⟨S, m, mem_say hm h h1 ⟨us, zbC j1, j2⟩, hj, ht⟩, hsz, hd⟩
theorem zdo {st : St} (o : Nat) {e size n : Nat} {cs : List PV} (h : st.heap o = .live (.row e size n cs)) : ReO st ⟨st.tmps, updL st.heap [(o, .live (.rowA e size n none (cs.map AV.p)))]⟩ := by
 intro w0 A nt a w hs
 obtain ⟨⟨S, m, hm, hj, ht⟩, hsz, hd⟩ := hs
 obtain ⟨v, h1, h2, h3⟩ := hm.live o _ h
 obtain ⟨us, j1, j2⟩ := h2
 exact ⟨⟨S, m, mem_say hm h h1 ⟨us, j1.repL, j2, fun k hk => by cases hk⟩, hj, ht⟩, hsz, hd⟩
theorem RepL.anys {S : Nat → Prop} {m : Nat → Option Value} {w : World} : ∀ us : List Value, RepL S m w (List.replicate us.length .any) us
 | [] => by simp [RepL]
 | u :: us => by
  simp only [List.length_cons, List.replicate_succ, RepL, Rep]
  exact ⟨u, us, rfl, trivial, RepL.anys us⟩
section
variable {P : Program} {d : Option Tmp} {ty : TypeId} {pos : String} {af : Array Edge} {g : Option (Nat × Bool)}
theorem ze4 (w : World) (r : Option Nat) : w.grownBy w r := ⟨rfl, rfl, rfl, Nat.le_refl _, fun _ _ _ => rfl⟩
theorem head_sl (a : Option Addr) (c k : Nat) : (∀ x, a = some x → ∃ g, x = ⟨g, 0, none⟩) → (if c = 0 then a else a.map (·.add (0 * k))) = a := fun h => by
 cases a with
 | none => simp
 | some x => obtain ⟨g, rfl⟩ := h x rfl; simp [Addr.add_mid]
theorem a_sliceUp {t e : TypeId} {x : Operand} {hi : Option Operand} {H : Option (IntKind × Int)} {o o' n c h size : Nat} {cs zs : List AV} (hu : P.underlying t = some (.slice e)) (hi' : (P.info? e).map (·.size) = some size) (hH : bOK hi H n h) (hh : n ≤ h) (hc : h ≤ c)
  (hz : cs ++ List.replicate ((h - n) * size) .any = zs) :
  AOp P ⟨d, .slice t x none hi none, ty, pos, af, g⟩ (SlOps x none hi (.row o) none H) [(o, .live (.rowA e size n (some c) cs)), (o', .un)] [(o', .live (.rowA e size h (some c) zs)), (o, .dead)] (.row o') := by
 intro w0 A S m heap w ev hm hR hrd
 have ho : heap o = .live (.rowA e size n (some c) cs) := hrd (o, _) (by simp)
 have hd' : heap o' = .un := hrd (o', _) (by simp)
 obtain ⟨h1, h2, h3⟩ := zcR (t := t) (lo := none) (L := none) (l := 0) (dl := 0) rfl hH hR
 simp only [Rep] at h1
 obtain ⟨hx, _⟩ := h1
 obtain ⟨v, k1, k2, k3⟩ := hm.live o _ ho
 rw [hx] at k1
 have k1 := Option.some.inj k1
 obtain ⟨us, j1, ⟨j2, j3⟩, j4⟩ := k2
 obtain ⟨a, rfl⟩ := j4 c rfl
 subst hz
 have ha : ∀ x, a = some x → ∃ g, x = ⟨g, 0, none⟩ := fun x hx => by
  rcases j3 with ⟨e1, _⟩ | ⟨gb, cap, cur, fz, e1, _⟩
  ·cases e1; cases hx
  ·cases e1; cases hx; exact ⟨_, rfl⟩
 have hrun : (execOp ev ⟨d, .slice t x none hi none, ty, pos, af, g⟩).run P w = .ok (.value (.slice a h c)) w := by
  have := zbZ (a := a) (len := n) (cap := c) hu hi' h2 h3 (Nat.zero_le h) hc w
  rw [head_sl a c size ha, Option.map_none, Nat.sub_zero, Nat.sub_zero] at this
  simp only [execOp, k1, Option.map_none, Sem.run_bind, this, Result.andThen_ok, Sem.run_pure]
 unfold Out
 rw [hrun]
 have hmd := hm.un o' hd'
 have hgr : Grow S m w S (setM m o' (.slice a h c)) w := ⟨fun _ h => h, fun b hS => rfl, fun q u hu => by
  have hne : q ≠ o' := fun e => by rw [e, hmd] at hu; cases hu
  simpa [setM, hne] using hu⟩
 have hobj : ORep w0.heap.size S (setM m o' (.slice a h c)) w (.rowA e size h (some c) (cs ++ List.replicate ((h - n) * size) .any)) (.slice a h c) := by
  rcases j3 with ⟨e1, rfl⟩ | ⟨gb, cap, cur, fz, e1, g2, g3, g4, g5, g6, g7, g8⟩
  ·cases e1
   obtain rfl : h = 0 := by omega
   exact ⟨us, by simpa using RepL.mono hgr _ _ j1, ⟨by simpa using j2, .inl ⟨rfl, rfl⟩⟩, fun k hk => by cases hk; exact ⟨_, rfl⟩⟩
  ·cases e1
   have hm1 : n * size + (h - n) * size = h * size := by rw [← Nat.add_mul]; congr 1; omega
   have hm2 : h * size ≤ cur.size := by rw [g7]; exact Nat.mul_le_mul_right _ hc
   have hcl : cur.toList.length = cur.size := Array.length_toList
   have hl2 : ((cur.toList.drop (n * size)).take ((h - n) * size)).length = (h - n) * size := by rw [List.length_take, List.length_drop]; omega
   have hu2 : cur.toList.take (h * size) = us ++ (cur.toList.drop (n * size)).take ((h - n) * size) := by
    rw [← g8, ← hm1, List.take_add]
   refine ⟨cur.toList.take (h * size), ?_, ⟨by rw [List.length_take]; omega, .inr ⟨gb, c, cur, fz, rfl, g2, g3, g4, hc, g6, g7, rfl⟩⟩, fun k hk => by cases hk; exact ⟨_, rfl⟩⟩
   rw [hu2]
   refine (RepL.mono hgr _ _ j1).append ?_
   have := RepL.anys (S := S) (m := setM m o' (.slice (some ⟨gb, 0, none⟩) h c)) (w := w) ((cur.toList.drop (n * size)).take ((h - n) * size))
   rwa [hl2] at this
 obtain ⟨f1, f2⟩ := mem_append hm (o := o) (d := o') (v := .slice a n c) (v' := .slice a h c) ho hd' (by rw [hx, k1]) (ze4 w _) (.inl (by cases a <;> rfl)) hobj
 exact ⟨S, _, by simp only [Rep]; exact ⟨by simp [setM], _, _, _, rfl⟩, f1, f2⟩
theorem za7 {t e e' : TypeId} {x : Operand} {lo hi : Option Operand} {L H : Option (IntKind × Int)} {o n k l h n' q size : Nat} {c : Option Nat} {cs : List AV} (hu : P.underlying t = some (.slice e)) (hi' : (P.info? e).map (·.size) = some k) (hL : bOK lo L 0 l) (hH : bOK hi H n h) (hlh : l ≤ h) (hh : h ≤ n)
  (hn : h - l = n') (hq : l * k = q) :
  AOp P ⟨d, .slice t x lo hi none, ty, pos, af, g⟩ (SlOps x lo hi (.row o) L H) [(o, .live (.rowA e' size n c cs))] [] (.psl o q n' k) :=
 zbt fun w0 A S m heap w ev hm hR hrd => by
  obtain ⟨h1, h2, h3⟩ := zcR (t := t) hL hH hR
  simp only [Rep] at h1
  obtain ⟨hx, _⟩ := h1
  obtain ⟨v, k1, k2, _⟩ := hm.live o _ (rd1 hrd)
  rw [hx] at k1
  subst hn
  obtain ⟨us, j1, ⟨j2, j3⟩, _⟩ := k2
  rcases j3 with ⟨rfl, rfl⟩ | ⟨b, cap, cur, fz, rfl, _, _, _, j4, _⟩
  ·have e1 : ev x = .slice none 0 0 := Option.some.inj k1
   refine ⟨.slice (if 0 = l then none else (none : Option Addr).map (·.add (l * k))) (h - l) (0 - l), by simp only [execOp, e1, Option.map_none, Sem.run_bind, zbZ hu hi' h2 h3 hlh hh, Result.andThen_ok, Sem.run_pure], ?_⟩
   simp only [Rep]
   exact ⟨_, _, rfl, by omega, .inl (by omega)⟩
  ·have e1 : ev x = .slice (some ⟨b, 0, none⟩) n cap := Option.some.inj k1
   refine ⟨.slice (if cap = l then some ⟨b, 0, none⟩ else (some (⟨b, 0, none⟩ : Addr)).map (·.add (l * k))) (h - l) (cap - l), by simp only [execOp, e1, Option.map_none, Sem.run_bind, zbZ hu hi' h2 h3 hlh (show h ≤ cap by omega), Result.andThen_ok, Sem.run_pure], ?_⟩
   simp only [Rep]
   refine ⟨_, _, rfl, by omega, ?_⟩
   by_cases h0 : h - l = 0
   ·exact .inl h0
   ·rw [if_neg (by omega)]
    exact .inr ⟨b, _, hx, by rw [e1]; rfl, by simp [Addr.add_mid, hq]⟩
theorem a_lenRA {x : Operand} {t e e' : TypeId} {o n size : Nat} {c : Option Nat} {cs : List AV} (hu : P.underlying t = some (.slice e)) :
  AOp P ⟨d, .call { callee := .builtin .len, args := #[x], argTypes := #[t] }, ty, pos, af, g⟩ [.row o] [(o, .live (.rowA e' size n c cs))] [] (.p (.v (.int .i64 n))) :=
 zbt fun w0 A S m heap w ev hm hR hrd => by
  have hx := zb2 (u := ev x) hR
  simp only [Rep] at hx
  obtain ⟨hx, _⟩ := hx
  obtain ⟨v, k1, k2, _⟩ := hm.live o _ (rd1 hrd)
  rw [hx] at k1
  obtain ⟨us, j1, ⟨j2, j3⟩, _⟩ := k2
  rcases j3 with ⟨rfl, rfl⟩ | ⟨b, cap, cur, fz, rfl, _⟩
  ·exact ⟨_, zdN hu (Option.some.inj k1) w, za5 rfl⟩
  ·exact ⟨_, zdN hu (Option.some.inj k1) w, za5 rfl⟩
theorem zg1 {x : Operand} {t e e' : TypeId} {o n size c : Nat} {cs : List AV} (hu : P.underlying t = some (.slice e)) :
  AOp P ⟨d, .call { callee := .builtin .cap, args := #[x], argTypes := #[t] }, ty, pos, af, g⟩ [.row o] [(o, .live (.rowA e' size n (some c) cs))] [] (.p (.v (.int .i64 c))) :=
 zbt fun w0 A S m heap w ev hm hR hrd => by
  have hx := zb2 (u := ev x) hR
  simp only [Rep] at hx
  obtain ⟨hx, _⟩ := hx
  obtain ⟨v, k1, k2, _⟩ := hm.live o _ (rd1 hrd)
  rw [hx] at k1
  obtain ⟨us, j1, j2, j3⟩ := k2
  obtain ⟨a, rfl⟩ := j3 c rfl
  have e1 := Option.some.inj k1
  exact ⟨goInt c, by simp [execOp, resolve, invoke, builtin, e1, Builtin.cap_, run_underlying hu], za5 rfl⟩
theorem zay {x y : Operand} {t e e' : TypeId} {k : Nat} {kk : IntKind} {i : Int} {o n size : Nat} {c : Option Nat} {cs : List AV} (hu : P.underlying t = some (.slice e)) (hi : (P.info? e).map (·.size) = some k) (h0 : 0 ≤ i) (h1 : i < n) {q : Nat} (hq : i.toNat * k = q) :
  AOp P ⟨d, .indexAddr t x y, ty, pos, af, g⟩ [.row o, .p (.v (.int kk i))] [(o, .live (.rowA e' size n c cs))] [] (.ref o q) :=
 zbt fun w0 A S m heap w ev hm hR hrd => by
  obtain ⟨hx, hy⟩ := zcn (u := ev x) (v := ev y) hR
  simp only [Rep] at hx
  obtain ⟨hx, _⟩ := hx
  obtain ⟨v, k1, k2, _⟩ := hm.live o _ (rd1 hrd)
  rw [hx] at k1
  obtain ⟨us, j1, ⟨j2, j3⟩, _⟩ := k2
  rcases j3 with ⟨rfl, h⟩ | ⟨b, cap, cur, fz, rfl, _⟩
  ·omega
  have e1 : ev x = .slice (some ⟨b, 0, none⟩) n cap := Option.some.inj k1
  refine ⟨.pointer (some ⟨b, q, none⟩), by simp [execOp, e1, zbu hy, zdO hu hi h0 h1, hq], ?_⟩
  simp only [Rep]
  exact ⟨b, _, hx, by rw [e1]; rfl, rfl⟩
theorem zbf {x : Operand} {t e : TypeId} {ds : TypeDesc} {o off size n : Nat} {c : Option Nat} {cs : List AV} {r : AV} (hu : P.underlying t = some ds) (hd : ds.isRow = false) (h : cs[off]? = some r) :
  AOp P ⟨d, .load t x, ty, pos, af, g⟩ [.ref o off] [(o, .live (.rowA e size n c cs))] [] r :=
 zbt fun w0 A S m heap w ev hm hR hrd => by
  have ho : heap o = .live (.rowA e size n c cs) := rd1 hrd
  have hx := zb2 (u := ev x) hR
  simp only [Rep] at hx
  obtain ⟨b, v0, h1, h2, h3⟩ := hx
  obtain ⟨v, k1, k2, _⟩ := hm.live o _ ho
  rw [h1] at k1; cases k1
  obtain ⟨us, j1, j3, _⟩ := k2
  obtain ⟨u, i1, i2⟩ := j1.at_ h
  have hc := zbv j3 h2 off u i1
  rw [Nat.zero_add] at hc
  exact ⟨u, by simp [execOp, h3, zd9 hu hd hc], i2⟩
theorem setR_take {α : Type} {l vs : List α} {d N : Nat} (h : d + vs.length ≤ N) : (setR l d vs).take N = setR (l.take N) d vs := by
 unfold setR
 rw [List.take_append, List.take_append, List.take_take, Nat.min_eq_right (by omega : d ≤ N)]
 by_cases hd : d ≤ l.length
 ·have e1 : (l.take d).length = d := by rw [List.length_take]; omega
  rw [List.length_append, e1, List.drop_take, List.take_take, Nat.min_eq_left (by omega), List.take_of_length_le (by omega : vs.length ≤ N - d)]
 ·have e1 : (l.take d).length = l.length := by rw [List.length_take]; omega
  have e2 : l.drop (d + vs.length) = [] := List.drop_eq_nil_of_le (by omega)
  have e3 : (l.take N).drop (d + vs.length) = [] := List.drop_eq_nil_of_le (by rw [List.length_take]; omega)
  rw [List.length_append, e1, e2, e3, List.take_of_length_le (l := vs) (by omega), List.take_nil, List.take_take, Nat.min_eq_left (by omega)]
theorem zfz {w : World} {B b : Nat} {e : TypeId} {size n d : Nat} {v : Value} {us vs : List Value} (h : zg2 w B e size v n us) (hb : blk v = some b) (hd : d + vs.length ≤ us.length) :
  ∃ cur fz, w.heap[b]? = some (.cells cur e fz) ∧ noFz fz cur.size ∧ us.length ≤ cur.size ∧ zg2 (w.setRow b (setR cur.toList d vs).toArray) B e size v n (setR us d vs) := by
 obtain ⟨h1, h2⟩ := h
 rcases h2 with ⟨rfl, _⟩ | ⟨g, cap, cur, fz, rfl, g1, g2, g3, g4, g5, g6, g7⟩
 ·simp [blk] at hb
 obtain rfl : g = b := by simpa [blk] using hb
 have hle : n * size ≤ cur.size := by rw [g6]; exact Nat.mul_le_mul_right _ g4
 have hfit : d + vs.length ≤ cur.toList.length := by simp only [Array.length_toList]; omega
 have hsz : (setR cur.toList d vs).toArray.size = cur.size := by simp only [List.size_toArray]; rw [zbh hfit]; simp
 refine ⟨cur, fz, g2, g3, by omega, by rw [zbh hd]; exact h1, .inr ⟨g, cap, _, fz, rfl, g1, setRow_heap w g _ _ e fz g2, by rw [hsz]; exact g3, g4, g5, by rw [hsz]; exact g6, ?_⟩⟩
 show (setR cur.toList d vs).take (n * size) = _
 rw [setR_take (by omega), g7]
theorem zbW {x y : Operand} {t e : TypeId} {o off k size n : Nat} {c : Option Nat} {cs es : List AV} {Y : AV} (hi : (P.info? t).map (·.size) = some k) (hY : Y.stor = true) (hl : Y.cells.length = k) (hk : off + k ≤ cs.length) (h : setR cs off Y.cells = es) :
  AOp P ⟨d, .store t x y, ty, pos, af, g⟩ [.ref o off, Y] [(o, .live (.rowA e size n c cs))] [(o, .live (.rowA e size n c es))] .any := by
 intro w0 A S m heap w ev hm hR hrd
 have ho : heap o = .live (.rowA e size n c cs) := rd1 hrd
 obtain ⟨hx, hy⟩ := zcn (u := ev x) (v := ev y) hR
 simp only [Rep] at hx
 obtain ⟨b, v0, h1, h2, h3⟩ := hx
 obtain ⟨v, k1, k2, k3⟩ := hm.live o _ ho
 rw [h1] at k1; cases k1
 obtain ⟨us, j1, j2, j3⟩ := k2
 obtain ⟨c1, c2⟩ := zb3 hy hY
 have hl1 := j1.length
 have hl2 := c1.length
 obtain ⟨cur, fz, q1, q2, q4, q3⟩ := zfz (d := off) (vs := (ev y).cells.toList) j2 h2 (by omega)
 have hrun := zcH hi q1 q2.cells (by rw [hl2, hl]) c2 (off := off) (by omega)
 have hex : (execOp ev ⟨d, .store t x y, ty, pos, af, g⟩).run P w = .ok .skip (w.setRow b (setR cur.toList off (ev y).cells.toList).toArray) := by
  simp only [execOp, h3, Sem.run_bind, hrun, Result.andThen_ok, Sem.run_pure]
 unfold Out
 rw [hex]
 have hgr : Grow S m w S m (w.setRow b (setR cur.toList off (ev y).cells.toList).toArray) := ⟨fun _ h => h, fun c hS => setRow_other w b c _ (fun e => k3 b h2 (e ▸ hS)), fun _ _ h => h⟩
 obtain ⟨f1, f2⟩ := zdu hm (ob' := .rowA e size n c es) (v := v0) (b := b) (setR cur.toList off (ev y).cells.toList).toArray (cur := cur) (t := e) (fz := fz) ho h1 h2
  ⟨_, h ▸ RepL.mono hgr _ _ (j1.setR off c1), q3, j3⟩
 exact ⟨S, m, by simp only [Rep], f1, f2⟩
def SrcQ (rds : List (Nat × Slot)) (x : AV) (m q size : Nat) (cs : List PV) : Prop :=
 ∀ (w0 : World) (A S : Nat → Prop) (mm : Nat → Option Value) (heap : Nat → Slot) (w : World) (u : Value), Mem w0 A S mm heap w → (∀ p ∈ rds, heap p.1 = p.2) → Rep S mm w x u →
  ∃ a c vs, u = .slice a m c ∧ PRepL S w cs vs ∧ vs.length = q * size ∧ (a = none → m = 0) ∧ (∀ ad, a = some ad → ∀ j v, vs[j]? = some v → w.cell? (ad.add j) = some v)
theorem srcQ {rds : List (Nat × Slot)} {x : AV} {m size : Nat} {cs : List PV} (h : Src rds x m size cs) : SrcQ rds x m m size cs := h
theorem zd4 {o off m q : Nat} {e : TypeId} {size n size' : Nat} {c : Option Nat} {cs : List AV} {ds : List PV} (hqm : q ≤ m) (hk : off + q * size ≤ cs.length) (hd : (cs.drop off).take (q * size) = ds.map AV.p) : SrcQ [(o, .live (.rowA e size' n c cs))] (.psl o off m size) m q size ds := by
 intro w0 A S mm heap w u hm hrd hr
 simp only [Rep] at hr
 obtain ⟨a, cap, rfl, h2, h3⟩ := hr
 obtain ⟨v, k1, k2, _⟩ := hm.live o _ (rd1 hrd)
 obtain ⟨us, j1, j2, _⟩ := k2
 have hl := j1.length
 have hr2 := fun b hb => zbv j2 (b := b) hb
 have hlen : ((us.drop off).take (q * size)).length = q * size := by rw [List.length_take, List.length_drop]; omega
 have hrep : RepL S mm w (ds.map AV.p) ((us.drop off).take (q * size)) := by rw [← hd]; exact (j1.drop off).take _
 refine ⟨a, cap, (us.drop off).take (q * size), rfl, zbC hrep, hlen, fun ha => ?_, fun ad ha j x hj => ?_⟩
 ·rcases h3 with h3 | ⟨b, v0, _, _, h6⟩
  ·exact h3
  ·rw [ha] at h6; cases h6
 ·rcases h3 with h3 | ⟨b, v0, h4, h5, h6⟩
  ·subst h3
   obtain rfl : q = 0 := by omega
   have : (us.drop off).take (0 * size) = [] := List.eq_nil_of_length_eq_zero (by rw [hlen]; simp)
   rw [this] at hj; simp at hj
  ·rw [ha] at h6; cases h6
   rw [k1] at h4; cases h4
   rw [Addr.add_mid]; exact zdp (hr2 b h5) j x hj
theorem zcG {s x : Operand} {t t2 e : TypeId} {o off n1 m q n size : Nat} {c : Option Nat} {cs es : List AV} {ys : List PV} {X : AV} {rds : List (Nat × Slot)} (hu : P.underlying t = some (.slice e)) (hi : (P.info? e).map (·.size) = some size) (hs : SrcQ rds X m q size ys) (hq : min n1 m = q) (h1 : 1 ≤ q)
  (hk : off + q * size ≤ cs.length) (h : setR cs off (ys.map AV.p) = es) :
  AOp P ⟨d, .call { callee := .builtin .copy, args := #[s, x], argTypes := #[t, t2] }, ty, pos, af, g⟩ [.psl o off n1 size, X] ((o, .live (.rowA e size n c cs)) :: rds) [(o, .live (.rowA e size n c es))] (.p (.v (.int .i64 q))) := by
 intro w0 A S mm heap w ev hm hR hrd
 have ho : heap o = .live (.rowA e size n c cs) := hrd (o, _) (by simp)
 obtain ⟨hx, hy⟩ := zcn (u := ev s) (v := ev x) hR
 obtain ⟨a, c', vs, e1, e2, e3, e4, e5⟩ := hs w0 A S mm heap w _ hm (fun p hp => hrd p (by simp [hp])) hy
 simp only [Rep] at hx
 obtain ⟨a1, cap1, d1, d2, d3⟩ := hx
 obtain ⟨b, v0, d4, d5, d6⟩ : ∃ b v0, mm o = some v0 ∧ blk v0 = some b ∧ a1 = some ⟨b, off, none⟩ := by
  rcases d3 with d3 | d3
  ·omega
  ·exact d3
 subst d6
 obtain ⟨v, k1, k2, k3⟩ := hm.live o _ ho
 rw [d4] at k1; cases k1
 obtain ⟨us, j1, j2, j3⟩ := k2
 have hl1 := j1.length
 obtain ⟨ad, rfl⟩ : ∃ ad, a = some ad := by
  cases a with
  | none => exact absurd (e4 rfl) (by omega)
  | some ad => exact ⟨ad, rfl⟩
 obtain ⟨cur, fz, q1, q2, q4, q3⟩ := zfz (d := off) (vs := vs) j2 d5 (by omega)
 have hl := run_loadCells_list (P := P) w ad vs (e5 ad rfl)
 have hst := zbm P b off e fz vs 0 cur w q1 q2.cells (by omega) e2.one
 have hex : (execOp ev ⟨d, .call { callee := .builtin .copy, args := #[s, x], argTypes := #[t, t2] }, ty, pos, af, g⟩).run P w = .ok (.value (.int .i64 q)) (w.setRow b (setR cur.toList off vs).toArray) := by
  cases hq' : P.info? e with
  | none => simp [hq'] at hi
  | some i =>
   have hi' : i.size = size := by simpa [hq'] using hi
   have hmin : Nat.min m n1 = q := by rw [← hq]; exact Nat.min_comm _ _
   simp only [Nat.add_zero] at hst
   simp [execOp, resolve, invoke, builtin, d1, e1, Builtin.copy_, run_underlying hu, Builtin.lenOf, Builtin.firstCells, sizeOf, typeInfo, hq', hi', hmin, ← e3, hl, hst, setR, goInt]
 unfold Out
 rw [hex]
 have hgr : Grow S mm w S mm (w.setRow b (setR cur.toList off vs).toArray) := ⟨fun _ h => h, fun c hS => setRow_other w b c _ (fun e => k3 b d5 (e ▸ hS)), fun _ _ h => h⟩
 obtain ⟨f1, f2⟩ := zdu hm (ob' := .rowA e size n c es) (v := v0) (b := b) (setR cur.toList off vs).toArray (cur := cur) (t := e) (fz := fz) ho d4 d5
  ⟨_, h ▸ RepL.mono hgr _ _ (j1.setR off e2.repL), q3, j3⟩
 exact ⟨S, mm, za5 rfl, f1, f2⟩
end
end Go.Proofs.YtkdfdcodkeclmaaGreatDoor
