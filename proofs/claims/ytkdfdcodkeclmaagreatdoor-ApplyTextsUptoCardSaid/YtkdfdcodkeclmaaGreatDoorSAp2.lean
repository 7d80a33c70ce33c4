/- apply.global and apply.one, over data: a configuration of one's own, whose nets are shared. -/
import Derived.Test.YtkdfdcodkeclmaaGreatDoorSAp1
namespace Go.Proofs.YtkdfdcodkeclmaaGreatDoor
open Tryz
open Go.RowKit Go.Sort
set_option linter.unusedVariables false
set_option linter.unusedSimpArgs false
set_option maxRecDepth 100000
theorem zgf {st : St} (t o : Nat) {ty : TypeId} {xs : List AV} {cs : List PV} (ht : st.tmps t = .ref o 0) (h : st.heap o = .live (.box ty xs)) (ha : allP xs = some cs) :
  ReO st ⟨fun k => bif Nat.beq k t then .ptr cs else st.tmps k, updL st.heap [(o, .dead)]⟩ := by
 rintro w0 A nt a w ⟨⟨S, m, hm, hj, hr⟩, hsz, hd⟩
 obtain ⟨v, h1, h2, h3⟩ := hm.live o _ h
 obtain ⟨b, us, rfl, g1, g2, g3, g4⟩ := h2
 rw [zgY ha] at g2
 have g : Grow S m w (fun x => S x ∨ x = b) m w := ⟨fun _ h => .inl h, fun _ _ => rfl, fun _ _ h => h⟩
 have hlt : b < w.heap.size := (Array.getElem?_eq_some_iff.1 g4).1
 have hm1 := zgH hm o
 refine ⟨⟨fun x => S x ∨ x = b, m, ⟨hm.bel, ?_, ?_, hm1.un, fun o' ob ho => ?_, hm1.inj, hm.gl⟩, A.up _ _ _ _ _ _ g hj, fun k => ?_⟩, hsz, hd⟩
 ·rintro x (hx | rfl)
  ·exact hm.sA x hx
  ·exact .inr g1
 ·rintro x (hx | rfl)
  ·exact hm.sW x hx
  ·exact hlt
 ·obtain ⟨u, j1, j2, j3⟩ := hm1.live o' ob ho
  have hoo : o' ≠ o ∧ st.heap o' = .live ob := by
   by_cases e : o' = o
   ·subst e; simp [updL] at ho
   ·simp only [updL, nbeq e, cond_false] at ho; exact ⟨e, ho⟩
  refine ⟨u, j1, j2.mono g fun _ _ => rfl, ?_⟩
  rintro x hx (hS | rfl)
  ·exact j3 x hx hS
  ·exact hoo.1 (hm.inj _ _ _ _ _ _ _ hoo.2 h j1 h1 hx rfl)
 ·by_cases e : k = t
  ·subst e
   have := hr k
   rw [ht] at this
   simp only [Rep] at this
   obtain ⟨b', v0, i1, i2, i3⟩ := this
   rw [h1] at i1; cases i1
   obtain rfl : b = b' := by simpa [blk] using i2
   simp only [Nat.beq_refl, cond_true, Rep]
   exact ⟨b, 0, us, i3, .inr rfl, PRepL.mono g.s g.w _ _ (zbC g2), zb4 g4⟩
  ·simp only [nbeq e, cond_false]
   exact Rep.mono g _ _ (hr k)
theorem zf3 {P : Program} {o : Oper} {xs ys : List AV} {rds wrs : List (Nat × Slot)} {r : AV} (hv : ∀ (S : Nat → Prop) (m : Nat → Option Value) (w : World) (us : List Value), RepL S m w xs us → RepL S m w ys us) (h : AOp P o ys rds wrs r) : AOp P o xs rds wrs r :=
 fun w0 A S m heap w ev hm hR hrd => h w0 A S m heap w ev hm (hv S m w _ hR) hrd
theorem nil_sl (x : AV) (z : Nat) (S : Nat → Prop) (m : Nat → Option Value) (w : World) (us : List Value) (h : RepL S m w [x, .p (.v (.slice none 0 0))] us) : RepL S m w [x, .p (.sl 0 z [])] us := by
 simp only [RepL, Rep, PRep, PRepL] at h ⊢
 obtain ⟨u, _, rfl, h1, u2, _, rfl, ⟨rfl, _⟩, rfl⟩ := h
 exact ⟨u, _, rfl, h1, _, _, rfl, ⟨none, 0, [], rfl, Nat.le_refl _, by simp, rfl, by simp⟩, rfl⟩
theorem ze0 {l : List PE} {j : Nat} (hj : j < l.length) (q : Nat) (x : PV) (p' : PE) (h : p'.pv = setR l[j].pv q [x]) (hq : q + 1 ≤ 5) : setR (l.flatMap PE.pv) (j * 5 + q) [x] = (l.set j p').flatMap PE.pv := by
 have h1 : l = l.take j ++ l[j] :: l.drop (j + 1) := by rw [List.getElem_cons_drop, List.take_append_drop]
 have h2 : l.set j p' = l.take j ++ p' :: l.drop (j + 1) := by rw [List.set_eq_take_append_cons_drop, if_pos hj]
 have h3 : ((l.take j).flatMap PE.pv).length = j * 5 := by rw [zat (f := PE.pv) (k := 5) (fun _ => rfl), List.length_take, Nat.min_eq_left (by omega)]
 have h4 : (l[j].pv).length = 5 := rfl
 rw [h2]
 conv => lhs; rw [h1]
 rw [List.flatMap_append, List.flatMap_append, List.flatMap_cons, List.flatMap_cons, h, ← h3]
 generalize (l.take j).flatMap PE.pv = A
 generalize (l.drop (j + 1)).flatMap PE.pv = D
 generalize l[j].pv = X at *
 unfold setR
 rw [List.take_append, List.take_of_length_le (by omega : A.length ≤ A.length + q), Nat.add_sub_cancel_left, List.take_append_of_le_length (by omega)]
 rw [List.drop_append, List.drop_eq_nil_of_le (by omega : A.length ≤ A.length + q + [x].length), List.nil_append, show A.length + q + [x].length - A.length = q + [x].length by omega, List.drop_append_of_le_length (by simp; omega)]
 simp [List.append_assoc]
theorem zfP (k : Int) (t : ByteArray) (n a b : Int) (h1 : k ≠ 1) (h2 : k ≠ 2) (h3 : k ≠ 3) : FnO prog 49 [.ref 0 0, .agg [.p (.v (.int .i64 k)), .p (.v (.string t)), .p (.v (.int .i64 n)), .p (.v (.int .u32 a)), .p (.v (.int .i64 b))]] [(3, .un)] [(3, .live (.box 29 [.p (.v (.int .i64 k)), .p (.v (.string t)), .p (.v (.int .i64 n)), .p (.v (.int .u32 a)), .p (.v (.int .i64 b))]))] (.tup [.p (.v (.bool false)), .p (.v (.int .i64 0))]) := by
 refine fnIO fun w0 A heap => ?_
 refine G [15] ?_
 refine zaa (zaA (c := false) (by simp [h1])) rfl rfl ?_
 refine G [5] ?_
 refine zaa (zaA (c := false) (by simp [h2])) rfl rfl ?_
 refine G [5] ?_
 refine zaa (zaA (c := false) (by simp [h3])) rfl rfl ?_
 refine G [9, 9, 0] ?_
 refine ⟨(by first | exact .inl rfl | exact .inr rfl), ⟨_, (.tmp _ _ _ _ rfl (.tmp _ _ _ _ rfl .nil)), ?_⟩, ?_, ?_⟩
 ·exact rfl
 ·(repeat (first | exact trivial | refine ⟨rfl, ?_⟩))
 ·(intro o ho; simp only [List.any_cons, List.any_nil, Bool.or_false, Bool.or_eq_false_iff] at ho; simp [St.put, St.upd, updL, zaR, ho])
theorem gl1a_s (key : ByteArray) (port : Int) (l : List PE) (ok : CF.OK ⟨key, port, l⟩) (t : ByteArray) (n a b : Int) (h : peN t l < l.length) : FnO prog 49 [.ref 0 0, .agg [.p (.v (.int .i64 1)), .p (.v (.string t)), .p (.v (.int .i64 n)), .p (.v (.int .u32 a)), .p (.v (.int .i64 b))]] [(0, .live (.box 24 [.p (.v (.string key)), .p (.v (.int .i64 port)), .row 1])), (1, .live (.row 60 5 l.length (l.flatMap PE.pv))), (3, .un)] [(0, .live (.box 24 [.p (.v (.string key)), .p (.v (.int .i64 port)), .row 1])), (1, .live (.row 60 5 l.length (l.flatMap PE.pv))), (3, .live (.box 29 [.p (.v (.int .i64 1)), .p (.v (.string t)), .p (.v (.int .i64 n)), .p (.v (.int .u32 a)), .p (.v (.int .i64 b))]))] (.tup [.p (.v (.bool true)), .p (.v (.int .i64 14))]) := by
 have hF := ze6 ⟨key, port, l⟩ ok t
 change Fn prog _ [.agg (cfC key port l.length (l.flatMap PE.pv)), _] (if peN t l < l.length then _ else _) _ at hF
 rw [if_pos h] at hF
 generalize l.flatMap PE.pv = L at *
 refine fnIO fun w0 A heap => ?_
 refine G [15, 1, 11] ?_
 refine cV hF ?_
 refine G [9, 1, 8, 9, 0] ?_
 refine ⟨(by first | exact .inl rfl | exact .inr rfl), ⟨_, (.tmp _ _ _ _ rfl (.tmp _ _ _ _ rfl .nil)), ?_⟩, ?_, ?_⟩
 ·exact rfl
 ·(repeat (first | exact trivial | refine ⟨rfl, ?_⟩))
 ·(intro o ho; simp only [List.any_cons, List.any_nil, Bool.or_false, Bool.or_eq_false_iff] at ho; simp [St.put, St.upd, updL, zaR, ho])
theorem gl1b_s (key : ByteArray) (port : Int) (l : List PE) (ok : CF.OK ⟨key, port, l⟩) (t : ByteArray) (n a b : Int) (h : ¬ peN t l < l.length) : FnO prog 49 [.ref 0 0, .agg [.p (.v (.int .i64 1)), .p (.v (.string t)), .p (.v (.int .i64 n)), .p (.v (.int .u32 a)), .p (.v (.int .i64 b))]] [(0, .live (.box 24 [.p (.v (.string key)), .p (.v (.int .i64 port)), .row 1])), (1, .live (.row 60 5 l.length (l.flatMap PE.pv))), (3, .un)] [(0, .live (.box 24 [.p (.v (.string t)), .p (.v (.int .i64 port)), .row 1])), (1, .live (.row 60 5 l.length (l.flatMap PE.pv))), (3, .live (.box 29 [.p (.v (.int .i64 1)), .p (.v (.string t)), .p (.v (.int .i64 n)), .p (.v (.int .u32 a)), .p (.v (.int .i64 b))]))] (.tup [.p (.v (.bool true)), .p (.v (.int .i64 0))]) := by
 have hF := ze6 ⟨key, port, l⟩ ok t
 change Fn prog _ [.agg (cfC key port l.length (l.flatMap PE.pv)), _] (if peN t l < l.length then _ else _) _ at hF
 rw [if_neg h] at hF
 generalize l.flatMap PE.pv = L at *
 refine fnIO fun w0 A heap => ?_
 refine G [15, 1, 11] ?_
 refine cV hF ?_
 refine G [19] ?_
 refine zac (za9 (Y := .p _) sz9 rfl (by first | exact Nat.eq_of_beq_eq_true rfl | (simp only [AV.cells, List.length_map]; first | assumption | omega)) (by first | exact Nat.le_of_ble_eq_true rfl | omega | (simp only [AV.cells, List.length_map]; omega)) (by first | (simp only [setR, AV.cells, List.take_succ_cons, List.take_zero, List.drop_succ_cons, List.drop_zero, List.drop_nil, List.take_nil, List.nil_append, List.cons_append, List.append_nil, List.length_cons, List.length_nil, Nat.reduceAdd, Nat.zero_add, Nat.add_zero]; rfl) | rfl)) rfl rfl ⟨rfl, trivial⟩ ?_
 refine G [7] ?_
 refine ⟨(by first | exact .inl rfl | exact .inr rfl), ⟨_, (.tmp _ _ _ _ rfl (.tmp _ _ _ _ rfl .nil)), ?_⟩, ?_, ?_⟩
 ·exact rfl
 ·(repeat (first | exact trivial | refine ⟨rfl, ?_⟩))
 ·(intro o ho; simp only [List.any_cons, List.any_nil, Bool.or_false, Bool.or_eq_false_iff] at ho; simp [St.put, St.upd, updL, zaR, ho])
theorem gl2_s (key : ByteArray) (port : Int) (l : List PE) (ok : CF.OK ⟨key, port, l⟩) (t : ByteArray) (n a b : Int) : FnO prog 49 [.ref 0 0, .agg [.p (.v (.int .i64 2)), .p (.v (.string t)), .p (.v (.int .i64 n)), .p (.v (.int .u32 a)), .p (.v (.int .i64 b))]] [(0, .live (.box 24 [.p (.v (.string key)), .p (.v (.int .i64 port)), .row 1])), (1, .live (.row 60 5 l.length (l.flatMap PE.pv))), (3, .un)] [(0, .live (.box 24 [.p (.v (.string key)), .p (.v (.int .i64 n)), .row 1])), (1, .live (.row 60 5 l.length (l.flatMap PE.pv))), (3, .live (.box 29 [.p (.v (.int .i64 2)), .p (.v (.string t)), .p (.v (.int .i64 n)), .p (.v (.int .u32 a)), .p (.v (.int .i64 b))]))] (.tup [.p (.v (.bool true)), .p (.v (.int .i64 0))]) := by
 clear ok
 generalize l.flatMap PE.pv = L at *
 refine fnIO fun w0 A heap => ?_
 refine G [21, 1, 3] ?_
 skip
 refine G [6] ?_
 refine zac (za9 (Y := .p _) sz3 rfl (by first | exact Nat.eq_of_beq_eq_true rfl | (simp only [AV.cells, List.length_map]; first | assumption | omega)) (by first | exact Nat.le_of_ble_eq_true rfl | omega | (simp only [AV.cells, List.length_map]; omega)) (by first | (simp only [setR, AV.cells, List.take_succ_cons, List.take_zero, List.drop_succ_cons, List.drop_zero, List.drop_nil, List.take_nil, List.nil_append, List.cons_append, List.append_nil, List.length_cons, List.length_nil, Nat.reduceAdd, Nat.zero_add, Nat.add_zero]; rfl) | rfl)) rfl rfl ⟨rfl, trivial⟩ ?_
 refine G [7] ?_
 refine ⟨(by first | exact .inl rfl | exact .inr rfl), ⟨_, (.tmp _ _ _ _ rfl (.tmp _ _ _ _ rfl .nil)), ?_⟩, ?_, ?_⟩
 ·exact rfl
 ·(repeat (first | exact trivial | refine ⟨rfl, ?_⟩))
 ·(intro o ho; simp only [List.any_cons, List.any_nil, Bool.or_false, Bool.or_eq_false_iff] at ho; simp [St.put, St.upd, updL, zaR, ho])
theorem gl3_s (key : ByteArray) (port : Int) (l : List PE) (ok : CF.OK ⟨key, port, l⟩) (t : ByteArray) (n a b : Int) : FnO prog 49 [.ref 0 0, .agg [.p (.v (.int .i64 3)), .p (.v (.string t)), .p (.v (.int .i64 n)), .p (.v (.int .u32 a)), .p (.v (.int .i64 b))]] [(0, .live (.box 24 [.p (.v (.string key)), .p (.v (.int .i64 port)), .row 1])), (1, .live (.row 60 5 l.length (l.flatMap PE.pv))), (3, .un)] [(0, .live (.box 24 [.p (.v (.string key)), .p (.v (.int .i64 port)), .p (.sl 0 5 [])])), (1, .live (.row 60 5 l.length (l.flatMap PE.pv))), (3, .live (.box 29 [.p (.v (.int .i64 3)), .p (.v (.string t)), .p (.v (.int .i64 n)), .p (.v (.int .u32 a)), .p (.v (.int .i64 b))]))] (.tup [.p (.v (.bool true)), .p (.v (.int .i64 0))]) := by
 clear ok
 generalize l.flatMap PE.pv = L at *
 refine fnIO fun w0 A heap => ?_
 refine G [27, 1, 3] ?_
 skip
 refine G [4] ?_
 refine zac (zf3 (nil_sl (.ref 0 (0 + 2)) 5) (za9 (es := [.p (.v (.string key)), .p (.v (.int .i64 port)), .p (.sl 0 5 [])]) sz22 rfl rfl (Nat.le_of_ble_eq_true rfl) rfl)) rfl rfl ⟨rfl, trivial⟩ ?_
 refine G [7] ?_
 refine ⟨(by first | exact .inl rfl | exact .inr rfl), ⟨_, (.tmp _ _ _ _ rfl (.tmp _ _ _ _ rfl .nil)), ?_⟩, ?_, ?_⟩
 ·exact rfl
 ·(repeat (first | exact trivial | refine ⟨rfl, ?_⟩))
 ·(intro o ho; simp only [List.any_cons, List.any_nil, Bool.or_false, Bool.or_eq_false_iff] at ho; simp [St.put, St.upd, updL, zaR, ho])
set_option maxHeartbeats 4000000 in
theorem one1a_s (key : ByteArray) (port : Int) (l : List PE) (ok : CF.OK ⟨key, port, l⟩) (pt : ByteArray) (t : ByteArray) (n a b : Int) (h : peN t l < l.length) : FnO prog 22 [.ref 0 0, .p (.v (.string pt)), .agg [.p (.v (.int .i64 1)), .p (.v (.string t)), .p (.v (.int .i64 n)), .p (.v (.int .u32 a)), .p (.v (.int .i64 b))]] [(0, .live (.box 24 [.p (.v (.string key)), .p (.v (.int .i64 port)), .row 1])), (1, .live (.row 60 5 l.length (l.flatMap PE.pv))), (3, .un), (4, .un), (5, .un)] [(0, .live (.box 24 [.p (.v (.string key)), .p (.v (.int .i64 port)), .row 1])), (1, .live (.row 60 5 l.length (l.flatMap PE.pv))), (3, .live (.box 29 [.p (.v (.int .i64 1)), .p (.v (.string t)), .p (.v (.int .i64 n)), .p (.v (.int .u32 a)), .p (.v (.int .i64 b))])), (4, .live (.box 9 [.p (.v (.string pt))])), (5, .live (.box 29 [.p (.v (.int .i64 1)), .p (.v (.string t)), .p (.v (.int .i64 n)), .p (.v (.int .u32 a)), .p (.v (.int .i64 b))]))] (.tup [.p (.v (.string ⟨#[]⟩)), .p (.v (.int .i64 14))]) := by
 have hG := gl1a_s key port l ok t n a b h
 generalize l.flatMap PE.pv = L at *
 refine fnIO fun w0 A heap => ?_
 refine G [12] ?_
 refine zaB (hG) rfl rfl F49 rfl rfl (by repeat (first | exact trivial | refine ⟨rfl, ?_⟩)) rfl ?_
 refine G [18, 9, 0] ?_
 refine ⟨(by first | exact .inl rfl | exact .inr rfl), ⟨_, (.tmp _ _ _ _ rfl (.tmp _ _ _ _ rfl .nil)), ?_⟩, ?_, ?_⟩
 ·exact rfl
 ·(repeat (first | exact trivial | refine ⟨rfl, ?_⟩))
 ·(intro o ho; simp only [List.any_cons, List.any_nil, Bool.or_false, Bool.or_eq_false_iff] at ho; simp [St.put, St.upd, updL, zaR, ho])
set_option maxHeartbeats 4000000 in
theorem one1b_s (key : ByteArray) (port : Int) (l : List PE) (ok : CF.OK ⟨key, port, l⟩) (pt : ByteArray) (t : ByteArray) (n a b : Int) (h : ¬ peN t l < l.length) : FnO prog 22 [.ref 0 0, .p (.v (.string pt)), .agg [.p (.v (.int .i64 1)), .p (.v (.string t)), .p (.v (.int .i64 n)), .p (.v (.int .u32 a)), .p (.v (.int .i64 b))]] [(0, .live (.box 24 [.p (.v (.string key)), .p (.v (.int .i64 port)), .row 1])), (1, .live (.row 60 5 l.length (l.flatMap PE.pv))), (3, .un), (4, .un), (5, .un)] [(0, .live (.box 24 [.p (.v (.string t)), .p (.v (.int .i64 port)), .row 1])), (1, .live (.row 60 5 l.length (l.flatMap PE.pv))), (3, .live (.box 29 [.p (.v (.int .i64 1)), .p (.v (.string t)), .p (.v (.int .i64 n)), .p (.v (.int .u32 a)), .p (.v (.int .i64 b))])), (4, .live (.box 9 [.p (.v (.string pt))])), (5, .live (.box 29 [.p (.v (.int .i64 1)), .p (.v (.string t)), .p (.v (.int .i64 n)), .p (.v (.int .u32 a)), .p (.v (.int .i64 b))]))] (.tup [.p (.v (.string ⟨#[]⟩)), .p (.v (.int .i64 0))]) := by
 have hG := gl1b_s key port l ok t n a b h
 generalize l.flatMap PE.pv = L at *
 refine fnIO fun w0 A heap => ?_
 refine G [12] ?_
 refine zaB (hG) rfl rfl F49 rfl rfl (by repeat (first | exact trivial | refine ⟨rfl, ?_⟩)) rfl ?_
 refine G [18, 9, 0] ?_
 refine ⟨(by first | exact .inl rfl | exact .inr rfl), ⟨_, (.tmp _ _ _ _ rfl (.tmp _ _ _ _ rfl .nil)), ?_⟩, ?_, ?_⟩
 ·exact rfl
 ·(repeat (first | exact trivial | refine ⟨rfl, ?_⟩))
 ·(intro o ho; simp only [List.any_cons, List.any_nil, Bool.or_false, Bool.or_eq_false_iff] at ho; simp [St.put, St.upd, updL, zaR, ho])
set_option maxHeartbeats 4000000 in
theorem one2_s (key : ByteArray) (port : Int) (l : List PE) (ok : CF.OK ⟨key, port, l⟩) (pt : ByteArray) (t : ByteArray) (n a b : Int) : FnO prog 22 [.ref 0 0, .p (.v (.string pt)), .agg [.p (.v (.int .i64 2)), .p (.v (.string t)), .p (.v (.int .i64 n)), .p (.v (.int .u32 a)), .p (.v (.int .i64 b))]] [(0, .live (.box 24 [.p (.v (.string key)), .p (.v (.int .i64 port)), .row 1])), (1, .live (.row 60 5 l.length (l.flatMap PE.pv))), (3, .un), (4, .un), (5, .un)] [(0, .live (.box 24 [.p (.v (.string key)), .p (.v (.int .i64 n)), .row 1])), (1, .live (.row 60 5 l.length (l.flatMap PE.pv))), (3, .live (.box 29 [.p (.v (.int .i64 2)), .p (.v (.string t)), .p (.v (.int .i64 n)), .p (.v (.int .u32 a)), .p (.v (.int .i64 b))])), (4, .live (.box 9 [.p (.v (.string pt))])), (5, .live (.box 29 [.p (.v (.int .i64 2)), .p (.v (.string t)), .p (.v (.int .i64 n)), .p (.v (.int .u32 a)), .p (.v (.int .i64 b))]))] (.tup [.p (.v (.string ⟨#[]⟩)), .p (.v (.int .i64 0))]) := by
 have hG := gl2_s key port l ok t n a b
 generalize l.flatMap PE.pv = L at *
 refine fnIO fun w0 A heap => ?_
 refine G [12] ?_
 refine zaB (hG) rfl rfl F49 rfl rfl (by repeat (first | exact trivial | refine ⟨rfl, ?_⟩)) rfl ?_
 refine G [18, 9, 0] ?_
 refine ⟨(by first | exact .inl rfl | exact .inr rfl), ⟨_, (.tmp _ _ _ _ rfl (.tmp _ _ _ _ rfl .nil)), ?_⟩, ?_, ?_⟩
 ·exact rfl
 ·(repeat (first | exact trivial | refine ⟨rfl, ?_⟩))
 ·(intro o ho; simp only [List.any_cons, List.any_nil, Bool.or_false, Bool.or_eq_false_iff] at ho; simp [St.put, St.upd, updL, zaR, ho])
set_option maxHeartbeats 4000000 in
theorem one3_s (key : ByteArray) (port : Int) (l : List PE) (ok : CF.OK ⟨key, port, l⟩) (pt : ByteArray) (t : ByteArray) (n a b : Int) : FnO prog 22 [.ref 0 0, .p (.v (.string pt)), .agg [.p (.v (.int .i64 3)), .p (.v (.string t)), .p (.v (.int .i64 n)), .p (.v (.int .u32 a)), .p (.v (.int .i64 b))]] [(0, .live (.box 24 [.p (.v (.string key)), .p (.v (.int .i64 port)), .row 1])), (1, .live (.row 60 5 l.length (l.flatMap PE.pv))), (3, .un), (4, .un), (5, .un)] [(0, .live (.box 24 [.p (.v (.string key)), .p (.v (.int .i64 port)), .p (.sl 0 5 [])])), (1, .live (.row 60 5 l.length (l.flatMap PE.pv))), (3, .live (.box 29 [.p (.v (.int .i64 3)), .p (.v (.string t)), .p (.v (.int .i64 n)), .p (.v (.int .u32 a)), .p (.v (.int .i64 b))])), (4, .live (.box 9 [.p (.v (.string pt))])), (5, .live (.box 29 [.p (.v (.int .i64 3)), .p (.v (.string t)), .p (.v (.int .i64 n)), .p (.v (.int .u32 a)), .p (.v (.int .i64 b))]))] (.tup [.p (.v (.string ⟨#[]⟩)), .p (.v (.int .i64 0))]) := by
 have hG := gl3_s key port l ok t n a b
 generalize l.flatMap PE.pv = L at *
 refine fnIO fun w0 A heap => ?_
 refine G [12] ?_
 refine zaB (hG) rfl rfl F49 rfl rfl (by repeat (first | exact trivial | refine ⟨rfl, ?_⟩)) rfl ?_
 refine G [18, 9, 0] ?_
 refine ⟨(by first | exact .inl rfl | exact .inr rfl), ⟨_, (.tmp _ _ _ _ rfl (.tmp _ _ _ _ rfl .nil)), ?_⟩, ?_, ?_⟩
 ·exact rfl
 ·(repeat (first | exact trivial | refine ⟨rfl, ?_⟩))
 ·(intro o ho; simp only [List.any_cons, List.any_nil, Bool.or_false, Bool.or_eq_false_iff] at ho; simp [St.put, St.upd, updL, zaR, ho])
set_option maxHeartbeats 4000000 in
theorem one4own_s (key : ByteArray) (port : Int) (l : List PE) (ok : CF.OK ⟨key, port, l⟩) (pt : ByteArray) (t : ByteArray) (n a b : Int) (h : t = key) : FnO prog 22 [.ref 0 0, .p (.v (.string pt)), .agg [.p (.v (.int .i64 4)), .p (.v (.string t)), .p (.v (.int .i64 n)), .p (.v (.int .u32 a)), .p (.v (.int .i64 b))]] [(0, .live (.box 24 [.p (.v (.string key)), .p (.v (.int .i64 port)), .row 1])), (1, .live (.row 60 5 l.length (l.flatMap PE.pv))), (3, .un), (4, .un), (5, .un)] [(0, .live (.box 24 [.p (.v (.string key)), .p (.v (.int .i64 port)), .row 1])), (1, .live (.row 60 5 l.length (l.flatMap PE.pv))), (3, .live (.box 29 [.p (.v (.int .i64 4)), .p (.v (.string t)), .p (.v (.int .i64 n)), .p (.v (.int .u32 a)), .p (.v (.int .i64 b))])), (4, .live (.box 9 [.p (.v (.string pt))])), (5, .live (.box 29 [.p (.v (.int .i64 4)), .p (.v (.string t)), .p (.v (.int .i64 n)), .p (.v (.int .u32 a)), .p (.v (.int .i64 b))]))] (.tup [.p (.v (.string t)), .p (.v (.int .i64 14))]) := by
 subst h
 have hG := zfP 4 t n a b (by decide) (by decide) (by decide)
 have hP := pickOwn_s t port l ok
 generalize l.flatMap PE.pv = L at *
 refine fnIO fun w0 A heap => ?_
 refine G [12] ?_
 refine zaB (hG) rfl rfl F49 rfl rfl (by repeat (first | exact trivial | refine ⟨rfl, ?_⟩)) rfl ?_
 refine G [17] ?_
 (first | refine zaa zbp rfl rfl ?_ | refine zaa zaY rfl rfl ?_)
 refine G [9] ?_
 refine zaB (hP) rfl rfl func50 rfl rfl (by repeat (first | exact trivial | refine ⟨rfl, ?_⟩)) rfl ?_
 refine G [4, 9, 0] ?_
 refine ⟨(by first | exact .inl rfl | exact .inr rfl), ⟨_, (.tmp _ _ _ _ rfl (.tmp _ _ _ _ rfl .nil)), ?_⟩, ?_, ?_⟩
 ·exact rfl
 ·(repeat (first | exact trivial | refine ⟨rfl, ?_⟩))
 ·(intro o ho; simp only [List.any_cons, List.any_nil, Bool.or_false, Bool.or_eq_false_iff] at ho; simp [St.put, St.upd, updL, zaR, ho])
set_option maxHeartbeats 4000000 in
theorem one4old_s (key : ByteArray) (port : Int) (l : List PE) (ok : CF.OK ⟨key, port, l⟩) (pt : ByteArray) (t : ByteArray) (n a b : Int) (h0 : t ≠ key) (h : peN t l < l.length) : FnO prog 22 [.ref 0 0, .p (.v (.string pt)), .agg [.p (.v (.int .i64 4)), .p (.v (.string t)), .p (.v (.int .i64 n)), .p (.v (.int .u32 a)), .p (.v (.int .i64 b))]] [(0, .live (.box 24 [.p (.v (.string key)), .p (.v (.int .i64 port)), .row 1])), (1, .live (.row 60 5 l.length (l.flatMap PE.pv))), (3, .un), (4, .un), (5, .un)] [(0, .live (.box 24 [.p (.v (.string key)), .p (.v (.int .i64 port)), .row 1])), (1, .live (.row 60 5 l.length (l.flatMap PE.pv))), (3, .live (.box 29 [.p (.v (.int .i64 4)), .p (.v (.string t)), .p (.v (.int .i64 n)), .p (.v (.int .u32 a)), .p (.v (.int .i64 b))])), (4, .live (.box 9 [.p (.v (.string pt))])), (5, .live (.box 29 [.p (.v (.int .i64 4)), .p (.v (.string t)), .p (.v (.int .i64 n)), .p (.v (.int .u32 a)), .p (.v (.int .i64 b))]))] (.tup [.p (.v (.string t)), .p (.v (.int .i64 0))]) := by
 have hG := zfP 4 t n a b (by decide) (by decide) (by decide)
 have hP := pickOld_s key port l ok t h0 h
 generalize l.flatMap PE.pv = L at *
 refine fnIO fun w0 A heap => ?_
 refine G [12] ?_
 refine zaB (hG) rfl rfl F49 rfl rfl (by repeat (first | exact trivial | refine ⟨rfl, ?_⟩)) rfl ?_
 refine G [17, 1, 9] ?_
 refine zaB (hP) rfl rfl func50 rfl rfl (by repeat (first | exact trivial | refine ⟨rfl, ?_⟩)) rfl ?_
 refine G [4, 9, 0] ?_
 refine ⟨(by first | exact .inl rfl | exact .inr rfl), ⟨_, (.tmp _ _ _ _ rfl (.tmp _ _ _ _ rfl .nil)), ?_⟩, ?_, ?_⟩
 ·exact rfl
 ·(repeat (first | exact trivial | refine ⟨rfl, ?_⟩))
 ·(intro o ho; simp only [List.any_cons, List.any_nil, Bool.or_false, Bool.or_eq_false_iff] at ho; simp [St.put, St.upd, updL, zaR, ho])
set_option maxHeartbeats 4000000 in
theorem one4full_s (key : ByteArray) (port : Int) (l : List PE) (ok : CF.OK ⟨key, port, l⟩) (pt : ByteArray) (t : ByteArray) (n a b : Int) (h0 : t ≠ key) (h : ¬ peN t l < l.length) (h2 : l.length = 6) : FnO prog 22 [.ref 0 0, .p (.v (.string pt)), .agg [.p (.v (.int .i64 4)), .p (.v (.string t)), .p (.v (.int .i64 n)), .p (.v (.int .u32 a)), .p (.v (.int .i64 b))]] [(0, .live (.box 24 [.p (.v (.string key)), .p (.v (.int .i64 port)), .row 1])), (1, .live (.row 60 5 l.length (l.flatMap PE.pv))), (3, .un), (4, .un), (5, .un)] [(0, .live (.box 24 [.p (.v (.string key)), .p (.v (.int .i64 port)), .row 1])), (1, .live (.row 60 5 l.length (l.flatMap PE.pv))), (3, .live (.box 29 [.p (.v (.int .i64 4)), .p (.v (.string t)), .p (.v (.int .i64 n)), .p (.v (.int .u32 a)), .p (.v (.int .i64 b))])), (4, .live (.box 9 [.p (.v (.string pt))])), (5, .live (.box 29 [.p (.v (.int .i64 4)), .p (.v (.string t)), .p (.v (.int .i64 n)), .p (.v (.int .u32 a)), .p (.v (.int .i64 b))]))] (.tup [.p (.v (.string t)), .p (.v (.int .i64 7))]) := by
 have hG := zfP 4 t n a b (by decide) (by decide) (by decide)
 have hP := pickFull_s key port l ok t h0 h h2
 generalize l.flatMap PE.pv = L at *
 refine fnIO fun w0 A heap => ?_
 refine G [12] ?_
 refine zaB (hG) rfl rfl F49 rfl rfl (by repeat (first | exact trivial | refine ⟨rfl, ?_⟩)) rfl ?_
 refine G [17, 1, 9] ?_
 refine zaB (hP) rfl rfl func50 rfl rfl (by repeat (first | exact trivial | refine ⟨rfl, ?_⟩)) rfl ?_
 refine G [4, 9, 0] ?_
 refine ⟨(by first | exact .inl rfl | exact .inr rfl), ⟨_, (.tmp _ _ _ _ rfl (.tmp _ _ _ _ rfl .nil)), ?_⟩, ?_, ?_⟩
 ·exact rfl
 ·(repeat (first | exact trivial | refine ⟨rfl, ?_⟩))
 ·(intro o ho; simp only [List.any_cons, List.any_nil, Bool.or_false, Bool.or_eq_false_iff] at ho; simp [St.put, St.upd, updL, zaR, ho])
set_option maxHeartbeats 4000000 in
theorem one4new_s (key : ByteArray) (port : Int) (l : List PE) (ok : CF.OK ⟨key, port, l⟩) (pt : ByteArray) (t : ByteArray) (n a b : Int) (h0 : t ≠ key) (h : ¬ peN t l < l.length) (h2 : l.length ≠ 6) (p : Nat) (hp : p ≤ l.length) (hlo : ∀ u, u < p → (hu : u < l.length) → sLt l[u].key t = true) (hhi : ∀ u, p ≤ u → (hu : u < l.length) → ¬ sLt l[u].key t = true) : FnO prog 22 [.ref 0 0, .p (.v (.string pt)), .agg [.p (.v (.int .i64 4)), .p (.v (.string t)), .p (.v (.int .i64 n)), .p (.v (.int .u32 a)), .p (.v (.int .i64 b))]] [(0, .live (.box 24 [.p (.v (.string key)), .p (.v (.int .i64 port)), .row 1])), (1, .live (.row 60 5 l.length (l.flatMap PE.pv))), (3, .un), (4, .un), (5, .un), (48, .un), (49, .un)] [(0, .live (.box 24 [.p (.v (.string key)), .p (.v (.int .i64 port)), .row 49])), (1, .dead), (3, .live (.box 29 [.p (.v (.int .i64 4)), .p (.v (.string t)), .p (.v (.int .i64 n)), .p (.v (.int .u32 a)), .p (.v (.int .i64 b))])), (4, .live (.box 9 [.p (.v (.string pt))])), (5, .live (.box 29 [.p (.v (.int .i64 4)), .p (.v (.string t)), .p (.v (.int .i64 n)), .p (.v (.int .u32 a)), .p (.v (.int .i64 b))])), (48, .dead), (49, .live (.row 60 5 (l.length + 1) ((l.take p ++ newP t :: l.drop p).flatMap PE.pv)))] (.tup [.p (.v (.string t)), .p (.v (.int .i64 0))]) := by
 have hG := zfP 4 t n a b (by decide) (by decide) (by decide)
 have hP := pickNew_s key port l ok t h0 h h2 p hp hlo hhi
 clear hlo hhi
 generalize (l.take p ++ newP t :: l.drop p).flatMap PE.pv = L' at *
 generalize l.flatMap PE.pv = L at *
 refine fnIO fun w0 A heap => ?_
 refine G [12] ?_
 refine zaB (hG) rfl rfl F49 rfl rfl (by repeat (first | exact trivial | refine ⟨rfl, ?_⟩)) rfl ?_
 refine G [17, 1, 9] ?_
 refine zaB (hP) rfl rfl func50 rfl rfl (by repeat (first | exact trivial | refine ⟨rfl, ?_⟩)) rfl ?_
 refine G [4, 9, 0] ?_
 refine ⟨(by first | exact .inl rfl | exact .inr rfl), ⟨_, (.tmp _ _ _ _ rfl (.tmp _ _ _ _ rfl .nil)), ?_⟩, ?_, ?_⟩
 ·exact rfl
 ·(repeat (first | exact trivial | refine ⟨rfl, ?_⟩))
 ·(intro o ho; simp only [List.any_cons, List.any_nil, Bool.or_false, Bool.or_eq_false_iff] at ho; simp [St.put, St.upd, updL, zaR, ho])
set_option maxHeartbeats 4000000 in
theorem zeL (k : Int) (key : ByteArray) (port : Int) (l : List PE) (ok : CF.OK ⟨key, port, l⟩) (pt : ByteArray) (t : ByteArray) (n a b : Int) (h1 : k ≠ 1) (h2 : k ≠ 2) (h3 : k ≠ 3) (h4 : k ≠ 4) (h : pt = ⟨#[]⟩ ∨ ¬ peN pt l < l.length) : FnO prog 22 [.ref 0 0, .p (.v (.string pt)), .agg [.p (.v (.int .i64 k)), .p (.v (.string t)), .p (.v (.int .i64 n)), .p (.v (.int .u32 a)), .p (.v (.int .i64 b))]] [(0, .live (.box 24 [.p (.v (.string key)), .p (.v (.int .i64 port)), .row 1])), (1, .live (.row 60 5 l.length (l.flatMap PE.pv))), (3, .un), (4, .un), (5, .un)] [(0, .live (.box 24 [.p (.v (.string key)), .p (.v (.int .i64 port)), .row 1])), (1, .live (.row 60 5 l.length (l.flatMap PE.pv))), (3, .live (.box 29 [.p (.v (.int .i64 k)), .p (.v (.string t)), .p (.v (.int .i64 n)), .p (.v (.int .u32 a)), .p (.v (.int .i64 b))])), (4, .live (.box 9 [.p (.v (.string pt))])), (5, .live (.box 29 [.p (.v (.int .i64 k)), .p (.v (.string t)), .p (.v (.int .i64 n)), .p (.v (.int .u32 a)), .p (.v (.int .i64 b))]))] (.tup [.p (.v (.string ⟨#[]⟩)), .p (.v (.int .i64 13))]) := by
 have hG := zfP k t n a b h1 h2 h3
 have hP := peerNo_s key port l ok pt h
 generalize l.flatMap PE.pv = L at *
 refine fnIO fun w0 A heap => ?_
 refine G [12] ?_
 refine zaB (hG) rfl rfl F49 rfl rfl (by repeat (first | exact trivial | refine ⟨rfl, ?_⟩)) rfl ?_
 refine G [17] ?_
 refine zaa (zaA (c := false) (by simp [h4])) rfl rfl ?_
 refine G [7] ?_
 refine zaB (hP) rfl rfl F51 rfl rfl (by repeat (first | exact trivial | refine ⟨rfl, ?_⟩)) rfl ?_
 refine G [3] ?_
 (first | refine zaa (zbg (r := .ref _ _)) rfl rfl ?_ | refine aP rfl rfl ?_)
 refine G [16, 9, 0] ?_
 refine ⟨(by first | exact .inl rfl | exact .inr rfl), ⟨_, (.tmp _ _ _ _ rfl (.tmp _ _ _ _ rfl .nil)), ?_⟩, ?_, ?_⟩
 ·exact rfl
 ·(repeat (first | exact trivial | refine ⟨rfl, ?_⟩))
 ·(intro o ho; simp only [List.any_cons, List.any_nil, Bool.or_false, Bool.or_eq_false_iff] at ho; simp [St.put, St.upd, updL, zaR, ho])
set_option maxHeartbeats 4000000 in
theorem one5_s (key : ByteArray) (port : Int) (l : List PE) (ok : CF.OK ⟨key, port, l⟩) (pt : ByteArray) (t : ByteArray) (n a b : Int) (h0 : pt ≠ ⟨#[]⟩) (h : peN pt l < l.length) : FnO prog 22 [.ref 0 0, .p (.v (.string pt)), .agg [.p (.v (.int .i64 5)), .p (.v (.string t)), .p (.v (.int .i64 n)), .p (.v (.int .u32 a)), .p (.v (.int .i64 b))]] [(0, .live (.box 24 [.p (.v (.string key)), .p (.v (.int .i64 port)), .row 1])), (1, .live (.row 60 5 l.length (l.flatMap PE.pv))), (3, .un), (4, .un), (5, .un), (48, .un)] [(0, .live (.box 24 [.p (.v (.string key)), .p (.v (.int .i64 port)), .row 48])), (1, .dead), (3, .live (.box 29 [.p (.v (.int .i64 5)), .p (.v (.string t)), .p (.v (.int .i64 n)), .p (.v (.int .u32 a)), .p (.v (.int .i64 b))])), (4, .dead), (5, .live (.box 29 [.p (.v (.int .i64 5)), .p (.v (.string t)), .p (.v (.int .i64 n)), .p (.v (.int .u32 a)), .p (.v (.int .i64 b))])), (48, .live (.row 60 5 (delK pt l).length ((delK pt l).flatMap PE.pv)))] (.tup [.p (.v (.string ⟨#[]⟩)), .p (.v (.int .i64 0))]) := by
 have hG := zfP 5 t n a b (by decide) (by decide) (by decide)
 have hP := zeg key port l ok pt h0 h
 have hn := ok.len
 dsimp only at hn
 have hD := rmP_c l pt hn
 generalize (delK pt l).length = N at *
 generalize (delK pt l).flatMap PE.pv = L' at *
 generalize l.flatMap PE.pv = L at *
 refine fnIO fun w0 A heap => ?_
 refine G [12] ?_
 refine zaB (hG) rfl rfl F49 rfl rfl (by repeat (first | exact trivial | refine ⟨rfl, ?_⟩)) rfl ?_
 refine G [25] ?_
 refine zaB (hP) rfl rfl F51 rfl rfl (by repeat (first | exact trivial | refine ⟨rfl, ?_⟩)) rfl ?_
 refine G [10, 1, 12] ?_
 (first | refine zaa zbp rfl rfl ?_ | refine zaa zaY rfl rfl ?_)
 refine G [3] ?_
 refine zbr (zgf 4 4 rfl rfl rfl) ?_
 refine G [7] ?_
 refine zaa zdD rfl rfl ?_
 refine zac (a_callR (rds := []) (o' := 48) (n := l.length) (n' := N) (qs := L') (xs := [.fn 53 [.ptr [.v (.string pt)]]]) (cs := []) func52 rfl rfl (seen_data _ rfl (List.mem_cons_self ..)) hD) rfl rfl ⟨rfl, rfl, trivial⟩ ?_
 refine G [2] ?_
 refine zac (za9 (Y := .row _) sz22 rfl (by first | exact Nat.eq_of_beq_eq_true rfl | (simp only [AV.cells, List.length_map]; first | assumption | omega)) (by first | exact Nat.le_of_ble_eq_true rfl | omega | (simp only [AV.cells, List.length_map]; omega)) (by first | (simp only [setR, AV.cells, List.take_succ_cons, List.take_zero, List.drop_succ_cons, List.drop_zero, List.drop_nil, List.take_nil, List.nil_append, List.cons_append, List.append_nil, List.length_cons, List.length_nil, Nat.reduceAdd, Nat.zero_add, Nat.add_zero]; rfl) | rfl)) rfl rfl ⟨rfl, trivial⟩ ?_
 refine G [7, 9, 0] ?_
 refine ⟨(by first | exact .inl rfl | exact .inr rfl), ⟨_, (.tmp _ _ _ _ rfl (.tmp _ _ _ _ rfl .nil)), ?_⟩, ?_, ?_⟩
 ·exact rfl
 ·(repeat (first | exact trivial | refine ⟨rfl, ?_⟩))
 ·(intro o ho; simp only [List.any_cons, List.any_nil, Bool.or_false, Bool.or_eq_false_iff] at ho; simp [St.put, St.upd, updL, zaR, ho])
set_option maxHeartbeats 4000000 in
theorem one6_s (key : ByteArray) (port : Int) (l : List PE) (ok : CF.OK ⟨key, port, l⟩) (pt : ByteArray) (t : ByteArray) (n a b : Int) (h0 : pt ≠ ⟨#[]⟩) (h : peN pt l < l.length) : FnO prog 22 [.ref 0 0, .p (.v (.string pt)), .agg [.p (.v (.int .i64 6)), .p (.v (.string t)), .p (.v (.int .i64 n)), .p (.v (.int .u32 a)), .p (.v (.int .i64 b))]] [(0, .live (.box 24 [.p (.v (.string key)), .p (.v (.int .i64 port)), .row 1])), (1, .live (.row 60 5 l.length (l.flatMap PE.pv))), (3, .un), (4, .un), (5, .un)] [(0, .live (.box 24 [.p (.v (.string key)), .p (.v (.int .i64 port)), .row 1])), (1, .live (.row 60 5 l.length ((l.set (peN pt l) { l[peN pt l] with sh := t }).flatMap PE.pv))), (3, .live (.box 29 [.p (.v (.int .i64 6)), .p (.v (.string t)), .p (.v (.int .i64 n)), .p (.v (.int .u32 a)), .p (.v (.int .i64 b))])), (4, .live (.box 9 [.p (.v (.string pt))])), (5, .live (.box 29 [.p (.v (.int .i64 6)), .p (.v (.string t)), .p (.v (.int .i64 n)), .p (.v (.int .u32 a)), .p (.v (.int .i64 b))]))] (.tup [.p (.v (.string pt)), .p (.v (.int .i64 0))]) := by
 have hG := zfP 6 t n a b (by decide) (by decide) (by decide)
 have hP := zeg key port l ok pt h0 h
 have hL : (l.flatMap PE.pv).length = l.length * 5 := zat (f := PE.pv) (k := 5) (fun _ => rfl) l
 have hset := ze0 h 1 (.v (.string t)) { l[peN pt l] with sh := t } rfl (by omega)
 generalize (l.set (peN pt l) { l[peN pt l] with sh := t }).flatMap PE.pv = L' at *
 generalize l.flatMap PE.pv = L at *
 generalize peN pt l = J at *
 refine fnIO fun w0 A heap => ?_
 refine G [12] ?_
 refine zaB (hG) rfl rfl F49 rfl rfl (by repeat (first | exact trivial | refine ⟨rfl, ?_⟩)) rfl ?_
 refine G [25] ?_
 refine zaB (hP) rfl rfl F51 rfl rfl (by repeat (first | exact trivial | refine ⟨rfl, ?_⟩)) rfl ?_
 refine G [10, 1, 18] ?_
 (first | refine zaa zbp rfl rfl ?_ | refine zaa zaY rfl rfl ?_)
 refine G [3] ?_
 skip
 refine G [6] ?_
 refine zac (zbG (Y := .p (.v (.string t))) (ys := [.v (.string t)]) sz9 rfl rfl rfl (by omega) hset) rfl rfl ⟨rfl, trivial⟩ ?_
 refine G [8] ?_
 refine ⟨(by first | exact .inl rfl | exact .inr rfl), ⟨_, (.tmp _ _ _ _ rfl (.tmp _ _ _ _ rfl .nil)), ?_⟩, ?_, ?_⟩
 ·exact rfl
 ·(repeat (first | exact trivial | refine ⟨rfl, ?_⟩))
 ·(intro o ho; simp only [List.any_cons, List.any_nil, Bool.or_false, Bool.or_eq_false_iff] at ho; simp [St.put, St.upd, updL, zaR, ho])
set_option maxHeartbeats 4000000 in
theorem one7_s (key : ByteArray) (port : Int) (l : List PE) (ok : CF.OK ⟨key, port, l⟩) (pt : ByteArray) (t : ByteArray) (n a b : Int) (h0 : pt ≠ ⟨#[]⟩) (h : peN pt l < l.length) : FnO prog 22 [.ref 0 0, .p (.v (.string pt)), .agg [.p (.v (.int .i64 7)), .p (.v (.string t)), .p (.v (.int .i64 n)), .p (.v (.int .u32 a)), .p (.v (.int .i64 b))]] [(0, .live (.box 24 [.p (.v (.string key)), .p (.v (.int .i64 port)), .row 1])), (1, .live (.row 60 5 l.length (l.flatMap PE.pv))), (3, .un), (4, .un), (5, .un)] [(0, .live (.box 24 [.p (.v (.string key)), .p (.v (.int .i64 port)), .row 1])), (1, .live (.row 60 5 l.length ((l.set (peN pt l) { l[peN pt l] with ep := t }).flatMap PE.pv))), (3, .live (.box 29 [.p (.v (.int .i64 7)), .p (.v (.string t)), .p (.v (.int .i64 n)), .p (.v (.int .u32 a)), .p (.v (.int .i64 b))])), (4, .live (.box 9 [.p (.v (.string pt))])), (5, .live (.box 29 [.p (.v (.int .i64 7)), .p (.v (.string t)), .p (.v (.int .i64 n)), .p (.v (.int .u32 a)), .p (.v (.int .i64 b))]))] (.tup [.p (.v (.string pt)), .p (.v (.int .i64 0))]) := by
 have hG := zfP 7 t n a b (by decide) (by decide) (by decide)
 have hP := zeg key port l ok pt h0 h
 have hL : (l.flatMap PE.pv).length = l.length * 5 := zat (f := PE.pv) (k := 5) (fun _ => rfl) l
 have hset := ze0 h 2 (.v (.string t)) { l[peN pt l] with ep := t } rfl (by omega)
 generalize (l.set (peN pt l) { l[peN pt l] with ep := t }).flatMap PE.pv = L' at *
 generalize l.flatMap PE.pv = L at *
 generalize peN pt l = J at *
 refine fnIO fun w0 A heap => ?_
 refine G [12] ?_
 refine zaB (hG) rfl rfl F49 rfl rfl (by repeat (first | exact trivial | refine ⟨rfl, ?_⟩)) rfl ?_
 refine G [25] ?_
 refine zaB (hP) rfl rfl F51 rfl rfl (by repeat (first | exact trivial | refine ⟨rfl, ?_⟩)) rfl ?_
 refine G [10, 1, 24] ?_
 (first | refine zaa zbp rfl rfl ?_ | refine zaa zaY rfl rfl ?_)
 refine G [3] ?_
 skip
 refine G [6] ?_
 refine zac (zbG (Y := .p (.v (.string t))) (ys := [.v (.string t)]) sz9 rfl rfl rfl (by omega) hset) rfl rfl ⟨rfl, trivial⟩ ?_
 refine G [8] ?_
 refine ⟨(by first | exact .inl rfl | exact .inr rfl), ⟨_, (.tmp _ _ _ _ rfl (.tmp _ _ _ _ rfl .nil)), ?_⟩, ?_, ?_⟩
 ·exact rfl
 ·(repeat (first | exact trivial | refine ⟨rfl, ?_⟩))
 ·(intro o ho; simp only [List.any_cons, List.any_nil, Bool.or_false, Bool.or_eq_false_iff] at ho; simp [St.put, St.upd, updL, zaR, ho])
set_option maxHeartbeats 4000000 in
theorem one8_s (key : ByteArray) (port : Int) (l : List PE) (ok : CF.OK ⟨key, port, l⟩) (pt : ByteArray) (t : ByteArray) (n a b : Int) (h0 : pt ≠ ⟨#[]⟩) (h : peN pt l < l.length) : FnO prog 22 [.ref 0 0, .p (.v (.string pt)), .agg [.p (.v (.int .i64 8)), .p (.v (.string t)), .p (.v (.int .i64 n)), .p (.v (.int .u32 a)), .p (.v (.int .i64 b))]] [(0, .live (.box 24 [.p (.v (.string key)), .p (.v (.int .i64 port)), .row 1])), (1, .live (.row 60 5 l.length (l.flatMap PE.pv))), (3, .un), (4, .un), (5, .un)] [(0, .live (.box 24 [.p (.v (.string key)), .p (.v (.int .i64 port)), .row 1])), (1, .live (.row 60 5 l.length ((l.set (peN pt l) { l[peN pt l] with al := n }).flatMap PE.pv))), (3, .live (.box 29 [.p (.v (.int .i64 8)), .p (.v (.string t)), .p (.v (.int .i64 n)), .p (.v (.int .u32 a)), .p (.v (.int .i64 b))])), (4, .live (.box 9 [.p (.v (.string pt))])), (5, .live (.box 29 [.p (.v (.int .i64 8)), .p (.v (.string t)), .p (.v (.int .i64 n)), .p (.v (.int .u32 a)), .p (.v (.int .i64 b))]))] (.tup [.p (.v (.string pt)), .p (.v (.int .i64 0))]) := by
 have hG := zfP 8 t n a b (by decide) (by decide) (by decide)
 have hP := zeg key port l ok pt h0 h
 have hL : (l.flatMap PE.pv).length = l.length * 5 := zat (f := PE.pv) (k := 5) (fun _ => rfl) l
 have hset := ze0 h 3 (.v (.int .i64 n)) { l[peN pt l] with al := n } rfl (by omega)
 generalize (l.set (peN pt l) { l[peN pt l] with al := n }).flatMap PE.pv = L' at *
 generalize l.flatMap PE.pv = L at *
 generalize peN pt l = J at *
 refine fnIO fun w0 A heap => ?_
 refine G [12] ?_
 refine zaB (hG) rfl rfl F49 rfl rfl (by repeat (first | exact trivial | refine ⟨rfl, ?_⟩)) rfl ?_
 refine G [25] ?_
 refine zaB (hP) rfl rfl F51 rfl rfl (by repeat (first | exact trivial | refine ⟨rfl, ?_⟩)) rfl ?_
 refine G [10, 1, 30] ?_
 (first | refine zaa zbp rfl rfl ?_ | refine zaa zaY rfl rfl ?_)
 refine G [3] ?_
 skip
 refine G [6] ?_
 refine zac (zbG (Y := .p (.v (.int .i64 n))) (ys := [.v (.int .i64 n)]) sz3 rfl rfl rfl (by omega) hset) rfl rfl ⟨rfl, trivial⟩ ?_
 refine G [8] ?_
 refine ⟨(by first | exact .inl rfl | exact .inr rfl), ⟨_, (.tmp _ _ _ _ rfl (.tmp _ _ _ _ rfl .nil)), ?_⟩, ?_, ?_⟩
 ·exact rfl
 ·(repeat (first | exact trivial | refine ⟨rfl, ?_⟩))
 ·(intro o ho; simp only [List.any_cons, List.any_nil, Bool.or_false, Bool.or_eq_false_iff] at ho; simp [St.put, St.upd, updL, zaR, ho])
set_option maxHeartbeats 4000000 in
theorem one9_s (key : ByteArray) (port : Int) (l : List PE) (ok : CF.OK ⟨key, port, l⟩) (pt : ByteArray) (t : ByteArray) (n a b : Int) (h0 : pt ≠ ⟨#[]⟩) (h : peN pt l < l.length) : FnO prog 22 [.ref 0 0, .p (.v (.string pt)), .agg [.p (.v (.int .i64 9)), .p (.v (.string t)), .p (.v (.int .i64 n)), .p (.v (.int .u32 a)), .p (.v (.int .i64 b))]] [(0, .live (.box 24 [.p (.v (.string key)), .p (.v (.int .i64 port)), .row 1])), (1, .live (.row 60 5 l.length (l.flatMap PE.pv))), (3, .un), (4, .un), (5, .un)] [(0, .live (.box 24 [.p (.v (.string key)), .p (.v (.int .i64 port)), .row 1])), (1, .live (.row 60 5 l.length ((l.set (peN pt l) { l[peN pt l] with nets := [] }).flatMap PE.pv))), (3, .live (.box 29 [.p (.v (.int .i64 9)), .p (.v (.string t)), .p (.v (.int .i64 n)), .p (.v (.int .u32 a)), .p (.v (.int .i64 b))])), (4, .live (.box 9 [.p (.v (.string pt))])), (5, .live (.box 29 [.p (.v (.int .i64 9)), .p (.v (.string t)), .p (.v (.int .i64 n)), .p (.v (.int .u32 a)), .p (.v (.int .i64 b))]))] (.tup [.p (.v (.string pt)), .p (.v (.int .i64 0))]) := by
 have hG := zfP 9 t n a b (by decide) (by decide) (by decide)
 have hP := zeg key port l ok pt h0 h
 have hL : (l.flatMap PE.pv).length = l.length * 5 := zat (f := PE.pv) (k := 5) (fun _ => rfl) l
 have hset := ze0 h 4 (.sl 0 2 []) { l[peN pt l] with nets := [] } rfl (by omega)
 generalize (l.set (peN pt l) { l[peN pt l] with nets := [] }).flatMap PE.pv = L' at *
 generalize l.flatMap PE.pv = L at *
 generalize peN pt l = J at *
 refine fnIO fun w0 A heap => ?_
 refine G [12] ?_
 refine zaB (hG) rfl rfl F49 rfl rfl (by repeat (first | exact trivial | refine ⟨rfl, ?_⟩)) rfl ?_
 refine G [25] ?_
 refine zaB (hP) rfl rfl F51 rfl rfl (by repeat (first | exact trivial | refine ⟨rfl, ?_⟩)) rfl ?_
 refine G [10, 1, 36] ?_
 (first | refine zaa zbp rfl rfl ?_ | refine zaa zaY rfl rfl ?_)
 refine G [3] ?_
 skip
 refine G [4] ?_
 refine zac (zf3 (nil_sl (.ref 1 (J * 5 + 4)) 2) (zbG (Y := .p (.sl 0 2 [])) (ys := [.sl 0 2 []]) sz58 rfl rfl rfl (by omega) hset)) rfl rfl ⟨rfl, trivial⟩ ?_
 refine G [8] ?_
 refine ⟨(by first | exact .inl rfl | exact .inr rfl), ⟨_, (.tmp _ _ _ _ rfl (.tmp _ _ _ _ rfl .nil)), ?_⟩, ?_, ?_⟩
 ·exact rfl
 ·(repeat (first | exact trivial | refine ⟨rfl, ?_⟩))
 ·(intro o ho; simp only [List.any_cons, List.any_nil, Bool.or_false, Bool.or_eq_false_iff] at ho; simp [St.put, St.upd, updL, zaR, ho])
end Go.Proofs.YtkdfdcodkeclmaaGreatDoor
