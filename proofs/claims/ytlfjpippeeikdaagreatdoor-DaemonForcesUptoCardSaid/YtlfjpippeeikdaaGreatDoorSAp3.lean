/- apply.global and apply.one, over data: a configuration of one's own, whose nets are shared. -/
import Derived.Test.YtlfjpippeeikdaaGreatDoorSAp1
set_option linter.all false
namespace Go.Proofs.YtlfjpippeeikdaaGreatDoor
open Tryz
open Go.RowKit Go.Sort
set_option maxHeartbeats 16000000
set_option maxRecDepth 100000
theorem zhL {st : St} (t o : Nat) {ty : TypeId} {xs : List AV} {cs : List PV} (ht : st.tmps t = .ref o 0) (h : st.heap o = .live (.box ty xs)) (ha : allP xs = some cs) :
 ReO st ⟨fun k => bif Nat.beq k t then .ptr cs else st.tmps k, updL st.heap [(o, .dead)]⟩ := by
 rintro w0 A nt a w ⟨⟨S, m, hm, hj, hr⟩, hsz, hd⟩
 obtain ⟨v, h1, h2, h3⟩ := hm.live o _ h
 obtain ⟨b, us, rfl, g1, g2, g3, g4⟩ := h2
 rw [zgI ha] at g2
 have g : Grow S m w (fun x => S x ∨ x = b) m w := ⟨fun _ h => .inl h, fun _ _ => rfl, fun _ _ h => h⟩
 have hlt : b < w.heap.size := (qaZ.1 g4).1
 have hm1 := ziu hm o
 refine ⟨⟨fun x => S x ∨ x = b, m, ⟨hm.bel, ?_, ?_, hm1.un, fun o' ob ho => ?_, hm1.inj, hm.gl⟩, A.up _ _ _ _ _ _ g hj, fun k => ?_⟩, hsz, hd⟩
 ·rintro x (hx | rfl)
  ·exact hm.sA x hx
  ·exact .inr g1
 ·rintro x (hx | rfl)
  ·exact hm.sW x hx
  ·exact hlt
 ·obtain ⟨u, j1, j2, j3⟩ := hm1.live o' ob ho
  have hoo : o' ≠ o ∧ st.heap o' = .live ob := by
   exact jcv
  refine ⟨u, j1, j2.mono g fun _ _ => rfl, ?_⟩
  rintro x hx (hS | rfl)
  ·exact j3 x hx hS
  ·exact hoo.1 (hm.inj _ _ _ _ _ _ _ hoo.2 h j1 h1 hx rfl)
 ·by_cases e : k = t
  ·subst e
   have := hr k
   rw [ht] at this
   simp only [Rep] at this
   obtain ⟨b', v0, i1, i2, i3⟩ := this
   rw [h1] at i1; cases i1
   obtain rfl : b = b' := by simpa [blk] using i2
   simp only [qbv, cond_true, Rep]
   exact ⟨b, 0, us, i3, .inr rfl, PRepL.mono g.s g.w _ _ (zbI g2), zcn g4⟩
  ·simp only [nbeq e, cond_false]
   exact Rep.mono g _ _ (hr k)
theorem zhw {P : Program} {o : Oper} {xs ys : List AV} {rds wrs : List (Nat × Slot)} {r : AV} (hv : ∀ (S : Nat → Prop) (m : Nat → Option Value) (w : World) (us : List Value), RepL S m w xs us → RepL S m w ys us) (h : AOp P o ys rds wrs r) : AOp P o xs rds wrs r :=
 fun w0 A S m heap w ev hm hR hrd => h w0 A S m heap w ev hm (hv S m w _ hR) hrd
theorem nil_sl (x : AV) (z : Nat) (S : Nat → Prop) (m : Nat → Option Value) (w : World) (us : List Value) (h : RepL S m w [x, qj] us) : RepL S m w [x, .p (.sl 0 z [])] us := by
 simp only [RepL, Rep, PRep, PRepL] at h ⊢
 obtain ⟨u, _, rfl, h1, u2, _, rfl, ⟨rfl, _⟩, rfl⟩ := h
 exact ⟨u, _, rfl, h1, _, _, rfl, ⟨none, 0, [], rfl, Nat.le_refl _, qz, rfl, qz⟩, rfl⟩
theorem zgj {l : List PE} {j : Nat} (hj : j < l.length) (q : Nat) (x : PV) (p' : PE) (h : p'.pv = setR l[j].pv q [x]) (hq : q + 1 ≤ 5) : setR (l.flatMap PE.pv) (j * 5 + q) [x] = (l.set j p').flatMap PE.pv := by
 have h1 : l = l.take j ++ l[j] :: l.drop (j + 1) := by rw [List.getElem_cons_drop, qa1]
 have h2 : l.set j p' = l.take j ++ p' :: l.drop (j + 1) := by rw [List.set_eq_take_append_cons_drop, if_pos hj]
 have h3 : ((l.take j).flatMap PE.pv).length = j * 5 := by rw [zas (f := PE.pv) (k := 5) (fun _ => rfl), List.length_take, Nat.min_eq_left (by omega)]
 have h4 : (l[j].pv).length = 5 := rfl
 rw [h2]
 conv => lhs; rw [h1]
 rw [qaX, qaX, qbb, qbb, h, ← h3]
 generalize (l.take j).flatMap PE.pv = A
 generalize (l.drop (j + 1)).flatMap PE.pv = D
 generalize l[j].pv = X at *
 unfold setR
 rw [List.take_append, qaN (by omega : A.length ≤ A.length + q), Nat.add_sub_cancel_left, qa3 (by omega)]
 rw [List.drop_append, qbe (by omega : A.length ≤ A.length + q + [x].length), qbc, show A.length + q + [x].length - A.length = q + [x].length by omega, List.drop_append_of_le_length (by simp; omega)]
 simp [qaY]
theorem zhm (k : Int) (t : ByteArray) (n a b : Int) (h1 : k ≠ 1) (h2 : k ≠ 2) (h3 : k ≠ 3) : FnO prog 128 [.ref 0 0, .agg [qd k, qc t, qd n, qe a, qd b]] [(3, .un)] [(3, .live (.box 107 [qd k, qc t, qd n, qe a, qd b]))] (.tup [qf false, qd 0]) := by
 refine fnIO fun w0 A heap => ?_
 refine G [15, 3, 5, 3, 5, 3, 9, 9, 0] ?_
 exact jan
theorem gl1a_s (key : ByteArray) (port : Int) (l : List PE) (ok : CF.OK ⟨key, port, l⟩) (t : ByteArray) (n a b : Int) (h : peN t l < l.length) : FnO prog 128 [.ref 0 0, .agg [qd 1, qc t, qd n, qe a, qd b]] [(0, .live (.box 24 [qc key, qd port, .row 1])), (1, .live (.row 48 5 l.length (l.flatMap PE.pv))), (3, .un)] [(0, .live (.box 24 [qc key, qd port, .row 1])), (1, .live (.row 48 5 l.length (l.flatMap PE.pv))), (3, .live (.box 107 [qd 1, qc t, qd n, qe a, qd b]))] (.tup [qf true, qd 14]) := by
 have hF := zep ⟨key, port, l⟩ ok t
 change Fn prog _ [.agg (cfC key port l.length (l.flatMap PE.pv)), _] (if peN t l < l.length then _ else _) _ at hF
 rw [if_pos h] at hF
 generalize l.flatMap PE.pv = L at *
 refine fnIO fun w0 A heap => ?_
 refine G [15, 1, 11] ?_
 refine cV hF ?_
 refine G [9, 1, 8, 9, 0] ?_
 exact jan
theorem gl1b_s (key : ByteArray) (port : Int) (l : List PE) (ok : CF.OK ⟨key, port, l⟩) (t : ByteArray) (n a b : Int) (h : ¬ peN t l < l.length) : FnO prog 128 [.ref 0 0, .agg [qd 1, qc t, qd n, qe a, qd b]] [(0, .live (.box 24 [qc key, qd port, .row 1])), (1, .live (.row 48 5 l.length (l.flatMap PE.pv))), (3, .un)] [(0, .live (.box 24 [qc t, qd port, .row 1])), (1, .live (.row 48 5 l.length (l.flatMap PE.pv))), (3, .live (.box 107 [qd 1, qc t, qd n, qe a, qd b]))] (.tup [qf true, qd 0]) := by
 have hF := zep ⟨key, port, l⟩ ok t
 change Fn prog _ [.agg (cfC key port l.length (l.flatMap PE.pv)), _] (if peN t l < l.length then _ else _) _ at hF
 rw [if_neg h] at hF
 generalize l.flatMap PE.pv = L at *
 refine fnIO fun w0 A heap => ?_
 refine G [15, 1, 11] ?_
 refine cV hF ?_
 refine G [27] ?_
 exact jan
theorem gl2_s (key : ByteArray) (port : Int) (l : List PE) (ok : CF.OK ⟨key, port, l⟩) (t : ByteArray) (n a b : Int) : FnO prog 128 [.ref 0 0, .agg [qd 2, qc t, qd n, qe a, qd b]] [(0, .live (.box 24 [qc key, qd port, .row 1])), (1, .live (.row 48 5 l.length (l.flatMap PE.pv))), (3, .un)] [(0, .live (.box 24 [qc key, qd n, .row 1])), (1, .live (.row 48 5 l.length (l.flatMap PE.pv))), (3, .live (.box 107 [qd 2, qc t, qd n, qe a, qd b]))] (.tup [qf true, qd 0]) := by
 clear ok
 generalize l.flatMap PE.pv = L at *
 refine fnIO fun w0 A heap => ?_
 refine G [21, 1, 3] ?_
 skip
 refine G [14] ?_
 exact jan
theorem gl3_s (key : ByteArray) (port : Int) (l : List PE) (ok : CF.OK ⟨key, port, l⟩) (t : ByteArray) (n a b : Int) : FnO prog 128 [.ref 0 0, .agg [qd 3, qc t, qd n, qe a, qd b]] [(0, .live (.box 24 [qc key, qd port, .row 1])), (1, .live (.row 48 5 l.length (l.flatMap PE.pv))), (3, .un)] [(0, .live (.box 24 [qc key, qd port, .p (.sl 0 5 [])])), (1, .live (.row 48 5 l.length (l.flatMap PE.pv))), (3, .live (.box 107 [qd 3, qc t, qd n, qe a, qd b]))] (.tup [qf true, qd 0]) := by
 clear ok
 generalize l.flatMap PE.pv = L at *
 refine fnIO fun w0 A heap => ?_
 refine G [27, 1, 3] ?_
 skip
 refine G [4] ?_
 refine jdZ (zhw (nil_sl (.ref 0 (0 + 2)) 5) (zaS (es := [qc key, qd port, .p (.sl 0 5 [])]) sz22 rfl rfl (qaA rfl) rfl)) ?_
 refine G [7] ?_
 exact jan
theorem one1a_s (key : ByteArray) (port : Int) (l : List PE) (ok : CF.OK ⟨key, port, l⟩) (pt : ByteArray) (t : ByteArray) (n a b : Int) (h : peN t l < l.length) : FnO prog 93 [.ref 0 0, qc pt, .agg [qd 1, qc t, qd n, qe a, qd b]] [(0, .live (.box 24 [qc key, qd port, .row 1])), (1, .live (.row 48 5 l.length (l.flatMap PE.pv))), (3, .un), (4, .un), (5, .un)] [(0, .live (.box 24 [qc key, qd port, .row 1])), (1, .live (.row 48 5 l.length (l.flatMap PE.pv))), (3, .live (.box 107 [qd 1, qc t, qd n, qe a, qd b])), (4, .live (.box 9 [qc pt])), (5, .live (.box 107 [qd 1, qc t, qd n, qe a, qd b]))] (.tup [qc ⟨#[]⟩, qd 14]) := by
 have hG := gl1a_s key port l ok t n a b h
 exact ja9
theorem one1b_s (key : ByteArray) (port : Int) (l : List PE) (ok : CF.OK ⟨key, port, l⟩) (pt : ByteArray) (t : ByteArray) (n a b : Int) (h : ¬ peN t l < l.length) : FnO prog 93 [.ref 0 0, qc pt, .agg [qd 1, qc t, qd n, qe a, qd b]] [(0, .live (.box 24 [qc key, qd port, .row 1])), (1, .live (.row 48 5 l.length (l.flatMap PE.pv))), (3, .un), (4, .un), (5, .un)] [(0, .live (.box 24 [qc t, qd port, .row 1])), (1, .live (.row 48 5 l.length (l.flatMap PE.pv))), (3, .live (.box 107 [qd 1, qc t, qd n, qe a, qd b])), (4, .live (.box 9 [qc pt])), (5, .live (.box 107 [qd 1, qc t, qd n, qe a, qd b]))] (.tup [qc ⟨#[]⟩, qd 0]) := by
 have hG := gl1b_s key port l ok t n a b h
 exact ja9
theorem one2_s (key : ByteArray) (port : Int) (l : List PE) (ok : CF.OK ⟨key, port, l⟩) (pt : ByteArray) (t : ByteArray) (n a b : Int) : FnO prog 93 [.ref 0 0, qc pt, .agg [qd 2, qc t, qd n, qe a, qd b]] [(0, .live (.box 24 [qc key, qd port, .row 1])), (1, .live (.row 48 5 l.length (l.flatMap PE.pv))), (3, .un), (4, .un), (5, .un)] [(0, .live (.box 24 [qc key, qd n, .row 1])), (1, .live (.row 48 5 l.length (l.flatMap PE.pv))), (3, .live (.box 107 [qd 2, qc t, qd n, qe a, qd b])), (4, .live (.box 9 [qc pt])), (5, .live (.box 107 [qd 2, qc t, qd n, qe a, qd b]))] (.tup [qc ⟨#[]⟩, qd 0]) := by
 have hG := gl2_s key port l ok t n a b
 exact ja9
theorem one3_s (key : ByteArray) (port : Int) (l : List PE) (ok : CF.OK ⟨key, port, l⟩) (pt : ByteArray) (t : ByteArray) (n a b : Int) : FnO prog 93 [.ref 0 0, qc pt, .agg [qd 3, qc t, qd n, qe a, qd b]] [(0, .live (.box 24 [qc key, qd port, .row 1])), (1, .live (.row 48 5 l.length (l.flatMap PE.pv))), (3, .un), (4, .un), (5, .un)] [(0, .live (.box 24 [qc key, qd port, .p (.sl 0 5 [])])), (1, .live (.row 48 5 l.length (l.flatMap PE.pv))), (3, .live (.box 107 [qd 3, qc t, qd n, qe a, qd b])), (4, .live (.box 9 [qc pt])), (5, .live (.box 107 [qd 3, qc t, qd n, qe a, qd b]))] (.tup [qc ⟨#[]⟩, qd 0]) := by
 have hG := gl3_s key port l ok t n a b
 exact ja9
theorem one4own_s (key : ByteArray) (port : Int) (l : List PE) (ok : CF.OK ⟨key, port, l⟩) (pt : ByteArray) (t : ByteArray) (n a b : Int) (h : t = key) : FnO prog 93 [.ref 0 0, qc pt, .agg [qd 4, qc t, qd n, qe a, qd b]] [(0, .live (.box 24 [qc key, qd port, .row 1])), (1, .live (.row 48 5 l.length (l.flatMap PE.pv))), (3, .un), (4, .un), (5, .un)] [(0, .live (.box 24 [qc key, qd port, .row 1])), (1, .live (.row 48 5 l.length (l.flatMap PE.pv))), (3, .live (.box 107 [qd 4, qc t, qd n, qe a, qd b])), (4, .live (.box 9 [qc pt])), (5, .live (.box 107 [qd 4, qc t, qd n, qe a, qd b]))] (.tup [qc t, qd 14]) := by
 subst h
 have hG := zhm 4 t n a b qw qw qw
 have hP := pickOwn_s t port l ok
 generalize l.flatMap PE.pv = L at *
 refine fnIO fun w0 A heap => ?_
 refine G [12] ?_
 refine jc6 ?_
 refine G [17] ?_
 (first | refine zaa zbC rfl rfl ?_ | refine zaa za9 rfl rfl ?_)
 refine G [9] ?_
 refine zaK (hP) rfl rfl func129 rfl rfl qE rfl ?_
 refine G [4, 9, 0] ?_
 refine jc9 ?_ ?_ ?_
 ·exact rfl
 ·exact jbq
 ·exact ja7
theorem one4old_s (key : ByteArray) (port : Int) (l : List PE) (ok : CF.OK ⟨key, port, l⟩) (pt : ByteArray) (t : ByteArray) (n a b : Int) (h0 : t ≠ key) (h : peN t l < l.length) : FnO prog 93 [.ref 0 0, qc pt, .agg [qd 4, qc t, qd n, qe a, qd b]] [(0, .live (.box 24 [qc key, qd port, .row 1])), (1, .live (.row 48 5 l.length (l.flatMap PE.pv))), (3, .un), (4, .un), (5, .un)] [(0, .live (.box 24 [qc key, qd port, .row 1])), (1, .live (.row 48 5 l.length (l.flatMap PE.pv))), (3, .live (.box 107 [qd 4, qc t, qd n, qe a, qd b])), (4, .live (.box 9 [qc pt])), (5, .live (.box 107 [qd 4, qc t, qd n, qe a, qd b]))] (.tup [qc t, qd 0]) := by
 have hG := zhm 4 t n a b qw qw qw
 have hP := pickOld_s key port l ok t h0 h
 exact ja8
theorem one4full_s (key : ByteArray) (port : Int) (l : List PE) (ok : CF.OK ⟨key, port, l⟩) (pt : ByteArray) (t : ByteArray) (n a b : Int) (h0 : t ≠ key) (h : ¬ peN t l < l.length) (h2 : l.length = 6) : FnO prog 93 [.ref 0 0, qc pt, .agg [qd 4, qc t, qd n, qe a, qd b]] [(0, .live (.box 24 [qc key, qd port, .row 1])), (1, .live (.row 48 5 l.length (l.flatMap PE.pv))), (3, .un), (4, .un), (5, .un)] [(0, .live (.box 24 [qc key, qd port, .row 1])), (1, .live (.row 48 5 l.length (l.flatMap PE.pv))), (3, .live (.box 107 [qd 4, qc t, qd n, qe a, qd b])), (4, .live (.box 9 [qc pt])), (5, .live (.box 107 [qd 4, qc t, qd n, qe a, qd b]))] (.tup [qc t, qd 7]) := by
 have hG := zhm 4 t n a b qw qw qw
 have hP := pickFull_s key port l ok t h0 h h2
 exact ja8
theorem one4new_s (key : ByteArray) (port : Int) (l : List PE) (ok : CF.OK ⟨key, port, l⟩) (pt : ByteArray) (t : ByteArray) (n a b : Int) (h0 : t ≠ key) (h : ¬ peN t l < l.length) (h2 : l.length ≠ 6) (p : Nat) (hp : p ≤ l.length) (hlo : ∀ u, u < p → (hu : u < l.length) → sLt l[u].key t = true) (hhi : ∀ u, p ≤ u → (hu : u < l.length) → ¬ sLt l[u].key t = true) : FnO prog 93 [.ref 0 0, qc pt, .agg [qd 4, qc t, qd n, qe a, qd b]] [(0, .live (.box 24 [qc key, qd port, .row 1])), (1, .live (.row 48 5 l.length (l.flatMap PE.pv))), (3, .un), (4, .un), (5, .un), (48, .un), (49, .un)] [(0, .live (.box 24 [qc key, qd port, .row 49])), (1, .dead), (3, .live (.box 107 [qd 4, qc t, qd n, qe a, qd b])), (4, .live (.box 9 [qc pt])), (5, .live (.box 107 [qd 4, qc t, qd n, qe a, qd b])), (48, .dead), (49, .live (.row 48 5 (l.length + 1) ((l.take p ++ newP t :: l.drop p).flatMap PE.pv)))] (.tup [qc t, qd 0]) := by
 have hG := zhm 4 t n a b qw qw qw
 have hP := pickNew_s key port l ok t h0 h h2 p hp hlo hhi
 clear hlo hhi
 generalize (l.take p ++ newP t :: l.drop p).flatMap PE.pv = L' at *
 exact ja8
theorem zfY (k : Int) (key : ByteArray) (port : Int) (l : List PE) (ok : CF.OK ⟨key, port, l⟩) (pt : ByteArray) (t : ByteArray) (n a b : Int) (h1 : k ≠ 1) (h2 : k ≠ 2) (h3 : k ≠ 3) (h4 : k ≠ 4) (h : pt = ⟨#[]⟩ ∨ ¬ peN pt l < l.length) : FnO prog 93 [.ref 0 0, qc pt, .agg [qd k, qc t, qd n, qe a, qd b]] [(0, .live (.box 24 [qc key, qd port, .row 1])), (1, .live (.row 48 5 l.length (l.flatMap PE.pv))), (3, .un), (4, .un), (5, .un)] [(0, .live (.box 24 [qc key, qd port, .row 1])), (1, .live (.row 48 5 l.length (l.flatMap PE.pv))), (3, .live (.box 107 [qd k, qc t, qd n, qe a, qd b])), (4, .live (.box 9 [qc pt])), (5, .live (.box 107 [qd k, qc t, qd n, qe a, qd b]))] (.tup [qc ⟨#[]⟩, qd 13]) := by
 have hG := zhm k t n a b h1 h2 h3
 have hP := peerNo_s key port l ok pt h
 generalize l.flatMap PE.pv = L at *
 refine fnIO fun w0 A heap => ?_
 refine G [12] ?_
 refine jc6 ?_
 refine G [17, 3, 7] ?_
 refine jdm ?_
 refine G [20, 9, 0] ?_
 exact jan
theorem one5_s (key : ByteArray) (port : Int) (l : List PE) (ok : CF.OK ⟨key, port, l⟩) (pt : ByteArray) (t : ByteArray) (n a b : Int) (h0 : pt ≠ ⟨#[]⟩) (h : peN pt l < l.length) : FnO prog 93 [.ref 0 0, qc pt, .agg [qd 5, qc t, qd n, qe a, qd b]] [(0, .live (.box 24 [qc key, qd port, .row 1])), (1, .live (.row 48 5 l.length (l.flatMap PE.pv))), (3, .un), (4, .un), (5, .un), (48, .un)] [(0, .live (.box 24 [qc key, qd port, .row 48])), (1, .dead), (3, .live (.box 107 [qd 5, qc t, qd n, qe a, qd b])), (4, .dead), (5, .live (.box 107 [qd 5, qc t, qd n, qe a, qd b])), (48, .live (.row 48 5 (delK pt l).length ((delK pt l).flatMap PE.pv)))] (.tup [qc ⟨#[]⟩, qd 0]) := by
 have hG := zhm 5 t n a b qw qw qw
 have hP := zfk key port l ok pt h0 h
 have hn := ok.len
 dsimp only at hn
 have hD := rmP_c l pt hn
 generalize (delK pt l).length = N at *
 generalize (delK pt l).flatMap PE.pv = L' at *
 generalize l.flatMap PE.pv = L at *
 refine fnIO fun w0 A heap => ?_
 refine G [12] ?_
 refine jc6 ?_
 refine G [25] ?_
 refine jdm ?_
 refine G [10, 1, 12] ?_
 (first | refine zaa zbC rfl rfl ?_ | refine zaa za9 rfl rfl ?_)
 refine G [3] ?_
 refine zaZ (zhL 4 4 rfl rfl rfl) ?_
 refine G [7] ?_
 refine jdY zeF ?_
 refine zab (a_callR (rds := []) (o' := 48) (n := l.length) (n' := N) (qs := L') (xs := [.fn 132 [.ptr [qg pt]]]) (cs := []) func131 rfl rfl (seen_data _ rfl (qbQ ..)) hD) rfl rfl ⟨rfl, rfl, trivial⟩ ?_
 refine G [10, 9, 0] ?_
 refine jc9 ?_ ?_ ?_
 ·exact rfl
 ·exact jbq
 ·exact ja7
theorem one6_s (key : ByteArray) (port : Int) (l : List PE) (ok : CF.OK ⟨key, port, l⟩) (pt : ByteArray) (t : ByteArray) (n a b : Int) (h0 : pt ≠ ⟨#[]⟩) (h : peN pt l < l.length) : FnO prog 93 [.ref 0 0, qc pt, .agg [qd 6, qc t, qd n, qe a, qd b]] [(0, .live (.box 24 [qc key, qd port, .row 1])), (1, .live (.row 48 5 l.length (l.flatMap PE.pv))), (3, .un), (4, .un), (5, .un)] [(0, .live (.box 24 [qc key, qd port, .row 1])), (1, .live (.row 48 5 l.length ((l.set (peN pt l) { l[peN pt l] with sh := t }).flatMap PE.pv))), (3, .live (.box 107 [qd 6, qc t, qd n, qe a, qd b])), (4, .live (.box 9 [qc pt])), (5, .live (.box 107 [qd 6, qc t, qd n, qe a, qd b]))] (.tup [qc pt, qd 0]) := by
 have hG := zhm 6 t n a b qw qw qw
 have hP := zfk key port l ok pt h0 h
 have hL : (l.flatMap PE.pv).length = l.length * 5 := zas (f := PE.pv) (k := 5) (fun _ => rfl) l
 have hset := zgj h 1 (qg t) { l[peN pt l] with sh := t } rfl qk
 generalize (l.set (peN pt l) { l[peN pt l] with sh := t }).flatMap PE.pv = L' at *
 generalize l.flatMap PE.pv = L at *
 generalize peN pt l = J at *
 refine fnIO fun w0 A heap => ?_
 refine G [12] ?_
 refine jc6 ?_
 refine G [25] ?_
 refine jdm ?_
 refine G [10, 1, 18] ?_
 exact jaM
theorem one7_s (key : ByteArray) (port : Int) (l : List PE) (ok : CF.OK ⟨key, port, l⟩) (pt : ByteArray) (t : ByteArray) (n a b : Int) (h0 : pt ≠ ⟨#[]⟩) (h : peN pt l < l.length) : FnO prog 93 [.ref 0 0, qc pt, .agg [qd 7, qc t, qd n, qe a, qd b]] [(0, .live (.box 24 [qc key, qd port, .row 1])), (1, .live (.row 48 5 l.length (l.flatMap PE.pv))), (3, .un), (4, .un), (5, .un)] [(0, .live (.box 24 [qc key, qd port, .row 1])), (1, .live (.row 48 5 l.length ((l.set (peN pt l) { l[peN pt l] with ep := t }).flatMap PE.pv))), (3, .live (.box 107 [qd 7, qc t, qd n, qe a, qd b])), (4, .live (.box 9 [qc pt])), (5, .live (.box 107 [qd 7, qc t, qd n, qe a, qd b]))] (.tup [qc pt, qd 0]) := by
 have hG := zhm 7 t n a b qw qw qw
 have hP := zfk key port l ok pt h0 h
 have hL : (l.flatMap PE.pv).length = l.length * 5 := zas (f := PE.pv) (k := 5) (fun _ => rfl) l
 have hset := zgj h 2 (qg t) { l[peN pt l] with ep := t } rfl qk
 generalize (l.set (peN pt l) { l[peN pt l] with ep := t }).flatMap PE.pv = L' at *
 generalize l.flatMap PE.pv = L at *
 generalize peN pt l = J at *
 refine fnIO fun w0 A heap => ?_
 refine G [12] ?_
 refine jc6 ?_
 refine G [25] ?_
 refine jdm ?_
 refine G [10, 1, 24] ?_
 exact jaM
theorem one8_s (key : ByteArray) (port : Int) (l : List PE) (ok : CF.OK ⟨key, port, l⟩) (pt : ByteArray) (t : ByteArray) (n a b : Int) (h0 : pt ≠ ⟨#[]⟩) (h : peN pt l < l.length) : FnO prog 93 [.ref 0 0, qc pt, .agg [qd 8, qc t, qd n, qe a, qd b]] [(0, .live (.box 24 [qc key, qd port, .row 1])), (1, .live (.row 48 5 l.length (l.flatMap PE.pv))), (3, .un), (4, .un), (5, .un)] [(0, .live (.box 24 [qc key, qd port, .row 1])), (1, .live (.row 48 5 l.length ((l.set (peN pt l) { l[peN pt l] with al := n }).flatMap PE.pv))), (3, .live (.box 107 [qd 8, qc t, qd n, qe a, qd b])), (4, .live (.box 9 [qc pt])), (5, .live (.box 107 [qd 8, qc t, qd n, qe a, qd b]))] (.tup [qc pt, qd 0]) := by
 have hG := zhm 8 t n a b qw qw qw
 have hP := zfk key port l ok pt h0 h
 have hL : (l.flatMap PE.pv).length = l.length * 5 := zas (f := PE.pv) (k := 5) (fun _ => rfl) l
 have hset := zgj h 3 (qh n) { l[peN pt l] with al := n } rfl qk
 generalize (l.set (peN pt l) { l[peN pt l] with al := n }).flatMap PE.pv = L' at *
 generalize l.flatMap PE.pv = L at *
 generalize peN pt l = J at *
 refine fnIO fun w0 A heap => ?_
 refine G [12] ?_
 refine jc6 ?_
 refine G [25] ?_
 refine jdm ?_
 refine G [10, 1, 30] ?_
 (first | refine zaa zbC rfl rfl ?_ | refine zaa za9 rfl rfl ?_)
 refine G [3] ?_
 skip
 refine G [6] ?_
 refine zab (zbX (Y := qd n) (ys := [qh n]) sz3 rfl rfl rfl qk hset) rfl rfl ⟨rfl, trivial⟩ ?_
 refine G [8] ?_
 refine jc9 ?_ ?_ ?_
 ·exact rfl
 ·exact jbq
 ·exact ja7
theorem one9_s (key : ByteArray) (port : Int) (l : List PE) (ok : CF.OK ⟨key, port, l⟩) (pt : ByteArray) (t : ByteArray) (n a b : Int) (h0 : pt ≠ ⟨#[]⟩) (h : peN pt l < l.length) : FnO prog 93 [.ref 0 0, qc pt, .agg [qd 9, qc t, qd n, qe a, qd b]] [(0, .live (.box 24 [qc key, qd port, .row 1])), (1, .live (.row 48 5 l.length (l.flatMap PE.pv))), (3, .un), (4, .un), (5, .un)] [(0, .live (.box 24 [qc key, qd port, .row 1])), (1, .live (.row 48 5 l.length ((l.set (peN pt l) { l[peN pt l] with nets := [] }).flatMap PE.pv))), (3, .live (.box 107 [qd 9, qc t, qd n, qe a, qd b])), (4, .live (.box 9 [qc pt])), (5, .live (.box 107 [qd 9, qc t, qd n, qe a, qd b]))] (.tup [qc pt, qd 0]) := by
 have hG := zhm 9 t n a b qw qw qw
 have hP := zfk key port l ok pt h0 h
 have hL : (l.flatMap PE.pv).length = l.length * 5 := zas (f := PE.pv) (k := 5) (fun _ => rfl) l
 have hset := zgj h 4 (.sl 0 2 []) { l[peN pt l] with nets := [] } rfl qk
 generalize (l.set (peN pt l) { l[peN pt l] with nets := [] }).flatMap PE.pv = L' at *
 generalize l.flatMap PE.pv = L at *
 generalize peN pt l = J at *
 refine fnIO fun w0 A heap => ?_
 refine G [12] ?_
 refine jc6 ?_
 refine G [25] ?_
 refine jdm ?_
 refine G [10, 1, 36] ?_
 (first | refine zaa zbC rfl rfl ?_ | refine zaa za9 rfl rfl ?_)
 refine G [3] ?_
 skip
 refine G [4] ?_
 refine zab (zhw (nil_sl (.ref 1 (J * 5 + 4)) 2) (zbX (Y := .p (.sl 0 2 [])) (ys := [.sl 0 2 []]) sz46 rfl rfl rfl qk hset)) rfl rfl ⟨rfl, trivial⟩ ?_
 refine G [8] ?_
 refine jc9 ?_ ?_ ?_
 ·exact rfl
 ·exact jbq
 ·exact ja7
def pcA (p : PE) (o : Nat) : List AV := [qc p.key, qc p.sh, qc p.ep, qd p.al, .row o]
def pcs (nm : Nat → Nat) : Nat → List PE → List AV
 | _, [] => []
 | k, p :: l => pcA p (nm k) ++ pcs nm (k + 1) l
def nrow (p : PE) : Slot := .live (.row 82 2 p.nets.length (p.nets.flatMap ntC))
def fams (nm : Nat → Nat) : Nat → List PE → List (Nat × Slot)
 | _, [] => []
 | k, p :: l => (nm k, nrow p) :: fams nm (k + 1) l
theorem pcs_V (nm : Nat → Nat) : ∀ (l : List PE) (k : Nat), CellV (fams nm k l) (pcs nm k l) (l.flatMap PE.pv)
 | [], k => .nil
 | p :: l, k => by
  rw [pcs, fams, qbb]
  refine CellV.append ?_ ((pcs_V nm l (k + 1)).mono fun x hx => qbS _ hx)
  exact .p _ _ _ (.p _ _ _ (.p _ _ _ (.p _ _ _ (.row _ _ _ _ _ _ _ (qbQ ..) .nil))))
theorem zej (nm : Nat → Nat) : ∀ (l : List PE) (k : Nat), (pcs nm k l).length = l.length * 5
 | [], k => rfl
 | p :: l, k => by rw [pcs, qaC, zej nm l (k + 1), qaO]; simp [pcA]; omega
theorem zcw {nm : Nat → Nat} : ∀ {l : List PE} {k : Nat} {q : Nat × Slot}, q ∈ fams nm k l ↔ ∃ i, ∃ h : i < l.length, q = (nm (k + i), nrow l[i])
 | [], k, q => by simp [fams]
 | p :: l, k, q => by
  rw [fams, qaI, zcw (l := l)]
  constructor
  ·rintro (rfl | ⟨i, h, rfl⟩)
   ·exact ⟨0, qz, qz⟩
   ·exact ⟨i + 1, by simpa using h, by simp [qb7, Nat.add_comm 1 i]⟩
  ·rintro ⟨i, h, rfl⟩
   cases i with
   | zero => exact .inl qz
   | succ i => exact .inr ⟨i, by simpa using h, by simp [qb7, Nat.add_comm 1 i]⟩
theorem zet (nm : Nat → Nat) : ∀ (l : List PE) (k : Nat), (fams nm k l).all (fun p => match p.2 with | .live _ => true | _ => false) = true
 | [], k => rfl
 | p :: l, k => by rw [fams, List.all_cons, zet nm l (k + 1)]; rfl
theorem pcs_at (nm : Nat → Nat) : ∀ (l : List PE) (k i : Nat), i < l.length → (pcs nm k l)[i * 5 + 4]? = some (.row (nm (k + i)))
 | p :: l, k, 0, _ => by rw [pcs]; simp [pcA]
 | p :: l, k, i + 1, h => by
  rw [pcs, qbo (by simp [pcA]; omega)]
  rw [show (i + 1) * 5 + 4 - (pcA p (nm k)).length = i * 5 + 4 by simp [pcA]; omega]
  rw [pcs_at nm l (k + 1) i (by simpa using h), show k + 1 + i = k + (i + 1) by omega]
theorem zg5 (nm : Nat → Nat) : ∀ (l m : List PE) (k : Nat), pcs nm k (l ++ m) = pcs nm k l ++ pcs nm (k + l.length) m
 | [], m, k => rfl
 | p :: l, m, k => by
  rw [qa2, pcs, pcs, zg5 nm l m (k + 1), qaY, qaO]
  congr 3
  omega
theorem zek {nm nm' : Nat → Nat} : ∀ (l : List PE) (k : Nat), (∀ i, i < l.length → nm (k + i) = nm' (k + i)) → pcs nm k l = pcs nm' k l
 | [], k, _ => rfl
 | p :: l, k, h => by
  have h0 := h 0 qz
  rw [qbi] at h0
  have ih := zek (nm := nm) (nm' := nm') l (k + 1) fun i hi => by
   have := h (i + 1) qaj
   rwa [show k + (i + 1) = k + 1 + i by omega] at this
  show pcA p (nm k) ++ pcs nm (k + 1) l = pcA p (nm' k) ++ pcs nm' (k + 1) l
  rw [ih, h0]
theorem zc1 {st : St} : ∀ {L : List (Nat × Slot)}, (∀ p ∈ L, st.heap p.1 = p.2) → Rds st L
 | [], _ => trivial
 | p :: L, h => ⟨h p qz, zc1 fun q hq => h q (by simp [hq])⟩
theorem zch {h : Nat → Slot} {o q : Nat} {s : Slot} (hne : o ≠ q) : updL h [(q, s)] o = h o := by simp only [updL, nbeq hne, cond_false]
theorem zbU {h : Nat → Slot} : ∀ {L : List (Nat × Slot)}, (L.map Prod.fst).Nodup → ∀ p ∈ L, updL h L p.1 = p.2
 | [], _, p, hp => by cases hp
 | (n, s) :: L, hn, p, hp => by
  simp only [qaF, List.nodup_cons] at hn
  rcases qaI.1 hp with rfl | hp
  ·simp [updL]
  ·have hne : p.1 ≠ n := fun e => hn.1 (e ▸ qaJ.2 ⟨p, hp, rfl⟩)
   simp only [updL, nbeq hne, cond_false]
   exact zbU hn.2 p hp
def D0 (key : ByteArray) (port : Int) : Slot := .live (.box 24 [qc key, qd port, .row 1])
theorem peerT_s (key : ByteArray) (port : Int) (l : List PE) (ok : CF.OK ⟨key, port, l⟩) (pt : ByteArray) (cs : List AV) (fam : List (Nat × Slot)) (hV : CellV fam cs (l.flatMap PE.pv)) (hl : fam.all (fun p => match p.2 with | .live _ => true | _ => false) = true)
 (hnd : ((0 :: 1 :: fam.map Prod.fst)).Nodup) (h0 : pt ≠ ⟨#[]⟩) (h1 : peN pt l < l.length) :
 FnO prog 130 [.ref 0 0, qc pt] ((0, D0 key port) :: (1, .live (.rowA 48 5 l.length none cs)) :: fam) ((0, D0 key port) :: (1, .live (.rowA 48 5 l.length none cs)) :: fam) (.tup [.ref 1 (peN pt l * 5), qd 0]) := by
 have hF := zep ⟨key, port, l⟩ ok pt
 change Fn prog _ [.agg [qc key, qd port, .p (.sl l.length 5 (l.flatMap PE.pv))], _] (if peN pt l < l.length then _ else _) _ at hF
 rw [if_pos h1] at hF
 have hn := ok.len
 dsimp only at hn
 clear ok
 generalize l.flatMap PE.pv = L at *
 generalize peN pt l = N at *
 obtain ⟨fam', hfam'⟩ : ∃ f : List (Nat × Slot), (0, D0 key port) :: (1, .live (.rowA 48 5 l.length none cs)) :: fam = f := ⟨_, rfl⟩
 have hnd' : (fam'.map Prod.fst).Nodup := by rw [← hfam']; exact hnd
 rw [hfam']
 refine fnIO fun w0 A heap => ?_
 have hall := zbU (h := heap) hnd'
 have e0 : updL heap fam' 0 = D0 key port := hall (0, D0 key port) (by rw [← hfam']; exact qbQ ..)
 have e1 : updL heap fam' 1 = .live (.rowA 48 5 l.length none cs) := hall (1, .live (.rowA 48 5 l.length none cs)) (by rw [← hfam']; exact qbS _ (qbQ ..))
 have e12 : ∀ p ∈ (1, Slot.live (.rowA 48 5 l.length none cs)) :: fam, updL heap fam' p.1 = p.2 := fun p hp => hall p (by rw [← hfam']; exact qbS _ hp)
 obtain ⟨H, hH⟩ : ∃ H, updL heap fam' = H := ⟨_, rfl⟩
 rw [hH] at hall e0 e1 e12 ⊢
 unfold D0 at e0
 refine G [9] ?_
 refine zab (zaf (es := [qc key, qd port, .row 1]) U24 rfl sz24 (qaA rfl) rfl) rfl rfl ⟨e0, trivial⟩ ?_
 refine mP rfl rfl ?_
 refine zab (a_callD (fam := fam) (ps := L) func42 rfl rfl hV hl hF rfl rfl) rfl rfl (zc1 e12) ?_
 refine G [10, 3, 12] ?_
 refine zab (zbq U22 rfl rfl) rfl rfl ⟨e0, trivial⟩ ?_
 refine mP rfl rfl ?_
 refine zab (zaF U22 sz48 qk qk (q := N * 5) qaq) rfl rfl ⟨e1, trivial⟩ ?_
 refine G [4] ?_
 refine jc9 ?_ ?_ ?_
 ·exact rfl
 ·exact zc1 fun p hp => hall p hp
 ·intro o ho
  show H o = heap o
  rw [← hH]
  refine zaz fun hm => ?_
  obtain ⟨p, hp, rfl⟩ := qaJ.1 hm
  have := List.any_eq_false.1 ho p hp
  simp at this
end Go.Proofs.YtlfjpippeeikdaaGreatDoor
