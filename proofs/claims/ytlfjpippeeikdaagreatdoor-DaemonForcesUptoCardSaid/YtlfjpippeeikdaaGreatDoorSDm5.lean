/- The reference's DaemonFault, over data. -/
import Derived.Test.YtlfjpippeeikdaaGreatDoorSDm4
set_option linter.all false
namespace Go.Proofs.YtlfjpippeeikdaaGreatDoor
open Tryz
open Go.RowKit Go.Sort
set_option maxHeartbeats 16000000
set_option maxRecDepth 100000
theorem refDm_s (d : DM) (ok : d.OK) : Fn prog 19 [.agg d.cells] (qd (dmE d)) [] := by
 have hC := zaX d.c ok.c
 have hS := refStates_s d.ps (fun s hs => (ok.ps s hs).1) ok.psN
 have hG := zhO d.sg ok.sg
 have hM := rmost_s d.ps ok.psN
 have hT := fun h0 => rtree_s d.c ok.c h0
 have hfew : cfE d.c = 0 → (tOf (zav d.c.ps d.c.ps.length)).list.length ≤ 4611686018427387904 := fun h0 => by
  exact jbY
 have hn := ok.psN
 have hnq := ok.c.len
 have hnt : d.tree.length ≤ 4611686018427387904 := by have := ok.treeN; omega
 obtain ⟨E, hE⟩ : ∃ E, dmE d = E := ⟨_, rfl⟩
 rw [hE]
 unfold dmE zg4 goodD at hE
 generalize cfE d.c = e0 at *
 generalize stsE d.ps = e1' at *
 generalize sgE d.sg = e2 at *
 generalize mostD d.ps = mo at *
 clear ok
 obtain ⟨⟨k1, p1, q1⟩, t1, s1, ⟨v1, r1, ⟨sk1, sp1, sq1⟩, a1, e1⟩, g1, w1, l1'⟩ := d
 dsimp only at hC hS hG hM hT hfew hn hnq hnt hE
 generalize (tOf (zav q1 q1.length)).list = TL at *
 change Fn prog _ [.agg [qc k1, qd p1, .p (.sl q1.length 5 (q1.flatMap PE.pv))]] _ _ at hC
 change ∀ h0, Fn prog _ [.agg [qc k1, qd p1, .p (.sl q1.length 5 (q1.flatMap PE.pv))]] _ _ at hT
 change Fn prog _ [.agg (sgV v1 (sesV r1) sk1 sp1 (CF.row ⟨sk1, sp1, sq1⟩) a1 e1)] _ _ at hG
 show Fn prog _ [.agg (dmC k1 p1 (.sl q1.length 5 (q1.flatMap PE.pv)) (.sl t1.length 4 (nds t1)) (.sl s1.length 41 (s1.flatMap ST.pv)) v1 (sesV r1) sk1 sp1 (CF.row ⟨sk1, sp1, sq1⟩) a1 e1 g1 w1 l1')] _ _
 generalize CF.row ⟨sk1, sp1, sq1⟩ = SQ1 at *
 generalize sesV r1 = R1 at *
 have hchT := fun (i : Nat) (x : ND) (h : TL[i]? = some x) => zaj (f := ND.pv) (k := 4) (fun _ => rfl) h
 have hleT := fun (i : Nat) (h : i < TL.length) => zak (f := ND.pv) (k := 4) (fun _ => rfl) h
 have hcht := fun (i : Nat) (x : ND) (h : t1[i]? = some x) => zaj (f := ND.pv) (k := 4) (fun _ => rfl) h
 have hlet := fun (i : Nat) (h : i < t1.length) => zak (f := ND.pv) (k := 4) (fun _ => rfl) h
 have hchS := fun (i : Nat) (x : ST) (h : s1[i]? = some x) => zaj (f := ST.pv) (k := 41) (fun _ => rfl) h
 have hleS := fun (i : Nat) (h : i < s1.length) => zak (f := ST.pv) (k := 41) (fun _ => rfl) h
 have hchQ := fun (i : Nat) (x : PE) (h : q1[i]? = some x) => zaj (f := PE.pv) (k := 5) (fun _ => rfl) h
 have hleQ := fun (i : Nat) (h : i < q1.length) => zak (f := PE.pv) (k := 5) (fun _ => rfl) h
 change ∀ (i : Nat) (x : ND), TL[i]? = some x → ((nds TL).drop (i * 4)).take 4 = x.pv at hchT
 change ∀ (i : Nat), i < TL.length → i * 4 + 4 ≤ (nds TL).length at hleT
 change ∀ (i : Nat) (x : ND), t1[i]? = some x → ((nds t1).drop (i * 4)).take 4 = x.pv at hcht
 change ∀ (i : Nat), i < t1.length → i * 4 + 4 ≤ (nds t1).length at hlet
 generalize nds TL = TN at *
 generalize nds t1 = T1 at *
 generalize s1.flatMap ST.pv = L at *
 generalize q1.flatMap PE.pv = QL at *
 refine fnI fun w0 A => ?_
 refine G [10] ?_
 refine cK hC ?_
 refine jcS ?_
 refine cX ?_ ?_ <;> intro h
 ·have h1 : e0 ≠ 0 := by simpa using h
  exact jaX
 have z0 : e0 = 0 := by simpa using h
 clear h
 rw [if_neg (by rw [z0]; simp)] at hE
 refine G [6] ?_
 refine cK hS ?_
 refine jcS ?_
 refine cX ?_ ?_ <;> intro h
 ·have h1 : e1' ≠ 0 := by simpa using h
  exact jaX
 have z1 : e1' = 0 := by simpa using h
 clear h
 rw [if_neg (by rw [z1]; simp)] at hE
 refine G [6] ?_
 refine cK hG ?_
 refine jcS ?_
 refine cX ?_ ?_ <;> intro h
 ·have h1 : e2 ≠ 0 := by simpa using h
  exact jaX
 have z2 : e2 = 0 := by simpa using h
 clear h
 rw [if_neg (by rw [z2]; simp)] at hE
 have hT := hT z0
 have hfew := hfew z0
 clear hC hS hG z0 z1 z2
 refine G [11, 2, 4, 2, 4, 2, 5] ?_
 refine mb2 _ rfl rfl (fun _ => zbl func49 rfl rfl (hM) qr rfl) (fun _ => trivial) ?_
 refine G [1, 2, 4, 2, 1, 9, 0] ?_
 refine cX ?_ ?_ <;> intro h
 ·have h1 : g1 < 0 ∨ 1099511627776 < g1 ∨ w1 < 0 ∨ 1099511627776 < w1 ∨ l1' < mo ∨ 4294967235 < l1' := by
   simp at h
   simp only [or_assoc] at h
   omega
  exact jbK
 have h1 : ¬ (g1 < 0 ∨ 1099511627776 < g1 ∨ w1 < 0 ∨ 1099511627776 < w1 ∨ l1' < mo ∨ 4294967235 < l1') := by
  simp at h
  omega
 clear h
 rw [if_neg h1] at hE
 clear h1
 refine G [5] ?_
 refine cK hT ?_
 refine G [6] ?_
 refine zbd (zdO (cs := TN) 64 rfl) ?_
 clear hT hM
 obtain ⟨g0, hg0⟩ : ∃ g0 : Bool, decide (TL.length = t1.length ∧ s1.length = q1.length) = g0 := ⟨_, rfl⟩
 refine zan (zde (St.of [(1, .ref 1 0), (6, .p (.sl TL.length 4 TN)), (8, qf g0)] [(1, .box 32 (dmC k1 p1 (.sl q1.length 5 QL) (.sl t1.length 4 T1) (.sl s1.length 41 L) v1 R1 sk1 sp1 SQ1 a1 e1 g1 w1 l1'))]) ?_ ?_)
 ·by_cases h1 : TL.length = t1.length
  ·by_cases h2 : s1.length = q1.length
   ·have : g0 = true := by rw [← hg0]; exact decide_eq_true ⟨h1, h2⟩
    subst this
    skip
    refine G [6, 4, 8, 4, 3, 9, 0] ?_
    exact jau
   ·have : g0 = false := by rw [← hg0]; exact decide_eq_false fun h => h2 h.2
    subst this
    skip
    refine G [6, 4, 8, 3, 3, 9, 0] ?_
    exact jau
  ·have : g0 = false := by rw [← hg0]; exact decide_eq_false fun h => h1 h.1
   subst this
   skip
   refine G [6, 3, 12, 9, 0] ?_
   exact jau
 have hg0T : g0 = true → TL.length = t1.length ∧ s1.length = q1.length := fun h => by rw [h] at hg0; exact of_decide_eq_true hg0
 have hg0F : g0 = false → ¬ (TL.length = t1.length ∧ s1.length = q1.length) := fun h => by rw [h] at hg0; exact of_decide_eq_false hg0
 clear hg0
 obtain ⟨gA, hgA⟩ : ∃ gA : Bool, (g0 && eqB TL t1) = gA := ⟨_, rfl⟩
 refine G [6] ?_
 refine zeu (St.of [(1, .ref 1 0), (8, qf gA)] [(1, .box 32 (dmC k1 p1 (.sl q1.length 5 QL) (.sl t1.length 4 T1) (.sl s1.length 41 L) v1 R1 sk1 sp1 SQ1 a1 e1 g1 w1 l1'))]) ?_ ?_
 ·refine zae (fun m st => ∃ (i : Nat) (g : Bool), m + i = TL.length ∧ (g = true → g0 = true ∧ ∀ j, j < i → TL[j]? = t1[j]?) ∧ (g = false → gA = false) ∧ st = St.of [(1, .ref 1 0), (6, .p (.sl TL.length 4 TN)), (8, qf g), (9, qd i)] [(1, .box 32 (dmC k1 p1 (.sl q1.length 5 QL) (.sl t1.length 4 T1) (.sl s1.length 41 L) v1 R1 sk1 sp1 SQ1 a1 e1 g1 w1 l1'))]) TL.length ?_ ?_
  ·refine ⟨_, zad id _ _ ?_ ?_ rfl, 0, g0, qk, fun h => ⟨h, fun j hj => by omega⟩, fun h => ?_, rfl⟩
   ·exact ja5
   ·exact ⟨⟨rfl, rfl⟩, trivial⟩
   ·rw [← hgA, h]; rfl
  rintro m st ⟨i, g, hi, hgt, hgf, rfl⟩
  cases g with
  | false =>
   have hA := hgf rfl
   subst hA
   refine G [13, 9, 0] ?_
   exact zad id _ _ qp qp rfl
  | true =>
   obtain ⟨hg1, hpre⟩ := hgt rfl
   obtain ⟨hlt', hls⟩ := hg0T hg1
   by_cases hlt : i < TL.length
   ·obtain ⟨x, hx⟩ : ∃ x, TL[i]? = some x := ⟨TL[i], List.getElem?_eq_getElem hlt⟩
    obtain ⟨y, hy⟩ : ∃ y, t1[i]? = some y := ⟨t1[i]'qk, List.getElem?_eq_getElem qk⟩
    have hch := hchT i x hx
    have hle := hleT i hlt
    have hch2 := hcht i y hy
    have hle2 := hlet i qk
    have hbad := zg0 hx hy
    have hxy : x = y → TL[i]? = t1[i]? := fun e => by rw [hx, hy, e]
    obtain ⟨xa, xn, xo, xs⟩ := x
    obtain ⟨ya, yn, yo, ys⟩ := y
    refine G [8, 4, 3] ?_
    by_cases he : (⟨xa, xn, xo, xs⟩ : ND) = ⟨ya, yn, yo, ys⟩
    ·refine G [13] ?_
     refine zaa (zb3 U84 (xs := [.int .u32 xa, .int .i64 xn, .string xo, .int .i64 xs]) (ys := [.int .u32 ya, .int .i64 yn, .string yo, .int .i64 ys]) rfl rfl qm qm qm (c := true) (zaP.2 (by simp at he; simp [he]))) rfl rfl ?_
     refine G [7, 9, 0] ?_
     refine ⟨m - 1, qk, _, zad id _ _ ?_ ?_ rfl, i + 1, true, qk, fun _ => ⟨hg1, fun j hj => ?_⟩, fun h => (by cases h), rfl⟩
     ·(repeat (first | exact trivial | (refine ⟨⟨qu, rfl⟩, ?_⟩)))
     ·exact ⟨⟨rfl, rfl⟩, trivial⟩
     ·by_cases e : j = i
      ·rw [e]; exact hxy he
      ·exact hpre j qk
    ·refine G [13] ?_
     refine zaa (zb3 U84 (xs := [.int .u32 xa, .int .i64 xn, .string xo, .int .i64 xs]) (ys := [.int .u32 ya, .int .i64 yn, .string yo, .int .i64 ys]) rfl rfl qm qm qm (c := false) (zdH.2 (fun e => he (by simp at e; simp [e])))) rfl rfl ?_
     refine G [7, 9, 0] ?_
     refine ⟨m - 1, qk, _, zad id _ _ ?_ ?_ rfl, i + 1, false, qk, fun h => (by cases h), fun _ => ?_, rfl⟩
     ·(repeat (first | exact trivial | (refine ⟨⟨qu, rfl⟩, ?_⟩)))
     ·exact ⟨⟨rfl, rfl⟩, trivial⟩
     ·rw [← hgA, zgc (hbad he)]; simp
   ·have hge : i = TL.length := qk
    subst hge
    have hA : gA = true := by rw [← hgA, hg1, ziA (zg1 hlt' hpre)]; rfl
    subst hA
    refine G [8, 3, 4, 9, 0] ?_
    exact zad id _ _ qp qp rfl
 have hgAT : gA = true → (TL = t1 ∧ TL.length = t1.length ∧ s1.length = q1.length) := fun h => by
  rw [h, qaT] at hgA
  exact ⟨zgb.1 hgA.2, hg0T hgA.1⟩
 have hgAF : gA = false → ¬ ((TL = t1 ∧ zgx s1 q1 = true) ∧ ∀ s ∈ s1, okSt k1 w1 s) := fun h hgood => by
  have h1 : g0 = true := by
   cases hq : g0 with
   | true => rfl
   | false =>
    exfalso
    refine hg0F hq ⟨by rw [hgood.1.1], ?_⟩
    by_cases hl : s1.length = q1.length
    ·exact hl
    ·have := keysB_len hl; rw [this] at hgood; cases hgood.1.2
  rw [h, h1, ziA hgood.1.1] at hgA
  cases hgA
 clear hgA hg0T hg0F hchT hleT hcht hlet
 refine G [6] ?_
 refine zae (fun m st => ∃ (i : Nat) (g : Bool), m + i = s1.length ∧ (g = true → gA = true ∧ ∀ j, j < i → ∀ s p, s1[j]? = some s → q1[j]? = some p → s.key = p.key ∧ okSt k1 w1 s) ∧ (g = false → ¬ ((TL = t1 ∧ zgx s1 q1 = true) ∧ ∀ s ∈ s1, okSt k1 w1 s)) ∧ st = St.of [(1, .ref 1 0), (8, qf g), (10, qd i)] [(1, .box 32 (dmC k1 p1 (.sl q1.length 5 QL) (.sl t1.length 4 T1) (.sl s1.length 41 L) v1 R1 sk1 sp1 SQ1 a1 e1 g1 w1 l1'))]) s1.length ?_ ?_
 ·refine ⟨_, zad id _ _ ?_ ?_ rfl, 0, gA, qk, fun h => ⟨h, fun j hj => by omega⟩, hgAF, rfl⟩
  ·exact ja5
  ·exact ⟨⟨rfl, rfl⟩, trivial⟩
 rintro m st ⟨i, g, hi, hgt0, hgf, rfl⟩
 cases g with
 | false =>
  rw [if_neg (hgf rfl)] at hE
  subst hE
  refine G [26, 9, 0] ?_
  exact yE
 | true =>
  obtain ⟨hgt, hpre⟩ := hgt0 rfl
  obtain ⟨hTt, hlt', hls⟩ := hgAT hgt
  by_cases hlt : i < s1.length
  ·obtain ⟨x, hx⟩ : ∃ x, s1[i]? = some x := ⟨s1[i], List.getElem?_eq_getElem hlt⟩
   obtain ⟨y, hy⟩ : ∃ y, q1[i]? = some y := ⟨q1[i]'qk, List.getElem?_eq_getElem qk⟩
   have hch := hchS i x hx
   have hle := hleS i hlt
   have hch2 := hchQ i y hy
   have hle2 := hleQ i qk
   have hmem := qaE hx
   have hpk : (QL.drop (i * 5))[0]? = some (qg y.key) := by
    have := congrArg (fun x => x[0]?) hch2
    rw [qa9] at this
    simpa [PE.pv] using this
   have hkn := @keysB_ne s1 q1 i x y hx hy
   have hkbad : x.key ≠ y.key → ¬ ((TL = t1 ∧ zgx s1 q1 = true) ∧ ∀ s ∈ s1, okSt k1 w1 s) := fun hne h => by rw [hkn hne] at h; cases h.1.2
   have hsbad : ¬ okSt k1 w1 x → ¬ ((TL = t1 ∧ zgx s1 q1 = true) ∧ ∀ s ∈ s1, okSt k1 w1 s) := fun hno h => hno (h.2 x hmem)
   clear hkn hch2
   obtain ⟨key, ep, a, b, c, ⟨lv, mine, nc, hb, hs⟩, q⟩ := x
   dsimp only at hkbad hsbad
   refine G [9, 4, 14] ?_
   refine jdZ (zac (Y := .agg (stC key ep a b c ⟨lv, mine, nc, hb, hs⟩ q.length (q.flatMap PQ.pv))) sz60 rfl rfl (qaB rfl)) ?_
   refine zag ?_
   by_cases hkk : key = y.key
   rotate_left
   ·refine G [9] ?_
    refine jdY (zah zgq rfl) ?_
    refine jdY (zaN U9 rfl hpk) ?_
    refine jdY (zaO (c := false) (decide_eq_false hkk)) ?_
    refine G [10] ?_
    by_cases hk : k1 = ⟨#[]⟩
    ·refine G [5] ?_
     refine jdY (zaO (c := true) (decide_eq_true hk)) ?_
     refine G [2] ?_
     skip
     refine G [21, 9, 0] ?_
     refine ⟨m - 1, qk, _, zad id _ _ ?_ ?_ rfl, i + 1, false, qk, ?_, ?_, rfl⟩
     ·(repeat (first | exact trivial | (refine ⟨⟨qu, rfl⟩, ?_⟩)))
     ·exact ⟨⟨rfl, rfl⟩, trivial⟩
     ·intro h; cases h
     ·intro _; exact hkbad hkk
    ·refine G [5] ?_
     refine jdY (zaO (c := false) (decide_eq_false hk)) ?_
     refine G [3, 9, 0] ?_
     skip
     refine G [5, 9, 0] ?_
     refine ⟨m - 1, qk, _, zad id _ _ ?_ ?_ rfl, i + 1, false, qk, ?_, ?_, rfl⟩
     ·(repeat (first | exact trivial | (refine ⟨⟨qu, rfl⟩, ?_⟩)))
     ·exact ⟨⟨rfl, rfl⟩, trivial⟩
     ·intro h; cases h
     ·intro _; exact hkbad hkk
   by_cases ht : hs ≤ w1
   rotate_left
   ·refine G [9] ?_
    refine jdY (zah zgq rfl) ?_
    refine jdY (zaN U9 rfl hpk) ?_
    refine jdY (zaO (c := true) (decide_eq_true hkk)) ?_
    refine G [6, 3, 3] ?_
    have hno : ¬ okSt k1 w1 ⟨key, ep, a, b, c, ⟨lv, mine, nc, hb, hs⟩, q⟩ := fun h => h (.inr (by show w1 < hs; omega))
    by_cases hk : k1 = ⟨#[]⟩
    ·refine G [5] ?_
     refine jdY (zaO (c := true) (decide_eq_true hk)) ?_
     refine G [2] ?_
     skip
     refine G [21, 9, 0] ?_
     refine ⟨m - 1, qk, _, zad id _ _ ?_ ?_ rfl, i + 1, false, qk, ?_, ?_, rfl⟩
     ·(repeat (first | exact trivial | (refine ⟨⟨qu, rfl⟩, ?_⟩)))
     ·exact ⟨⟨rfl, rfl⟩, trivial⟩
     ·intro h; cases h
     ·intro _; exact hsbad hno
    ·refine G [5] ?_
     refine jdY (zaO (c := false) (decide_eq_false hk)) ?_
     refine G [3, 9, 0] ?_
     skip
     refine G [5, 9, 0] ?_
     refine ⟨m - 1, qk, _, zad id _ _ ?_ ?_ rfl, i + 1, false, qk, ?_, ?_, rfl⟩
     ·(repeat (first | exact trivial | (refine ⟨⟨qu, rfl⟩, ?_⟩)))
     ·exact ⟨⟨rfl, rfl⟩, trivial⟩
     ·intro h; cases h
     ·intro _; exact hsbad hno
   refine G [9] ?_
   refine jdY (zah zgq rfl) ?_
   refine jdY (zaN U9 rfl hpk) ?_
   refine jdY (zaO (c := true) (decide_eq_true hkk)) ?_
   refine G [6, 4, 3] ?_
   by_cases hk : k1 = ⟨#[]⟩
   ·refine G [5] ?_
    refine jdY (zaO (c := true) (decide_eq_true hk)) ?_
    refine G [2] ?_
    by_cases hz : a = KY0 ∧ b = KY0 ∧ c = KY0
    ·cases lv with
     | true =>
      skip
      refine G [4] ?_
      refine zab (zaf U55 rfl sz55 qo (show _ = zcB a b c from rfl)) rfl rfl ⟨rfl, trivial⟩ ?_
      refine jdY (zcs pl55 zr55 rfl rfl) ?_
      refine zaa (zb3 U55 (xs := a.vals ++ b.vals ++ c.vals) (ys := KY0.vals ++ KY0.vals ++ KY0.vals) rfl rfl qm qm qm (c := true) (zaP.2 (zcq.2 hz))) rfl rfl ?_
      refine G [9] ?_
      have hno : ¬ okSt k1 w1 ⟨key, ep, a, b, c, ⟨true, mine, nc, hb, hs⟩, q⟩ := fun h => h (.inl ⟨hk, .inr rfl⟩)
      refine zb6 (zaE (G [5, 9, 0] ?_))
      refine ⟨m - 1, qk, _, zad id _ _ ?_ ?_ rfl, i + 1, false, qk, ?_, ?_, rfl⟩
      ·(repeat (first | exact trivial | (refine ⟨⟨qu, rfl⟩, ?_⟩)))
      ·exact ⟨⟨rfl, rfl⟩, trivial⟩
      ·intro h; cases h
      ·intro _; exact hsbad hno
     | false =>
      skip
      refine G [4] ?_
      refine zab (zaf U55 rfl sz55 qo (show _ = zcB a b c from rfl)) rfl rfl ⟨rfl, trivial⟩ ?_
      refine jdY (zcs pl55 zr55 rfl rfl) ?_
      refine zaa (zb3 U55 (xs := a.vals ++ b.vals ++ c.vals) (ys := KY0.vals ++ KY0.vals ++ KY0.vals) rfl rfl qm qm qm (c := true) (zaP.2 (zcq.2 hz))) rfl rfl ?_
      refine G [9] ?_
      have HOK : okSt k1 w1 ⟨key, ep, a, b, c, ⟨false, mine, nc, hb, hs⟩, q⟩ := by
       rintro (⟨_, h | h⟩ | h)
       ·exact h hz
       ·cases h
       ·have h' : w1 < hs := h
        omega
      (repeat (first | refine zan ?_ | refine zax ?_ | refine zay ?_ | refine zaB ?_ | refine zaG ?_ | refine zaE ?_ | refine zbs ?_ | refine zbA ?_ | refine zb6 ?_ | refine zb1 ?_ | refine zb0 ?_ | refine zcM rfl ?_))
      refine G [5, 9, 0] ?_
      refine ⟨m - 1, qk, _, zad id _ _ ?_ ?_ rfl, i + 1, true, qk, ?_, ?_, rfl⟩
      ·(repeat (first | exact trivial | (refine ⟨⟨qu, rfl⟩, ?_⟩)))
      ·exact ⟨⟨rfl, rfl⟩, trivial⟩
      ·intro _
       refine ⟨hgt, fun j hj s p hs hp => ?_⟩
       by_cases e : j = i
       ·subst e; rw [hx] at hs; rw [hy] at hp; cases hs; cases hp; exact ⟨hkk, HOK⟩
       ·exact hpre j qk s p hs hp
      ·intro h; cases h
    ·skip
     refine G [4] ?_
     refine zab (zaf U55 rfl sz55 qo (show _ = zcB a b c from rfl)) rfl rfl ⟨rfl, trivial⟩ ?_
     refine jdY (zcs pl55 zr55 rfl rfl) ?_
     refine zaa (zb3 U55 (xs := a.vals ++ b.vals ++ c.vals) (ys := KY0.vals ++ KY0.vals ++ KY0.vals) rfl rfl qm qm qm (c := false) (zdH.2 (fun e => hz (zcq.1 e)))) rfl rfl ?_
     refine G [9] ?_
     have hno : ¬ okSt k1 w1 ⟨key, ep, a, b, c, ⟨lv, mine, nc, hb, hs⟩, q⟩ := fun h => h (.inl ⟨hk, .inl hz⟩)
     refine zb6 (zaE (G [5, 9, 0] ?_))
     refine ⟨m - 1, qk, _, zad id _ _ ?_ ?_ rfl, i + 1, false, qk, ?_, ?_, rfl⟩
     ·(repeat (first | exact trivial | (refine ⟨⟨qu, rfl⟩, ?_⟩)))
     ·exact ⟨⟨rfl, rfl⟩, trivial⟩
     ·intro h; cases h
     ·intro _; exact hsbad hno
   ·refine G [5] ?_
    refine jdY (zaO (c := false) (decide_eq_false hk)) ?_
    refine G [3, 9, 0] ?_
    have HOK : okSt k1 w1 ⟨key, ep, a, b, c, ⟨lv, mine, nc, hb, hs⟩, q⟩ := by
     rintro (⟨h, _⟩ | h)
     ·exact hk h
     ·have h' : w1 < hs := h
      omega
    (repeat (first | refine zan ?_ | refine zax ?_ | refine zay ?_ | refine zaB ?_ | refine zaG ?_ | refine zaE ?_ | refine zbs ?_ | refine zbA ?_ | refine zb6 ?_ | refine zb1 ?_ | refine zb0 ?_ | refine zcM rfl ?_))
    refine G [5, 9, 0] ?_
    refine ⟨m - 1, qk, _, zad id _ _ ?_ ?_ rfl, i + 1, true, qk, ?_, ?_, rfl⟩
    ·(repeat (first | exact trivial | (refine ⟨⟨qu, rfl⟩, ?_⟩)))
    ·exact ⟨⟨rfl, rfl⟩, trivial⟩
    ·intro _
     refine ⟨hgt, fun j hj s p hs hp => ?_⟩
     by_cases e : j = i
     ·subst e; rw [hx] at hs; rw [hy] at hp; cases hs; cases hp; exact ⟨hkk, HOK⟩
     ·exact hpre j qk s p hs hp
    ·intro h; cases h
  ·have hge : i = s1.length := qk
   subst hge
   have hkall : zgx s1 q1 = true := keysB_all hls fun j hj => by
    have h1 : s1[j]? = some s1[j] := List.getElem?_eq_getElem hj
    have h2 : q1[j]? = some (q1[j]'qk) := List.getElem?_eq_getElem qk
    rw [h1, h2]
    simp [(hpre j hj _ _ h1 h2).1]
   have hall : ∀ s ∈ s1, okSt k1 w1 s := fun s hs => by
    obtain ⟨j, hj, rfl⟩ := List.getElem_of_mem hs
    exact (hpre j hj _ (q1[j]'qk) (List.getElem?_eq_getElem hj) (List.getElem?_eq_getElem qk)).2
   rw [if_pos ⟨⟨hTt, hkall⟩, hall⟩] at hE
   subst hE
   refine G [9, 3, 17, 9, 0] ?_
   exact yE
end Go.Proofs.YtlfjpippeeikdaaGreatDoor
