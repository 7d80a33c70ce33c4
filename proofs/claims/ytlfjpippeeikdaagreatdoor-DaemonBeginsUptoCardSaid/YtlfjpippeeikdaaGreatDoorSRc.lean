/- Used. -/
import Derived.Test.YtlfjpippeeikdaaGreatDoorSDm1
import Derived.Lib.Overlaps
import Derived.Lib.AppendZerosOnto
set_option maxRecDepth 100000
set_option maxHeartbeats 16000000
set_option linter.all false
namespace Go.Proofs.YtlfjpippeeikdaaGreatDoor
open Go.RowKit
open Go.Sort
set_option maxRecDepth 100000 in
theorem numbers_s (X : List AV) (a b c d : Int) (h5 : X[5]? = some (.p (.v (.int .i64 a)))) (h16 : X[16]? = some (.p (.v (.int .i64 b)))) (h27 : X[27]? = some (.p (.v (.int .i64 c)))) (h36 : X[36]? = some (.p (.v (.int .i64 d)))) :
 Fn Tryz.prog 70 [.agg X] (.agg [.p (.v (.int .i64 0)), .p (.v (.int .i64 a)), .p (.v (.int .i64 b)), .p (.v (.int .i64 c)), .p (.v (.int .i64 d))]) [] := by
 refine zcr Tryz.func70 rfl (qbe rfl) fun w0 A => ?_
 refine zal (zaB qr ?_)
 (refine zab (a_box (X := .agg _) 1 rfl) rfl rfl ⟨rfl, trivial⟩ ?_)
 (refine zab (zaW 2 zr114 rfl) rfl rfl ⟨rfl, trivial⟩ ?_)
 refine zaf (zal (zaB qr ?_))
 (refine zaa (zar zhQ rfl) rfl rfl ?_)
 (refine zaa (zar fi55_0 rfl) rfl rfl ?_)
 (refine zaa (zar ziv rfl) rfl rfl ?_)
 (refine zab (zbr Tryz.underlying3 rfl qV) rfl rfl ⟨rfl, trivial⟩ ?_)
 (refine zaa (zar zhQ rfl) rfl rfl ?_)
 (refine zaa (zar fi55_1 rfl) rfl rfl ?_)
 (refine zaa (zar ziv rfl) rfl rfl ?_)
 (refine zab (zbr Tryz.underlying3 rfl qV) rfl rfl ⟨rfl, trivial⟩ ?_)
 (refine zaa (zar zhQ rfl) rfl rfl ?_)
 (refine zaa (zar fi55_2 rfl) rfl rfl ?_)
 (refine zaa (zar ziv rfl) rfl rfl ?_)
 (refine zab (zbr Tryz.underlying3 rfl qV) rfl rfl ⟨rfl, trivial⟩ ?_)
 (refine zaa (zar fi60_3 rfl) rfl rfl ?_)
 (refine zaa (zar fi57_1 rfl) rfl rfl ?_)
 (refine zab (zbr Tryz.underlying3 rfl qV) rfl rfl ⟨rfl, trivial⟩ ?_)
 (refine zaa (zeR Tryz.underlying114 zr114 rfl sz3 rfl) rfl rfl ?_)
 (refine zab (zad (Y := .agg _) sz114 rfl qI (qbf rfl)) rfl rfl ⟨rfl, trivial⟩ ?_)
 refine zaf (zaA (⟨qO, _, (fun o => o), (.cellN _ _ _ _ _ _ _ _ _ rfl rfl Tryz.underlying114 rfl sz114 qax .nil), ?_, rfl, ?_, rfl⟩))
 ·kernel_rfl
 ·exact trivial
def idxI (n : Int) : List Int → Int
 | [] => -1
 | x :: xs => if n = x then 0 else if idxI n xs < 0 then -1 else idxI n xs + 1
def is (xs : List Int) : List PV := xs.map fun x => .v (.int .i64 x)
theorem is_at {xs : List Int} {k : Nat} (h : k < xs.length) : (is xs)[k]? = some (.v (.int .i64 xs[k])) := by simp [is, h]
theorem idxI_at {n : Int} : ∀ {xs : List Int} {k : Nat}, (hk : k < xs.length) → n = xs[k] → (∀ j, (hj : j < k) → n ≠ xs[j]) → idxI n xs = k
 | x :: xs, 0, _, h, _ => by
  have : n = x := qz
  simp [idxI, this]
 | x :: xs, k + 1, hk, h, hb => by
  have h0 : n ≠ x := by simpa using hb 0 qp
  have ih := idxI_at (xs := xs) (k := k) (by simpa using hk) qz (fun j hj => by simpa using hb (j + 1) qp)
  simp only [idxI, if_neg h0, ih]
  rw [if_neg (by omega)]
  omega
theorem idxI_none {n : Int} : ∀ {xs : List Int}, (∀ j, (hj : j < xs.length) → n ≠ xs[j]) → idxI n xs = -1
 | [], _ => rfl
 | x :: xs, hb => by
  have h0 : n ≠ x := hb 0 qC
  have ih := idxI_none (n := n) (xs := xs) (fun j hj => hb (j + 1) (by simpa using hj))
  simp [idxI, h0, ih]
set_option maxRecDepth 100000 in
theorem index_s (xs : List Int) (n : Int) (N : Nat) (hN : xs.length = N) (hm : N ≤ 100000) : Fn Tryz.prog 106 [.p (.sl N 1 (is xs)), .p (.v (.int .i64 n))] (.p (.v (.int .i64 (idxI n xs)))) [] := by
 refine zcr Tryz.func106 rfl (qbe rfl) fun w0 A => ?_
 refine zal (zaB qr ?_)
 (refine zaa (zaO (r := .p _)) rfl rfl ?_)
 refine zaf (zal (zal (zaB qr ?_)))
 (refine zaa (zaF (r := .p _)) rfl rfl ?_)
 (refine zaa (zeg Tryz.underlying112) rfl rfl ?_)
 (refine zaa (zaF (r := .p _)) rfl rfl ?_)
 refine zaf (zaw (zac (fun m st => ∃ k : Nat, m + k = N ∧ (∀ j, (hj : j < k) → (hj2 : j < xs.length) → n ≠ xs[j]) ∧ st = St.of [(0, .p (.sl N 1 (is xs))), (1, .p (.v (.int .i64 n))), (7, .p (.v (.int .i64 N))), (8, .p (.v (.int .i64 k)))] []) N ?_ ?_))
 ·refine ⟨_, zae id _ _ ?_ ?_ rfl, 0, qp, fun j hj => by omega, rfl⟩
  ·(repeat (first | exact trivial | (refine ⟨⟨qH, rfl⟩, ?_⟩)))
  ·exact trivial
 rintro m st ⟨k, hk, hb, rfl⟩
 refine zal (zaB qr ?_)
 (refine zaa a_lss rfl rfl ?_)
 refine zaf (zal (zb7 _ rfl (fun h => ?_) (fun h => ?_)))
 ·have hlt : k < N := qz
  clear h
  have hx : k < xs.length := qp
  have hat := is_at hx
  refine zaE (zal (zaw (zal (zaB qr ?_))))
  (refine zaa (zaF (r := .p _)) rfl rfl ?_)
  (refine zaa (zaO (r := .p _)) rfl rfl ?_)
  refine zaf (zal (zaB qr ?_))
  (refine zaa (zaF (r := .p _)) rfl rfl ?_)
  (refine zaa (zaF (r := .p _)) rfl rfl ?_)
  (refine zaa (zaF (r := .p _)) rfl rfl ?_)
  (refine zaa (zaZ Tryz.underlying112 sz3 qp qp rfl) rfl rfl ?_)
  (refine zaa (zaG Tryz.underlying3 rfl qy) rfl rfl ?_)
  (refine zaa zbH rfl rfl ?_)
  refine zaf (zaH (zb7 _ rfl (fun h => ?_) (fun h => ?_)))
  ·have he : n = xs[k] := qz
   refine zal (zaB qr ?_)
   (refine zaa (zaF (r := .p _)) rfl rfl ?_)
   (refine zaa (zaO (r := .p _)) rfl rfl ?_)
   refine zaf (zaA (zcl (zbA (zbA (zcl (zbA (⟨qO, _, (fun o => o), (.tmp _ _ _ _ rfl .nil), ?_, rfl, ?_, rfl⟩)))))))
   ·rw [idxI_at hx he fun j hj => hb j hj (by omega)]; kernel_rfl
   ·exact trivial
  ·have he : n ≠ xs[k] := qz
   refine zaE (zcq (zaH (zaB qr ?_)))
   (refine zaa (zgF qT) rfl rfl ?_)
   (refine zaa (zaF (r := .p _)) rfl rfl ?_)
   refine zaf (zaH (⟨m - 1, qp, _, zae id _ _ ?_ ?_ rfl, k + 1, qp, fun j hj hj2 => ?_, rfl⟩))
   ·(repeat (first | exact trivial | (refine ⟨⟨qH, rfl⟩, ?_⟩)))
   ·exact trivial
   ·by_cases e : j = k
    ·subst e; exact he
    ·exact hb j qp hj2
 ·have hge : ¬ k < N := qz
  refine zaJ (zal (zaB qr ?_))
  (refine zaa (zaO (r := .p _)) rfl rfl ?_)
  refine zaf (zaA (⟨qO, _, (fun o => o), (.tmp _ _ _ _ rfl .nil), ?_, rfl, ?_, rfl⟩))
  ·rw [idxI_none fun j hj => hb j (by omega) hj]; kernel_rfl
  ·exact trivial
open Tryz
theorem idxI_ge (n : Int) : ∀ xs : List Int, (0 ≤ idxI n xs ↔ n ∈ xs)
 | [] => by simp [idxI]
 | x :: xs => by
  have ih := idxI_ge n xs
  unfold idxI
  by_cases h : n = x
  ·rw [if_pos h]; simp [h]
  ·rw [if_neg h]
   by_cases h2 : idxI n xs < 0
   ·rw [if_pos h2]
    simp only [qbm, h, false_or]
    rw [← ih]; omega
   ·rw [if_neg h2]
    simp only [qbm, h, false_or]
    rw [← ih]; omega
theorem ziz (xs : List Int) (n : Int) (N : Nat) (hN : xs.length = N) (hm : N ≤ 100000) : Fn prog 71 [ql N 1 (is xs), qd n] (qf (decide (n ∈ xs))) [] := by
 have hI := index_s xs n N hN hm
 have hge := idxI_ge n xs
 have hB : decide (n ∈ xs) = decide (0 ≤ idxI n xs) := by simp only [hge]
 rw [hB]
 generalize idxI n xs = k at *
 refine fnI fun w0 A => ?_
 refine G [8] ?_
 refine cV hI ?_
 exact jdh
def za3 (s : ST) : List Int := [s.a.mine, s.b.mine, s.c.mine, s.h.mine]
def dupB : List Int → List Int → Bool
 | _, [] => false
 | acc, n :: r => (decide (0 < n) && decide (n ∈ acc)) || dupB (acc ++ [n]) r
def stG (l : List ST) (i : Nat) : ST := l.getD i ⟨⟨#[]⟩, ⟨#[]⟩, KY0, KY0, KY0, HS0, []⟩
def allN (l : List ST) (i : Nat) : List Int := (l.take i).flatMap za3
noncomputable def zfu (l : List ST) (i : Nat) : Int :=
 if stE (stG l i) ≠ 0 then stE (stG l i) else if 0 < i ∧ leK (stG l i).key (stG l (i - 1)).key = true then 6
 else if dupB (allN l i) (za3 (stG l i)) = true then 6 else 0
noncomputable def stsE (l : List ST) : Int := if 6 < l.length then 1 else fnz (zfu l) l.length
theorem ziw : ∀ (ns acc acc' : List Int), (∀ n, 0 < n → (n ∈ acc ↔ n ∈ acc')) → dupB acc ns = dupB acc' ns
 | [], _, _, _ => rfl
 | n :: r, acc, acc', h => by
  unfold dupB
  rw [ziw r (acc ++ [n]) (acc' ++ [n]) fun k hk => by simp [h k hk]]
  by_cases hn : 0 < n
  ·simp [hn, h n hn]
  ·simp [hn]
theorem dupB_zero (acc ns : List Int) : dupB acc (0 :: ns) = dupB (acc ++ [0]) ns := by simp [dupB]
def allT (l : List ST) (i : Nat) : List Int := (l.take i).flatMap fun s => 0 :: za3 s
theorem allT_next {l : List ST} {i : Nat} {s : ST} (h : l[i]? = some s) : allT l (i + 1) = allT l i ++ (0 :: za3 s) := by
 obtain ⟨h1, h2⟩ := qbl.1 h
 unfold allT
 exact jch
theorem allT_len (l : List ST) {i : Nat} (h : i ≤ l.length) : (allT l i).length = 5 * i := by
 unfold allT
 rw [zap (k := 5) (fun _ => rfl), List.length_take]
 omega
theorem allT_N (l : List ST) (i : Nat) (n : Int) (hn : 0 < n) : n ∈ allT l i ↔ n ∈ allN l i := by
 unfold allT allN
 simp only [List.mem_flatMap, qbm]
 constructor
 ·rintro ⟨s, h1, h2 | h2⟩
  ·omega
  ·exact ⟨s, h1, h2⟩
 ·rintro ⟨s, h1, h2⟩
  exact ⟨s, h1, .inr h2⟩
theorem dupT (l : List ST) (i : Nat) (s : ST) : dupB (allT l i) (0 :: za3 s) = dupB (allN l i) (za3 s) := by
 rw [dupB_zero]
 exact ziw _ _ _ fun n hn => by
  rw [qbz, qcu, allT_N l i n hn]
  constructor
  ·rintro (h | h)
   ·exact h
   ·omega
  ·exact .inl
theorem stG_at {l : List ST} {i : Nat} {s : ST} (h : l[i]? = some s) : stG l i = s := by unfold stG; rw [List.getD_eq_getElem?_getD, h]; rfl
theorem is_push (X : List Int) (n : Int) : is X ++ [qh n] = is (X ++ [n]) := by simp [is]
theorem is_len (X : List Int) : (is X).length = X.length := by simp [is]
theorem tabCheck_s (l : List ST) (ok : ∀ s ∈ l, s.OK) (hn : l.length ≤ 1048576) : Fn prog 34 [ql l.length 41 (l.flatMap ST.pv)] (.p (.v (.int .i64 (stsE l)))) [] := by
 obtain ⟨E, hE⟩ : ∃ E, stsE l = E := ⟨_, rfl⟩
 rw [hE]
 unfold stsE at hE
 refine fnI fun w0 A => ?_
 refine G [11, 9, 0] ?_
 refine cX ?_ ?_ <;> intro h
 ·exact jb7
 have h6 : ¬ 6 < l.length := qu
 clear h
 rw [if_neg h6] at hE
 refine G [12, 9, 0] ?_
 refine zaK (zbF 3 100 3 1 rfl rfl) ?_
 refine zaw (zac (fun m st => ∃ i : Nat, m + i = l.length ∧ (∀ j, j < i → zfu l j = 0) ∧ st = St.of [(0, ql l.length 41 (l.flatMap ST.pv)), (3, .row 100), (12, ql l.length 41 (l.flatMap ST.pv)), (13, .p (.v (.int .i64 l.length))), (14, .p (.v (.int .i64 i)))] [(100, .row 3 1 (5 * i) (is (allT l i)))]) l.length ?_ ?_)
 ·exact jaA
 rintro m st ⟨i, hi, hf, rfl⟩
 refine G [5] ?_
 refine cX ?_ ?_ <;> intro h
 ·have hlt : i < l.length := qu
  clear h
  obtain ⟨s, hs⟩ := qo hlt
  have hch := zaj (f := ST.pv) (k := 41) (fun _ => rfl) hs
  have hle := zai (f := ST.pv) (k := 41) (fun _ => rfl) hlt
  have hok := ok s (qbh hs)
  have hC := tright_s s hok
  have hhit := @zca (zfu l) i l.length hf hlt
  have hst : zfu l i = if stE s ≠ 0 then stE s else if 0 < i ∧ leK s.key (stG l (i - 1)).key = true then 6 else if dupB (allN l i) (za3 s) = true then 6 else 0 := by unfold zfu; rw [stG_at hs]
  rw [← dupT] at hst
  have hnx := allT_next hs
  have htl := allT_len l (Nat.le_of_lt hlt)
  have hprev : ∀ j, i = j + 1 → (((l.flatMap ST.pv).drop (j * 41)).take 41 = (stG l j).pv) ∧ j * 41 + 41 ≤ (l.flatMap ST.pv).length := by
   intro j hj
   obtain ⟨r, hr⟩ : ∃ r, l[j]? = some r := ⟨l[j], List.getElem?_eq_getElem qp⟩
   rw [stG_at hr]
   exact ⟨zaj (f := ST.pv) (k := 41) (fun _ => rfl) hr, zai (f := ST.pv) (k := 41) (fun _ => rfl) qp⟩
  generalize hL : l.flatMap ST.pv = L at *
  generalize stE s = e at *
  refine G [7] ?_
  refine zaa (zas U60 rfl sz60 qW (hch)) rfl rfl ?_
  refine G [2] ?_
  refine je7 ?_
  refine cX ?_ ?_ <;> intro h
  ·exact jc3
  have h7 : e = 0 := qz
  clear h
  rw [if_neg (by simp [h7])] at hst
  have hNum := numbers_s s.cells s.a.mine s.b.mine s.c.mine s.h.mine rfl rfl rfl rfl
  have hcase : i = 0 ∨ ∃ j, i = j + 1 := by
   exact jcf
  rcases hcase with hi0 | ⟨j0, hij⟩
  ·rw [if_neg (by omega)] at hst
   refine G [5, 3, 12, 9, 0] ?_
   refine cX ?_ ?_ <;> intro h
   ·cases h
   clear h
   obtain ⟨DD, hDD⟩ : ∃ b, dupB (allT l i) (0 :: za3 s) = b := ⟨_, rfl⟩
   rw [hDD] at hst
   refine G [3] ?_
   refine jdE ?_
   refine cK hNum ?_
   refine G [3] ?_
   refine zac (fun m' st => ∃ j : Nat, m' + j = 5 ∧ (∃ X : List Int, X.length = 5 * i + j ∧ DD = dupB X ((0 :: za3 s).drop j) ∧ X = allT l i ++ (0 :: za3 s).take j ∧ st = St.of [(0, ql l.length 41 L), (3, .row 100), (12, ql l.length 41 L), (13, .p (.v (.int .i64 l.length))), (14, .p (.v (.int .i64 i))), (38, .agg [.p (.v (.int .i64 0)), .p (.v (.int .i64 s.a.mine)), .p (.v (.int .i64 s.b.mine)), .p (.v (.int .i64 s.c.mine)), .p (.v (.int .i64 s.h.mine))]), (39, .p (.v (.int .i64 j)))] [(100, .row 3 1 (5 * i + j) (is X))])) 5 ?_ ?_
   ·exact jc6
   rintro m' st ⟨j, hj, X, hX, hdp, hXe, rfl⟩
   refine G [5] ?_
   refine cX ?_ ?_ <;> intro h
   ·exact jat
   have hge : j = 5 := qu
   clear h
   subst hge
   have hz : dupB X ((0 :: za3 s).drop 5) = false := rfl
   rw [hz] at hdp
   rw [if_neg (by rw [hdp]; decide)] at hst
   have hXn : X = allT l (i + 1) := by rw [hXe, hnx]; rfl
   subst hXn
   refine jdD ?_
   refine ⟨m - 1, qp, _, zae id _ _ ?_ ?_ rfl, i + 1, qp, fun q hq => ?_, rfl⟩
   ·exact jap
   ·exact ja3
   ·exact jbX
  ·obtain ⟨hpv, hple⟩ := hprev j0 hij
   rw [show i - 1 = j0 by omega] at hst
   have hpk : (L.drop (j0 * 41))[0]? = some (.v (.string (stG l j0).key)) := by
    have := congrArg (fun x => x[0]?) hpv
    rw [qbO] at this
    simpa [ST.pv] using this
   generalize (stG l j0).key = pk at *
   have hlk : leK s.key pk = (sLt s.key pk || decide (s.key = pk)) := rfl
   generalize leK s.key pk = lk at *
   refine G [5, 4, 6] ?_
   refine zaa (zaZ U26 sz60 qp qp (show _ = L.drop (j0 * 41) by congr 2; omega)) rfl rfl ?_
   refine jfb (zam fi60_0 rfl) ?_
   refine jeD ?_
   refine jfb a_sleq ?_
   refine G [2, 9, 0] ?_
   refine cX ?_ ?_ <;> intro h
   ·have h8 : lk = true := by rw [hlk]; exact h
    exact jcj
   have h8 : ¬ lk = true := by rw [hlk]; simpa using h
   rw [if_neg (by intro hh; exact h8 hh.2)] at hst
   clear h
   obtain ⟨DD, hDD⟩ : ∃ b, dupB (allT l i) (0 :: za3 s) = b := ⟨_, rfl⟩
   rw [hDD] at hst
   refine G [3] ?_
   refine jdE ?_
   refine cK hNum ?_
   refine G [3] ?_
   refine zac (fun m' st => ∃ j : Nat, m' + j = 5 ∧ (∃ X : List Int, X.length = 5 * i + j ∧ DD = dupB X ((0 :: za3 s).drop j) ∧ X = allT l i ++ (0 :: za3 s).take j ∧ st = St.of [(0, ql l.length 41 L), (3, .row 100), (12, ql l.length 41 L), (13, .p (.v (.int .i64 l.length))), (14, .p (.v (.int .i64 i))), (38, .agg [.p (.v (.int .i64 0)), .p (.v (.int .i64 s.a.mine)), .p (.v (.int .i64 s.b.mine)), .p (.v (.int .i64 s.c.mine)), .p (.v (.int .i64 s.h.mine))]), (39, .p (.v (.int .i64 j)))] [(100, .row 3 1 (5 * i + j) (is X))])) 5 ?_ ?_
   ·exact jc6
   rintro m' st ⟨j, hj, X, hX, hdp, hXe, rfl⟩
   refine G [5] ?_
   refine cX ?_ ?_ <;> intro h
   ·exact jat
   have hge : j = 5 := qu
   clear h
   subst hge
   have hz : dupB X ((0 :: za3 s).drop 5) = false := rfl
   rw [hz] at hdp
   rw [if_neg (by rw [hdp]; decide)] at hst
   have hXn : X = allT l (i + 1) := by rw [hXe, hnx]; rfl
   subst hXn
   refine jdD ?_
   refine ⟨m - 1, qp, _, zae id _ _ ?_ ?_ rfl, i + 1, qp, fun q hq => ?_, rfl⟩
   ·exact jap
   ·exact ja3
   ·exact jbX
 have hge : i = l.length := qu
 exact jcK
def mpE (D : List Int) : List (Value × Value) := D.map fun n => (.int .i64 n, .bool true)
theorem zg7 {n : Int} : ∀ {D : List Int} (k : Nat), n ∉ D → zey (.int .i64) (.int .i64 n) (mpE D) k = some none
 | [], _, _ => rfl
 | x :: D, k, h => by
  have h1 : n ≠ x := fun e => h (by simp [e])
  have ih := zg7 (n := n) (D := D) (k + 1) fun hh => h (by simp [hh])
  show zey (.int .i64) (.int .i64 n) ((.int .i64 x, .bool true) :: mpE D) k = _
  simp only [zey, Instr.sameNow, if_true]
  rw [show (n == x) = false by simpa using h1]
  exact ih
theorem ziY {n : Int} : ∀ {D : List Int} (k : Nat), n ∈ D → ∃ i, zey (.int .i64) (.int .i64 n) (mpE D) k = some (some (k + i, .bool true)) ∧ (mpE D)[i]? = some (.int .i64 n, .bool true)
 | [], _, h => by cases h
 | x :: D, k, h => by
  by_cases e : n = x
  ·subst e
   refine ⟨0, ?_, rfl⟩
   show zey (.int .i64) (.int .i64 n) ((.int .i64 n, .bool true) :: mpE D) k = _
   simp [zey, Instr.sameNow]
  ·have h' : n ∈ D := by simpa [e] using h
   obtain ⟨i, h1, h2⟩ := ziY (n := n) (D := D) (k + 1) h'
   refine ⟨i + 1, ?_, by simpa [mpE] using h2⟩
   show zey (.int .i64) (.int .i64 n) ((.int .i64 x, .bool true) :: mpE D) k = _
   simp only [zey, Instr.sameNow, if_true]
   rw [show (n == x) = false by simpa using e]
   rw [show k + (i + 1) = k + 1 + i by omega]
   exact h1
theorem set_same {α : Type} {l : List α} {i : Nat} {x : α} (h : l[i]? = some x) : l.set i x = l := by
 exact jct
theorem kE_nn {k : KY} (h : kE k = 0) : 0 ≤ k.mine := by
 cases hl : k.live with
 | true => have := (kE_bounds h hl).1; omega
 | false =>
  unfold kE at h
  rw [if_pos hl] at h
  split at h
  ·rename_i hz
   rw [KY.zero_iff] at hz
   rw [hz]
   exact Int.le_refl 0
  ·cases h
theorem hsE_nn {x : HS} (h : hsE x = 0) : 0 ≤ x.mine := by
 unfold hsE at h
 split at h
 ·split at h
  ·omega
  ·cases h
 ·split at h
  ·cases h
  ·split at h
   ·exact jdg
   ·split at h
    ·cases h
    ·omega
theorem stE_good {s : ST} (h : stE s = 0) : keyE s.key = 0 ∧ ∀ n ∈ za3 s, 0 ≤ n := by
 unfold stE at h
 split at h
 ·exact jdg
 rename_i h1
 split at h
 ·exact jdg
 rename_i h2
 split at h
 ·exact jdg
 rename_i h3
 have h2 : ksE s.a s.b s.c = 0 := qbk.1 h2
 have h3 : hsE s.h = 0 := qbk.1 h3
 have hk := zg9 h2
 refine ⟨qbk.1 h1, fun n hn => ?_⟩
 simp only [za3, qbm, qb4, or_false] at hn
 rcases hn with rfl | rfl | rfl | rfl
 ·exact kE_nn (hk 0 qp)
 ·exact kE_nn (hk 1 qp)
 ·exact kE_nn (hk 2 qp)
 ·exact hsE_nn h3
theorem given_s (s : ST) : Fn prog 85 [.agg s.cells] (.row 0) [(0, .row 3 1 4 (is (za3 s)))] := by
 show Fn prog _ _ _ [(0, .row 3 1 4 [qh s.a.mine, qh s.b.mine, qh s.c.mine, qh s.h.mine])]
 refine fnI fun w0 A => ?_
 refine G [22] ?_
 refine zab (xs := [qd s.a.mine, qd s.b.mine, qd s.c.mine, qd s.h.mine]) (zag (es := [qd s.a.mine, qd s.b.mine, qd s.c.mine, qd s.h.mine]) (cs := [qh s.a.mine, qh s.b.mine, qh s.c.mine, qh s.h.mine]) 18 U112 sz3 zc3 (qbe rfl) (qbe rfl) rfl qr qr qr (qbe rfl)) qP rfl ⟨rfl, trivial⟩ ?_
 refine jdR ?_
 refine yT (fun _ => 18) ?_ ?_
 ·exact rfl
 ·exact ja3
section
variable {P : Program} {d : Option Tmp} {ty : TypeId} {pos : String} {af : Array Edge} {g : Option (Nat × Bool)}
theorem a_mapKeep {t kt et : TypeId} {kd : TypeDesc} {o i : Nat} {kv ov : Value} {es : List (Value × Value)} {x y z : Operand} (hu : P.underlying t = some (.map kt et)) (hk : P.underlying kt = some kd) (hp : zdt kd = true) (hq : MapKept.IsKey kd kv) (hf : zey kd kv es 0 = some (some (i, ov))) (hi : es[i]? = some (kv, ov)) :
 AOp P ⟨d, .mapUpdate t x y z, ty, pos, af, g⟩ [.mp o, .p (.v kv), .p (.v ov)] [(o, .live (.map es))] [(o, .live (.map es))] .any := by
 have h := a_mapUpdateO (d := d) (ty := ty) (pos := pos) (af := af) (g := g) (x := x) (y := y) (z := z) (xv := ov) (o := o) hu hk hp hq hf hi
 rwa [set_same hi] at h
end
theorem key_ne : ¬ keyE ⟨#[]⟩ = 0 := qap
def lastK (l : List ST) (i : Nat) : ByteArray := if i = 0 then ⟨#[]⟩ else (stG l (i - 1)).key
theorem refStates_s (l : List ST) (ok : ∀ s ∈ l, s.OK) (hn : l.length ≤ 1048576) : Fn prog 47 [ql l.length 41 (l.flatMap ST.pv)] (qd (stsE l)) [] := by
 obtain ⟨E, hE⟩ : ∃ E, stsE l = E := ⟨_, rfl⟩
 rw [hE]
 unfold stsE at hE
 refine fnI fun w0 A => ?_
 refine G [11, 9, 0] ?_
 refine cX ?_ ?_ <;> intro h
 ·exact jb7
 have h6 : ¬ 6 < l.length := qu
 clear h
 rw [if_neg h6] at hE
 refine G [3] ?_
 refine jfc (a_makeMap 13) ?_
 refine G [14] ?_
 refine zac (fun m st => ∃ i : Nat, m + i = l.length ∧ (∀ j, j < i → zfu l j = 0) ∧ ∃ D : List Int, (∀ n, n ∈ D ↔ n ∈ allN l i) ∧ st = St.of [(3, .mp 13), (4, qc (lastK l i)), (14, ql l.length 41 (l.flatMap ST.pv)), (15, qd l.length), (16, qd i)] [(13, .map (mpE D))]) l.length ?_ ?_
 ·refine ⟨_, zae id _ _ ?_ ?_ rfl, 0, qp, qp, [], by simp [allN], rfl⟩
  ·exact jap
  ·exact ja3
 rintro m st ⟨i, hi, hf, D, hD, rfl⟩
 refine G [5] ?_
 refine cX ?_ ?_ <;> intro h
 ·have hlt : i < l.length := qu
  clear h
  obtain ⟨s, hs⟩ := qo hlt
  have hch := zaj (f := ST.pv) (k := 41) (fun _ => rfl) hs
  have hle := zai (f := ST.pv) (k := 41) (fun _ => rfl) hlt
  have hok := ok s (qbh hs)
  have hC := refState_s s hok
  have hhit := @zca (zfu l) i l.length hf hlt
  have hst : zfu l i = if stE s ≠ 0 then stE s else if 0 < i ∧ leK s.key (stG l (i - 1)).key = true then 6 else if dupB (allN l i) (za3 s) = true then 6 else 0 := by unfold zfu; rw [stG_at hs]
  have hgood := @stE_good s
  have hlK : lastK l i = if i = 0 then ⟨#[]⟩ else (stG l (i - 1)).key := rfl
  have hlN : lastK l (i + 1) = s.key := by unfold lastK; rw [if_neg (by omega), Nat.add_sub_cancel, stG_at hs]
  generalize hL : l.flatMap ST.pv = L at *
  generalize stE s = e at *
  refine G [6] ?_
  refine zaa (zas U60 rfl sz60 qW (hch)) rfl rfl ?_
  refine jfc (zaW 6 zr60 rfl) ?_
  refine je7 ?_
  refine cX ?_ ?_ <;> intro h
  ·exact jc3
  have h7 : e = 0 := qz
  clear h
  rw [if_neg (by simp [h7])] at hst
  obtain ⟨hkey, hnn⟩ := hgood h7
  have hkne : s.key ≠ ⟨#[]⟩ := fun e => key_ne (by rw [e] at hkey; exact hkey)
  generalize hLK : lastK l i = lk at *
  refine G [7] ?_
  refine jfb a_sleq ?_
  refine je1 ?_
  refine cX ?_ ?_ <;> intro h
  ·have h8 : leK s.key lk = true := h
   have hi0 : i ≠ 0 := by
    intro e0
    rw [if_pos e0] at hlK
    rw [hlK] at h8
    unfold leK at h8
    rw [sLt_empty] at h8
    simp at h8
    exact hkne h8
   rw [if_neg hi0] at hlK
   rw [if_pos ⟨by omega, by rw [← hlK]; exact h8⟩] at hst
   rw [hhit (by rw [hst]; decide), hst] at hE
   subst hE
   exact ja4
  have h8 : ¬ leK s.key lk = true := by
   intro h9
   have h10 : leK s.key lk = false := h
   rw [h10] at h9
   cases h9
  clear h
  have hn8 : ¬ (0 < i ∧ leK s.key (stG l (i - 1)).key = true) := by
   intro ⟨q1, q2⟩
   rw [if_neg (by omega)] at hlK
   rw [← hlK] at q2
   exact h8 q2
  rw [if_neg hn8] at hst
  have hGv := given_s s
  have hgl : (za3 s).length = 4 := rfl
  have hnx : allN l (i + 1) = allN l i ++ za3 s := by
   obtain ⟨q1, q2⟩ := qbl.1 hs
   unfold allN
   rw [qbn q1, q2, qbD]
   simp
  obtain ⟨DD, hDD⟩ : ∃ b, dupB (allN l i) (za3 s) = b := ⟨_, rfl⟩
  rw [hDD] at hst
  refine G [7] ?_
  generalize hG : za3 s = GV at *
  refine G [2] ?_
  refine jdE ?_
  refine cK hGv ?_
  refine G [4] ?_
  refine zac (fun m' st => ∃ j : Nat, m' + j = 4 ∧ ∃ D : List Int, (∀ n, n ∈ D ↔ n ∈ allN l i ++ GV.take j) ∧ DD = dupB (allN l i ++ GV.take j) (GV.drop j) ∧ st = St.of [(3, .mp 13), (4, qc s.key), (14, ql l.length 41 L), (15, qd l.length), (16, qd i), (32, .row 32), (33, qd 4), (34, qd j)] [(13, .map (mpE D)), (32, .row 3 1 4 (is GV))]) 4 ?_ ?_
  ·refine ⟨_, zae id _ _ ?_ ?_ rfl, 0, qp, D, by simpa using hD, by simpa using hDD.symm, rfl⟩
   ·exact jap
   ·exact ja5
  clear hD
  rintro m' st ⟨j, hj, D, hD, hdp, rfl⟩
  refine G [5] ?_
  refine cX ?_ ?_ <;> intro h
  ·have hlj : j < 4 := qu
   clear h
   obtain ⟨n, hn5⟩ : ∃ n, GV[j]? = some n := ⟨GV[j]'qp, List.getElem?_eq_getElem _⟩
   have hat : (is GV)[j]? = some (qh n) := by simp [is, hn5]
   have hil := is_len GV
   have hdr : GV.drop j = n :: GV.drop (j + 1) := by
    obtain ⟨q1, q2⟩ := qbl.1 hn5
    rw [qbY q1, q2]
   have htk : GV.take (j + 1) = GV.take j ++ [n] := by
    obtain ⟨q1, q2⟩ := qbl.1 hn5
    exact jdd
   have hnz := hnn n (qbh hn5)
   rw [hdr, dupB, qbB, ← htk] at hdp
   have hDk : n ∈ D → ∀ k, k ∈ D ↔ k ∈ allN l i ++ GV.take (j + 1) := fun hm k => by
    rw [htk, ← qbB, qbz (t := [n]), ← hD k, qcu]
    constructor
    ·exact .inl
    ·rintro (q | q)
     ·exact q
     ·rw [q]; exact hm
   have hDn : ∀ k, k ∈ D ++ [n] ↔ k ∈ allN l i ++ GV.take (j + 1) := fun k => by
    rw [htk, ← qbB, qbz (t := [n]), qbz (t := [n]), hD k]
   have hpush : mpE D ++ [(Value.int .i64 n, Value.bool true)] = mpE (D ++ [n]) := by simp [mpE]
   have hDm := hD n
   refine G [5] ?_
   refine zab (zat U112 sz3 qp qp (show _ = j by omega)) rfl rfl ⟨rfl, trivial⟩ ?_
   refine jfc (zbC U3 rfl hat) ?_
   refine G [2] ?_
   by_cases h0 : n = 0
   ·rw [show (decide (0 < n) && decide (n ∈ allN l i ++ List.take j GV) || dupB (allN l i ++ List.take (j + 1) GV) (List.drop (j + 1) GV)) = dupB (allN l i ++ List.take (j + 1) GV) (List.drop (j + 1) GV) by simp [h0]] at hdp
    refine G [4, 3, 7] ?_
    by_cases hm : n ∈ D
    ·obtain ⟨k0, hfd, hfi⟩ := ziY 0 hm
     rw [Nat.zero_add] at hfd
     refine G [4] ?_
     refine zab (a_mapKeep underlying129 U3 rfl (by simp [MapKept.IsKey]) hfd hfi) rfl rfl ⟨rfl, trivial⟩ ?_
     refine jdD ?_
     refine ⟨m' - 1, qp, _, zae id _ _ ?_ ?_ rfl, j + 1, qp, D, hDk hm, hdp, rfl⟩
     ·exact jap
     ·exact ja5
    ·refine G [4] ?_
     exact jbD
   ·by_cases hm : n ∈ D
    ·rw [show (decide (0 < n) && decide (n ∈ allN l i ++ List.take j GV) || dupB (allN l i ++ List.take (j + 1) GV) (List.drop (j + 1) GV)) = true by rw [decide_eq_true (show 0 < n by omega), decide_eq_true (hDm.1 hm)]; rfl] at hdp
     rw [if_pos hdp] at hst
     rw [hhit (by rw [hst]; decide), hst] at hE
     subst hE
     obtain ⟨k0, hfd, hfi⟩ := ziY 0 hm
     rw [Nat.zero_add] at hfd
     refine G [4, 4, 3] ?_
     refine jfc (a_lookup underlying129 U3 rfl zr4 hfd rfl rfl) ?_
     refine G [7] ?_
     exact ja8
    ·rw [show (decide (0 < n) && decide (n ∈ allN l i ++ List.take j GV) || dupB (allN l i ++ List.take (j + 1) GV) (List.drop (j + 1) GV)) = dupB (allN l i ++ List.take (j + 1) GV) (List.drop (j + 1) GV) by rw [decide_eq_false (fun q => hm (hDm.2 q))]; simp] at hdp
     refine G [4, 4, 3] ?_
     refine jfc (a_lookup underlying129 U3 rfl zr4 (zg7 0 hm) rfl rfl) ?_
     refine G [7] ?_
     exact jbD
  have hge : j = 4 := qu
  clear h
  subst hge
  rw [qbr (by omega)] at hD hdp
  have hz : dupB (allN l i ++ GV) (GV.drop 4) = false := by rw [List.drop_of_length_le (by omega)]; rfl
  rw [hz] at hdp
  rw [if_neg (by rw [hdp]; decide)] at hst
  refine jdD ?_
  refine ⟨m - 1, qp, _, zae id _ _ ?_ ?_ rfl, i + 1, qp, fun q hq => ?_, D, by rw [hnx]; exact hD, rfl⟩
  ·refine ⟨⟨rfl, rfl⟩, ⟨?_, rfl⟩, ⟨rfl, rfl⟩, ⟨rfl, rfl⟩, ⟨rfl, rfl⟩, trivial⟩
   rw [hlN]
   rfl
  ·exact ja3
  ·exact jbX
 have hge : i = l.length := qu
 exact jcK
theorem flat_at {α : Type} {s : Nat} : ∀ {L : List (List α)} {k : Nat} {e : List α}, (∀ x ∈ L, x.length = s) → L[k]? = some e → (L.flatten.drop (k * s)).take s = e ∧ k * s + s ≤ L.flatten.length
 | [], k, e, _, h => by simp at h
 | x :: L, 0, e, hs, h => by
  simp only [List.getElem?_cons_zero, Option.some.injEq] at h
  subst h
  have hx := hs x qC
  simp only [qbZ, Nat.zero_mul, qch, Nat.zero_add, qbg]
  exact ⟨by rw [← hx]; exact qcp, qp⟩
 | x :: L, k + 1, e, hs, h => by
  have hx := hs x qC
  obtain ⟨h1, h2⟩ := flat_at (fun y hy => hs y qa7) (by simpa using h : L[k]? = some e)
  have e1 : (k + 1) * s = x.length + k * s := by rw [hx, qcc, Nat.one_mul, Nat.add_comm]
  rw [e1, qbZ, List.drop_length_add_append, qbg]
  exact ⟨h1, qp⟩
abbrev Four := Int × Int × Int × Int
def Four.l5 (q : Four) : List Int := [0, q.1, q.2.1, q.2.2.1, q.2.2.2]
structure StP (e : List PV) (q : Four) : Prop where
 len : e.length = 41
 h5 : e[5]? = some (.v (.int .i64 q.1))
 h16 : e[16]? = some (.v (.int .i64 q.2.1))
 h27 : e[27]? = some (.v (.int .i64 q.2.2.1))
 h36 : e[36]? = some (.v (.int .i64 q.2.2.2))
def mx (n : Int) (xs : List Int) : Int := xs.foldl max n
def Four.l4 (q : Four) : List Int := [q.1, q.2.1, q.2.2.1, q.2.2.2]
def most (Q : List Four) : Int := Q.foldl (fun n q => mx n q.l5) 0
def iv (xs : List Int) : List AV := xs.map fun x => .p (.v (.int .i64 x))
theorem mx_take {n : Int} {xs : List Int} {j : Nat} (h : j < xs.length) : max (mx n (xs.take j)) xs[j] = mx n (xs.take (j + 1)) := by
 unfold mx
 rw [qbn h, qco]; rfl
theorem most_take {Q : List Four} {k : Nat} {q : Four} (h : Q[k]? = some q) : mx (most (Q.take k)) q.l5 = most (Q.take (k + 1)) := by
 unfold most
 have hk := (qbl.1 h)
 rw [qbn hk.1, qco, hk.2]; rfl
theorem mx_ge (n : Int) (xs : List Int) : n ≤ mx n xs := by
 induction xs generalizing n with
 | nil => exact Int.le_refl _
 | cons x xs ih => exact Int.le_trans qp (ih (max n x))
theorem most_nn (Q : List Four) : 0 ≤ most Q := by
 have : ∀ (Q : List Four) (n : Int), 0 ≤ n → 0 ≤ Q.foldl (fun n q => mx n q.l5) n := by
  intro Q
  induction Q with
  | nil => intro n h; exact h
  | cons q Q ih => intro n h; exact ih _ (Int.le_trans h (mx_ge _ _))
 exact this Q 0 (Int.le_refl _)
set_option maxRecDepth 100000 in
theorem most_s (L : List (List PV)) (Q : List Four) (N : Nat) (hL : L.length = N) (hQ : Q.length = N) (hm : N ≤ 9223372036854775807) (hst : ∀ (k : Nat) e q, L[k]? = some e → Q[k]? = some q → StP e q) :
 Fn Tryz.prog 36 [.p (.sl N 41 L.flatten)] (.p (.v (.int .i64 (most Q)))) [] := by
 have hlen : ∀ e ∈ L, e.length = 41 := by
  intro e he
  obtain ⟨k, hk, rfl⟩ := qb5.1 he
  exact (hst k _ (Q[k]'qp) (List.getElem?_eq_getElem hk) (List.getElem?_eq_getElem qp)).len
 refine zcr Tryz.func36 rfl (qbe rfl) fun w0 A => ?_
 refine zal (zaB qr ?_)
 (refine zaa (zaO (r := .p _)) rfl rfl ?_)
 refine zaf (zal (zaB qr ?_))
 (refine zaa (zaO (r := .p _)) rfl rfl ?_)
 refine zaf (zal (zal (zaB qr ?_)))
 (refine zaa (zaF (r := .p _)) rfl rfl ?_)
 (refine zaa (zeg Tryz.underlying26) rfl rfl ?_)
 (refine zaa (zaF (r := .p _)) rfl rfl ?_)
 refine zaf (zaw (zac (fun m st => ∃ k : Nat, m + k = N ∧ st = St.of [(3, .p (.v (.int .i64 (most (Q.take k))))), (8, .p (.sl N 41 L.flatten)), (9, .p (.v (.int .i64 N))), (10, .p (.v (.int .i64 k)))] []) N ?_ ?_))
 ·refine ⟨_, zae id _ _ ?_ ?_ rfl, 0, qp, rfl⟩
  ·(repeat (first | exact trivial | (refine ⟨⟨qH, rfl⟩, ?_⟩)))
  ·exact trivial
 rintro m st ⟨k, hk, rfl⟩
 refine zal (zaB qr ?_)
 (refine zaa a_lss rfl rfl ?_)
 refine zaf (zal (zb7 _ rfl (fun h => ?_) (fun h => ?_)))
 ·have hlt : k < N := by simpa using h
  clear h
  obtain ⟨e, he⟩ : ∃ e, L[k]? = some e := ⟨L[k]'qp, List.getElem?_eq_getElem qp⟩
  obtain ⟨q, hq⟩ : ∃ q, Q[k]? = some q := ⟨Q[k]'qp, List.getElem?_eq_getElem qp⟩
  obtain ⟨g0, g5, g16, g27, g36⟩ := hst k e q he hq
  obtain ⟨f1, f2⟩ := flat_at hlen he
  have f3 : 41 ≤ (L.flatten.drop (k * 41)).length := qW
  have k5 : (e.map AV.p)[5]? = some (.p (.v (.int .i64 q.1))) := by simp [g5]
  have k16 : (e.map AV.p)[16]? = some (.p (.v (.int .i64 q.2.1))) := by simp [g16]
  have k27 : (e.map AV.p)[27]? = some (.p (.v (.int .i64 q.2.2.1))) := by simp [g27]
  have k36 : (e.map AV.p)[36]? = some (.p (.v (.int .i64 q.2.2.2))) := by simp [g36]
  refine zaE (zal (zaw (zal (zaB qr ?_))))
  (refine zaa (zaZ Tryz.underlying26 sz60 qp qp qaV) rfl rfl ?_)
  (refine zaa (zas Tryz.underlying60 rfl sz60 f3 (f1)) rfl rfl ?_)
  (refine zab (zaW 5 zr60 rfl) rfl rfl ⟨rfl, trivial⟩ ?_)
  (refine zab (zad (Y := .agg _) sz60 rfl qI (qbf rfl)) rfl rfl ⟨rfl, trivial⟩ ?_)
  refine zaf (zal (zaB qr ?_))
  (refine zab (zao Tryz.underlying60 rfl sz60 qv qA) rfl rfl ⟨rfl, trivial⟩ ?_)
  (refine zay (fun n => 15 + 1000 * n) (numbers_s _ _ _ _ _ k5 k16 k27 k36) rfl rfl Tryz.func70 rfl rfl qw rfl rfl rfl qq rfl rfl rfl ?_)
  (refine zaa (zaF (r := .p _)) rfl rfl ?_)
  refine zaf (zaw (zac (fun m2 st => ∃ j : Nat, m2 + j = 5 ∧ st = St.of [(3, .p (.v (.int .i64 (mx (most (Q.take k)) (q.l5.take j))))), (8, .p (.sl N 41 L.flatten)), (9, .p (.v (.int .i64 N))), (10, .p (.v (.int .i64 k))), (15, .agg (iv q.l5)), (16, .p (.v (.int .i64 j)))] []) 5 ?_ ?_))
  ·refine ⟨_, zae id _ _ ?_ ?_ rfl, 0, qp, rfl⟩
   ·(repeat (first | exact trivial | (refine ⟨⟨qH, rfl⟩, ?_⟩)))
   ·exact trivial
  rintro m2 st ⟨j, hj, rfl⟩
  refine zal (zaB qr ?_)
  (refine zaa a_lss rfl rfl ?_)
  refine zaf (zal (zb7 _ rfl (fun h => ?_) (fun h => ?_)))
  ·have hj5 : j < 5 := by have : (j : Int) < 5 := by simpa using h
                          omega
   clear h
   have hx5 : j < q.l5.length := hj5
   have hat : (iv q.l5)[j]? = some (.p (.v (.int .i64 q.l5[j]))) := by simp [iv, hx5]
   refine zaE (zal (zaw (zal (zaB qr ?_))))
   (refine zaa (zc0 Tryz.underlying114 sz3 Tryz.underlying3 rfl qp qp qZ) rfl rfl ?_)
   (refine zaa (zaO (r := .p _)) rfl rfl ?_)
   refine zaf (zaH (zaB qr ?_))
   (refine zaa (zaF (r := .p _)) rfl rfl ?_)
   (refine zaa (zaF (r := .p _)) rfl rfl ?_)
   (refine zaa a_max rfl rfl ?_)
   (refine zaa (zaO (r := .p _)) rfl rfl ?_)
   refine zaf (zcq (zaH (zaB qr ?_)))
   (refine zaa (zgF qT) rfl rfl ?_)
   (refine zaa (zaF (r := .p _)) rfl rfl ?_)
   refine zaf (zaH (⟨m2 - 1, qp, _, zae id _ _ ?_ ?_ rfl, j + 1, qp, rfl⟩))
   ·rw [← mx_take hx5]
    (repeat (first | exact trivial | (refine ⟨⟨qH, rfl⟩, ?_⟩)))
   ·exact trivial
  ·have hj5 : ¬ j < 5 := by have : ¬ (j : Int) < 5 := by simpa using h
                            omega
   obtain rfl : j = 5 := qp
   refine zaJ (zbK (zbK (zb8 (zcq (zaH (zaB qr ?_))))))
   (refine zaa (zgF qT) rfl rfl ?_)
   (refine zaa (zaF (r := .p _)) rfl rfl ?_)
   refine zaf (zaH (⟨m - 1, qp, _, zae id _ _ ?_ ?_ rfl, k + 1, qp, rfl⟩))
   ·rw [← most_take hq]
    (repeat (first | exact trivial | (refine ⟨⟨qH, rfl⟩, ?_⟩)))
   ·exact trivial
 ·have hge : ¬ k < N := by simpa using h
  refine zaJ (zal (zaB qr ?_))
  (refine zaa (zaF (r := .p _)) rfl rfl ?_)
  (refine zaa (zaO (r := .p _)) rfl rfl ?_)
  refine zaf (zaA (⟨qO, _, (fun o => o), (.tmp _ _ _ _ rfl .nil), ?_, rfl, ?_, rfl⟩))
  ·rw [qbr (show Q.length ≤ k by omega)]; first | done | (refine (?_ : _ = _); kernel_rfl)
  ·exact trivial
set_option maxRecDepth 100000 in
theorem given6_s (X : List AV) (a b c d : Int) (h5 : X[5]? = some (.p (.v (.int .i64 a)))) (h16 : X[16]? = some (.p (.v (.int .i64 b)))) (h27 : X[27]? = some (.p (.v (.int .i64 c)))) (h36 : X[36]? = some (.p (.v (.int .i64 d)))) :
 Fn Tryz.prog 85 [.agg X] (.row 0) [(0, .row 3 1 4 (is [a, b, c, d]))] := by
 refine zcr Tryz.func85 rfl (qbe rfl) fun w0 A => ?_
 refine zal (zaB qr ?_)
 (refine zab (a_box (X := .agg _) 1 rfl) rfl rfl ⟨rfl, trivial⟩ ?_)
 (refine zaa (zaO (r := .p _)) rfl rfl ?_)
 refine zaf (zal (zaB qr ?_))
 (refine zaa (zar zhQ rfl) rfl rfl ?_)
 (refine zaa (zar fi55_0 rfl) rfl rfl ?_)
 (refine zaa (zar ziv rfl) rfl rfl ?_)
 (refine zab (zbr Tryz.underlying3 rfl qV) rfl rfl ⟨rfl, trivial⟩ ?_)
 (refine zaa (zar zhQ rfl) rfl rfl ?_)
 (refine zaa (zar fi55_1 rfl) rfl rfl ?_)
 (refine zaa (zar ziv rfl) rfl rfl ?_)
 (refine zab (zbr Tryz.underlying3 rfl qV) rfl rfl ⟨rfl, trivial⟩ ?_)
 (refine zaa (zar zhQ rfl) rfl rfl ?_)
 (refine zaa (zar fi55_2 rfl) rfl rfl ?_)
 (refine zaa (zar ziv rfl) rfl rfl ?_)
 (refine zab (zbr Tryz.underlying3 rfl qV) rfl rfl ⟨rfl, trivial⟩ ?_)
 (refine zaa (zar fi60_3 rfl) rfl rfl ?_)
 (refine zaa (zar fi57_1 rfl) rfl rfl ?_)
 (refine zab (zbr Tryz.underlying3 rfl qV) rfl rfl ⟨rfl, trivial⟩ ?_)
 (refine zab (zag 18 Tryz.underlying112 sz3 zc3 (qbe rfl) (qbe rfl) rfl rfl rfl rfl (qbe rfl)) rfl rfl ⟨rfl, trivial⟩ ?_)
 (refine zaa (zaO (r := .row _)) rfl rfl ?_)
 refine zaf (zaA (⟨qO, _, (fun _ => 18), (.tmp _ _ _ _ rfl .nil), ?_, rfl, ?_, rfl⟩))
 ·rfl
 ·exact ⟨⟨rfl, rfl⟩, trivial⟩
theorem mx_l5 {n : Int} (hn : 0 ≤ n) (q : Four) : mx n q.l5 = mx n q.l4 := by
 show mx (max n 0) q.l4 = mx n q.l4
 rw [show max n 0 = n by omega]
set_option maxRecDepth 100000 in
theorem statesMost_s (L : List (List PV)) (Q : List Four) (N : Nat) (hL : L.length = N) (hQ : Q.length = N) (hm : N ≤ 9223372036854775807) (hst : ∀ (k : Nat) e q, L[k]? = some e → Q[k]? = some q → StP e q) :
 Fn Tryz.prog 49 [.p (.sl N 41 L.flatten)] (.p (.v (.int .i64 (most Q)))) [] := by
 have hlen : ∀ e ∈ L, e.length = 41 := by
  intro e he
  obtain ⟨k, hk, rfl⟩ := qb5.1 he
  exact (hst k _ (Q[k]'qp) (List.getElem?_eq_getElem hk) (List.getElem?_eq_getElem qp)).len
 refine zcr Tryz.func49 rfl (qbe rfl) fun w0 A => ?_
 refine zal (zaB qr ?_)
 (refine zaa (zaO (r := .p _)) rfl rfl ?_)
 refine zaf (zal (zaB qr ?_))
 (refine zaa (zaO (r := .p _)) rfl rfl ?_)
 refine zaf (zal (zal (zaB qr ?_)))
 (refine zaa (zaF (r := .p _)) rfl rfl ?_)
 (refine zaa (zeg Tryz.underlying26) rfl rfl ?_)
 (refine zaa (zaF (r := .p _)) rfl rfl ?_)
 refine zaf (zaw (zac (fun m st => ∃ k : Nat, m + k = N ∧ st = St.of [(3, .p (.v (.int .i64 (most (Q.take k))))), (8, .p (.sl N 41 L.flatten)), (9, .p (.v (.int .i64 N))), (10, .p (.v (.int .i64 k)))] []) N ?_ ?_))
 ·refine ⟨_, zae id _ _ ?_ ?_ rfl, 0, qp, rfl⟩
  ·(repeat (first | exact trivial | (refine ⟨⟨qH, rfl⟩, ?_⟩)))
  ·exact trivial
 rintro m st ⟨k, hk, rfl⟩
 refine zal (zaB qr ?_)
 (refine zaa a_lss rfl rfl ?_)
 refine zaf (zal (zb7 _ rfl (fun h => ?_) (fun h => ?_)))
 ·have hlt : k < N := by simpa using h
  clear h
  obtain ⟨e, he⟩ : ∃ e, L[k]? = some e := ⟨L[k]'qp, List.getElem?_eq_getElem qp⟩
  obtain ⟨q, hq⟩ : ∃ q, Q[k]? = some q := ⟨Q[k]'qp, List.getElem?_eq_getElem qp⟩
  obtain ⟨g0, g5, g16, g27, g36⟩ := hst k e q he hq
  obtain ⟨f1, f2⟩ := flat_at hlen he
  have f3 : 41 ≤ (L.flatten.drop (k * 41)).length := qW
  have k5 : (e.map AV.p)[5]? = some (.p (.v (.int .i64 q.1))) := by simp [g5]
  have k16 : (e.map AV.p)[16]? = some (.p (.v (.int .i64 q.2.1))) := by simp [g16]
  have k27 : (e.map AV.p)[27]? = some (.p (.v (.int .i64 q.2.2.1))) := by simp [g27]
  have k36 : (e.map AV.p)[36]? = some (.p (.v (.int .i64 q.2.2.2))) := by simp [g36]
  refine zaE (zal (zaw (zal (zaB qr ?_))))
  (refine zaa (zaZ Tryz.underlying26 sz60 qp qp qaV) rfl rfl ?_)
  (refine zaa (zas Tryz.underlying60 rfl sz60 f3 (f1)) rfl rfl ?_)
  (refine zab (zaW 5 zr60 rfl) rfl rfl ⟨rfl, trivial⟩ ?_)
  (refine zab (zad (Y := .agg _) sz60 rfl qI (qbf rfl)) rfl rfl ⟨rfl, trivial⟩ ?_)
  refine zaf (zal (zaB qr ?_))
  (refine zab (zao Tryz.underlying60 rfl sz60 qv qA) rfl rfl ⟨rfl, trivial⟩ ?_)
  (refine zay (fun n => 15 + 1000 * n) (given6_s _ _ _ _ _ k5 k16 k27 k36) rfl rfl Tryz.func85 rfl rfl qw rfl rfl rfl qq rfl rfl rfl ?_)
  (refine zab (a_lenR Tryz.underlying112) rfl rfl ⟨rfl, trivial⟩ ?_)
  (refine zaa (zaF (r := .p _)) rfl rfl ?_)
  refine zaf (zaw (zac (fun m2 st => ∃ j : Nat, m2 + j = 4 ∧ st = St.of [(3, .p (.v (.int .i64 (mx (most (Q.take k)) (q.l4.take j))))), (8, .p (.sl N 41 L.flatten)), (9, .p (.v (.int .i64 N))), (10, .p (.v (.int .i64 k))), (15, .row 15), (16, .p (.v (.int .i64 4))), (17, .p (.v (.int .i64 j)))] [(15, .row 3 1 4 (is q.l4))]) 4 ?_ ?_))
  ·refine ⟨_, zae id _ _ ?_ ?_ rfl, 0, qp, rfl⟩
   ·(repeat (first | exact trivial | (refine ⟨⟨qH, rfl⟩, ?_⟩)))
   ·exact ⟨⟨rfl, rfl⟩, trivial⟩
  rintro m2 st ⟨j, hj, rfl⟩
  refine zal (zaB qr ?_)
  (refine zaa a_lss rfl rfl ?_)
  refine zaf (zal (zb7 _ rfl (fun h => ?_) (fun h => ?_)))
  ·have hj4 : j < 4 := by have : (j : Int) < 4 := by simpa using h
                          omega
   clear h
   have hx4 : j < q.l4.length := hj4
   have hat := is_at hx4
   refine zaE (zal (zaw (zal (zaB qr ?_))))
   (refine zab (zat Tryz.underlying112 sz3 qp qp qD) rfl rfl ⟨rfl, trivial⟩ ?_)
   (refine zab (zbC Tryz.underlying3 rfl qy) rfl rfl ⟨rfl, trivial⟩ ?_)
   (refine zaa (zaO (r := .p _)) rfl rfl ?_)
   refine zaf (zal (zaB qr ?_))
   (refine zaa (zaF (r := .p _)) rfl rfl ?_)
   (refine zaa (zaF (r := .p _)) rfl rfl ?_)
   (refine zaa a_gtr rfl rfl ?_)
   refine zaf (zaH (zb7 _ rfl (fun h => ?_) (fun h => ?_)))
   ·have h2 : mx (most (Q.take k)) (q.l4.take j) < q.l4[j] := by simpa using h
    have h3 := mx_take (n := most (Q.take k)) hx4
    rw [show max (mx (most (Q.take k)) (q.l4.take j)) q.l4[j] = q.l4[j] by omega] at h3
    skip
    refine zaB qr ?_
    (refine zaa (zaF (r := .p _)) rfl rfl ?_)
    (refine zaa (zaO (r := .p _)) rfl rfl ?_)
    refine zaf (zcq (zaH (zaB qr ?_)))
    (refine zaa (zgF qT) rfl rfl ?_)
    (refine zaa (zaF (r := .p _)) rfl rfl ?_)
    refine zaf (zaH (⟨m2 - 1, qp, _, zae id _ _ ?_ ?_ rfl, j + 1, qp, rfl⟩))
    ·rw [← h3]
     (repeat (first | exact trivial | (refine ⟨⟨qH, rfl⟩, ?_⟩)))
    ·exact ⟨⟨rfl, rfl⟩, trivial⟩
   ·have h2 : ¬ mx (most (Q.take k)) (q.l4.take j) < q.l4[j] := by simpa using h
    have h3 := mx_take (n := most (Q.take k)) hx4
    rw [show max (mx (most (Q.take k)) (q.l4.take j)) q.l4[j] = mx (most (Q.take k)) (q.l4.take j) by omega] at h3
    refine zaE (zcq (zaH (zaB qr ?_)))
    (refine zaa (zgF qT) rfl rfl ?_)
    (refine zaa (zaF (r := .p _)) rfl rfl ?_)
    refine zaf (zaH (⟨m2 - 1, qp, _, zae id _ _ ?_ ?_ rfl, j + 1, qp, rfl⟩))
    ·rw [← h3]
     (repeat (first | exact trivial | (refine ⟨⟨qH, rfl⟩, ?_⟩)))
    ·exact ⟨⟨rfl, rfl⟩, trivial⟩
  ·have hj4 : ¬ j < 4 := by have : ¬ (j : Int) < 4 := by simpa using h
                            omega
   obtain rfl : j = 4 := qp
   refine zaJ (zbK (zbK (zb8 (zcq (zaH (zaB qr ?_))))))
   (refine zaa (zgF qT) rfl rfl ?_)
   (refine zaa (zaF (r := .p _)) rfl rfl ?_)
   refine zaf (zaH (⟨m - 1, qp, _, zae id _ _ ?_ ?_ rfl, k + 1, qp, rfl⟩))
   ·rw [← most_take hq, mx_l5 (most_nn _)]
    (repeat (first | exact trivial | (refine ⟨⟨qH, rfl⟩, ?_⟩)))
   ·exact trivial
 ·have hge : ¬ k < N := by simpa using h
  refine zaJ (zal (zaB qr ?_))
  (refine zaa (zaF (r := .p _)) rfl rfl ?_)
  (refine zaa (zaO (r := .p _)) rfl rfl ?_)
  refine zaf (zaA (⟨qO, _, (fun o => o), (.tmp _ _ _ _ rfl .nil), ?_, rfl, ?_, rfl⟩))
  ·rw [qbr (show Q.length ≤ k by omega)]; first | done | (refine (?_ : _ = _); kernel_rfl)
  ·exact trivial
def nkey (n : NtP) : Key := zh7 n.1.toNat n.2.toNat
structure TM (T : TR) (M : List (Key × Own)) : Prop where
 v : T.valid
 s : T.short
 p : M.Perm T.pairs
 l : T.list.length ≤ 2 * M.length
 k : ∀ x ∈ M, x.1.length ≤ 32
 o : ∀ x ∈ M, x.2.size ≤ 140737488351232
theorem TM.nil : TM .nil [] := ⟨trivial, trivial, .nil, Nat.le_refl _, qC, qC⟩
theorem TM.put {T : TR} {M : List (Key × Own)} (h : TM T M) {n : Key} {o : Own} (hn : n.length ≤ 32) (ho : o ≠ noOwn) (hz : o.size ≤ 140737488351232) (hk : ∀ x ∈ M, x.1 ≠ n) : TM (T.put n o) (M ++ [(n, o)]) := by
 have hp := TR.put_pairs (n := n) h.v ho
 rw [zd4 (fun x hx => hk x (h.p.mem_iff.2 hx))] at hp
 refine ⟨(TR.put_valid h.v ho).1, put_short h.v h.s hn ho, ?_, ?_, ?_, ?_⟩
 ·exact (List.perm_append_singleton _ _).trans ((List.Perm.cons _ h.p).trans hp.symm)
 ·have := TR.put_len T n o
  have := h.l
  rw [qbg]
  simp only [qbs, qcy]
  omega
 ·intro x hx
  rcases qbz.1 hx with hx | hx
  ·exact h.k x hx
  ·have : x = (n, o) := by simpa using hx
   rw [this]; exact hn
 ·intro x hx
  rcases qbz.1 hx with hx | hx
  ·exact h.o x hx
  ·have : x = (n, o) := by simpa using hx
   rw [this]; exact hz
theorem TM.ok {T : TR} {M : List (Key × Own)} (h : TM T M) (hM : M.length ≤ 1000) : ∀ x ∈ T.list, x.OK :=
 TR.list_ok h.s (fun x hx => h.o x (h.p.mem_iff.2 hx)) (by have := h.l; omega)
theorem TM.grown {T : TR} {M : List (Key × Own)} (h : TM T M) : grownL M = T.list := grownL_tree h.v h.p
theorem zgm {a b : Int} (h0 : 0 ≤ a) (h1 : a < 4294967296) (hf : zan a b = 0) : (nkey (a, b)).length ≤ 32 ∧ a = zav (nkey (a, b)) ∧ b = ((nkey (a, b)).length : Int) :=
 ND.keyed (x := ⟨a, b, noOwn, 0⟩) h0 h1 hf
theorem nkey_inj {n m : NtP} (hn : ntOK n) (hm : ntOK m) (fn : zan n.1 n.2 = 0) (fm : zan m.1 m.2 = 0) (h : nkey n = nkey m) : n = m := by
 obtain ⟨a, b⟩ := n
 obtain ⟨c, d⟩ := m
 obtain ⟨_, h1, h2⟩ := zgm hn.1 hn.2 fn
 obtain ⟨_, h3, h4⟩ := zgm hm.1 hm.2 fm
 rw [h] at h1 h2
 have e1 : a = c := h1.trans h3.symm
 have e2 : b = d := h2.trans h4.symm
 rw [e1, e2]
def zbe (p : PE) (j : Nat) : List (Key × Own) := (p.nets.take j).map fun n => (nkey n, p.key)
def zax (l : List PE) (i : Nat) : List (Key × Own) := (l.take i).flatMap fun p => p.nets.map fun n => (nkey n, p.key)
theorem zfc {l : List PE} {i : Nat} {p : PE} (h : l[i]? = some p) : zax l (i + 1) = zax l i ++ zbe p p.nets.length := by
 obtain ⟨h1, h2⟩ := qbl.1 h
 unfold zax zbe
 rw [qbn h1, h2, qbD, qbI]
 simp
theorem zfa {p : PE} {j : Nat} {n : NtP} (h : p.nets[j]? = some n) : zbe p (j + 1) = zbe p j ++ [(nkey n, p.key)] := by
 obtain ⟨h1, h2⟩ := qbl.1 h
 unfold zbe
 rw [qbn h1, h2, qbF]
 rfl
theorem pairs_keys (l : List PE) (i : Nat) (p : PE) (j : Nat) : ∀ x ∈ zax l i ++ zbe p j, ∃ m, m ∈ zck l i ++ p.nets.take j ∧ x.1 = nkey m := by
 intro x hx
 rcases qbz.1 hx with hx | hx
 ·unfold zax at hx
  obtain ⟨q, hq, hx⟩ := List.mem_flatMap.1 hx
  obtain ⟨m, hm, rfl⟩ := qbo.1 hx
  exact ⟨m, qbz.2 (.inl (List.mem_flatMap.2 ⟨q, hq, hm⟩)), rfl⟩
 ·unfold zbe at hx
  obtain ⟨m, hm, rfl⟩ := qbo.1 hx
  exact ⟨m, qbz.2 (.inr hm), rfl⟩
theorem pairsB_len (l : List PE) : ∀ i, (zax l i).length = (zck l i).length := by
 intro i
 unfold zax zck
 induction (l.take i) with
 | nil => rfl
 | cons p r ih => simp [qbR, ih]
theorem dupN_no : ∀ (ns acc : List NtP), dupN acc ns = false → ∀ j (n : NtP), ns[j]? = some n → n ∉ acc ++ ns.take j
 | [], _, _, j, n, h => by simp at h
 | x :: r, acc, hd, 0, n, h => by
  unfold dupN at hd
  rw [qcg] at hd
  simp at h; subst h
  simpa using hd.1
 | x :: r, acc, hd, j + 1, n, h => by
  unfold dupN at hd
  rw [qcg] at hd
  have := dupN_no r (acc ++ [x]) hd.2 j n qz
  rwa [qbB, qcs] at this
structure CfGood (l : List PE) : Prop where
 n6 : l.length ≤ 6
 pe : ∀ p ∈ l, peE p = 0
 nd : ∀ i p, l[i]? = some p → dupN (zck l i) p.nets = false
theorem zje {c : CF} (h : cfE c = 0) : CfGood c.ps := by
 unfold cfE at h
 split at h
 ·rename_i h2; exact absurd h h2.2
 split at h
 ·cases h
 split at h
 ·cases h
 have key : ∀ i p, c.ps[i]? = some p → peE p = 0 ∧ dupN (zck c.ps i) p.nets = false := by
  intro i p hp
  have hi := (qbl.1 hp).1
  have h1 := zg9 h i hi
  unfold zdV at h1
  rw [zch hp] at h1
  split at h1
  ·exact absurd h1 qaf
  ·rename_i h2
   split at h1
   ·cases h1
   split at h1
   ·cases h1
   ·rename_i h3
    exact ⟨qbk.1 h2, by simpa using h3⟩
 refine ⟨qp, fun p hp => ?_, fun i p hp => (key i p hp).2⟩
 obtain ⟨i, hi, rfl⟩ := List.getElem_of_mem hp
 exact (key i _ (List.getElem?_eq_getElem hi)).1
theorem CfGood.net {l : List PE} (h : CfGood l) {p : PE} (hp : p ∈ l) : ∀ n ∈ p.nets, zan n.1 n.2 = 0 := by
 have h1 := h.pe p hp
 unfold peE at h1
 split at h1
 ·exact absurd h1 qaf
 split at h1
 ·rename_i h2; exact absurd h1 h2.2
 split at h1
 ·cases h1
 split at h1
 ·rename_i h2; exact absurd h1 h2.2
 split at h1
 ·cases h1
 split at h1
 ·cases h1
 intro n hn
 obtain ⟨j, hj, rfl⟩ := List.getElem_of_mem hn
 have h2 := zg9 h1 j hj
 unfold zcG at h2
 have hg : ntG p.nets j = p.nets[j] := by unfold ntG; rw [List.getD_eq_getElem?_getD, List.getElem?_eq_getElem hj]; rfl
 rw [hg] at h2
 split at h2
 ·exact absurd h2 qaf
 ·rename_i h3; exact qbk.1 h3
theorem CfGood.netB {l : List PE} (h : CfGood l) (ok : ∀ p ∈ l, p.OK) (i : Nat) : ∀ n ∈ zck l i, ntOK n ∧ zan n.1 n.2 = 0 := by
 intro n hn
 obtain ⟨p, hp, hn⟩ := List.mem_flatMap.1 hn
 have hm := qbT hp
 exact ⟨(ok p hm).nets n hn, h.net hm n hn⟩
theorem CfGood.new {l : List PE} (h : CfGood l) (ok : ∀ p ∈ l, p.OK) {i j : Nat} {p : PE} {n : NtP} (hp : l[i]? = some p) (hn : p.nets[j]? = some n) : ∀ x ∈ zax l i ++ zbe p j, x.1 ≠ nkey n := by
 intro x hx he
 obtain ⟨m, hm, hk⟩ := pairs_keys l i p j x hx
 have hpm := qbh hp
 have hnm := qbh hn
 have hmok : ntOK m ∧ zan m.1 m.2 = 0 := by
  rcases qbz.1 hm with hm | hm
  ·exact h.netB ok i m hm
  ·have hm := qbT hm
   exact ⟨(ok p hpm).nets m hm, h.net hpm m hm⟩
 have : m = n := nkey_inj hmok.1 ((ok p hpm).nets n hnm) hmok.2 (h.net hpm n hnm) (hk.symm.trans he)
 subst this
 exact dupN_no _ _ (h.nd i p hp) j m hn hm
theorem key_size {s : ByteArray} (h : keyE s = 0) : s.size ≤ 140737488351232 := by
 unfold keyE at h
 split at h
 ·omega
 ·cases h
theorem key_own {s : ByteArray} (h : keyE s = 0) : s ≠ noOwn := by
 intro e
 rw [e] at h
 exact absurd h qap
def tOf (M : List (Key × Own)) : TR := M.foldl (fun t x => t.put x.1 x.2) .nil
theorem tOf_snoc (M : List (Key × Own)) (x : Key × Own) : tOf (M ++ [x]) = (tOf M).put x.1 x.2 := by
 unfold tOf
 rw [qco]
 rfl
theorem ze9 (p : PE) : zbe p 0 = [] := by simp [zbe]
theorem zfb (l : List PE) : zax l 0 = [] := by simp [zax]
theorem zgk (p : PE) {j : Nat} (h : j ≤ p.nets.length) : (zbe p j).length = j := by
 unfold zbe
 rw [qbu, List.length_take]
 omega
theorem tOf_in {l : List PE} (h : CfGood l) (ok : ∀ p ∈ l, p.OK) {i : Nat} {p : PE} (hp : l[i]? = some p) (hT : TM (tOf (zax l i)) (zax l i)) : ∀ j, j ≤ p.nets.length → TM (tOf (zax l i ++ zbe p j)) (zax l i ++ zbe p j)
 | 0, _ => by rw [ze9, qbA]; exact hT
 | j + 1, hj => by
  have ih := tOf_in h ok hp hT j qp
  have hm := qbh hp
  have hn : p.nets[j]? = some p.nets[j] := List.getElem?_eq_getElem qp
  have hnm := qbh hn
  have hk := (zcU (h.pe p hm)).2
  have hno := (ok p hm).nets _ hnm
  rw [zfa hn, ← qbB, tOf_snoc]
  exact ih.put (zgm hno.1 hno.2 (h.net hm _ hnm)).1 (key_own hk) (key_size hk) (h.new ok hp hn)
theorem zhh {l : List PE} (h : CfGood l) (ok : ∀ p ∈ l, p.OK) : ∀ i, i ≤ l.length → TM (tOf (zax l i)) (zax l i)
 | 0, _ => by rw [zfb]; exact TM.nil
 | i + 1, hi => by
  have hp : l[i]? = some l[i] := List.getElem?_eq_getElem qp
  rw [zfc hp]
  exact tOf_in h ok hp (zhh h ok i qp) _ (Nat.le_refl _)
theorem zeu {l : List PE} (h : CfGood l) {i : Nat} (hi : i ≤ l.length) : (zax l i).length ≤ 8 * i := by
 rw [pairsB_len]
 refine netsB_len (fun j hj => ?_) hi
 have hj' : l[j]? = some l[j] := List.getElem?_eq_getElem qp
 rw [zch hj']
 exact (zcU (h.pe _ (qbh hj'))).1
theorem ctree_s (c : CF) (ok : c.OK) (h0 : cfE c = 0) : Fn prog 16 [.agg c.cells] (.tup [.row 0, qd 0]) [(0, .row 84 4 (tOf (zax c.ps c.ps.length)).list.length (nds (tOf (zax c.ps c.ps.length)).list))] := by
 have hC := zbu c ok
 rw [h0] at hC
 have hg := zje h0
 obtain ⟨key, port, ps⟩ := c
 have hok := ok.ps
 dsimp only at hg hok
 change Fn prog _ [.agg [qc key, qd port, ql ps.length 5 (ps.flatMap PE.pv)]] _ _ at hC
 refine jek ?_
 have hok1 : ∀ p ∈ ps, p.OK := fun p hp => (hok p hp).1
 have hall := zhh hg hok1
 have h6 := hg.n6
 clear ok h0
 refine fnI fun w0 A => ?_
 refine jeT ?_
 refine G [5, 1, 1, 9, 0] ?_
 refine cX ?_ ?_ <;> intro h
 ·cases h
 refine jdD ?_
 refine zaK (zbF 5 100 84 4 rfl rfl) ?_
 refine G [9] ?_
 refine zac (fun m st => ∃ i : Nat, m + i = ps.length ∧ st = St.of [(5, .row 100), (16, ql ps.length 5 (ps.flatMap PE.pv)), (17, qd ps.length), (18, qd i)] [(100, .row 84 4 (tOf (zax ps i)).list.length (nds (tOf (zax ps i)).list))]) ps.length ?_ ?_
 ·refine jec ?_ ?_
  ·exact jap
  ·rw [zfb]
   exact ja3
 rintro m st ⟨i, hi, rfl⟩
 refine G [5] ?_
 refine cX ?_ ?_ <;> intro h
 ·have hlt : i < ps.length := qu
  clear h
  obtain ⟨p, hp⟩ := qo hlt
  have hch := zaj (f := PE.pv) (k := 5) (fun _ => rfl) hp
  have hle := zai (f := PE.pv) (k := 5) (fun _ => rfl) hlt
  have hmem := qbh hp
  have hpn := (hok p hmem).2
  have hin := tOf_in hg hok1 hp (hall i qp)
  have hnx := zfc hp
  have hkey := (zcU (hg.pe p hmem)).2
  have h8 := (zcU (hg.pe p hmem)).1
  have hBl := zeu hg (Nat.le_of_lt hlt)
  have hnet := hg.net hmem
  have hnok := (hok1 p hmem).nets
  generalize ps.flatMap PE.pv = L at *
  refine G [8] ?_
  refine jej ?_
  refine G [9] ?_
  refine zac (fun m' st => ∃ j : Nat, m' + j = p.nets.length ∧ st = St.of [(5, .row 100), (7, .ref 7 0), (16, ql ps.length 5 L), (17, qd ps.length), (18, qd i), (23, ql p.nets.length 2 (p.nets.flatMap ntC)), (24, qd p.nets.length), (25, qd j)] [(7, .box 48 p.cells), (100, .row 84 4 (tOf (zax ps i ++ zbe p j)).list.length (nds (tOf (zax ps i ++ zbe p j)).list))]) p.nets.length ?_ ?_
  ·exact jdi
  rintro m' st ⟨j, hj, rfl⟩
  refine G [5] ?_
  refine cX ?_ ?_ <;> intro h
  ·have hlj : j < p.nets.length := qu
   clear h
   obtain ⟨q, hq⟩ := qo hlj
   have hch2 := zaj (f := ntC) (k := 2) (fun _ => rfl) hq
   have hle2 := zai (f := ntC) (k := 2) (fun _ => rfl) hlj
   have hqm := qbh hq
   have hq0 := hnok q hqm
   have hqf := hnet q hqm
   have hTM := hin j qp
   have hML : (zax ps i ++ zbe p j).length ≤ 1000 := by rw [qbg, zgk p (by omega)]; omega
   have hTok := hTM.ok hML
   obtain ⟨hE, hTo⟩ := trieE_list hTok hTM.v hTM.s
   have hTl := hTM.l
   have hPut := Put_s (tOf (zax ps i ++ zbe p j)).list hTok qp ⟨q.1, q.2, p.key, 1⟩ ⟨hq0.1, hq0.2, by have := zgm hq0.1 hq0.2 hqf; show (-9223372036854775808 : Int) ≤ q.2; omega, by have := zgm hq0.1 hq0.2 hqf; show q.2 ≤ (9223372036854775807 : Int); omega, by show (-9223372036854775808 : Int) ≤ 1; omega, by show (1 : Int) ≤ 9223372036854775807; omega, key_size hkey⟩
   have hPE : putE (tOf (zax ps i ++ zbe p j)).list ⟨q.1, q.2, p.key, 1⟩ = 0 := by
    unfold putE
    rw [if_neg (by rw [hE]; simp), if_neg (by show ¬ zan q.1 q.2 ≠ 0; rw [hqf]; simp), if_neg (key_own hkey)]
   have hPL : putL (tOf (zax ps i ++ zbe p j)).list ⟨q.1, q.2, p.key, 1⟩ = (tOf (zax ps i ++ zbe p (j + 1))).list := by
    rw [zfa hq, ← qbB, tOf_snoc]
    unfold putL
    rw [hTo]
    rfl
   rw [hPE, hPL] at hPut
   rw [(zhy []).1, (zhy (tOf (zax ps i ++ zbe p (j + 1))).list).2] at hPut
   have hv := zew (tOf (zax ps i ++ zbe p (j + 1))).list
   clear hPE hPL hTo hE hTl hTok hTM hML
   obtain ⟨a, b⟩ := q
   dsimp only at hPut
   change Fn prog _ [ql (tOf (zax ps i ++ zbe p j)).list.length 4 (nds (tOf (zax ps i ++ zbe p j)).list), .agg [qe a, qd b], qc p.key] _ _ at hPut
   generalize hN1 : nds (tOf (zax ps i ++ zbe p (j + 1))).list = N1 at *
   generalize hn1 : (tOf (zax ps i ++ zbe p (j + 1))).list.length = n1 at *
   generalize nds (tOf (zax ps i ++ zbe p j)).list = N0 at *
   generalize (tOf (zax ps i ++ zbe p j)).list.length = n0 at *
   generalize hNL : p.nets.flatMap ntC = NL at *
   refine jfa ?_
   refine G [6] ?_
   refine zbG (fun n => 34 + 1000 * n) (hPut) rfl rfl func41 rfl rfl qad qad rfl rfl rfl qq rfl rfl rfl ?_
   refine G [9, 9, 0] ?_
   refine ⟨m' - 1, qp, _, zae (fun o => bif Nat.beq o 100 then 34 else o) _ _ ?_ ?_ rfl, j + 1, qp, rfl⟩
   ·exact jap
   ·exact ⟨⟨rfl, rfl⟩, ⟨by rw [hn1, hN1]; rfl, rfl⟩, trivial⟩
  have hge : j = p.nets.length := qu
  clear h
  subst hge
  rw [← hnx]
  refine jdD ?_
  refine ⟨m - 1, qp, _, zae id _ _ ?_ ?_ rfl, i + 1, qp, rfl⟩
  ·exact jap
  ·exact ja3
 have hge : i = ps.length := qu
 clear h
 subst hge
 refine jdQ ?_
 exact jaO
theorem ones_push (M : List (Key × Own)) (a b : Int) (o : Own) (h : one (nkey (a, b), o) = ⟨a, b, o, 1⟩) : nds (M.map one) ++ [qi a, qh b, qg o, qh 1] = nds ((M ++ [(nkey (a, b), o)]).map one) := by
 rw [qbF, zhx, qbj, h]
 rfl
theorem rtree_s (c : CF) (ok : c.OK) (h0 : cfE c = 0) : Fn prog 21 [.agg c.cells] (.tup [.row 0, qd 0]) [(0, .row 84 4 (tOf (zax c.ps c.ps.length)).list.length (nds (tOf (zax c.ps c.ps.length)).list))] := by
 have hC := zaP c ok
 rw [h0] at hC
 have hg := zje h0
 obtain ⟨key, port, ps⟩ := c
 have hok := ok.ps
 dsimp only at hg hok
 change Fn prog _ [.agg [qc key, qd port, ql ps.length 5 (ps.flatMap PE.pv)]] _ _ at hC
 refine jek ?_
 have hok1 : ∀ p ∈ ps, p.OK := fun p hp => (hok p hp).1
 have hall := zhh hg hok1
 have h6 := hg.n6
 clear ok h0
 refine fnI fun w0 A => ?_
 refine jeT ?_
 refine G [5, 1, 1, 9, 0] ?_
 refine cX ?_ ?_ <;> intro h
 ·cases h
 refine jdD ?_
 refine zaK (zbF 5 100 84 4 rfl rfl) ?_
 refine G [9] ?_
 refine zac (fun m st => ∃ i : Nat, m + i = ps.length ∧ st = St.of [(5, .row 100), (16, ql ps.length 5 (ps.flatMap PE.pv)), (17, qd ps.length), (18, qd i)] [(100, .row 84 4 (zax ps i).length (nds ((zax ps i).map one)))]) ps.length ?_ ?_
 ·refine jec ?_ ?_
  ·exact jap
  ·rw [zfb]
   exact ja3
 rintro m st ⟨i, hi, rfl⟩
 refine G [5] ?_
 refine cX ?_ ?_ <;> intro h
 ·have hlt : i < ps.length := qu
  clear h
  obtain ⟨p, hp⟩ := qo hlt
  have hch := zaj (f := PE.pv) (k := 5) (fun _ => rfl) hp
  have hle := zai (f := PE.pv) (k := 5) (fun _ => rfl) hlt
  have hmem := qbh hp
  have hpn := (hok p hmem).2
  have hnx := zfc hp
  have h8 := (zcU (hg.pe p hmem)).1
  have hBl := zeu hg (Nat.le_of_lt hlt)
  have hnet := hg.net hmem
  have hnok := (hok1 p hmem).nets
  generalize ps.flatMap PE.pv = L at *
  refine G [8] ?_
  refine jej ?_
  refine G [9] ?_
  refine zac (fun m' st => ∃ j : Nat, m' + j = p.nets.length ∧ st = St.of [(5, .row 100), (7, .ref 7 0), (16, ql ps.length 5 L), (17, qd ps.length), (18, qd i), (23, ql p.nets.length 2 (p.nets.flatMap ntC)), (24, qd p.nets.length), (25, qd j)] [(7, .box 48 p.cells), (100, .row 84 4 ((zax ps i).length + j) (nds ((zax ps i ++ zbe p j).map one)))]) p.nets.length ?_ ?_
  ·exact jdi
  rintro m' st ⟨j, hj, rfl⟩
  refine G [5] ?_
  refine cX ?_ ?_ <;> intro h
  ·have hlj : j < p.nets.length := qu
   clear h
   obtain ⟨q, hq⟩ := qo hlj
   have hch2 := zaj (f := ntC) (k := 2) (fun _ => rfl) hq
   have hle2 := zai (f := ntC) (k := 2) (fun _ => rfl) hlj
   have hqm := qbh hq
   have hq0 := hnok q hqm
   have hqf := hnet q hqm
   have hpx := zfa hq
   have hcl : (nds ((zax ps i ++ zbe p j).map one)).length = ((zax ps i).length + j) * 4 := by rw [zev, qbu, qbg, zgk p (by omega)]
   obtain ⟨a, b⟩ := q
   have hone : one (nkey (a, b), p.key) = ⟨a, b, p.key, 1⟩ := by
    obtain ⟨_, k1, k2⟩ := zgm hq0.1 hq0.2 hqf
    dsimp only at k1 k2
    unfold one
    dsimp only
    rw [← k1, ← k2]
   have hpush := ones_push (zax ps i ++ zbe p j) a b p.key hone
   rw [qbB (zax ps i), ← hpx] at hpush
   generalize nds ((zax ps i ++ zbe p j).map one) = N0 at *
   generalize hNL : p.nets.flatMap ntC = NL at *
   refine jfa ?_
   refine G [7] ?_
   refine zab (xs := [.agg [qe a, qd b, qc p.key, qd 1]]) (zag (es := [qe a, qd b, qc p.key, qd 1]) (cs := [qi a, qh b, qg p.key, qh 1]) 34 U25 sz84 zc84 (qbe rfl) (qbe rfl) rfl qr qr qr (qbe rfl)) qP rfl ⟨rfl, trivial⟩ ?_
   refine zab (zaq 35 U25 eo84 (zaS) qB qp rfl rfl) rfl rfl ⟨rfl, rfl, rfl, trivial⟩ ?_
   refine jdI ?_
   refine ⟨m' - 1, qp, _, zae (fun o => bif Nat.beq o 100 then 35 else o) _ _ ?_ ?_ rfl, j + 1, qp, rfl⟩
   ·exact jap
   ·exact ⟨⟨rfl, rfl⟩, ⟨by rw [← hpush]; rfl, rfl⟩, trivial⟩
  have hge : j = p.nets.length := qu
  clear h
  subst hge
  rw [← hnx]
  refine jdD ?_
  refine ⟨m - 1, qp, _, zae id _ _ ?_ ?_ rfl, i + 1, qp, rfl⟩
  ·exact jap
  ·refine ⟨⟨?_, rfl⟩, trivial⟩
   rw [show (zax ps (i + 1)).length = (zax ps i).length + p.nets.length by rw [hnx, qbg, zgk p (Nat.le_refl _)]]
   rfl
 have hge : i = ps.length := qu
 clear h
 subst hge
 have hT := hall ps.length (Nat.le_refl _)
 have hfew := zeu hg (Nat.le_refl ps.length)
 have hG := grown_s (zax ps ps.length).length (zax ps ps.length) (Nat.le_refl _) hT.k qp
 rw [show (zbm (zax ps ps.length).length (zax ps ps.length)).map toND = (tOf (zax ps ps.length)).list from hT.grown] at hG
 have hcl : (nds ((zax ps ps.length).map one)).length = (zax ps ps.length).length * 4 := by rw [zev, qbu]
 have hv := zew (tOf (zax ps ps.length)).list
 generalize nds (tOf (zax ps ps.length)).list = N1 at *
 generalize (tOf (zax ps ps.length)).list.length = n1 at *
 generalize nds ((zax ps ps.length).map one) = N0 at *
 generalize (zax ps ps.length).length = n0 at *
 refine G [4] ?_
 refine zbG (fun n => 39 + 1000 * n) (hG) rfl rfl func50 rfl rfl qad qad rfl rfl rfl qq rfl rfl rfl ?_
 refine G [4, 9, 0] ?_
 refine yT (fun _ => 39) ?_ ?_
 ·exact rfl
 ·exact ja3
theorem app_empty (a b : ByteArray) : (a ++ b = ⟨#[]⟩) ↔ (a = ⟨#[]⟩ ∧ b = ⟨#[]⟩) := by
 constructor
 ·intro h
  have hs := congrArg ByteArray.size h
  rw [ByteArray.size_append] at hs
  have h0 : (ByteArray.mk #[]).size = 0 := rfl
  rw [h0] at hs
  have f : ∀ x : ByteArray, x.size = 0 → x = ⟨#[]⟩ := fun x hx => by
   obtain ⟨d⟩ := x
   have : d = #[] := Array.eq_empty_of_size_eq_zero hx
   rw [this]
  exact ⟨f a qp, f b qp⟩
 ·rintro ⟨rfl, rfl⟩
  rfl
theorem zik (s : SG) (ok : s.OK) : Fn prog 48 [.agg s.cells] (qd (sgE s)) [] := by
 obtain ⟨lv, rest, c, at_, err⟩ := s
 obtain ⟨okr, hl, okc, haz, hkz⟩ := ok
 dsimp only at okr hl okc haz hkz
 obtain ⟨E, hE⟩ : ∃ E, sgE ⟨lv, rest, c, at_, err⟩ = E := ⟨_, rfl⟩
 rw [hE]
 unfold sgE at hE
 dsimp only at hE
 have hCf := zaP c okc
 have hK := zbP at_
 have hrE : restE rest = fnz (fun i => seE (seG rest i)) rest.length := rfl
 have hpl := okc.len
 generalize cfE c = ce at *
 generalize keyE at_ = k1 at *
 obtain ⟨key, port, ps⟩ := c
 dsimp only at hE hpl hkz
 change Fn prog _ [.agg [qc key, qd port, ql ps.length 5 (ps.flatMap PE.pv)]] _ _ at hCf
 show Fn prog _ [.agg (sgC lv rest.length (rest.flatMap SE.pv) key port ps.length (ps.flatMap PE.pv) at_ err)] _ _
 clear okc
 generalize ps.flatMap PE.pv = L at *
 generalize ps.length = M at *
 refine fnI fun w0 A => ?_
 refine G [12, 9, 0] ?_
 refine cX ?_ ?_ <;> intro h
 ·have h0 : lv = false := qz
  clear h
  rw [if_pos h0] at hE
  refine G [17, 2, 6] ?_
  refine mb2 _ rfl rfl (fun hb => (zh5 (s := at_) (t := key) qp rfl)) (fun _ => trivial) ?_
  refine G [1, 2, 4, 2, 1, 9, 0] ?_
  refine cX ?_ ?_ <;> intro h
  ·have h1 : 0 < rest.length ∨ at_ ≠ ⟨#[]⟩ ∨ err ≠ 0 ∨ key ≠ ⟨#[]⟩ ∨ port ≠ 0 ∨ 0 < M := by
    simp at h
    rcases h with ((q | q) | q) | q
    ·by_cases h2 : 0 < rest.length
     ·exact .inl h2
     ·exact .inr (.inr (.inr (.inr (.inr qp))))
    ·exact .inr (.inr (.inr (.inr (.inl q))))
    ·by_cases h2 : at_ = ⟨#[]⟩
     ·exact .inr (.inr (.inr (.inl fun h3 => q ((app_empty at_ key).2 ⟨h2, h3⟩))))
     ·exact .inr (.inl h2)
    ·exact .inr (.inr (.inl q))
   exact jcX
  ·have h1 : ¬ (0 < rest.length ∨ at_ ≠ ⟨#[]⟩ ∨ err ≠ 0 ∨ key ≠ ⟨#[]⟩ ∨ port ≠ 0 ∨ 0 < M) := by
    simp at h
    obtain ⟨⟨⟨q1, q2⟩, q3⟩, q4⟩ := h
    obtain ⟨q5, q6⟩ := (app_empty at_ key).1 q3
    rintro (p | p | p | p | p | p)
    ·omega
    ·exact p q5
    ·exact p q4
    ·exact p q6
    ·exact p q2
    ·omega
   rw [if_neg h1] at hE
   subst hE
   exact jaH
 have h0 : ¬ lv = false := qz
 clear h
 rw [if_neg h0] at hE
 refine G [6] ?_
 refine cK hCf ?_
 refine jdv ?_
 refine cX ?_ ?_ <;> intro h
 ·have h1 : ce ≠ 0 := qz
  exact jbV
 have h1 : ce = 0 := qz
 clear h
 rw [if_neg (by simp [h1])] at hE
 refine G [9, 9, 0] ?_
 refine cX ?_ ?_ <;> intro h
 ·have h2 : 60 < rest.length := qu
  rw [if_pos h2] at hE
  subst hE
  exact ja4
 have h2 : ¬ 60 < rest.length := qu
 clear h
 rw [if_neg h2] at hE
 refine G [10] ?_
 refine zac (fun m st => ∃ i : Nat, m + i = rest.length ∧ (∀ j, j < i → seE (seG rest j) = 0) ∧ st = St.of [(1, .ref 1 0), (50, ql rest.length 5 (rest.flatMap SE.pv)), (51, qd rest.length), (52, qd i)] [(1, .box 30 (sgC lv rest.length (rest.flatMap SE.pv) key port M L at_ err))]) rest.length ?_ ?_
 ·exact jaA
 rintro m st ⟨i, hi, hf, rfl⟩
 refine G [5] ?_
 refine cX ?_ ?_ <;> intro h
 ·have hlt : i < rest.length := qu
  clear h
  obtain ⟨x, hx⟩ := qo hlt
  have hch := zaj (f := SE.pv) (k := 5) (fun _ => rfl) hx
  have hle := zai (f := SE.pv) (k := 5) (fun _ => rfl) hlt
  have hC := zaT x (okr x (qbh hx))
  exact jaM
 have hge : i = rest.length := qu
 clear h
 subst hge
 rw [hrE, zcP hf, if_neg (by simp)] at hE
 clear hf hrE
 refine G [10] ?_
 refine mb2 _ rfl rfl (fun _ => zbc func82 rfl rfl (hK) qw rfl) (fun _ => trivial) ?_
 exact jbe
def four (s : ST) : Four := (s.a.mine, s.b.mine, s.c.mine, s.h.mine)
def mostD (l : List ST) : Int := most (l.map four)
theorem four_ok (l : List ST) : ∀ (k : Nat) e q, (l.map ST.pv)[k]? = some e → (l.map four)[k]? = some q → StP e q := by
 intro k e q he hq
 rw [qbV] at he hq
 cases hs : l[k]? with
 | none => rw [hs] at he; cases he
 | some s =>
  rw [hs] at he hq
  simp only [qcQ, Option.some.injEq] at he hq
  subst he hq
  exact ⟨rfl, rfl, rfl, rfl, rfl⟩
theorem tmost_s (l : List ST) (hn : l.length ≤ 1048576) : Fn prog 36 [ql l.length 41 (l.flatMap ST.pv)] (qd (mostD l)) [] := by
 have h := most_s (l.map ST.pv) (l.map four) l.length qC qC qp (four_ok l)
 rwa [← List.flatMap_def] at h
theorem rmost_s (l : List ST) (hn : l.length ≤ 1048576) : Fn prog 49 [ql l.length 41 (l.flatMap ST.pv)] (qd (mostD l)) [] := by
 have h := statesMost_s (l.map ST.pv) (l.map four) l.length qC qC qp (four_ok l)
 rwa [← List.flatMap_def] at h
def zgX (l : List ST) (m : List PE) : Bool := decide (l.map ST.key = m.map PE.key)
theorem keysB_len {l : List ST} {m : List PE} (h : l.length ≠ m.length) : zgX l m = false := by
 refine decide_eq_false fun e => h ?_
 have := congrArg List.length e
 simpa using this
theorem keysB_ne {l : List ST} {m : List PE} {i : Nat} {x : ST} {y : PE} (h1 : l[i]? = some x) (h2 : m[i]? = some y) (h : x.key ≠ y.key) : zgX l m = false := by
 refine decide_eq_false fun e => h ?_
 have := congrArg (fun z : List ByteArray => z[i]?) e
 simpa [h1, h2] using this
theorem keysB_all {l : List ST} {m : List PE} (h : l.length = m.length) (k : ∀ j, j < l.length → (l[j]?).map ST.key = (m[j]?).map PE.key) : zgX l m = true := by
 refine decide_eq_true ?_
 apply qcS
 intro j
 rw [qbV, qbV]
 rcases qcl j l.length with hj | hj
 ·exact k j hj
 ·rw [List.getElem?_eq_none hj, List.getElem?_eq_none (by omega)]
  rfl
theorem chk1_s (s : ST) (p : PE) : Fn prog 38 [.agg s.cells, .agg p.cells] (qf (decide (s.key = p.key))) [] := by
 obtain ⟨k1, e1, a1, b1, c1, h1, q1⟩ := s
 obtain ⟨k2, s2, e2, a2, n2⟩ := p
 show Fn prog _ [.agg (stC k1 e1 a1 b1 c1 h1 q1.length (q1.flatMap PQ.pv)), .agg [qc k2, qc s2, qc e2, qd a2, ql n2.length 2 (n2.flatMap ntC)]] (qf (decide (k1 = k2))) _
 generalize q1.flatMap PQ.pv = L1 at *
 generalize q1.length = c at *
 generalize n2.flatMap ntC = L2 at *
 generalize n2.length = d at *
 refine fnI fun w0 A => ?_
 refine G [16, 9, 0] ?_
 exact yE
theorem keys_d (l : List ST) (m : List PE) (hl : l.length ≤ 1048576) (hm : m.length ≤ 1048576) : Fn prog 37 [ql l.length 41 (l.flatMap ST.pv), ql m.length 5 (m.flatMap PE.pv), .fn 38 []] (qf (zgX l m)) [] := by
 by_cases hlen : l.length = m.length
 rotate_left
 ·rw [keysB_len hlen]
  generalize l.flatMap ST.pv = L
  generalize m.flatMap PE.pv = M
  exact ja1
 obtain ⟨E, hE⟩ : ∃ E, zgX l m = E := ⟨_, rfl⟩
 rw [hE]
 refine fnI fun w0 A => ?_
 refine G [11, 3, 11] ?_
 refine zac (fun u st => ∃ i : Nat, u + i = l.length ∧ (∀ j, j < i → (l[j]?).map ST.key = (m[j]?).map PE.key) ∧ st = St.of [(1, ql m.length 5 (m.flatMap PE.pv)), (2, .fn 38 []), (15, ql l.length 41 (l.flatMap ST.pv)), (16, qd l.length), (17, qd i)] []) l.length ?_ ?_
 ·exact jaG
 rintro u st ⟨i, hi, hf, rfl⟩
 refine G [5] ?_
 refine cX ?_ ?_ <;> intro h
 ·have hlt : i < l.length := qu
  clear h
  obtain ⟨x, hx⟩ := qo hlt
  obtain ⟨y, hy⟩ : ∃ y, m[i]? = some y := ⟨m[i]'qp, List.getElem?_eq_getElem qp⟩
  have hch := zaj (f := ST.pv) (k := 41) (fun _ => rfl) hx
  have hle := zai (f := ST.pv) (k := 41) (fun _ => rfl) hlt
  have hch2 := zaj (f := PE.pv) (k := 5) (fun _ => rfl) hy
  have hle2 := zai (f := PE.pv) (k := 5) (fun _ => rfl) (show i < m.length by omega)
  have hbad := @keysB_ne l m i x y hx hy
  have hxy : x.key = y.key → (l[i]?).map ST.key = (m[i]?).map PE.key := fun e => by rw [hx, hy]; simp [e]
  have hC := chk1_s x y
  generalize l.flatMap ST.pv = L at *
  generalize m.flatMap PE.pv = M at *
  refine G [10] ?_
  refine jfc (zad (Y := .agg x.cells) sz60 rfl rfl (qbf rfl)) ?_
  refine G [8] ?_
  refine jfc (zad (Y := .agg y.cells) sz48 rfl rfl (qbf rfl)) ?_
  refine zaf ?_
  by_cases he : x.key = y.key
  ·rw [decide_eq_true he] at hC
   refine G [3] ?_
   refine jdO ?_
   exact jcd
  ·rw [hbad he] at hE
   subst hE
   rw [decide_eq_false he] at hC
   refine G [3] ?_
   refine jdO ?_
   exact jce
 have hge : i = l.length := qu
 clear h
 subst hge
 rw [keysB_all hlen hf] at hE
 subst hE
 refine jdI ?_
 exact yE
def okSt (ck : ByteArray) (now : Int) (s : ST) : Prop := ¬ ((ck = ⟨#[]⟩ ∧ (¬ (s.a = KY0 ∧ s.b = KY0 ∧ s.c = KY0) ∨ s.h.lv = true)) ∨ now < s.h.s)
def rangeD (d : DM) : Prop := d.gen < 0 ∨ 1099511627776 < d.gen ∨ d.now < 0 ∨ 1099511627776 < d.now ∨ d.last < mostD d.ps ∨ 4294967235 < d.last
def goodD (d : DM) : Prop := ((tOf (zax d.c.ps d.c.ps.length)).list = d.tree ∧ zgX d.ps d.c.ps = true) ∧ ∀ s ∈ d.ps, okSt d.c.key d.now s
open Classical in
noncomputable def dmE (d : DM) : Int :=
 if cfE d.c ≠ 0 then cfE d.c else if stsE d.ps ≠ 0 then stsE d.ps else if sgE d.sg ≠ 0 then sgE d.sg else if rangeD d then 4 else if goodD d then 0 else 14
section
variable {w0 : World} {A S : Nat → Prop} {m : Nat → Option Value} {heap : Nat → Slot} {w w' : World}
theorem mem_say (hm : Mem w0 A S m heap w) {o : Nat} {ob ob' : AObj} {v : Value} (hl : heap o = .live ob) (hv : m o = some v) (ho : ORep w0.heap.size S m w ob' v) : Mem w0 A S m (updL heap [(o, .live ob')]) w := by
 obtain ⟨v', k1, k2, k3⟩ := hm.live o ob hl
 rw [hv] at k1; cases k1
 refine ⟨hm.bel, hm.sA, hm.sW, fun o' ho' => ?_, fun o' ob2 ho' => ?_, fun o1 o2 ob1 ob2 v1 v2 b' h1 h2 h3 h4 h5 h6 => ?_, hm.gl⟩
 ·by_cases e : o' = o
  ·subst e; simp [updL] at ho'
  ·simp only [updL, nbeq e, cond_false] at ho'
   exact hm.un o' ho'
 ·by_cases e : o' = o
  ·subst e
   simp only [updL, qca, cond_true, Slot.live.injEq] at ho'
   subst ho'
   exact ⟨v, hv, ho, k3⟩
  ·simp only [updL, nbeq e, cond_false] at ho'
   exact hm.live o' ob2 ho'
 ·have key : ∀ {x : Nat} {obx : AObj}, updL heap [(o, .live ob')] x = .live obx → ∃ oby, heap x = .live oby := by
   intro x obx hx
   by_cases e : x = o
   ·subst e; exact ⟨ob, hl⟩
   ·simp only [updL, nbeq e, cond_false] at hx; exact ⟨obx, hx⟩
  obtain ⟨_, g1⟩ := key h1
  obtain ⟨_, g2⟩ := key h2
  exact jdc
end
theorem awp_openR {G : Env} {c : Code} {Q : Exit → St → Prop} {st : St} (o : Nat) {e size n : Nat} {cs : List PV} (h : st.heap o = qk e size n cs)
 (k : ∀ cap, n ≤ cap → cap ≤ maxLen → awp G c Q ⟨st.tmps, updL st.heap [(o, .live (.rowA e size n (some cap) (cs.map AV.p)))]⟩) : awp G c Q st := by
 intro a w hs
 obtain ⟨⟨S, m, hm, hj, ht⟩, hsz, hd⟩ := hs
 obtain ⟨v, h1, h2, h3⟩ := hm.live o _ h
 obtain ⟨us, j1, j2⟩ := h2
 obtain ⟨cap, q1, q2, q3⟩ : ∃ cap, n ≤ cap ∧ cap ≤ maxLen ∧ ∃ a, v = .slice a n cap := by
  rcases j2.2 with ⟨rfl, rfl⟩ | ⟨g, cap, cur, fz, rfl, _, _, _, g4, g5, _⟩
  ·exact ⟨0, Nat.le_refl _, qb6 _, none, rfl⟩
  ·exact ⟨cap, g4, g5, _, rfl⟩
 exact k cap q1 q2 a w ⟨⟨S, m, mem_say hm h h1 ⟨us, j1.repL, j2, fun k hk => by cases hk; exact q3⟩, hj, ht⟩, hsz, hd⟩
theorem zc4 {st : St} (o : Nat) {e size n : Nat} {c : Option Nat} {cs : List PV} (h : st.heap o = .live (.rowA e size n c (cs.map AV.p))) : ReO st ⟨st.tmps, updL st.heap [(o, qk e size n cs)]⟩ := by
 intro w0 A nt a w hs
 obtain ⟨⟨S, m, hm, hj, ht⟩, hsz, hd⟩ := hs
 obtain ⟨v, h1, h2, h3⟩ := hm.live o _ h
 obtain ⟨us, j1, j2, _⟩ := h2
 exact ⟨⟨S, m, mem_say hm h h1 ⟨us, zbO j1, j2⟩, hj, ht⟩, hsz, hd⟩
theorem zen {st : St} (o : Nat) {e size n : Nat} {cs : List PV} (h : st.heap o = qk e size n cs) : ReO st ⟨st.tmps, updL st.heap [(o, .live (.rowA e size n none (cs.map AV.p)))]⟩ := by
 intro w0 A nt a w hs
 obtain ⟨⟨S, m, hm, hj, ht⟩, hsz, hd⟩ := hs
 obtain ⟨v, h1, h2, h3⟩ := hm.live o _ h
 obtain ⟨us, j1, j2⟩ := h2
 exact ⟨⟨S, m, mem_say hm h h1 ⟨us, j1.repL, j2, fun k hk => by cases hk⟩, hj, ht⟩, hsz, hd⟩
theorem RepL.anys {S : Nat → Prop} {m : Nat → Option Value} {w : World} : ∀ us : List Value, RepL S m w (List.replicate us.length .any) us
 | [] => by simp [RepL]
 | u :: us => by
  simp only [qbs, List.replicate_succ, RepL, Rep]
  exact ⟨u, us, rfl, trivial, RepL.anys us⟩
section
variable {P : Program} {d : Option Tmp} {ty : TypeId} {pos : String} {af : Array Edge} {g : Option (Nat × Bool)}
theorem zgM (w : World) (r : Option Nat) : w.grownBy w r := ⟨rfl, rfl, rfl, Nat.le_refl _, fun _ _ _ => rfl⟩
theorem head_sl (a : Option Addr) (c k : Nat) : (∀ x, a = some x → ∃ g, x = ⟨g, 0, none⟩) → (if c = 0 then a else a.map (·.add (0 * k))) = a := fun h => by
 cases a with
 | none => simp
 | some x => obtain ⟨g, rfl⟩ := h x rfl; simp [Addr.add_mid]
theorem a_sliceUp {t e : TypeId} {x : Operand} {hi : Option Operand} {H : Option (IntKind × Int)} {o o' n c h size : Nat} {cs zs : List AV} (hu : P.underlying t = some (.slice e)) (hi' : (P.info? e).map (·.size) = some size) (hH : bOK hi H n h) (hh : n ≤ h) (hc : h ≤ c)
 (hz : cs ++ List.replicate ((h - n) * size) .any = zs) :
 AOp P ⟨d, .slice t x none hi none, ty, pos, af, g⟩ (SlOps x none hi (.row o) none H) [(o, .live (.rowA e size n (some c) cs)), (o', .un)] [(o', .live (.rowA e size h (some c) zs)), (o, .dead)] (.row o') := by
 intro w0 A S m heap w ev hm hR hrd
 have ho : heap o = .live (.rowA e size n (some c) cs) := hrd (o, _) qC
 have hd' : heap o' = .un := hrd (o', _) qC
 obtain ⟨h1, h2, h3⟩ := zda (t := t) (lo := none) (L := none) (l := 0) (dl := 0) rfl hH hR
 simp only [Rep] at h1
 obtain ⟨hx, _⟩ := h1
 obtain ⟨v, k1, k2, k3⟩ := hm.live o _ ho
 rw [hx] at k1
 have k1 := Option.some.inj k1
 obtain ⟨us, j1, ⟨j2, j3⟩, j4⟩ := k2
 obtain ⟨a, rfl⟩ := j4 c rfl
 subst hz
 have ha : ∀ x, a = some x → ∃ g, x = ⟨g, 0, none⟩ := fun x hx => by
  exact jc1
 have hrun : (execOp ev ⟨d, .slice t x none hi none, ty, pos, af, g⟩).run P w = .ok (.value (.slice a h c)) w := by
  have := zcg (a := a) (len := n) (cap := c) hu hi' h2 h3 (qb6 h) hc w
  exact jcp
 unfold Out
 rw [hrun]
 have hmd := hm.un o' hd'
 have hgr : Grow S m w S (setM m o' (.slice a h c)) w := ⟨fun _ h => h, fun b hS => rfl, fun q u hu => by
  have hne : q ≠ o' := fun e => by rw [e, hmd] at hu; cases hu
  simpa [setM, hne] using hu⟩
 have hobj : ORep w0.heap.size S (setM m o' (.slice a h c)) w (.rowA e size h (some c) (cs ++ List.replicate ((h - n) * size) .any)) (.slice a h c) := by
  rcases j3 with ⟨e1, rfl⟩ | ⟨gb, cap, cur, fz, e1, g2, g3, g4, g5, g6, g7, g8⟩
  ·cases e1
   obtain rfl : h = 0 := qp
   exact ⟨us, by simpa using RepL.mono hgr _ _ j1, ⟨by simpa using j2, .inl ⟨rfl, rfl⟩⟩, fun k hk => by cases hk; exact ⟨_, rfl⟩⟩
  ·cases e1
   have hm1 : n * size + (h - n) * size = h * size := by rw [← qcc]; congr 1; omega
   have hm2 : h * size ≤ cur.size := by rw [g7]; exact qbL _ hc
   have hcl : cur.toList.length = cur.size := qb2
   have hl2 : ((cur.toList.drop (n * size)).take ((h - n) * size)).length = (h - n) * size := qai
   have hu2 : cur.toList.take (h * size) = us ++ (cur.toList.drop (n * size)).take ((h - n) * size) := by
    rw [← g8, ← hm1, List.take_add]
   refine ⟨cur.toList.take (h * size), ?_, ⟨by rw [List.length_take]; omega, .inr ⟨gb, c, cur, fz, rfl, g2, g3, g4, hc, g6, g7, rfl⟩⟩, fun k hk => by cases hk; exact ⟨_, rfl⟩⟩
   rw [hu2]
   refine (RepL.mono hgr _ _ j1).append ?_
   have := RepL.anys (S := S) (m := setM m o' (.slice (some ⟨gb, 0, none⟩) h c)) (w := w) ((cur.toList.drop (n * size)).take ((h - n) * size))
   rwa [hl2] at this
 exact jbP
theorem zbg {t e e' : TypeId} {x : Operand} {lo hi : Option Operand} {L H : Option (IntKind × Int)} {o n k l h n' q size : Nat} {c : Option Nat} {cs : List AV} (hu : P.underlying t = some (.slice e)) (hi' : (P.info? e).map (·.size) = some k) (hL : bOK lo L 0 l) (hH : bOK hi H n h) (hlh : l ≤ h) (hh : h ≤ n)
 (hn : h - l = n') (hq : l * k = q) :
 AOp P ⟨d, .slice t x lo hi none, ty, pos, af, g⟩ (SlOps x lo hi (.row o) L H) [(o, .live (.rowA e' size n c cs))] [] (.psl o q n' k) :=
 zbv fun w0 A S m heap w ev hm hR hrd => by
  obtain ⟨h1, h2, h3⟩ := zda (t := t) hL hH hR
  simp only [Rep] at h1
  obtain ⟨hx, _⟩ := h1
  obtain ⟨v, k1, k2, _⟩ := hm.live o _ (rd1 hrd)
  rw [hx] at k1
  subst hn
  obtain ⟨us, j1, ⟨j2, j3⟩, _⟩ := k2
  rcases j3 with ⟨rfl, rfl⟩ | ⟨b, cap, cur, fz, rfl, _, _, _, j4, _⟩
  ·have e1 : ev x = .slice none 0 0 := Option.some.inj k1
   refine ⟨.slice (if 0 = l then none else (none : Option Addr).map (·.add (l * k))) (h - l) (0 - l), by simp only [execOp, e1, qck, qbp, zcg hu hi' h2 h3 hlh hh, qbi, qbq], ?_⟩
   simp only [Rep]
   exact ⟨_, _, rfl, qp, .inl qp⟩
  ·have e1 : ev x = .slice (some ⟨b, 0, none⟩) n cap := Option.some.inj k1
   refine ⟨.slice (if cap = l then some ⟨b, 0, none⟩ else (some (⟨b, 0, none⟩ : Addr)).map (·.add (l * k))) (h - l) (cap - l), by simp only [execOp, e1, qck, qbp, zcg hu hi' h2 h3 hlh (show h ≤ cap by omega), qbi, qbq], ?_⟩
   simp only [Rep]
   refine ⟨_, _, rfl, qp, ?_⟩
   by_cases h0 : h - l = 0
   ·exact .inl h0
   ·rw [if_neg (by omega)]
    exact .inr ⟨b, _, hx, by rw [e1]; rfl, by simp [Addr.add_mid, hq]⟩
theorem a_lenRA {x : Operand} {t e e' : TypeId} {o n size : Nat} {c : Option Nat} {cs : List AV} (hu : P.underlying t = some (.slice e)) :
 AOp P ⟨d, .call { callee := .builtin .len, args := #[x], argTypes := #[t] }, ty, pos, af, g⟩ [.row o] [(o, .live (.rowA e' size n c cs))] [] (qd n) :=
 zbv fun w0 A S m heap w ev hm hR hrd => by
  have hx := zcy (u := ev x) hR
  simp only [Rep] at hx
  obtain ⟨hx, _⟩ := hx
  obtain ⟨v, k1, k2, _⟩ := hm.live o _ (rd1 hrd)
  rw [hx] at k1
  obtain ⟨us, j1, ⟨j2, j3⟩, _⟩ := k2
  rcases j3 with ⟨rfl, rfl⟩ | ⟨b, cap, cur, fz, rfl, _⟩
  ·exact ⟨_, ze3 hu (Option.some.inj k1) w, za1 rfl⟩
  ·exact ⟨_, ze3 hu (Option.some.inj k1) w, za1 rfl⟩
theorem zjr {x : Operand} {t e e' : TypeId} {o n size c : Nat} {cs : List AV} (hu : P.underlying t = some (.slice e)) :
 AOp P ⟨d, .call { callee := .builtin .cap, args := #[x], argTypes := #[t] }, ty, pos, af, g⟩ [.row o] [(o, .live (.rowA e' size n (some c) cs))] [] (qd c) :=
 zbv fun w0 A S m heap w ev hm hR hrd => by
  have hx := zcy (u := ev x) hR
  simp only [Rep] at hx
  obtain ⟨hx, _⟩ := hx
  obtain ⟨v, k1, k2, _⟩ := hm.live o _ (rd1 hrd)
  rw [hx] at k1
  obtain ⟨us, j1, j2, j3⟩ := k2
  obtain ⟨a, rfl⟩ := j3 c rfl
  have e1 := Option.some.inj k1
  exact ⟨goInt c, by simp [execOp, resolve, invoke, builtin, e1, Builtin.cap_, run_underlying hu], za1 rfl⟩
theorem zaI {x y : Operand} {t e e' : TypeId} {k : Nat} {kk : IntKind} {i : Int} {o n size : Nat} {c : Option Nat} {cs : List AV} (hu : P.underlying t = some (.slice e)) (hi : (P.info? e).map (·.size) = some k) (h0 : 0 ≤ i) (h1 : i < n) {q : Nat} (hq : i.toNat * k = q) :
 AOp P ⟨d, .indexAddr t x y, ty, pos, af, g⟩ [.row o, .p (.v (.int kk i))] [(o, .live (.rowA e' size n c cs))] [] (.ref o q) :=
 zbv fun w0 A S m heap w ev hm hR hrd => by
  obtain ⟨hx, hy⟩ := zcj (u := ev x) (v := ev y) hR
  simp only [Rep] at hx
  obtain ⟨hx, _⟩ := hx
  obtain ⟨v, k1, k2, _⟩ := hm.live o _ (rd1 hrd)
  rw [hx] at k1
  obtain ⟨us, j1, ⟨j2, j3⟩, _⟩ := k2
  rcases j3 with ⟨rfl, h⟩ | ⟨b, cap, cur, fz, rfl, _⟩
  ·omega
  have e1 : ev x = .slice (some ⟨b, 0, none⟩) n cap := Option.some.inj k1
  refine ⟨.pointer (some ⟨b, q, none⟩), by simp [execOp, e1, za8 hy, ze4 hu hi h0 h1, hq], ?_⟩
  simp only [Rep]
  exact ⟨b, _, hx, by rw [e1]; rfl, rfl⟩
theorem zbw {x : Operand} {t e : TypeId} {ds : TypeDesc} {o off size n : Nat} {c : Option Nat} {cs : List AV} {r : AV} (hu : P.underlying t = some ds) (hd : ds.isRow = false) (h : cs[off]? = some r) :
 AOp P ⟨d, .load t x, ty, pos, af, g⟩ [.ref o off] [(o, .live (.rowA e size n c cs))] [] r :=
 zbv fun w0 A S m heap w ev hm hR hrd => by
  have ho : heap o = .live (.rowA e size n c cs) := rd1 hrd
  have hx := zcy (u := ev x) hR
  simp only [Rep] at hx
  obtain ⟨b, v0, h1, h2, h3⟩ := hx
  obtain ⟨v, k1, k2, _⟩ := hm.live o _ ho
  rw [h1] at k1; cases k1
  obtain ⟨us, j1, j3, _⟩ := k2
  obtain ⟨u, i1, i2⟩ := j1.at_ h
  have hc := zbM j3 h2 off u i1
  rw [Nat.zero_add] at hc
  exact ⟨u, by simp [execOp, h3, zfA hu hd hc], i2⟩
theorem setR_take {α : Type} {l vs : List α} {d N : Nat} (h : d + vs.length ≤ N) : (setR l d vs).take N = setR (l.take N) d vs := by
 unfold setR
 rw [List.take_append, List.take_append, qcH, Nat.min_eq_right (by omega : d ≤ N)]
 by_cases hd : d ≤ l.length
 ·have e1 : (l.take d).length = d := qN
  rw [qbg, e1, List.drop_take, qcH, Nat.min_eq_left (by omega), qbr (by omega : vs.length ≤ N - d)]
 ·have e1 : (l.take d).length = l.length := qN
  have e2 : l.drop (d + vs.length) = [] := qbS qp
  have e3 : (l.take N).drop (d + vs.length) = [] := qbS qN
  rw [qbg, e1, e2, e3, qbr (l := vs) (by omega), List.take_nil, qcH, Nat.min_eq_left (by omega)]
theorem zht {w : World} {B b : Nat} {e : TypeId} {size n d : Nat} {v : Value} {us vs : List Value} (h : zjs w B e size v n us) (hb : blk v = some b) (hd : d + vs.length ≤ us.length) :
 ∃ cur fz, w.heap[b]? = some (.cells cur e fz) ∧ noFz fz cur.size ∧ us.length ≤ cur.size ∧ zjs (w.setRow b (setR cur.toList d vs).toArray) B e size v n (setR us d vs) := by
 obtain ⟨h1, h2⟩ := h
 rcases h2 with ⟨rfl, _⟩ | ⟨g, cap, cur, fz, rfl, g1, g2, g3, g4, g5, g6, g7⟩
 ·simp [blk] at hb
 obtain rfl : g = b := qat
 have hle : n * size ≤ cur.size := by rw [g6]; exact qbL _ g4
 have hfit : d + vs.length ≤ cur.toList.length := by simp only [qb2]; omega
 have hsz : (setR cur.toList d vs).toArray.size = cur.size := qaQ
 refine ⟨cur, fz, g2, g3, qp, by rw [zbx hd]; exact h1, .inr ⟨g, cap, _, fz, rfl, g1, setRow_heap w g _ _ e fz g2, by rw [hsz]; exact g3, g4, g5, by rw [hsz]; exact g6, ?_⟩⟩
 show (setR cur.toList d vs).take (n * size) = _
 rw [setR_take (by omega), g7]
theorem zcx {x y : Operand} {t e : TypeId} {o off k size n : Nat} {c : Option Nat} {cs es : List AV} {Y : AV} (hi : (P.info? t).map (·.size) = some k) (hY : Y.stor = true) (hl : Y.cells.length = k) (hk : off + k ≤ cs.length) (h : setR cs off Y.cells = es) :
 AOp P ⟨d, .store t x y, ty, pos, af, g⟩ [.ref o off, Y] [(o, .live (.rowA e size n c cs))] [(o, .live (.rowA e size n c es))] .any := by
 intro w0 A S m heap w ev hm hR hrd
 have ho : heap o = .live (.rowA e size n c cs) := rd1 hrd
 obtain ⟨hx, hy⟩ := zcj (u := ev x) (v := ev y) hR
 simp only [Rep] at hx
 obtain ⟨b, v0, h1, h2, h3⟩ := hx
 obtain ⟨v, k1, k2, k3⟩ := hm.live o _ ho
 rw [h1] at k1; cases k1
 obtain ⟨us, j1, j2, j3⟩ := k2
 obtain ⟨c1, c2⟩ := zcI hy hY
 have hl1 := j1.length
 have hl2 := c1.length
 obtain ⟨cur, fz, q1, q2, q4, q3⟩ := zht (d := off) (vs := (ev y).cells.toList) j2 h2 qp
 have hrun := zdB hi q1 q2.cells (by rw [hl2, hl]) c2 (off := off) qp
 have hex : (execOp ev ⟨d, .store t x y, ty, pos, af, g⟩).run P w = .ok .skip (w.setRow b (setR cur.toList off (ev y).cells.toList).toArray) := by
  simp only [execOp, h3, qbp, hrun, qbi, qbq]
 unfold Out
 rw [hex]
 have hgr : Grow S m w S m (w.setRow b (setR cur.toList off (ev y).cells.toList).toArray) := ⟨fun _ h => h, fun c hS => setRow_other w b c _ (fun e => k3 b h2 (e ▸ hS)), fun _ _ h => h⟩
 obtain ⟨f1, f2⟩ := zex hm (ob' := .rowA e size n c es) (v := v0) (b := b) (setR cur.toList off (ev y).cells.toList).toArray (cur := cur) (t := e) (fz := fz) ho h1 h2
  ⟨_, h ▸ RepL.mono hgr _ _ (j1.setR off c1), q3, j3⟩
 exact ⟨S, m, by simp only [Rep], f1, f2⟩
def SrcQ (rds : List (Nat × Slot)) (x : AV) (m q size : Nat) (cs : List PV) : Prop :=
 ∀ (w0 : World) (A S : Nat → Prop) (mm : Nat → Option Value) (heap : Nat → Slot) (w : World) (u : Value), Mem w0 A S mm heap w → (∀ p ∈ rds, heap p.1 = p.2) → Rep S mm w x u →
  ∃ a c vs, u = .slice a m c ∧ PRepL S w cs vs ∧ vs.length = q * size ∧ (a = none → m = 0) ∧ (∀ ad, a = some ad → ∀ j v, vs[j]? = some v → w.cell? (ad.add j) = some v)
theorem srcQ {rds : List (Nat × Slot)} {x : AV} {m size : Nat} {cs : List PV} (h : Src rds x m size cs) : SrcQ rds x m m size cs := h
theorem zfv {o off m q : Nat} {e : TypeId} {size n size' : Nat} {c : Option Nat} {cs : List AV} {ds : List PV} (hqm : q ≤ m) (hk : off + q * size ≤ cs.length) (hd : (cs.drop off).take (q * size) = ds.map AV.p) : SrcQ [(o, .live (.rowA e size' n c cs))] (.psl o off m size) m q size ds := by
 intro w0 A S mm heap w u hm hrd hr
 simp only [Rep] at hr
 obtain ⟨a, cap, rfl, h2, h3⟩ := hr
 obtain ⟨v, k1, k2, _⟩ := hm.live o _ (rd1 hrd)
 obtain ⟨us, j1, j2, _⟩ := k2
 have hl := j1.length
 have hr2 := fun b hb => zbM j2 (b := b) hb
 have hlen : ((us.drop off).take (q * size)).length = q * size := qai
 have hrep : RepL S mm w (ds.map AV.p) ((us.drop off).take (q * size)) := by rw [← hd]; exact (j1.drop off).take _
 refine ⟨a, cap, (us.drop off).take (q * size), rfl, zbO hrep, hlen, fun ha => ?_, fun ad ha j x hj => ?_⟩
 ·rcases h3 with h3 | ⟨b, v0, _, _, h6⟩
  ·exact h3
  ·rw [ha] at h6; cases h6
 ·rcases h3 with h3 | ⟨b, v0, h4, h5, h6⟩
  ·subst h3
   obtain rfl : q = 0 := qp
   have : (us.drop off).take (0 * size) = [] := qbt (by rw [hlen]; simp)
   rw [this] at hj; simp at hj
  ·rw [ha] at h6; cases h6
   rw [k1] at h4; cases h4
   rw [Addr.add_mid]; exact zep (hr2 b h5) j x hj
theorem zdA {s x : Operand} {t t2 e : TypeId} {o off n1 m q n size : Nat} {c : Option Nat} {cs es : List AV} {ys : List PV} {X : AV} {rds : List (Nat × Slot)} (hu : P.underlying t = some (.slice e)) (hi : (P.info? e).map (·.size) = some size) (hs : SrcQ rds X m q size ys) (hq : min n1 m = q) (h1 : 1 ≤ q)
 (hk : off + q * size ≤ cs.length) (h : setR cs off (ys.map AV.p) = es) :
 AOp P ⟨d, .call { callee := .builtin .copy, args := #[s, x], argTypes := #[t, t2] }, ty, pos, af, g⟩ [.psl o off n1 size, X] ((o, .live (.rowA e size n c cs)) :: rds) [(o, .live (.rowA e size n c es))] (qd q) := by
 intro w0 A S mm heap w ev hm hR hrd
 have ho : heap o = .live (.rowA e size n c cs) := hrd (o, _) qC
 obtain ⟨hx, hy⟩ := zcj (u := ev s) (v := ev x) hR
 obtain ⟨a, c', vs, e1, e2, e3, e4, e5⟩ := hs w0 A S mm heap w _ hm (fun p hp => hrd p qaX) hy
 simp only [Rep] at hx
 obtain ⟨a1, cap1, d1, d2, d3⟩ := hx
 obtain ⟨b, v0, d4, d5, d6⟩ : ∃ b v0, mm o = some v0 ∧ blk v0 = some b ∧ a1 = some ⟨b, off, none⟩ := by
  rcases d3 with d3 | d3
  ·omega
  ·exact d3
 subst d6
 obtain ⟨v, k1, k2, k3⟩ := hm.live o _ ho
 rw [d4] at k1; cases k1
 obtain ⟨us, j1, j2, j3⟩ := k2
 have hl1 := j1.length
 obtain ⟨ad, rfl⟩ : ∃ ad, a = some ad := by
  cases a with
  | none => exact absurd (e4 rfl) qp
  | some ad => exact ⟨ad, rfl⟩
 obtain ⟨cur, fz, q1, q2, q4, q3⟩ := zht (d := off) (vs := vs) j2 d5 qp
 have hl := run_loadCells_list (P := P) w ad vs (e5 ad rfl)
 have hst := zbE P b off e fz vs 0 cur w q1 q2.cells qp e2.one
 have hex : (execOp ev ⟨d, .call { callee := .builtin .copy, args := #[s, x], argTypes := #[t, t2] }, ty, pos, af, g⟩).run P w = .ok (.value (.int .i64 q)) (w.setRow b (setR cur.toList off vs).toArray) := by
  cases hq' : P.info? e with
  | none => simp [hq'] at hi
  | some i =>
   have hi' : i.size = size := by simpa [hq'] using hi
   have hmin : Nat.min m n1 = q := by rw [← hq]; exact Nat.min_comm _ _
   simp only [qb0] at hst
   simp [execOp, resolve, invoke, builtin, d1, e1, Builtin.copy_, run_underlying hu, Builtin.lenOf, Builtin.firstCells, sizeOf, typeInfo, hq', hi', hmin, ← e3, hl, hst, setR, goInt]
 unfold Out
 rw [hex]
 have hgr : Grow S mm w S mm (w.setRow b (setR cur.toList off vs).toArray) := ⟨fun _ h => h, fun c hS => setRow_other w b c _ (fun e => k3 b d5 (e ▸ hS)), fun _ _ h => h⟩
 obtain ⟨f1, f2⟩ := zex hm (ob' := .rowA e size n c es) (v := v0) (b := b) (setR cur.toList off vs).toArray (cur := cur) (t := e) (fz := fz) ho d4 d5
  ⟨_, h ▸ RepL.mono hgr _ _ (j1.setR off e2.repL), q3, j3⟩
 exact ⟨S, mm, za1 rfl, f1, f2⟩
end
section
variable {P : Program} {d : Option Tmp} {ty : TypeId} {pos : String} {af : Array Edge} {g : Option (Nat × Bool)}
theorem zed {t e : TypeId} {len size : Nat} (d' : Nat) {parts : Array (Nat × Operand)} {z0 : Array Value} {xs es : List AV} (hu : P.underlying t = some (.slice e)) (hi : (P.info? e).map (·.size) = some size) (hz : (P.info? e).map (fun i => i.zero.map Value.cells) = some (some z0))
 (hl : len * size ≤ 2 ^ 24) (hl0 : 0 < len * size) (h1 : z0.toList.all (fun x => x.oneCell') = true)
 (hf : zgx (fun i => some (i * size, size)) (((List.range (len * size)).map fun i => (AV.p (.v (z0.getD (i % z0.size) default))))) ((parts.toList.map Prod.fst).zip xs) = some es) (hzs : 0 < z0.size) :
 AOp P ⟨d, .buildSlice t len parts, ty, pos, af, g⟩ xs [(d', .un)] [(d', qj e es)] (.psl d' 0 len size) := by
 intro w0 A S mm heap w ev hm hR hrd
 have hd' : heap d' = .un := rd1 hrd
 have hr' : RepL S mm w xs ((parts.toList.map Prod.snd).map ev) := by simpa [Op.operands] using hR
 obtain ⟨k1, k2⟩ := zet hr'
 have h1' : ∀ x ∈ z0.toList, x.oneCell' = true := qaH
 have hget : ∀ i, (z0[i % z0.size]!).oneCell' = true ∧ z0[i % z0.size]! = z0.getD (i % z0.size) default := fun i => by
  have hlt := Nat.mod_lt i hzs
  rw [getElem!_pos z0 _ hlt]
  refine ⟨h1' _ qC, ?_⟩
  simp [qb9, hlt]
 have c1 : RepL S mm w ((List.range (len * size)).map fun i => (AV.p (.v (z0.getD (i % z0.size) default)))) ((Array.range (len * size)).map (z0[· % z0.size]!)).toList := by
  have : ((Array.range (len * size)).map (z0[· % z0.size]!)).toList = (List.range (len * size)).map (fun i => z0[i % z0.size]!) := by simp [Array.toList_range]
  rw [this]
  generalize List.range (len * size) = l
  induction l with
  | nil => simp [RepL]
  | cons i l ih =>
   simp only [qbj, RepL, Rep, PRep]
   exact ⟨_, _, rfl, ⟨(hget i).2, (hget i).2 ▸ (hget i).1⟩, ih⟩
 have c2 : ∀ x ∈ ((Array.range (len * size)).map (z0[· % z0.size]!)).toList, x.oneCell' = true := by
  intro x hx
  simp only [qcw, qbo] at hx
  obtain ⟨i, _, rfl⟩ := hx
  exact (hget i).1
 obtain ⟨us', e1, e2, e3⟩ := zfW c1 c2 k1 k2 hf
 have hex : (execOp ev ⟨d, .buildSlice t len parts, ty, pos, af, g⟩).run P w = .ok (.value (.slice (some ⟨w.heap.size, 0, none⟩) len len)) (w.alloc (.cells us' e)) := by
  cases hq : P.info? e with
  | none => simp [hq] at hi
  | some i =>
   simp [hq] at hi hz
   obtain ⟨z, hz1, hz2⟩ := hz
   have e1' : Instr.fill (fun i => some (i * size, size)) ((Array.range (len * size)).map (z0[· % z0.size]!)) (List.map (fun p => (p.fst, ev p.snd)) parts.toList) = some us' := e1
   have hlim : ¬ (len * size > 2 ^ 24) := qp
   have h0 : ¬ (len * size = 0) := qp
   simp only [execOp, Instr.buildSlice, qbp, run_underlying hu, qbi, zbb (P := P) (t := e) (n := size) (by rw [hq]; simp [hi]), hlim, if_false, h0, zeroValue, typeInfo, run_program, hq, hz1, qbq, qcw, Sem.run_ite, hz2]
   simp only [e1', newRow, qbp, run_newObj, qbi, qbq]
   rfl
 unfold Out
 rw [hex]
 have hb : Below w.heap.size w (w.alloc (.cells us' e)) := (Below.refl _ _).alloc (Nat.le_refl _) _
 have hgr := zdv hm hb hd' (.pointer (some ⟨w.heap.size, 0, none⟩))
 obtain ⟨f1, f2⟩ := zdD hm hb d' hd' (.pointer (some ⟨w.heap.size, 0, none⟩)) (.box e es) (fun b hb => by simp [blk] at hb; omega)
  ⟨w.heap.size, us'.toList, rfl, hm.hB, RepL.mono hgr _ _ e2, e3, by simpa using heap_alloc_new w (.cells us' e)⟩
 exact ⟨S, _, by simp only [Rep]; exact ⟨_, _, rfl, Nat.le_refl _, .inr ⟨w.heap.size, .pointer (some ⟨w.heap.size, 0, none⟩), by simp [setM], rfl, rfl⟩⟩, f1, f2⟩
def AV.cellOK : AV → Bool
 | .p _ => true
 | .row _ => true
 | _ => false
theorem a_appendB {s x : Operand} {t e bt : TypeId} {size bytes : Nat} (d' : Nat) {o o2 n m : Nat} {cs ys zs : List AV} {c : Option Nat} (hu : P.underlying t = some (.slice e)) (he : zcz P e size bytes = true) (hy0 : ys.length = m * size) (hok : ys.all AV.cellOK = true)
 (hb1 : n + m ≤ maxLen) (hb2 : (n + m) * bytes ≤ 140737488355328) {k : Nat} (hk : n + m = k) (hz : cs ++ ys = zs) :
 AOp P ⟨d, .call { callee := .builtin .append, args := #[s, x], argTypes := #[t, t] }, ty, pos, af, g⟩ [.row o, .psl o2 0 m size] [(o, .live (.rowA e size n c cs)), (d', .un), (o2, qj bt ys)] [(d', .live (.rowA e size k none zs)), (o, .dead)] (.row d') := by
 intro w0 A S mm heap w ev hm hR hrd
 have ho : heap o = .live (.rowA e size n c cs) := hrd (o, _) qC
 have hd' : heap d' = .un := hrd (d', _) qC
 have ho2 : heap o2 = qj bt ys := hrd (o2, _) qC
 obtain ⟨hx, hy⟩ := zcj (u := ev s) (v := ev x) hR
 simp only [Rep] at hx hy
 obtain ⟨a, cap, y1, y2, y3⟩ := hy
 obtain ⟨v2, l1, l2, _⟩ := hm.live o2 _ ho2
 obtain ⟨b2, vs, rfl, _, e2, e2o, l3⟩ := l2
 have e3 : vs.length = m * size := by rw [e2.length, hy0]
 obtain ⟨hx, _⟩ := hx
 obtain ⟨v, k1, k2, k3⟩ := hm.live o _ ho
 rw [hx] at k1
 have k1 := Option.some.inj k1
 obtain ⟨us, j1, j2, _⟩ := k2
 obtain ⟨i, z, i1, i2, i3, i4, i5⟩ := zdn he
 have e4 : a = none → m = 0 := fun h => by
  rcases y3 with y3 | ⟨b, v0, _, _, h6⟩
  ·exact y3
  ·rw [h] at h6; cases h6
 have e5 : ∀ ad, a = some ad → ∀ j v, vs[j]? = some v → w.cell? (ad.add j) = some v := fun ad ha j v hj => by
  rcases y3 with y3 | ⟨b, v0, h4, h5, h6⟩
  ·subst y3
   have : vs = [] := qbt (by rw [e3]; simp)
   rw [this] at hj; simp at hj
  ·rw [ha] at h6; cases h6
   rw [l1] at h4; cases h4
   obtain rfl : b2 = b := by simpa [blk] using h5
   rw [Addr.add_mid]; exact zcw l3 j v hj
 obtain ⟨v', w', hrun, hrow, hg, hblk⟩ := zd0 (P := P) w w0.heap.size t ty e i z size bytes hu i1 i2 i3 i4 i5 v n us j2 a m cap vs e3 e4 e5 e2o hb1 hb2 hm.hB
 unfold Out
 have hex : (execOp ev ⟨d, .call { callee := .builtin .append, args := #[s, x], argTypes := #[t, t] }, ty, pos, af, g⟩).run P w = .ok (.value v') w' := by
  simp only [execOp, resolve, invoke, builtin, qbp, qbq, qbi, List.map_toArray, qbj, qcB, k1, y1, hrun]
 rw [hex]
 have hmd := hm.un d' hd'
 have hbb : ∀ b, blk v = some b → ¬ S b := k3
 have hgr : Grow S mm w S (setM mm d' v') w' := ⟨fun _ h => h, fun b hS => hg.block b (hm.sW b hS) (fun e => hbb b e.symm hS), fun o' u hu => by
  have hne : o' ≠ d' := fun e => by rw [e, hmd] at hu; cases hu
  simpa [setM, hne] using hu⟩
 subst hk
 subst hz
 obtain ⟨f1, f2⟩ := mem_append hm (o := o) (d := d') (v := v) (v' := v') (ob' := .rowA e size (n + m) none (cs ++ ys)) ho hd' (by rw [hx, k1]) hg hblk
  ⟨us ++ vs, RepL.mono hgr _ _ (j1.append e2), hrow, fun k hk => by cases hk⟩
 refine ⟨S, _, ?_, f1, f2⟩
 simp only [Rep]
 refine ⟨by simp [setM], ?_⟩
 rcases hrow.2 with ⟨rfl, _⟩ | ⟨g', cap, cur, fz, rfl, _⟩
 ·exact ⟨none, 0, 0, rfl⟩
 ·exact ⟨_, _, _, rfl⟩
theorem a_sliceC {t e e' : TypeId} {x : Operand} {hi : Option Operand} {H : Option (IntKind × Int)} {o n c h size k : Nat} {cs : List AV} (hu : P.underlying t = some (.slice e)) (hi' : (P.info? e).map (·.size) = some k) (hH : bOK hi H n h) (hc : h ≤ c) :
 AOp P ⟨d, .slice t x none hi none, ty, pos, af, g⟩ (SlOps x none hi (.row o) none H) [(o, .live (.rowA e' size n (some c) cs))] [] (.pslc o h) :=
 zbv fun w0 A S m heap w ev hm hR hrd => by
  obtain ⟨h1, h2, h3⟩ := zda (t := t) (lo := none) (L := none) (l := 0) (dl := 0) rfl hH hR
  simp only [Rep] at h1
  obtain ⟨hx, _⟩ := h1
  obtain ⟨v, k1, k2, _⟩ := hm.live o _ (rd1 hrd)
  rw [hx] at k1
  have e1 := Option.some.inj k1
  obtain ⟨us, j1, ⟨j2, j3⟩, j4⟩ := k2
  obtain ⟨a, rfl⟩ := j4 c rfl
  have ha : ∀ x, a = some x → ∃ g, x = ⟨g, 0, none⟩ := fun x hx => by
   rcases j3 with ⟨e1, _⟩ | ⟨gb, cap, cur, fz, e1, _⟩
   ·cases e1; cases hx
   ·cases e1; cases hx; exact ⟨_, rfl⟩
  have := zcg (a := a) (len := n) (cap := c) hu hi' h2 h3 (qb6 h) hc w
  rw [head_sl a c k ha, qck, qcP, qcP] at this
  refine ⟨.slice a h c, by simp only [execOp, e1, qck, qbp, this, qbi, qbq], ?_⟩
  simp only [Rep]
  exact ⟨a, n, c, by rw [hx, e1], rfl⟩
theorem zgU {s x : Operand} {t tn e : TypeId} {size bytes : Nat} (d' : Nat) {o n c i k : Nat} {cs zs : List AV} {kn : IntKind} (hu : P.underlying t = some (.slice e)) (hun : P.underlying tn = some (.int kn)) (he : zcz P e size bytes = true) (hs : 0 < size)
 (hin : i ≤ n) (h0 : 0 < k) (hc : c < i + k) (hb1 : i + k ≤ maxLen) (hb2 : (i + k) * bytes ≤ 140737488355328) (hz : cs.take (i * size) ++ List.replicate (k * size) .any = zs) {q : Nat} (hq : i + k = q) :
 AOp P ⟨d, .call { callee := .builtin .append, args := #[s, x], argTypes := #[t, tn] }, ty, pos, af, g⟩ [.pslc o i, .p (.v (.int .i64 k))] [(o, .live (.rowA e size n (some c) cs)), (d', .un)] [(d', .live (.rowA e size q none zs))] (.row d') := by
 intro w0 A S mm heap w ev hm hR hrd
 have ho : heap o = .live (.rowA e size n (some c) cs) := hrd (o, _) qC
 have hd' : heap d' = .un := hrd (d', _) qC
 obtain ⟨hx, hy⟩ := zcj (u := ev s) (v := ev x) hR
 have hy := za8 hy
 simp only [Rep] at hx
 obtain ⟨a, n0, c0, hx1, hx2⟩ := hx
 obtain ⟨v, k1, k2, k3⟩ := hm.live o _ ho
 rw [hx1] at k1
 obtain rfl := Option.some.inj k1
 obtain ⟨us, j1, j2, j3⟩ := k2
 obtain ⟨a', e1⟩ := j3 c rfl
 cases e1
 obtain ⟨it, z, i1, i2, i3, i4, i5⟩ := zdn he
 subst hz hq i3 i4
 have hl := j1.length
 have hle : i * it.size ≤ us.length := by rw [j2.1]; exact qbL _ hin
 have hold : (Builtin.firstCells it.size i (.slice a i c)).run P w.drew = .ok (us.take (i * it.size)).toArray w.drew := by
  cases a with
  | none =>
   rcases j2.2 with ⟨_, hn⟩ | ⟨gb, cap, cur, fz, e1, _⟩
   ·subst hn
    obtain rfl : i = 0 := qp
    simpa using run_firstCells_none w.drew it.size 0 0 c
   ·cases e1
  | some ad =>
   have hr2 : ∀ j u, (us.take (i * it.size))[j]? = some u → w.drew.cell? (ad.add j) = some u := fun j u hj => by
    rw [qbO] at hj
    split at hj
    ·rcases j2.2 with ⟨e1, _⟩ | ⟨gb, cap, cur, fz, e1, _⟩
     ·cases e1
     ·have := zbM j2 (b := ad.block) rfl j u hj
      cases e1
      rw [Addr.add_mid]; exact this
    ·cases hj
   exact run_firstCells_some w.drew it.size i ad i c (us.take (i * it.size)) qN hr2
 have hkb : k * it.bytes ≤ 281474976710656 := by
  have : k * it.bytes ≤ (i + k) * it.bytes := qbL _ qp
  omega
 have hrun := Lib.run_append_grow_zeros (P := P) w t tn ty e it z .i64 kn hu hun i1 i2 a i c (us.take (i * it.size)) hold k h0 hs hc (by simp only [maxLen] at hb1; omega) hkb (growslice_fits hc hb2)
 generalize hG : grownCap w (i + k) c e = G at hrun
 have hge : i + k ≤ G := by rw [← hG]; exact grownCap_ge w (i + k) c e
 have hcm : G ≤ maxLen := by rw [← hG]; exact grownCap_le_maxLen w (i + k) c e hb1
 unfold Out
 have hex : (execOp ev ⟨d, .call { callee := .builtin .append, args := #[s, x], argTypes := #[t, tn] }, ty, pos, af, g⟩).run P w = .ok (.value (.slice (some ⟨w.heap.size, 0, none⟩) (i + k) G)) (w.drew.alloc (.cells ((us.take (i * it.size)).toArray ++ Builtin.zeroCells z.cells k ++ Builtin.zeroCells z.cells (G - (i + k))) e)) := by
  simp only [execOp, resolve, invoke, builtin, qbp, qbq, qbi, List.map_toArray, qbj, qcB, hx2, hy, hrun]
 rw [hex]
 generalize hW : w.drew.alloc (.cells ((us.take (i * it.size)).toArray ++ Builtin.zeroCells z.cells k ++ Builtin.zeroCells z.cells (G - (i + k))) e) = W
 have hb : Below w.heap.size w W := by
  rw [← hW]
  have h1 : Below w.heap.size w w.drew := ⟨rfl, rfl, rfl, Nat.le_refl _, fun _ _ => rfl⟩
  have h2 : Below w.drew.heap.size w.drew (w.drew.alloc (.cells ((us.take (i * it.size)).toArray ++ Builtin.zeroCells z.cells k ++ Builtin.zeroCells z.cells (G - (i + k))) e)) := (Below.refl _ _).alloc (Nat.le_refl _) _
  exact h1.trans h2
 have hgr := zdv hm hb hd' (.slice (some ⟨w.heap.size, 0, none⟩) (i + k) G)
 have hW2 : W.heap[w.heap.size]? = some (.cells ((us.take (i * it.size)).toArray ++ Builtin.zeroCells z.cells k ++ Builtin.zeroCells z.cells (G - (i + k))) e (0, 0)) := by rw [← hW]; exact heap_alloc_new w.drew _
 have hzl : (Builtin.zeroCells z.cells k).toList.length = k * it.size := by rw [qb2, size_zeroCells, i5]
 have htl : (us.take (i * it.size)).length = i * it.size := qN
 obtain ⟨f1, f2⟩ := zdD hm hb d' hd' (.slice (some ⟨w.heap.size, 0, none⟩) (i + k) G) (.rowA e it.size (i + k) none (cs.take (i * it.size) ++ List.replicate (k * it.size) .any)) (fun b hb => by simp [blk] at hb; omega)
  ⟨us.take (i * it.size) ++ (Builtin.zeroCells z.cells k).toList, (RepL.mono hgr _ _ (j1.take _)).append (by
   have := RepL.anys (S := S) (m := setM mm d' (.slice (some ⟨w.heap.size, 0, none⟩) (i + k) G)) (w := W) (Builtin.zeroCells z.cells k).toList
   rwa [hzl] at this), ⟨by rw [qbg, htl, hzl, ← qcc], .inr ⟨w.heap.size, G, _, (0, 0), rfl, hm.hB, hW2, .inl rfl, hge, hcm, by
   simp only [qcR, qcj, htl, size_zeroCells, i5, ← qcc]
   congr 1; omega, by
   simp only [Array.toList_append]
   rw [qbH (by simp only [qbg, hzl, htl, ← qcc]; exact Nat.le_refl _), qbr (by simp only [qbg, hzl, htl, ← qcc]; exact Nat.le_refl _)]⟩⟩, fun k hk => by cases hk⟩
 exact ⟨S, _, by simp only [Rep]; exact ⟨by simp [setM], _, _, _, rfl⟩, f1, f2⟩
theorem a_clearRA {x : Operand} {t e : TypeId} {o off m n size : Nat} {c : Option Nat} {cs es : List AV} {z0 : Array Value} (hu : P.underlying t = some (.slice e)) (hz : (P.info? e).map (fun i => i.zero.map Value.cells) = some (some z0)) (hzs : z0.size = size) (h1 : z0.toList.all (fun x => x.oneCell') = true)
 (hm1 : 1 ≤ m) (hk : off + m * size ≤ cs.length) (h : setR cs off (List.replicate (m * size) .any) = es) :
 AOp P ⟨d, .call { callee := .builtin .clear, args := #[x], argTypes := #[t] }, ty, pos, af, g⟩ [.psl o off m size] [(o, .live (.rowA e size n c cs))] [(o, .live (.rowA e size n c es))] .any := by
 intro w0 A S mm heap w ev hm hR hrd
 have ho : heap o = .live (.rowA e size n c cs) := rd1 hrd
 have hx := zcy (u := ev x) hR
 simp only [Rep] at hx
 obtain ⟨a1, cap1, d1, d2, d3⟩ := hx
 obtain ⟨b, v0, d4, d5, d6⟩ : ∃ b v0, mm o = some v0 ∧ blk v0 = some b ∧ a1 = some ⟨b, off, none⟩ := by
  rcases d3 with d3 | d3
  ·omega
  ·exact d3
 subst d6
 obtain ⟨v, k1, k2, k3⟩ := hm.live o _ ho
 rw [d4] at k1; cases k1
 obtain ⟨us, j1, j2, j3⟩ := k2
 have hl1 := j1.length
 have hzl : (Builtin.zeroCells z0 m).toList.length = m * size := by rw [qb2, size_zeroCells, hzs]
 have hone : ∀ v ∈ (Builtin.zeroCells z0 m).toList, v.oneCell' = true := fun v hv => by
  have h1' : ∀ x ∈ z0.toList, x.oneCell' = true := qaH
  simp only [Builtin.zeroCells] at hv
  simp at hv
  obtain ⟨i, hi, rfl⟩ := hv
  have h0 : 0 < z0.size := by
   rcases Nat.eq_zero_or_pos z0.size with h | h
   ·rw [h] at hi; omega
   ·exact h
  have hlt := Nat.mod_lt i h0
  rw [getElem!_pos z0 _ hlt]
  exact h1' _ qC
 obtain ⟨cur, fz, q1, q2, q4, q3⟩ := zht (d := off) (vs := (Builtin.zeroCells z0 m).toList) j2 d5 qp
 have hst := zbE P b off e fz (Builtin.zeroCells z0 m).toList 0 cur w q1 q2.cells qp hone
 have hex : (execOp ev ⟨d, .call { callee := .builtin .clear, args := #[x], argTypes := #[t] }, ty, pos, af, g⟩).run P w = .ok (.value (.tuple #[])) (w.setRow b (setR cur.toList off (Builtin.zeroCells z0 m).toList).toArray) := by
  cases hq' : P.info? e with
  | none => simp [hq'] at hz
  | some i =>
   simp [hq'] at hz
   obtain ⟨z, hz1, hz2⟩ := hz
   obtain ⟨m', rfl⟩ : ∃ m', m = m' + 1 := ⟨m - 1, qp⟩
   simp only [qb0] at hst
   simp [execOp, resolve, invoke, builtin, d1, Builtin.clear_, run_underlying hu, zeroValue, typeInfo, hq', hz1, hz2, hst, setR]
 unfold Out
 rw [hex]
 have hgr : Grow S mm w S mm (w.setRow b (setR cur.toList off (Builtin.zeroCells z0 m).toList).toArray) := ⟨fun _ h => h, fun c hS => setRow_other w b c _ (fun e => k3 b d5 (e ▸ hS)), fun _ _ h => h⟩
 obtain ⟨f1, f2⟩ := zex hm (ob' := .rowA e size n c es) (v := v0) (b := b) (setR cur.toList off (Builtin.zeroCells z0 m).toList).toArray (cur := cur) (t := e) (fz := fz) ho d4 d5
  ⟨_, h ▸ RepL.mono hgr _ _ (j1.setR off (by have := RepL.anys (S := S) (m := mm) (w := w) (Builtin.zeroCells z0 m).toList; rwa [hzl] at this)), q3, j3⟩
 exact ⟨S, mm, by simp only [Rep], f1, f2⟩
theorem zgT {t e : TypeId} {x : Operand} {hi : Option Operand} {H : Option (IntKind × Int)} {o o' n h size : Nat} {c : Option Nat} {cs zs : List AV} (hu : P.underlying t = some (.slice e)) (hi' : (P.info? e).map (·.size) = some size) (hH : bOK hi H n h) (hh : h ≤ n)
 (hz : cs.take (h * size) = zs) :
 AOp P ⟨d, .slice t x none hi none, ty, pos, af, g⟩ (SlOps x none hi (.row o) none H) [(o, .live (.rowA e size n c cs)), (o', .un)] [(o', .live (.rowA e size h none zs)), (o, .dead)] (.row o') := by
 intro w0 A S m heap w ev hm hR hrd
 have ho : heap o = .live (.rowA e size n c cs) := hrd (o, _) qC
 have hd' : heap o' = .un := hrd (o', _) qC
 obtain ⟨h1, h2, h3⟩ := zda (t := t) (lo := none) (L := none) (l := 0) (dl := 0) rfl hH hR
 simp only [Rep] at h1
 obtain ⟨hx, _⟩ := h1
 obtain ⟨v, k1, k2, k3⟩ := hm.live o _ ho
 rw [hx] at k1
 have k1 := Option.some.inj k1
 obtain ⟨us, j1, ⟨j2, j3⟩, _⟩ := k2
 subst hz
 obtain ⟨a, c, rfl, hnc⟩ : ∃ a c, v = .slice a n c ∧ n ≤ c := by
  rcases j3 with ⟨rfl, rfl⟩ | ⟨gb, cap, cur, fz, rfl, _, _, _, g5, _⟩
  ·exact ⟨_, _, rfl, Nat.le_refl _⟩
  ·exact ⟨_, _, rfl, g5⟩
 have ha : ∀ x, a = some x → ∃ g, x = ⟨g, 0, none⟩ := fun x hx => by
  exact jc1
 have hrun : (execOp ev ⟨d, .slice t x none hi none, ty, pos, af, g⟩).run P w = .ok (.value (.slice a h c)) w := by
  have := zcg (a := a) (len := n) (cap := c) hu hi' h2 h3 (qb6 h) (qcd hh hnc) w
  exact jcp
 unfold Out
 rw [hrun]
 have hmd := hm.un o' hd'
 have hgr : Grow S m w S (setM m o' (.slice a h c)) w := ⟨fun _ h => h, fun b hS => rfl, fun q u hu => by
  have hne : q ≠ o' := fun e => by rw [e, hmd] at hu; cases hu
  simpa [setM, hne] using hu⟩
 have hobj : ORep w0.heap.size S (setM m o' (.slice a h c)) w (.rowA e size h none (cs.take (h * size))) (.slice a h c) := by
  have hle : h * size ≤ n * size := qbL _ hh
  refine ⟨us.take (h * size), (RepL.mono hgr _ _ j1).take _, ⟨by rw [List.length_take]; omega, ?_⟩, fun k hk => by cases hk⟩
  rcases j3 with ⟨e1, rfl⟩ | ⟨gb, cap, cur, fz, e1, g2, g3, g4, g5, g6, g7, g8⟩
  ·cases e1
   obtain rfl : h = 0 := qp
   exact .inl ⟨rfl, rfl⟩
  ·cases e1
   refine .inr ⟨gb, c, cur, fz, rfl, g2, g3, g4, qp, g6, g7, ?_⟩
   rw [← g8, qcH, Nat.min_eq_left hle]
 exact jbP
theorem ziE {x y z : Operand} {ts : Array TypeId} {f : FuncId} {fn : Func} {tS tR e bt : TypeId} {o1 o2 n1 n2 off n size size' : Nat} {c : Option Nat} {cs es : List AV} (hf : P.funcs[f]? = some fn) (hname : (fn.name == "runtime.NumGoroutine") = false) (hb : fn.body.isNone = true) (hn : Extern.findNext fn = none)
 (he : Extern.find fn = some (Extern.SlicesOverlaps.overlaps #[tS, tS] #[tR])) (hu : P.underlying tS = some (.slice e)) (hi : (P.info? e).map (·.size) = some size) (hne : Nat.beq o1 o2 = false) (h1 : 1 ≤ n1) (h2 : 1 ≤ n2) (hcs : 1 ≤ cs.length) :
 AOp P ⟨d, .call { callee := .value x, args := #[y, z], argTypes := ts }, ty, pos, af, g⟩ [.fn f [], .psl o1 0 n1 size', .psl o2 off n2 size'] [(o1, qj bt es), (o2, .live (.rowA e size n c cs))] [] (qf false) :=
 zbv fun w0 A S m heap w ev hm hR hrd => by
  have hr' : RepL S m w [.fn f [], .psl o1 0 n1 size', .psl o2 off n2 size'] [ev x, ev y, ev z] := by simpa [Op.operands, Call.operands] using hR
  obtain ⟨ha, hb1, hb2⟩ := zhu hr'
  have l1 : heap o1 = qj bt es := hrd (o1, _) qC
  have l2 : heap o2 = .live (.rowA e size n c cs) := hrd (o2, _) qC
  simp only [Rep, RepL] at ha hb1 hb2
  obtain ⟨us, h3, rfl⟩ := ha
  obtain ⟨a1, c1, e1, _, d1⟩ := hb1
  obtain ⟨a2, c2, e2, _, d2⟩ := hb2
  obtain ⟨b1, v1, m1, k1, rfl⟩ : ∃ b v0, m o1 = some v0 ∧ blk v0 = some b ∧ a1 = some ⟨b, 0, none⟩ := by
   rcases d1 with d1 | d1
   ·omega
   ·exact d1
  obtain ⟨b2, v2, m2, k2, rfl⟩ : ∃ b v0, m o2 = some v0 ∧ blk v0 = some b ∧ a2 = some ⟨b, off, none⟩ := by
   rcases d2 with d2 | d2
   ·omega
   ·exact d2
  obtain ⟨v1', i1, i2, _⟩ := hm.live o1 _ l1
  rw [m1] at i1; cases i1
  obtain ⟨v2', j1, j2, _⟩ := hm.live o2 _ l2
  rw [m2] at j1; cases j1
  have hbne : b1 ≠ b2 := fun hbe => by
   subst hbe
   have := hm.inj o1 o2 _ _ _ _ b1 l1 l2 m1 m2 k1 k2
   subst this
   simp at hne
  obtain ⟨bb, us1, rfl, _, _, _, g1⟩ := i2
  obtain rfl : bb = b1 := by simpa [blk] using k1
  obtain ⟨us2, q1, ⟨q2, q3⟩, _⟩ := j2
  have hl := q1.length
  rcases q3 with ⟨rfl, _⟩ | ⟨gb, cap, cur, fz, rfl, _, g2, _, g5, _, g7, g8⟩
  ·simp [blk] at k2
  obtain rfl : gb = b2 := by simpa [blk] using k2
  have hcur : cur.size ≠ 0 := by
   have : n * size ≤ cur.size := by rw [g7]; exact qbL _ g5
   omega
  have hsz : ∀ w, (Go.sizeOf e).run P w = .ok size w := fun w => by
   cases hq : P.info? e with
   | none => simp [hq] at hi
   | some i => simp [hq] at hi; simp [sizeOf, typeInfo, hq, hi]
  have hov := Lib.run_overlaps_apart (P := P) w tS tR e hu size hsz ⟨bb, 0, none⟩ ⟨gb, off, none⟩ n1 c1 n2 c2 hbne bt e us1.toArray.size cur.size (by simp [World.shape?, g1]) (by simp [World.shape?, g2]) hcur (by simp [World.frozen?, g1]) (by simp [World.frozen?, g1])
  refine ⟨.bool false, ?_, za1 rfl⟩
  simp only [execOp, resolve, h3, Deferred.ofValue, invoke, qbp, qbq, qbi]
  have := run_callFunc_extern (P := P) hf hname hb hn he #[ev y, ev z] w
  rw [e1, e2, hov] at this
  simpa [e1, e2] using this
end
def ctxS (A : Nat → Prop) (T : Nat → Prop) (w1 : World) : Ctx1 := ⟨A, fun S w => ∀ b, T b → S b ∧ w.heap[b]? = w1.heap[b]?, fun S m w S' m' w' g h b hb => ⟨g.s b (h b hb).1, (g.w b (h b hb).1).trans (h b hb).2⟩⟩
def FnR (P : Program) (f : FuncId) (args : List AV) (ins : List (Nat × AObj)) (res : AV) (outs : List (Nat × AObj)) : Prop :=
 ∀ (w0 : World) (A S : Nat → Prop) (m : Nat → Option Value) (w : World) (us : List Value), Mem w0 A S m (zaR ins) w → RepL S m w args us →
  Calls P f us.toArray w fun e w' => ∃ v, e = .returned v ∧ ∃ S' m', Rep S' m' w' res v ∧ Mem w0 A S' m' (zaR outs) w' ∧ ∀ b, S b → S' b ∧ w'.heap[b]? = w.heap[b]?
theorem zdR {P : Program} {f : FuncId} {fn : Func} {c : Code} {args : List AV} {ins : List (Nat × AObj)} {res : AV} {outs : List (Nat × AObj)} (hf : P.funcs[f]? = some fn) (hb : fn.body = some c) (hn : args.length ≤ fn.ntmps)
 (h : ∀ w0 A, awp ⟨P, w0, ctx0 A, fn.ntmps⟩ c (Fin P fn.results.toList res outs) (St.of (zgY 0 args) ins)) : FnR P f args ins res outs := by
 intro w0 A S m w us hm hr
 refine calls_of_wp hf hb ?_
 have hl := hr.length
 refine wp_mono (h w0 (ctxS A S w) _ w ⟨⟨S, m, hm, fun b hb => ⟨hb, rfl⟩, fun t => ?_⟩, ?_, rfl⟩) ?_
 ·show Rep S m w (zcV (zgY 0 args) t) _
  rw [zfO]
  simp only [qb6, if_true, qcP]
  by_cases ht : t < args.length
  ·have e : args.getD t .any = args[t] := by simp [List.getD_eq_getElem?_getD, ht]
   rw [e]
   obtain ⟨u, h1, h2⟩ := hr.at_ (List.getElem?_eq_getElem ht)
   have hu : t < us.length := qp
   have e2 : (us.toArray ++ Array.replicate (fn.ntmps - us.toArray.size) undef).getD t undef = u := by
    simp only [qb9]
    rw [Array.getElem?_append_left (by simpa using hu)]
    simp [h1]
   rw [e2]; exact h2
  ·have e : args.getD t .any = .any := qaK
   rw [e]; simp only [Rep]
 ·simp only [qcR, qcj, Array.size_replicate]; omega
 ·rintro e a w' ⟨st, h1, h2⟩
  obtain ⟨v, hrun, S', m', k1, k2, m2, k3⟩ := fin_okJ h2 h1
  rcases h1.ends with rfl | rfl
  ·exact ⟨h2.defers, _, hrun, _, rfl, S', m', k1, k2, k3⟩
  ·exact ⟨h2.defers, _, hrun, _, rfl, S', m', k1, k2, k3⟩
def vs (us : List Value) : List PV := us.map PV.v
theorem vs_rep {S : Nat → Prop} {w : World} : ∀ {us : List Value}, (∀ x ∈ us, x.oneCell' = true) → PRepL S w (vs us) us
 | [], _ => by simp [vs, PRepL]
 | u :: us, h => by
  simp only [vs, qbj, PRepL, PRep]
  exact ⟨u, us, rfl, ⟨rfl, h u qC⟩, vs_rep fun x hx => h x qba⟩
theorem rep_vs {S : Nat → Prop} {w : World} : ∀ {us vs' : List Value}, PRepL S w (vs us) vs' → vs' = us
 | [], vs', h => by simpa [vs, PRepL] using h
 | u :: us, vs', h => by
  simp only [vs, qbj, PRepL, PRep] at h
  obtain ⟨x, xs, rfl, ⟨rfl, _⟩, h3⟩ := h
  rw [rep_vs (us := us) h3]
section
variable {w0 : World} {A S : Nat → Prop} {m : Nat → Option Value} {heap : Nat → Slot} {w w' : World}
theorem zim (hm : Mem w0 A S m heap w) {o d : Nat} {ob ob' : AObj} {v v' : Value} (hl : heap o = .live ob) (hd : heap d = .un) (hv : m o = some v)
 (hbw : Below w0.heap.size w0 w') (hS : ∀ b, S b → w'.heap[b]? = w.heap[b]?) (hX : ∀ x obx u b, x ≠ o → heap x = .live obx → m x = some u → blk u = some b → w'.heap[b]? = w.heap[b]? ∧ blk v' ≠ some b) (hvS : ∀ b, blk v' = some b → ¬ S b) (ho : ORep w0.heap.size S (setM m d v') w' ob' v') :
 Mem w0 A S (setM m d v') (updL heap [(d, .live ob'), (o, .dead)]) w' ∧ Grow S m w S (setM m d v') w' := by
 have hmd : m d = none := hm.un d hd
 obtain ⟨u, k1, k2, k3⟩ := hm.live o ob hl
 rw [hv] at k1; cases k1
 have hdo : d ≠ o := fun e => by rw [e, hl] at hd; cases hd
 have g : Grow S m w S (setM m d v') w' := ⟨fun _ h => h, hS, fun o u hu => by
  have hne : o ≠ d := fun e => by rw [e, hmd] at hu; cases hu
  simpa [setM, hne] using hu⟩
 have key : ∀ {x : Nat} {obx : AObj}, x ≠ d → updL heap [(d, .live ob'), (o, .dead)] x = .live obx → x ≠ o ∧ heap x = .live obx := by
  intro x obx hxd hx
  by_cases e : x = o
  ·subst e; simp [updL, nbeq hxd] at hx
  ·simp only [updL, nbeq hxd, nbeq e, cond_false] at hx; exact ⟨e, hx⟩
 refine ⟨⟨hbw, hm.sA, fun b h => ?_, fun x hx => ?_, fun x obx hx => ?_, fun x y ob1 ob2 v1 v2 b h1 h2 h3 h4 h5 h6 => ?_, hm.gl⟩, g⟩
 ·have h1 := hS b h
  have h2 := hm.sW b h
  rw [qcG h2] at h1
  exact (qbC.1 h1).1
 ·by_cases e : x = d
  ·subst e; simp [updL] at hx
  ·by_cases e2 : x = o
   ·subst e2; simp [updL, nbeq e] at hx
   ·simp only [updL, nbeq e, nbeq e2, cond_false] at hx
    simp only [setM, if_neg e]
    exact hm.un x hx
 ·by_cases e : x = d
  ·subst e
   simp only [updL, qca, cond_true, Slot.live.injEq] at hx
   subst hx
   exact ⟨v', by simp [setM], ho, fun b hb => hvS b hb⟩
  ·obtain ⟨hxo, hx⟩ := key e hx
   obtain ⟨u, j1, j2, j3⟩ := hm.live x obx hx
   exact ⟨u, by simpa [setM, e] using j1, j2.mono g fun b hb => (hX x obx u b hxo hx j1 hb).1, j3⟩
 ·have sep : ∀ {x : Nat} {obx : AObj} {vx : Value}, x ≠ d → updL heap [(d, .live ob'), (o, .dead)] x = .live obx → setM m d v' x = some vx → blk vx = some b → blk v' = some b → False := by
   intro x obx vx hxd hx hmx hbx hbv
   obtain ⟨hxo, hx⟩ := key hxd hx
   simp only [setM, if_neg hxd] at hmx
   exact (hX x obx vx b hxo hx hmx hbx).2 hbv
  by_cases e : x = d <;> by_cases e' : y = d
  ·rw [e, e']
  ·subst e
   simp only [setM, if_true, Option.some.injEq] at h3
   subst h3
   exact (sep e' h2 h4 h6 h5).elim
  ·subst e'
   simp only [setM, if_true, Option.some.injEq] at h4
   subst h4
   exact (sep e h1 h3 h5 h6).elim
  ·obtain ⟨_, g1⟩ := key e h1
   obtain ⟨_, g2⟩ := key e' h2
   simp only [setM, if_neg e] at h3
   simp only [setM, if_neg e'] at h4
   exact jdc
theorem zi0 (hm : Mem w0 A S m heap w) (o : Nat) : Mem w0 A S m (updL heap [(o, .dead)]) w := by
 have key : ∀ o', updL heap [(o, .dead)] o' = heap o' ∨ updL heap [(o, .dead)] o' = .dead := fun o' => by
  by_cases e : o' = o
  ·subst e; exact .inr (by simp [updL])
  ·exact .inl (by simp only [updL, nbeq e, cond_false])
 refine ⟨hm.bel, hm.sA, hm.sW, fun o' ho => ?_, fun o' ob ho => ?_, fun o1 o2 ob ob' v v' b ho ho' => ?_, hm.gl⟩
 ·rcases key o' with h | h
  ·exact hm.un o' (h.symm.trans ho)
  ·rw [h] at ho; cases ho
 ·rcases key o' with h | h
  ·exact hm.live o' ob (h.symm.trans ho)
  ·rw [h] at ho; cases ho
 ·rcases key o1 with h | h
  ·rcases key o2 with h' | h'
   ·exact hm.inj o1 o2 ob ob' v v' b (h.symm.trans ho) (h'.symm.trans ho')
   ·rw [h'] at ho'; cases ho'
  ·rw [h] at ho; cases ho
end
def SeenAs (xs zs : List AV) (rds : List (Nat × Slot)) (o : Nat) : Prop :=
 ∀ (w0 : World) (A S : Nat → Prop) (m : Nat → Option Value) (heap : Nat → Slot) (w : World) (us : List Value), Mem w0 A S m heap w → (∀ p ∈ rds, heap p.1 = p.2) → RepL S m w xs us →
  RepL (fun b => b < w.heap.size ∧ ∀ v, m o = some v → blk v ≠ some b) (fun _ => none) w zs us
theorem seen_data (xs : List AV) (h : AV.okInL [] xs = true) {ob : AObj} {o : Nat} {rds : List (Nat × Slot)} (ho : (o, .live ob) ∈ rds) : SeenAs xs xs rds o := by
 intro w0 A S m heap w us hm hrd hr
 obtain ⟨v, h1, _, h3⟩ := hm.live o ob (hrd _ ho)
 have g : Grow S m w (fun b => b < w.heap.size ∧ ∀ v, m o = some v → blk v ≠ some b) m w := ⟨fun b hb => ⟨hm.sW b hb, fun v' hv hb' => by rw [h1] at hv; cases hv; exact h3 b hb' hb⟩, fun _ _ => rfl, fun _ _ h => h⟩
 exact RepL.unren (m := m) (K := []) (ρ := fun o => o) (fun o ho => by cases ho) _ _ h (by rw [zdc]; exact RepL.mono g _ _ hr)
section
variable {P : Program} {d : Option Tmp} {ty : TypeId} {pos : String} {af : Array Edge} {g : Option (Nat × Bool)} {x : Operand} {args : Array Operand} {ts : Array TypeId} {f : FuncId} {fn : Func}
theorem a_callR {xs cs zs : List AV} {rds : List (Nat × Slot)} {o o' n n' : Nat} {e size : Nat} {ps qs : List PV} (hf : P.funcs[f]? = some fn) (hb : fn.body.isNone = false) (hn : (fn.name == "runtime.NumGoroutine") = false)
 (hs : SeenAs (xs ++ cs) zs ((o, qk e size n ps) :: rds) o)
 (hC : ∀ (S : Nat → Prop) (w : World) (us : List Value), PRepL S w ps us → ∃ us', PRepL S w qs us' ∧ FnR P f (.row 0 :: zs) [(0, .row e size n (vs us))] (.row 1) [(1, .row e size n' (vs us'))]) :
 AOp P ⟨d, .call { callee := .value x, args := args, argTypes := ts }, ty, pos, af, g⟩ (.fn f cs :: .row o :: xs) ((o, qk e size n ps) :: (o', .un) :: rds) [(o', qk e size n' qs), (o, .dead)] (.row o') := by
 intro w0 A S m heap w ev hm hR hrd
 obtain ⟨us, e1, e2⟩ := zfj hR
 have ho : heap o = qk e size n ps := hrd (o, _) qC
 have ho' : heap o' = .un := hrd (o', _) qC
 unfold Out
 rw [zdZ hf hb hn e1]
 have e4 : args.map ev ++ us.toArray = ((args.map ev).toList ++ us).toArray := qC
 rw [e4]
 generalize (args.map ev).toList ++ us = L at e2
 simp only [qbG, RepL] at e2
 obtain ⟨u0, L, rfl, hr0, hrs⟩ := e2
 simp only [Rep] at hr0
 obtain ⟨hr0, hr1⟩ := hr0
 obtain ⟨v, k1, ⟨uc, j1, j2⟩, k3⟩ := hm.live o _ ho
 rw [hr0] at k1
 obtain rfl := Option.some.inj k1
 have hrs' := hs w0 A S m heap w L hm (fun p hp => hrd p (by
  rcases qbm.1 hp with rfl | hp
  ·simp
  ·simp [hp])) hrs
 obtain ⟨Sc, hSc⟩ : ∃ Sc : Nat → Prop, Sc = fun b => b < w.heap.size ∧ blk u0 ≠ some b := ⟨_, rfl⟩
 have hSe : (fun b => b < w.heap.size ∧ ∀ v, m o = some v → blk v ≠ some b) = Sc := by
  rw [hSc]; funext b
  exact propext ⟨fun h => ⟨h.1, h.2 u0 hr0⟩, fun h => ⟨h.1, fun v hv => by rw [hr0] at hv; cases hv; exact h.2⟩⟩
 rw [hSe] at hrs'
 obtain ⟨mc, hmc⟩ : ∃ mc : Nat → Option Value, mc = fun k => if k = 0 then some u0 else none := ⟨_, rfl⟩
 have hmem : Mem w0 (fun _ => True) Sc mc (zaR [(0, .row e size n (vs uc))]) w := by
  refine ⟨hm.bel, fun b _ => .inl trivial, fun b hb => by rw [hSc] at hb; exact hb.1, fun q hq => ?_, fun q ob hq => ?_, fun q q' ob ob' v v' b hq hq' hv hv' hb hb' => ?_, hm.gl⟩
  ·have := zfJ hq
   rw [hmc]; exact if_neg (by simpa using this)
  ·have := za6 hq
   simp only [qbm, qb4, or_false, Prod.mk.injEq] at this
   obtain ⟨rfl, rfl⟩ := this
   exact ⟨u0, by rw [hmc]; simp, ⟨uc, vs_rep j1.one, j2⟩, fun b hb hS => by rw [hSc] at hS; exact hS.2 hb⟩
  ·have h1 := za6 hq
   have h2 := za6 hq'
   simp only [qbm, qb4, or_false, Prod.mk.injEq] at h1 h2
   rw [h1.1, h2.1]
 have hargs : RepL Sc mc w (.row 0 :: zs) (u0 :: L) := by
  simp only [RepL, Rep]
  exact ⟨u0, L, rfl, ⟨by rw [hmc]; simp, hr1⟩, RepL.mono ⟨fun _ h => h, fun _ _ => rfl, fun o v h => by cases h⟩ _ _ hrs'⟩
 obtain ⟨uq, hq, hCC⟩ := hC S w uc j1
 refine (hCC w0 (fun _ => True) Sc mc w (u0 :: L) hmem hargs).mono fun en w' ⟨v, he, S', m', q1, q2, q3⟩ => ⟨v, he, ?_⟩
 simp only [Rep] at q1
 obtain ⟨q1, q1'⟩ := q1
 obtain ⟨v1, i1, ⟨uq', i2, i3⟩, i4⟩ := q2.live 1 _ rfl
 rw [q1] at i1
 obtain rfl := Option.some.inj i1
 obtain rfl := rep_vs i2
 have hst : ∀ k, k < w.heap.size → blk u0 ≠ some k → w'.heap[k]? = w.heap[k]? ∧ blk v ≠ some k := fun k hk hb => by
  have := q3 k (by rw [hSc]; exact ⟨hk, hb⟩)
  exact ⟨this.2, fun h => i4 k h this.1⟩
 have gS : ∀ b, S b → w'.heap[b]? = w.heap[b]? := fun b hS => (hst b (hm.sW b hS) (fun e => k3 b e hS)).1
 obtain ⟨f1, f2⟩ := zim hm (o := o) (d := o') (v := u0) (v' := v) (ob' := .row e size n' qs) ho ho' hr0 q2.bel gS
  (fun x obx u b hxo hx hmx hb => by
   obtain ⟨u', a1, a2, _⟩ := hm.live x obx hx
   rw [hmx] at a1; cases a1
   exact hst b (a2.lt hb).2 fun hb0 => hxo (hm.inj _ _ _ _ _ _ _ hx ho hmx hr0 hb hb0))
  (fun b hb hS => (hst b (hm.sW b hS) (fun e => k3 b e hS)).2 hb)
  ⟨_, PRepL.mono (fun _ h => h) gS _ _ hq, i3⟩
 exact ⟨S, _, by simp only [Rep]; exact ⟨by simp [setM], q1'⟩, f1, f2⟩
theorem a_callR2 {y : PV} {o o2 o' n n' : Nat} {e size bt : Nat} {ps qs : List PV} {ys : List AV} (hf : P.funcs[f]? = some fn) (hb : fn.body.isNone = false) (hn : (fn.name == "runtime.NumGoroutine") = false)
 (hy : y.isV = true) (hys : AV.okInL [] ys = true) (hne : o ≠ o2)
 (hC : ∀ (S : Nat → Prop) (w : World) (us : List Value), PRepL S w ps us → ∃ us', PRepL S w qs us' ∧ FnR P f [.row 0, .p y, .psl 1 0 1 size] [(0, .row e size n (vs us)), (1, .box bt ys)] (.row 2) [(2, .row e size n' (vs us'))]) :
 AOp P ⟨d, .call { callee := .value x, args := args, argTypes := ts }, ty, pos, af, g⟩ [.fn f [], .row o, .p y, .psl o2 0 1 size] [(o, qk e size n ps), (o', .un), (o2, qj bt ys)] [(o', qk e size n' qs), (o, .dead), (o2, .dead)] (.row o') := by
 intro w0 A S m heap w ev hm hR hrd
 obtain ⟨us, e1, e2⟩ := zfj hR
 have ho : heap o = qk e size n ps := hrd (o, _) qC
 have ho' : heap o' = .un := hrd (o', _) qC
 have ho2 : heap o2 = qj bt ys := hrd (o2, _) qC
 unfold Out
 rw [zdZ hf hb hn e1]
 have e4 : args.map ev ++ us.toArray = ((args.map ev).toList ++ us).toArray := qC
 rw [e4]
 generalize (args.map ev).toList ++ us = L at e2
 simp only [qbG, qbK, RepL] at e2
 obtain ⟨u0, _, rfl, hr0, u1, _, rfl, hrs, u2, _, rfl, hr2, rfl⟩ := e2
 simp only [Rep] at hr0 hr2
 obtain ⟨hr0, hr1⟩ := hr0
 obtain ⟨v, k1, ⟨uc, j1, j2⟩, k3⟩ := hm.live o _ ho
 rw [hr0] at k1
 obtain rfl := Option.some.inj k1
 obtain ⟨a2, c2, rfl, d1, d2⟩ := hr2
 obtain ⟨b2, v2, d3, d4, rfl⟩ : ∃ b v0, m o2 = some v0 ∧ blk v0 = some b ∧ a2 = some ⟨b, 0, none⟩ := by
  rcases d2 with d2 | d2
  ·omega
  ·exact d2
 obtain ⟨v2', g1, g2, g3⟩ := hm.live o2 _ ho2
 rw [d3] at g1; cases g1
 obtain ⟨Sc, hSc⟩ : ∃ Sc : Nat → Prop, Sc = fun b => b < w.heap.size ∧ blk u0 ≠ some b ∧ blk v2 ≠ some b := ⟨_, rfl⟩
 obtain ⟨mc, hmc⟩ : ∃ mc : Nat → Option Value, mc = fun k => if k = 0 then some u0 else if k = 1 then some v2 else none := ⟨_, rfl⟩
 have hmc0 : mc 0 = some u0 := by rw [hmc]; simp
 have hmc1 : mc 1 = some v2 := by rw [hmc]; simp
 have hSS : ∀ b, S b → Sc b := fun b hS => by rw [hSc]; exact ⟨hm.sW b hS, fun h => k3 b h hS, fun h => g3 b h hS⟩
 have hmem : Mem w0 (fun _ => True) Sc mc (zaR [(0, .row e size n (vs uc)), (1, .box bt ys)]) w := by
  refine ⟨hm.bel, fun b _ => .inl trivial, fun b hb => by rw [hSc] at hb; exact hb.1, fun q hq => ?_, fun q ob hq => ?_, fun q q' ob ob' v v' b hq hq' hv hv' hb hb' => ?_, hm.gl⟩
  ·have := zfJ hq
   simp only [qbj, qcB, qbm, qb4, or_false, not_or] at this
   rw [hmc]; simp only [if_neg this.1, if_neg this.2]
  ·have := za6 hq
   simp only [qbm, qb4, or_false, Prod.mk.injEq] at this
   rcases this with ⟨rfl, rfl⟩ | ⟨rfl, rfl⟩
   ·exact ⟨u0, hmc0, ⟨uc, vs_rep j1.one, j2⟩, fun b hb hS => by rw [hSc] at hS; exact hS.2.1 hb⟩
   ·obtain ⟨b', ub, rfl, l1, l2, l3, l4⟩ := g2
    exact ⟨_, hmc1, ⟨b', ub, rfl, l1, RepL.unren (m := m) (K := []) (ρ := fun o => o) (fun o ho => by cases ho) _ _ hys (by rw [zdc]; exact RepL.mono ⟨hSS, fun _ _ => rfl, fun _ _ h => h⟩ _ _ l2), l3, l4⟩, fun b hb hS => by rw [hSc] at hS; exact hS.2.2 hb⟩
  ·have h1 := za6 hq
   have h2 := za6 hq'
   simp only [qbm, qb4, or_false, Prod.mk.injEq] at h1 h2
   rcases h1 with ⟨rfl, rfl⟩ | ⟨rfl, rfl⟩ <;> rcases h2 with ⟨rfl, rfl⟩ | ⟨rfl, rfl⟩
   ·rfl
   ·rw [hmc0] at hv; rw [hmc1] at hv'; cases hv; cases hv'
    exact absurd (hm.inj _ _ _ _ _ _ _ ho ho2 hr0 d3 hb hb') hne
   ·rw [hmc1] at hv; rw [hmc0] at hv'; cases hv; cases hv'
    exact absurd (hm.inj _ _ _ _ _ _ _ ho ho2 hr0 d3 hb' hb) hne
   ·rfl
 have hargs : RepL Sc mc w [.row 0, .p y, .psl 1 0 1 size] [u0, u1, .slice (some ⟨b2, 0, none⟩) 1 c2] := by
  simp only [RepL]
  refine ⟨u0, _, rfl, by simp only [Rep]; exact ⟨hmc0, hr1⟩, u1, _, rfl, ?_, _, _, rfl, by simp only [Rep]; exact ⟨_, _, rfl, d1, .inr ⟨b2, v2, hmc1, d4, rfl⟩⟩, rfl⟩
  simp only [Rep] at hrs ⊢
  exact PRep.mono hSS (fun _ _ => rfl) _ _ hrs
 obtain ⟨uq, hq, hCC⟩ := hC S w uc j1
 refine (hCC w0 (fun _ => True) Sc mc w _ hmem hargs).mono fun en w' ⟨v, he, S', m', q1, q2, q3⟩ => ⟨v, he, ?_⟩
 simp only [Rep] at q1
 obtain ⟨q1, q1'⟩ := q1
 obtain ⟨v1, i1, ⟨uq', i2, i3⟩, i4⟩ := q2.live 2 _ rfl
 rw [q1] at i1
 obtain rfl := Option.some.inj i1
 obtain rfl := rep_vs i2
 have hst : ∀ k, k < w.heap.size → blk u0 ≠ some k → blk v2 ≠ some k → w'.heap[k]? = w.heap[k]? ∧ blk v ≠ some k := fun k hk hb hb2 => by
  have := q3 k (by rw [hSc]; exact ⟨hk, hb, hb2⟩)
  exact ⟨this.2, fun h => i4 k h this.1⟩
 have hSk : ∀ b, S b → w'.heap[b]? = w.heap[b]? ∧ blk v ≠ some b := fun b hS => hst b (hm.sW b hS) (fun e => k3 b e hS) (fun e => g3 b e hS)
 have hmd := zi0 hm o2
 have hdn : ∀ x obx, updL heap [(o2, .dead)] x = .live obx → x ≠ o2 ∧ heap x = .live obx := fun x obx hx => by
  by_cases e : x = o2
  ·subst e; simp [updL] at hx
  ·simp only [updL, nbeq e, cond_false] at hx; exact ⟨e, hx⟩
 have hon : o' ≠ o2 := fun e => by rw [e, ho2] at ho'; cases ho'
 obtain ⟨f1, f2⟩ := zim hmd (o := o) (d := o') (v := u0) (v' := v) (ob' := .row e size n' qs) (by simp only [updL, nbeq hne, cond_false]; exact ho) (by simp only [updL, nbeq hon, cond_false]; exact ho') hr0 q2.bel (fun b hS => (hSk b hS).1)
  (fun x obx u b hxo hx hmx hb => by
   obtain ⟨hx2, hx⟩ := hdn x obx hx
   obtain ⟨u', a1, a2, _⟩ := hm.live x obx hx
   rw [hmx] at a1; cases a1
   exact hst b (a2.lt hb).2 (fun hb0 => hxo (hm.inj _ _ _ _ _ _ _ hx ho hmx hr0 hb hb0)) (fun hb0 => hx2 (hm.inj _ _ _ _ _ _ _ hx ho2 hmx d3 hb hb0)))
  (fun b hb hS => (hSk b hS).2 hb)
  ⟨_, PRepL.mono (fun _ h => h) (fun b hS => (hSk b hS).1) _ _ hq, i3⟩
 refine ⟨S, _, by simp only [Rep]; exact ⟨by simp [setM], q1'⟩, ?_, f2⟩
 have : updL (updL heap [(o2, .dead)]) [(o', qk e size n' qs), (o, .dead)] = updL heap [(o', qk e size n' qs), (o, .dead), (o2, .dead)] := by
  funext k; simp only [updL]
 rw [← this]
 exact f1
end
end Go.Proofs.YtlfjpippeeikdaaGreatDoor
