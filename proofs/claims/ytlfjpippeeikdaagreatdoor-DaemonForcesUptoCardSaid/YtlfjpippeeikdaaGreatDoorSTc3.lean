/- table.numbers and table.Find, over data. -/
import Derived.Test.YtlfjpippeeikdaaGreatDoorSTc1
import Derived.Test.YtlfjpippeeikdaaGreatDoorSMq
set_option linter.all false
namespace Go.Proofs.YtlfjpippeeikdaaGreatDoor
open Go.RowKit Go.Sort
set_option maxRecDepth 100000 in
theorem numbers_s (X : List AV) (a b c d : Int) (h5 : X[5]? = some (.p (.v (.int .i64 a)))) (h16 : X[16]? = some (.p (.v (.int .i64 b)))) (h27 : X[27]? = some (.p (.v (.int .i64 c)))) (h36 : X[36]? = some (.p (.v (.int .i64 d)))) :
 Fn Tryz.prog 70 [.agg X] (.agg [.p (.v (.int .i64 0)), .p (.v (.int .i64 a)), .p (.v (.int .i64 b)), .p (.v (.int .i64 c)), .p (.v (.int .i64 d))]) [] := by
 refine zcN Tryz.func70 rfl (qaA rfl) fun w0 A => ?_
 refine zan (zaA qm ?_)
 (refine zab (a_box (X := .agg _) 1 rfl) rfl rfl ⟨rfl, trivial⟩ ?_)
 (refine zab (zaJ 2 zr114 rfl) rfl rfl ⟨rfl, trivial⟩ ?_)
 refine zag (zan (zaA qm ?_))
 (refine zaa (zar zer rfl) rfl rfl ?_)
 (refine zaa (zar fi55_0 rfl) rfl rfl ?_)
 (refine zaa (zar zhW rfl) rfl rfl ?_)
 (refine zab (zbq Tryz.underlying3 rfl qM) rfl rfl ⟨rfl, trivial⟩ ?_)
 (refine zaa (zar zer rfl) rfl rfl ?_)
 (refine zaa (zar fi55_1 rfl) rfl rfl ?_)
 (refine zaa (zar zhW rfl) rfl rfl ?_)
 (refine zab (zbq Tryz.underlying3 rfl qM) rfl rfl ⟨rfl, trivial⟩ ?_)
 (refine zaa (zar zer rfl) rfl rfl ?_)
 (refine zaa (zar fi55_2 rfl) rfl rfl ?_)
 (refine zaa (zar zhW rfl) rfl rfl ?_)
 (refine zab (zbq Tryz.underlying3 rfl qM) rfl rfl ⟨rfl, trivial⟩ ?_)
 (refine zaa (zar zhp rfl) rfl rfl ?_)
 (refine zaa (zar fi57_1 rfl) rfl rfl ?_)
 (refine zab (zbq Tryz.underlying3 rfl qM) rfl rfl ⟨rfl, trivial⟩ ?_)
 (refine zaa (zfI Tryz.underlying114 zr114 rfl sz3 rfl) rfl rfl ?_)
 (refine zab (zac (Y := .agg _) sz114 rfl qD (qaB rfl)) rfl rfl ⟨rfl, trivial⟩ ?_)
 refine zag (zaB (⟨qI, _, (fun o => o), (.cellN _ _ _ _ _ _ _ _ _ rfl rfl Tryz.underlying114 rfl sz114 qap .nil), ?_, rfl, ?_, rfl⟩))
 ·kernel_rfl
 ·exact trivial
def idxI (n : Int) : List Int → Int
 | [] => -1
 | x :: xs => if n = x then 0 else if idxI n xs < 0 then -1 else idxI n xs + 1
def is (xs : List Int) : List PV := xs.map fun x => .v (.int .i64 x)
theorem is_at {xs : List Int} {k : Nat} (h : k < xs.length) : (is xs)[k]? = some (.v (.int .i64 xs[k])) := by simp [is, h]
theorem idxI_at {n : Int} : ∀ {xs : List Int} {k : Nat}, (hk : k < xs.length) → n = xs[k] → (∀ j, (hj : j < k) → n ≠ xs[j]) → idxI n xs = k
 | x :: xs, 0, _, h, _ => by
  have : n = x := by simpa using h
  simp [idxI, this]
 | x :: xs, k + 1, hk, h, hb => by
  have h0 : n ≠ x := by simpa using hb 0 qk
  have ih := idxI_at (xs := xs) (k := k) (by simpa using hk) qG (fun j hj => by simpa using hb (j + 1) qk)
  simp only [idxI, if_neg h0, ih]
  rw [if_neg (by omega)]
  omega
theorem idxI_none {n : Int} : ∀ {xs : List Int}, (∀ j, (hj : j < xs.length) → n ≠ xs[j]) → idxI n xs = -1
 | [], _ => rfl
 | x :: xs, hb => by
  have h0 : n ≠ x := hb 0 qz
  have ih := idxI_none (n := n) (xs := xs) (fun j hj => hb (j + 1) (by simpa using hj))
  simp [idxI, h0, ih]
set_option maxRecDepth 100000 in
theorem index_s (xs : List Int) (n : Int) (N : Nat) (hN : xs.length = N) (hm : N ≤ 100000) : Fn Tryz.prog 106 [.p (.sl N 1 (is xs)), .p (.v (.int .i64 n))] (.p (.v (.int .i64 (idxI n xs)))) [] := by
 refine zcN Tryz.func106 rfl (qaA rfl) fun w0 A => ?_
 refine zan (zaA qm ?_)
 (refine zaa (zaQ (r := .p _)) rfl rfl ?_)
 refine zag (zan (zan (zaA qm ?_)))
 (refine zaa (zaI (r := .p _)) rfl rfl ?_)
 (refine zaa (zd7 Tryz.underlying112) rfl rfl ?_)
 (refine zaa (zaI (r := .p _)) rfl rfl ?_)
 refine zag (zax (zae (fun m st => ∃ k : Nat, m + k = N ∧ (∀ j, (hj : j < k) → (hj2 : j < xs.length) → n ≠ xs[j]) ∧ st = St.of [(0, .p (.sl N 1 (is xs))), (1, .p (.v (.int .i64 n))), (7, .p (.v (.int .i64 N))), (8, .p (.v (.int .i64 k)))] []) N ?_ ?_))
 ·refine ⟨_, zad id _ _ ?_ ?_ rfl, 0, qk, fun j hj => by omega, rfl⟩
  ·(repeat (first | exact trivial | (refine ⟨⟨qu, rfl⟩, ?_⟩)))
  ·exact trivial
 rintro m st ⟨k, hk, hb, rfl⟩
 refine zan (zaA qm ?_)
 (refine zaa a_lss rfl rfl ?_)
 refine zag (zan (zb2 _ rfl (fun h => ?_) (fun h => ?_)))
 ·have hlt : k < N := by simpa using h
  clear h
  have hx : k < xs.length := qk
  have hat := is_at hx
  refine zay (zan (zax (zan (zaA qm ?_))))
  (refine zaa (zaI (r := .p _)) rfl rfl ?_)
  (refine zaa (zaQ (r := .p _)) rfl rfl ?_)
  refine zag (zan (zaA qm ?_))
  (refine zaa (zaI (r := .p _)) rfl rfl ?_)
  (refine zaa (zaI (r := .p _)) rfl rfl ?_)
  (refine zaa (zaI (r := .p _)) rfl rfl ?_)
  (refine zaa (za1 Tryz.underlying112 sz3 qk qk rfl) rfl rfl ?_)
  (refine zaa (zaN Tryz.underlying3 rfl qq) rfl rfl ?_)
  (refine zaa zbC rfl rfl ?_)
  refine zag (zaE (zb2 _ rfl (fun h => ?_) (fun h => ?_)))
  ·have he : n = xs[k] := by simpa using h
   refine zan (zaA qm ?_)
   (refine zaa (zaI (r := .p _)) rfl rfl ?_)
   (refine zaa (zaQ (r := .p _)) rfl rfl ?_)
   refine zag (zaB (zb1 (zbs (zbs (zb1 (zbs (⟨qI, _, (fun o => o), (.tmp _ _ _ _ rfl .nil), ?_, rfl, ?_, rfl⟩)))))))
   ·rw [idxI_at hx he fun j hj => hb j hj (by omega)]; kernel_rfl
   ·exact trivial
  ·have he : n ≠ xs[k] := by simpa using h
   refine zay (zb6 (zaE (zaA qm ?_)))
   (refine zaa (zd8 qN) rfl rfl ?_)
   (refine zaa (zaI (r := .p _)) rfl rfl ?_)
   refine zag (zaE (⟨m - 1, qk, _, zad id _ _ ?_ ?_ rfl, k + 1, qk, fun j hj hj2 => ?_, rfl⟩))
   ·(repeat (first | exact trivial | (refine ⟨⟨qu, rfl⟩, ?_⟩)))
   ·exact trivial
   ·by_cases e : j = k
    ·subst e; exact he
    ·exact hb j qk hj2
 ·have hge : ¬ k < N := by simpa using h
  refine zaG (zan (zaA qm ?_))
  (refine zaa (zaQ (r := .p _)) rfl rfl ?_)
  refine zag (zaB (⟨qI, _, (fun o => o), (.tmp _ _ _ _ rfl .nil), ?_, rfl, ?_, rfl⟩))
  ·rw [idxI_none fun j hj => hb j (by omega) hj]; kernel_rfl
  ·exact trivial
end Go.Proofs.YtlfjpippeeikdaaGreatDoor
namespace Go.Proofs.YtlfjpippeeikdaaGreatDoor
open Tryz
open Go.RowKit Go.Sort
set_option maxHeartbeats 16000000
set_option maxRecDepth 100000
theorem idxI_ge (n : Int) : ∀ xs : List Int, (0 ≤ idxI n xs ↔ n ∈ xs)
 | [] => by simp [idxI]
 | x :: xs => by
  have ih := idxI_ge n xs
  unfold idxI
  by_cases h : n = x
  ·rw [if_pos h]; simp [h]
  ·rw [if_neg h]
   by_cases h2 : idxI n xs < 0
   ·rw [if_pos h2]
    simp only [qaI, h, false_or]
    rw [← ih]; omega
   ·rw [if_neg h2]
    simp only [qaI, h, false_or]
    rw [← ih]; omega
theorem zh0 (xs : List Int) (n : Int) (N : Nat) (hN : xs.length = N) (hm : N ≤ 100000) : Fn prog 71 [.p (.sl N 1 (is xs)), qd n] (qf (decide (n ∈ xs))) [] := by
 have hI := index_s xs n N hN hm
 have hge := idxI_ge n xs
 have hB : decide (n ∈ xs) = decide (0 ≤ idxI n xs) := by simp only [hge]
 rw [hB]
 generalize idxI n xs = k at *
 refine fnI fun w0 A => ?_
 refine G [8] ?_
 refine cV hI ?_
 refine G [4, 9, 0] ?_
 exact yE
def za5 (s : ST) : List Int := [s.a.mine, s.b.mine, s.c.mine, s.h.mine]
def dupB : List Int → List Int → Bool
 | _, [] => false
 | acc, n :: r => (decide (0 < n) && decide (n ∈ acc)) || dupB (acc ++ [n]) r
def stG (l : List ST) (i : Nat) : ST := l.getD i ⟨⟨#[]⟩, ⟨#[]⟩, KY0, KY0, KY0, HS0, []⟩
def allN (l : List ST) (i : Nat) : List Int := (l.take i).flatMap za5
noncomputable def zfd (l : List ST) (i : Nat) : Int :=
 if stE (stG l i) ≠ 0 then stE (stG l i) else if 0 < i ∧ leK (stG l i).key (stG l (i - 1)).key = true then 6
 else if dupB (allN l i) (za5 (stG l i)) = true then 6 else 0
noncomputable def stsE (l : List ST) : Int := if 6 < l.length then 1 else fnz (zfd l) l.length
theorem zhX : ∀ (ns acc acc' : List Int), (∀ n, 0 < n → (n ∈ acc ↔ n ∈ acc')) → dupB acc ns = dupB acc' ns
 | [], _, _, _ => rfl
 | n :: r, acc, acc', h => by
  unfold dupB
  rw [zhX r (acc ++ [n]) (acc' ++ [n]) fun k hk => by simp [h k hk]]
  by_cases hn : 0 < n
  ·simp [hn, h n hn]
  ·simp [hn]
theorem dupB_zero (acc ns : List Int) : dupB acc (0 :: ns) = dupB (acc ++ [0]) ns := by simp [dupB]
def allT (l : List ST) (i : Nat) : List Int := (l.take i).flatMap fun s => 0 :: za5 s
theorem allT_next {l : List ST} {i : Nat} {s : ST} (h : l[i]? = some s) : allT l (i + 1) = allT l i ++ (0 :: za5 s) := by
 obtain ⟨h1, h2⟩ := qaG.1 h
 unfold allT
 exact jbP
theorem allT_len (l : List ST) {i : Nat} (h : i ≤ l.length) : (allT l i).length = 5 * i := by
 unfold allT
 rw [zas (k := 5) (fun _ => rfl), List.length_take]
 omega
theorem allT_N (l : List ST) (i : Nat) (n : Int) (hn : 0 < n) : n ∈ allT l i ↔ n ∈ allN l i := by
 unfold allT allN
 simp only [List.mem_flatMap, qaI]
 constructor
 ·rintro ⟨s, h1, h2 | h2⟩
  ·omega
  ·exact ⟨s, h1, h2⟩
 ·rintro ⟨s, h1, h2⟩
  exact ⟨s, h1, .inr h2⟩
theorem dupT (l : List ST) (i : Nat) (s : ST) : dupB (allT l i) (0 :: za5 s) = dupB (allN l i) (za5 s) := by
 rw [dupB_zero]
 exact zhX _ _ _ fun n hn => by
  rw [qaW, qbC, allT_N l i n hn]
  constructor
  ·rintro (h | h)
   ·exact h
   ·omega
  ·exact .inl
theorem stG_at {l : List ST} {i : Nat} {s : ST} (h : l[i]? = some s) : stG l i = s := by unfold stG; rw [List.getD_eq_getElem?_getD, h]; rfl
theorem is_push (X : List Int) (n : Int) : is X ++ [qh n] = is (X ++ [n]) := by simp [is]
theorem is_len (X : List Int) : (is X).length = X.length := by simp [is]
theorem tabCheck_s (l : List ST) (ok : ∀ s ∈ l, s.OK) (hn : l.length ≤ 1048576) : Fn prog 34 [.p (.sl l.length 41 (l.flatMap ST.pv))] (qd (stsE l)) [] := by
 obtain ⟨E, hE⟩ : ∃ E, stsE l = E := ⟨_, rfl⟩
 rw [hE]
 unfold stsE at hE
 refine fnI fun w0 A => ?_
 refine G [11, 9, 0] ?_
 refine cX ?_ ?_ <;> intro h
 ·exact jbm
 have h6 : ¬ 6 < l.length := by simp at h; omega
 clear h
 rw [if_neg h6] at hE
 refine G [12, 9, 0] ?_
 refine zaH (zbY 3 100 3 1 rfl rfl) ?_
 refine zax (zae (fun m st => ∃ i : Nat, m + i = l.length ∧ (∀ j, j < i → zfd l j = 0) ∧ st = St.of [(0, .p (.sl l.length 41 (l.flatMap ST.pv))), (3, .row 100), (12, .p (.sl l.length 41 (l.flatMap ST.pv))), (13, qd l.length), (14, qd i)] [(100, .row 3 1 (5 * i) (is (allT l i)))]) l.length ?_ ?_)
 ·exact jaw
 rintro m st ⟨i, hi, hf, rfl⟩
 refine G [5] ?_
 refine cX ?_ ?_ <;> intro h
 ·have hlt : i < l.length := by simp at h; omega
  clear h
  obtain ⟨s, hs⟩ : ∃ s, l[i]? = some s := ⟨l[i], List.getElem?_eq_getElem hlt⟩
  have hch := zaj (f := ST.pv) (k := 41) (fun _ => rfl) hs
  have hle := zak (f := ST.pv) (k := 41) (fun _ => rfl) hlt
  have hok := ok s (qaE hs)
  have hC := tright_s s hok
  have hhit := @zb8 (zfd l) i l.length hf hlt
  have hst : zfd l i = if stE s ≠ 0 then stE s else if 0 < i ∧ leK s.key (stG l (i - 1)).key = true then 6 else if dupB (allN l i) (za5 s) = true then 6 else 0 := by unfold zfd; rw [stG_at hs]
  rw [← dupT] at hst
  have hnx := allT_next hs
  have htl := allT_len l (Nat.le_of_lt hlt)
  have hprev : ∀ j, i = j + 1 → (((l.flatMap ST.pv).drop (j * 41)).take 41 = (stG l j).pv) ∧ j * 41 + 41 ≤ (l.flatMap ST.pv).length := by
   intro j hj
   obtain ⟨r, hr⟩ : ∃ r, l[j]? = some r := ⟨l[j], List.getElem?_eq_getElem qk⟩
   rw [stG_at hr]
   exact ⟨zaj (f := ST.pv) (k := 41) (fun _ => rfl) hr, zak (f := ST.pv) (k := 41) (fun _ => rfl) qk⟩
  generalize hL : l.flatMap ST.pv = L at *
  generalize stE s = e at *
  refine G [7] ?_
  refine zaa (zam U60 rfl sz60 qL (hch)) rfl rfl ?_
  refine G [2] ?_
  refine jdZ (zac (Y := .agg s.cells) sz60 rfl rfl (qaB rfl)) ?_
  refine G [4] ?_
  refine jc3 ?_
  refine cK hC ?_
  refine jcS ?_
  refine cX ?_ ?_ <;> intro h
  ·exact jcr
  have h7 : e = 0 := by simpa using h
  clear h
  rw [if_neg (by simp [h7])] at hst
  have hNum := numbers_s s.cells s.a.mine s.b.mine s.c.mine s.h.mine rfl rfl rfl rfl
  have hcase : i = 0 ∨ ∃ j, i = j + 1 := by
   exact jbO
  rcases hcase with hi0 | ⟨j0, hij⟩
  ·rw [if_neg (by omega)] at hst
   refine G [5, 3, 12, 9, 0] ?_
   refine cX ?_ ?_ <;> intro h
   ·cases h
   clear h
   obtain ⟨DD, hDD⟩ : ∃ b, dupB (allT l i) (0 :: za5 s) = b := ⟨_, rfl⟩
   rw [hDD] at hst
   refine G [3] ?_
   refine jc3 ?_
   refine cK hNum ?_
   refine G [3] ?_
   refine zae (fun m' st => ∃ j : Nat, m' + j = 5 ∧ (∃ X : List Int, X.length = 5 * i + j ∧ DD = dupB X ((0 :: za5 s).drop j) ∧ X = allT l i ++ (0 :: za5 s).take j ∧ st = St.of [(0, .p (.sl l.length 41 L)), (3, .row 100), (12, .p (.sl l.length 41 L)), (13, qd l.length), (14, qd i), (38, .agg [qd 0, qd s.a.mine, qd s.b.mine, qd s.c.mine, qd s.h.mine]), (39, qd j)] [(100, .row 3 1 (5 * i + j) (is X))])) 5 ?_ ?_
   ·exact jbx
   rintro m' st ⟨j, hj, X, hX, hdp, hXe, rfl⟩
   refine G [5] ?_
   refine cX ?_ ?_ <;> intro h
   ·exact jao
   have hge : j = 5 := by simp at h; omega
   clear h
   subst hge
   have hz : dupB X ((0 :: za5 s).drop 5) = false := rfl
   rw [hz] at hdp
   rw [if_neg (by rw [hdp]; decide)] at hst
   have hXn : X = allT l (i + 1) := by rw [hXe, hnx]; rfl
   subst hXn
   refine jcQ ?_
   refine ⟨m - 1, qk, _, zad id _ _ ?_ ?_ rfl, i + 1, qk, fun q hq => ?_, rfl⟩
   ·exact ja5
   ·exact ⟨⟨rfl, rfl⟩, trivial⟩
   ·exact jbD
  ·obtain ⟨hpv, hple⟩ := hprev j0 hij
   rw [show i - 1 = j0 by omega] at hst
   have hpk : (L.drop (j0 * 41))[0]? = some (qg (stG l j0).key) := by
    have := congrArg (fun x => x[0]?) hpv
    rw [qa9] at this
    simpa [ST.pv] using this
   generalize (stG l j0).key = pk at *
   have hlk : leK s.key pk = (sLt s.key pk || decide (s.key = pk)) := rfl
   generalize leK s.key pk = lk at *
   refine G [5, 4, 6] ?_
   refine zaa (za1 U26 sz60 qk qk (show _ = L.drop (j0 * 41) by congr 2; omega)) rfl rfl ?_
   refine jdY (zah fi60_0 rfl) ?_
   refine jdY (zaN U9 rfl hpk) ?_
   refine jdY a_sleq ?_
   refine G [2, 9, 0] ?_
   refine cX ?_ ?_ <;> intro h
   ·have h8 : lk = true := by rw [hlk]; exact h
    exact jbC
   have h8 : ¬ lk = true := by rw [hlk]; simpa using h
   rw [if_neg (by intro hh; exact h8 hh.2)] at hst
   clear h
   obtain ⟨DD, hDD⟩ : ∃ b, dupB (allT l i) (0 :: za5 s) = b := ⟨_, rfl⟩
   rw [hDD] at hst
   refine G [3] ?_
   refine jc3 ?_
   refine cK hNum ?_
   refine G [3] ?_
   refine zae (fun m' st => ∃ j : Nat, m' + j = 5 ∧ (∃ X : List Int, X.length = 5 * i + j ∧ DD = dupB X ((0 :: za5 s).drop j) ∧ X = allT l i ++ (0 :: za5 s).take j ∧ st = St.of [(0, .p (.sl l.length 41 L)), (3, .row 100), (12, .p (.sl l.length 41 L)), (13, qd l.length), (14, qd i), (38, .agg [qd 0, qd s.a.mine, qd s.b.mine, qd s.c.mine, qd s.h.mine]), (39, qd j)] [(100, .row 3 1 (5 * i + j) (is X))])) 5 ?_ ?_
   ·exact jbx
   rintro m' st ⟨j, hj, X, hX, hdp, hXe, rfl⟩
   refine G [5] ?_
   refine cX ?_ ?_ <;> intro h
   ·exact jao
   have hge : j = 5 := by simp at h; omega
   clear h
   subst hge
   have hz : dupB X ((0 :: za5 s).drop 5) = false := rfl
   rw [hz] at hdp
   rw [if_neg (by rw [hdp]; decide)] at hst
   have hXn : X = allT l (i + 1) := by rw [hXe, hnx]; rfl
   subst hXn
   refine jcQ ?_
   refine ⟨m - 1, qk, _, zad id _ _ ?_ ?_ rfl, i + 1, qk, fun q hq => ?_, rfl⟩
   ·exact ja5
   ·exact ⟨⟨rfl, rfl⟩, trivial⟩
   ·exact jbD
 have hge : i = l.length := by simp at h; omega
 exact jce
def mpE (D : List Int) : List (Value × Value) := D.map fun n => (.int .i64 n, .bool true)
theorem zgE {n : Int} : ∀ {D : List Int} (k : Nat), n ∉ D → zeq (.int .i64) (.int .i64 n) (mpE D) k = some none
 | [], _, _ => rfl
 | x :: D, k, h => by
  have h1 : n ≠ x := fun e => h (by simp [e])
  have ih := zgE (n := n) (D := D) (k + 1) fun hh => h (by simp [hh])
  show zeq (.int .i64) (.int .i64 n) ((.int .i64 x, .bool true) :: mpE D) k = _
  simp only [zeq, Instr.sameNow, if_true]
  rw [show (n == x) = false by simpa using h1]
  exact ih
theorem zis {n : Int} : ∀ {D : List Int} (k : Nat), n ∈ D → ∃ i, zeq (.int .i64) (.int .i64 n) (mpE D) k = some (some (k + i, .bool true)) ∧ (mpE D)[i]? = some (.int .i64 n, .bool true)
 | [], _, h => by cases h
 | x :: D, k, h => by
  by_cases e : n = x
  ·subst e
   refine ⟨0, ?_, rfl⟩
   show zeq (.int .i64) (.int .i64 n) ((.int .i64 n, .bool true) :: mpE D) k = _
   simp [zeq, Instr.sameNow]
  ·have h' : n ∈ D := by simpa [e] using h
   obtain ⟨i, h1, h2⟩ := zis (n := n) (D := D) (k + 1) h'
   refine ⟨i + 1, ?_, by simpa [mpE] using h2⟩
   show zeq (.int .i64) (.int .i64 n) ((.int .i64 x, .bool true) :: mpE D) k = _
   simp only [zeq, Instr.sameNow, if_true]
   rw [show (n == x) = false by simpa using e]
   rw [show k + (i + 1) = k + 1 + i by omega]
   exact h1
theorem set_same {α : Type} {l : List α} {i : Nat} {x : α} (h : l[i]? = some x) : l.set i x = l := by
 exact jb0
theorem kE_nn {k : KY} (h : kE k = 0) : 0 ≤ k.mine := by
 cases hl : k.live with
 | true => have := (kE_bounds h hl).1; omega
 | false =>
  unfold kE at h
  rw [if_pos hl] at h
  split at h
  ·rename_i hz
   rw [KY.zero_iff] at hz
   rw [hz]
   exact Int.le_refl 0
  ·cases h
theorem hsE_nn {x : HS} (h : hsE x = 0) : 0 ≤ x.mine := by
 unfold hsE at h
 split at h
 ·split at h
  ·omega
  ·cases h
 ·split at h
  ·cases h
  ·split at h
   ·exact absurd h qP
   ·split at h
    ·cases h
    ·omega
theorem stE_good {s : ST} (h : stE s = 0) : keyE s.key = 0 ∧ ∀ n ∈ za5 s, 0 ≤ n := by
 unfold stE at h
 split at h
 ·exact absurd h qP
 rename_i h1
 split at h
 ·exact absurd h qP
 rename_i h2
 split at h
 ·exact absurd h qP
 rename_i h3
 have h2 : ksE s.a s.b s.c = 0 := qaH.1 h2
 have h3 : hsE s.h = 0 := qaH.1 h3
 have hk := zgG h2
 refine ⟨qaH.1 h1, fun n hn => ?_⟩
 simp only [za5, qaI, qbr, or_false] at hn
 rcases hn with rfl | rfl | rfl | rfl
 ·exact kE_nn (hk 0 qk)
 ·exact kE_nn (hk 1 qk)
 ·exact kE_nn (hk 2 qk)
 ·exact hsE_nn h3
theorem given_s (s : ST) : Fn prog 85 [.agg s.cells] (.row 0) [(0, .row 3 1 4 (is (za5 s)))] := by
 show Fn prog _ _ _ [(0, .row 3 1 4 [qh s.a.mine, qh s.b.mine, qh s.c.mine, qh s.h.mine])]
 refine fnI fun w0 A => ?_
 refine G [22] ?_
 refine zab (xs := [qd s.a.mine, qd s.b.mine, qd s.c.mine, qd s.h.mine]) (zai (es := [qd s.a.mine, qd s.b.mine, qd s.c.mine, qd s.h.mine]) (cs := [qh s.a.mine, qh s.b.mine, qh s.c.mine, qh s.h.mine]) 18 U112 sz3 zc3 (qaA rfl) (qaA rfl) rfl qm qm qm (qaA rfl)) qH rfl ⟨rfl, trivial⟩ ?_
 refine jdc ?_
 refine yT (fun _ => 18) ?_ ?_
 ·exact rfl
 ·exact ⟨⟨rfl, rfl⟩, trivial⟩
section
variable {P : Program} {d : Option Tmp} {ty : TypeId} {pos : String} {af : Array Edge} {g : Option (Nat × Bool)}
theorem a_mapKeep {t kt et : TypeId} {kd : TypeDesc} {o i : Nat} {kv ov : Value} {es : List (Value × Value)} {x y z : Operand} (hu : P.underlying t = some (.map kt et)) (hk : P.underlying kt = some kd) (hp : zdi kd = true) (hq : MapKept.IsKey kd kv) (hf : zeq kd kv es 0 = some (some (i, ov))) (hi : es[i]? = some (kv, ov)) :
 AOp P ⟨d, .mapUpdate t x y z, ty, pos, af, g⟩ [.mp o, .p (.v kv), .p (.v ov)] [(o, .live (.map es))] [(o, .live (.map es))] .any := by
 have h := a_mapUpdateO (d := d) (ty := ty) (pos := pos) (af := af) (g := g) (x := x) (y := y) (z := z) (xv := ov) (o := o) hu hk hp hq hf hi
 rwa [set_same hi] at h
end
theorem key_ne : ¬ keyE ⟨#[]⟩ = 0 := by decide +kernel
def lastK (l : List ST) (i : Nat) : ByteArray := if i = 0 then ⟨#[]⟩ else (stG l (i - 1)).key
theorem refStates_s (l : List ST) (ok : ∀ s ∈ l, s.OK) (hn : l.length ≤ 1048576) : Fn prog 47 [.p (.sl l.length 41 (l.flatMap ST.pv))] (qd (stsE l)) [] := by
 obtain ⟨E, hE⟩ : ∃ E, stsE l = E := ⟨_, rfl⟩
 rw [hE]
 unfold stsE at hE
 refine fnI fun w0 A => ?_
 refine G [11, 9, 0] ?_
 refine cX ?_ ?_ <;> intro h
 ·exact jbm
 have h6 : ¬ 6 < l.length := by simp at h; omega
 clear h
 rw [if_neg h6] at hE
 refine G [3] ?_
 refine jdZ (a_makeMap 13) ?_
 refine G [14] ?_
 refine zae (fun m st => ∃ i : Nat, m + i = l.length ∧ (∀ j, j < i → zfd l j = 0) ∧ ∃ D : List Int, (∀ n, n ∈ D ↔ n ∈ allN l i) ∧ st = St.of [(3, .mp 13), (4, qc (lastK l i)), (14, .p (.sl l.length 41 (l.flatMap ST.pv))), (15, qd l.length), (16, qd i)] [(13, .map (mpE D))]) l.length ?_ ?_
 ·refine ⟨_, zad id _ _ ?_ ?_ rfl, 0, qk, qk, [], by simp [allN], rfl⟩
  ·exact ja5
  ·exact ⟨⟨rfl, rfl⟩, trivial⟩
 rintro m st ⟨i, hi, hf, D, hD, rfl⟩
 refine G [5] ?_
 refine cX ?_ ?_ <;> intro h
 ·have hlt : i < l.length := by simp at h; omega
  clear h
  obtain ⟨s, hs⟩ : ∃ s, l[i]? = some s := ⟨l[i], List.getElem?_eq_getElem hlt⟩
  have hch := zaj (f := ST.pv) (k := 41) (fun _ => rfl) hs
  have hle := zak (f := ST.pv) (k := 41) (fun _ => rfl) hlt
  have hok := ok s (qaE hs)
  have hC := refState_s s hok
  have hhit := @zb8 (zfd l) i l.length hf hlt
  have hst : zfd l i = if stE s ≠ 0 then stE s else if 0 < i ∧ leK s.key (stG l (i - 1)).key = true then 6 else if dupB (allN l i) (za5 s) = true then 6 else 0 := by unfold zfd; rw [stG_at hs]
  have hgood := @stE_good s
  have hlK : lastK l i = if i = 0 then ⟨#[]⟩ else (stG l (i - 1)).key := rfl
  have hlN : lastK l (i + 1) = s.key := by unfold lastK; rw [if_neg (by omega), Nat.add_sub_cancel, stG_at hs]
  generalize hL : l.flatMap ST.pv = L at *
  generalize stE s = e at *
  refine G [6] ?_
  refine zaa (zam U60 rfl sz60 qL (hch)) rfl rfl ?_
  refine jdZ (zaJ 6 zr60 rfl) ?_
  refine jdZ (zac (Y := .agg s.cells) sz60 rfl rfl (qaB rfl)) ?_
  refine G [4] ?_
  refine jc3 ?_
  refine cK hC ?_
  refine jcS ?_
  refine cX ?_ ?_ <;> intro h
  ·exact jcr
  have h7 : e = 0 := by simpa using h
  clear h
  rw [if_neg (by simp [h7])] at hst
  obtain ⟨hkey, hnn⟩ := hgood h7
  have hkne : s.key ≠ ⟨#[]⟩ := fun e => key_ne (by rw [e] at hkey; exact hkey)
  generalize hLK : lastK l i = lk at *
  refine G [7] ?_
  refine jdY a_sleq ?_
  refine zag (zaE (cX (fun h => ?_) fun h => ?_))
  ·have h8 : leK s.key lk = true := h
   have hi0 : i ≠ 0 := by
    intro e0
    rw [if_pos e0] at hlK
    rw [hlK] at h8
    unfold leK at h8
    rw [sLt_empty] at h8
    simp at h8
    exact hkne h8
   rw [if_neg hi0] at hlK
   rw [if_pos ⟨by omega, by rw [← hlK]; exact h8⟩] at hst
   rw [hhit (by rw [hst]; decide), hst] at hE
   subst hE
   refine jcQ ?_
   exact yE
  have h8 : ¬ leK s.key lk = true := by
   intro h9
   have h10 : leK s.key lk = false := h
   rw [h10] at h9
   cases h9
  clear h
  have hn8 : ¬ (0 < i ∧ leK s.key (stG l (i - 1)).key = true) := by
   intro ⟨q1, q2⟩
   rw [if_neg (by omega)] at hlK
   rw [← hlK] at q2
   exact h8 q2
  rw [if_neg hn8] at hst
  have hGv := given_s s
  have hgl : (za5 s).length = 4 := rfl
  have hnx : allN l (i + 1) = allN l i ++ za5 s := by
   obtain ⟨q1, q2⟩ := qaG.1 hs
   unfold allN
   rw [qaM q1, q2, qaX]
   simp
  obtain ⟨DD, hDD⟩ : ∃ b, dupB (allN l i) (za5 s) = b := ⟨_, rfl⟩
  rw [hDD] at hst
  refine G [7] ?_
  generalize hG : za5 s = GV at *
  refine G [2] ?_
  refine jc3 ?_
  refine cK hGv ?_
  refine G [4] ?_
  refine zae (fun m' st => ∃ j : Nat, m' + j = 4 ∧ ∃ D : List Int, (∀ n, n ∈ D ↔ n ∈ allN l i ++ GV.take j) ∧ DD = dupB (allN l i ++ GV.take j) (GV.drop j) ∧ st = St.of [(3, .mp 13), (4, qc s.key), (14, .p (.sl l.length 41 L)), (15, qd l.length), (16, qd i), (32, .row 32), (33, qd 4), (34, qd j)] [(13, .map (mpE D)), (32, .row 3 1 4 (is GV))]) 4 ?_ ?_
  ·refine ⟨_, zad id _ _ ?_ ?_ rfl, 0, qk, D, by simpa using hD, by simpa using hDD.symm, rfl⟩
   ·exact ja5
   ·exact ⟨⟨rfl, rfl⟩, ⟨rfl, rfl⟩, trivial⟩
  clear hD
  rintro m' st ⟨j, hj, D, hD, hdp, rfl⟩
  refine G [5] ?_
  refine cX ?_ ?_ <;> intro h
  ·have hlj : j < 4 := by simp at h; omega
   clear h
   obtain ⟨n, hn5⟩ : ∃ n, GV[j]? = some n := ⟨GV[j]'qk, List.getElem?_eq_getElem _⟩
   have hat : (is GV)[j]? = some (qh n) := by simp [is, hn5]
   have hil := is_len GV
   have hdr : GV.drop j = n :: GV.drop (j + 1) := by
    obtain ⟨q1, q2⟩ := qaG.1 hn5
    rw [qbh q1, q2]
   have htk : GV.take (j + 1) = GV.take j ++ [n] := by
    obtain ⟨q1, q2⟩ := qaG.1 hn5
    exact jcy
   have hnz := hnn n (qaE hn5)
   rw [hdr, dupB, qaY, ← htk] at hdp
   have hDk : n ∈ D → ∀ k, k ∈ D ↔ k ∈ allN l i ++ GV.take (j + 1) := fun hm k => by
    rw [htk, ← qaY, qaW (t := [n]), ← hD k, qbC]
    constructor
    ·exact .inl
    ·rintro (q | q)
     ·exact q
     ·rw [q]; exact hm
   have hDn : ∀ k, k ∈ D ++ [n] ↔ k ∈ allN l i ++ GV.take (j + 1) := fun k => by
    rw [htk, ← qaY, qaW (t := [n]), qaW (t := [n]), hD k]
   have hpush : mpE D ++ [(Value.int .i64 n, Value.bool true)] = mpE (D ++ [n]) := by simp [mpE]
   have hDm := hD n
   refine G [5] ?_
   refine zab (zaw U112 sz3 qk qk (show _ = j by omega)) rfl rfl ⟨rfl, trivial⟩ ?_
   refine jdZ (zbP U3 rfl hat) ?_
   refine G [2] ?_
   by_cases h0 : n = 0
   ·rw [show (decide (0 < n) && decide (n ∈ allN l i ++ List.take j GV) || dupB (allN l i ++ List.take (j + 1) GV) (List.drop (j + 1) GV)) = dupB (allN l i ++ List.take (j + 1) GV) (List.drop (j + 1) GV) by simp [h0]] at hdp
    refine G [4, 3, 7] ?_
    by_cases hm : n ∈ D
    ·obtain ⟨k0, hfd, hfi⟩ := zis 0 hm
     rw [Nat.zero_add] at hfd
     refine G [4] ?_
     refine zab (a_mapKeep underlying129 U3 rfl (by simp [MapKept.IsKey]) hfd hfi) rfl rfl ⟨rfl, trivial⟩ ?_
     refine jcQ ?_
     refine ⟨m' - 1, qk, _, zad id _ _ ?_ ?_ rfl, j + 1, qk, D, hDk hm, hdp, rfl⟩
     ·exact ja5
     ·exact ⟨⟨rfl, rfl⟩, ⟨rfl, rfl⟩, trivial⟩
    ·refine G [4] ?_
     exact jaV
   ·by_cases hm : n ∈ D
    ·rw [show (decide (0 < n) && decide (n ∈ allN l i ++ List.take j GV) || dupB (allN l i ++ List.take (j + 1) GV) (List.drop (j + 1) GV)) = true by rw [decide_eq_true (show 0 < n by omega), decide_eq_true (hDm.1 hm)]; rfl] at hdp
     rw [if_pos hdp] at hst
     rw [hhit (by rw [hst]; decide), hst] at hE
     subst hE
     obtain ⟨k0, hfd, hfi⟩ := zis 0 hm
     rw [Nat.zero_add] at hfd
     refine G [4, 4, 3] ?_
     refine jdZ (a_lookup underlying129 U3 rfl zr4 hfd rfl rfl) ?_
     refine G [7] ?_
     exact jaS
    ·rw [show (decide (0 < n) && decide (n ∈ allN l i ++ List.take j GV) || dupB (allN l i ++ List.take (j + 1) GV) (List.drop (j + 1) GV)) = dupB (allN l i ++ List.take (j + 1) GV) (List.drop (j + 1) GV) by rw [decide_eq_false (fun q => hm (hDm.2 q))]; simp] at hdp
     refine G [4, 4, 3] ?_
     refine jdZ (a_lookup underlying129 U3 rfl zr4 (zgE 0 hm) rfl rfl) ?_
     refine G [7] ?_
     exact jaV
  have hge : j = 4 := by simp at h; omega
  clear h
  subst hge
  rw [qaN (by omega)] at hD hdp
  have hz : dupB (allN l i ++ GV) (GV.drop 4) = false := by rw [List.drop_of_length_le (by omega)]; rfl
  rw [hz] at hdp
  rw [if_neg (by rw [hdp]; decide)] at hst
  refine jcQ ?_
  refine ⟨m - 1, qk, _, zad id _ _ ?_ ?_ rfl, i + 1, qk, fun q hq => ?_, D, by rw [hnx]; exact hD, rfl⟩
  ·refine ⟨⟨rfl, rfl⟩, ⟨?_, rfl⟩, ⟨rfl, rfl⟩, ⟨rfl, rfl⟩, ⟨rfl, rfl⟩, trivial⟩
   rw [hlN]
   rfl
  ·exact ⟨⟨rfl, rfl⟩, trivial⟩
  ·exact jbD
 have hge : i = l.length := by simp at h; omega
 exact jce
end Go.Proofs.YtlfjpippeeikdaaGreatDoor
