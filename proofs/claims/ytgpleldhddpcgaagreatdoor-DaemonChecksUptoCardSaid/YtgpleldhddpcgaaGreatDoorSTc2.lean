/- table.Check, over data: what it says. -/
import Derived.Test.YtgpleldhddpcgaaGreatDoorSTc1
import Derived.Test.YtgpleldhddpcgaaGreatDoorSTab2
import Derived.Test.YtgpleldhddpcgaaGreatDoorSUtZ
namespace Go.Proofs.YtgpleldhddpcgaaGreatDoor
open Go.RowKit Go.Sort
set_option linter.unusedVariables false
set_option linter.unusedSimpArgs false
set_option maxRecDepth 100000
theorem idxI_ge (n : Int) : ∀ xs : List Int, (0 ≤ idxI n xs ↔ n ∈ xs)
 | [] => by simp [idxI]
 | x :: xs => by
  have ih := idxI_ge n xs
  unfold idxI
  by_cases h : n = x
  ·rw [if_pos h]; simp [h]
  ·rw [if_neg h]
   by_cases h2 : idxI n xs < 0
   ·rw [if_pos h2]
    simp only [List.mem_cons, h, false_or]
    rw [← ih]; omega
   ·rw [if_neg h2]
    simp only [List.mem_cons, h, false_or]
    rw [← ih]; omega
theorem zgV (xs : List Int) (n : Int) (N : Nat) (hN : xs.length = N) (hm : N ≤ 100000) : Fn Tryz.prog 81 [.p (.sl N 1 (is xs)), .p (.v (.int .i64 n))] (.p (.v (.bool (decide (n ∈ xs))))) [] := by
 have hI := index_s xs n N hN hm
 have hge := idxI_ge n xs
 have hB : decide (n ∈ xs) = decide (0 ≤ idxI n xs) := by simp only [hge]
 rw [hB]
 generalize idxI n xs = k at *
 refine zap Tryz.func81 rfl (Nat.le_of_ble_eq_true rfl) fun w0 A => ?_
 refine zaa ?_
 refine tx ?_
 refine yA ?_
 refine zab ?_
 refine zaa ?_
 refine tx ?_
 refine yM ?_
 refine yM ?_
 refine yV (fun n => 7 + 1000 * n) (hI) Tryz.func128 ?_
 refine yP zeb ?_
 refine yA ?_
 refine zab ?_
 refine zaf ?_
 refine yT ?_ ?_
 ·exact rfl
 ·exact trivial
def zbm (s : ST) : List Int := [s.a.mine, s.b.mine, s.c.mine, s.h.mine]
/-- is one of these numbers, other than 0, there already? -/
def dupB : List Int → List Int → Bool
 | _, [] => false
 | acc, n :: r => (decide (0 < n) && decide (n ∈ acc)) || dupB (acc ++ [n]) r
def stG (l : List ST) (i : Nat) : ST := l.getD i ⟨⟨#[]⟩, ⟨#[]⟩, KY0, KY0, KY0, HS0, []⟩
def allN (l : List ST) (i : Nat) : List Int := (l.take i).flatMap zbm
noncomputable def zeU (l : List ST) (i : Nat) : Int :=
 if stE (stG l i) ≠ 0 then stE (stG l i) else if 0 < i ∧ leK (stG l i).key (stG l (i - 1)).key = true then 6
 else if dupB (allN l i) (zbm (stG l i)) = true then 6 else 0
noncomputable def stsE (l : List ST) : Int := if 6 < l.length then 1 else fnz (zeU l) l.length
theorem zgT : ∀ (ns acc acc' : List Int), (∀ n, 0 < n → (n ∈ acc ↔ n ∈ acc')) → dupB acc ns = dupB acc' ns
 | [], _, _, _ => rfl
 | n :: r, acc, acc', h => by
  unfold dupB
  rw [zgT r (acc ++ [n]) (acc' ++ [n]) fun k hk => by simp [h k hk]]
  by_cases hn : 0 < n
  ·simp [hn, h n hn]
  ·simp [hn]
theorem dupB_zero (acc ns : List Int) : dupB acc (0 :: ns) = dupB (acc ++ [0]) ns := by simp [dupB]
def allT (l : List ST) (i : Nat) : List Int := (l.take i).flatMap fun s => 0 :: zbm s
theorem allT_next {l : List ST} {i : Nat} {s : ST} (h : l[i]? = some s) : allT l (i + 1) = allT l i ++ (0 :: zbm s) := by
 obtain ⟨h1, h2⟩ := List.getElem?_eq_some_iff.1 h
 unfold allT
 rw [List.take_succ_eq_append_getElem h1, h2, List.flatMap_append]
 simp
theorem allT_len (l : List ST) {i : Nat} (h : i ≤ l.length) : (allT l i).length = 5 * i := by
 unfold allT
 rw [zcg (k := 5) (fun _ => rfl), List.length_take]
 omega
theorem allT_N (l : List ST) (i : Nat) (n : Int) (hn : 0 < n) : n ∈ allT l i ↔ n ∈ allN l i := by
 unfold allT allN
 simp only [List.mem_flatMap, List.mem_cons]
 constructor
 ·rintro ⟨s, h1, h2 | h2⟩
  ·omega
  ·exact ⟨s, h1, h2⟩
 ·rintro ⟨s, h1, h2⟩
  exact ⟨s, h1, .inr h2⟩
theorem dupT (l : List ST) (i : Nat) (s : ST) : dupB (allT l i) (0 :: zbm s) = dupB (allN l i) (zbm s) := by
 rw [dupB_zero]
 exact zgT _ _ _ fun n hn => by
  rw [List.mem_append, List.mem_singleton, allT_N l i n hn]
  constructor
  ·rintro (h | h)
   ·exact h
   ·omega
  ·exact .inl
theorem stG_at {l : List ST} {i : Nat} {s : ST} (h : l[i]? = some s) : stG l i = s := by unfold stG; rw [List.getD_eq_getElem?_getD, h]; rfl
theorem is_push (X : List Int) (n : Int) : is X ++ [.v (.int .i64 n)] = is (X ++ [n]) := by simp [is]
theorem is_len (X : List Int) : (is X).length = X.length := by simp [is]
set_option maxHeartbeats 8000000 in
theorem tabCheck_s (l : List ST) (ok : ∀ s ∈ l, s.OK) (hn : l.length ≤ 1048576) : Fn Tryz.prog 35 [.p (.sl l.length 41 (l.flatMap ST.pv))] (.p (.v (.int .i64 (stsE l)))) [] := by
 obtain ⟨E, hE⟩ : ∃ E, stsE l = E := ⟨_, rfl⟩
 rw [hE]
 unfold stsE at hE
 refine zap Tryz.func35 rfl (Nat.le_of_ble_eq_true rfl) fun w0 A => ?_
 refine zaa ?_
 refine tx ?_
 refine yA ?_
 refine zab ?_
 refine zaa (zaa ?_)
 refine tx ?_
 refine yM ?_
 refine yP (zaC Tryz.underlying40) ?_
 refine yP za5 ?_
 refine zab ?_
 refine zae ?_
 refine zah _ rfl (fun h => ?_) (fun h => ?_)
 ·have h6 : 6 < l.length := by simp at h; omega
  rw [if_pos h6] at hE
  subst hE
  refine zaa ?_
  refine tx ?_
  refine yA ?_
  refine zab ?_
  refine zaf (zam ?_)
  refine yT ?_ ?_
  ·exact rfl
  ·exact trivial
 have h6 : ¬ 6 < l.length := by simp at h; omega
 clear h
 rw [if_neg h6] at hE
 refine zad (zaa ?_)
 refine tx ?_
 refine yA ?_
 refine zab ?_
 refine zaa (zaa ?_)
 refine tx ?_
 refine yM ?_
 refine yP (zaC Tryz.underlying40) ?_
 refine yM ?_
 refine zab ?_
 refine zae (zcu (zdk 3 100 3 1 rfl rfl) ?_)
 refine zaj ?_
 refine zaE (fun m st => ∃ i : Nat, m + i = l.length ∧ (∀ j, j < i → zeU l j = 0) ∧ st = St.of [(0, .p (.sl l.length 41 (l.flatMap ST.pv))), (3, .row 100), (12, .p (.sl l.length 41 (l.flatMap ST.pv))), (13, .p (.v (.int .i64 l.length))), (14, .p (.v (.int .i64 i)))] [(100, .row 3 1 (5 * i) (is (allT l i)))]) l.length ?_ ?_
 ·refine ⟨_, zaJ id _ _ ?_ ?_ rfl, 0, by omega, by omega, rfl⟩
  ·(repeat (first | exact trivial | (refine ⟨⟨(by first | rfl | (simp; done) | (simp; omega)), rfl⟩, ?_⟩)))
  ·exact ⟨⟨rfl, rfl⟩, trivial⟩
 rintro m st ⟨i, hi, hf, rfl⟩
 refine zaa ?_
 refine tx ?_
 refine yP zaX ?_
 refine zab ?_
 refine zaa ?_
 refine zah _ rfl (fun h => ?_) (fun h => ?_)
 ·have hlt : i < l.length := by simp at h; omega
  clear h
  obtain ⟨s, hs⟩ : ∃ s, l[i]? = some s := ⟨l[i], List.getElem?_eq_getElem hlt⟩
  have hch := zaN (f := ST.pv) (k := 41) (fun _ => rfl) hs
  have hle := zaP (f := ST.pv) (k := 41) (fun _ => rfl) hlt
  have hok := ok s (List.mem_of_getElem? hs)
  have hC := tright_s s hok
  have hhit := @zb9 (zeU l) i l.length hf hlt
  have hst : zeU l i = if stE s ≠ 0 then stE s else if 0 < i ∧ leK s.key (stG l (i - 1)).key = true then 6 else if dupB (allN l i) (zbm s) = true then 6 else 0 := by unfold zeU; rw [stG_at hs]
  rw [← dupT] at hst
  have hnx := allT_next hs
  have htl := allT_len l (Nat.le_of_lt hlt)
  have hprev : ∀ j, i = j + 1 → (((l.flatMap ST.pv).drop (j * 41)).take 41 = (stG l j).pv) ∧ j * 41 + 41 ≤ (l.flatMap ST.pv).length := by
   intro j hj
   obtain ⟨r, hr⟩ : ∃ r, l[j]? = some r := ⟨l[j], List.getElem?_eq_getElem (by omega)⟩
   rw [stG_at hr]
   exact ⟨zaN (f := ST.pv) (k := 41) (fun _ => rfl) hr, zaP (f := ST.pv) (k := 41) (fun _ => rfl) (by omega)⟩
  generalize hL : l.flatMap ST.pv = L at *
  generalize stE s = e at *
  refine zad (zaa (zaj (zaa ?_)))
  refine tx ?_
  refine yM ?_
  refine zac (zao Tryz.underlying40 sz81 (by omega) (by omega) rfl) rfl rfl ?_
  refine zac (zaz Tryz.underlying81 rfl sz81 (by rw [List.length_drop]; omega) (hch)) rfl rfl ?_
  refine zal (zaU 5 zr81 rfl) rfl rfl ⟨rfl, trivial⟩ ?_
  refine yA ?_
  refine zal (zaA (Y := .agg s.cells) sz81 rfl rfl (Nat.eq_of_beq_eq_true rfl)) rfl rfl ⟨rfl, trivial⟩ ?_
  refine zab ?_
  refine zaa (zaa ?_)
  refine tx ?_
  refine zal (zaL Tryz.underlying81 rfl sz81 (by first | exact Nat.le_of_ble_eq_true rfl | omega | (simp only [AV.cells, List.length_map]; omega)) (show _ = s.cells from rfl)) rfl rfl ⟨rfl, trivial⟩ ?_
  refine cS (fun n => 20 + 1000 * n) (hC) Tryz.func79 ?_
  refine yA ?_
  refine zab ?_
  refine zaa ?_
  refine tx ?_
  refine yM ?_
  refine yP za8 ?_
  refine zab ?_
  refine zae ?_
  refine zah _ rfl (fun h => ?_) (fun h => ?_)
  ·have h7 : e ≠ 0 := by simpa using h
   rw [if_pos h7] at hst
   rw [hhit (by rw [hst]; exact h7), hst] at hE
   subst hE
   refine zaa ?_
   refine tx ?_
   refine yM ?_
   refine yA ?_
   refine zab ?_
   refine zaf (zam (zaK (zam (zam (zaK (zam ?_))))))
   refine yT ?_ ?_
   ·exact rfl
   ·exact trivial
  have h7 : e = 0 := by simpa using h
  clear h
  rw [if_neg (by simp [h7])] at hst
  have hNum := numbers_s s.cells s.a.mine s.b.mine s.c.mine s.h.mine rfl rfl rfl rfl
  have hcase : i = 0 ∨ ∃ j, i = j + 1 := by
   cases i with
   | zero => exact .inl rfl
   | succ j => exact .inr ⟨j, rfl⟩
  rcases hcase with hi0 | ⟨j0, hij⟩
  ·rw [if_neg (by omega)] at hst
   refine zad (zaa (zaa ?_))
   refine zav 4 (by kernel_rfl) ?_
   refine yM ?_
   refine zac (zb5 (c := false) (by simp; omega)) rfl rfl ?_
   refine yM ?_
   refine yS ?_
   refine yS ?_
   refine yS ?_
   refine yS ?_
   refine yS ?_
   refine yS ?_
   refine yS ?_
   refine yS ?_
   refine yS ?_
   refine yP zai ?_
   refine zab ⟨by kernel_rfl, ?_⟩
   refine zae ?_
   refine zah _ rfl (fun h => ?_) (fun h => ?_)
   ·cases h
   clear h
   obtain ⟨DD, hDD⟩ : ∃ b, dupB (allT l i) (0 :: zbm s) = b := ⟨_, rfl⟩
   rw [hDD] at hst
   refine zad (zaa ?_)
   refine tx ?_
   refine zal (zaL Tryz.underlying81 rfl sz81 (by first | exact Nat.le_of_ble_eq_true rfl | omega | (simp only [AV.cells, List.length_map]; omega)) (show _ = s.cells from rfl)) rfl rfl ⟨rfl, trivial⟩ ?_
   refine cS (fun n => 38 + 1000 * n) (hNum) Tryz.func80 ?_
   refine yM ?_
   refine zab ?_
   refine zaj ?_
   refine zaE (fun m' st => ∃ j : Nat, m' + j = 5 ∧ (∃ X : List Int, X.length = 5 * i + j ∧ DD = dupB X ((0 :: zbm s).drop j) ∧ X = allT l i ++ (0 :: zbm s).take j ∧ st = St.of [(0, .p (.sl l.length 41 L)), (3, .row 100), (12, .p (.sl l.length 41 L)), (13, .p (.v (.int .i64 l.length))), (14, .p (.v (.int .i64 i))), (38, .agg [.p (.v (.int .i64 0)), .p (.v (.int .i64 s.a.mine)), .p (.v (.int .i64 s.b.mine)), .p (.v (.int .i64 s.c.mine)), .p (.v (.int .i64 s.h.mine))]), (39, .p (.v (.int .i64 j)))] [(100, .row 3 1 (5 * i + j) (is X))])) 5 ?_ ?_
   ·refine ⟨_, zaJ id _ _ ?_ ?_ rfl, 0, by omega, allT l i, by omega, hDD.symm, by simp, rfl⟩
    ·(repeat (first | exact trivial | (refine ⟨⟨(by first | rfl | (simp; done) | (simp; omega)), rfl⟩, ?_⟩)))
    ·exact ⟨⟨rfl, rfl⟩, trivial⟩
   rintro m' st ⟨j, hj, X, hX, hdp, hXe, rfl⟩
   refine zaa ?_
   refine tx ?_
   refine yP zaX ?_
   refine zab ?_
   refine zaa ?_
   refine zah _ rfl (fun h => ?_) (fun h => ?_)
   ·have hlj : j < 5 := by simp at h; omega
    clear h
    obtain ⟨n, hn5⟩ : ∃ n, (0 :: zbm s)[j]? = some n := ⟨(0 :: zbm s)[j]'(by show j < 5; exact hlj), List.getElem?_eq_getElem _⟩
    have hix : ([.p (.v (.int .i64 0)), .p (.v (.int .i64 s.a.mine)), .p (.v (.int .i64 s.b.mine)), .p (.v (.int .i64 s.c.mine)), .p (.v (.int .i64 s.h.mine))] : List AV)[j * 1]? = some (.p (.v (.int .i64 n))) := by
     rw [Nat.mul_one]
     have : ([.p (.v (.int .i64 0)), .p (.v (.int .i64 s.a.mine)), .p (.v (.int .i64 s.b.mine)), .p (.v (.int .i64 s.c.mine)), .p (.v (.int .i64 s.h.mine))] : List AV) = (0 :: zbm s).map fun n => .p (.v (.int .i64 n)) := rfl
     rw [this, List.getElem?_map, hn5]
     rfl
    have hdr : (0 :: zbm s).drop j = n :: (0 :: zbm s).drop (j + 1) := by
     obtain ⟨q1, q2⟩ := List.getElem?_eq_some_iff.1 hn5
     rw [List.drop_eq_getElem_cons q1, q2]
    have htk : (0 :: zbm s).take (j + 1) = (0 :: zbm s).take j ++ [n] := by
     obtain ⟨q1, q2⟩ := List.getElem?_eq_some_iff.1 hn5
     rw [List.take_succ_eq_append_getElem q1, q2]
    rw [hdr, dupB] at hdp
    have hCt := zgV X n (5 * i + j) hX (by omega)
    have hil := is_len X
    have hps := is_push X n
    generalize hIs : is X = IX at *
    refine zad (zaa (zaj (zaa ?_)))
    refine tx ?_
    refine zac (ze9 Tryz.underlying126 sz3 Tryz.underlying3 rfl (by omega) (by omega) (show _ = some (.p (.v (.int .i64 n))) by rw [Int.toNat_natCast]; exact hix)) rfl rfl ?_
    refine yA ?_
    refine zab ?_
    by_cases h0 : 0 < n
    ·by_cases hm : n ∈ X
     ·rw [show (decide (0 < n) && decide (n ∈ X) || dupB (X ++ [n]) ((0 :: zbm s).drop (j + 1))) = true by simp [h0, hm]] at hdp
      rw [if_pos hdp] at hst
      rw [hhit (by rw [hst]; decide), hst] at hE
      subst hE
      rw [decide_eq_true hm] at hCt
      refine zaa (zaa ?_)
      refine tx ?_
      refine yM ?_
      refine zac (zb5 (c := true) (by simpa using h0)) rfl rfl ?_
      refine yM ?_
      refine yP (zaq (r := .row _)) ?_
      refine yM ?_
      (first | refine yS ?_ | refine yV (fun n => 47 + 1000 * n) (hCt) Tryz.func81 ?_)
      refine yP zak ?_
      refine zab ?_
      refine zae ?_
      refine zaD rfl ?_
      refine zaa ?_
      refine tx ?_
      refine yA ?_
      refine zab ?_
      (repeat (first | refine zaa ?_ | refine zaj ?_ | refine zad ?_ | refine zaf ?_ | refine zaG ?_ | refine zae ?_ | refine zam ?_ | refine zb3 ?_ | refine za3 ?_ | refine zaK ?_ | refine zdo ?_ | refine inb_y rfl ?_))
      refine yT ?_ ?_
      ·exact rfl
      ·exact trivial
     ·rw [show (decide (0 < n) && decide (n ∈ X) || dupB (X ++ [n]) ((0 :: zbm s).drop (j + 1))) = dupB (X ++ [n]) ((0 :: zbm s).drop (j + 1)) by simp [hm]] at hdp
      rw [decide_eq_false hm] at hCt
      refine zaa (zaa ?_)
      refine tx ?_
      refine yM ?_
      refine zac (zb5 (c := true) (by simpa using h0)) rfl rfl ?_
      refine yM ?_
      refine yP (zaq (r := .row _)) ?_
      refine yM ?_
      (first | refine yS ?_ | refine yV (fun n => 47 + 1000 * n) (hCt) Tryz.func81 ?_)
      refine yP zak ?_
      refine zab ?_
      refine zae ?_
      refine zan rfl ?_
      refine zad (zae ?_)
      refine tx ?_
      refine yP (zaq (r := .row _)) ?_
      refine yM ?_
      refine zal (xs := [.p (.v (.int .i64 n))]) (zaO (es := [.p (.v (.int .i64 n))]) (cs := [.v (.int .i64 n)]) 51 Tryz.underlying124 sz3 zc3 (Nat.le_of_ble_eq_true rfl) (Nat.le_of_ble_eq_true rfl) rfl (by kernel_rfl) (by kernel_rfl) (by kernel_rfl) (Nat.le_of_ble_eq_true rfl)) (by first | rfl | kernel_rfl) rfl ⟨rfl, trivial⟩ ?_
      refine zal (zbe 52 Tryz.underlying124 eo3 (zbX) (by simp only [maxLen]; omega) (by omega) (show _ = 5 * i + (j + 1) by omega) hps) rfl rfl ⟨rfl, rfl, rfl, trivial⟩ ?_
      refine yP (zas (r := .row _)) ?_
      refine zab ?_
      refine za3 (zae ?_)
      refine tx ?_
      refine zac (za4 (by first | exact IntWalk.i64_in _ (by omega) | rfl)) rfl rfl ?_
      refine yM ?_
      refine zab ?_
      refine zae ?_
      refine ⟨m' - 1, by omega, _, zaJ (fun _ => 52) _ _ ?_ ?_ rfl, j + 1, by omega, X ++ [n], by simp [hX]; omega, hdp, by rw [hXe, htk, List.append_assoc], rfl⟩
      ·(repeat (first | exact trivial | (refine ⟨⟨(by first | rfl | (simp; done) | (simp; omega)), rfl⟩, ?_⟩)))
      ·exact ⟨⟨rfl, rfl⟩, trivial⟩
    ·rw [show (decide (0 < n) && decide (n ∈ X) || dupB (X ++ [n]) ((0 :: zbm s).drop (j + 1))) = dupB (X ++ [n]) ((0 :: zbm s).drop (j + 1)) by simp [h0]] at hdp
     refine zaa (zaa ?_)
     refine tx ?_
     refine yM ?_
     refine zac (zb5 (c := false) (by simpa using h0)) rfl rfl ?_
     refine yM ?_
     refine yS ?_
     refine yS ?_
     refine yS ?_
     refine yP zai ?_
     refine zab ?_
     refine zae ?_
     refine zan rfl ?_
     refine zad (zae ?_)
     refine tx ?_
     refine yP (zaq (r := .row _)) ?_
     refine yM ?_
     refine zal (xs := [.p (.v (.int .i64 n))]) (zaO (es := [.p (.v (.int .i64 n))]) (cs := [.v (.int .i64 n)]) 51 Tryz.underlying124 sz3 zc3 (Nat.le_of_ble_eq_true rfl) (Nat.le_of_ble_eq_true rfl) rfl (by kernel_rfl) (by kernel_rfl) (by kernel_rfl) (Nat.le_of_ble_eq_true rfl)) (by first | rfl | kernel_rfl) rfl ⟨rfl, trivial⟩ ?_
     refine zal (zbe 52 Tryz.underlying124 eo3 (zbX) (by simp only [maxLen]; omega) (by omega) (show _ = 5 * i + (j + 1) by omega) hps) rfl rfl ⟨rfl, rfl, rfl, trivial⟩ ?_
     refine yP (zas (r := .row _)) ?_
     refine zab ?_
     refine za3 (zae ?_)
     refine tx ?_
     refine zac (za4 (by first | exact IntWalk.i64_in _ (by omega) | rfl)) rfl rfl ?_
     refine yM ?_
     refine zab ?_
     refine zae ?_
     refine ⟨m' - 1, by omega, _, zaJ (fun _ => 52) _ _ ?_ ?_ rfl, j + 1, by omega, X ++ [n], by simp [hX]; omega, hdp, by rw [hXe, htk, List.append_assoc], rfl⟩
     ·(repeat (first | exact trivial | (refine ⟨⟨(by first | rfl | (simp; done) | (simp; omega)), rfl⟩, ?_⟩)))
     ·exact ⟨⟨rfl, rfl⟩, trivial⟩
   have hge : j = 5 := by simp at h; omega
   clear h
   subst hge
   have hz : dupB X ((0 :: zbm s).drop 5) = false := rfl
   rw [hz] at hdp
   rw [if_neg (by rw [hdp]; decide)] at hst
   have hXn : X = allT l (i + 1) := by rw [hXe, hnx]; rfl
   subst hXn
   refine zaG (zb3 (zb3 (zdo (za3 (zae ?_)))))
   refine tx ?_
   refine zac (za4 (by first | exact IntWalk.i64_in _ (by omega) | rfl)) rfl rfl ?_
   refine yM ?_
   refine zab ?_
   refine zae ?_
   refine ⟨m - 1, by omega, _, zaJ id _ _ ?_ ?_ rfl, i + 1, by omega, fun q hq => ?_, rfl⟩
   ·(repeat (first | exact trivial | (refine ⟨⟨(by first | rfl | (simp; done) | (simp; omega)), rfl⟩, ?_⟩)))
   ·exact ⟨⟨rfl, rfl⟩, trivial⟩
   ·by_cases eq : q = i
    ·rw [eq]; exact hst
    ·exact hf q (by omega)
  ·obtain ⟨hpv, hple⟩ := hprev j0 hij
   rw [show i - 1 = j0 by omega] at hst
   have hpk : (L.drop (j0 * 41))[0]? = some (.v (.string (stG l j0).key)) := by
    have := congrArg (fun x => x[0]?) hpv
    rw [List.getElem?_take] at this
    simpa [ST.pv] using this
   generalize (stG l j0).key = pk at *
   have hlk : leK s.key pk = (sLt s.key pk || decide (s.key = pk)) := rfl
   generalize leK s.key pk = lk at *
   refine zad (zaa (zaa ?_))
   refine zav 4 (by kernel_rfl) ?_
   refine yM ?_
   refine zac (zb5 (c := true) (by simp; omega)) rfl rfl ?_
   refine yM ?_
   refine yF zc4 ?_
   refine yL Tryz.underlying9 ?_
   refine yM ?_
   refine yM ?_
   refine zac (zgC (by first | exact IntWalk.i64_in _ (by omega) | rfl)) rfl rfl ?_
   refine zac (zao Tryz.underlying40 sz81 (by omega) (by omega) (show _ = L.drop (j0 * 41) by congr 2; omega)) rfl rfl ?_
   refine yP (zaH zc4 rfl) ?_
   refine yP (zbx Tryz.underlying9 rfl hpk) ?_
   refine yP a_sleq ?_
   refine yP zak ?_
   refine zab ⟨by kernel_rfl, ?_⟩
   refine zae ?_
   refine zah _ rfl (fun h => ?_) (fun h => ?_)
   ·have h8 : lk = true := by rw [hlk]; exact h
    rw [if_pos ⟨by omega, h8⟩] at hst
    rw [hhit (by rw [hst]; decide), hst] at hE
    subst hE
    refine zaa ?_
    refine tx ?_
    refine yA ?_
    refine zab ?_
    refine zaf (zam (zaK (zam (zam (zaK (zam ?_))))))
    refine yT ?_ ?_
    ·exact rfl
    ·exact trivial
   have h8 : ¬ lk = true := by rw [hlk]; simpa using h
   rw [if_neg (by intro hh; exact h8 hh.2)] at hst
   clear h
   obtain ⟨DD, hDD⟩ : ∃ b, dupB (allT l i) (0 :: zbm s) = b := ⟨_, rfl⟩
   rw [hDD] at hst
   refine zad (zaa ?_)
   refine tx ?_
   refine zal (zaL Tryz.underlying81 rfl sz81 (by first | exact Nat.le_of_ble_eq_true rfl | omega | (simp only [AV.cells, List.length_map]; omega)) (show _ = s.cells from rfl)) rfl rfl ⟨rfl, trivial⟩ ?_
   refine cS (fun n => 38 + 1000 * n) (hNum) Tryz.func80 ?_
   refine yM ?_
   refine zab ?_
   refine zaj ?_
   refine zaE (fun m' st => ∃ j : Nat, m' + j = 5 ∧ (∃ X : List Int, X.length = 5 * i + j ∧ DD = dupB X ((0 :: zbm s).drop j) ∧ X = allT l i ++ (0 :: zbm s).take j ∧ st = St.of [(0, .p (.sl l.length 41 L)), (3, .row 100), (12, .p (.sl l.length 41 L)), (13, .p (.v (.int .i64 l.length))), (14, .p (.v (.int .i64 i))), (38, .agg [.p (.v (.int .i64 0)), .p (.v (.int .i64 s.a.mine)), .p (.v (.int .i64 s.b.mine)), .p (.v (.int .i64 s.c.mine)), .p (.v (.int .i64 s.h.mine))]), (39, .p (.v (.int .i64 j)))] [(100, .row 3 1 (5 * i + j) (is X))])) 5 ?_ ?_
   ·refine ⟨_, zaJ id _ _ ?_ ?_ rfl, 0, by omega, allT l i, by omega, hDD.symm, by simp, rfl⟩
    ·(repeat (first | exact trivial | (refine ⟨⟨(by first | rfl | (simp; done) | (simp; omega)), rfl⟩, ?_⟩)))
    ·exact ⟨⟨rfl, rfl⟩, trivial⟩
   rintro m' st ⟨j, hj, X, hX, hdp, hXe, rfl⟩
   refine zaa ?_
   refine tx ?_
   refine yP zaX ?_
   refine zab ?_
   refine zaa ?_
   refine zah _ rfl (fun h => ?_) (fun h => ?_)
   ·have hlj : j < 5 := by simp at h; omega
    clear h
    obtain ⟨n, hn5⟩ : ∃ n, (0 :: zbm s)[j]? = some n := ⟨(0 :: zbm s)[j]'(by show j < 5; exact hlj), List.getElem?_eq_getElem _⟩
    have hix : ([.p (.v (.int .i64 0)), .p (.v (.int .i64 s.a.mine)), .p (.v (.int .i64 s.b.mine)), .p (.v (.int .i64 s.c.mine)), .p (.v (.int .i64 s.h.mine))] : List AV)[j * 1]? = some (.p (.v (.int .i64 n))) := by
     rw [Nat.mul_one]
     have : ([.p (.v (.int .i64 0)), .p (.v (.int .i64 s.a.mine)), .p (.v (.int .i64 s.b.mine)), .p (.v (.int .i64 s.c.mine)), .p (.v (.int .i64 s.h.mine))] : List AV) = (0 :: zbm s).map fun n => .p (.v (.int .i64 n)) := rfl
     rw [this, List.getElem?_map, hn5]
     rfl
    have hdr : (0 :: zbm s).drop j = n :: (0 :: zbm s).drop (j + 1) := by
     obtain ⟨q1, q2⟩ := List.getElem?_eq_some_iff.1 hn5
     rw [List.drop_eq_getElem_cons q1, q2]
    have htk : (0 :: zbm s).take (j + 1) = (0 :: zbm s).take j ++ [n] := by
     obtain ⟨q1, q2⟩ := List.getElem?_eq_some_iff.1 hn5
     rw [List.take_succ_eq_append_getElem q1, q2]
    rw [hdr, dupB] at hdp
    have hCt := zgV X n (5 * i + j) hX (by omega)
    have hil := is_len X
    have hps := is_push X n
    generalize hIs : is X = IX at *
    refine zad (zaa (zaj (zaa ?_)))
    refine tx ?_
    refine zac (ze9 Tryz.underlying126 sz3 Tryz.underlying3 rfl (by omega) (by omega) (show _ = some (.p (.v (.int .i64 n))) by rw [Int.toNat_natCast]; exact hix)) rfl rfl ?_
    refine yA ?_
    refine zab ?_
    by_cases h0 : 0 < n
    ·by_cases hm : n ∈ X
     ·rw [show (decide (0 < n) && decide (n ∈ X) || dupB (X ++ [n]) ((0 :: zbm s).drop (j + 1))) = true by simp [h0, hm]] at hdp
      rw [if_pos hdp] at hst
      rw [hhit (by rw [hst]; decide), hst] at hE
      subst hE
      rw [decide_eq_true hm] at hCt
      refine zaa (zaa ?_)
      refine tx ?_
      refine yM ?_
      refine zac (zb5 (c := true) (by simpa using h0)) rfl rfl ?_
      refine yM ?_
      refine yP (zaq (r := .row _)) ?_
      refine yM ?_
      (first | refine yS ?_ | refine yV (fun n => 47 + 1000 * n) (hCt) Tryz.func81 ?_)
      refine yP zak ?_
      refine zab ?_
      refine zae ?_
      refine zaD rfl ?_
      refine zaa ?_
      refine tx ?_
      refine yA ?_
      refine zab ?_
      (repeat (first | refine zaa ?_ | refine zaj ?_ | refine zad ?_ | refine zaf ?_ | refine zaG ?_ | refine zae ?_ | refine zam ?_ | refine zb3 ?_ | refine za3 ?_ | refine zaK ?_ | refine zdo ?_ | refine inb_y rfl ?_))
      refine yT ?_ ?_
      ·exact rfl
      ·exact trivial
     ·rw [show (decide (0 < n) && decide (n ∈ X) || dupB (X ++ [n]) ((0 :: zbm s).drop (j + 1))) = dupB (X ++ [n]) ((0 :: zbm s).drop (j + 1)) by simp [hm]] at hdp
      rw [decide_eq_false hm] at hCt
      refine zaa (zaa ?_)
      refine tx ?_
      refine yM ?_
      refine zac (zb5 (c := true) (by simpa using h0)) rfl rfl ?_
      refine yM ?_
      refine yP (zaq (r := .row _)) ?_
      refine yM ?_
      (first | refine yS ?_ | refine yV (fun n => 47 + 1000 * n) (hCt) Tryz.func81 ?_)
      refine yP zak ?_
      refine zab ?_
      refine zae ?_
      refine zan rfl ?_
      refine zad (zae ?_)
      refine tx ?_
      refine yP (zaq (r := .row _)) ?_
      refine yM ?_
      refine zal (xs := [.p (.v (.int .i64 n))]) (zaO (es := [.p (.v (.int .i64 n))]) (cs := [.v (.int .i64 n)]) 51 Tryz.underlying124 sz3 zc3 (Nat.le_of_ble_eq_true rfl) (Nat.le_of_ble_eq_true rfl) rfl (by kernel_rfl) (by kernel_rfl) (by kernel_rfl) (Nat.le_of_ble_eq_true rfl)) (by first | rfl | kernel_rfl) rfl ⟨rfl, trivial⟩ ?_
      refine zal (zbe 52 Tryz.underlying124 eo3 (zbX) (by simp only [maxLen]; omega) (by omega) (show _ = 5 * i + (j + 1) by omega) hps) rfl rfl ⟨rfl, rfl, rfl, trivial⟩ ?_
      refine yP (zas (r := .row _)) ?_
      refine zab ?_
      refine za3 (zae ?_)
      refine tx ?_
      refine zac (za4 (by first | exact IntWalk.i64_in _ (by omega) | rfl)) rfl rfl ?_
      refine yM ?_
      refine zab ?_
      refine zae ?_
      refine ⟨m' - 1, by omega, _, zaJ (fun _ => 52) _ _ ?_ ?_ rfl, j + 1, by omega, X ++ [n], by simp [hX]; omega, hdp, by rw [hXe, htk, List.append_assoc], rfl⟩
      ·(repeat (first | exact trivial | (refine ⟨⟨(by first | rfl | (simp; done) | (simp; omega)), rfl⟩, ?_⟩)))
      ·exact ⟨⟨rfl, rfl⟩, trivial⟩
    ·rw [show (decide (0 < n) && decide (n ∈ X) || dupB (X ++ [n]) ((0 :: zbm s).drop (j + 1))) = dupB (X ++ [n]) ((0 :: zbm s).drop (j + 1)) by simp [h0]] at hdp
     refine zaa (zaa ?_)
     refine tx ?_
     refine yM ?_
     refine zac (zb5 (c := false) (by simpa using h0)) rfl rfl ?_
     refine yM ?_
     refine yS ?_
     refine yS ?_
     refine yS ?_
     refine yP zai ?_
     refine zab ?_
     refine zae ?_
     refine zan rfl ?_
     refine zad (zae ?_)
     refine tx ?_
     refine yP (zaq (r := .row _)) ?_
     refine yM ?_
     refine zal (xs := [.p (.v (.int .i64 n))]) (zaO (es := [.p (.v (.int .i64 n))]) (cs := [.v (.int .i64 n)]) 51 Tryz.underlying124 sz3 zc3 (Nat.le_of_ble_eq_true rfl) (Nat.le_of_ble_eq_true rfl) rfl (by kernel_rfl) (by kernel_rfl) (by kernel_rfl) (Nat.le_of_ble_eq_true rfl)) (by first | rfl | kernel_rfl) rfl ⟨rfl, trivial⟩ ?_
     refine zal (zbe 52 Tryz.underlying124 eo3 (zbX) (by simp only [maxLen]; omega) (by omega) (show _ = 5 * i + (j + 1) by omega) hps) rfl rfl ⟨rfl, rfl, rfl, trivial⟩ ?_
     refine yP (zas (r := .row _)) ?_
     refine zab ?_
     refine za3 (zae ?_)
     refine tx ?_
     refine zac (za4 (by first | exact IntWalk.i64_in _ (by omega) | rfl)) rfl rfl ?_
     refine yM ?_
     refine zab ?_
     refine zae ?_
     refine ⟨m' - 1, by omega, _, zaJ (fun _ => 52) _ _ ?_ ?_ rfl, j + 1, by omega, X ++ [n], by simp [hX]; omega, hdp, by rw [hXe, htk, List.append_assoc], rfl⟩
     ·(repeat (first | exact trivial | (refine ⟨⟨(by first | rfl | (simp; done) | (simp; omega)), rfl⟩, ?_⟩)))
     ·exact ⟨⟨rfl, rfl⟩, trivial⟩
   have hge : j = 5 := by simp at h; omega
   clear h
   subst hge
   have hz : dupB X ((0 :: zbm s).drop 5) = false := rfl
   rw [hz] at hdp
   rw [if_neg (by rw [hdp]; decide)] at hst
   have hXn : X = allT l (i + 1) := by rw [hXe, hnx]; rfl
   subst hXn
   refine zaG (zb3 (zb3 (zdo (za3 (zae ?_)))))
   refine tx ?_
   refine zac (za4 (by first | exact IntWalk.i64_in _ (by omega) | rfl)) rfl rfl ?_
   refine yM ?_
   refine zab ?_
   refine zae ?_
   refine ⟨m - 1, by omega, _, zaJ id _ _ ?_ ?_ rfl, i + 1, by omega, fun q hq => ?_, rfl⟩
   ·(repeat (first | exact trivial | (refine ⟨⟨(by first | rfl | (simp; done) | (simp; omega)), rfl⟩, ?_⟩)))
   ·exact ⟨⟨rfl, rfl⟩, trivial⟩
   ·by_cases eq : q = i
    ·rw [eq]; exact hst
    ·exact hf q (by omega)
 have hge : i = l.length := by simp at h; omega
 clear h
 subst hge
 rw [zcB hf] at hE
 subst hE
 refine zaG (zaa ?_)
 refine tx ?_
 refine yA ?_
 refine zab ?_
 refine zaf ?_
 refine yT ?_ ?_
 ·exact rfl
 ·exact trivial
end Go.Proofs.YtgpleldhddpcgaaGreatDoor
