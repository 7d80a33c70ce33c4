/- The reference's daemons, over data: a letter, a hello again. -/
import Derived.Test.YtbjdjclkbjpebaaGreatDoorSMo1
import Derived.Test.YtbjdjclkbjpebaaGreatDoorSTab
import Derived.Test.YtbjdjclkbjpebaaGreatDoorSTc1
import Derived.Test.YtbjdjclkbjpebaaGreatDoorSUtZ
namespace Go.Proofs.YtbjdjclkbjpebaaGreatDoor
open Tryz
open Go.RowKit Go.Sort
set_option linter.unusedVariables false
set_option linter.unusedSimpArgs false
set_option maxRecDepth 100000
theorem lettered_s (d : DM) (ps : List ST) (i : Nat) (s : ST) (hs : ps[i]? = some s) (m : MS) (zs : List Int) (e : Int) (hW : Fn prog 86 [.agg m.cells] (.tup [.row 0, .p (.v (.int .i64 e))]) [(0, .row 5 1 zs.length (bs zs))]) (hp : ps.length ≤ 1048576) :
  Fn prog 46 [.agg (moD d (.p (.sl ps.length 41 (ps.flatMap ST.pv)))), .p (.v (.int .i64 i)), .agg m.cells] (.agg [.p (.v (.string ⟨#[]⟩)), .p (.v (.string s.ep)), .row 0]) [(0, .row 5 1 zs.length (bs zs))] := by
 have hi : i < ps.length := (List.getElem?_eq_some_iff.1 hs).1
 have hep : (ps.flatMap ST.pv)[i * 41 + 1]? = some (.v (.string s.ep)) := fm_get (f := ST.pv) (k := 41) (fun _ => rfl) hs (by decide)
 generalize ps.flatMap ST.pv = S at *
 generalize ps.length = K at *
 generalize s.ep = ep at *
 refine fnI fun w0 A => ?_
 refine G [2] ?_
 refine jdA (a_box (X := .agg (moD d (.p (.sl K 41 S)))) 3 rfl) ?_
 refine G [5] ?_
 refine jcU ?_
 refine cK hW ?_
 refine G [12] ?_
 refine jdz (zam fi56_1 rfl) ?_
 refine zaa (zaG U9 rfl (by simp only [List.getElem?_drop, Int.toNat_natCast, Nat.add_zero]; exact hep)) rfl rfl ?_
 refine G [2] ?_
 refine jdA (zaf (Y := .agg [.p (.v (.string ⟨#[]⟩)), .p (.v (.string ep)), .row 11]) sz64 rfl rfl (Nat.eq_of_beq_eq_true rfl)) ?_
 refine G [2, 9, 0] ?_
 refine yT (fun o => 11) ?_ ?_
 ·exact rfl
 ·exact ⟨⟨rfl, rfl⟩, trivial⟩
theorem helloed_s (d : DM) (ps : List ST) (i : Nat) (s : ST) (hs : ps[i]? = some s) (p : PE) (hp : d.c.ps[i]? = some p) (m : MS) (e : Int) (hH : Fn prog 45 [.p (.v (.string d.c.key)), .p (.v (.string p.key)), .p (.v (.string p.sh)), .p (.v (.int .i64 s.h.mine)), .p (.v (.string s.h.nc))] (.tup [.agg m.cells, .p (.v (.int .i64 e))]) [])
  (zs : List Int) (e' : Int) (hW : Fn prog 86 [.agg m.cells] (.tup [.row 0, .p (.v (.int .i64 e'))]) [(0, .row 5 1 zs.length (bs zs))]) (hn : ps.length ≤ 1048576) (hc : d.c.ps.length ≤ 1048576) :
  FnO prog 15 [.agg (moD d (.row 1)), .p (.v (.int .i64 i))] [(1, moS ps), (2, .un), (4, .un), (5, .un), (6, .un), (7, .un), (8, .un), (49, .un)]
   [(1, moS (ps.set i { s with h := { s.h with s := d.now } })), (49, .live (.row 5 1 zs.length (bs zs)))] (.tup [.agg (moD d (.row 1)), .agg [.p (.v (.string ⟨#[]⟩)), .p (.v (.string s.ep)), .row 49]]) := by
 have hi : i < ps.length := (List.getElem?_eq_some_iff.1 hs).1
 have hj : i < d.c.ps.length := (List.getElem?_eq_some_iff.1 hp).1
 have hs2 : (ps.set i { s with h := { s.h with s := d.now } })[i]? = some { s with h := { s.h with s := d.now } } := by rw [List.getElem?_set_self hi]
 have hS := lettered_s d _ i _ hs2 m zs e' hW (by simpa using hn)
 have hst : setR (ps.flatMap ST.pv) (i * 41 + 35 + 4) [.v (.int .i64 d.now)] = (ps.set i { s with h := { s.h with s := d.now } }).flatMap ST.pv := zef (f := ST.pv) (k := 41) (fun _ => rfl) hs (q := 39) (show 39 + 1 ≤ 41 by decide) rfl
 have hhd : ((ps.set i { s with h := { s.h with s := d.now } }).flatMap ST.pv |>.drop (i * 41 + 35)).take 5 = HS.pv { s.h with s := d.now } := ziu (f := ST.pv) (k := 41) (fun _ => rfl) hs2 (q := 35) (n := 5) (by decide)
 have hch := zar (f := PE.pv) (k := 5) (fun _ => rfl) hp
 have hle := zas (f := PE.pv) (k := 5) (fun _ => rfl) hj
 have hsl : (ps.flatMap ST.pv).length = ps.length * 41 := zaZ (f := ST.pv) (k := 41) (fun _ => rfl) ps
 have hsl2 : ((ps.set i { s with h := { s.h with s := d.now } }).flatMap ST.pv).length = ps.length * 41 := by rw [zaZ (f := ST.pv) (k := 41) (fun _ => rfl), List.length_set]
 refine zgl [2, 4, 5, 6, 7, 8] (wrs := [(1, moS (ps.set i { s with h := { s.h with s := d.now } })), (2, .live (.box 32 (moD d (.row 1)))), (4, .live (.box 32 (moD d (.row 1)))), (5, .live (.box 64 [.p (.v (.string ⟨#[]⟩)), .p (.v (.string s.ep)), .row 49])), (6, .live (.box 84 p.cells)), (7, .live (.box 53 (HS.cells { s.h with s := d.now }))), (8, .live (.box 97 m.cells)), (49, .live (.row 5 1 zs.length (bs zs)))]) ?_ rfl rfl rfl rfl
 unfold moS at ⊢
 rw [List.length_set] at hS ⊢
 generalize (ps.set i { s with h := { s.h with s := d.now } }).flatMap ST.pv = S' at *
 generalize ps.flatMap ST.pv = S at *
 generalize ps.length = K at *
 refine fnIO fun w0 A heap => ?_
 refine G [2] ?_
 refine jdA (a_box (X := .agg (moD d (.row 1))) 2 rfl) ?_
 refine G [10] ?_
 refine zaa (zaI U84 rfl sz84 (by rw [List.length_drop]; omega) (hch)) rfl rfl ?_
 refine jdA (zaX 6 zr84 rfl) ?_
 refine jcQ ?_
 refine G [11] ?_
 refine zab (zbB (Y := .p (.v (.int .i64 d.now))) (ys := [.v (.int .i64 d.now)]) sz3 rfl rfl rfl (by omega) hst) rfl rfl ⟨rfl, trivial⟩ ?_
 refine G [8] ?_
 refine zab (zb8 U53 rfl sz53 (by omega) (hhd)) rfl rfl ⟨rfl, trivial⟩ ?_
 refine jdA (zaX 7 zr53 rfl) ?_
 refine jdA (zaf (Y := .agg (HS.cells { s.h with s := d.now })) sz53 rfl rfl (Nat.eq_of_beq_eq_true rfl)) ?_
 refine G [14] ?_
 refine cK hH ?_
 refine G [4] ?_
 refine jdA (zaf (Y := .agg m.cells) sz97 rfl rfl (Nat.eq_of_beq_eq_true rfl)) ?_
 refine G [4] ?_
 refine jcV ?_
 refine jcV ?_
 refine jco ?_
 refine jcU ?_
 refine cV hS ?_
 refine jdA (zaf (Y := .agg (moD d (.row 1))) sz32 rfl rfl (Nat.eq_of_beq_eq_true rfl)) ?_
 refine jdA (zaf (Y := .agg [.p (.v (.string ⟨#[]⟩)), .p (.v (.string s.ep)), .row 49]) sz64 rfl rfl (Nat.eq_of_beq_eq_true rfl)) ?_
 refine G [2] ?_
 refine ⟨(by first | exact .inl rfl | exact .inr rfl), ⟨_, (.cellN _ _ _ _ _ _ _ _ _ rfl rfl U32 rfl sz32 rfl (.cellN _ _ _ _ _ _ _ _ _ rfl rfl U64 rfl sz64 rfl .nil)), rfl⟩, ?_, ?_⟩
 ·exact jbm
 ·exact jao
end Go.Proofs.YtbjdjclkbjpebaaGreatDoor
namespace Go.Proofs.YtbjdjclkbjpebaaGreatDoor
open Go.RowKit Go.Sort
set_option linter.unusedVariables false
set_option linter.unusedSimpArgs false
set_option maxRecDepth 100000
def zbX (now : Int) (k : KY) : KY := if k.live = true ∧ 180 ≤ now - k.born then KY0 else k
def tkL (now : Int) (s : ST) : ST := { s with a := zbX now s.a, b := zbX now s.b, c := zbX now s.c }
def tkA (now : Int) (s : ST) : Bool := s.h.lv && (decide (now - s.h.b < 20) && decide (5 ≤ now - s.h.s))
def tkS (now : Int) (s : ST) : ST :=
 if s.h.lv = true then
  if 20 ≤ now - s.h.b then { tkL now s with h := HS0, q := [] }
  else if 5 ≤ now - s.h.s then { tkL now s with h := { s.h with s := now } }
  else tkL now s
 else tkL now s
theorem late_s (d : DM) (k : KY) (h0 : 0 ≤ k.born) (h1 : k.born ≤ 1099511627776) :
  FnO Tryz.prog 14 [.agg k.cells, .ref 108 0] [(108, .live (.box 32 (moD d (.row 1)))), (2, .un), (3, .un)] [(108, .live (.box 32 (moD d (.row 1))))] (.agg (zbX d.now k).cells) := by
 refine zgl [2, 3] (wrs := [(108, .live (.box 32 (moD d (.row 1)))), (2, .live (.box 49 k.cells)), (3, .live (.box 49 (zbX d.now k).cells))]) ?_ rfl rfl rfl (by unfold zbX; split <;> rfl)
 unfold zbX
 by_cases hl : k.live = true
 ·by_cases ht : 180 ≤ d.now - k.born
  ·rw [if_pos ⟨hl, ht⟩]
   refine fnIO fun w0 A heap => ?_
   refine G [5] ?_
   obtain ⟨lv, se, ta, mi, th, bo, co, s1, s2, s3, fi⟩ := k
   dsimp only at hl ht h0 h1
   subst hl
   refine G [10] ?_
   refine zaa (za3 (show _ = bo + 180 from IntWalk.i64_in _ (by omega))) rfl rfl ?_
   refine G [0, 4, 9, 9, 0] ?_
   exact jaA
  ·rw [if_neg (fun h => ht h.2)]
   refine fnIO fun w0 A heap => ?_
   refine G [5] ?_
   obtain ⟨lv, se, ta, mi, th, bo, co, s1, s2, s3, fi⟩ := k
   dsimp only at hl ht h0 h1
   subst hl
   refine G [10] ?_
   refine zaa (za3 (show _ = bo + 180 from IntWalk.i64_in _ (by omega))) rfl rfl ?_
   refine G [0, 3, 10] ?_
   exact jaA
 ·rw [if_neg (fun h => hl h.1)]
  refine fnIO fun w0 A heap => ?_
  refine G [5] ?_
  obtain ⟨lv, se, ta, mi, th, bo, co, s1, s2, s3, fi⟩ := k
  dsimp only at hl h0 h1
  have hl : lv = false := by simpa using hl
  subst hl
  refine G [22] ?_
  exact jaA
set_option maxRecDepth 100000 in
theorem numbers_s (X : List AV) (a b c d : Int) (h5 : X[5]? = some (.p (.v (.int .i64 a)))) (h16 : X[16]? = some (.p (.v (.int .i64 b)))) (h27 : X[27]? = some (.p (.v (.int .i64 c)))) (h36 : X[36]? = some (.p (.v (.int .i64 d)))) :
  Fn Tryz.prog 59 [.agg X] (.agg [.p (.v (.int .i64 0)), .p (.v (.int .i64 a)), .p (.v (.int .i64 b)), .p (.v (.int .i64 c)), .p (.v (.int .i64 d))]) [] := by
 refine zb7 Tryz.func59 rfl (Nat.le_of_ble_eq_true rfl) fun w0 A => ?_
 refine zad (zaF (by kernel_rfl) ?_)
 (refine zab (a_box (X := .agg _) 1 rfl) rfl rfl ⟨rfl, trivial⟩ ?_)
 (refine zab (zaX 2 zr117 rfl) rfl rfl ⟨rfl, trivial⟩ ?_)
 refine zac (zad (zaF (by kernel_rfl) ?_))
 (refine zaa (zat zg9 rfl) rfl rfl ?_)
 (refine zaa (zat fi51_0 rfl) rfl rfl ?_)
 (refine zaa (zat zhS rfl) rfl rfl ?_)
 (refine zab (zcs Tryz.underlying3 rfl (by first | rfl | assumption)) rfl rfl ⟨rfl, trivial⟩ ?_)
 (refine zaa (zat zg9 rfl) rfl rfl ?_)
 (refine zaa (zat fi51_1 rfl) rfl rfl ?_)
 (refine zaa (zat zhS rfl) rfl rfl ?_)
 (refine zab (zcs Tryz.underlying3 rfl (by first | rfl | assumption)) rfl rfl ⟨rfl, trivial⟩ ?_)
 (refine zaa (zat zg9 rfl) rfl rfl ?_)
 (refine zaa (zat fi51_2 rfl) rfl rfl ?_)
 (refine zaa (zat zhS rfl) rfl rfl ?_)
 (refine zab (zcs Tryz.underlying3 rfl (by first | rfl | assumption)) rfl rfl ⟨rfl, trivial⟩ ?_)
 (refine zaa (zat fi56_3 rfl) rfl rfl ?_)
 (refine zaa (zat fi53_1 rfl) rfl rfl ?_)
 (refine zab (zcs Tryz.underlying3 rfl (by first | rfl | assumption)) rfl rfl ⟨rfl, trivial⟩ ?_)
 (refine zaa (zcV Tryz.underlying117 zr117 rfl sz3 rfl) rfl rfl ?_)
 (refine zab (zaf (Y := .agg _) sz117 rfl (by first | exact Nat.eq_of_beq_eq_true rfl | (simp only [AV.cells, List.length_map]; first | assumption | omega)) (Nat.eq_of_beq_eq_true rfl)) rfl rfl ⟨rfl, trivial⟩ ?_)
 refine zac (zaE (⟨(by first | exact .inl rfl | exact .inr rfl), _, (fun o => o), (.cellN _ _ _ _ _ _ _ _ _ rfl rfl Tryz.underlying117 rfl sz117 (by first | assumption | kernel_rfl) .nil), ?_, rfl, ?_, rfl⟩))
 ·kernel_rfl
 ·exact trivial
def idxI (n : Int) : List Int → Int
 | [] => -1
 | x :: xs => if n = x then 0 else if idxI n xs < 0 then -1 else idxI n xs + 1
def is (xs : List Int) : List PV := xs.map fun x => .v (.int .i64 x)
theorem is_at {xs : List Int} {k : Nat} (h : k < xs.length) : (is xs)[k]? = some (.v (.int .i64 xs[k])) := by simp [is, h]
theorem idxI_at {n : Int} : ∀ {xs : List Int} {k : Nat}, (hk : k < xs.length) → n = xs[k] → (∀ j, (hj : j < k) → n ≠ xs[j]) → idxI n xs = k
 | x :: xs, 0, _, h, _ => by
  have : n = x := by simpa using h
  simp [idxI, this]
 | x :: xs, k + 1, hk, h, hb => by
  have h0 : n ≠ x := by simpa using hb 0 (by omega)
  have ih := idxI_at (xs := xs) (k := k) (by simpa using hk) (by simpa using h) (fun j hj => by simpa using hb (j + 1) (by omega))
  simp only [idxI, if_neg h0, ih]
  rw [if_neg (by omega)]
  omega
theorem idxI_none {n : Int} : ∀ {xs : List Int}, (∀ j, (hj : j < xs.length) → n ≠ xs[j]) → idxI n xs = -1
 | [], _ => rfl
 | x :: xs, hb => by
  have h0 : n ≠ x := hb 0 (by simp)
  have ih := idxI_none (n := n) (xs := xs) (fun j hj => hb (j + 1) (by simpa using hj))
  simp [idxI, h0, ih]
set_option maxRecDepth 100000 in
theorem index_s (xs : List Int) (n : Int) (N : Nat) (hN : xs.length = N) (hm : N ≤ 100000) : Fn Tryz.prog 96 [.p (.sl N 1 (is xs)), .p (.v (.int .i64 n))] (.p (.v (.int .i64 (idxI n xs)))) [] := by
 refine zb7 Tryz.func96 rfl (Nat.le_of_ble_eq_true rfl) fun w0 A => ?_
 refine zad (zaF (by kernel_rfl) ?_)
 (refine zaa (zaw (r := .p _)) rfl rfl ?_)
 refine zac (zad (zad (zaF (by kernel_rfl) ?_)))
 (refine zaa (zav (r := .p _)) rfl rfl ?_)
 (refine zaa (zdu Tryz.underlying115) rfl rfl ?_)
 (refine zaa (zav (r := .p _)) rfl rfl ?_)
 refine zac (zao (zag (fun m st => ∃ k : Nat, m + k = N ∧ (∀ j, (hj : j < k) → (hj2 : j < xs.length) → n ≠ xs[j]) ∧ st = St.of [(0, .p (.sl N 1 (is xs))), (1, .p (.v (.int .i64 n))), (7, .p (.v (.int .i64 N))), (8, .p (.v (.int .i64 k)))] []) N ?_ ?_))
 ·refine ⟨_, zah id _ _ ?_ ?_ rfl, 0, by omega, fun j hj => by omega, rfl⟩
  ·(repeat (first | exact trivial | (refine ⟨⟨(by first | rfl | (simp; done) | (simp; omega)), rfl⟩, ?_⟩)))
  ·exact trivial
 rintro m st ⟨k, hk, hb, rfl⟩
 refine zad (zaF (by kernel_rfl) ?_)
 (refine zaa zcI rfl rfl ?_)
 refine zac (zad (zaJ _ rfl (fun h => ?_) (fun h => ?_)))
 ·have hlt : k < N := by simpa using h
  clear h
  have hx : k < xs.length := by omega
  have hat := is_at hx
  refine zap (zad (zao (zad (zaF (by kernel_rfl) ?_))))
  (refine zaa (zav (r := .p _)) rfl rfl ?_)
  (refine zaa (zaw (r := .p _)) rfl rfl ?_)
  refine zac (zad (zaF (by kernel_rfl) ?_))
  (refine zaa (zav (r := .p _)) rfl rfl ?_)
  (refine zaa (zav (r := .p _)) rfl rfl ?_)
  (refine zaa (zav (r := .p _)) rfl rfl ?_)
  (refine zaa (zaM Tryz.underlying115 sz3 (by omega) (by omega) rfl) rfl rfl ?_)
  (refine zaa (zaG Tryz.underlying3 rfl (by first | rfl | assumption | ((try simp only [List.getElem?_drop, List.getElem?_take, Int.toNat_natCast, Nat.mul_one, Nat.add_zero, Nat.zero_add]); first | assumption | rfl))) rfl rfl ?_)
  (refine zaa a_eql rfl rfl ?_)
  refine zac (zaz (zaJ _ rfl (fun h => ?_) (fun h => ?_)))
  ·have he : n = xs[k] := by simpa using h
   refine zad (zaF (by kernel_rfl) ?_)
   (refine zaa (zav (r := .p _)) rfl rfl ?_)
   (refine zaa (zaw (r := .p _)) rfl rfl ?_)
   refine zac (zaE (zcz (zbG (zbG (zcz (zbG (⟨(by first | exact .inl rfl | exact .inr rfl), _, (fun o => o), (.tmp _ _ _ _ rfl .nil), ?_, rfl, ?_, rfl⟩)))))))
   ·rw [idxI_at hx he fun j hj => hb j hj (by omega)]; kernel_rfl
   ·exact trivial
  ·have he : n ≠ xs[k] := by simpa using h
   refine zap (zbz (zaz (zaF (by kernel_rfl) ?_)))
   (refine zaa (za3 (by first | exact IntWalk.i64_in _ (by omega) | rfl)) rfl rfl ?_)
   (refine zaa (zav (r := .p _)) rfl rfl ?_)
   refine zac (zaz (⟨m - 1, by omega, _, zah id _ _ ?_ ?_ rfl, k + 1, by omega, fun j hj hj2 => ?_, rfl⟩))
   ·(repeat (first | exact trivial | (refine ⟨⟨(by first | rfl | (simp; done) | (simp; omega)), rfl⟩, ?_⟩)))
   ·exact trivial
   ·by_cases e : j = k
    ·subst e; exact he
    ·exact hb j (by omega) hj2
 ·have hge : ¬ k < N := by simpa using h
  refine zaN (zad (zaF (by kernel_rfl) ?_))
  (refine zaa (zaw (r := .p _)) rfl rfl ?_)
  refine zac (zaE (⟨(by first | exact .inl rfl | exact .inr rfl), _, (fun o => o), (.tmp _ _ _ _ rfl .nil), ?_, rfl, ?_, rfl⟩))
  ·rw [idxI_none fun j hj => hb j (by omega) hj]; kernel_rfl
  ·exact trivial
end Go.Proofs.YtbjdjclkbjpebaaGreatDoor
namespace Go.Proofs.YtbjdjclkbjpebaaGreatDoor
open Tryz
open Go.RowKit Go.Sort
set_option maxHeartbeats 16000000
set_option linter.unusedVariables false
set_option linter.unusedSimpArgs false
set_option maxRecDepth 100000
theorem idxI_ge (n : Int) : ∀ xs : List Int, (0 ≤ idxI n xs ↔ n ∈ xs)
 | [] => by simp [idxI]
 | x :: xs => by
  have ih := idxI_ge n xs
  unfold idxI
  by_cases h : n = x
  ·rw [if_pos h]; simp [h]
  ·rw [if_neg h]
   by_cases h2 : idxI n xs < 0
   ·rw [if_pos h2]
    simp only [List.mem_cons, h, false_or]
    rw [← ih]; omega
   ·rw [if_neg h2]
    simp only [List.mem_cons, h, false_or]
    rw [← ih]; omega
theorem zhU (xs : List Int) (n : Int) (N : Nat) (hN : xs.length = N) (hm : N ≤ 100000) : Fn prog 60 [.p (.sl N 1 (is xs)), .p (.v (.int .i64 n))] (.p (.v (.bool (decide (n ∈ xs))))) [] := by
 have hI := index_s xs n N hN hm
 have hge := idxI_ge n xs
 have hB : decide (n ∈ xs) = decide (0 ≤ idxI n xs) := by simp only [hge]
 rw [hB]
 generalize idxI n xs = k at *
 refine fnI fun w0 A => ?_
 refine G [8] ?_
 refine cV hI ?_
 refine G [4, 9, 0] ?_
 exact yE
def zbb (s : ST) : List Int := [s.a.mine, s.b.mine, s.c.mine, s.h.mine]
def dupB : List Int → List Int → Bool
 | _, [] => false
 | acc, n :: r => (decide (0 < n) && decide (n ∈ acc)) || dupB (acc ++ [n]) r
def stG (l : List ST) (i : Nat) : ST := l.getD i ⟨⟨#[]⟩, ⟨#[]⟩, KY0, KY0, KY0, HS0, []⟩
def allN (l : List ST) (i : Nat) : List Int := (l.take i).flatMap zbb
noncomputable def zeG (l : List ST) (i : Nat) : Int :=
 if stE (stG l i) ≠ 0 then stE (stG l i) else if 0 < i ∧ leK (stG l i).key (stG l (i - 1)).key = true then 6
 else if dupB (allN l i) (zbb (stG l i)) = true then 6 else 0
noncomputable def stsE (l : List ST) : Int := if 6 < l.length then 1 else fnz (zeG l) l.length
theorem zhT : ∀ (ns acc acc' : List Int), (∀ n, 0 < n → (n ∈ acc ↔ n ∈ acc')) → dupB acc ns = dupB acc' ns
 | [], _, _, _ => rfl
 | n :: r, acc, acc', h => by
  unfold dupB
  rw [zhT r (acc ++ [n]) (acc' ++ [n]) fun k hk => by simp [h k hk]]
  by_cases hn : 0 < n
  ·simp [hn, h n hn]
  ·simp [hn]
theorem dupB_zero (acc ns : List Int) : dupB acc (0 :: ns) = dupB (acc ++ [0]) ns := by simp [dupB]
def allT (l : List ST) (i : Nat) : List Int := (l.take i).flatMap fun s => 0 :: zbb s
theorem allT_next {l : List ST} {i : Nat} {s : ST} (h : l[i]? = some s) : allT l (i + 1) = allT l i ++ (0 :: zbb s) := by
 obtain ⟨h1, h2⟩ := List.getElem?_eq_some_iff.1 h
 unfold allT
 exact jbC
theorem allT_len (l : List ST) {i : Nat} (h : i ≤ l.length) : (allT l i).length = 5 * i := by
 unfold allT
 rw [zaZ (k := 5) (fun _ => rfl), List.length_take]
 omega
theorem allT_N (l : List ST) (i : Nat) (n : Int) (hn : 0 < n) : n ∈ allT l i ↔ n ∈ allN l i := by
 unfold allT allN
 simp only [List.mem_flatMap, List.mem_cons]
 constructor
 ·rintro ⟨s, h1, h2 | h2⟩
  ·omega
  ·exact ⟨s, h1, h2⟩
 ·rintro ⟨s, h1, h2⟩
  exact ⟨s, h1, .inr h2⟩
theorem dupT (l : List ST) (i : Nat) (s : ST) : dupB (allT l i) (0 :: zbb s) = dupB (allN l i) (zbb s) := by
 rw [dupB_zero]
 exact zhT _ _ _ fun n hn => by
  rw [List.mem_append, List.mem_singleton, allT_N l i n hn]
  constructor
  ·rintro (h | h)
   ·exact h
   ·omega
  ·exact .inl
theorem stG_at {l : List ST} {i : Nat} {s : ST} (h : l[i]? = some s) : stG l i = s := by unfold stG; rw [List.getD_eq_getElem?_getD, h]; rfl
theorem is_push (X : List Int) (n : Int) : is X ++ [.v (.int .i64 n)] = is (X ++ [n]) := by simp [is]
theorem is_len (X : List Int) : (is X).length = X.length := by simp [is]
theorem tabCheck_s (l : List ST) (ok : ∀ s ∈ l, s.OK) (hn : l.length ≤ 1048576) : Fn prog 24 [.p (.sl l.length 41 (l.flatMap ST.pv))] (.p (.v (.int .i64 (stsE l)))) [] := by
 obtain ⟨E, hE⟩ : ∃ E, stsE l = E := ⟨_, rfl⟩
 rw [hE]
 unfold stsE at hE
 refine fnI fun w0 A => ?_
 refine G [11, 9, 0] ?_
 refine cX (fun h => ?_) fun h => ?_
 ·exact ja5
 have h6 : ¬ 6 < l.length := by simp at h; omega
 clear h
 rw [if_neg h6] at hE
 refine G [12, 9, 0] ?_
 refine za8 (zco 3 100 3 1 rfl rfl) ?_
 refine zao (zag (fun m st => ∃ i : Nat, m + i = l.length ∧ (∀ j, j < i → zeG l j = 0) ∧ st = St.of [(0, .p (.sl l.length 41 (l.flatMap ST.pv))), (3, .row 100), (12, .p (.sl l.length 41 (l.flatMap ST.pv))), (13, .p (.v (.int .i64 l.length))), (14, .p (.v (.int .i64 i)))] [(100, .row 3 1 (5 * i) (is (allT l i)))]) l.length ?_ ?_)
 ·exact jar
 rintro m st ⟨i, hi, hf, rfl⟩
 refine G [5] ?_
 refine cX (fun h => ?_) fun h => ?_
 ·have hlt : i < l.length := by simp at h; omega
  clear h
  obtain ⟨s, hs⟩ : ∃ s, l[i]? = some s := ⟨l[i], List.getElem?_eq_getElem hlt⟩
  have hch := zar (f := ST.pv) (k := 41) (fun _ => rfl) hs
  have hle := zas (f := ST.pv) (k := 41) (fun _ => rfl) hlt
  have hok := ok s (List.mem_of_getElem? hs)
  have hC := tright_s s hok
  have hhit := @zcd (zeG l) i l.length hf hlt
  have hst : zeG l i = if stE s ≠ 0 then stE s else if 0 < i ∧ leK s.key (stG l (i - 1)).key = true then 6 else if dupB (allN l i) (zbb s) = true then 6 else 0 := by unfold zeG; rw [stG_at hs]
  rw [← dupT] at hst
  have hnx := allT_next hs
  have htl := allT_len l (Nat.le_of_lt hlt)
  have hprev : ∀ j, i = j + 1 → (((l.flatMap ST.pv).drop (j * 41)).take 41 = (stG l j).pv) ∧ j * 41 + 41 ≤ (l.flatMap ST.pv).length := by
   intro j hj
   obtain ⟨r, hr⟩ : ∃ r, l[j]? = some r := ⟨l[j], List.getElem?_eq_getElem (by omega)⟩
   rw [stG_at hr]
   exact ⟨zar (f := ST.pv) (k := 41) (fun _ => rfl) hr, zas (f := ST.pv) (k := 41) (fun _ => rfl) (by omega)⟩
  generalize hL : l.flatMap ST.pv = L at *
  generalize stE s = e at *
  refine G [7] ?_
  refine zaa (zaI U56 rfl sz56 (by rw [List.length_drop]; omega) (hch)) rfl rfl ?_
  refine G [2] ?_
  refine jdA (zaf (Y := .agg s.cells) sz56 rfl rfl (Nat.eq_of_beq_eq_true rfl)) ?_
  refine G [4] ?_
  refine jcI ?_
  refine cK hC ?_
  refine jcq ?_
  refine cX (fun h => ?_) fun h => ?_
  ·exact jca
  have h7 : e = 0 := by simpa using h
  clear h
  rw [if_neg (by simp [h7])] at hst
  have hNum := numbers_s s.cells s.a.mine s.b.mine s.c.mine s.h.mine rfl rfl rfl rfl
  have hcase : i = 0 ∨ ∃ j, i = j + 1 := by
   exact jbz
  rcases hcase with hi0 | ⟨j0, hij⟩
  ·rw [if_neg (by omega)] at hst
   refine G [5, 3, 12, 9, 0] ?_
   refine cX (fun h => ?_) fun h => ?_
   ·cases h
   exact jal
  ·obtain ⟨hpv, hple⟩ := hprev j0 hij
   rw [show i - 1 = j0 by omega] at hst
   have hpk : (L.drop (j0 * 41))[0]? = some (.v (.string (stG l j0).key)) := by
    have := congrArg (fun x => x[0]?) hpv
    rw [List.getElem?_take] at this
    simpa [ST.pv] using this
   generalize (stG l j0).key = pk at *
   have hlk : leK s.key pk = (sLt s.key pk || decide (s.key = pk)) := rfl
   generalize leK s.key pk = lk at *
   refine G [5, 4, 6] ?_
   refine zaa (zaM U26 sz56 (by omega) (by omega) (show _ = L.drop (j0 * 41) by congr 2; omega)) rfl rfl ?_
   refine jdz (zam fi56_0 rfl) ?_
   refine jdz (zaG U9 rfl hpk) ?_
   refine jdz a_sleq ?_
   refine G [2, 9, 0] ?_
   refine cX (fun h => ?_) fun h => ?_
   ·have h8 : lk = true := by rw [hlk]; exact h
    exact jbe
   have h8 : ¬ lk = true := by rw [hlk]; simpa using h
   rw [if_neg (by intro hh; exact h8 hh.2)] at hst
   exact jal
 have hge : i = l.length := by simp at h; omega
 exact jb0
end Go.Proofs.YtbjdjclkbjpebaaGreatDoor
