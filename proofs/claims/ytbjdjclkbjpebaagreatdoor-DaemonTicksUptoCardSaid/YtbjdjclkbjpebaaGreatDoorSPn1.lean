/- hex.Text and its reference, over data. -/
import Derived.Test.YtbjdjclkbjpebaaGreatDoorSBd1
import Derived.Test.YtbjdjclkbjpebaaGreatDoorSHx
import Derived.Test.YtbjdjclkbjpebaaGreatDoorSUtZ
import Derived.Test.YtbjdjclkbjpebaaGreatDoorSMa4
import Derived.Test.YtbjdjclkbjpebaaGreatDoorSHs
import Derived.Test.YtbjdjclkbjpebaaGreatDoorSMq
import Derived.Test.YtbjdjclkbjpebaaGreatDoorSSq
namespace Go.Proofs.YtbjdjclkbjpebaaGreatDoor
open Tryz
open Go.RowKit Go.Sort
set_option maxHeartbeats 16000000
set_option linter.unusedVariables false
set_option linter.unusedSimpArgs false
set_option maxRecDepth 100000
def dg (d : Int) : Int := if 9 < d then 87 + d else 48 + d
theorem dg_B {d : Int} (h0 : 0 ≤ d) (h1 : d < 16) : 0 ≤ dg d ∧ dg d < 256 := by unfold dg; split <;> omega
theorem dg_fin : ∀ d : _root_.Fin 16, (DIG.data.toList[d.val]?).map (fun b : UInt8 => ((b.toNat : Nat) : Int)) = some (dg d.val) := by decide
theorem dg_at {d : Int} (h0 : 0 ≤ d) (h1 : d < 16) : (DIG.data.toList[d.toNat]?).map (fun b : UInt8 => ((b.toNat : Nat) : Int)) = some (dg d) := by
 have h := dg_fin ⟨d.toNat, by omega⟩
 simp only at h
 rw [h, Int.toNat_of_nonneg h0]
def hexT (xs : List Int) : List Int := xs.flatMap fun x => [dg (x / 16), dg (x % 16)]
def hexS (xs : List Int) : ByteArray := strOfNums (hexT xs)
theorem hexT_next {xs : List Int} {k : Nat} {x : Int} (h : xs[k]? = some x) : hexT (xs.take (k + 1)) = hexT (xs.take k) ++ [dg (x / 16)] ++ [dg (x % 16)] := by
 obtain ⟨hk, e⟩ := List.getElem?_eq_some_iff.1 h
 rw [List.take_succ_eq_append_getElem hk, hexT, List.flatMap_append, e]
 simp [hexT]
theorem hexT_len (xs : List Int) : (hexT xs).length = 2 * xs.length := by
 induction xs with
 | nil => rfl
 | cons x xs ih => simp only [hexT, List.flatMap_cons, List.length_append, List.length_cons, List.length_nil] at ih ⊢; omega
theorem hexT_B {xs : List Int} (h : isB xs) : isB (hexT xs) := by
 intro y hy
 simp only [hexT, List.mem_flatMap] at hy
 obtain ⟨x, hx, hy⟩ := hy
 have := h x hx
 simp only [List.mem_cons, List.not_mem_nil, or_false] at hy
 rcases hy with rfl | rfl
 ·exact dg_B (by omega) (by omega)
 ·exact dg_B (by omega) (by omega)
def bdK (xs : List Int) : Nat → List (Nat × AObj)
 | 0 => [(3, zhw)]
 | k + 1 => [(3, bdAt 3 4), (4, .row 5 1 (2 * (k + 1)) (bs (hexT (xs.take (k + 1)))))]
theorem bdK_zero (xs : List Int) : bdK xs 0 = [(3, zhw)] := rfl
theorem zgo (xs : List Int) (k : Nat) : bdK xs (k + 1) = [(3, bdAt 3 4), (4, .row 5 1 (2 * (k + 1)) (bs (hexT (xs.take (k + 1)))))] := rfl
theorem httext_s (n : Nat) (xs : List Int) (hx : xs.length = n) (hB : isB xs) (hn : n ≤ 1048576) : Fn prog 104 [.p (.sl n 1 (bs xs))] (.p (.v (.string (hexS xs)))) [] := by
 refine fnI fun w0 A => ?_
 refine G [16] ?_
 refine zag (fun m st => ∃ k : Nat, m + k = n ∧ st = St.of [(3, .ref 3 0), (6, .p (.sl n 1 (bs xs))), (7, .p (.v (.int .i64 n))), (8, .p (.v (.int .i64 k)))] (bdK xs k)) n ?_ ?_
 ·exact jaO
 rintro m st ⟨k, hk, rfl⟩
 by_cases hlt : k < n
 ·obtain ⟨x, hxk⟩ : ∃ x, xs[k]? = some x := ⟨xs[k]'(by omega), List.getElem?_eq_getElem (by omega)⟩
  have hxB := hB x (List.mem_of_getElem? hxk)
  have g1 := ziz hxk
  have d1 : (DIG.data.toList[(x / 16).toNat]?).map (fun b : UInt8 => ((b.toNat : Nat) : Int)) = some (dg (x / 16)) := dg_at (by omega) (by omega)
  have d2 : (DIG.data.toList[(x % 16).toNat]?).map (fun b : UInt8 => ((b.toNat : Nat) : Int)) = some (dg (x % 16)) := dg_at (by omega) (by omega)
  have hnext := hexT_next hxk
  generalize dg (x / 16) = y1 at d1 hnext
  generalize dg (x % 16) = y2 at d2 hnext
  cases k with
  | zero =>
   rw [bdK_zero]
   rw [List.take_zero, show hexT [] = [] from rfl, List.nil_append] at hnext
   have w1 : FnO prog 143 [.ref 3 0, .p (.v (.int .u8 y1))] [(3, .live zhw), (15013, .un), (15014, .un)] [(3, .live (bdAt 3 15014)), (15013, .dead), (15014, .live (.row 5 1 1 (bs [y1])))] (.p (.v .nilIface)) :=
    (writeByte_new y1).renamed [(1, 3), (13, 15013), (14, 15014)] rfl
   have w2 : FnO prog 143 [.ref 3 0, .p (.v (.int .u8 y2))] [(3, .live (bdAt 3 15014)), (15014, .live (.row 5 1 1 (bs [y1]))), (19013, .un), (19014, .un)] [(3, .live (bdAt 3 19014)), (15014, .dead), (19013, .dead), (19014, .live (.row 5 1 (1 + 1) (bs ([y1] ++ [y2]))))] (.p (.v .nilIface)) :=
    (zdv 1 [y1] y2 (by omega)).renamed [(1, 3), (2, 15014), (13, 19013), (14, 19014)] rfl
   refine G [5] ?_
   refine cX (fun h => ?_) fun h => ?_
   ·refine G [5] ?_
    refine zaa (zaM U62 sz5 (by omega) (by omega) (by rw [Int.toNat_natCast, Nat.mul_one])) rfl rfl ?_
    refine zaa (zaG U5 rfl (by rw [List.getElem?_drop]; exact g1)) rfl rfl ?_
    refine G [5] ?_
    refine zaa (zfw (by omega) (by first | exact IntWalk.u8_quo _ _ (by omega) | rfl)) rfl rfl ?_
    refine zaa (zbE U9 (by omega) (by exact d1)) rfl rfl ?_
    refine zbe (w1) rfl rfl func143 rfl rfl (by repeat (first | exact trivial | refine ⟨rfl, ?_⟩)) rfl ?_
    refine G [3] ?_
    refine zaa (a_rem (by omega) (by first | exact IntWalk.rem_in _ _ (by omega) | rfl)) rfl rfl ?_
    refine zaa (zbE U9 (by omega) (by exact d2)) rfl rfl ?_
    refine zbe (w2) rfl rfl func143 rfl rfl (by repeat (first | exact trivial | refine ⟨rfl, ?_⟩)) rfl ?_
    refine G [5, 9, 0] ?_
    refine ⟨m - 1, by omega, _, zah (fun o => bif Nat.beq o 4 then 19014 else o) _ _ ?_ ?_ rfl, 0 + 1, by omega, rfl⟩
    ·(repeat (first | exact trivial | (refine ⟨⟨(by first | rfl | (simp; done) | (simp; omega)), rfl⟩, ?_⟩)))
    ·rw [zgo, hnext]
     exact ⟨⟨rfl, rfl⟩, ⟨rfl, rfl⟩, trivial⟩
   ·simp at h; omega
  | succ k =>
   rw [zgo]
   have w1 : FnO prog 143 [.ref 3 0, .p (.v (.int .u8 y1))] [(3, .live (bdAt 3 4)), (4, .live (.row 5 1 (2 * (k + 1)) (bs (hexT (xs.take (k + 1)))))), (15013, .un), (15014, .un)] [(3, .live (bdAt 3 15014)), (4, .dead), (15013, .dead), (15014, .live (.row 5 1 (2 * (k + 1) + 1) (bs (hexT (xs.take (k + 1)) ++ [y1]))))] (.p (.v .nilIface)) :=
    (zdv (2 * (k + 1)) _ y1 (by omega)).renamed [(1, 3), (2, 4), (13, 15013), (14, 15014)] rfl
   have w2 : FnO prog 143 [.ref 3 0, .p (.v (.int .u8 y2))] [(3, .live (bdAt 3 15014)), (15014, .live (.row 5 1 (2 * (k + 1) + 1) (bs (hexT (xs.take (k + 1)) ++ [y1])))), (19013, .un), (19014, .un)] [(3, .live (bdAt 3 19014)), (15014, .dead), (19013, .dead), (19014, .live (.row 5 1 (2 * (k + 1) + 1 + 1) (bs (hexT (xs.take (k + 1)) ++ [y1] ++ [y2]))))] (.p (.v .nilIface)) :=
    (zdv (2 * (k + 1) + 1) _ y2 (by omega)).renamed [(1, 3), (2, 15014), (13, 19013), (14, 19014)] rfl
   generalize hexT (xs.take (k + 1)) = T at w1 w2 hnext ⊢
   refine G [5] ?_
   refine cX (fun h => ?_) fun h => ?_
   ·refine G [5] ?_
    refine zaa (zaM U62 sz5 (by omega) (by omega) (by rw [Int.toNat_natCast, Nat.mul_one])) rfl rfl ?_
    refine zaa (zaG U5 rfl (by rw [List.getElem?_drop]; exact g1)) rfl rfl ?_
    refine G [5] ?_
    refine zaa (zfw (by omega) (by first | exact IntWalk.u8_quo _ _ (by omega) | rfl)) rfl rfl ?_
    refine zaa (zbE U9 (by omega) (by exact d1)) rfl rfl ?_
    refine zbe (w1) rfl rfl func143 rfl rfl (by repeat (first | exact trivial | refine ⟨rfl, ?_⟩)) rfl ?_
    refine G [3] ?_
    refine zaa (a_rem (by omega) (by first | exact IntWalk.rem_in _ _ (by omega) | rfl)) rfl rfl ?_
    refine zaa (zbE U9 (by omega) (by exact d2)) rfl rfl ?_
    refine zbe (w2) rfl rfl func143 rfl rfl (by repeat (first | exact trivial | refine ⟨rfl, ?_⟩)) rfl ?_
    refine G [5, 9, 0] ?_
    refine ⟨m - 1, by omega, _, zah (fun o => bif Nat.beq o 4 then 19014 else o) _ _ ?_ ?_ rfl, k + 1 + 1, by omega, rfl⟩
    ·(repeat (first | exact trivial | (refine ⟨⟨(by first | rfl | (simp; done) | (simp; omega)), rfl⟩, ?_⟩)))
    ·rw [zgo, hnext]
     exact ⟨⟨rfl, rfl⟩, ⟨rfl, rfl⟩, trivial⟩
   ·simp at h; omega
 have hge : k = n := by omega
 have hT := hexT_B hB
 unfold hexS
 subst hge
 cases k with
 | zero =>
  rw [bdK_zero]
  obtain rfl : xs = [] := List.eq_nil_of_length_eq_zero hx
  have w3 : FnO prog 128 [.ref 3 0] [(3, .live zhw)] [(3, .live zhw)] (.p (.v (.string ⟨#[]⟩))) := string_new.renamed [(1, 3)] rfl
  refine G [5] ?_
  refine cX (fun h => ?_) fun h => ?_
  ·simp at h
  ·refine G [3] ?_
   refine zbe (w3) rfl rfl func128 rfl rfl (by repeat (first | exact trivial | refine ⟨rfl, ?_⟩)) rfl ?_
   refine G [3, 9, 0] ?_
   exact yE
 | succ k =>
  rw [zgo]
  rw [← hx, List.take_length, hx]
  have w3 : FnO prog 128 [.ref 3 0] [(3, .live (bdAt 3 4)), (4, .live (.row 5 1 (2 * (k + 1)) (bs (hexT xs))))] [(3, .live (bdAt 3 4)), (4, .dead)] (.p (.v (.string (strOfNums (hexT xs))))) := (string_used (2 * (k + 1)) _ (by omega) hT).renamed [(1, 3), (2, 4)] rfl
  refine G [5] ?_
  refine cX (fun h => ?_) fun h => ?_
  ·simp at h
  ·refine G [3] ?_
   refine zbe (w3) rfl rfl func128 rfl rfl (by repeat (first | exact trivial | refine ⟨rfl, ?_⟩)) rfl ?_
   refine G [3, 9, 0] ?_
   exact yE
def zdL {α : Type} (T z : List α) (i : Nat) : List α := T.take i ++ z.drop i
theorem fillK_len {α : Type} {T z : List α} {N i : Nat} (hT : T.length = N) (hz : z.length = N) (hi : i ≤ N) : (zdL T z i).length = N := by
 simp only [zdL, List.length_append, List.length_take, List.length_drop]; omega
theorem fillK_step {α : Type} {T z : List α} {N i : Nat} {t : α} (hT : T.length = N) (hz : z.length = N) (h : T[i]? = some t) : (zdL T z i).set i t = zdL T z (i + 1) := by
 obtain ⟨hi, e⟩ := List.getElem?_eq_some_iff.1 h
 have h2 : (T.take i).length = i := by rw [List.length_take]; omega
 rw [zdL, zdL, List.set_append_right _ _ (by omega), h2, Nat.sub_self, List.drop_eq_getElem_cons (by omega), List.set_cons_zero, List.take_succ_eq_append_getElem hi, e, List.append_assoc]
 rfl
theorem fillK_full {α : Type} {T z : List α} {N : Nat} (hT : T.length = N) (hz : z.length = N) : zdL T z N = T := by
 rw [zdL, List.take_of_length_le (by omega), List.drop_of_length_le (by omega), List.append_nil]
theorem hexT_at {xs : List Int} {i : Nat} {x : Int} (h : xs[i / 2]? = some x) : (hexT xs)[i]? = some (if i % 2 = 1 then dg (x % 16) else dg (x / 16)) := by
 induction xs generalizing i with
 | nil => simp at h
 | cons y ys ih =>
  rw [hexT, List.flatMap_cons]
  match i with
  | 0 => simp at h; subst h; rfl
  | 1 => simp at h; subst h; rfl
  | j + 2 =>
   have h2 : ys[j / 2]? = some x := by rw [show (j + 2) / 2 = j / 2 + 1 by omega] at h; simpa using h
   have := ih h2
   rw [show (j + 2) % 2 = j % 2 by omega]
   simpa [hexT] using this
theorem u8_and15 (x : Int) (h0 : 0 ≤ x) (h1 : x < 256) : bits .and .u8 x 15 = x % 16 := by
 have key : ∀ n : _root_.Fin 256, bits .and .u8 (n.val : Int) 15 = ((n.val : Nat) : Int) % 16 := by decide +kernel
 have := key ⟨x.toNat, by omega⟩
 simp only [Int.toNat_of_nonneg h0] at this
 exact this
theorem zgK (n : Nat) (xs : List Int) (hx : xs.length = n) (hB : isB xs) (hn : n ≤ 1048576) : Fn prog 119 [.p (.sl n 1 (bs xs))] (.p (.v (.string (hexS xs)))) [] := by
 refine zb7 func119 rfl (Nat.le_of_ble_eq_true rfl) fun w0 A => ?_
 refine zad (tx (jcA ?_))
 refine zac (zad (tx (jco ?_)))
 refine jdz (zdu U62) ?_
 refine zaa (a_mul (by first | exact IntWalk.i64_in _ (by omega) | rfl)) rfl rfl ?_
 refine zab (zhm 9 U62 eo5 zr5 rfl (by omega) (by omega) (by omega) (by simp only [maxLen]; omega) (show _ = 2 * n by omega)) rfl rfl ⟨rfl, trivial⟩ ?_
 refine jcL ?_
 refine zac (zad (zad (tx (jcw ?_))))
 refine jdA (a_lenR U62) ?_
 refine jco ?_
 refine zac (zao ?_)
 have hTl := hexT_len xs
 rw [hx] at hTl
 obtain ⟨z, hz, hz0⟩ : ∃ z : List Int, z.length = 2 * n ∧ bs (zdL (hexT xs) z 0) = List.replicate (2 * n) (PV.v (.int .u8 0)) := ⟨List.replicate (2 * n) 0, by simp, by simp [zdL, bs]⟩
 refine zag (fun m st => ∃ i : Nat, m + i = 2 * n ∧ st = St.of [(0, .p (.sl n 1 (bs xs))), (3, .row 3), (11, .p (.v (.int .i64 (2 * n : Nat)))), (12, .p (.v (.int .i64 i)))] [(3, .row 5 1 (2 * n) (bs (zdL (hexT xs) z i)))]) (2 * n) ?_ ?_
 ·refine ⟨_, zah (fun _ => 9) _ _ ?_ ?_ rfl, 0, by omega, rfl⟩
  ·exact jak
  ·rw [hz0]
   exact ⟨⟨rfl, rfl⟩, trivial⟩
 rintro m st ⟨i, hi, rfl⟩
 refine zad (tx (jcY ?_))
 refine zac (zad (zaJ _ rfl (fun h => ?_) (fun h => ?_)))
 ·have hlt : i < 2 * n := by simp at h; omega
  clear h
  obtain ⟨x, hxk⟩ : ∃ x, xs[i / 2]? = some x := ⟨xs[i / 2]'(by omega), List.getElem?_eq_getElem (by omega)⟩
  have hxB := hB x (List.mem_of_getElem? hxk)
  have g1 := ziz hxk
  have hT := hexT_at hxk
  have hlen : (bs (zdL (hexT xs) z i)).length = 2 * n := by rw [bs_length]; exact fillK_len hTl hz (by omega)
  have hlen' : i < (zdL (hexT xs) z i).length := by rw [bs_length] at hlen; omega
  have hq : ((i : Int) / 2) = ((i / 2 : Nat) : Int) := by omega
  obtain ⟨v, hv, hv0, hv1⟩ : ∃ v : Int, v = (if i % 2 = 1 then x % 16 else x / 16) ∧ 0 ≤ v ∧ v < 16 := ⟨_, rfl, by split <;> omega, by split <;> omega⟩
  have hT2 : (hexT xs)[i]? = some (dg v) := by rw [hT, hv]; split <;> rfl
  have hstep := fillK_step hTl hz hT2
  generalize hexT xs = T at *
  refine jcW ?_
  refine tx (jco ?_)
  refine jcA ?_
  refine zac (zad (tx (jco ?_)))
  refine jco ?_
  refine jcy ?_
  refine zaa (zaM U62 sz5 (by omega) (by omega) (by rw [hq, Int.toNat_natCast, Nat.mul_one])) rfl rfl ?_
  refine zaa (zaG U5 rfl (by rw [List.getElem?_drop]; exact g1)) rfl rfl ?_
  refine zaa (zce (by omega) (show _ = x / 16 from Int.fdiv_eq_ediv_of_nonneg _ (by decide))) rfl rfl ?_
  refine jcA ?_
  refine zac (zad (zad (tx (jco ?_))))
  refine zaa (zaU (by simp) (zeZ _ (by omega))) rfl rfl ?_
  refine jdz a_eql ?_
  refine zac (zaz (awp_join (St.of [(0, .p (.sl n 1 (bs xs))), (3, .row 3), (4, .p (.v (.int .i64 i))), (5, .p (.v (.int .u8 v))), (11, .p (.v (.int .i64 (2 * n : Nat)))), (12, .p (.v (.int .i64 i)))] [(3, .row 5 1 (2 * n) (bs (zdL T z i)))]) ?_ ?_))
  ·refine zaJ _ rfl (fun h => ?_) (fun h => ?_)
   ·have h1 : i % 2 = 1 := by simp at h; omega
    rw [if_pos h1] at hv
    skip
    refine tx (jco ?_)
    refine jco ?_
    refine jcy ?_
    refine zaa (zaM U62 sz5 (by omega) (by omega) (by rw [hq, Int.toNat_natCast, Nat.mul_one])) rfl rfl ?_
    refine zaa (zaG U5 rfl (by rw [List.getElem?_drop]; exact g1)) rfl rfl ?_
    refine zaa (zaU (by simp) (u8_and15 x hxB.1 hxB.2)) rfl rfl ?_
    refine jcA ?_
    refine zac (⟨rfl, zah id _ _ ?_ ⟨⟨rfl, rfl⟩, trivial⟩ rfl⟩)
    rw [hv]
    (repeat (first | exact trivial | (refine ⟨⟨(by first | rfl | (simp; done) | (simp; omega)), rfl⟩, ?_⟩)))
   ·have h1 : ¬ i % 2 = 1 := by simp at h; omega
    rw [if_neg h1] at hv
    refine zap (⟨rfl, zah id _ _ ?_ ⟨⟨rfl, rfl⟩, trivial⟩ rfl⟩)
    rw [hv]
    exact jak
  clear hv
  have hs1 : setR (bs (zdL T z i)) i [.v (.int .u8 (48 + v))] = bs ((zdL T z i).set i (48 + v)) := zhd hlen'
  refine zad (tx (jcw ?_))
  refine jco ?_
  refine jco ?_
  refine zaa (za3 (by first | exact IntWalk.u8_in _ (by omega) | rfl)) rfl rfl ?_
  refine jdx ?_
  refine zab (zbB (Y := .p _) sz5 rfl rfl (by first | rfl | omega) (by first | omega | (simp; done) | (simp; omega)) hs1) rfl rfl ⟨rfl, trivial⟩ ?_
  refine zac (zad (tx (jco ?_)))
  refine jdz a_gtr ?_
  refine zac (zaz (awp_joinK (St.of [(0, .p (.sl n 1 (bs xs))), (3, .row 3), (11, .p (.v (.int .i64 (2 * n : Nat)))), (12, .p (.v (.int .i64 i)))] [(3, .row 5 1 (2 * n) (bs (zdL T z (i + 1))))]) ?_ (fun st' r => za8 r ?_)))
  ·refine zaJ _ rfl (fun h => ?_) (fun h => ?_)
   ·have h1 : 9 < v := by simpa using h
    have hdv : dg v = 97 + v - 10 := by unfold dg; rw [if_pos h1]; omega
    rw [hdv] at hstep
    have hs2 : setR (bs ((zdL T z i).set i (48 + v))) i [.v (.int .u8 (97 + v - 10))] = bs (zdL T z (i + 1)) := by
     rw [zhd (by rw [List.length_set]; exact hlen'), List.set_set, hstep]
    have hlen2 : (bs ((zdL T z i).set i (48 + v))).length = 2 * n := by rw [bs_length, List.length_set, ← bs_length]; exact hlen
    skip
    refine tx (jcw ?_)
    refine jco ?_
    refine jco ?_
    refine zaa (za3 (by first | exact IntWalk.u8_in _ (by omega) | rfl)) rfl rfl ?_
    refine zaa (ze5 (by first | exact IntWalk.u8_in _ (by omega) | rfl)) rfl rfl ?_
    refine jdx ?_
    refine zab (zbB (Y := .p _) sz5 rfl rfl (by first | rfl | omega) (by first | omega | (simp; done) | (simp; omega)) hs2) rfl rfl ⟨rfl, trivial⟩ ?_
    refine zac ?_
    exact jbH
   ·have h1 : ¬ 9 < v := by simp at h; omega
    have hdv : dg v = 48 + v := by unfold dg; rw [if_neg h1]
    rw [hdv] at hstep
    rw [← hstep]
    refine zap ?_
    exact jbH
  skip
  refine tx (jcu ?_)
  refine jco ?_
  refine zac (zaz (⟨m - 1, by omega, _, zah id _ _ ?_ ?_ rfl, i + 1, by omega, rfl⟩))
  ·exact jak
  ·exact ⟨⟨rfl, rfl⟩, trivial⟩
 have hge : i = 2 * n := by simp at h; omega
 clear h
 subst hge
 rw [fillK_full hTl hz]
 unfold hexS
 generalize hexT xs = T
 refine zaN (zad (tx (jcw ?_)))
 refine jdq ?_
 refine jcA ?_
 refine zac (zaE ?_)
 exact jbW
end Go.Proofs.YtbjdjclkbjpebaaGreatDoor
namespace Go.Proofs.YtbjdjclkbjpebaaGreatDoor
open Go.RowKit Go.Sort
set_option maxHeartbeats 16000000
set_option linter.unusedVariables false
set_option linter.unusedSimpArgs false
set_option maxRecDepth 100000
def sRes (e : Int) (t : ByteArray) : AV := .tup [.p (.v (.string (if e = 0 then t else ⟨#[]⟩))), .p (.v (.int .i64 e))]
theorem zcm {e e' : Int} (h : e = e') (he : e' ≠ 0) (t : ByteArray) : sRes e t = .tup [.p (.v (.string ⟨#[]⟩)), .p (.v (.int .i64 e'))] := by subst h; unfold sRes; rw [if_neg he]
theorem zfj {e : Int} (h : e = 0) (t : ByteArray) : sRes e t = .tup [.p (.v (.string t)), .p (.v (.int .i64 0))] := by subst h; rfl
def KEY4 : List Int := [107, 101, 121, 32]
theorem KEY4_B : isB KEY4 := by intro x hx; simp [KEY4] at hx; omega
def derE (s l : ByteArray) : Int := macE s (4 + l.size)
def derS (s l : ByteArray) : ByteArray := hexS (macD s (KEY4 ++ sb l))
theorem zg4 (xs : List Int) : (hexS xs).size = 2 * xs.length := by rw [hexS, zaK, hexT_len]
theorem derive_s (s l : ByteArray) (hl : l.size ≤ 140737488351232) : Fn Tryz.prog 103 [.p (.v (.string s)), .p (.v (.string l))] (sRes (derE s l) (derS s l)) [] := by
 refine fnI fun w0 A => ?_
 obtain ⟨u, hu⟩ : ∃ u, (⟨#[107, 101, 121, 32]⟩ : ByteArray) ++ l = u := ⟨_, rfl⟩
 have s1 : u.size = 4 + l.size := by rw [← hu, zbY]; rfl
 have s3 : u.size ≤ maxLen := by rw [s1]; simp only [maxLen]; omega
 have s2 : sb u = KEY4 ++ sb l := by rw [← hu, zfi]; rfl
 have hT := tag_s s (4 + l.size) (KEY4 ++ sb l) (by rw [List.length_append, zc6]; rfl) (zbg KEY4_B (sb_isB l))
 have hD := zev s (KEY4 ++ sb l)
 have hB := macD_B s (KEY4 ++ sb l)
 unfold derE derS
 generalize macD s (KEY4 ++ sb l) = D at hT hD hB ⊢
 generalize KEY4 ++ sb l = Z at hT s2
 by_cases he : macE s (4 + l.size) ≠ 0
 ·exact jaG
 have he : macE s (4 + l.size) = 0 := by simpa using he
 obtain ⟨e1, e2⟩ := zaW he 32 D
 rw [zfj he]
 rw [e1, e2] at hT
 have hX := httext_s 32 D hD hB (by omega)
 (repeat (first | refine zad ?_ | refine zao ?_ | refine zap ?_ | refine zaE ?_ | refine zaN ?_ | refine zaz ?_ | refine zbG ?_ | refine zct ?_ | refine zbz ?_ | refine zcz ?_ | refine zcR ?_ | refine zdX rfl ?_))
 refine G [8] ?_
 refine jds ?_
 refine jdr ?_
 refine cV hT ?_
 refine G [10, 1, 1, 9, 0] ?_
 refine cX (fun h => ?_) fun h => ?_
 ·cases h
 refine G [4] ?_
 refine cV hX ?_
 refine G [4, 9, 0] ?_
 exact yE
theorem refDerive_s (s l : ByteArray) (hl : l.size ≤ 140737488351232) : Fn Tryz.prog 118 [.p (.v (.string s)), .p (.v (.string l))] (sRes (derE s l) (derS s l)) [] := by
 refine fnI fun w0 A => ?_
 obtain ⟨u, hu⟩ : ∃ u, (⟨#[107, 101, 121, 32]⟩ : ByteArray) ++ l = u := ⟨_, rfl⟩
 have s1 : u.size = 4 + l.size := by rw [← hu, zbY]; rfl
 have s3 : u.size ≤ maxLen := by rw [s1]; simp only [maxLen]; omega
 have s2 : sb u = KEY4 ++ sb l := by rw [← hu, zfi]; rfl
 have hT := refTag_s s (4 + l.size) (KEY4 ++ sb l) (by rw [List.length_append, zc6]; rfl) (zbg KEY4_B (sb_isB l))
 have hD := zev s (KEY4 ++ sb l)
 have hB := macD_B s (KEY4 ++ sb l)
 unfold derE derS
 generalize macD s (KEY4 ++ sb l) = D at hT hD hB ⊢
 generalize KEY4 ++ sb l = Z at hT s2
 by_cases he : macE s (4 + l.size) ≠ 0
 ·exact jaG
 have he : macE s (4 + l.size) = 0 := by simpa using he
 obtain ⟨e1, e2⟩ := zaW he 32 D
 rw [zfj he]
 rw [e1, e2] at hT
 have hX := zgK 32 D hD hB (by omega)
 (repeat (first | refine zad ?_ | refine zao ?_ | refine zap ?_ | refine zaE ?_ | refine zaN ?_ | refine zaz ?_ | refine zbG ?_ | refine zct ?_ | refine zbz ?_ | refine zcz ?_ | refine zcR ?_ | refine zdX rfl ?_))
 refine G [8] ?_
 refine jds ?_
 refine jdr ?_
 refine cV hT ?_
 refine G [10, 1, 1, 9, 0] ?_
 refine cX (fun h => ?_) fun h => ?_
 ·cases h
 refine G [4] ?_
 refine cV hX ?_
 refine G [4, 9, 0] ?_
 exact yE
end Go.Proofs.YtbjdjclkbjpebaaGreatDoor
namespace Go.Proofs.YtbjdjclkbjpebaaGreatDoor
open Tryz
open Go.RowKit Go.Sort
set_option maxHeartbeats 16000000
set_option linter.unusedVariables false
set_option linter.unusedSimpArgs false
set_option maxRecDepth 100000
def zf8 : List Int := [109, 97, 114, 107]
theorem MARK4_B : isB zf8 := by intro x hx; simp [zf8] at hx; omega
theorem zdd {s : ByteArray} (h : hexE s = 0) : zcp s = true := by
 unfold hexE at h
 split at h
 ·omega
 ·split at h
  ·split at h
   ·assumption
   ·omega
  ·omega
def markW (s : ByteArray) : List Int := shaD (zf8 ++ zaq s 32)
def zdj (s : ByteArray) : List Int := (markW s).take 8
theorem zgU (s : ByteArray) : (markW s).length = 32 := zfh _
theorem zdH (s : ByteArray) : (zdj s).length = 8 := by rw [zdj, List.length_take, zgU]; rfl
theorem zfK (s : ByteArray) : isB (zdj s) := fun x hx => zhB _ x (List.mem_of_mem_take hx)
def pRes (e : Int) (n : Nat) (xs : List Int) : AV := if e = 0 then .tup [.p (.sl n 1 (bs xs)), .p (.v (.int .i64 0))] else .tup [.p (.v (.slice none 0 0)), .p (.v (.int .i64 e))]
theorem zge {e e' : Int} (h : e = e') (he : e' ≠ 0) (n : Nat) (xs : List Int) : pRes e n xs = .tup [.p (.v (.slice none 0 0)), .p (.v (.int .i64 e'))] := by subst h; unfold pRes; rw [if_neg he]
theorem zfn {e : Int} (h : e = 0) (n : Nat) (xs : List Int) : pRes e n xs = .tup [.p (.sl n 1 (bs xs)), .p (.v (.int .i64 0))] := by subst h; rfl
theorem mark_s (s : ByteArray) : Fn prog 68 [.p (.v (.string s))] (bRes (keyE s) ) (bNew (keyE s) 8 (zdj s)) := by
 refine fnI fun w0 A => ?_
 refine G [9] ?_
 refine cV (zbf s) ?_
 refine jcq ?_
 refine cX (fun h => ?_) fun h => ?_
 ·have h2 : keyE s ≠ 0 := by simpa using h
  obtain ⟨e1, e2⟩ := zbZ (e' := keyE s) rfl h2 8 (zdj s)
  rw [e1, e2]
  refine jcq ?_
  exact yE
 have h2 : keyE s = 0 := by simpa using h
 obtain ⟨e1, e2⟩ := zaW h2 8 (zdj s)
 rw [e1, e2]
 obtain ⟨hsz, hE⟩ := zb6 h2
 have hH := zci s
 obtain ⟨e1, e2⟩ := za1 hE
 rw [e1, e2, hsz] at hH
 clear e1 e2
 have hkl : (zaq s 32).length = 32 := zaP s 32
 have hkB := zdI (k := 32) (zdd hE) (by omega)
 have hS := sum_s 36 (zf8 ++ zaq s 32) (by rw [List.length_append, hkl]; rfl) (zbg MARK4_B hkB)
 obtain ⟨e1, e2⟩ := zaW (show padE 36 = 0 from rfl) 32 (shaD (zf8 ++ zaq s 32))
 rw [e1, e2, ← zbp] at hS
 clear e1 e2
 change Fn prog 102 _ _ [(0, .row 5 1 32 (bs (markW s)))] at hS
 change Fn prog 88 _ _ [(0, .row 5 1 32 (bs (zaq s 32)))] at hH
 have hWl := zgU s
 unfold zdj
 generalize markW s = W at hS hWl ⊢
 generalize zaq s 32 = K at hH hS hkl
 have hWl2 : (bs W).length = 32 := by rw [bs_length]; exact hWl
 refine G [4] ?_
 refine cV hH ?_
 refine G [8] ?_
 refine zab (xs := ((bs zf8).map AV.p)) (zae (es := ((bs zf8).map AV.p)) (cs := (bs zf8)) 20 U62 sz5 zc5 (Nat.le_of_ble_eq_true rfl) (Nat.le_of_ble_eq_true rfl) rfl (by kernel_rfl) (by kernel_rfl) (by kernel_rfl) (Nat.le_of_ble_eq_true rfl)) (by first | rfl | kernel_rfl) rfl ⟨rfl, trivial⟩ ?_
 refine zab (a_convRow U62 U5 (by omega)) rfl rfl ⟨rfl, trivial⟩ ?_
 refine jcw ?_
 refine zab (zal 23 U62 eo5 (zax) (by simp only [maxLen]; omega) (by omega) rfl rfl) rfl rfl ⟨rfl, rfl, rfl, trivial⟩ ?_
 refine cV hS ?_
 refine G [10, 1, 1, 9, 0] ?_
 refine cX (fun h => ?_) fun h => ?_
 ·cases h
 refine G [4] ?_
 refine jc9 ?_
 refine zab (zbR 32 U62 eo5 (src_psl (by omega) rfl) (by simp only [maxLen]; omega) (by omega)) rfl rfl ⟨rfl, rfl, trivial⟩ ?_
 refine G [4] ?_
 rw [bs_hd]
 refine yT (fun _ => 32) ?_ ?_
 ·exact rfl
 ·exact ⟨⟨rfl, rfl⟩, trivial⟩
theorem view_psl2 {keep : Nat → Bool} {h : Nat → Slot} {o off n size n' size' : Nat} {e : TypeId} {cs ys : List PV} {y : PV} (hk : keep o = false) (ho : h o = .live (.row e size' n' cs)) (hl : off + n * size ≤ cs.length) (hy : (cs.drop off).take (n * size) = ys) :
  (oneA [.psl o off n size, .p y]).view keep h = .tup [.p (.sl n size ys), .p y] := by
 have : zcl (h o) off n size = .p (.sl n size ys) := by rw [ho]; simp only [zcl, hl, if_true, hy]
 simp only [oneA, AV.view, AV.viewL, hk, cond_false, this]
theorem refMark_s (s : ByteArray) : Fn prog 82 [.p (.v (.string s))] (pRes (keyE s) 8 (zdj s)) [] := by
 refine fnI fun w0 A => ?_
 refine G [9] ?_
 refine cV (za9 s) ?_
 refine jcq ?_
 refine cX (fun h => ?_) fun h => ?_
 ·have h2 : keyE s ≠ 0 := by simpa using h
  rw [zge (e' := keyE s) rfl h2]
  refine jcq ?_
  exact yE
 have h2 : keyE s = 0 := by simpa using h
 rw [zfn h2]
 obtain ⟨hsz, hE⟩ := zb6 h2
 have hH := zcw s
 obtain ⟨e1, e2⟩ := za1 hE
 rw [e1, e2, hsz] at hH
 clear e1 e2
 have hkl : (zaq s 32).length = 32 := zaP s 32
 have hkB := zdI (k := 32) (zdd hE) (by omega)
 have hS := zgc 36 (zf8 ++ zaq s 32) (by rw [List.length_append, hkl]; rfl) (zbg MARK4_B hkB)
 obtain ⟨e1, e2⟩ := zaW (show padE 36 = 0 from rfl) 32 (shaD (zf8 ++ zaq s 32))
 rw [e1, e2] at hS
 clear e1 e2
 change Fn prog 117 _ _ [(0, .row 5 1 32 (bs (markW s)))] at hS
 change Fn prog 81 _ _ [(0, .row 5 1 32 (bs (zaq s 32)))] at hH
 have hWl := zgU s
 unfold zdj
 generalize markW s = W at hS hWl ⊢
 generalize zaq s 32 = K at hH hS hkl hkB
 have hWl2 : (bs W).length = 32 := by rw [bs_length]; exact hWl
 obtain ⟨u, hu⟩ : ∃ u, (⟨#[109, 97, 114, 107]⟩ : ByteArray) ++ strOfNums K = u := ⟨_, rfl⟩
 have s1 : u.size = 36 := by rw [← hu, zbY, zaK, hkl]; rfl
 have s2 : sb u = zf8 ++ K := by rw [← hu, zfi, zcv hkB]; rfl
 have s3 : u.size ≤ maxLen := by rw [s1]; simp [maxLen]
 generalize zf8 ++ K = Z at hS s2
 refine G [4] ?_
 refine cV hH ?_
 refine G [9] ?_
 refine jdq ?_
 refine zaa (zcU (by rw [zaK, hkl]; decide) hu) rfl rfl ?_
 refine zab (zf7 23 U9 U62 U5 (by first | omega | (simp only [maxLen]; omega)) s1 s2) rfl rfl ⟨rfl, trivial⟩ ?_
 refine cV hS ?_
 refine G [9] ?_
 refine jc9 ?_
 refine G [4] ?_
 rw [bs_hd]
 refine yT (fun o => o) ?_ ?_
 ·exact view_psl2 rfl rfl (by omega) rfl
 ·exact trivial
end Go.Proofs.YtbjdjclkbjpebaaGreatDoor
