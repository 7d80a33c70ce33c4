/- Tries, the references: owned nets, growing. -/
import Derived.Test.YtbjdjclkbjpebaaGreatDoorSTw5
import Derived.Test.YtbjdjclkbjpebaaGreatDoorSTrY
import Derived.Test.YtbjdjclkbjpebaaGreatDoorSEq2
import Derived.Test.YtbjdjclkbjpebaaGreatDoorSEq3
import Derived.Test.YtbjdjclkbjpebaaGreatDoorSTw3
namespace Go.Proofs.YtbjdjclkbjpebaaGreatDoor
open Tryz
open Go.RowKit Go.Sort
set_option maxHeartbeats 16000000
set_option linter.unusedVariables false
set_option linter.unusedSimpArgs false
set_option maxRecDepth 100000
theorem krJoin_s (p q : Key) (hp : p.length ≤ 32) (hq : q.length ≤ 32) : Fn prog 115 [.agg (keyA p), .agg (keyA q)] (.tup [.agg (keyA (lcpL p q)), .p (.v (.int .i64 0))]) [] := by
 have h := refJoin_g (zaA p) p.length (zaA q) q.length (zbq p hp).1 (zbq p hp).2 (zbq q hq).1 (zbq q hq).2
 exact jaT
theorem kbit_s (q : Key) (i : Nat) (hq : q.length ≤ 32) (hi : i < q.length) : Fn prog 116 [.p (.v (.int .u32 (zaA q))), .p (.v (.int .i64 (i : Nat)))] (.p (.v (.int .u32 (bitN q i : Nat)))) [] := by
 have h := zis (P := prog) (f := 116) [.int .u32 (zaA q), .int .i64 (i : Nat)] (r := .int .u32 (bitN q i : Nat)) rfl fun w => by
  have h1 := bit_c (zaA q) (i : Nat) w (by omega) (by omega) (zbq q hq).1 (zbq q hq).2
  have e : bitI (zaA q) (i : Nat) = ((bitN q i : Nat) : Int) := by
   unfold bitI bitN
   rw [bit_key q i hq hi]
   split <;> rfl
  rw [e] at h1
  exact h1.mono fun e w' hh => ⟨hh.1, hh.2.symm⟩
 exact h
theorem one_at {M : List (Key × Own)} {i : Nat} {x : Key × Own} (h : M[i]? = some x) : ((nds (M.map one)).drop (i * 4)).take 4 = [.v (.int .u32 (zaA x.1)), .v (.int .i64 x.1.length), .v (.string x.2), .v (.int .i64 1)] :=
 nds_at _ i (one x) (by rw [List.getElem?_map, h]; rfl)
theorem one_len (M : List (Key × Own)) : (nds (M.map one)).length = M.length * 4 := by rw [zeb, List.length_map]
theorem toND_len (n : Nat) (M : List (Key × Own)) : ((zbr n M).map toND).length ≤ 2 * M.length := by
 have := zdK n M
 rw [List.length_map]; omega
theorem grown_s : ∀ (n : Nat) (M : List (Key × Own)), M.length ≤ n → (∀ x ∈ M, x.1.length ≤ 32) → M.length ≤ 17179869184 →
  Fn prog 79 [.p (.sl M.length 4 (nds (M.map one)))] (.row 0) [(0, .row 90 4 ((zbr n M).map toND).length (nds ((zbr n M).map toND)))]
 | n, [], hn, hK, hz => by
  have e : (zbr n []).map toND = [] := by cases n <;> rfl
  rw [e]
  show Fn prog 79 [.p (.sl 0 4 [])] (.row 0) [(0, .row 90 4 0 [])]
  refine fnI fun w0 A => ?_
  refine G [9, 1, 1, 9, 0] ?_
  refine cX (fun h => ?_) fun h => ?_
  ·refine G [4, 9, 0] ?_
   refine za8 (zco 2 100 90 4 rfl rfl) ?_
   refine zaE (zbG (yT (fun _ => 100) ?_ ?_))
   ·exact rfl
   ·exact ⟨⟨rfl, rfl⟩, trivial⟩
  ·cases h
 | 0, _ :: _, hn, _, _ => by simp at hn
 | n + 1, x0 :: l, hn, hK, hz => by
  have ih := grown_s n
  have hL := zdK n (zaS (zaT (x0 :: l)) false (x0 :: l))
  have hR := zdK n (zaS (zaT (x0 :: l)) true (x0 :: l))
  have hside := zh4 (zaT (x0 :: l)) (x0 :: l)
  have hlt := side_lt (M := x0 :: l) (by simp)
  have hjp := zdW (l := x0 :: l)
  have hx0 := hK x0 (by simp)
  have hgr : zbr (n + 1) (x0 :: l) = (zaT (x0 :: l), zdx (zaT (x0 :: l)) (x0 :: l), 1 + (zbr n (zaS (zaT (x0 :: l)) false (x0 :: l)) ++ zbr n (zaS (zaT (x0 :: l)) true (x0 :: l))).length) :: (zbr n (zaS (zaT (x0 :: l)) false (x0 :: l)) ++ zbr n (zaS (zaT (x0 :: l)) true (x0 :: l))) := rfl
  rw [hgr]
  clear hgr
  have hJ : zaT (x0 :: l) = zgY x0.1 ((x0 :: l).map Prod.fst) := rfl
  have hJl := joinAll_le (M := x0 :: l) hK
  obtain ⟨top, htop⟩ : ∃ top, top = zaT (x0 :: l) := ⟨_, rfl⟩
  rw [← htop] at hL hR hside hlt hjp hJ hJl ⊢
  have hfst : ∃ cs, nds ((x0 :: l).map one) = .v (.int .u32 (zaA x0.1)) :: .v (.int .i64 x0.1.length) :: cs := ⟨_, rfl⟩
  have hM0 : (x0 :: l)[0]? = some x0 := rfl
  have hpos : 0 < (x0 :: l).length := by simp
  generalize x0 :: l = M at *
  have hlen := one_len M
  obtain ⟨cs, hcs⟩ := hfst
  refine fnI fun w0 A => ?_
  refine G [11, 9, 0] ?_
  refine cX (fun h => ?_) fun h => ?_
  ·exfalso; simp at h; rw [h] at hpos; simp at hpos
  clear h
  have h0at : ((nds (M.map one)).drop (Int.toNat 0 * 4)).take 4 = [.v (.int .u32 (zaA x0.1)), .v (.int .i64 x0.1.length), .v (.string x0.2), .v (.int .i64 1)] := one_at hM0
  have h0d : (nds (M.map one)).drop (Int.toNat 0 * 4) = .v (.int .u32 (zaA x0.1)) :: .v (.int .i64 x0.1.length) :: cs := hcs
  generalize hB : nds (M.map one) = B at *
  refine G [4] ?_
  refine zaa (zaM U25 sz90 (by omega) (by omega) h0d) rfl rfl ?_
  refine jdz (zam fi90_0 rfl) ?_
  refine zaa (zaI U88 rfl sz88 (by simp) (rfl)) rfl rfl ?_
  refine G [11] ?_
  refine zhg (St.of [(0, .p (.sl M.length 4 B)), (3, .ref 3 0)] [(3, .box 88 (keyA top))]) ?_ ?_
  ·refine zag (fun m st => ∃ i : Nat, m + i = M.length ∧ st = St.of [(0, .p (.sl M.length 4 B)), (3, .ref 3 0), (19, .p (.sl M.length 4 B)), (20, .p (.v (.int .i64 M.length))), (21, .p (.v (.int .i64 i)))] [(3, .box 88 (keyA (zgY x0.1 ((M.take i).map Prod.fst))))]) M.length ?_ ?_
   ·refine ⟨_, zah id _ _ (by repeat (first | exact trivial | refine ⟨⟨rfl, rfl⟩, ?_⟩)) (by repeat (first | exact trivial | refine ⟨⟨rfl, rfl⟩, ?_⟩)) rfl, 0, by omega, rfl⟩
   rintro m st ⟨i, hi, rfl⟩
   refine G [5] ?_
   refine cX (fun h => ?_) fun h => ?_
   ·have hlt : i < M.length := by simp at h; omega
    clear h
    obtain ⟨x, hx⟩ : ∃ x, M[i]? = some x := ⟨M[i], List.getElem?_eq_getElem hlt⟩
    have hld := one_at hx
    rw [hB] at hld
    have hxl := hK x (List.mem_of_getElem? hx)
    have hnx := joinK_take (p := x0.1) hx
    have hJp := (zfL ((M.take i).map Prod.fst) x0.1).length_le
    have hC := krJoin_s (zgY x0.1 ((M.take i).map Prod.fst)) x.1 (by omega) hxl
    rw [← hnx] at hC
    generalize zgY x0.1 ((M.take i).map Prod.fst) = j at *
    refine G [6] ?_
    refine zaa (zaI U90 rfl sz90 (by rw [List.length_drop, hlen]; first | omega | (simp only [Int.toNat_natCast]; omega)) (hld)) rfl rfl ?_
    refine G [7] ?_
    refine cV hC ?_
    refine G [9, 9, 0] ?_
    refine ⟨m - 1, by omega, _, zah id _ _ (by repeat (first | exact trivial | refine ⟨⟨rfl, rfl⟩, ?_⟩)) (by repeat (first | exact trivial | refine ⟨⟨rfl, rfl⟩, ?_⟩)) rfl, i + 1, by omega, rfl⟩
   ·have hge : i = M.length := by simp at h; omega
    subst hge
    rw [List.take_length, ← hJ]
    refine zaN (zct (zct (zcR (zaz ?_))))
    exact zah id _ _ (by repeat (first | exact trivial | refine ⟨⟨rfl, rfl⟩, ?_⟩)) (by repeat (first | exact trivial | refine ⟨⟨rfl, rfl⟩, ?_⟩)) rfl
  refine G [12, 9, 0] ?_
  refine za8 (zco 7 7 90 4 rfl rfl) ?_
  refine za8 (zco 8 8 90 4 rfl rfl) ?_
  refine G [8] ?_
  refine zhg (St.of [(6, .ref 6 0), (7, .row 7), (8, .row 8)] [(6, .box 90 [.p (.v (.int .u32 (zaA top))), .p (.v (.int .i64 top.length)), .p (.v (.string (zdx top M))), .p (.v (.int .i64 0))]), (7, .row 90 4 (zaS top false M).length (nds ((zaS top false M).map one))), (8, .row 90 4 (zaS top true M).length (nds ((zaS top true M).map one)))]) ?_ ?_
  ·refine zag (fun m st => ∃ i : Nat, m + i = M.length ∧ st = St.of [(3, .ref 3 0), (6, .ref 6 0), (7, .row 7), (8, .row 8), (35, .p (.sl M.length 4 B)), (36, .p (.v (.int .i64 M.length))), (37, .p (.v (.int .i64 i)))] [(3, .box 88 (keyA top)), (6, .box 90 [.p (.v (.int .u32 (zaA top))), .p (.v (.int .i64 top.length)), .p (.v (.string (zdx top (M.take i)))), .p (.v (.int .i64 0))]), (7, .row 90 4 (zaS top false (M.take i)).length (nds ((zaS top false (M.take i)).map one))), (8, .row 90 4 (zaS top true (M.take i)).length (nds ((zaS top true (M.take i)).map one)))]) M.length ?_ ?_
   ·refine ⟨_, zah id _ _ (by repeat (first | exact trivial | refine ⟨⟨rfl, rfl⟩, ?_⟩)) (by repeat (first | exact trivial | refine ⟨⟨rfl, rfl⟩, ?_⟩)) rfl, 0, by omega, rfl⟩
   rintro m st ⟨i, hi, rfl⟩
   refine G [5] ?_
   refine cX (fun h => ?_) fun h => ?_
   ·have hlt' : i < M.length := by simp at h; omega
    clear h
    obtain ⟨x, hx⟩ : ∃ x, M[i]? = some x := ⟨M[i], List.getElem?_eq_getElem hlt'⟩
    have hld := one_at hx
    rw [hB] at hld
    have hxl := hK x (List.mem_of_getElem? hx)
    have hxp := hjp x (List.mem_of_getElem? hx)
    have n1 := rootOwn_take (top := top) hx
    have n2 := zhz (top := top) (b := false) hx
    have n3 := zhz (top := top) (b := true) hx
    have hEq := keyEq (p := x.1) (q := top) hxl
    have hsd := zh4 top (M.take i)
    have htk := take_len M i
    generalize zdx top (M.take i) = ow at *
    generalize zaS top false (M.take i) = sl at *
    generalize zaS top true (M.take i) = sr at *
    obtain ⟨xk, xo⟩ := x
    simp only at n1 n2 n3 hEq hxp hxl hld
    by_cases hxt : xk = top
    ·rw [if_pos hxt] at n1
     rw [if_neg (by simp [hxt]), List.append_nil] at n2 n3
     rw [hxt] at hEq hld
     subst n1
     subst n2
     subst n3
     refine G [6] ?_
     refine zaa (zaI U90 rfl sz90 (by rw [List.length_drop, hlen]; first | omega | (simp only [Int.toNat_natCast]; omega)) (hld)) rfl rfl ?_
     refine G [9] ?_
     refine zaa (a_steqT U88 rfl (by kernel_rfl) (by kernel_rfl)) rfl rfl ?_
     refine G [2, 9, 0] ?_
     refine cX (fun h => ?_) fun h => ?_
     ·skip
      refine G [10, 9, 0] ?_
      refine ⟨m - 1, by omega, _, zah id _ _ (by repeat (first | exact trivial | refine ⟨⟨rfl, rfl⟩, ?_⟩)) (by repeat (first | exact trivial | refine ⟨⟨rfl, rfl⟩, ?_⟩)) rfl, i + 1, by omega, rfl⟩
     ·cases h
    ·rw [if_neg hxt] at n1
     rw [decide_eq_false hxt] at hEq
     have hx1 := zcD hxp hxt
     have hxlt : top.length < xk.length := by have := hx1.length_le; simp at this; omega
     have hbit := kbit_s xk top.length hxl hxlt
     cases hb : zbK xk top.length with
     | false =>
      rw [if_pos ⟨hxt, hb⟩] at n2
      rw [if_neg (by simp [hb]), List.append_nil] at n3
      subst n1
      subst n3
      rw [show bitN xk top.length = 0 by unfold bitN; rw [hb]; rfl] at hbit
      have hl2 : sl.length + 1 = (zaS top false (M.take (i + 1))).length := by rw [n2]; simp
      have happ : nds (sl.map one) ++ [.v (.int .u32 (zaA xk)), .v (.int .i64 xk.length), .v (.string xo), .v (.int .i64 1)] = nds ((zaS top false (M.take (i + 1))).map one) := by rw [n2, List.map_append, zgR]; rfl
      refine G [6] ?_
      refine zaa (zaI U90 rfl sz90 (by rw [List.length_drop, hlen]; first | omega | (simp only [Int.toNat_natCast]; omega)) (hld)) rfl rfl ?_
      refine G [9] ?_
      refine zaa (ze6 U88 rfl rfl (by kernel_rfl) (by kernel_rfl) (by kernel_rfl)) rfl rfl ?_
      refine G [2, 9, 0] ?_
      refine cX (fun h => ?_) fun h => ?_
      ·have h' := h
       rw [hEq] at h'; cases h'
      refine G [7] ?_
      refine cV hbit ?_
      refine G [0, 1, 2, 9, 0] ?_
      refine cX (fun h => ?_) fun h => ?_
      ·skip
       refine G [3] ?_
       refine zab (xs := [.agg [.p (.v (.int .u32 (zaA xk))), .p (.v (.int .i64 xk.length)), .p (.v (.string xo)), .p (.v (.int .i64 1))]]) (zae (es := [.p (.v (.int .u32 (zaA xk))), .p (.v (.int .i64 xk.length)), .p (.v (.string xo)), .p (.v (.int .i64 1))]) (cs := [.v (.int .u32 (zaA xk)), .v (.int .i64 xk.length), .v (.string xo), .v (.int .i64 1)]) 63 U25 sz90 zc90 (Nat.le_of_ble_eq_true rfl) (Nat.le_of_ble_eq_true rfl) rfl (by kernel_rfl) (by kernel_rfl) (by kernel_rfl) (Nat.le_of_ble_eq_true rfl)) (by first | rfl | kernel_rfl) rfl ⟨rfl, trivial⟩ ?_
       refine zab (zal 64 U25 eo90 (zax) (by simp only [maxLen]; omega) (by omega) hl2 happ) rfl rfl ⟨rfl, rfl, rfl, trivial⟩ ?_
       refine G [6, 9, 0] ?_
       refine ⟨m - 1, by omega, _, zah (fun o => bif Nat.beq o 7 then 64 else o) _ _ (by repeat (first | exact trivial | refine ⟨⟨rfl, rfl⟩, ?_⟩)) (by repeat (first | exact trivial | refine ⟨⟨rfl, rfl⟩, ?_⟩)) rfl, i + 1, by omega, rfl⟩
      ·cases h
     | true =>
      rw [if_pos ⟨hxt, hb⟩] at n3
      rw [if_neg (by simp [hb]), List.append_nil] at n2
      subst n1
      subst n2
      rw [show bitN xk top.length = 1 by unfold bitN; rw [hb]; rfl] at hbit
      have hl2 : sr.length + 1 = (zaS top true (M.take (i + 1))).length := by rw [n3]; simp
      have happ : nds (sr.map one) ++ [.v (.int .u32 (zaA xk)), .v (.int .i64 xk.length), .v (.string xo), .v (.int .i64 1)] = nds ((zaS top true (M.take (i + 1))).map one) := by rw [n3, List.map_append, zgR]; rfl
      refine G [6] ?_
      refine zaa (zaI U90 rfl sz90 (by rw [List.length_drop, hlen]; first | omega | (simp only [Int.toNat_natCast]; omega)) (hld)) rfl rfl ?_
      refine G [9] ?_
      refine zaa (ze6 U88 rfl rfl (by kernel_rfl) (by kernel_rfl) (by kernel_rfl)) rfl rfl ?_
      refine G [2, 9, 0] ?_
      refine cX (fun h => ?_) fun h => ?_
      ·have h' := h
       rw [hEq] at h'; cases h'
      refine G [7] ?_
      refine cV hbit ?_
      refine G [3, 9, 0] ?_
      refine cX (fun h => ?_) fun h => ?_
      ·cases h
      ·skip
       refine G [3] ?_
       refine zab (xs := [.agg [.p (.v (.int .u32 (zaA xk))), .p (.v (.int .i64 xk.length)), .p (.v (.string xo)), .p (.v (.int .i64 1))]]) (zae (es := [.p (.v (.int .u32 (zaA xk))), .p (.v (.int .i64 xk.length)), .p (.v (.string xo)), .p (.v (.int .i64 1))]) (cs := [.v (.int .u32 (zaA xk)), .v (.int .i64 xk.length), .v (.string xo), .v (.int .i64 1)]) 43 U25 sz90 zc90 (Nat.le_of_ble_eq_true rfl) (Nat.le_of_ble_eq_true rfl) rfl (by kernel_rfl) (by kernel_rfl) (by kernel_rfl) (Nat.le_of_ble_eq_true rfl)) (by first | rfl | kernel_rfl) rfl ⟨rfl, trivial⟩ ?_
       refine zab (zal 44 U25 eo90 (zax) (by simp only [maxLen]; omega) (by omega) hl2 happ) rfl rfl ⟨rfl, rfl, rfl, trivial⟩ ?_
       refine G [6, 9, 0] ?_
       refine ⟨m - 1, by omega, _, zah (fun o => bif Nat.beq o 8 then 44 else o) _ _ (by repeat (first | exact trivial | refine ⟨⟨rfl, rfl⟩, ?_⟩)) (by repeat (first | exact trivial | refine ⟨⟨rfl, rfl⟩, ?_⟩)) rfl, i + 1, by omega, rfl⟩
   ·have hge : i = M.length := by simp at h; omega
    subst hge
    rw [List.take_length]
    refine zaN (zct (zct (zcR (zaz ?_))))
    exact zah id _ _ (by repeat (first | exact trivial | refine ⟨⟨rfl, rfl⟩, ?_⟩)) (by repeat (first | exact trivial | refine ⟨⟨rfl, rfl⟩, ?_⟩)) rfl
  have gl := ih (zaS top false M) (by have := hlt false; omega) (fun x hx => hK x (zgD.1 hx).1) (by omega)
  have gr := ih (zaS top true M) (by have := hlt true; omega) (fun x hx => hK x (zgD.1 hx).1) (by omega)
  have b1 := zec ((zaS top false M).map one)
  have b2 := zec ((zaS top true M).map one)
  have b3 := zec ((zbr n (zaS top false M)).map toND)
  have b4 := zec ((zbr n (zaS top true M)).map toND)
  have l1 := toND_len n (zaS top false M)
  have l2 := toND_len n (zaS top true M)
  rw [List.map_cons, List.map_append, zdp, zgR]
  have e1 : 1 + (zbr n (zaS top false M) ++ zbr n (zaS top true M)).length = 1 + (((zbr n (zaS top false M)).map toND).length + ((zbr n (zaS top true M)).map toND).length) := by simp
  rw [e1]
  simp only [List.length_cons, List.length_append] at *
  clear e1 hJ
  generalize (zbr n (zaS top false M)).map toND = L1 at *
  generalize (zbr n (zaS top true M)).map toND = L2 at *
  generalize zaS top false M = M1 at *
  generalize zaS top true M = M2 at *
  generalize zdx top M = ow at *
  refine G [3] ?_
  refine zaR (fun n => 67 + 1000 * n) (gl) rfl rfl func79 rfl rfl (by simp [AV.noSl, AV.noSlL, AObj.noSl, b3]) (by simp [AV.noSl, AV.noSlL, AObj.noSl, b3]) rfl rfl rfl (by first | exact trivial | exact ⟨rfl, trivial⟩ | exact ⟨rfl, rfl, trivial⟩ | exact ⟨rfl, rfl, rfl, rfl, rfl, trivial⟩) rfl rfl rfl ?_
  refine jdz (zav (r := .row _)) ?_
  refine zaR (fun n => 69 + 1000 * n) (gr) rfl rfl func79 rfl rfl (by simp [AV.noSl, AV.noSlL, AObj.noSl, b4]) (by simp [AV.noSl, AV.noSlL, AObj.noSl, b4]) rfl rfl rfl (by first | exact trivial | exact ⟨rfl, trivial⟩ | exact ⟨rfl, rfl, trivial⟩ | exact ⟨rfl, rfl, rfl, rfl, rfl, trivial⟩) rfl rfl rfl ?_
  refine zab (zal 70 U25 eo90 (zax) (by simp only [maxLen]; omega) (by omega) rfl rfl) rfl rfl ⟨rfl, rfl, rfl, trivial⟩ ?_
  refine G [2] ?_
  have hsz : IntKind.i64.wrap (1 + ((L1.length + L2.length : Nat) : Int)) = ((1 + (L1.length + L2.length) : Nat) : Int) := by rw [IntWalk.i64_in _ (by omega)]; omega
  have hk1 : 1 + (L1.length + L2.length) = L1.length + L2.length + 1 := by omega
  refine G [4] ?_
  refine jdz (za3 hsz) ?_
  refine G [6] ?_
  refine zab (xs := [.agg [.p (.v (.int .u32 (zaA top))), .p (.v (.int .i64 top.length)), .p (.v (.string ow)), .p (.v (.int .i64 ((1 + (L1.length + L2.length) : Nat) : Int)))]]) (zae (es := [.p (.v (.int .u32 (zaA top))), .p (.v (.int .i64 top.length)), .p (.v (.string ow)), .p (.v (.int .i64 ((1 + (L1.length + L2.length) : Nat) : Int)))]) (cs := [.v (.int .u32 (zaA top)), .v (.int .i64 top.length), .v (.string ow), .v (.int .i64 ((1 + (L1.length + L2.length) : Nat) : Int))]) 76 U25 sz90 zc90 (Nat.le_of_ble_eq_true rfl) (Nat.le_of_ble_eq_true rfl) rfl (by kernel_rfl) (by kernel_rfl) (by kernel_rfl) (Nat.le_of_ble_eq_true rfl)) (by first | rfl | kernel_rfl) rfl ⟨rfl, trivial⟩ ?_
  refine jdz (zav (r := .row _)) ?_
  refine zab (zal 78 U25 eo90 (zax) (by simp only [maxLen]; omega) (by omega) hk1 rfl) rfl rfl ⟨rfl, rfl, rfl, trivial⟩ ?_
  refine G [3, 9, 0] ?_
  refine yT (fun _ => 78) ?_ ?_
  ·exact rfl
  ·exact ⟨⟨rfl, rfl⟩, trivial⟩
theorem ND.of_ty {n : Nat} {ps : List PV} (h : Ty prog (n + 3) 90 ps) : ∃ x : ND, x.OK ∧ ps = x.pv := by
 obtain ⟨_, rfl, x0, _, rfl, t0, x1, _, rfl, t1, x2, _, rfl, t2, rfl⟩ := zbh (ts := [88, 9, 3]) (by kernel_rfl) h
 obtain ⟨_, rfl, y0, _, rfl, u0, y1, _, rfl, u1, rfl⟩ := zbh (ts := [86, 3]) (by kernel_rfl) t0
 obtain ⟨a1, rfl, w1⟩ := zbJ U9 t1
 obtain ⟨a2, rfl, w2⟩ := zbm U3 t2
 obtain ⟨b0, rfl, v0⟩ := zbm U86 u0
 obtain ⟨b1, rfl, v1⟩ := zbm U3 u1
 refine ⟨⟨b0, b1, a1, a2⟩, ?_, rfl⟩
 have := ze9 w2; have := ze9 v1; have := wf_u32 v0
 exact jck
theorem nodes_of_ty {n : Nat} {ps : List PV} (h : Ty prog (n + 4) 25 ps) : ∃ l : List ND, (∀ x ∈ l, x.OK) ∧ l.length * 40 ≤ 140737488351232 ∧ ps = [ndsV l] := by
 obtain ⟨L, rfl, hz, hL⟩ := zgu U25 (sz := 4) (by kernel_rfl) h
 have hb : prog.bytesOf 90 = 40 := by kernel_rfl
 rw [hb] at hz
 have : reachBytes ≤ 140737488351232 := Nat.le_of_ble_eq_true rfl
 have hex : ∃ l : List ND, (∀ x ∈ l, x.OK) ∧ L = l.map ND.pv := by
  clear hz this h
  induction L with
  | nil => exact ⟨[], by simp, rfl⟩
  | cons y L ih =>
   obtain ⟨l, h1, h2⟩ := ih (fun x hx => hL x (by simp [hx]))
   obtain ⟨x, hx, e⟩ := ND.of_ty (hL y (by simp)).1
   refine ⟨x :: l, fun z hz => ?_, by rw [h2, e]; rfl⟩
   rcases List.mem_cons.1 hz with rfl | hz
   ·exact hx
   ·exact h1 z hz
 obtain ⟨l, h1, rfl⟩ := hex
 rw [List.length_map] at hz
 refine ⟨l, h1, by omega, ?_⟩
 rw [List.length_map]
 unfold ndsV nds
 rw [List.flatMap_def]
structure DM where
 c : CF
 tree : List ND
 ps : List ST
 sg : SG
 gen : Int
 now : Int
 last : Int
def dmC (key : ByteArray) (port : Int) (P T S : PV) (lv : Bool) (R : PV) (sk : ByteArray) (sp : Int) (Q : PV) (at_ : ByteArray) (err gen now last : Int) : List AV :=
 [.p (.v (.string key)), .p (.v (.int .i64 port)), .p P, .p T, .p S, .p (.v (.bool lv)), .p R, .p (.v (.string sk)), .p (.v (.int .i64 sp)), .p Q, .p (.v (.string at_)), .p (.v (.int .i64 err)), .p (.v (.int .i64 gen)), .p (.v (.int .i64 now)), .p (.v (.int .i64 last))]
def CF.row (c : CF) : PV := .sl c.ps.length 5 (c.ps.flatMap PE.pv)
def stsV (l : List ST) : PV := .sl l.length 41 (l.flatMap ST.pv)
def sesV (l : List SE) : PV := .sl l.length 5 (l.flatMap SE.pv)
def DM.cells (d : DM) : List AV := dmC d.c.key d.c.port d.c.row (ndsV d.tree) (stsV d.ps) d.sg.lv (sesV d.sg.rest) d.sg.c.key d.sg.c.port d.sg.c.row d.sg.at_ d.sg.err d.gen d.now d.last
def DM.pv (d : DM) : List PV := d.c.pv ++ [ndsV d.tree, stsV d.ps] ++ d.sg.pv ++ [.v (.int .i64 d.gen), .v (.int .i64 d.now), .v (.int .i64 d.last)]
structure DM.OK (d : DM) : Prop where
 c : d.c.OK
 tree : ∀ x ∈ d.tree, x.OK
 treeN : d.tree.length * 40 ≤ 140737488351232
 ps : ∀ s ∈ d.ps, s.OK ∧ s.B
 psN : d.ps.length ≤ 1048576
 sg : d.sg.OK
theorem DM.of_ty {n : Nat} {ps : List PV} (h : Ty prog (n + 9) 32 ps) (hb : PV.bdL 1048576 ps) : ∃ d : DM, d.OK ∧ ps = d.pv := by
 obtain ⟨_, rfl, x0, _, rfl, t0, x1, _, rfl, t1, x2, _, rfl, t2, x3, _, rfl, t3, x4, _, rfl, t4, x5, _, rfl, t5, x6, _, rfl, t6, rfl⟩ := zbh (ts := [24, 25, 26, 30, 3, 3, 3]) (by kernel_rfl) h
 obtain ⟨c, okc, rfl⟩ := CF.of_ty t0 (zbx hb x0 (by simp))
 obtain ⟨tr, okt, hz, rfl⟩ := nodes_of_ty t1
 obtain ⟨l, okl, hl, rfl⟩ := ST.list_tyB t2 (zbx hb x2 (by simp))
 obtain ⟨s, oks, rfl⟩ := SG.of_ty t3 (zbx hb x3 (by simp))
 obtain ⟨a4, rfl, _⟩ := zbm U3 t4
 obtain ⟨a5, rfl, _⟩ := zbm U3 t5
 obtain ⟨a6, rfl, _⟩ := zbm U3 t6
 exact ⟨⟨c, tr, l, s, a4, a5, a6⟩, ⟨okc, okt, hz, okl, hl, oks⟩, by simp [DM.pv, stsV]⟩
noncomputable def sgB (s t : SG) : Bool := ((((s.lv == t.lv) && eqB s.rest t.rest) && cfB s.c t.c) && decide (s.at_ = t.at_)) && (s.err == t.err)
noncomputable def dmB (d o : DM) : Bool := (((((cfB d.c o.c && eqB d.tree o.tree) && eqB d.ps o.ps) && sgB d.sg o.sg) && (d.gen == o.gen)) && (d.now == o.now)) && (d.last == o.last)
theorem cfB_self (c : CF) : cfB c c = true := by simp [cfB, zgn]
theorem sgB_self (s : SG) : sgB s s = true := by simp [sgB, zgn, cfB_self]
theorem dmB_self (d : DM) : dmB d d = true := by simp [dmB, zgn, cfB_self, sgB_self]
theorem sameNodes_d (l m : List ND) (hl : l.length ≤ 4611686018427387904) (hm : m.length ≤ 4611686018427387904) : Fn prog 17 [.p (ndsV l), .p (ndsV m)] (.p (.v (.bool (eqB l m)))) [] := by
 have hC := eqNodes_d l m hl hm
 change Fn prog _ [.p (ndsV l), .p (ndsV m)] _ _ at hC
 generalize eqB l m = b at *
 generalize ndsV l = L at *
 generalize ndsV m = M at *
 exact jbb
theorem sameSets_d (l m : List SE) (hl : l.length ≤ 4611686018427387904) (hm : m.length ≤ 4611686018427387904) : Fn prog 54 [.p (sesV l), .p (sesV m)] (.p (.v (.bool (eqB l m)))) [] := by
 have hC := eqSets_d l m hl hm
 change Fn prog _ [.p (sesV l), .p (sesV m)] _ _ at hC
 generalize eqB l m = b at *
 generalize sesV l = L at *
 generalize sesV m = M at *
 exact jbb
def sgV (lv : Bool) (R : PV) (sk : ByteArray) (sp : Int) (Q : PV) (at_ : ByteArray) (err : Int) : List AV := [.p (.v (.bool lv)), .p R, .p (.v (.string sk)), .p (.v (.int .i64 sp)), .p Q, .p (.v (.string at_)), .p (.v (.int .i64 err))]
def cfV (k : ByteArray) (p : Int) (Q : PV) : List AV := [.p (.v (.string k)), .p (.v (.int .i64 p)), .p Q]
theorem sameStage_d (s t : SG) (os : s.OK) (ot : t.OK) : Fn prog 19 [.agg s.cells, .agg t.cells] (.p (.v (.bool (sgB s t)))) [] := by
 have hS := sameSets_d s.rest t.rest (by have := os.len; omega) (by have := ot.len; omega)
 have hC := zhC s.c t.c os.c ot.c
 clear os ot
 obtain ⟨v1, r1, ⟨k1, p1, q1⟩, a1, e1⟩ := s
 obtain ⟨v2, r2, ⟨k2, p2, q2⟩, a2, e2⟩ := t
 dsimp only at hS hC
 change Fn prog _ [.agg (cfV k1 p1 (CF.row ⟨k1, p1, q1⟩)), .agg (cfV k2 p2 (CF.row ⟨k2, p2, q2⟩))] _ _ at hC
 show Fn prog _ [.agg (sgV v1 (sesV r1) k1 p1 (CF.row ⟨k1, p1, q1⟩) a1 e1), .agg (sgV v2 (sesV r2) k2 p2 (CF.row ⟨k2, p2, q2⟩) a2 e2)] (.p (.v (.bool (((((v1 == v2) && eqB r1 r2) && cfB ⟨k1, p1, q1⟩ ⟨k2, p2, q2⟩) && decide (a1 = a2)) && (e1 == e2))))) _
 generalize cfB ⟨k1, p1, q1⟩ ⟨k2, p2, q2⟩ = cb at *
 generalize CF.row ⟨k1, p1, q1⟩ = Q1 at *
 generalize CF.row ⟨k2, p2, q2⟩ = Q2 at *
 generalize eqB r1 r2 = rb at *
 generalize sesV r1 = R1 at *
 generalize sesV r2 = R2 at *
 refine fnI fun w0 A => ?_
 refine G [12] ?_
 refine jdz (a_beql U4) ?_
 refine G [5] ?_
 refine mb2 _ rfl rfl (fun _ => zbc func54 rfl rfl (hS) (by first | rfl | simp [AV.okInL, AV.okIn, zay]) rfl) (fun _ => trivial) ?_
 refine G [0, 2, 2] ?_
 refine mb2 _ rfl rfl (fun hb => (zak underlying24 rfl sz24 (by first | exact Nat.le_of_ble_eq_true rfl | omega | (simp only [AV.cells, List.length_map]; omega)) (by first | exact zcC (by first | assumption | exact Nat.eq_of_beq_eq_true rfl | (simp only [AV.cells, List.length_map]; first | assumption | omega)) | (simp only [List.take_succ_cons, List.take_zero, List.drop_succ_cons, List.drop_zero]; rfl) | rfl))) (fun _ => ⟨rfl, trivial⟩) ?_
 refine mb2 _ rfl rfl (fun hb => (zat fi30_2 rfl)) (fun _ => trivial) ?_
 refine mb2 _ rfl rfl (fun hb => (zak underlying24 rfl sz24 (by first | exact Nat.le_of_ble_eq_true rfl | omega | (simp only [AV.cells, List.length_map]; omega)) (by first | exact zcC (by first | assumption | exact Nat.eq_of_beq_eq_true rfl | (simp only [AV.cells, List.length_map]; first | assumption | omega)) | (simp only [List.take_succ_cons, List.take_zero, List.drop_succ_cons, List.drop_zero]; rfl) | rfl))) (fun _ => ⟨rfl, trivial⟩) ?_
 refine mb2 _ rfl rfl (fun _ => zbc func16 rfl rfl (hC) (by first | rfl | simp [AV.okInL, AV.okIn, zay]) rfl) (fun _ => trivial) ?_
 refine G [0, 2, 6, 2, 6, 2, 3, 9, 0] ?_
 exact yE
theorem sameDaemon_d (d o : DM) (od : d.OK) (oo : o.OK) : Fn prog 6 [.agg d.cells, .agg o.cells] (.p (.v (.bool (dmB d o)))) [] := by
 have hC := zhC d.c o.c od.c oo.c
 have hT := sameNodes_d d.tree o.tree (by have := od.treeN; omega) (by have := oo.treeN; omega)
 have hS := sameStates_d d.ps o.ps od.psN oo.psN (fun s hs => (od.ps s hs).2) (fun s hs => (oo.ps s hs).2)
 have hG := sameStage_d d.sg o.sg od.sg oo.sg
 clear od oo
 obtain ⟨⟨k1, p1, q1⟩, t1, s1, ⟨v1, r1, ⟨sk1, sp1, sq1⟩, a1, e1⟩, g1, w1, l1'⟩ := d
 obtain ⟨⟨k2, p2, q2⟩, t2, s2, ⟨v2, r2, ⟨sk2, sp2, sq2⟩, a2, e2⟩, g2, w2, l2'⟩ := o
 dsimp only at hC hT hS hG
 change Fn prog _ [.agg (cfV k1 p1 (CF.row ⟨k1, p1, q1⟩)), .agg (cfV k2 p2 (CF.row ⟨k2, p2, q2⟩))] _ _ at hC
 change Fn prog _ [.p (stsV s1), .p (stsV s2)] _ _ at hS
 change Fn prog _ [.agg (sgV v1 (sesV r1) sk1 sp1 (CF.row ⟨sk1, sp1, sq1⟩) a1 e1), .agg (sgV v2 (sesV r2) sk2 sp2 (CF.row ⟨sk2, sp2, sq2⟩) a2 e2)] _ _ at hG
 show Fn prog _ [.agg (dmC k1 p1 (CF.row ⟨k1, p1, q1⟩) (ndsV t1) (stsV s1) v1 (sesV r1) sk1 sp1 (CF.row ⟨sk1, sp1, sq1⟩) a1 e1 g1 w1 l1'), .agg (dmC k2 p2 (CF.row ⟨k2, p2, q2⟩) (ndsV t2) (stsV s2) v2 (sesV r2) sk2 sp2 (CF.row ⟨sk2, sp2, sq2⟩) a2 e2 g2 w2 l2')] (.p (.v (.bool ((((((cfB ⟨k1, p1, q1⟩ ⟨k2, p2, q2⟩ && eqB t1 t2) && eqB s1 s2) && sgB ⟨v1, r1, ⟨sk1, sp1, sq1⟩, a1, e1⟩ ⟨v2, r2, ⟨sk2, sp2, sq2⟩, a2, e2⟩) && (g1 == g2)) && (w1 == w2)) && (l1' == l2'))))) _
 generalize sgB ⟨v1, r1, ⟨sk1, sp1, sq1⟩, a1, e1⟩ ⟨v2, r2, ⟨sk2, sp2, sq2⟩, a2, e2⟩ = gb at *
 generalize cfB ⟨k1, p1, q1⟩ ⟨k2, p2, q2⟩ = cb at *
 generalize CF.row ⟨k1, p1, q1⟩ = Q1 at *
 generalize CF.row ⟨k2, p2, q2⟩ = Q2 at *
 generalize eqB t1 t2 = tb at *
 generalize ndsV t1 = T1 at *
 generalize ndsV t2 = T2 at *
 generalize eqB s1 s2 = pb at *
 generalize stsV s1 = S1 at *
 generalize stsV s2 = S2 at *
 generalize CF.row ⟨sk1, sp1, sq1⟩ = SQ1 at *
 generalize CF.row ⟨sk2, sp2, sq2⟩ = SQ2 at *
 generalize sesV r1 = R1 at *
 generalize sesV r2 = R2 at *
 refine fnI fun w0 A => ?_
 refine G [12] ?_
 refine cK hC ?_
 refine G [5] ?_
 refine mb2 _ rfl rfl (fun _ => zbc func17 rfl rfl (hT) (by first | rfl | simp [AV.okInL, AV.okIn, zay]) rfl) (fun _ => trivial) ?_
 refine G [0, 2, 5] ?_
 refine mb2 _ rfl rfl (fun _ => zbc func18 rfl rfl (hS) (by first | rfl | simp [AV.okInL, AV.okIn, zay]) rfl) (fun _ => trivial) ?_
 refine G [0, 2, 2] ?_
 refine mb2 _ rfl rfl (fun hb => (zak underlying30 rfl sz30 (by first | exact Nat.le_of_ble_eq_true rfl | omega | (simp only [AV.cells, List.length_map]; omega)) (by first | exact zcC (by first | assumption | exact Nat.eq_of_beq_eq_true rfl | (simp only [AV.cells, List.length_map]; first | assumption | omega)) | (simp only [List.take_succ_cons, List.take_zero, List.drop_succ_cons, List.drop_zero]; rfl) | rfl))) (fun _ => ⟨rfl, trivial⟩) ?_
 refine mb2 _ rfl rfl (fun hb => (zat fi32_3 rfl)) (fun _ => trivial) ?_
 refine mb2 _ rfl rfl (fun hb => (zak underlying30 rfl sz30 (by first | exact Nat.le_of_ble_eq_true rfl | omega | (simp only [AV.cells, List.length_map]; omega)) (by first | exact zcC (by first | assumption | exact Nat.eq_of_beq_eq_true rfl | (simp only [AV.cells, List.length_map]; first | assumption | omega)) | (simp only [List.take_succ_cons, List.take_zero, List.drop_succ_cons, List.drop_zero]; rfl) | rfl))) (fun _ => ⟨rfl, trivial⟩) ?_
 refine mb2 _ rfl rfl (fun _ => zbc func19 rfl rfl (hG) (by first | rfl | simp [AV.okInL, AV.okIn, zay]) rfl) (fun _ => trivial) ?_
 refine G [0, 2, 6, 2, 6, 2, 6, 2, 3, 9, 0] ?_
 exact yE
end Go.Proofs.YtbjdjclkbjpebaaGreatDoor
