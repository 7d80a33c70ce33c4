/- Tries, the references: owned nets, growing. -/
import Derived.Test.YtgpleldhddpcgaaGreatDoorSTw5
import Derived.Test.YtgpleldhddpcgaaGreatDoorSTrY
namespace Go.Proofs.YtgpleldhddpcgaaGreatDoor
open Go.RowKit Go.Sort
set_option linter.unusedVariables false
set_option linter.unusedSimpArgs false
set_option maxRecDepth 100000
theorem krJoin_s (p q : Key) (hp : p.length ≤ 32) (hq : q.length ≤ 32) : Fn Tryz.prog 63 [.agg (keyA p), .agg (keyA q)] (.tup [.agg (keyA (lcpL p q)), .p (.v (.int .i64 0))]) [] := by
 have h := refJoin_g (zaT p) p.length (zaT q) q.length (zbw p hp).1 (zbw p hp).2 (zbw q hq).1 (zbw q hq).2
 obtain ⟨e1, e2, e3⟩ := join_key p q hp hq
 rw [e1, e2, e3] at h
 refine zcG rfl (fun S m w => ?_) h
 simp only [Rep]
 refine ⟨_, rfl, ?_⟩
 simp only [RepL, Rep, keyA, netA, PRep]
 exact ⟨_, _, rfl, ⟨_, rfl, ⟨_, _, rfl, ⟨rfl, rfl⟩, _, _, rfl, ⟨rfl, rfl⟩, rfl⟩, by intro x hx; simp at hx; rcases hx with rfl | rfl <;> rfl⟩, _, _, rfl, ⟨rfl, rfl⟩, rfl⟩
theorem kbit_s (q : Key) (i : Nat) (hq : q.length ≤ 32) (hi : i < q.length) : Fn Tryz.prog 64 [.p (.v (.int .u32 (zaT q))), .p (.v (.int .i64 (i : Nat)))] (.p (.v (.int .u32 (bitN q i : Nat)))) [] := by
 have h := zhk (P := Tryz.prog) (f := 64) [.int .u32 (zaT q), .int .i64 (i : Nat)] (r := .int .u32 (bitN q i : Nat)) rfl fun w => by
  have h1 := bit_c (zaT q) (i : Nat) w (by omega) (by omega) (zbw q hq).1 (zbw q hq).2
  have e : bitI (zaT q) (i : Nat) = ((bitN q i : Nat) : Int) := by
   unfold bitI bitN
   rw [bit_key q i hq hi]
   split <;> rfl
  rw [e] at h1
  exact h1.mono fun e w' hh => ⟨hh.1, hh.2.symm⟩
 exact h
theorem one_at {M : List (Key × Own)} {i : Nat} {x : Key × Own} (h : M[i]? = some x) : ((nds (M.map one)).drop (i * 4)).take 4 = [.v (.int .u32 (zaT x.1)), .v (.int .i64 x.1.length), .v (.string x.2), .v (.int .i64 1)] :=
 nds_at _ i (one x) (by rw [List.getElem?_map, h]; rfl)
theorem one_len (M : List (Key × Own)) : (nds (M.map one)).length = M.length * 4 := by rw [zdY, List.length_map]
theorem toND_len (n : Nat) (M : List (Key × Own)) : ((zby n M).map toND).length ≤ 2 * M.length := by
 have := zdq n M
 rw [List.length_map]; omega
set_option maxHeartbeats 4000000 in
theorem grown_s : ∀ (n : Nat) (M : List (Key × Own)), M.length ≤ n → (∀ x ∈ M, x.1.length ≤ 32) → M.length ≤ 17179869184 →
  Fn Tryz.prog 23 [.p (.sl M.length 4 (nds (M.map one)))] (.row 0) [(0, .row 55 4 ((zby n M).map toND).length (nds ((zby n M).map toND)))]
 | n, [], hn, hK, hz => by
  have e : (zby n []).map toND = [] := by cases n <;> rfl
  rw [e]
  show Fn Tryz.prog 23 [.p (.sl 0 4 [])] (.row 0) [(0, .row 55 4 0 [])]
  refine zap Tryz.func23 rfl (Nat.le_of_ble_eq_true rfl) fun w0 A => ?_
  refine zaa ?_
  refine tx ?_
  refine yA ?_
  refine zab ?_
  refine zaa (zaa ?_)
  refine tx ?_
  refine yM ?_
  refine yP (zaC Tryz.underlying25) ?_
  refine yP zb6 ?_
  refine zab ?_
  refine zae ?_
  refine zah _ rfl (fun h => ?_) (fun h => ?_)
  ·refine zaa ?_
   refine tx ?_
   refine yA ?_
   refine zab ?_
   refine zae (zcu (zdk 2 100 55 4 rfl rfl) ?_)
   refine zaf (zam ?_)
   refine fT (fun _ => 100) (.tmp _ _ _ _ rfl .nil) ?_ ?_
   ·exact rfl
   ·exact ⟨⟨rfl, rfl⟩, trivial⟩
  ·cases h
 | 0, _ :: _, hn, _, _ => by simp at hn
 | n + 1, x0 :: l, hn, hK, hz => by
  have ih := grown_s n
  have hL := zdq n (za9 (zba (x0 :: l)) false (x0 :: l))
  have hR := zdq n (za9 (zba (x0 :: l)) true (x0 :: l))
  have hside := zg4 (zba (x0 :: l)) (x0 :: l)
  have hlt := side_lt (M := x0 :: l) (by simp)
  have hjp := zdy (l := x0 :: l)
  have hx0 := hK x0 (by simp)
  have hgr : zby (n + 1) (x0 :: l) = (zba (x0 :: l), zdc (zba (x0 :: l)) (x0 :: l), 1 + (zby n (za9 (zba (x0 :: l)) false (x0 :: l)) ++ zby n (za9 (zba (x0 :: l)) true (x0 :: l))).length) :: (zby n (za9 (zba (x0 :: l)) false (x0 :: l)) ++ zby n (za9 (zba (x0 :: l)) true (x0 :: l))) := rfl
  rw [hgr]
  clear hgr
  have hJ : zba (x0 :: l) = zge x0.1 ((x0 :: l).map Prod.fst) := rfl
  have hJl := joinAll_le (M := x0 :: l) hK
  obtain ⟨top, htop⟩ : ∃ top, top = zba (x0 :: l) := ⟨_, rfl⟩
  rw [← htop] at hL hR hside hlt hjp hJ hJl ⊢
  have hfst : ∃ cs, nds ((x0 :: l).map one) = .v (.int .u32 (zaT x0.1)) :: .v (.int .i64 x0.1.length) :: cs := ⟨_, rfl⟩
  have hM0 : (x0 :: l)[0]? = some x0 := rfl
  have hpos : 0 < (x0 :: l).length := by simp
  generalize x0 :: l = M at *
  have hlen := one_len M
  obtain ⟨cs, hcs⟩ := hfst
  refine zap Tryz.func23 rfl (Nat.le_of_ble_eq_true rfl) fun w0 A => ?_
  refine zaa ?_
  refine tx ?_
  refine yA ?_
  refine zab ?_
  refine zaa (zaa ?_)
  refine tx ?_
  refine yM ?_
  refine yP (zaC Tryz.underlying25) ?_
  refine yP zaF ?_
  refine zab ?_
  refine zae ?_
  refine zah _ rfl (fun h => ?_) (fun h => ?_)
  ·exfalso; simp at h; rw [h] at hpos; simp at hpos
  clear h
  have h0at : ((nds (M.map one)).drop (Int.toNat 0 * 4)).take 4 = [.v (.int .u32 (zaT x0.1)), .v (.int .i64 x0.1.length), .v (.string x0.2), .v (.int .i64 1)] := one_at hM0
  have h0d : (nds (M.map one)).drop (Int.toNat 0 * 4) = .v (.int .u32 (zaT x0.1)) :: .v (.int .i64 x0.1.length) :: cs := hcs
  generalize hB : nds (M.map one) = B at *
  refine zad (zaa ?_)
  refine tx ?_
  refine yM ?_
  refine zac (zao Tryz.underlying25 sz55 (by omega) (by omega) h0d) rfl rfl ?_
  refine yP (zaH zer rfl) ?_
  refine zac (zaz Tryz.underlying52 rfl sz52 (by simp) (rfl)) rfl rfl ?_
  refine zal (zaU 3 zr52 rfl) rfl rfl ⟨rfl, trivial⟩ ?_
  refine zal (zaA (Y := .agg _) sz52 rfl (by first | exact Nat.eq_of_beq_eq_true rfl | (simp only [AV.cells, List.length_map]; first | assumption | omega)) (Nat.eq_of_beq_eq_true rfl)) rfl rfl ⟨rfl, trivial⟩ ?_
  refine zab ?_
  refine zaa (zaa ?_)
  refine tx ?_
  refine yM ?_
  refine yP (zaC Tryz.underlying25) ?_
  refine yM ?_
  refine zab ?_
  refine zaj ?_
  refine zgt (St.of [(0, .p (.sl M.length 4 B)), (3, .ref 3 0)] [(3, .box 52 (keyA top))]) ?_ ?_
  ·refine zaE (fun m st => ∃ i : Nat, m + i = M.length ∧ st = St.of [(0, .p (.sl M.length 4 B)), (3, .ref 3 0), (19, .p (.sl M.length 4 B)), (20, .p (.v (.int .i64 M.length))), (21, .p (.v (.int .i64 i)))] [(3, .box 52 (keyA (zge x0.1 ((M.take i).map Prod.fst))))]) M.length ?_ ?_
   ·refine ⟨_, zaJ id _ _ (by repeat (first | exact trivial | refine ⟨⟨rfl, rfl⟩, ?_⟩)) (by repeat (first | exact trivial | refine ⟨⟨rfl, rfl⟩, ?_⟩)) rfl, 0, by omega, rfl⟩
   rintro m st ⟨i, hi, rfl⟩
   refine zaa ?_
   refine tx ?_
   refine yP zaX ?_
   refine zab ?_
   refine zaa ?_
   refine zah _ rfl (fun h => ?_) (fun h => ?_)
   ·have hlt : i < M.length := by simp at h; omega
    clear h
    obtain ⟨x, hx⟩ : ∃ x, M[i]? = some x := ⟨M[i], List.getElem?_eq_getElem hlt⟩
    have hld := one_at hx
    rw [hB] at hld
    have hxl := hK x (List.mem_of_getElem? hx)
    have hnx := joinK_take (p := x0.1) hx
    have hJp := (zfk ((M.take i).map Prod.fst) x0.1).length_le
    have hC := krJoin_s (zge x0.1 ((M.take i).map Prod.fst)) x.1 (by omega) hxl
    rw [← hnx] at hC
    generalize zge x0.1 ((M.take i).map Prod.fst) = j at *
    refine zad (zaa (zaj (zaa ?_)))
    refine tx ?_
    refine zac (zao Tryz.underlying25 sz55 (by omega) (by omega) rfl) rfl rfl ?_
    refine zac (zaz Tryz.underlying55 rfl sz55 (by rw [List.length_drop, hlen]; first | omega | (simp only [Int.toNat_natCast]; omega)) (hld)) rfl rfl ?_
    refine zal (zaU 5 zr55 rfl) rfl rfl ⟨rfl, trivial⟩ ?_
    refine zal (zaA (Y := .agg _) sz55 rfl (by first | exact Nat.eq_of_beq_eq_true rfl | (simp only [AV.cells, List.length_map]; first | assumption | omega)) (Nat.eq_of_beq_eq_true rfl)) rfl rfl ⟨rfl, trivial⟩ ?_
    refine zab ?_
    refine zae ?_
    refine tx ?_
    refine lN Tryz.underlying52 rfl sz52 rfl rfl ⟨rfl, trivial⟩ ?_
    refine yF zer ?_
    refine lN Tryz.underlying52 rfl sz52 rfl rfl ⟨rfl, trivial⟩ ?_
    refine yV (fun n => 29 + 1000 * n) (hC) Tryz.func63 ?_
    refine yP (zaq (r := .tup _)) ?_
    refine yP (zar rfl) ?_
    refine yP (zar rfl) ?_
    refine zal (zaA (Y := .agg _) sz52 rfl (by first | exact Nat.eq_of_beq_eq_true rfl | (simp only [AV.cells, List.length_map]; first | assumption | omega)) (Nat.eq_of_beq_eq_true rfl)) rfl rfl ⟨rfl, trivial⟩ ?_
    refine zab ?_
    refine za3 (zae ?_)
    refine tx ?_
    refine zac (za4 (by first | exact IntWalk.i64_in _ (by omega) | rfl)) rfl rfl ?_
    refine yM ?_
    refine zab ?_
    refine zae ?_
    refine ⟨m - 1, by omega, _, zaJ id _ _ (by repeat (first | exact trivial | refine ⟨⟨rfl, rfl⟩, ?_⟩)) (by repeat (first | exact trivial | refine ⟨⟨rfl, rfl⟩, ?_⟩)) rfl, i + 1, by omega, rfl⟩
   ·have hge : i = M.length := by simp at h; omega
    subst hge
    rw [List.take_length, ← hJ]
    refine zaG (zb3 (zb3 (zdo (zae ?_))))
    exact zaJ id _ _ (by repeat (first | exact trivial | refine ⟨⟨rfl, rfl⟩, ?_⟩)) (by repeat (first | exact trivial | refine ⟨⟨rfl, rfl⟩, ?_⟩)) rfl
  refine zaa ?_
  refine tx ?_
  refine lN Tryz.underlying52 rfl sz52 rfl rfl ⟨rfl, trivial⟩ ?_
  refine yP (zaR pl55 zr55 rfl rfl) ?_
  refine zal (zaU 6 zr55 rfl) rfl rfl ⟨rfl, trivial⟩ ?_
  refine zal (zaA (Y := .agg _) sz55 rfl (by first | exact Nat.eq_of_beq_eq_true rfl | (simp only [AV.cells, List.length_map]; first | assumption | omega)) (Nat.eq_of_beq_eq_true rfl)) rfl rfl ⟨rfl, trivial⟩ ?_
  refine zab ?_
  refine zaa ?_
  refine tx ?_
  refine yA ?_
  refine yA ?_
  refine zab ?_
  refine zae (zcu (zdk 7 7 55 4 rfl rfl) ?_)
  refine zcu (zdk 8 8 55 4 rfl rfl) ?_
  refine zaa (zaa ?_)
  refine tx ?_
  refine yM ?_
  refine yP (zaC Tryz.underlying25) ?_
  refine yM ?_
  refine zab ?_
  refine zaj ?_
  refine zgt (St.of [(6, .ref 6 0), (7, .row 7), (8, .row 8)] [(6, .box 55 [.p (.v (.int .u32 (zaT top))), .p (.v (.int .i64 top.length)), .p (.v (.string (zdc top M))), .p (.v (.int .i64 0))]), (7, .row 55 4 (za9 top false M).length (nds ((za9 top false M).map one))), (8, .row 55 4 (za9 top true M).length (nds ((za9 top true M).map one)))]) ?_ ?_
  ·refine zaE (fun m st => ∃ i : Nat, m + i = M.length ∧ st = St.of [(3, .ref 3 0), (6, .ref 6 0), (7, .row 7), (8, .row 8), (35, .p (.sl M.length 4 B)), (36, .p (.v (.int .i64 M.length))), (37, .p (.v (.int .i64 i)))] [(3, .box 52 (keyA top)), (6, .box 55 [.p (.v (.int .u32 (zaT top))), .p (.v (.int .i64 top.length)), .p (.v (.string (zdc top (M.take i)))), .p (.v (.int .i64 0))]), (7, .row 55 4 (za9 top false (M.take i)).length (nds ((za9 top false (M.take i)).map one))), (8, .row 55 4 (za9 top true (M.take i)).length (nds ((za9 top true (M.take i)).map one)))]) M.length ?_ ?_
   ·refine ⟨_, zaJ id _ _ (by repeat (first | exact trivial | refine ⟨⟨rfl, rfl⟩, ?_⟩)) (by repeat (first | exact trivial | refine ⟨⟨rfl, rfl⟩, ?_⟩)) rfl, 0, by omega, rfl⟩
   rintro m st ⟨i, hi, rfl⟩
   refine zaa ?_
   refine tx ?_
   refine yP zaX ?_
   refine zab ?_
   refine zaa ?_
   refine zah _ rfl (fun h => ?_) (fun h => ?_)
   ·have hlt' : i < M.length := by simp at h; omega
    clear h
    obtain ⟨x, hx⟩ : ∃ x, M[i]? = some x := ⟨M[i], List.getElem?_eq_getElem hlt'⟩
    have hld := one_at hx
    rw [hB] at hld
    have hxl := hK x (List.mem_of_getElem? hx)
    have hxp := hjp x (List.mem_of_getElem? hx)
    have n1 := rootOwn_take (top := top) hx
    have n2 := zgE (top := top) (b := false) hx
    have n3 := zgE (top := top) (b := true) hx
    have hEq := keyEq (p := x.1) (q := top) hxl
    have hsd := zg4 top (M.take i)
    have htk := take_len M i
    generalize zdc top (M.take i) = ow at *
    generalize za9 top false (M.take i) = sl at *
    generalize za9 top true (M.take i) = sr at *
    obtain ⟨xk, xo⟩ := x
    simp only at n1 n2 n3 hEq hxp hxl hld
    by_cases hxt : xk = top
    ·rw [if_pos hxt] at n1
     rw [if_neg (by simp [hxt]), List.append_nil] at n2 n3
     rw [hxt] at hEq hld
     subst n1
     subst n2
     subst n3
     refine zad (zaa (zaj (zaa ?_)))
     refine tx ?_
     refine zac (zao Tryz.underlying25 sz55 (by omega) (by omega) rfl) rfl rfl ?_
     refine zac (zaz Tryz.underlying55 rfl sz55 (by rw [List.length_drop, hlen]; first | omega | (simp only [Int.toNat_natCast]; omega)) (hld)) rfl rfl ?_
     refine zal (zaU 10 zr55 rfl) rfl rfl ⟨rfl, trivial⟩ ?_
     refine zal (zaA (Y := .agg _) sz55 rfl (by first | exact Nat.eq_of_beq_eq_true rfl | (simp only [AV.cells, List.length_map]; first | assumption | omega)) (Nat.eq_of_beq_eq_true rfl)) rfl rfl ⟨rfl, trivial⟩ ?_
     refine zab ?_
     refine zaj (zaa ?_)
     refine tx ?_
     refine yF zer ?_
     refine lN Tryz.underlying52 rfl sz52 rfl rfl ⟨rfl, trivial⟩ ?_
     refine lN Tryz.underlying52 rfl sz52 rfl rfl ⟨rfl, trivial⟩ ?_
     refine zac (a_steqT Tryz.underlying52 rfl (by kernel_rfl) (by kernel_rfl)) rfl rfl ?_
     refine yA ?_
     refine zab ?_
     refine zae ?_
     refine zah _ rfl (fun h => ?_) (fun h => ?_)
     ·skip
      refine tx ?_
      refine yF fi55_1 ?_
      refine yL Tryz.underlying9 ?_
      refine yF fi55_1 ?_
      refine zal (zbp (Y := .p _) sz9 rfl (by first | exact Nat.eq_of_beq_eq_true rfl | (simp only [AV.cells, List.length_map]; first | assumption | omega)) (by first | exact Nat.le_of_ble_eq_true rfl | omega | (simp only [AV.cells, List.length_map]; omega)) (by first | (simp only [setR, AV.cells, List.take_succ_cons, List.take_zero, List.drop_succ_cons, List.drop_zero, List.drop_nil, List.take_nil, List.nil_append, List.cons_append, List.append_nil, List.length_cons, List.length_nil, Nat.reduceAdd, Nat.zero_add, Nat.add_zero]; rfl) | rfl)) rfl rfl ⟨rfl, trivial⟩ ?_
      refine zab ?_
      refine za3 (za3 (zae ?_))
      refine tx ?_
      refine zac (za4 (by first | exact IntWalk.i64_in _ (by omega) | rfl)) rfl rfl ?_
      refine yM ?_
      refine zab ?_
      refine zae ?_
      refine ⟨m - 1, by omega, _, zaJ id _ _ (by repeat (first | exact trivial | refine ⟨⟨rfl, rfl⟩, ?_⟩)) (by repeat (first | exact trivial | refine ⟨⟨rfl, rfl⟩, ?_⟩)) rfl, i + 1, by omega, rfl⟩
     ·cases h
    ·rw [if_neg hxt] at n1
     rw [decide_eq_false hxt] at hEq
     have hx1 := zcr hxp hxt
     have hxlt : top.length < xk.length := by have := hx1.length_le; simp at this; omega
     have hbit := kbit_s xk top.length hxl hxlt
     cases hb : zbV xk top.length with
     | false =>
      rw [if_pos ⟨hxt, hb⟩] at n2
      rw [if_neg (by simp [hb]), List.append_nil] at n3
      subst n1
      subst n3
      rw [show bitN xk top.length = 0 by unfold bitN; rw [hb]; rfl] at hbit
      have hl2 : sl.length + 1 = (za9 top false (M.take (i + 1))).length := by rw [n2]; simp
      have happ : nds (sl.map one) ++ [.v (.int .u32 (zaT xk)), .v (.int .i64 xk.length), .v (.string xo), .v (.int .i64 1)] = nds ((za9 top false (M.take (i + 1))).map one) := by rw [n2, List.map_append, zga]; rfl
      refine zad (zaa (zaj (zaa ?_)))
      refine tx ?_
      refine zac (zao Tryz.underlying25 sz55 (by omega) (by omega) rfl) rfl rfl ?_
      refine zac (zaz Tryz.underlying55 rfl sz55 (by rw [List.length_drop, hlen]; first | omega | (simp only [Int.toNat_natCast]; omega)) (hld)) rfl rfl ?_
      refine zal (zaU 10 zr55 rfl) rfl rfl ⟨rfl, trivial⟩ ?_
      refine zal (zaA (Y := .agg _) sz55 rfl (by first | exact Nat.eq_of_beq_eq_true rfl | (simp only [AV.cells, List.length_map]; first | assumption | omega)) (Nat.eq_of_beq_eq_true rfl)) rfl rfl ⟨rfl, trivial⟩ ?_
      refine zab ?_
      refine zaj (zaa ?_)
      refine tx ?_
      refine yF zer ?_
      refine lN Tryz.underlying52 rfl sz52 rfl rfl ⟨rfl, trivial⟩ ?_
      refine lN Tryz.underlying52 rfl sz52 rfl rfl ⟨rfl, trivial⟩ ?_
      refine zac (zdH Tryz.underlying52 rfl rfl (by kernel_rfl) (by kernel_rfl) (by kernel_rfl)) rfl rfl ?_
      refine yA ?_
      refine zab ?_
      refine zae ?_
      refine zah _ rfl (fun h => ?_) (fun h => ?_)
      ·have h' := h
       rw [hEq] at h'; cases h'
      refine zaa ?_
      refine tx ?_
      refine yF zer ?_
      refine yF fi52_0 ?_
      refine yL Tryz.underlying50 ?_
      refine yF fi52_1 ?_
      refine yL Tryz.underlying3 ?_
      refine yV (fun n => 59 + 1000 * n) (hbit) Tryz.func64 ?_
      refine yP zb6 ?_
      refine yA ?_
      refine zab ?_
      refine zae ?_
      refine zah _ rfl (fun h => ?_) (fun h => ?_)
      ·skip
       refine tx ?_
       refine yP (zaq (r := .row _)) ?_
       refine lN Tryz.underlying55 rfl sz55 rfl rfl ⟨rfl, trivial⟩ ?_
       refine zal (xs := [.agg [.p (.v (.int .u32 (zaT xk))), .p (.v (.int .i64 xk.length)), .p (.v (.string xo)), .p (.v (.int .i64 1))]]) (zaO (es := [.p (.v (.int .u32 (zaT xk))), .p (.v (.int .i64 xk.length)), .p (.v (.string xo)), .p (.v (.int .i64 1))]) (cs := [.v (.int .u32 (zaT xk)), .v (.int .i64 xk.length), .v (.string xo), .v (.int .i64 1)]) 63 Tryz.underlying25 sz55 zc55 (Nat.le_of_ble_eq_true rfl) (Nat.le_of_ble_eq_true rfl) rfl (by kernel_rfl) (by kernel_rfl) (by kernel_rfl) (Nat.le_of_ble_eq_true rfl)) (by first | rfl | kernel_rfl) rfl ⟨rfl, trivial⟩ ?_
       refine zal (zbe 64 Tryz.underlying25 eo55 (zbX) (by simp only [maxLen]; omega) (by omega) hl2 happ) rfl rfl ⟨rfl, rfl, rfl, trivial⟩ ?_
       refine yP (zas (r := .row _)) ?_
       refine zab ?_
       refine za3 (za3 (zae ?_))
       refine tx ?_
       refine zac (za4 (by first | exact IntWalk.i64_in _ (by omega) | rfl)) rfl rfl ?_
       refine yM ?_
       refine zab ?_
       refine zae ?_
       refine ⟨m - 1, by omega, _, zaJ (fun o => bif Nat.beq o 7 then 64 else o) _ _ (by repeat (first | exact trivial | refine ⟨⟨rfl, rfl⟩, ?_⟩)) (by repeat (first | exact trivial | refine ⟨⟨rfl, rfl⟩, ?_⟩)) rfl, i + 1, by omega, rfl⟩
      ·cases h
     | true =>
      rw [if_pos ⟨hxt, hb⟩] at n3
      rw [if_neg (by simp [hb]), List.append_nil] at n2
      subst n1
      subst n2
      rw [show bitN xk top.length = 1 by unfold bitN; rw [hb]; rfl] at hbit
      have hl2 : sr.length + 1 = (za9 top true (M.take (i + 1))).length := by rw [n3]; simp
      have happ : nds (sr.map one) ++ [.v (.int .u32 (zaT xk)), .v (.int .i64 xk.length), .v (.string xo), .v (.int .i64 1)] = nds ((za9 top true (M.take (i + 1))).map one) := by rw [n3, List.map_append, zga]; rfl
      refine zad (zaa (zaj (zaa ?_)))
      refine tx ?_
      refine zac (zao Tryz.underlying25 sz55 (by omega) (by omega) rfl) rfl rfl ?_
      refine zac (zaz Tryz.underlying55 rfl sz55 (by rw [List.length_drop, hlen]; first | omega | (simp only [Int.toNat_natCast]; omega)) (hld)) rfl rfl ?_
      refine zal (zaU 10 zr55 rfl) rfl rfl ⟨rfl, trivial⟩ ?_
      refine zal (zaA (Y := .agg _) sz55 rfl (by first | exact Nat.eq_of_beq_eq_true rfl | (simp only [AV.cells, List.length_map]; first | assumption | omega)) (Nat.eq_of_beq_eq_true rfl)) rfl rfl ⟨rfl, trivial⟩ ?_
      refine zab ?_
      refine zaj (zaa ?_)
      refine tx ?_
      refine yF zer ?_
      refine lN Tryz.underlying52 rfl sz52 rfl rfl ⟨rfl, trivial⟩ ?_
      refine lN Tryz.underlying52 rfl sz52 rfl rfl ⟨rfl, trivial⟩ ?_
      refine zac (zdH Tryz.underlying52 rfl rfl (by kernel_rfl) (by kernel_rfl) (by kernel_rfl)) rfl rfl ?_
      refine yA ?_
      refine zab ?_
      refine zae ?_
      refine zah _ rfl (fun h => ?_) (fun h => ?_)
      ·have h' := h
       rw [hEq] at h'; cases h'
      refine zaa ?_
      refine tx ?_
      refine yF zer ?_
      refine yF fi52_0 ?_
      refine yL Tryz.underlying50 ?_
      refine yF fi52_1 ?_
      refine yL Tryz.underlying3 ?_
      refine yV (fun n => 59 + 1000 * n) (hbit) Tryz.func64 ?_
      refine yP zaF ?_
      refine yA ?_
      refine zab ?_
      refine zae ?_
      refine zah _ rfl (fun h => ?_) (fun h => ?_)
      ·cases h
      ·skip
       refine tx ?_
       refine yP (zaq (r := .row _)) ?_
       refine lN Tryz.underlying55 rfl sz55 rfl rfl ⟨rfl, trivial⟩ ?_
       refine zal (xs := [.agg [.p (.v (.int .u32 (zaT xk))), .p (.v (.int .i64 xk.length)), .p (.v (.string xo)), .p (.v (.int .i64 1))]]) (zaO (es := [.p (.v (.int .u32 (zaT xk))), .p (.v (.int .i64 xk.length)), .p (.v (.string xo)), .p (.v (.int .i64 1))]) (cs := [.v (.int .u32 (zaT xk)), .v (.int .i64 xk.length), .v (.string xo), .v (.int .i64 1)]) 43 Tryz.underlying25 sz55 zc55 (Nat.le_of_ble_eq_true rfl) (Nat.le_of_ble_eq_true rfl) rfl (by kernel_rfl) (by kernel_rfl) (by kernel_rfl) (Nat.le_of_ble_eq_true rfl)) (by first | rfl | kernel_rfl) rfl ⟨rfl, trivial⟩ ?_
       refine zal (zbe 44 Tryz.underlying25 eo55 (zbX) (by simp only [maxLen]; omega) (by omega) hl2 happ) rfl rfl ⟨rfl, rfl, rfl, trivial⟩ ?_
       refine yP (zas (r := .row _)) ?_
       refine zab ?_
       refine za3 (za3 (zae ?_))
       refine tx ?_
       refine zac (za4 (by first | exact IntWalk.i64_in _ (by omega) | rfl)) rfl rfl ?_
       refine yM ?_
       refine zab ?_
       refine zae ?_
       refine ⟨m - 1, by omega, _, zaJ (fun o => bif Nat.beq o 8 then 44 else o) _ _ (by repeat (first | exact trivial | refine ⟨⟨rfl, rfl⟩, ?_⟩)) (by repeat (first | exact trivial | refine ⟨⟨rfl, rfl⟩, ?_⟩)) rfl, i + 1, by omega, rfl⟩
   ·have hge : i = M.length := by simp at h; omega
    subst hge
    rw [List.take_length]
    refine zaG (zb3 (zb3 (zdo (zae ?_))))
    exact zaJ id _ _ (by repeat (first | exact trivial | refine ⟨⟨rfl, rfl⟩, ?_⟩)) (by repeat (first | exact trivial | refine ⟨⟨rfl, rfl⟩, ?_⟩)) rfl
  have gl := ih (za9 top false M) (by have := hlt false; omega) (fun x hx => hK x (zf0.1 hx).1) (by omega)
  have gr := ih (za9 top true M) (by have := hlt true; omega) (fun x hx => hK x (zf0.1 hx).1) (by omega)
  have b1 := zdZ ((za9 top false M).map one)
  have b2 := zdZ ((za9 top true M).map one)
  have b3 := zdZ ((zby n (za9 top false M)).map toND)
  have b4 := zdZ ((zby n (za9 top true M)).map toND)
  have l1 := toND_len n (za9 top false M)
  have l2 := toND_len n (za9 top true M)
  rw [List.map_cons, List.map_append, zc2, zga]
  have e1 : 1 + (zby n (za9 top false M) ++ zby n (za9 top true M)).length = 1 + (((zby n (za9 top false M)).map toND).length + ((zby n (za9 top true M)).map toND).length) := by simp
  rw [e1]
  simp only [List.length_cons, List.length_append] at *
  clear e1 hJ
  generalize (zby n (za9 top false M)).map toND = L1 at *
  generalize (zby n (za9 top true M)).map toND = L2 at *
  generalize za9 top false M = M1 at *
  generalize za9 top true M = M2 at *
  generalize zdc top M = ow at *
  refine zaa ?_
  refine tx ?_
  refine yP (zaq (r := .row _)) ?_
  refine zcv (fun n => 67 + 1000 * n) (gl) rfl rfl Tryz.func23 rfl rfl (by simp [AV.noSl, AV.noSlL, AObj.noSl, b3]) (by simp [AV.noSl, AV.noSlL, AObj.noSl, b3]) rfl rfl rfl (by first | exact trivial | exact ⟨rfl, trivial⟩ | exact ⟨rfl, rfl, trivial⟩ | exact ⟨rfl, rfl, rfl, rfl, rfl, trivial⟩) rfl rfl rfl ?_
  refine yP (zaq (r := .row _)) ?_
  refine zcv (fun n => 69 + 1000 * n) (gr) rfl rfl Tryz.func23 rfl rfl (by simp [AV.noSl, AV.noSlL, AObj.noSl, b4]) (by simp [AV.noSl, AV.noSlL, AObj.noSl, b4]) rfl rfl rfl (by first | exact trivial | exact ⟨rfl, trivial⟩ | exact ⟨rfl, rfl, trivial⟩ | exact ⟨rfl, rfl, rfl, rfl, rfl, trivial⟩) rfl rfl rfl ?_
  refine zal (zbe 70 Tryz.underlying25 eo55 (zbX) (by simp only [maxLen]; omega) (by omega) rfl rfl) rfl rfl ⟨rfl, rfl, rfl, trivial⟩ ?_
  refine yP (zas (r := .row _)) ?_
  refine zab ?_
  have hsz : IntKind.i64.wrap (1 + ((L1.length + L2.length : Nat) : Int)) = ((1 + (L1.length + L2.length) : Nat) : Int) := by rw [IntWalk.i64_in _ (by omega)]; omega
  have hk1 : 1 + (L1.length + L2.length) = L1.length + L2.length + 1 := by omega
  refine zaa ?_
  refine tx ?_
  refine yP (zaq (r := .row _)) ?_
  refine zal (zeu Tryz.underlying25) rfl rfl ⟨rfl, trivial⟩ ?_
  refine yP (za4 hsz) ?_
  refine yF zgR ?_
  refine zal (zbp (Y := .p _) sz3 rfl (by first | exact Nat.eq_of_beq_eq_true rfl | (simp only [AV.cells, List.length_map]; first | assumption | omega)) (by first | exact Nat.le_of_ble_eq_true rfl | omega | (simp only [AV.cells, List.length_map]; omega)) (by first | (simp only [setR, AV.cells, List.take_succ_cons, List.take_zero, List.drop_succ_cons, List.drop_zero, List.drop_nil, List.take_nil, List.nil_append, List.cons_append, List.append_nil, List.length_cons, List.length_nil, Nat.reduceAdd, Nat.zero_add, Nat.add_zero]; rfl) | rfl)) rfl rfl ⟨rfl, trivial⟩ ?_
  refine zab ?_
  refine zaa ?_
  refine tx ?_
  refine lN Tryz.underlying55 rfl sz55 rfl rfl ⟨rfl, trivial⟩ ?_
  refine zal (xs := [.agg [.p (.v (.int .u32 (zaT top))), .p (.v (.int .i64 top.length)), .p (.v (.string ow)), .p (.v (.int .i64 ((1 + (L1.length + L2.length) : Nat) : Int)))]]) (zaO (es := [.p (.v (.int .u32 (zaT top))), .p (.v (.int .i64 top.length)), .p (.v (.string ow)), .p (.v (.int .i64 ((1 + (L1.length + L2.length) : Nat) : Int)))]) (cs := [.v (.int .u32 (zaT top)), .v (.int .i64 top.length), .v (.string ow), .v (.int .i64 ((1 + (L1.length + L2.length) : Nat) : Int))]) 76 Tryz.underlying25 sz55 zc55 (Nat.le_of_ble_eq_true rfl) (Nat.le_of_ble_eq_true rfl) rfl (by kernel_rfl) (by kernel_rfl) (by kernel_rfl) (Nat.le_of_ble_eq_true rfl)) (by first | rfl | kernel_rfl) rfl ⟨rfl, trivial⟩ ?_
  refine yP (zaq (r := .row _)) ?_
  refine zal (zbe 78 Tryz.underlying25 eo55 (zbX) (by simp only [maxLen]; omega) (by omega) hk1 rfl) rfl rfl ⟨rfl, rfl, rfl, trivial⟩ ?_
  refine yP (zas (r := .row _)) ?_
  refine zab ?_
  refine zaf ?_
  refine fT (fun _ => 78) (.tmp _ _ _ _ rfl .nil) ?_ ?_
  ·exact rfl
  ·exact ⟨⟨rfl, rfl⟩, trivial⟩
end Go.Proofs.YtgpleldhddpcgaaGreatDoor
