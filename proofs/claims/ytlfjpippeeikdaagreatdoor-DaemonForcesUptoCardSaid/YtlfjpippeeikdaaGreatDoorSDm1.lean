/- Tries, the references: owned nets, growing. -/
import Derived.Test.YtlfjpippeeikdaaGreatDoorSTw5
set_option linter.all false
namespace Go.Proofs.YtlfjpippeeikdaaGreatDoor
open Tryz
open Go.RowKit Go.Sort
set_option maxHeartbeats 16000000
set_option maxRecDepth 100000
theorem krJoin_s (p q : Key) (hp : p.length ≤ 32) (hq : q.length ≤ 32) : Fn prog 87 [.agg (keyA p), .agg (keyA q)] (.tup [.agg (keyA (lcpL p q)), qd 0]) [] := by
 have h := nrJoin_s (zau p) p.length (zau q) q.length (zbL p hp) (zbL q hq) (zbk p hp).1 (zbk p hp).2 (zbk q hq).1 (zbk q hq).2
 exact jck
theorem kbit_s (q : Key) (i : Nat) (hq : q.length ≤ 32) (hi : i < q.length) : Fn prog 88 [qe (zau q), qd (i : Nat)] (qe (bitN q i : Nat)) [] := by
 have h := nbit_s (zau q) (i : Nat) qk qk (zbk q hq).1 (zbk q hq).2
 have e : bitI (zau q) (i : Nat) = ((bitN q i : Nat) : Int) := by
  unfold bitI bitN
  rw [bit_key q i hq hi]
  split <;> rfl
 rwa [e] at h
theorem one_at {M : List (Key × Own)} {i : Nat} {x : Key × Own} (h : M[i]? = some x) : ((nds (M.map one)).drop (i * 4)).take 4 = [qi (zau x.1), qh x.1.length, qg x.2, qh 1] :=
 nds_at _ i (one x) (by rw [qbf, h]; rfl)
theorem one_len (M : List (Key × Own)) : (nds (M.map one)).length = M.length * 4 := by rw [zem, qaR]
theorem toND_len (n : Nat) (M : List (Key × Own)) : ((zbm n M).map toND).length ≤ 2 * M.length := by
 have := zdF n M
 rw [qaR]; omega
theorem grown_s : ∀ (n : Nat) (M : List (Key × Own)), M.length ≤ n → (∀ x ∈ M, x.1.length ≤ 32) → M.length ≤ 17179869184 →
 Fn prog 50 [.p (.sl M.length 4 (nds (M.map one)))] (.row 0) [(0, .row 84 4 ((zbm n M).map toND).length (nds ((zbm n M).map toND)))]
 | n, [], hn, hK, hz => by
  have e : (zbm n []).map toND = [] := by cases n <;> rfl
  rw [e]
  show Fn prog 50 [.p (.sl 0 4 [])] (.row 0) [(0, .row 84 4 0 [])]
  refine fnI fun w0 A => ?_
  refine G [9, 1, 1, 9, 0] ?_
  refine cX ?_ ?_ <;> intro h
  ·refine G [4, 9, 0] ?_
   refine zaH (zbY 2 100 84 4 rfl rfl) ?_
   refine zaB (zbs (yT (fun _ => 100) ?_ ?_))
   ·exact rfl
   ·exact ⟨⟨rfl, rfl⟩, trivial⟩
  ·cases h
 | 0, _ :: _, hn, _, _ => by simp at hn
 | n + 1, x0 :: l, hn, hK, hz => by
  have ih := grown_s n
  have hL := zdF n (zaV (zaW (x0 :: l)) false (x0 :: l))
  have hR := zdF n (zaV (zaW (x0 :: l)) true (x0 :: l))
  have hside := zib (zaW (x0 :: l)) (x0 :: l)
  have hlt := side_lt (M := x0 :: l) qz
  have hjp := zdV (l := x0 :: l)
  have hx0 := hK x0 qz
  have hgr : zbm (n + 1) (x0 :: l) = (zaW (x0 :: l), zdr (zaW (x0 :: l)) (x0 :: l), 1 + (zbm n (zaV (zaW (x0 :: l)) false (x0 :: l)) ++ zbm n (zaV (zaW (x0 :: l)) true (x0 :: l))).length) :: (zbm n (zaV (zaW (x0 :: l)) false (x0 :: l)) ++ zbm n (zaV (zaW (x0 :: l)) true (x0 :: l))) := rfl
  rw [hgr]
  clear hgr
  have hJ : zaW (x0 :: l) = zhe x0.1 ((x0 :: l).map Prod.fst) := rfl
  have hJl := joinAll_le (M := x0 :: l) hK
  obtain ⟨top, htop⟩ : ∃ top, top = zaW (x0 :: l) := ⟨_, rfl⟩
  rw [← htop] at hL hR hside hlt hjp hJ hJl ⊢
  have hfst : ∃ cs, nds ((x0 :: l).map one) = qi (zau x0.1) :: qh x0.1.length :: cs := ⟨_, rfl⟩
  have hM0 : (x0 :: l)[0]? = some x0 := rfl
  have hpos : 0 < (x0 :: l).length := qz
  generalize x0 :: l = M at *
  have hlen := one_len M
  obtain ⟨cs, hcs⟩ := hfst
  refine fnI fun w0 A => ?_
  refine G [11, 9, 0] ?_
  refine cX ?_ ?_ <;> intro h
  ·exfalso; simp at h; rw [h] at hpos; simp at hpos
  clear h
  have h0at : ((nds (M.map one)).drop (Int.toNat 0 * 4)).take 4 = [qi (zau x0.1), qh x0.1.length, qg x0.2, qh 1] := one_at hM0
  have h0d : (nds (M.map one)).drop (Int.toNat 0 * 4) = qi (zau x0.1) :: qh x0.1.length :: cs := hcs
  generalize hB : nds (M.map one) = B at *
  refine G [4] ?_
  refine zaa (za1 U25 sz84 qk qk h0d) rfl rfl ?_
  refine jdY (zah fi84_0 rfl) ?_
  refine zaa (zam U82 rfl sz82 qz (rfl)) rfl rfl ?_
  refine G [11] ?_
  refine zeu (St.of [(0, .p (.sl M.length 4 B)), (3, .ref 3 0)] [(3, .box 82 (keyA top))]) ?_ ?_
  ·refine zae (fun m st => ∃ i : Nat, m + i = M.length ∧ st = St.of [(0, .p (.sl M.length 4 B)), (3, .ref 3 0), (19, .p (.sl M.length 4 B)), (20, qd M.length), (21, qd i)] [(3, .box 82 (keyA (zhe x0.1 ((M.take i).map Prod.fst))))]) M.length ?_ ?_
   ·refine ⟨_, zad id _ _ qp qp rfl, 0, qk, rfl⟩
   rintro m st ⟨i, hi, rfl⟩
   refine G [5] ?_
   refine cX ?_ ?_ <;> intro h
   ·have hlt : i < M.length := by simp at h; omega
    clear h
    obtain ⟨x, hx⟩ : ∃ x, M[i]? = some x := ⟨M[i], List.getElem?_eq_getElem hlt⟩
    have hld := one_at hx
    rw [hB] at hld
    have hxl := hK x (qaE hx)
    have hnx := joinK_take (p := x0.1) hx
    have hJp := (zf3 ((M.take i).map Prod.fst) x0.1).length_le
    have hC := krJoin_s (zhe x0.1 ((M.take i).map Prod.fst)) x.1 qk hxl
    rw [← hnx] at hC
    generalize zhe x0.1 ((M.take i).map Prod.fst) = j at *
    refine G [6] ?_
    refine zaa (zam U84 rfl sz84 qK (hld)) rfl rfl ?_
    refine G [7] ?_
    refine cV hC ?_
    refine G [9, 9, 0] ?_
    refine ⟨m - 1, qk, _, zad id _ _ qp qp rfl, i + 1, qk, rfl⟩
   ·have hge : i = M.length := by simp at h; omega
    subst hge
    rw [qa5, ← hJ]
    refine zaG (zbA (zbA (zb0 (zaE ?_))))
    exact zad id _ _ qp qp rfl
  refine G [12, 9, 0] ?_
  refine zaH (zbY 7 7 84 4 rfl rfl) ?_
  refine zaH (zbY 8 8 84 4 rfl rfl) ?_
  refine G [8] ?_
  refine zeu (St.of [(6, .ref 6 0), (7, .row 7), (8, .row 8)] [(6, .box 84 [qe (zau top), qd top.length, qc (zdr top M), qd 0]), (7, .row 84 4 (zaV top false M).length (nds ((zaV top false M).map one))), (8, .row 84 4 (zaV top true M).length (nds ((zaV top true M).map one)))]) ?_ ?_
  ·refine zae (fun m st => ∃ i : Nat, m + i = M.length ∧ st = St.of [(3, .ref 3 0), (6, .ref 6 0), (7, .row 7), (8, .row 8), (35, .p (.sl M.length 4 B)), (36, qd M.length), (37, qd i)] [(3, .box 82 (keyA top)), (6, .box 84 [qe (zau top), qd top.length, qc (zdr top (M.take i)), qd 0]), (7, .row 84 4 (zaV top false (M.take i)).length (nds ((zaV top false (M.take i)).map one))), (8, .row 84 4 (zaV top true (M.take i)).length (nds ((zaV top true (M.take i)).map one)))]) M.length ?_ ?_
   ·refine ⟨_, zad id _ _ qp qp rfl, 0, qk, rfl⟩
   rintro m st ⟨i, hi, rfl⟩
   refine G [5] ?_
   refine cX ?_ ?_ <;> intro h
   ·have hlt' : i < M.length := by simp at h; omega
    clear h
    obtain ⟨x, hx⟩ : ∃ x, M[i]? = some x := ⟨M[i], List.getElem?_eq_getElem hlt'⟩
    have hld := one_at hx
    rw [hB] at hld
    have hxl := hK x (qaE hx)
    have hxp := hjp x (qaE hx)
    have n1 := rootOwn_take (top := top) hx
    have n2 := zhF (top := top) (b := false) hx
    have n3 := zhF (top := top) (b := true) hx
    have hEq := keyEq (p := x.1) (q := top) hxl
    have hsd := zib top (M.take i)
    have htk := take_len M i
    generalize zdr top (M.take i) = ow at *
    generalize zaV top false (M.take i) = sl at *
    generalize zaV top true (M.take i) = sr at *
    obtain ⟨xk, xo⟩ := x
    simp only at n1 n2 n3 hEq hxp hxl hld
    by_cases hxt : xk = top
    ·rw [if_pos hxt] at n1
     rw [if_neg (by simp [hxt]), qaV] at n2 n3
     rw [hxt] at hEq hld
     subst n1
     subst n2
     subst n3
     refine G [6] ?_
     refine zaa (zam U84 rfl sz84 qK (hld)) rfl rfl ?_
     refine G [9] ?_
     refine zaa (a_steqT U82 rfl qm qm) rfl rfl ?_
     refine G [2, 9, 0] ?_
     refine cX ?_ ?_ <;> intro h
     ·skip
      refine G [10, 9, 0] ?_
      refine ⟨m - 1, qk, _, zad id _ _ qp qp rfl, i + 1, qk, rfl⟩
     ·cases h
    ·rw [if_neg hxt] at n1
     rw [decide_eq_false hxt] at hEq
     have hx1 := zcv hxp hxt
     have hxlt : top.length < xk.length := by have := hx1.length_le; simp at this; omega
     have hbit := kbit_s xk top.length hxl hxlt
     cases hb : zbH xk top.length with
     | false =>
      rw [if_pos ⟨hxt, hb⟩] at n2
      rw [if_neg (by simp [hb]), qaV] at n3
      subst n1
      subst n3
      rw [show bitN xk top.length = 0 by unfold bitN; rw [hb]; rfl] at hbit
      have hl2 : sl.length + 1 = (zaV top false (M.take (i + 1))).length := by rw [n2]; simp
      have happ : nds (sl.map one) ++ [qi (zau xk), qh xk.length, qg xo, qh 1] = nds ((zaV top false (M.take (i + 1))).map one) := by rw [n2, qa4, zg7]; rfl
      refine G [6] ?_
      refine zaa (zam U84 rfl sz84 qK (hld)) rfl rfl ?_
      refine G [9] ?_
      refine zaa (ze6 U82 rfl rfl qm qm qm) rfl rfl ?_
      refine G [2, 9, 0] ?_
      refine cX ?_ ?_ <;> intro h
      ·have h' := h
       rw [hEq] at h'; cases h'
      refine G [7] ?_
      refine cV hbit ?_
      refine G [0, 1, 2, 9, 0] ?_
      refine cX ?_ ?_ <;> intro h
      ·skip
       refine G [3] ?_
       refine zab (xs := [.agg [qe (zau xk), qd xk.length, qc xo, qd 1]]) (zai (es := [qe (zau xk), qd xk.length, qc xo, qd 1]) (cs := [qi (zau xk), qh xk.length, qg xo, qh 1]) 63 U25 sz84 zc84 (qaA rfl) (qaA rfl) rfl qm qm qm (qaA rfl)) qH rfl ⟨rfl, trivial⟩ ?_
       refine zab (zaq 64 U25 eo84 (zaU) qy qk hl2 happ) rfl rfl ⟨rfl, rfl, rfl, trivial⟩ ?_
       refine G [6, 9, 0] ?_
       refine ⟨m - 1, qk, _, zad (fun o => bif Nat.beq o 7 then 64 else o) _ _ qp qp rfl, i + 1, qk, rfl⟩
      ·cases h
     | true =>
      rw [if_pos ⟨hxt, hb⟩] at n3
      rw [if_neg (by simp [hb]), qaV] at n2
      subst n1
      subst n2
      rw [show bitN xk top.length = 1 by unfold bitN; rw [hb]; rfl] at hbit
      have hl2 : sr.length + 1 = (zaV top true (M.take (i + 1))).length := by rw [n3]; simp
      have happ : nds (sr.map one) ++ [qi (zau xk), qh xk.length, qg xo, qh 1] = nds ((zaV top true (M.take (i + 1))).map one) := by rw [n3, qa4, zg7]; rfl
      refine G [6] ?_
      refine zaa (zam U84 rfl sz84 qK (hld)) rfl rfl ?_
      refine G [9] ?_
      refine zaa (ze6 U82 rfl rfl qm qm qm) rfl rfl ?_
      refine G [2, 9, 0] ?_
      refine cX ?_ ?_ <;> intro h
      ·have h' := h
       rw [hEq] at h'; cases h'
      refine G [7] ?_
      refine cV hbit ?_
      refine G [3, 9, 0] ?_
      refine cX ?_ ?_ <;> intro h
      ·cases h
      ·skip
       refine G [3] ?_
       refine zab (xs := [.agg [qe (zau xk), qd xk.length, qc xo, qd 1]]) (zai (es := [qe (zau xk), qd xk.length, qc xo, qd 1]) (cs := [qi (zau xk), qh xk.length, qg xo, qh 1]) 43 U25 sz84 zc84 (qaA rfl) (qaA rfl) rfl qm qm qm (qaA rfl)) qH rfl ⟨rfl, trivial⟩ ?_
       refine zab (zaq 44 U25 eo84 (zaU) qy qk hl2 happ) rfl rfl ⟨rfl, rfl, rfl, trivial⟩ ?_
       refine G [6, 9, 0] ?_
       refine ⟨m - 1, qk, _, zad (fun o => bif Nat.beq o 8 then 44 else o) _ _ qp qp rfl, i + 1, qk, rfl⟩
   ·have hge : i = M.length := by simp at h; omega
    subst hge
    rw [qa5]
    refine zaG (zbA (zbA (zb0 (zaE ?_))))
    exact zad id _ _ qp qp rfl
  have gl := ih (zaV top false M) (by have := hlt false; omega) (fun x hx => hK x (zgY.1 hx).1) qk
  have gr := ih (zaV top true M) (by have := hlt true; omega) (fun x hx => hK x (zgY.1 hx).1) qk
  have b1 := zen ((zaV top false M).map one)
  have b2 := zen ((zaV top true M).map one)
  have b3 := zen ((zbm n (zaV top false M)).map toND)
  have b4 := zen ((zbm n (zaV top true M)).map toND)
  have l1 := toND_len n (zaV top false M)
  have l2 := toND_len n (zaV top true M)
  rw [qaF, qa4, zdk, zg7]
  have e1 : 1 + (zbm n (zaV top false M) ++ zbm n (zaV top true M)).length = 1 + (((zbm n (zaV top false M)).map toND).length + ((zbm n (zaV top true M)).map toND).length) := qz
  rw [e1]
  simp only [qaO, qaC] at *
  clear e1 hJ
  generalize (zbm n (zaV top false M)).map toND = L1 at *
  generalize (zbm n (zaV top true M)).map toND = L2 at *
  generalize zaV top false M = M1 at *
  generalize zaV top true M = M2 at *
  generalize zdr top M = ow at *
  refine G [3] ?_
  refine zbQ (fun n => 67 + 1000 * n) (gl) rfl rfl func50 rfl rfl (by simp [AV.noSl, AV.noSlL, AObj.noSl, b3]) (by simp [AV.noSl, AV.noSlL, AObj.noSl, b3]) rfl rfl rfl ql rfl rfl rfl ?_
  refine jdY (zaI (r := .row _)) ?_
  refine zbQ (fun n => 69 + 1000 * n) (gr) rfl rfl func50 rfl rfl (by simp [AV.noSl, AV.noSlL, AObj.noSl, b4]) (by simp [AV.noSl, AV.noSlL, AObj.noSl, b4]) rfl rfl rfl ql rfl rfl rfl ?_
  refine zab (zaq 70 U25 eo84 (zaU) qy qk rfl rfl) rfl rfl ⟨rfl, rfl, rfl, trivial⟩ ?_
  refine G [2] ?_
  have hsz : IntKind.i64.wrap (1 + ((L1.length + L2.length : Nat) : Int)) = ((1 + (L1.length + L2.length) : Nat) : Int) := by rw [qa6 _ (by omega)]; omega
  have hk1 : 1 + (L1.length + L2.length) = L1.length + L2.length + 1 := qk
  refine G [4] ?_
  refine jdY (zd8 hsz) ?_
  refine G [6] ?_
  refine zab (xs := [.agg [qe (zau top), qd top.length, qc ow, qd ((1 + (L1.length + L2.length) : Nat) : Int)]]) (zai (es := [qe (zau top), qd top.length, qc ow, qd ((1 + (L1.length + L2.length) : Nat) : Int)]) (cs := [qi (zau top), qh top.length, qg ow, qh ((1 + (L1.length + L2.length) : Nat) : Int)]) 76 U25 sz84 zc84 (qaA rfl) (qaA rfl) rfl qm qm qm (qaA rfl)) qH rfl ⟨rfl, trivial⟩ ?_
  refine jdY (zaI (r := .row _)) ?_
  refine zab (zaq 78 U25 eo84 (zaU) qy qk hk1 rfl) rfl rfl ⟨rfl, rfl, rfl, trivial⟩ ?_
  refine G [3, 9, 0] ?_
  refine yT (fun _ => 78) ?_ ?_
  ·exact rfl
  ·exact ⟨⟨rfl, rfl⟩, trivial⟩
theorem ND.of_ty {n : Nat} {ps : List PV} (h : Ty prog (n + 3) 84 ps) : ∃ x : ND, x.OK ∧ ps = x.pv := by
 obtain ⟨_, rfl, x0, _, rfl, t0, x1, _, rfl, t1, x2, _, rfl, t2, rfl⟩ := zbi (ts := [82, 9, 3]) qm h
 obtain ⟨_, rfl, y0, _, rfl, u0, y1, _, rfl, u1, rfl⟩ := zbi (ts := [80, 3]) qm t0
 obtain ⟨a1, rfl, w1⟩ := zbF U9 t1
 obtain ⟨a2, rfl, w2⟩ := zbz U3 t2
 obtain ⟨b0, rfl, v0⟩ := zbz U80 u0
 obtain ⟨b1, rfl, v1⟩ := zbz U3 u1
 refine ⟨⟨b0, b1, a1, a2⟩, ?_, rfl⟩
 have := ze9 w2; have := ze9 v1; have := wf_u32 v0
 exact jcF
theorem nodes_of_ty {n : Nat} {ps : List PV} (h : Ty prog (n + 4) 25 ps) : ∃ l : List ND, (∀ x ∈ l, x.OK) ∧ l.length * 40 ≤ 140737488351232 ∧ ps = [ndsV l] := by
 obtain ⟨L, rfl, hz, hL⟩ := ty_sliceS U25 (sz := 4) qm h
 have hb : prog.bytesOf 84 = 40 := qm
 rw [hb] at hz
 have : reachBytes ≤ 140737488351232 := qaA rfl
 have hex : ∃ l : List ND, (∀ x ∈ l, x.OK) ∧ L = l.map ND.pv := by
  clear hz this h
  induction L with
  | nil => exact ⟨[], qz, rfl⟩
  | cons y L ih =>
   obtain ⟨l, h1, h2⟩ := ih (fun x hx => hL x qay)
   obtain ⟨x, hx, e⟩ := ND.of_ty (hL y qz).1
   refine ⟨x :: l, fun z hz => ?_, by rw [h2, e]; rfl⟩
   rcases qaI.1 hz with rfl | hz
   ·exact hx
   ·exact h1 z hz
 obtain ⟨l, h1, rfl⟩ := hex
 rw [qaR] at hz
 refine ⟨l, h1, qk, ?_⟩
 rw [qaR]
 unfold ndsV nds
 rw [List.flatMap_def]
structure DM where
 c : CF
 tree : List ND
 ps : List ST
 sg : SG
 gen : Int
 now : Int
 last : Int
def dmC (key : ByteArray) (port : Int) (P T S : PV) (lv : Bool) (R : PV) (sk : ByteArray) (sp : Int) (Q : PV) (at_ : ByteArray) (err gen now last : Int) : List AV :=
 [qc key, qd port, .p P, .p T, .p S, qf lv, .p R, qc sk, qd sp, .p Q, qc at_, qd err, qd gen, qd now, qd last]
def CF.row (c : CF) : PV := .sl c.ps.length 5 (c.ps.flatMap PE.pv)
def stsV (l : List ST) : PV := .sl l.length 41 (l.flatMap ST.pv)
def sesV (l : List SE) : PV := .sl l.length 5 (l.flatMap SE.pv)
def DM.cells (d : DM) : List AV := dmC d.c.key d.c.port d.c.row (ndsV d.tree) (stsV d.ps) d.sg.lv (sesV d.sg.rest) d.sg.c.key d.sg.c.port d.sg.c.row d.sg.at_ d.sg.err d.gen d.now d.last
def DM.pv (d : DM) : List PV := d.c.pv ++ [ndsV d.tree, stsV d.ps] ++ d.sg.pv ++ [qh d.gen, qh d.now, qh d.last]
structure DM.OK (d : DM) : Prop where
 c : d.c.OK
 tree : ∀ x ∈ d.tree, x.OK
 treeN : d.tree.length * 40 ≤ 140737488351232
 ps : ∀ s ∈ d.ps, s.OK ∧ s.B
 psN : d.ps.length ≤ 1048576
 sg : d.sg.OK
theorem DM.of_ty {n : Nat} {ps : List PV} (h : Ty prog (n + 9) 32 ps) (hb : PV.bdL 1048576 ps) : ∃ d : DM, d.OK ∧ ps = d.pv := by
 obtain ⟨_, rfl, x0, _, rfl, t0, x1, _, rfl, t1, x2, _, rfl, t2, x3, _, rfl, t3, x4, _, rfl, t4, x5, _, rfl, t5, x6, _, rfl, t6, rfl⟩ := zbi (ts := [24, 25, 26, 30, 3, 3, 3]) qm h
 obtain ⟨c, okc, rfl⟩ := CF.of_ty t0 (zbr hb x0 qz)
 obtain ⟨tr, okt, hz, rfl⟩ := nodes_of_ty t1
 obtain ⟨l, okl, hl, rfl⟩ := ST.list_tyB t2 (zbr hb x2 qz)
 obtain ⟨s, oks, rfl⟩ := SG.of_ty t3 (zbr hb x3 qz)
 obtain ⟨a4, rfl, _⟩ := zbz U3 t4
 obtain ⟨a5, rfl, _⟩ := zbz U3 t5
 obtain ⟨a6, rfl, _⟩ := zbz U3 t6
 exact ⟨⟨c, tr, l, s, a4, a5, a6⟩, ⟨okc, okt, hz, okl, hl, oks⟩, by simp [DM.pv, stsV]⟩
noncomputable def sgB (s t : SG) : Bool := ((((s.lv == t.lv) && eqB s.rest t.rest) && cfB s.c t.c) && decide (s.at_ = t.at_)) && (s.err == t.err)
noncomputable def dmB (d o : DM) : Bool := (((((cfB d.c o.c && eqB d.tree o.tree) && eqB d.ps o.ps) && sgB d.sg o.sg) && (d.gen == o.gen)) && (d.now == o.now)) && (d.last == o.last)
theorem cfB_self (c : CF) : cfB c c = true := by simp [cfB, ziz]
theorem sgB_self (s : SG) : sgB s s = true := by simp [sgB, ziz, cfB_self]
theorem dmB_self (d : DM) : dmB d d = true := by simp [dmB, ziz, cfB_self, sgB_self]
theorem sameNodes_d (l m : List ND) (hl : l.length ≤ 4611686018427387904) (hm : m.length ≤ 4611686018427387904) : Fn prog 25 [.p (ndsV l), .p (ndsV m)] (qf (eqB l m)) [] := by
 have hC := eqNodes_d l m hl hm
 change Fn prog _ [.p (ndsV l), .p (ndsV m)] _ _ at hC
 generalize eqB l m = b at *
 generalize ndsV l = L at *
 generalize ndsV m = M at *
 exact jby
theorem sameSets_d (l m : List SE) (hl : l.length ≤ 4611686018427387904) (hm : m.length ≤ 4611686018427387904) : Fn prog 58 [.p (sesV l), .p (sesV m)] (qf (eqB l m)) [] := by
 have hC := eqSets_d l m hl hm
 change Fn prog _ [.p (sesV l), .p (sesV m)] _ _ at hC
 generalize eqB l m = b at *
 generalize sesV l = L at *
 generalize sesV m = M at *
 exact jby
def sgV (lv : Bool) (R : PV) (sk : ByteArray) (sp : Int) (Q : PV) (at_ : ByteArray) (err : Int) : List AV := [qf lv, .p R, qc sk, qd sp, .p Q, qc at_, qd err]
def cfV (k : ByteArray) (p : Int) (Q : PV) : List AV := [qc k, qd p, .p Q]
theorem sameStage_q (s t : SG) (l1 : s.rest.length ≤ 1048576) (l2 : t.rest.length ≤ 1048576) (c1 : s.c.OK) (c2 : t.c.OK) : Fn prog 27 [.agg s.cells, .agg t.cells] (qf (sgB s t)) [] := by
 have hS := sameSets_d s.rest t.rest qk qk
 have hC := zhG s.c t.c c1 c2
 clear l1 l2 c1 c2
 obtain ⟨v1, r1, ⟨k1, p1, q1⟩, a1, e1⟩ := s
 obtain ⟨v2, r2, ⟨k2, p2, q2⟩, a2, e2⟩ := t
 dsimp only at hS hC
 change Fn prog _ [.agg (cfV k1 p1 (CF.row ⟨k1, p1, q1⟩)), .agg (cfV k2 p2 (CF.row ⟨k2, p2, q2⟩))] _ _ at hC
 show Fn prog _ [.agg (sgV v1 (sesV r1) k1 p1 (CF.row ⟨k1, p1, q1⟩) a1 e1), .agg (sgV v2 (sesV r2) k2 p2 (CF.row ⟨k2, p2, q2⟩) a2 e2)] (qf (((((v1 == v2) && eqB r1 r2) && cfB ⟨k1, p1, q1⟩ ⟨k2, p2, q2⟩) && decide (a1 = a2)) && (e1 == e2))) _
 generalize cfB ⟨k1, p1, q1⟩ ⟨k2, p2, q2⟩ = cb at *
 generalize CF.row ⟨k1, p1, q1⟩ = Q1 at *
 generalize CF.row ⟨k2, p2, q2⟩ = Q2 at *
 generalize eqB r1 r2 = rb at *
 generalize sesV r1 = R1 at *
 generalize sesV r2 = R2 at *
 refine fnI fun w0 A => ?_
 refine G [12] ?_
 refine jdY (a_beql U4) ?_
 refine G [5] ?_
 refine mb2 _ rfl rfl (fun _ => zbl func58 rfl rfl (hS) qr rfl) (fun _ => trivial) ?_
 refine G [0, 2, 2] ?_
 refine mb2 _ rfl rfl (fun hb => (zaf U24 rfl sz24 qo qt)) (fun _ => ⟨rfl, trivial⟩) ?_
 refine mb2 _ rfl rfl (fun hb => (zar fi30_2 rfl)) (fun _ => trivial) ?_
 refine mb2 _ rfl rfl (fun hb => (zaf U24 rfl sz24 qo qt)) (fun _ => ⟨rfl, trivial⟩) ?_
 refine mb2 _ rfl rfl (fun _ => zbl func24 rfl rfl (hC) qr rfl) (fun _ => trivial) ?_
 refine G [0, 2, 6, 2, 6, 2, 3, 9, 0] ?_
 exact yE
structure DM.Q (d : DM) : Prop where
 c : d.c.OK
 treeN : d.tree.length * 40 ≤ 140737488351232
 ps : ∀ s ∈ d.ps, s.B
 psN : d.ps.length ≤ 1048576
 rest : d.sg.rest.length ≤ 1048576
 sgc : d.sg.c.OK
theorem DM.OK.q {d : DM} (h : d.OK) : d.Q := ⟨h.c, h.treeN, fun s hs => (h.ps s hs).2, h.psN, h.sg.len, h.sg.c⟩
theorem sameDaemon_q (d o : DM) (od : d.Q) (oo : o.Q) : Fn prog 7 [.agg d.cells, .agg o.cells] (qf (dmB d o)) [] := by
 have hC := zhG d.c o.c od.c oo.c
 have hT := sameNodes_d d.tree o.tree (by have := od.treeN; omega) (by have := oo.treeN; omega)
 have hS := sameStates_d d.ps o.ps od.psN oo.psN od.ps oo.ps
 have hG := sameStage_q d.sg o.sg od.rest oo.rest od.sgc oo.sgc
 clear od oo
 obtain ⟨⟨k1, p1, q1⟩, t1, s1, ⟨v1, r1, ⟨sk1, sp1, sq1⟩, a1, e1⟩, g1, w1, l1'⟩ := d
 obtain ⟨⟨k2, p2, q2⟩, t2, s2, ⟨v2, r2, ⟨sk2, sp2, sq2⟩, a2, e2⟩, g2, w2, l2'⟩ := o
 dsimp only at hC hT hS hG
 change Fn prog _ [.agg (cfV k1 p1 (CF.row ⟨k1, p1, q1⟩)), .agg (cfV k2 p2 (CF.row ⟨k2, p2, q2⟩))] _ _ at hC
 change Fn prog _ [.p (stsV s1), .p (stsV s2)] _ _ at hS
 change Fn prog _ [.agg (sgV v1 (sesV r1) sk1 sp1 (CF.row ⟨sk1, sp1, sq1⟩) a1 e1), .agg (sgV v2 (sesV r2) sk2 sp2 (CF.row ⟨sk2, sp2, sq2⟩) a2 e2)] _ _ at hG
 show Fn prog _ [.agg (dmC k1 p1 (CF.row ⟨k1, p1, q1⟩) (ndsV t1) (stsV s1) v1 (sesV r1) sk1 sp1 (CF.row ⟨sk1, sp1, sq1⟩) a1 e1 g1 w1 l1'), .agg (dmC k2 p2 (CF.row ⟨k2, p2, q2⟩) (ndsV t2) (stsV s2) v2 (sesV r2) sk2 sp2 (CF.row ⟨sk2, sp2, sq2⟩) a2 e2 g2 w2 l2')] (qf ((((((cfB ⟨k1, p1, q1⟩ ⟨k2, p2, q2⟩ && eqB t1 t2) && eqB s1 s2) && sgB ⟨v1, r1, ⟨sk1, sp1, sq1⟩, a1, e1⟩ ⟨v2, r2, ⟨sk2, sp2, sq2⟩, a2, e2⟩) && (g1 == g2)) && (w1 == w2)) && (l1' == l2'))) _
 generalize sgB ⟨v1, r1, ⟨sk1, sp1, sq1⟩, a1, e1⟩ ⟨v2, r2, ⟨sk2, sp2, sq2⟩, a2, e2⟩ = gb at *
 generalize cfB ⟨k1, p1, q1⟩ ⟨k2, p2, q2⟩ = cb at *
 generalize CF.row ⟨k1, p1, q1⟩ = Q1 at *
 generalize CF.row ⟨k2, p2, q2⟩ = Q2 at *
 generalize eqB t1 t2 = tb at *
 generalize ndsV t1 = T1 at *
 generalize ndsV t2 = T2 at *
 generalize eqB s1 s2 = pb at *
 generalize stsV s1 = S1 at *
 generalize stsV s2 = S2 at *
 generalize CF.row ⟨sk1, sp1, sq1⟩ = SQ1 at *
 generalize CF.row ⟨sk2, sp2, sq2⟩ = SQ2 at *
 generalize sesV r1 = R1 at *
 generalize sesV r2 = R2 at *
 refine fnI fun w0 A => ?_
 refine G [12] ?_
 refine cK hC ?_
 refine G [5] ?_
 refine mb2 _ rfl rfl (fun _ => zbl func25 rfl rfl (hT) qr rfl) (fun _ => trivial) ?_
 refine G [0, 2, 5] ?_
 refine mb2 _ rfl rfl (fun _ => zbl func26 rfl rfl (hS) qr rfl) (fun _ => trivial) ?_
 refine G [0, 2, 2] ?_
 refine mb2 _ rfl rfl (fun hb => (zaf U30 rfl sz30 qo qt)) (fun _ => ⟨rfl, trivial⟩) ?_
 refine mb2 _ rfl rfl (fun hb => (zar fi32_3 rfl)) (fun _ => trivial) ?_
 refine mb2 _ rfl rfl (fun hb => (zaf U30 rfl sz30 qo qt)) (fun _ => ⟨rfl, trivial⟩) ?_
 refine mb2 _ rfl rfl (fun _ => zbl func27 rfl rfl (hG) qr rfl) (fun _ => trivial) ?_
 refine G [0, 2, 6, 2, 6, 2, 6, 2, 3, 9, 0] ?_
 exact yE
end Go.Proofs.YtlfjpippeeikdaaGreatDoor
