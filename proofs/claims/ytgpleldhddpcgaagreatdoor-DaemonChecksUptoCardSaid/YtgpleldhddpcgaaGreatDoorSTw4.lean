/- trie: the list of a tree, putting. -/
import Derived.Test.YtgpleldhddpcgaaGreatDoorSTw3
namespace Go.Proofs.YtgpleldhddpcgaaGreatDoor
open Go.RowKit Go.Sort
set_option linter.unusedVariables false
set_option linter.unusedSimpArgs false
set_option maxRecDepth 100000
set_option maxHeartbeats 2000000 in
theorem list_s : ∀ (t : TR), t.list.length * 40 ≤ 140737488355328 → Fn Tryz.prog 60 [.p (trP t)] (.row 0) [(0, .row 55 4 t.list.length (nds t.list))]
 | .nil, hz => by
  show Fn Tryz.prog 60 [.p (.v (.pointer none))] (.row 0) [(0, .row 55 4 0 [])]
  refine zap Tryz.func60 rfl (Nat.le_of_ble_eq_true rfl) fun w0 A => ?_
  refine zaa ?_
  refine tx ?_
  refine yA ?_
  refine zab ?_
  refine zaa (zaa ?_)
  refine tx ?_
  refine yM ?_
  refine yP (a_peqNN Tryz.underlying100) ?_
  refine zab ?_
  refine zae ?_
  refine zah _ rfl (fun h => ?_) (fun h => ?_)
  ·refine zaa ?_
   refine tx ?_
   refine yA ?_
   refine zab ?_
   refine zae (zcu (zdk 2 100 55 4 rfl rfl) ?_)
   refine zaf (zam ?_)
   refine fT (fun _ => 100) (.tmp _ _ _ _ rfl .nil) ?_ ?_
   ·exact rfl
   ·exact ⟨⟨rfl, rfl⟩, trivial⟩
  ·cases h
 | .nd p o l r, hz => by
  rw [TR.list_nd] at hz ⊢
  simp only [List.length_cons, List.length_append] at hz
  have hl := list_s l (by omega)
  have hr := list_s r (by omega)
  show Fn Tryz.prog 60 [.p (.pt [.v (.int .u32 (zaT p)), .v (.int .i64 p.length), .v (.string o), trP l, trP r])] (.row 0) _
  rw [zc2, zga]
  simp only [List.length_cons, List.length_append]
  generalize nds l.list = cl at *
  generalize nds r.list = cr at *
  generalize l.list.length = nl at *
  generalize r.list.length = nr at *
  have hk1 : 1 + nl = nl + 1 := by omega
  have hk2 : nl + 1 + nr = nl + nr + 1 := by omega
  have hst : setR (([.v (.int .u32 (zaT p)), .v (.int .i64 p.length), .v (.string o), .v (.int .i64 0)] ++ cl) ++ cr) 3 [.v (.int .i64 ((nl + nr + 1 : Nat) : Int))] = .v (.int .u32 (zaT p)) :: .v (.int .i64 p.length) :: .v (.string o) :: .v (.int .i64 ((nl + nr + 1 : Nat) : Int)) :: (cl ++ cr) := by simp [setR]
  refine zap Tryz.func60 rfl (Nat.le_of_ble_eq_true rfl) fun w0 A => ?_
  refine zaa ?_
  refine tx ?_
  refine yA ?_
  refine zab ?_
  refine zaa (zaa ?_)
  refine tx ?_
  refine yM ?_
  refine yP (a_peqPN Tryz.underlying100) ?_
  refine zab ?_
  refine zae ?_
  refine zah _ rfl (fun h => ?_) (fun h => ?_)
  ·cases h
  refine zad (zaa ?_)
  refine zav 4 (by kernel_rfl) ?_
  refine yM ?_
  refine yP zbC ?_
  refine yP (zaH zbB rfl) ?_
  refine zac (zaz Tryz.underlying52 rfl sz52 (by first | omega | (simp; done) | (simp; omega)) (rfl)) rfl rfl ?_
  refine yM ?_
  refine yP zbC ?_
  refine yP (zaH fi146_1 rfl) ?_
  refine zac (zbx Tryz.underlying9 rfl (by first | rfl | assumption | ((try simp only [List.getElem?_drop, List.getElem?_take, Int.toNat_natCast, Nat.mul_one, Nat.add_zero, Nat.zero_add]); first | assumption | rfl))) rfl rfl ?_
  refine yP (zaR pl55 zr55 rfl rfl) ?_
  refine zal (zaO 15 Tryz.underlying25 sz55 zc55 (Nat.le_of_ble_eq_true rfl) (Nat.le_of_ble_eq_true rfl) rfl rfl rfl rfl (Nat.le_of_ble_eq_true rfl)) rfl rfl ⟨rfl, trivial⟩ ?_
  refine yP (zas (r := .row _)) ?_
  refine zab ⟨by kernel_rfl, ?_⟩
  refine zaa ?_
  refine zav 8 (by kernel_rfl) ?_
  refine yP (zaq (r := .row _)) ?_
  refine yM ?_
  refine yP zbC ?_
  refine yP (zaH zbH rfl) ?_
  refine zac (zcI Tryz.underlying144 zcc (by omega) (by omega) rfl) rfl rfl ?_
  refine zac (zbx Tryz.underlying100 rfl (by first | rfl | assumption | ((try simp only [List.getElem?_drop, List.getElem?_take, Int.toNat_natCast, Nat.mul_one, Nat.add_zero, Nat.zero_add]); first | assumption | rfl))) rfl rfl ?_
  refine cS (fun n => 22 + 1000 * n) (hl) Tryz.func60 ?_
  refine zal (zbe 23 Tryz.underlying25 eo55 (zbX) (by simp only [maxLen]; omega) (by omega) hk1 rfl) rfl rfl ⟨rfl, rfl, rfl, trivial⟩ ?_
  refine yM ?_
  refine yP zbC ?_
  refine yP (zaH zbH rfl) ?_
  refine zac (zcI Tryz.underlying144 zcc (by omega) (by omega) rfl) rfl rfl ?_
  refine zac (zbx Tryz.underlying100 rfl (by first | rfl | assumption | ((try simp only [List.getElem?_drop, List.getElem?_take, Int.toNat_natCast, Nat.mul_one, Nat.add_zero, Nat.zero_add]); first | assumption | rfl))) rfl rfl ?_
  refine cS (fun n => 29 + 1000 * n) (hr) Tryz.func60 ?_
  refine zal (zbe 30 Tryz.underlying25 eo55 (zbX) (by simp only [maxLen]; omega) (by omega) hk2 rfl) rfl rfl ⟨rfl, rfl, rfl, trivial⟩ ?_
  refine yP (zas (r := .row _)) ?_
  refine zab ⟨by kernel_rfl, ?_⟩
  refine zaa ?_
  refine tx ?_
  refine yP (zaq (r := .row _)) ?_
  refine yP (zaq (r := .row _)) ?_
  refine zal (zeu Tryz.underlying25) rfl rfl ⟨rfl, trivial⟩ ?_
  refine zal (zaY Tryz.underlying25 sz55 (by omega) (by omega) (by first | (simp only [Int.toNat_natCast, Nat.mul_one, Nat.zero_add]; rfl) | rfl)) rfl rfl ⟨rfl, trivial⟩ ?_
  refine yF zgR ?_
  refine zal (zht (Y := .p _) sz3 rfl rfl (by first | rfl | omega) (by first | omega | (simp; done) | (simp; omega)) hst) rfl rfl ⟨rfl, trivial⟩ ?_
  refine zab ?_
  refine zaa ?_
  refine tx ?_
  refine yP (zaq (r := .row _)) ?_
  refine yP (zas (r := .row _)) ?_
  refine zab ?_
  refine zaf ?_
  refine fT (fun _ => 30) (.tmp _ _ _ _ rfl .nil) ?_ ?_
  ·exact rfl
  ·exact ⟨⟨rfl, rfl⟩, trivial⟩
theorem cloneN_s (n : Nat) (cs : List PV) (hx : cs.length = n * 4) (hn : n * 40 ≤ 140737488355328) : Fn Tryz.prog 40 [.p (.sl n 4 cs)] (.row 0) [(0, .row 55 4 n cs)] := by
 refine zap Tryz.func40 rfl (Nat.le_of_ble_eq_true rfl) fun w0 A => ?_
 refine zaa ?_
 refine tx ?_
 refine yA ?_
 refine zab ?_
 by_cases h0 : n = 0
 ·subst h0
  obtain rfl : cs = [] := List.eq_nil_of_length_eq_zero (by omega)
  refine zaa (zaa ?_)
  refine tx ?_
  refine yM ?_
  refine yP (a_seqX Tryz.underlying25) ?_
  refine zab ?_
  refine zae ?_
  refine ze8 rfl ?_ ?_
  ·refine zaa ?_
   refine tx ?_
   refine yA ?_
   refine zab ?_
   refine zae (zcu (zdk 2 100 55 4 rfl rfl) ?_)
   refine zaf (zam ?_)
   refine fT (fun _ => 100) (.tmp _ _ _ _ rfl .nil) ?_ ?_
   ·exact rfl
   ·exact ⟨⟨rfl, rfl⟩, trivial⟩
  ·refine zad (zaa ?_)
   refine tx ?_
   refine zal (zbG 5 Tryz.underlying25 sz55) rfl rfl ⟨rfl, trivial⟩ ?_
   refine yM ?_
   refine zal (zbe 7 Tryz.underlying25 eo55 (zdJ) (by simp only [maxLen]; omega) (by omega) rfl rfl) rfl rfl ⟨rfl, rfl, trivial⟩ ?_
   refine yP (zas (r := .row _)) ?_
   refine zab ?_
   refine zaf ?_
   refine fT (fun _ => 7) (.tmp _ _ _ _ rfl .nil) ?_ ?_
   ·exact rfl
   ·exact ⟨⟨rfl, rfl⟩, trivial⟩
 ·refine zaa (zaa ?_)
  refine tx ?_
  refine yM ?_
  refine zac (a_seqS Tryz.underlying25 (by omega)) rfl rfl ?_
  refine zab ?_
  refine zae ?_
  refine zah _ rfl (fun h => ?_) (fun h => ?_)
  ·cases h
  ·refine zad (zaa ?_)
   refine tx ?_
   refine zal (zbG 5 Tryz.underlying25 sz55) rfl rfl ⟨rfl, trivial⟩ ?_
   refine yM ?_
   refine zal (zbe 7 Tryz.underlying25 eo55 (zdJ) (by simp only [maxLen]; omega) (by omega) (show _ = n by omega) rfl) rfl rfl ⟨rfl, rfl, trivial⟩ ?_
   refine yP (zas (r := .row _)) ?_
   refine zab ?_
   refine zaf ?_
   refine fT (fun _ => 7) (.tmp _ _ _ _ rfl .nil) ?_ ?_
   ·exact rfl
   ·exact ⟨⟨rfl, rfl⟩, trivial⟩
def keyA (p : Key) : List AV := netA (zaT p) p.length
theorem keyEq {p q : Key} (hp : p.length ≤ 32) : eqL [.int .u32 (zaT p), .int .i64 p.length] [.int .u32 (zaT q), .int .i64 q.length] = decide (p = q) := by
 rw [Bool.eq_iff_iff, za7, decide_eq_true_eq]
 constructor
 ·intro h
  simp only [List.cons.injEq, Value.int.injEq, true_and, and_true] at h
  exact zgx hp (by omega) h.1
 ·intro h; rw [h]
theorem kJoin_s (p q : Key) (hp : p.length ≤ 32) (hq : q.length ≤ 32) : Fn Tryz.prog 100 [.agg (keyA p), .agg (keyA q)] (.tup [.agg (keyA (lcpL p q)), .p (.v (.int .i64 0))]) [] := by
 have h := join_g (zaT p) p.length (zaT q) q.length (zbw p hp).1 (zbw p hp).2 (zbw q hq).1 (zbw q hq).2
 obtain ⟨e1, e2, e3⟩ := join_key p q hp hq
 rw [e1, e2, e3] at h
 refine zcG rfl (fun S m w => ?_) h
 simp only [Rep]
 refine ⟨_, rfl, ?_⟩
 simp only [RepL, Rep, keyA, netA, PRep]
 exact ⟨_, _, rfl, ⟨_, rfl, ⟨_, _, rfl, ⟨rfl, rfl⟩, _, _, rfl, ⟨rfl, rfl⟩, rfl⟩, by intro x hx; simp at hx; rcases hx with rfl | rfl <;> rfl⟩, _, _, rfl, ⟨rfl, rfl⟩, rfl⟩
set_option maxHeartbeats 4000000 in
theorem put_s : ∀ (t : TR) (n : Key) (o : ByteArray), t.short → n.length ≤ 32 → Fn Tryz.prog 58 [.p (trP t), .agg (keyA n), .p (.v (.string o))] (.p (trP (t.put n o))) []
 | .nil, n, o, hs, hn => by
  rw [TR.put]
  show Fn Tryz.prog 58 [.p (.v (.pointer none)), .agg (netA (zaT n) n.length), .p (.v (.string o))] _ []
  refine zap Tryz.func58 rfl (Nat.le_of_ble_eq_true rfl) fun w0 A => ?_
  refine zaa ?_
  refine tx ?_
  refine zal (za2 (X := .agg _) 4 rfl) rfl rfl ⟨rfl, trivial⟩ ?_
  refine yA ?_
  refine zab ?_
  refine zaa ?_
  refine tx ?_
  refine lN Tryz.underlying52 rfl sz52 rfl rfl ⟨rfl, trivial⟩ ?_
  refine yM ?_
  refine yP (zaR pl146 zr146 rfl rfl) ?_
  refine zal (za2 (X := .agg _) 15 rfl) rfl rfl ⟨rfl, trivial⟩ ?_
  refine yP (zas (r := .ref _ _)) ?_
  refine zab ?_
  refine zaa (zaj (zaa ?_))
  refine tx ?_
  refine yM ?_
  refine yP (a_peqNN Tryz.underlying100) ?_
  refine yA ?_
  refine zab ?_
  refine zae ?_
  refine zah _ rfl (fun h => ?_) (fun h => ?_)
  ·refine zcx (zdV (cs := [.v (.int .u32 (zaT n)), .v (.int .i64 n.length), .v (.string o), .v (.pointer none), .v (.pointer none)]) 15 rfl rfl) ?_
   refine zaa ?_
   refine tx ?_
   refine yM ?_
   refine yA ?_
   refine zab ?_
   refine zaf (zaK (zam ?_))
   refine yT ?_ ?_
   ·exact rfl
   ·exact trivial
  ·cases h
 | .nd p q l r, n, o, hs, hn => by
  obtain ⟨hp, hsl, hsr⟩ := hs
  have hH := zhj p n hp hn
  have hH2 := zhj n p hn hp
  have hEq := keyEq (q := n) hp
  rw [TR.put]
  show Fn Tryz.prog 58 [.p (.pt [.v (.int .u32 (zaT p)), .v (.int .i64 p.length), .v (.string q), trP l, trP r]), .agg (netA (zaT n) n.length), .p (.v (.string o))] _ []
  refine zap Tryz.func58 rfl (Nat.le_of_ble_eq_true rfl) fun w0 A => ?_
  refine zaa ?_
  refine tx ?_
  refine zal (za2 (X := .agg _) 4 rfl) rfl rfl ⟨rfl, trivial⟩ ?_
  refine yA ?_
  refine zab ?_
  refine zaa ?_
  refine tx ?_
  refine lN Tryz.underlying52 rfl sz52 rfl rfl ⟨rfl, trivial⟩ ?_
  refine yM ?_
  refine yP (zaR pl146 zr146 rfl rfl) ?_
  refine zal (za2 (X := .agg _) 15 rfl) rfl rfl ⟨rfl, trivial⟩ ?_
  refine yP (zas (r := .ref _ _)) ?_
  refine zab ?_
  refine zaa (zaj (zaa ?_))
  refine tx ?_
  refine yM ?_
  refine yP (a_peqPN Tryz.underlying100) ?_
  refine yA ?_
  refine zab ?_
  refine zae ?_
  refine zah _ rfl (fun h => ?_) (fun h => ?_)
  ·cases h
  refine zaa ?_
  refine zav 4 (by kernel_rfl) ?_
  refine yM ?_
  refine yP zbC ?_
  refine yP (zaH zbB rfl) ?_
  refine zac (zaz Tryz.underlying52 rfl sz52 (by first | omega | (simp; done) | (simp; omega)) (rfl)) rfl rfl ?_
  refine lN Tryz.underlying52 rfl sz52 rfl rfl ⟨rfl, trivial⟩ ?_
  refine zac (zdH Tryz.underlying52 rfl rfl (by kernel_rfl) (by kernel_rfl) (by kernel_rfl)) rfl rfl ?_
  refine yA ?_
  refine zab ⟨by kernel_rfl, ?_⟩
  refine zae ?_
  refine zah _ rfl (fun h => ?_) (fun h => ?_)
  ·have he : p = n := by
    have h' := h
    rw [hEq] at h'
    simpa using h'
   rw [if_pos he]
   refine zaa ?_
   refine zav 4 (by kernel_rfl) ?_
   refine lN Tryz.underlying52 rfl sz52 rfl rfl ⟨rfl, trivial⟩ ?_
   refine yM ?_
   refine yM ?_
   refine yP zbC ?_
   refine yP (zaH zbH rfl) ?_
   refine zac (zaz Tryz.underlying144 rfl sz144 (by first | omega | (simp; done) | (simp; omega)) (rfl)) rfl rfl ?_
   refine yP (zaR pl146 zr146 rfl rfl) ?_
   refine zal (za2 (X := .agg _) 34 rfl) rfl rfl ⟨rfl, trivial⟩ ?_
   refine yP (zas (r := .ref _ _)) ?_
   refine zab ⟨by kernel_rfl, ?_⟩
   refine zae (zcx (zdV (cs := [.v (.int .u32 (zaT n)), .v (.int .i64 n.length), .v (.string o), trP l, trP r]) 34 rfl rfl) ?_)
   refine zaf (zaK (zam ?_))
   refine yT ?_ ?_
   ·exact rfl
   ·exact trivial
  have hne : p ≠ n := by
   have h' := h
   rw [hEq] at h'
   simpa using h'
  clear h
  rw [if_neg hne]
  refine zaa ?_
  refine zav 4 (by kernel_rfl) ?_
  refine yM ?_
  refine yP zbC ?_
  refine yP (zaH zbB rfl) ?_
  refine zac (zaz Tryz.underlying52 rfl sz52 (by first | omega | (simp; done) | (simp; omega)) (rfl)) rfl rfl ?_
  refine lN Tryz.underlying52 rfl sz52 rfl rfl ⟨rfl, trivial⟩ ?_
  refine yV (fun n => 41 + 1000 * n) (hH) Tryz.func98 ?_
  refine yA ?_
  refine zab ⟨by kernel_rfl, ?_⟩
  refine zae ?_
  refine zah _ rfl (fun h => ?_) (fun h => ?_)
  ·have hpn : p <+: n := by simpa using h
   clear h
   rw [if_pos hpn]
   have hx := zcr hpn (fun e => hne e.symm)
   have hlt : p.length < n.length := by have := hx.length_le; simp at this; omega
   have hS := side_s p n hlt hn
   cases hb : zbV n p.length with
   | true =>
    have hP := put_s r n o hsr hn
    rw [show bitN n p.length = 1 by unfold bitN; rw [hb]; rfl] at hS
    rw [if_pos rfl]
    refine zaa ?_
    refine tx ?_
    refine yM ?_
    refine yP zbC ?_
    refine zac (zaz Tryz.underlying146 rfl sz146 (by first | omega | (simp; done) | (simp; omega)) (rfl)) rfl rfl ?_
    refine zal (zaU 8 zr146 rfl) rfl rfl ⟨rfl, trivial⟩ ?_
    refine zal (zaA (Y := .agg _) sz146 rfl (by first | exact Nat.eq_of_beq_eq_true rfl | (simp only [AV.cells, List.length_map]; first | assumption | omega)) (Nat.eq_of_beq_eq_true rfl)) rfl rfl ⟨rfl, trivial⟩ ?_
    refine zab ?_
    refine zaa ?_
    refine zav 4 (by kernel_rfl) ?_
    refine yM ?_
    refine yP zbC ?_
    refine yP (zaH zbB rfl) ?_
    refine zac (zaz Tryz.underlying52 rfl sz52 (by first | omega | (simp; done) | (simp; omega)) (rfl)) rfl rfl ?_
    refine lN Tryz.underlying52 rfl sz52 rfl rfl ⟨rfl, trivial⟩ ?_
    refine yV (fun n => 50 + 1000 * n) (hS) Tryz.func99 ?_
    refine yA ?_
    refine zab ⟨by kernel_rfl, ?_⟩
    refine zaa ?_
    refine zav 4 (by kernel_rfl) ?_
    refine yM ?_
    refine yM ?_
    refine yM ?_
    refine yP zbC ?_
    refine yP (zaH zbH rfl) ?_
    refine zac (zcI Tryz.underlying144 zcc (by omega) (by omega) rfl) rfl rfl ?_
    refine zac (zbx Tryz.underlying100 rfl (by first | rfl | assumption | ((try simp only [List.getElem?_drop, List.getElem?_take, Int.toNat_natCast, Nat.mul_one, Nat.add_zero, Nat.zero_add]); first | assumption | rfl))) rfl rfl ?_
    refine lN Tryz.underlying52 rfl sz52 rfl rfl ⟨rfl, trivial⟩ ?_
    refine yM ?_
    refine cS (fun n => 60 + 1000 * n) (hP) Tryz.func58 ?_
    refine yF zbH ?_
    refine zac (za6 Tryz.underlying144 zcc (by omega) (by omega) (by first | (simp only [Int.toNat_natCast, Nat.mul_one, Nat.zero_add]; rfl) | rfl)) rfl rfl ?_
    refine zal (zbp (Y := .p _) zcc rfl (by first | exact Nat.eq_of_beq_eq_true rfl | (simp only [AV.cells, List.length_map]; first | assumption | omega)) (by first | exact Nat.le_of_ble_eq_true rfl | omega | (simp only [AV.cells, List.length_map]; omega)) (by first | (simp only [setR, AV.cells, List.take_succ_cons, List.take_zero, List.drop_succ_cons, List.drop_zero, List.drop_nil, List.take_nil, List.nil_append, List.cons_append, List.append_nil, List.length_cons, List.length_nil, Nat.reduceAdd, Nat.zero_add, Nat.add_zero]; rfl) | rfl)) rfl rfl ⟨rfl, trivial⟩ ?_
    refine zab ⟨by kernel_rfl, ?_⟩
    refine zaa ?_
    refine tx ?_
    refine yP (zas (r := .ref _ _)) ?_
    refine zab ?_
    refine zae (zcx (zdV (cs := [.v (.int .u32 (zaT p)), .v (.int .i64 p.length), .v (.string q), trP l, trP (r.put n o)]) 8 rfl rfl) ?_)
    refine zaf (zaK (zam ?_))
    refine yT ?_ ?_
    ·exact rfl
    ·exact trivial
   | false =>
    have hP := put_s l n o hsl hn
    rw [show bitN n p.length = 0 by unfold bitN; rw [hb]; rfl] at hS
    rw [if_neg (by simp)]
    refine zaa ?_
    refine tx ?_
    refine yM ?_
    refine yP zbC ?_
    refine zac (zaz Tryz.underlying146 rfl sz146 (by first | omega | (simp; done) | (simp; omega)) (rfl)) rfl rfl ?_
    refine zal (zaU 8 zr146 rfl) rfl rfl ⟨rfl, trivial⟩ ?_
    refine zal (zaA (Y := .agg _) sz146 rfl (by first | exact Nat.eq_of_beq_eq_true rfl | (simp only [AV.cells, List.length_map]; first | assumption | omega)) (Nat.eq_of_beq_eq_true rfl)) rfl rfl ⟨rfl, trivial⟩ ?_
    refine zab ?_
    refine zaa ?_
    refine zav 4 (by kernel_rfl) ?_
    refine yM ?_
    refine yP zbC ?_
    refine yP (zaH zbB rfl) ?_
    refine zac (zaz Tryz.underlying52 rfl sz52 (by first | omega | (simp; done) | (simp; omega)) (rfl)) rfl rfl ?_
    refine lN Tryz.underlying52 rfl sz52 rfl rfl ⟨rfl, trivial⟩ ?_
    refine yV (fun n => 50 + 1000 * n) (hS) Tryz.func99 ?_
    refine yA ?_
    refine zab ⟨by kernel_rfl, ?_⟩
    refine zaa ?_
    refine zav 4 (by kernel_rfl) ?_
    refine yM ?_
    refine yM ?_
    refine yM ?_
    refine yP zbC ?_
    refine yP (zaH zbH rfl) ?_
    refine zac (zcI Tryz.underlying144 zcc (by omega) (by omega) rfl) rfl rfl ?_
    refine zac (zbx Tryz.underlying100 rfl (by first | rfl | assumption | ((try simp only [List.getElem?_drop, List.getElem?_take, Int.toNat_natCast, Nat.mul_one, Nat.add_zero, Nat.zero_add]); first | assumption | rfl))) rfl rfl ?_
    refine lN Tryz.underlying52 rfl sz52 rfl rfl ⟨rfl, trivial⟩ ?_
    refine yM ?_
    refine cS (fun n => 60 + 1000 * n) (hP) Tryz.func58 ?_
    refine yF zbH ?_
    refine zac (za6 Tryz.underlying144 zcc (by omega) (by omega) (by first | (simp only [Int.toNat_natCast, Nat.mul_one, Nat.zero_add]; rfl) | rfl)) rfl rfl ?_
    refine zal (zbp (Y := .p _) zcc rfl (by first | exact Nat.eq_of_beq_eq_true rfl | (simp only [AV.cells, List.length_map]; first | assumption | omega)) (by first | exact Nat.le_of_ble_eq_true rfl | omega | (simp only [AV.cells, List.length_map]; omega)) (by first | (simp only [setR, AV.cells, List.take_succ_cons, List.take_zero, List.drop_succ_cons, List.drop_zero, List.drop_nil, List.take_nil, List.nil_append, List.cons_append, List.append_nil, List.length_cons, List.length_nil, Nat.reduceAdd, Nat.zero_add, Nat.add_zero]; rfl) | rfl)) rfl rfl ⟨rfl, trivial⟩ ?_
    refine zab ⟨by kernel_rfl, ?_⟩
    refine zaa ?_
    refine tx ?_
    refine yP (zas (r := .ref _ _)) ?_
    refine zab ?_
    refine zae (zcx (zdV (cs := [.v (.int .u32 (zaT p)), .v (.int .i64 p.length), .v (.string q), trP (l.put n o), trP r]) 8 rfl rfl) ?_)
    refine zaf (zaK (zam ?_))
    refine yT ?_ ?_
    ·exact rfl
    ·exact trivial
  have hpn : ¬ p <+: n := by simpa using h
  clear h
  rw [if_neg hpn]
  refine zaa ?_
  refine zav 4 (by kernel_rfl) ?_
  refine lN Tryz.underlying52 rfl sz52 rfl rfl ⟨rfl, trivial⟩ ?_
  refine yM ?_
  refine yP zbC ?_
  refine yP (zaH zbB rfl) ?_
  refine zac (zaz Tryz.underlying52 rfl sz52 (by first | omega | (simp; done) | (simp; omega)) (rfl)) rfl rfl ?_
  refine yV (fun n => 69 + 1000 * n) (hH2) Tryz.func98 ?_
  refine yA ?_
  refine zab ⟨by kernel_rfl, ?_⟩
  refine zae ?_
  refine zah _ rfl (fun h => ?_) (fun h => ?_)
  ·have hnp : n <+: p := by simpa using h
   clear h
   rw [if_pos hnp]
   have hx := zcr hnp (fun e => hne e)
   have hlt : n.length < p.length := by have := hx.length_le; simp at this; omega
   have hS := side_s n p hlt hp
   cases hb : zbV p n.length with
   | true =>
    rw [show bitN p n.length = 1 by unfold bitN; rw [hb]; rfl] at hS
    rw [if_pos rfl]
    refine zaa ?_
    refine zav 4 (by kernel_rfl) ?_
    refine yP (zaq (r := .ref _ _)) ?_
    refine lN Tryz.underlying52 rfl sz52 rfl rfl ⟨rfl, trivial⟩ ?_
    refine yM ?_
    refine yP zbC ?_
    refine yP (zaH zbB rfl) ?_
    refine zac (zaz Tryz.underlying52 rfl sz52 (by first | omega | (simp; done) | (simp; omega)) (rfl)) rfl rfl ?_
    refine yV (fun n => 76 + 1000 * n) (hS) Tryz.func99 ?_
    refine yM ?_
    refine yP zbk ?_
    refine yF zbH ?_
    refine zac (za6 Tryz.underlying144 zcc (by omega) (by omega) (by first | (simp only [Int.toNat_natCast, Nat.mul_one, Nat.zero_add]; rfl) | rfl)) rfl rfl ?_
    refine zal (zbp (Y := .p _) zcc rfl (by first | exact Nat.eq_of_beq_eq_true rfl | (simp only [AV.cells, List.length_map]; first | assumption | omega)) (by first | exact Nat.le_of_ble_eq_true rfl | omega | (simp only [AV.cells, List.length_map]; omega)) (by first | (simp only [setR, AV.cells, List.take_succ_cons, List.take_zero, List.drop_succ_cons, List.drop_zero, List.drop_nil, List.take_nil, List.nil_append, List.cons_append, List.append_nil, List.length_cons, List.length_nil, Nat.reduceAdd, Nat.zero_add, Nat.add_zero]; rfl) | rfl)) rfl rfl ⟨rfl, trivial⟩ ?_
    refine zab ⟨by kernel_rfl, ?_⟩
    refine zaa ?_
    refine tx ?_
    refine yP (zaq (r := .ref _ _)) ?_
    refine yP (zas (r := .ref _ _)) ?_
    refine zab ?_
    refine zae (zcx (zdV (cs := [.v (.int .u32 (zaT n)), .v (.int .i64 n.length), .v (.string o), .v (.pointer none), .pt [.v (.int .u32 (zaT p)), .v (.int .i64 p.length), .v (.string q), trP l, trP r]]) 15 rfl rfl) ?_)
    refine zaf (zaK (zam ?_))
    refine yT ?_ ?_
    ·exact rfl
    ·exact trivial
   | false =>
    rw [show bitN p n.length = 0 by unfold bitN; rw [hb]; rfl] at hS
    rw [if_neg (by simp)]
    refine zaa ?_
    refine zav 4 (by kernel_rfl) ?_
    refine yP (zaq (r := .ref _ _)) ?_
    refine lN Tryz.underlying52 rfl sz52 rfl rfl ⟨rfl, trivial⟩ ?_
    refine yM ?_
    refine yP zbC ?_
    refine yP (zaH zbB rfl) ?_
    refine zac (zaz Tryz.underlying52 rfl sz52 (by first | omega | (simp; done) | (simp; omega)) (rfl)) rfl rfl ?_
    refine yV (fun n => 76 + 1000 * n) (hS) Tryz.func99 ?_
    refine yM ?_
    refine yP zbk ?_
    refine yF zbH ?_
    refine zac (za6 Tryz.underlying144 zcc (by omega) (by omega) (by first | (simp only [Int.toNat_natCast, Nat.mul_one, Nat.zero_add]; rfl) | rfl)) rfl rfl ?_
    refine zal (zbp (Y := .p _) zcc rfl (by first | exact Nat.eq_of_beq_eq_true rfl | (simp only [AV.cells, List.length_map]; first | assumption | omega)) (by first | exact Nat.le_of_ble_eq_true rfl | omega | (simp only [AV.cells, List.length_map]; omega)) (by first | (simp only [setR, AV.cells, List.take_succ_cons, List.take_zero, List.drop_succ_cons, List.drop_zero, List.drop_nil, List.take_nil, List.nil_append, List.cons_append, List.append_nil, List.length_cons, List.length_nil, Nat.reduceAdd, Nat.zero_add, Nat.add_zero]; rfl) | rfl)) rfl rfl ⟨rfl, trivial⟩ ?_
    refine zab ⟨by kernel_rfl, ?_⟩
    refine zaa ?_
    refine tx ?_
    refine yP (zaq (r := .ref _ _)) ?_
    refine yP (zas (r := .ref _ _)) ?_
    refine zab ?_
    refine zae (zcx (zdV (cs := [.v (.int .u32 (zaT n)), .v (.int .i64 n.length), .v (.string o), .pt [.v (.int .u32 (zaT p)), .v (.int .i64 p.length), .v (.string q), trP l, trP r], .v (.pointer none)]) 15 rfl rfl) ?_)
    refine zaf (zaK (zam ?_))
    refine yT ?_ ?_
    ·exact rfl
    ·exact trivial
  have hnp : ¬ n <+: p := by simpa using h
  clear h
  rw [if_neg hnp]
  have hJ := kJoin_s p n hp hn
  have f2 := (fork_bits hpn hnp).2.1
  have hlt : (lcpL p n).length < n.length := by have := f2.length_le; simp at this; omega
  have hS := side_s (lcpL p n) n hlt hn
  generalize hj : lcpL p n = j at *
  cases hb : zbV n j.length with
  | true =>
   rw [show bitN n j.length = 1 by unfold bitN; rw [hb]; rfl] at hS
   rw [if_pos rfl]
   refine zad (zaa ?_)
   refine tx ?_
   refine yP (zaR pl146 zr146 rfl rfl) ?_
   refine zal (za2 (X := .agg _) 83 rfl) rfl rfl ⟨rfl, trivial⟩ ?_
   refine yP (zas (r := .ref _ _)) ?_
   refine zab ?_
   refine zaa ?_
   refine zav 4 (by kernel_rfl) ?_
   refine yP (zaq (r := .ref _ _)) ?_
   refine yM ?_
   refine yP zbC ?_
   refine yP (zaH zbB rfl) ?_
   refine zac (zaz Tryz.underlying52 rfl sz52 (by first | omega | (simp; done) | (simp; omega)) (rfl)) rfl rfl ?_
   refine lN Tryz.underlying52 rfl sz52 rfl rfl ⟨rfl, trivial⟩ ?_
   refine yV (fun n => 91 + 1000 * n) (hJ) Tryz.func100 ?_
   refine yP (zaq (r := .tup _)) ?_
   refine yP (zar rfl) ?_
   refine yP (zar rfl) ?_
   refine yP zbk ?_
   refine yF zbB ?_
   refine zal (zbp (Y := .agg _) sz52 rfl (by first | exact Nat.eq_of_beq_eq_true rfl | (simp only [AV.cells, List.length_map]; first | assumption | omega)) (by first | exact Nat.le_of_ble_eq_true rfl | omega | (simp only [AV.cells, List.length_map]; omega)) (by first | (simp only [setR, AV.cells, List.take_succ_cons, List.take_zero, List.drop_succ_cons, List.drop_zero, List.drop_nil, List.take_nil, List.nil_append, List.cons_append, List.append_nil, List.length_cons, List.length_nil, Nat.reduceAdd, Nat.zero_add, Nat.add_zero]; rfl) | rfl)) rfl rfl ⟨rfl, trivial⟩ ?_
   refine zab ⟨by kernel_rfl, ?_⟩
   refine zaa ?_
   refine zav 4 (by kernel_rfl) ?_
   refine yP (zaq (r := .ref _ _)) ?_
   refine yP zbk ?_
   refine yF zbB ?_
   refine lN Tryz.underlying52 rfl sz52 rfl rfl ⟨rfl, trivial⟩ ?_
   refine lN Tryz.underlying52 rfl sz52 rfl rfl ⟨rfl, trivial⟩ ?_
   refine yV (fun n => 101 + 1000 * n) (hS) Tryz.func99 ?_
   refine yA ?_
   refine zab ⟨by kernel_rfl, ?_⟩
   refine zaa ?_
   refine zav 4 (by kernel_rfl) ?_
   refine yP (zaq (r := .ref _ _)) ?_
   refine yM ?_
   refine yP (zaq (r := .ref _ _)) ?_
   refine yM ?_
   refine zac (zgC (by first | exact IntWalk.i64_in _ (by omega) | rfl)) rfl rfl ?_
   refine yP (zaq (r := .ref _ _)) ?_
   refine yM ?_
   refine yP zbk ?_
   refine yF zbH ?_
   refine zac (za6 Tryz.underlying144 zcc (by omega) (by omega) (by first | (simp only [Int.toNat_natCast, Nat.mul_one, Nat.zero_add]; rfl) | rfl)) rfl rfl ?_
   refine zal (zbp (Y := .ref _ _) zcc rfl (by first | exact Nat.eq_of_beq_eq_true rfl | (simp only [AV.cells, List.length_map]; first | assumption | omega)) (by first | exact Nat.le_of_ble_eq_true rfl | omega | (simp only [AV.cells, List.length_map]; omega)) (by first | (simp only [setR, AV.cells, List.take_succ_cons, List.take_zero, List.drop_succ_cons, List.drop_zero, List.drop_nil, List.take_nil, List.nil_append, List.cons_append, List.append_nil, List.length_cons, List.length_nil, Nat.reduceAdd, Nat.zero_add, Nat.add_zero]; rfl) | rfl)) rfl rfl ⟨rfl, trivial⟩ ?_
   refine yP zbk ?_
   refine yF zbH ?_
   refine zac (za6 Tryz.underlying144 zcc (by omega) (by omega) (by first | (simp only [Int.toNat_natCast, Nat.mul_one, Nat.zero_add]; rfl) | rfl)) rfl rfl ?_
   refine zal (zbp (Y := .p _) zcc rfl (by first | exact Nat.eq_of_beq_eq_true rfl | (simp only [AV.cells, List.length_map]; first | assumption | omega)) (by first | exact Nat.le_of_ble_eq_true rfl | omega | (simp only [AV.cells, List.length_map]; omega)) (by first | (simp only [setR, AV.cells, List.take_succ_cons, List.take_zero, List.drop_succ_cons, List.drop_zero, List.drop_nil, List.take_nil, List.nil_append, List.cons_append, List.append_nil, List.length_cons, List.length_nil, Nat.reduceAdd, Nat.zero_add, Nat.add_zero]; rfl) | rfl)) rfl rfl ⟨rfl, trivial⟩ ?_
   refine zab ⟨by kernel_rfl, ?_⟩
   refine zae (zcx (zdV (cs := [.v (.int .u32 (zaT n)), .v (.int .i64 n.length), .v (.string o), .v (.pointer none), .v (.pointer none)]) 15 rfl rfl) ?_)
   refine zcx (zdV (cs := [.v (.int .u32 (zaT j)), .v (.int .i64 j.length), .v (.string ⟨#[]⟩), .pt [.v (.int .u32 (zaT p)), .v (.int .i64 p.length), .v (.string q), trP l, trP r], .pt [.v (.int .u32 (zaT n)), .v (.int .i64 n.length), .v (.string o), .v (.pointer none), .v (.pointer none)]]) 83 rfl rfl) ?_
   refine zaa ?_
   refine tx ?_
   refine yM ?_
   refine yA ?_
   refine zab ?_
   refine zaf ?_
   refine yT ?_ ?_
   ·exact rfl
   ·exact trivial
  | false =>
   rw [show bitN n j.length = 0 by unfold bitN; rw [hb]; rfl] at hS
   rw [if_neg (by simp)]
   refine zad (zaa ?_)
   refine tx ?_
   refine yP (zaR pl146 zr146 rfl rfl) ?_
   refine zal (za2 (X := .agg _) 83 rfl) rfl rfl ⟨rfl, trivial⟩ ?_
   refine yP (zas (r := .ref _ _)) ?_
   refine zab ?_
   refine zaa ?_
   refine zav 4 (by kernel_rfl) ?_
   refine yP (zaq (r := .ref _ _)) ?_
   refine yM ?_
   refine yP zbC ?_
   refine yP (zaH zbB rfl) ?_
   refine zac (zaz Tryz.underlying52 rfl sz52 (by first | omega | (simp; done) | (simp; omega)) (rfl)) rfl rfl ?_
   refine lN Tryz.underlying52 rfl sz52 rfl rfl ⟨rfl, trivial⟩ ?_
   refine yV (fun n => 91 + 1000 * n) (hJ) Tryz.func100 ?_
   refine yP (zaq (r := .tup _)) ?_
   refine yP (zar rfl) ?_
   refine yP (zar rfl) ?_
   refine yP zbk ?_
   refine yF zbB ?_
   refine zal (zbp (Y := .agg _) sz52 rfl (by first | exact Nat.eq_of_beq_eq_true rfl | (simp only [AV.cells, List.length_map]; first | assumption | omega)) (by first | exact Nat.le_of_ble_eq_true rfl | omega | (simp only [AV.cells, List.length_map]; omega)) (by first | (simp only [setR, AV.cells, List.take_succ_cons, List.take_zero, List.drop_succ_cons, List.drop_zero, List.drop_nil, List.take_nil, List.nil_append, List.cons_append, List.append_nil, List.length_cons, List.length_nil, Nat.reduceAdd, Nat.zero_add, Nat.add_zero]; rfl) | rfl)) rfl rfl ⟨rfl, trivial⟩ ?_
   refine zab ⟨by kernel_rfl, ?_⟩
   refine zaa ?_
   refine zav 4 (by kernel_rfl) ?_
   refine yP (zaq (r := .ref _ _)) ?_
   refine yP zbk ?_
   refine yF zbB ?_
   refine lN Tryz.underlying52 rfl sz52 rfl rfl ⟨rfl, trivial⟩ ?_
   refine lN Tryz.underlying52 rfl sz52 rfl rfl ⟨rfl, trivial⟩ ?_
   refine yV (fun n => 101 + 1000 * n) (hS) Tryz.func99 ?_
   refine yA ?_
   refine zab ⟨by kernel_rfl, ?_⟩
   refine zaa ?_
   refine zav 4 (by kernel_rfl) ?_
   refine yP (zaq (r := .ref _ _)) ?_
   refine yM ?_
   refine yP (zaq (r := .ref _ _)) ?_
   refine yM ?_
   refine zac (zgC (by first | exact IntWalk.i64_in _ (by omega) | rfl)) rfl rfl ?_
   refine yP (zaq (r := .ref _ _)) ?_
   refine yM ?_
   refine yP zbk ?_
   refine yF zbH ?_
   refine zac (za6 Tryz.underlying144 zcc (by omega) (by omega) (by first | (simp only [Int.toNat_natCast, Nat.mul_one, Nat.zero_add]; rfl) | rfl)) rfl rfl ?_
   refine zal (zbp (Y := .ref _ _) zcc rfl (by first | exact Nat.eq_of_beq_eq_true rfl | (simp only [AV.cells, List.length_map]; first | assumption | omega)) (by first | exact Nat.le_of_ble_eq_true rfl | omega | (simp only [AV.cells, List.length_map]; omega)) (by first | (simp only [setR, AV.cells, List.take_succ_cons, List.take_zero, List.drop_succ_cons, List.drop_zero, List.drop_nil, List.take_nil, List.nil_append, List.cons_append, List.append_nil, List.length_cons, List.length_nil, Nat.reduceAdd, Nat.zero_add, Nat.add_zero]; rfl) | rfl)) rfl rfl ⟨rfl, trivial⟩ ?_
   refine yP zbk ?_
   refine yF zbH ?_
   refine zac (za6 Tryz.underlying144 zcc (by omega) (by omega) (by first | (simp only [Int.toNat_natCast, Nat.mul_one, Nat.zero_add]; rfl) | rfl)) rfl rfl ?_
   refine zal (zbp (Y := .p _) zcc rfl (by first | exact Nat.eq_of_beq_eq_true rfl | (simp only [AV.cells, List.length_map]; first | assumption | omega)) (by first | exact Nat.le_of_ble_eq_true rfl | omega | (simp only [AV.cells, List.length_map]; omega)) (by first | (simp only [setR, AV.cells, List.take_succ_cons, List.take_zero, List.drop_succ_cons, List.drop_zero, List.drop_nil, List.take_nil, List.nil_append, List.cons_append, List.append_nil, List.length_cons, List.length_nil, Nat.reduceAdd, Nat.zero_add, Nat.add_zero]; rfl) | rfl)) rfl rfl ⟨rfl, trivial⟩ ?_
   refine zab ⟨by kernel_rfl, ?_⟩
   refine zae (zcx (zdV (cs := [.v (.int .u32 (zaT n)), .v (.int .i64 n.length), .v (.string o), .v (.pointer none), .v (.pointer none)]) 15 rfl rfl) ?_)
   refine zcx (zdV (cs := [.v (.int .u32 (zaT j)), .v (.int .i64 j.length), .v (.string ⟨#[]⟩), .pt [.v (.int .u32 (zaT n)), .v (.int .i64 n.length), .v (.string o), .v (.pointer none), .v (.pointer none)], .pt [.v (.int .u32 (zaT p)), .v (.int .i64 p.length), .v (.string q), trP l, trP r]]) 83 rfl rfl) ?_
   refine zaa ?_
   refine tx ?_
   refine yM ?_
   refine yA ?_
   refine zab ?_
   refine zaf ?_
   refine yT ?_ ?_
   ·exact rfl
   ·exact trivial
end Go.Proofs.YtgpleldhddpcgaaGreatDoor
