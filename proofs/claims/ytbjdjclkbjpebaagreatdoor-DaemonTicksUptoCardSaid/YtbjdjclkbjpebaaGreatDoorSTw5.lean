/- trie: the list of a tree, putting. -/
import Derived.Test.YtbjdjclkbjpebaaGreatDoorSTw3
import Derived.Test.YtbjdjclkbjpebaaGreatDoorSTrY
namespace Go.Proofs.YtbjdjclkbjpebaaGreatDoor
open Tryz
open Go.RowKit Go.Sort
set_option maxHeartbeats 16000000
set_option linter.unusedVariables false
set_option linter.unusedSimpArgs false
set_option maxRecDepth 100000
theorem list_s : ∀ (t : TR), t.list.length * 40 ≤ 140737488355328 → Fn prog 101 [.p (trP t)] (.row 0) [(0, .row 90 4 t.list.length (nds t.list))]
 | .nil, hz => by
  show Fn prog 101 [.p (.v (.pointer none))] (.row 0) [(0, .row 90 4 0 [])]
  refine fnI fun w0 A => ?_
  refine G [8] ?_
  refine jdz (ziF U154) ?_
  refine zac (zaz (cX (fun h => ?_) fun h => ?_))
  ·refine G [4, 9, 0] ?_
   refine za8 (zco 2 100 90 4 rfl rfl) ?_
   refine zaE (zbG (yT (fun _ => 100) ?_ ?_))
   ·exact rfl
   ·exact ⟨⟨rfl, rfl⟩, trivial⟩
  ·cases h
 | .nd p o l r, hz => by
  rw [TR.list_nd] at hz ⊢
  simp only [List.length_cons, List.length_append] at hz
  have hl := list_s l (by omega)
  have hr := list_s r (by omega)
  show Fn prog 101 [.p (.pt [.v (.int .u32 (zaA p)), .v (.int .i64 p.length), .v (.string o), trP l, trP r])] (.row 0) _
  rw [zdp, zgR]
  simp only [List.length_cons, List.length_append]
  generalize nds l.list = cl at *
  generalize nds r.list = cr at *
  generalize l.list.length = nl at *
  generalize r.list.length = nr at *
  have hk1 : 1 + nl = nl + 1 := by omega
  have hk2 : nl + 1 + nr = nl + nr + 1 := by omega
  have hst : setR (([.v (.int .u32 (zaA p)), .v (.int .i64 p.length), .v (.string o), .v (.int .i64 0)] ++ cl) ++ cr) 3 [.v (.int .i64 ((nl + nr + 1 : Nat) : Int))] = .v (.int .u32 (zaA p)) :: .v (.int .i64 p.length) :: .v (.string o) :: .v (.int .i64 ((nl + nr + 1 : Nat) : Int)) :: (cl ++ cr) := by simp [setR]
  refine fnI fun w0 A => ?_
  refine G [8] ?_
  refine jdz (a_peqPN U154) ?_
  refine zac (zaz (cX (fun h => ?_) fun h => ?_))
  ·cases h
  refine G [4] ?_
  refine jdz zbv ?_
  refine jdz (zam zcq rfl) ?_
  refine zaa (zaI U88 rfl sz88 (by first | omega | (simp; done) | (simp; omega)) (rfl)) rfl rfl ?_
  refine mP rfl rfl ?_
  refine jdz zbv ?_
  refine jdz (zam fi204_1 rfl) ?_
  refine zaa (zaG U9 rfl (by first | rfl | assumption | ((try simp only [List.getElem?_drop, List.getElem?_take, Int.toNat_natCast, Nat.mul_one, Nat.add_zero, Nat.zero_add]); first | assumption | rfl))) rfl rfl ?_
  refine jdz (zcB pl90 zr90 rfl rfl) ?_
  refine jdA (zae 15 U25 sz90 zc90 (Nat.le_of_ble_eq_true rfl) (Nat.le_of_ble_eq_true rfl) rfl rfl rfl rfl (Nat.le_of_ble_eq_true rfl)) ?_
  refine G [3] ?_
  refine zbA 8 (by kernel_rfl) ?_
  refine G [2] ?_
  refine jdz zbv ?_
  refine jdz (zam zdf rfl) ?_
  refine zaa (zcT U202 zdi (by omega) (by omega) rfl) rfl rfl ?_
  refine zaa (zaG U154 rfl (by first | rfl | assumption | ((try simp only [List.getElem?_drop, List.getElem?_take, Int.toNat_natCast, Nat.mul_one, Nat.add_zero, Nat.zero_add]); first | assumption | rfl))) rfl rfl ?_
  refine cK hl ?_
  refine zab (zal 23 U25 eo90 (zax) (by simp only [maxLen]; omega) (by omega) hk1 rfl) rfl rfl ⟨rfl, rfl, rfl, trivial⟩ ?_
  refine mP rfl rfl ?_
  refine jdz zbv ?_
  refine jdz (zam zdf rfl) ?_
  refine zaa (zcT U202 zdi (by omega) (by omega) rfl) rfl rfl ?_
  refine zaa (zaG U154 rfl (by first | rfl | assumption | ((try simp only [List.getElem?_drop, List.getElem?_take, Int.toNat_natCast, Nat.mul_one, Nat.add_zero, Nat.zero_add]); first | assumption | rfl))) rfl rfl ?_
  refine cK hr ?_
  refine zab (zal 30 U25 eo90 (zax) (by simp only [maxLen]; omega) (by omega) hk2 rfl) rfl rfl ⟨rfl, rfl, rfl, trivial⟩ ?_
  refine G [9] ?_
  refine zab (zbB (Y := .p _) sz3 rfl rfl (by first | rfl | omega) (by first | omega | (simp; done) | (simp; omega)) hst) rfl rfl ⟨rfl, trivial⟩ ?_
  refine G [7, 9, 0] ?_
  refine yT (fun _ => 30) ?_ ?_
  ·exact rfl
  ·exact ⟨⟨rfl, rfl⟩, trivial⟩
theorem cloneN_s (n : Nat) (cs : List PV) (hx : cs.length = n * 4) (hn : n * 40 ≤ 140737488355328) : Fn prog 32 [.p (.sl n 4 cs)] (.row 0) [(0, .row 90 4 n cs)] := by
 refine fnI fun w0 A => ?_
 refine G [4] ?_
 by_cases h0 : n = 0
 ·subst h0
  obtain rfl : cs = [] := List.eq_nil_of_length_eq_zero (by omega)
  refine G [4] ?_
  refine jdz (a_seqX U25) ?_
  refine zac (zaz (zem rfl ?_ ?_))
  ·refine G [4, 9, 0] ?_
   refine za8 (zco 2 100 90 4 rfl rfl) ?_
   refine zaE (zbG ?_)
   exact jbl
  ·refine G [3] ?_
   refine jdA (za0 5 U25 sz90) ?_
   refine jco ?_
   refine zab (zal 7 U25 eo90 (zbn) (by simp only [maxLen]; omega) (by omega) rfl rfl) rfl rfl ⟨rfl, rfl, trivial⟩ ?_
   exact jbi
 ·refine G [4] ?_
  refine zaa (a_seqS U25 (by omega)) rfl rfl ?_
  refine zac (zaz (cX (fun h => ?_) fun h => ?_))
  ·cases h
  ·refine G [3] ?_
   refine jdA (za0 5 U25 sz90) ?_
   refine jco ?_
   refine zab (zal 7 U25 eo90 (zbn) (by simp only [maxLen]; omega) (by omega) (show _ = n by omega) rfl) rfl rfl ⟨rfl, rfl, trivial⟩ ?_
   exact jbi
def keyA (p : Key) : List AV := netA (zaA p) p.length
theorem keyEq {p q : Key} (hp : p.length ≤ 32) : eqL [.int .u32 (zaA p), .int .i64 p.length] [.int .u32 (zaA q), .int .i64 q.length] = decide (p = q) := by
 rw [Bool.eq_iff_iff, zaQ, decide_eq_true_eq]
 constructor
 ·intro h
  simp only [List.cons.injEq, Value.int.injEq, true_and, and_true] at h
  exact zhk hp (by omega) h.1
 ·intro h; rw [h]
theorem kJoin_s (p q : Key) (hp : p.length ≤ 32) (hq : q.length ≤ 32) : Fn prog 140 [.agg (keyA p), .agg (keyA q)] (.tup [.agg (keyA (lcpL p q)), .p (.v (.int .i64 0))]) [] := by
 have h := join_g (zaA p) p.length (zaA q) q.length (zbq p hp).1 (zbq p hp).2 (zbq q hq).1 (zbq q hq).2
 exact jaT
theorem put_s : ∀ (t : TR) (n : Key) (o : ByteArray), t.short → n.length ≤ 32 → Fn prog 99 [.p (trP t), .agg (keyA n), .p (.v (.string o))] (.p (trP (t.put n o))) []
 | .nil, n, o, hs, hn => by
  rw [TR.put]
  show Fn prog 99 [.p (.v (.pointer none)), .agg (netA (zaA n) n.length), .p (.v (.string o))] _ []
  refine fnI fun w0 A => ?_
  refine G [18] ?_
  refine jdz (ziF U154) ?_
  refine G [2, 9, 0] ?_
  refine cX (fun h => ?_) fun h => ?_
  ·refine za2 (zd7 (cs := [.v (.int .u32 (zaA n)), .v (.int .i64 n.length), .v (.string o), .v (.pointer none), .v (.pointer none)]) 15 rfl rfl) ?_
   refine G [6, 9, 0] ?_
   exact yE
  ·cases h
 | .nd p q l r, n, o, hs, hn => by
  obtain ⟨hp, hsl, hsr⟩ := hs
  have hH := zim p n hp hn
  have hH2 := zim n p hn hp
  have hEq := keyEq (q := n) hp
  rw [TR.put]
  show Fn prog 99 [.p (.pt [.v (.int .u32 (zaA p)), .v (.int .i64 p.length), .v (.string q), trP l, trP r]), .agg (netA (zaA n) n.length), .p (.v (.string o))] _ []
  refine fnI fun w0 A => ?_
  refine G [18] ?_
  refine jdz (a_peqPN U154) ?_
  refine G [2, 9, 0] ?_
  refine cX (fun h => ?_) fun h => ?_
  ·cases h
  refine G [3] ?_
  refine jdz zbv ?_
  refine jdz (zam zcq rfl) ?_
  refine zaa (zaI U88 rfl sz88 (by first | omega | (simp; done) | (simp; omega)) (rfl)) rfl rfl ?_
  refine lN U88 rfl sz88 rfl rfl ⟨rfl, trivial⟩ ?_
  refine zaa (ze6 U88 rfl rfl (by kernel_rfl) (by kernel_rfl) (by kernel_rfl)) rfl rfl ?_
  refine G [2, 9, 0] ?_
  refine cX (fun h => ?_) fun h => ?_
  ·have he : p = n := by
    have h' := h
    rw [hEq] at h'
    simpa using h'
   rw [if_pos he]
   refine G [5] ?_
   refine jdz zbv ?_
   refine jdz (zam zdf rfl) ?_
   refine zaa (zaI U202 rfl sz202 (by first | omega | (simp; done) | (simp; omega)) (rfl)) rfl rfl ?_
   refine G [4, 9, 0] ?_
   refine za2 (zd7 (cs := [.v (.int .u32 (zaA n)), .v (.int .i64 n.length), .v (.string o), trP l, trP r]) 34 rfl rfl) ?_
   refine zaE (zcz (zbG ?_))
   exact yE
  have hne : p ≠ n := by
   have h' := h
   rw [hEq] at h'
   simpa using h'
  clear h
  rw [if_neg hne]
  refine G [3] ?_
  refine jdz zbv ?_
  refine jdz (zam zcq rfl) ?_
  refine zaa (zaI U88 rfl sz88 (by first | omega | (simp; done) | (simp; omega)) (rfl)) rfl rfl ?_
  refine lN U88 rfl sz88 rfl rfl ⟨rfl, trivial⟩ ?_
  refine cV hH ?_
  refine G [2, 9, 0] ?_
  refine cX (fun h => ?_) fun h => ?_
  ·have hpn : p <+: n := by simpa using h
   clear h
   rw [if_pos hpn]
   have hx := zcD hpn (fun e => hne e.symm)
   have hlt : p.length < n.length := by have := hx.length_le; simp at this; omega
   have hS := side_s p n hlt hn
   cases hb : zbK n p.length with
   | true =>
    have hP := put_s r n o hsr hn
    rw [show bitN n p.length = 1 by unfold bitN; rw [hb]; rfl] at hS
    rw [if_pos rfl]
    refine G [3] ?_
    refine jdz zbv ?_
    refine zaa (zaI underlying204 rfl sz204 (by first | omega | (simp; done) | (simp; omega)) (rfl)) rfl rfl ?_
    refine G [6] ?_
    refine jdz zbv ?_
    refine jdz (zam zcq rfl) ?_
    refine zaa (zaI U88 rfl sz88 (by first | omega | (simp; done) | (simp; omega)) (rfl)) rfl rfl ?_
    refine lN U88 rfl sz88 rfl rfl ⟨rfl, trivial⟩ ?_
    refine cV hS ?_
    refine G [7] ?_
    refine jdz zbv ?_
    refine jdz (zam zdf rfl) ?_
    refine zaa (zcT U202 zdi (by omega) (by omega) rfl) rfl rfl ?_
    refine zaa (zaG U154 rfl (by first | rfl | assumption | ((try simp only [List.getElem?_drop, List.getElem?_take, Int.toNat_natCast, Nat.mul_one, Nat.add_zero, Nat.zero_add]); first | assumption | rfl))) rfl rfl ?_
    refine G [2] ?_
    refine cK hP ?_
    refine fA zdf rfl rfl ?_
    refine zaa (zaj U202 zdi (by omega) (by omega) (by first | (simp only [Int.toNat_natCast, Nat.mul_one, Nat.zero_add]; rfl) | rfl)) rfl rfl ?_
    refine G [6, 9, 0] ?_
    refine za2 (zd7 (cs := [.v (.int .u32 (zaA p)), .v (.int .i64 p.length), .v (.string q), trP l, trP (r.put n o)]) 8 rfl rfl) ?_
    refine zaE (zcz (zbG ?_))
    exact yE
   | false =>
    have hP := put_s l n o hsl hn
    rw [show bitN n p.length = 0 by unfold bitN; rw [hb]; rfl] at hS
    rw [if_neg (by simp)]
    refine G [3] ?_
    refine jdz zbv ?_
    refine zaa (zaI underlying204 rfl sz204 (by first | omega | (simp; done) | (simp; omega)) (rfl)) rfl rfl ?_
    refine G [6] ?_
    refine jdz zbv ?_
    refine jdz (zam zcq rfl) ?_
    refine zaa (zaI U88 rfl sz88 (by first | omega | (simp; done) | (simp; omega)) (rfl)) rfl rfl ?_
    refine lN U88 rfl sz88 rfl rfl ⟨rfl, trivial⟩ ?_
    refine cV hS ?_
    refine G [7] ?_
    refine jdz zbv ?_
    refine jdz (zam zdf rfl) ?_
    refine zaa (zcT U202 zdi (by omega) (by omega) rfl) rfl rfl ?_
    refine zaa (zaG U154 rfl (by first | rfl | assumption | ((try simp only [List.getElem?_drop, List.getElem?_take, Int.toNat_natCast, Nat.mul_one, Nat.add_zero, Nat.zero_add]); first | assumption | rfl))) rfl rfl ?_
    refine G [2] ?_
    refine cK hP ?_
    refine fA zdf rfl rfl ?_
    refine zaa (zaj U202 zdi (by omega) (by omega) (by first | (simp only [Int.toNat_natCast, Nat.mul_one, Nat.zero_add]; rfl) | rfl)) rfl rfl ?_
    refine G [6, 9, 0] ?_
    refine za2 (zd7 (cs := [.v (.int .u32 (zaA p)), .v (.int .i64 p.length), .v (.string q), trP (l.put n o), trP r]) 8 rfl rfl) ?_
    refine zaE (zcz (zbG ?_))
    exact yE
  have hpn : ¬ p <+: n := by simpa using h
  clear h
  rw [if_neg hpn]
  refine G [4] ?_
  refine jdz zbv ?_
  refine jdz (zam zcq rfl) ?_
  refine zaa (zaI U88 rfl sz88 (by first | omega | (simp; done) | (simp; omega)) (rfl)) rfl rfl ?_
  refine cV hH2 ?_
  refine G [2, 9, 0] ?_
  refine cX (fun h => ?_) fun h => ?_
  ·have hnp : n <+: p := by simpa using h
   clear h
   rw [if_pos hnp]
   have hx := zcD hnp (fun e => hne e)
   have hlt : n.length < p.length := by have := hx.length_le; simp at this; omega
   have hS := side_s n p hlt hp
   cases hb : zbK p n.length with
   | true =>
    rw [show bitN p n.length = 1 by unfold bitN; rw [hb]; rfl] at hS
    rw [if_pos rfl]
    refine G [5] ?_
    refine jdz zbv ?_
    refine jdz (zam zcq rfl) ?_
    refine zaa (zaI U88 rfl sz88 (by first | omega | (simp; done) | (simp; omega)) (rfl)) rfl rfl ?_
    refine cV hS ?_
    refine G [3] ?_
    refine zaa (zaj U202 zdi (by omega) (by omega) (by first | (simp only [Int.toNat_natCast, Nat.mul_one, Nat.zero_add]; rfl) | rfl)) rfl rfl ?_
    refine G [7, 9, 0] ?_
    refine za2 (zd7 (cs := [.v (.int .u32 (zaA n)), .v (.int .i64 n.length), .v (.string o), .v (.pointer none), .pt [.v (.int .u32 (zaA p)), .v (.int .i64 p.length), .v (.string q), trP l, trP r]]) 15 rfl rfl) ?_
    refine zaE (zcz (zbG ?_))
    exact yE
   | false =>
    rw [show bitN p n.length = 0 by unfold bitN; rw [hb]; rfl] at hS
    rw [if_neg (by simp)]
    refine G [5] ?_
    refine jdz zbv ?_
    refine jdz (zam zcq rfl) ?_
    refine zaa (zaI U88 rfl sz88 (by first | omega | (simp; done) | (simp; omega)) (rfl)) rfl rfl ?_
    refine cV hS ?_
    refine G [3] ?_
    refine zaa (zaj U202 zdi (by omega) (by omega) (by first | (simp only [Int.toNat_natCast, Nat.mul_one, Nat.zero_add]; rfl) | rfl)) rfl rfl ?_
    refine G [7, 9, 0] ?_
    refine za2 (zd7 (cs := [.v (.int .u32 (zaA n)), .v (.int .i64 n.length), .v (.string o), .pt [.v (.int .u32 (zaA p)), .v (.int .i64 p.length), .v (.string q), trP l, trP r], .v (.pointer none)]) 15 rfl rfl) ?_
    refine zaE (zcz (zbG ?_))
    exact yE
  have hnp : ¬ n <+: p := by simpa using h
  clear h
  rw [if_neg hnp]
  have hJ := kJoin_s p n hp hn
  have f2 := (fork_bits hpn hnp).2.1
  have hlt : (lcpL p n).length < n.length := by have := f2.length_le; simp at this; omega
  have hS := side_s (lcpL p n) n hlt hn
  generalize hj : lcpL p n = j at *
  cases hb : zbK n j.length with
  | true =>
   rw [show bitN n j.length = 1 by unfold bitN; rw [hb]; rfl] at hS
   rw [if_pos rfl]
   refine G [11] ?_
   refine jdz zbv ?_
   refine jdz (zam zcq rfl) ?_
   refine zaa (zaI U88 rfl sz88 (by first | omega | (simp; done) | (simp; omega)) (rfl)) rfl rfl ?_
   refine lN U88 rfl sz88 rfl rfl ⟨rfl, trivial⟩ ?_
   refine cV hJ ?_
   refine G [14] ?_
   refine cV hS ?_
   refine G [13] ?_
   refine zaa (zaj U202 zdi (by omega) (by omega) (by first | (simp only [Int.toNat_natCast, Nat.mul_one, Nat.zero_add]; rfl) | rfl)) rfl rfl ?_
   refine zab (zb3 (Y := .ref _ _) zdi rfl (by first | exact Nat.eq_of_beq_eq_true rfl | (simp only [AV.cells, List.length_map]; first | assumption | omega)) (by first | exact Nat.le_of_ble_eq_true rfl | omega | (simp only [AV.cells, List.length_map]; omega)) (by first | (simp only [setR, AV.cells, List.take_succ_cons, List.take_zero, List.drop_succ_cons, List.drop_zero, List.drop_nil, List.take_nil, List.nil_append, List.cons_append, List.append_nil, List.length_cons, List.length_nil, Nat.reduceAdd, Nat.zero_add, Nat.add_zero]; rfl) | rfl)) rfl rfl ⟨rfl, trivial⟩ ?_
   refine G [2] ?_
   refine zaa (zaj U202 zdi (by omega) (by omega) (by first | (simp only [Int.toNat_natCast, Nat.mul_one, Nat.zero_add]; rfl) | rfl)) rfl rfl ?_
   refine G [2, 9, 0] ?_
   refine za2 (zd7 (cs := [.v (.int .u32 (zaA n)), .v (.int .i64 n.length), .v (.string o), .v (.pointer none), .v (.pointer none)]) 15 rfl rfl) ?_
   refine za2 (zd7 (cs := [.v (.int .u32 (zaA j)), .v (.int .i64 j.length), .v (.string ⟨#[]⟩), .pt [.v (.int .u32 (zaA p)), .v (.int .i64 p.length), .v (.string q), trP l, trP r], .pt [.v (.int .u32 (zaA n)), .v (.int .i64 n.length), .v (.string o), .v (.pointer none), .v (.pointer none)]]) 83 rfl rfl) ?_
   refine G [6, 9, 0] ?_
   exact yE
  | false =>
   rw [show bitN n j.length = 0 by unfold bitN; rw [hb]; rfl] at hS
   rw [if_neg (by simp)]
   refine G [11] ?_
   refine jdz zbv ?_
   refine jdz (zam zcq rfl) ?_
   refine zaa (zaI U88 rfl sz88 (by first | omega | (simp; done) | (simp; omega)) (rfl)) rfl rfl ?_
   refine lN U88 rfl sz88 rfl rfl ⟨rfl, trivial⟩ ?_
   refine cV hJ ?_
   refine G [14] ?_
   refine cV hS ?_
   refine G [13] ?_
   refine zaa (zaj U202 zdi (by omega) (by omega) (by first | (simp only [Int.toNat_natCast, Nat.mul_one, Nat.zero_add]; rfl) | rfl)) rfl rfl ?_
   refine zab (zb3 (Y := .ref _ _) zdi rfl (by first | exact Nat.eq_of_beq_eq_true rfl | (simp only [AV.cells, List.length_map]; first | assumption | omega)) (by first | exact Nat.le_of_ble_eq_true rfl | omega | (simp only [AV.cells, List.length_map]; omega)) (by first | (simp only [setR, AV.cells, List.take_succ_cons, List.take_zero, List.drop_succ_cons, List.drop_zero, List.drop_nil, List.take_nil, List.nil_append, List.cons_append, List.append_nil, List.length_cons, List.length_nil, Nat.reduceAdd, Nat.zero_add, Nat.add_zero]; rfl) | rfl)) rfl rfl ⟨rfl, trivial⟩ ?_
   refine G [2] ?_
   refine zaa (zaj U202 zdi (by omega) (by omega) (by first | (simp only [Int.toNat_natCast, Nat.mul_one, Nat.zero_add]; rfl) | rfl)) rfl rfl ?_
   refine G [2, 9, 0] ?_
   refine za2 (zd7 (cs := [.v (.int .u32 (zaA n)), .v (.int .i64 n.length), .v (.string o), .v (.pointer none), .v (.pointer none)]) 15 rfl rfl) ?_
   refine za2 (zd7 (cs := [.v (.int .u32 (zaA j)), .v (.int .i64 j.length), .v (.string ⟨#[]⟩), .pt [.v (.int .u32 (zaA n)), .v (.int .i64 n.length), .v (.string o), .v (.pointer none), .v (.pointer none)], .pt [.v (.int .u32 (zaA p)), .v (.int .i64 p.length), .v (.string q), trP l, trP r]]) 83 rfl rfl) ?_
   refine G [6, 9, 0] ?_
   exact yE
def zc1 (l : List ND) : TR := rootRes (zdk l.length l)
theorem trieE_iff {l : List ND} (hok : ∀ x ∈ l, x.OK) : zf4 l = 0 ↔ isTrie l (zc1 l) := by
 unfold zf4
 constructor
 ·intro h
  split at h
  ·rename_i h'; exact absurd h h'
  ·split at h
   ·rename_i h1 h2; subst h2; exact ⟨trivial, trivial, rfl⟩
   ·split at h
    ·rename_i h1 h2 h3
     unfold zc1
     cases hq : zdk l.length l with
     | none => rw [hq] at h3; cases h3
     | some r =>
      obtain ⟨t, rest⟩ := r
      rw [hq] at h3
      obtain ⟨⟨hv, hs, _⟩, hl⟩ := zdY hok hq
      cases rest with
      | cons => cases h3
      | nil => exact ⟨hv, hs, by rw [List.append_nil] at hl; exact hl⟩
    ·exact absurd h (by decide)
 ·rintro ⟨hv, hs, hl⟩
  have h0 : zeh l = 0 := ze1.2 fun x hx => TR.list_fault hs x (by rw [← hl]; exact hx)
  rw [if_neg (by simp [h0])]
  by_cases hne : l = []
  ·rw [if_pos hne]
  ·rw [if_neg hne]
   obtain ⟨t, ht⟩ := (isTrie_grow hok hne).1 ⟨_, hv, hs, hl⟩
   rw [ht]; rfl
theorem trieE_list {t : TR} (hok : ∀ x ∈ t.list, x.OK) (hv : t.valid) (hs : t.short) : zf4 t.list = 0 ∧ zc1 t.list = t := by
 have h2 : zc1 t.list = t := by
  unfold zc1
  by_cases hn : t = .nil
  ·subst hn; rfl
  ·have := zez (t := t) (n := t.list.length) (rest := []) ⟨hv, hs, hn⟩ (Nat.le_refl _)
   rw [List.append_nil] at this
   rw [this]; rfl
 exact ⟨(trieE_iff hok).2 (by rw [h2]; exact ⟨hv, hs, rfl⟩), h2⟩
theorem TR.put_len : ∀ (t : TR) (n : Key) (o : Own), (t.put n o).list.length ≤ t.list.length + 2
 | .nil, n, o => by simp [TR.put, TR.list_nd, TR.list_nil]
 | .nd p q l r, n, o => by
  have h1 := TR.put_len l n o
  have h2 := TR.put_len r n o
  rw [TR.put]
  split
  ·simp [TR.list_nd]
  ·split
   ·split
    ·simp only [TR.list_nd, List.length_cons, List.length_append] at *; omega
    ·simp only [TR.list_nd, List.length_cons, List.length_append] at *; omega
   ·split
    ·split <;> simp [TR.list_nd, TR.list_nil]
    ·split <;> (simp only [TR.list_nd, TR.list_nil, List.length_cons, List.length_append, List.length_nil]; omega)
def nRes (e : Int) : AV := if e = 0 then .tup [.row 0, .p (.v (.int .i64 0))] else .tup [.p (.v (.slice none 0 0)), .p (.v (.int .i64 e))]
def nNew (e : Int) (l : List ND) : List (Nat × AObj) := if e = 0 then [(0, .row 90 4 l.length (nds l))] else []
theorem zih {e : Int} (he : e ≠ 0) (l : List ND) : nRes e = .tup [.p (.v (.slice none 0 0)), .p (.v (.int .i64 e))] ∧ nNew e l = [] := by unfold nRes nNew; rw [if_neg he, if_neg he]; exact ⟨rfl, rfl⟩
theorem zgS (l : List ND) : nRes 0 = .tup [.row 0, .p (.v (.int .i64 0))] ∧ nNew 0 l = [(0, .row 90 4 l.length (nds l))] := by unfold nRes nNew; rw [if_pos rfl, if_pos rfl]; exact ⟨rfl, rfl⟩
theorem zec (l : List ND) : (nds l).all PV.isV = true := by
 induction l with
 | nil => rfl
 | cons x l ih => rw [zdp]; simp [PV.isV, ih]
def putE (l : List ND) (n : ND) : Int := if zf4 l ≠ 0 then zf4 l else if n.fault ≠ 0 then n.fault else if n.o = noOwn then 3 else 0
def putL (l : List ND) (n : ND) : List ND := ((zc1 l).put n.key n.o).list
theorem Put_s (l : List ND) (hok : ∀ x ∈ l, x.OK) (hz : l.length * 40 ≤ 140737488351232) (n : ND) (hn : n.OK) : Fn prog 62 [.p (ndsV l), .agg (netA n.a n.n), .p (.v (.string n.o))] (nRes (putE l n)) (nNew (putE l n) (putL l n)) := by
 have hC := tcheck_s l hok (by omega)
 have hT := tree_s l hok (by omega)
 have hTi := trieE_iff hok
 have hN := zfp n.a n.n hn.a0 hn.a1
 have hK := @ND.keyed n hn.a0 hn.a1
 have e0 : zai n.a n.n = n.fault := rfl
 rw [e0] at hN
 unfold putE
 by_cases h1 : zf4 l ≠ 0
 ·rw [if_pos h1]
  obtain ⟨e1, e2⟩ := zih h1 (putL l n)
  rw [e1, e2]
  generalize zf4 l = e at *
  refine fnI fun w0 A => ?_
  refine G [10] ?_
  refine cV hC ?_
  refine jcq ?_
  refine cX (fun h => ?_) fun h => ?_
  ·refine jcq ?_
   exact yE
  ·exact absurd (by simpa using h) h1
 rw [if_neg h1]
 replace h1 : zf4 l = 0 := Decidable.not_not.1 h1
 rw [h1] at hC
 by_cases h2 : n.fault ≠ 0
 ·rw [if_pos h2]
  obtain ⟨e1, e2⟩ := zih h2 (putL l n)
  rw [e1, e2]
  generalize n.fault = e at *
  refine fnI fun w0 A => ?_
  refine G [10] ?_
  refine cV hC ?_
  refine G [5, 1, 1, 9, 0] ?_
  refine cX (fun h => ?_) fun h => ?_
  ·cases h
  refine G [5] ?_
  refine cV hN ?_
  refine jcq ?_
  refine cX (fun h => ?_) fun h => ?_
  ·refine jcq ?_
   exact yE
  ·exact absurd (by simpa using h) h2
 rw [if_neg h2]
 replace h2 : n.fault = 0 := Decidable.not_not.1 h2
 rw [h2] at hN
 by_cases h3 : n.o = noOwn
 ·rw [if_pos h3]
  obtain ⟨e1, e2⟩ := zih (show (3 : Int) ≠ 0 by decide) (putL l n)
  rw [e1, e2, h3]
  refine fnI fun w0 A => ?_
  refine G [10] ?_
  refine cV hC ?_
  refine G [5, 1, 1, 9, 0] ?_
  refine cX (fun h => ?_) fun h => ?_
  ·cases h
  refine G [5] ?_
  refine cV hN ?_
  refine G [5, 1, 1, 9, 0] ?_
  refine cX (fun h => ?_) fun h => ?_
  ·cases h
  refine G [5, 1, 1, 9, 0] ?_
  refine cX (fun h => ?_) fun h => ?_
  ·refine jcs ?_
   exact yE
  ·cases h
 rw [if_neg h3]
 obtain ⟨e1, e2⟩ := zgS (putL l n)
 rw [e1, e2]
 clear e1 e2
 obtain ⟨hv, hs, hl⟩ := hTi.1 h1
 obtain ⟨k1, k2, k3⟩ := hK h2
 have hP := put_s (zc1 l) n.key n.o hs k1
 have hlen := TR.put_len (zc1 l) n.key n.o
 rw [← hl] at hlen
 have hL := list_s ((zc1 l).put n.key n.o) (by omega)
 have hCl := cloneN_s ((zc1 l).put n.key n.o).list.length (nds ((zc1 l).put n.key n.o).list) (zeb _) (by omega)
 have hT' : Fn prog 100 [.p (ndsV l)] (.p (trP (zc1 l))) [] := hT
 have hiv := zec ((zc1 l).put n.key n.o).list
 unfold putL
 unfold keyA at hP
 rw [← k2, ← k3] at hP
 generalize ((zc1 l).put n.key n.o) = u at *
 generalize zc1 l = t at *
 generalize nds u.list = cs at *
 generalize u.list.length = m at *
 refine fnI fun w0 A => ?_
 refine G [10] ?_
 refine cV hC ?_
 refine G [5, 1, 1, 9, 0] ?_
 refine cX (fun h => ?_) fun h => ?_
 ·cases h
 refine G [5] ?_
 refine cV hN ?_
 refine G [5, 1, 1, 9, 0] ?_
 refine cX (fun h => ?_) fun h => ?_
 ·cases h
 refine jcq ?_
 refine cX (fun h => ?_) fun h => ?_
 ·exact absurd (by simpa using h) h3
 refine G [2] ?_
 refine zbA 8 (by kernel_rfl) ?_
 refine jco ?_
 refine cK hT' ?_
 refine G [2] ?_
 refine cK hP ?_
 refine cK hL ?_
 refine zaR (fun n => 28 + 1000 * n) (hCl) rfl rfl func32 rfl rfl (by simp [AV.noSl, AV.noSlL, AObj.noSl, hiv]) (by simp [AV.noSl, AV.noSlL, AObj.noSl, hiv]) rfl rfl rfl (by first | exact trivial | exact ⟨rfl, trivial⟩ | exact ⟨rfl, rfl, trivial⟩ | exact ⟨rfl, rfl, rfl, rfl, rfl, trivial⟩) rfl rfl rfl ?_
 refine G [4, 9, 0] ?_
 refine yT (fun _ => 28) ?_ ?_
 ·exact rfl
 ·exact ⟨⟨rfl, rfl⟩, trivial⟩
end Go.Proofs.YtbjdjclkbjpebaaGreatDoor
