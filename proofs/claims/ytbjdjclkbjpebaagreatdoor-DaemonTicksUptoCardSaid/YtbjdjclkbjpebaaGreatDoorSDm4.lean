/- daemon.Check, over data. -/
import Derived.Test.YtbjdjclkbjpebaaGreatDoorSTi2
namespace Go.Proofs.YtbjdjclkbjpebaaGreatDoor
open Tryz
open Go.RowKit Go.Sort
set_option maxHeartbeats 16000000
set_option linter.unusedVariables false
set_option linter.unusedSimpArgs false
set_option maxRecDepth 100000
theorem zcu {a b c : KY} : a.vals ++ b.vals ++ c.vals = KY0.vals ++ KY0.vals ++ KY0.vals ↔ (a = KY0 ∧ b = KY0 ∧ c = KY0) := by
 constructor
 ·intro h3
  obtain ⟨h6, h7⟩ := List.append_inj h3 rfl
  obtain ⟨h8, h9⟩ := List.append_inj h6 rfl
  exact ⟨KY.eqL_iff.1 (zaQ.2 h8), KY.eqL_iff.1 (zaQ.2 h9), KY.eqL_iff.1 (zaQ.2 h7)⟩
 ·rintro ⟨rfl, rfl, rfl⟩
  rfl
def er3 (a b c : Int) (i : Nat) : Int := if i = 0 then a else if i = 1 then b else c
theorem er3_at (a b c : Int) (i : Nat) (h : i < 3) : ([.p (.v (.int .i64 a)), .p (.v (.int .i64 b)), .p (.v (.int .i64 c))] : List AV)[i * 1]? = some (.p (.v (.int .i64 (er3 a b c i)))) := by
 exact jbX
theorem dmCheck_s (d : DM) (ok : d.OK) : Fn prog 8 [.agg d.cells] (.p (.v (.int .i64 (dmE d)))) [] := by
 have hC := zhc d.c ok.c
 have hS := tabCheck_s d.ps (fun s hs => (ok.ps s hs).1) ok.psN
 have hG := sgCheck_s d.sg ok.sg
 have hM := tmost_s d.ps ok.psN
 have hT := fun h0 => ctree_s d.c ok.c h0
 have hK := keys_d d.ps d.c.ps ok.psN ok.c.len
 have hQ := fun h : (tOf (zaD d.c.ps d.c.ps.length)).list.length ≤ 4611686018427387904 => eqNodes_d (tOf (zaD d.c.ps d.c.ps.length)).list d.tree h (by have := ok.treeN; omega)
 have hfew : cfE d.c = 0 → (tOf (zaD d.c.ps d.c.ps.length)).list.length ≤ 4611686018427387904 := fun h0 => by
  exact jbN
 have hn := ok.psN
 have hvT := fun h : Unit => zec (tOf (zaD d.c.ps d.c.ps.length)).list
 obtain ⟨E, hE⟩ : ∃ E, dmE d = E := ⟨_, rfl⟩
 rw [hE]
 unfold dmE zgN goodD at hE
 generalize cfE d.c = e0 at *
 generalize stsE d.ps = e1' at *
 generalize sgE d.sg = e2 at *
 generalize mostD d.ps = mo at *
 clear ok
 obtain ⟨⟨k1, p1, q1⟩, t1, s1, ⟨v1, r1, ⟨sk1, sp1, sq1⟩, a1, e1⟩, g1, w1, l1'⟩ := d
 dsimp only at hC hS hG hM hT hK hQ hfew hn hE hvT
 generalize (tOf (zaD q1 q1.length)).list = TL at *
 change Fn prog _ [.agg [.p (.v (.string k1)), .p (.v (.int .i64 p1)), .p (.sl q1.length 5 (q1.flatMap PE.pv))]] _ _ at hC
 change ∀ h0, Fn prog _ [.agg [.p (.v (.string k1)), .p (.v (.int .i64 p1)), .p (.sl q1.length 5 (q1.flatMap PE.pv))]] _ _ at hT
 change Fn prog _ [.agg (sgV v1 (sesV r1) sk1 sp1 (CF.row ⟨sk1, sp1, sq1⟩) a1 e1)] _ _ at hG
 change ∀ h, Fn prog _ [.p (.sl TL.length 4 (nds TL)), .p (ndsV t1)] _ _ at hQ
 show Fn prog _ [.agg (dmC k1 p1 (.sl q1.length 5 (q1.flatMap PE.pv)) (ndsV t1) (.sl s1.length 41 (s1.flatMap ST.pv)) v1 (sesV r1) sk1 sp1 (CF.row ⟨sk1, sp1, sq1⟩) a1 e1 g1 w1 l1')] _ _
 generalize CF.row ⟨sk1, sp1, sq1⟩ = SQ1 at *
 generalize sesV r1 = R1 at *
 have hv := hvT ()
 clear hvT
 have hcT : (nds TL).length = TL.length * 4 := zeb TL
 have heqB : eqB TL t1 = true ↔ TL = t1 := zfO
 generalize hkb : zf5 s1 q1 = kb at *
 generalize hqb : eqB TL t1 = qb at *
 generalize ndsV t1 = T1 at *
 generalize q1.flatMap PE.pv = QL at *
 generalize q1.length = qn at *
 generalize nds TL = TN at *
 generalize TL.length = tn at *
 refine fnI fun w0 A => ?_
 refine G [10] ?_
 refine cK hC ?_
 refine G [2] ?_
 refine cK hS ?_
 refine G [2] ?_
 refine cK hG ?_
 refine zaa (xs := [.p (.v (.int .i64 e0)), .p (.v (.int .i64 e1')), .p (.v (.int .i64 e2))]) (zcV (es := [.p (.v (.int .i64 e0)), .p (.v (.int .i64 e1')), .p (.v (.int .i64 e2))]) underlying77 zr77 rfl sz28 (by kernel_rfl)) (by first | rfl | kernel_rfl) rfl ?_
 refine G [3] ?_
 refine zag (fun m st => ∃ i : Nat, m + i = 3 ∧ (∀ j, j < i → er3 e0 e1' e2 j = 0) ∧ st = St.of [(1, .ref 1 0), (19, .agg [.p (.v (.int .i64 e0)), .p (.v (.int .i64 e1')), .p (.v (.int .i64 e2))]), (20, .p (.v (.int .i64 i)))] [(1, .box 32 (dmC k1 p1 (.sl qn 5 QL) T1 (.sl s1.length 41 (s1.flatMap ST.pv)) v1 R1 sk1 sp1 SQ1 a1 e1 g1 w1 l1'))]) 3 ?_ ?_
 ·exact jar
 rintro m st ⟨i, hi, hf, rfl⟩
 refine G [5] ?_
 refine cX (fun h => ?_) fun h => ?_
 ·have hlt : i < 3 := by simp at h; omega
  clear h
  have hix := er3_at e0 e1' e2 i hlt
  have hbad : er3 e0 e1' e2 i ≠ 0 → E = er3 e0 e1' e2 i := by
   intro hne
   match i, hlt with
   | 0, _ => rw [if_pos (show e0 ≠ 0 from hne)] at hE; exact hE.symm
   | 1, _ =>
    have z0 : e0 = 0 := hf 0 (by omega)
    rw [if_neg (by rw [z0]; simp), if_pos (show e1' ≠ 0 from hne)] at hE; exact hE.symm
   | 2, _ =>
    have z0 : e0 = 0 := hf 0 (by omega)
    have z1 : e1' = 0 := hf 1 (by omega)
    rw [if_neg (by rw [z0]; simp), if_neg (by rw [z1]; simp), if_pos (show e2 ≠ 0 from hne)] at hE; exact hE.symm
  generalize hee : er3 e0 e1' e2 i = ee at *
  refine G [5] ?_
  refine zaa (zcE underlying77 sz28 underlying28 rfl (by omega) (by omega) (show _ = some (.p (.v (.int .i64 ee))) by rw [Int.toNat_natCast]; exact hix)) rfl rfl ?_
  refine jcq ?_
  refine cX (fun h => ?_) fun h => ?_
  ·have h7 : ee ≠ 0 := by simpa using h
   rw [hbad h7]
   refine jcs ?_
   exact yE
  have h7 : ee = 0 := by simpa using h
  clear h
  refine jct ?_
  refine ⟨m - 1, by omega, _, zah id _ _ ?_ ?_ rfl, i + 1, by omega, fun j hj => ?_, rfl⟩
  ·exact jak
  ·exact ⟨⟨rfl, rfl⟩, trivial⟩
  ·by_cases e : j = i
   ·rw [e, hee]; exact h7
   ·exact hf j (by omega)
 have hge : i = 3 := by simp at h; omega
 clear h
 subst hge
 have z0 : e0 = 0 := hf 0 (by omega)
 have z1 : e1' = 0 := hf 1 (by omega)
 have z2 : e2 = 0 := hf 2 (by omega)
 rw [if_neg (by rw [z0]; simp), if_neg (by rw [z1]; simp), if_neg (by rw [z2]; simp)] at hE
 have hT := hT z0
 have hQ := hQ (hfew z0)
 clear hf hfew hC hS hG z0 z1 z2
 refine G [11, 2, 4, 2, 4, 2, 5] ?_
 refine mb2 _ rfl rfl (fun _ => zbc func26 rfl rfl (hM) (by first | rfl | simp [AV.okInL, AV.okIn, zay]) rfl) (fun _ => trivial) ?_
 refine G [1, 2, 4, 2, 1, 9, 0] ?_
 refine cX (fun h => ?_) fun h => ?_
 ·have h1 : g1 < 0 ∨ 1099511627776 < g1 ∨ w1 < 0 ∨ 1099511627776 < w1 ∨ l1' < mo ∨ 4294967235 < l1' := by
   simp at h
   simp only [or_assoc] at h
   exact h
  exact jbs
 have h1 : ¬ (g1 < 0 ∨ 1099511627776 < g1 ∨ w1 < 0 ∨ 1099511627776 < w1 ∨ l1' < mo ∨ 4294967235 < l1') := by
  simp at h
  omega
 clear h
 rw [if_neg h1] at hE
 refine G [5] ?_
 refine cK hT ?_
 refine G [13] ?_
 refine cK hK ?_
 refine G [2] ?_
 by_cases hq : qb = true ∧ kb = true
 rotate_left
 ·have hng : ¬ ((TL = t1 ∧ kb = true) ∧ ∀ s ∈ s1, okSt k1 w1 s) := fun h => hq ⟨heqB.2 h.1.1, h.1.2⟩
  rw [if_neg hng] at hE
  subst hE
  refine G [6] ?_
  refine cV hQ ?_
  refine G [4, 2, 1, 9, 0] ?_
  refine cX (fun h => ?_) fun h => ?_
  ·refine jct ?_
   exact yE
  ·exact absurd (by simpa using h) hq
 obtain ⟨hq1, hq2⟩ := hq
 subst hq1 hq2
 refine G [6] ?_
 refine cV hQ ?_
 refine jcs ?_
 refine cX (fun h => ?_) fun h => ?_
 ·cases h
 refine G [10] ?_
 refine zag (fun m st => ∃ i : Nat, m + i = s1.length ∧ (∀ j, j < i → ∀ s, s1[j]? = some s → okSt k1 w1 s) ∧ st = St.of [(1, .ref 1 0), (80, .p (.sl s1.length 41 (s1.flatMap ST.pv))), (81, .p (.v (.int .i64 s1.length))), (82, .p (.v (.int .i64 i)))] [(1, .box 32 (dmC k1 p1 (.sl qn 5 QL) T1 (.sl s1.length 41 (s1.flatMap ST.pv)) v1 R1 sk1 sp1 SQ1 a1 e1 g1 w1 l1'))]) s1.length ?_ ?_
 ·exact jar
 rintro m st ⟨i, hi, hf, rfl⟩
 refine G [5] ?_
 refine cX (fun h => ?_) fun h => ?_
 ·have hlt : i < s1.length := by simp at h; omega
  clear h
  obtain ⟨x, hx⟩ : ∃ x, s1[i]? = some x := ⟨s1[i], List.getElem?_eq_getElem hlt⟩
  have hch := zar (f := ST.pv) (k := 41) (fun _ => rfl) hx
  have hle := zas (f := ST.pv) (k := 41) (fun _ => rfl) hlt
  have hmem := List.mem_of_getElem? hx
  have hbad : ¬ okSt k1 w1 x → E = 14 := fun hno => by
   rw [if_neg (fun h => hno (h.2 x hmem))] at hE
   exact hE.symm
  generalize s1.flatMap ST.pv = L at *
  obtain ⟨key, ep, a, b, c, ⟨lv, mine, nc, hb, hs⟩, q⟩ := x
  refine G [8] ?_
  refine jdA (zaf (Y := .agg (stC key ep a b c ⟨lv, mine, nc, hb, hs⟩ q.length (q.flatMap PQ.pv))) sz56 rfl rfl (Nat.eq_of_beq_eq_true rfl)) ?_
  refine zac ?_
  by_cases hk : k1 = ⟨#[]⟩
  ·by_cases hz : a = KY0 ∧ b = KY0 ∧ c = KY0
   ·cases lv with
    | true =>
     rw [hbad (fun h => h (.inl ⟨hk, .inr rfl⟩))]
     refine G [5] ?_
     refine jdz (zbu (c := true) (decide_eq_true hk)) ?_
     refine G [2] ?_
     refine zab (zak U51 rfl sz51 (by first | exact Nat.le_of_ble_eq_true rfl | omega | (simp only [AV.cells, List.length_map]; omega)) (show _ = zc4 a b c from rfl)) rfl rfl ⟨rfl, trivial⟩ ?_
     refine jdz (zcB pl51 zr51 rfl rfl) ?_
     refine zaa (zaC U51 (xs := a.vals ++ b.vals ++ c.vals) (ys := KY0.vals ++ KY0.vals ++ KY0.vals) rfl rfl (by kernel_rfl) (by kernel_rfl) (by kernel_rfl) (c := false) (by rw [zaQ.2 (zcu.2 hz)]; rfl)) rfl rfl ?_
     refine G [21, 9, 0] ?_
     exact yE
    | false =>
     by_cases ht : w1 < hs
     ·rw [hbad (fun h => h (.inr ht))]
      refine G [5] ?_
      refine jdz (zbu (c := true) (decide_eq_true hk)) ?_
      refine G [2] ?_
      refine zab (zak U51 rfl sz51 (by first | exact Nat.le_of_ble_eq_true rfl | omega | (simp only [AV.cells, List.length_map]; omega)) (show _ = zc4 a b c from rfl)) rfl rfl ⟨rfl, trivial⟩ ?_
      refine jdz (zcB pl51 zr51 rfl rfl) ?_
      refine zaa (zaC U51 (xs := a.vals ++ b.vals ++ c.vals) (ys := KY0.vals ++ KY0.vals ++ KY0.vals) rfl rfl (by kernel_rfl) (by kernel_rfl) (by kernel_rfl) (c := false) (by rw [zaQ.2 (zcu.2 hz)]; rfl)) rfl rfl ?_
      refine G [12, 4, 8, 9, 0] ?_
      exact yE
     ·have HOK : okSt k1 w1 ⟨key, ep, a, b, c, ⟨false, mine, nc, hb, hs⟩, q⟩ := by
       rintro (⟨_, h | h⟩ | h)
       ·exact h hz
       ·cases h
       ·exact ht h
      refine G [5] ?_
      refine jdz (zbu (c := true) (decide_eq_true hk)) ?_
      refine G [2] ?_
      refine zab (zak U51 rfl sz51 (by first | exact Nat.le_of_ble_eq_true rfl | omega | (simp only [AV.cells, List.length_map]; omega)) (show _ = zc4 a b c from rfl)) rfl rfl ⟨rfl, trivial⟩ ?_
      refine jdz (zcB pl51 zr51 rfl rfl) ?_
      refine zaa (zaC U51 (xs := a.vals ++ b.vals ++ c.vals) (ys := KY0.vals ++ KY0.vals ++ KY0.vals) rfl rfl (by kernel_rfl) (by kernel_rfl) (by kernel_rfl) (c := false) (by rw [zaQ.2 (zcu.2 hz)]; rfl)) rfl rfl ?_
      refine G [12, 3, 8, 9, 0] ?_
      refine ⟨m - 1, by omega, _, zah id _ _ ?_ ?_ rfl, i + 1, by omega, fun j hj s hs => ?_, rfl⟩
      ·(repeat (first | exact trivial | (refine ⟨⟨(by first | rfl | (simp; done) | (simp; omega)), rfl⟩, ?_⟩)))
      ·exact ⟨⟨rfl, rfl⟩, trivial⟩
      ·by_cases e : j = i
       ·subst e; rw [hx] at hs; cases hs; exact HOK
       ·exact hf j (by omega) s hs
   ·rw [hbad (fun h => h (.inl ⟨hk, .inl hz⟩))]
    refine G [5] ?_
    refine jdz (zbu (c := true) (decide_eq_true hk)) ?_
    refine G [2] ?_
    refine zab (zak U51 rfl sz51 (by first | exact Nat.le_of_ble_eq_true rfl | omega | (simp only [AV.cells, List.length_map]; omega)) (show _ = zc4 a b c from rfl)) rfl rfl ⟨rfl, trivial⟩ ?_
    refine jdz (zcB pl51 zr51 rfl rfl) ?_
    refine zaa (zaC U51 (xs := a.vals ++ b.vals ++ c.vals) (ys := KY0.vals ++ KY0.vals ++ KY0.vals) rfl rfl (by kernel_rfl) (by kernel_rfl) (by kernel_rfl) (c := true) (by rw [zdM.2 (fun e => hz (zcu.1 e))]; rfl)) rfl rfl ?_
    refine G [21, 9, 0] ?_
    exact yE
  ·by_cases ht : w1 < hs
   ·rw [hbad (fun h => h (.inr ht))]
    refine G [5] ?_
    refine jdz (zbu (c := false) (decide_eq_false hk)) ?_
    refine G [17, 4, 8, 9, 0] ?_
    exact yE
   ·have HOK : okSt k1 w1 ⟨key, ep, a, b, c, ⟨lv, mine, nc, hb, hs⟩, q⟩ := by
     rintro (⟨h, _⟩ | h)
     ·exact hk h
     ·exact ht h
    refine G [5] ?_
    refine jdz (zbu (c := false) (decide_eq_false hk)) ?_
    refine G [17, 3, 8, 9, 0] ?_
    refine ⟨m - 1, by omega, _, zah id _ _ ?_ ?_ rfl, i + 1, by omega, fun j hj s hs => ?_, rfl⟩
    ·exact jak
    ·exact ⟨⟨rfl, rfl⟩, trivial⟩
    ·by_cases e : j = i
     ·subst e; rw [hx] at hs; cases hs; exact HOK
     ·exact hf j (by omega) s hs
 have hge : i = s1.length := by simp at h; omega
 clear h
 subst hge
 have hall : ∀ s ∈ s1, okSt k1 w1 s := fun s hs => by
  obtain ⟨j, hj, rfl⟩ := List.getElem_of_mem hs
  exact hf j hj _ (List.getElem?_eq_getElem hj)
 rw [if_pos ⟨⟨heqB.1 rfl, rfl⟩, hall⟩] at hE
 subst hE
 refine jcs ?_
 exact yE
end Go.Proofs.YtbjdjclkbjpebaaGreatDoor
