/- daemon.Check, over data. -/
import Derived.Test.YtgpleldhddpcgaaGreatDoorSDm3
namespace Go.Proofs.YtgpleldhddpcgaaGreatDoor
open Go.RowKit Go.Sort
set_option linter.unusedVariables false
set_option linter.unusedSimpArgs false
set_option maxRecDepth 100000
theorem zcl {a b c : KY} : a.vals ++ b.vals ++ c.vals = KY0.vals ++ KY0.vals ++ KY0.vals ↔ (a = KY0 ∧ b = KY0 ∧ c = KY0) := by
 constructor
 ·intro h3
  obtain ⟨h6, h7⟩ := List.append_inj h3 rfl
  obtain ⟨h8, h9⟩ := List.append_inj h6 rfl
  exact ⟨KY.eqL_iff.1 (za7.2 h8), KY.eqL_iff.1 (za7.2 h9), KY.eqL_iff.1 (za7.2 h7)⟩
 ·rintro ⟨rfl, rfl, rfl⟩
  rfl
def er3 (a b c : Int) (i : Nat) : Int := if i = 0 then a else if i = 1 then b else c
theorem er3_at (a b c : Int) (i : Nat) (h : i < 3) : ([.p (.v (.int .i64 a)), .p (.v (.int .i64 b)), .p (.v (.int .i64 c))] : List AV)[i * 1]? = some (.p (.v (.int .i64 (er3 a b c i)))) := by
 match i, h with
 | 0, _ => rfl
 | 1, _ => rfl
 | 2, _ => rfl
set_option maxHeartbeats 8000000 in
theorem dmCheck_s (d : DM) (ok : d.OK) : Fn Tryz.prog 15 [.agg d.cells] (.p (.v (.int .i64 (dmE d)))) [] := by
 have hC := zgr d.c ok.c
 have hS := tabCheck_s d.ps (fun s hs => (ok.ps s hs).1) ok.psN
 have hG := sgCheck_s d.sg ok.sg
 have hM := tmost_s d.ps ok.psN
 have hT := fun h0 => ctree_s d.c ok.c h0
 have hK := keys_d d.ps d.c.ps ok.psN ok.c.len
 have hQ := fun h : (tOf (zaW d.c.ps d.c.ps.length)).list.length ≤ 4611686018427387904 => zgp (tOf (zaW d.c.ps d.c.ps.length)).list d.tree h (by have := ok.treeN; omega)
 have hfew : cfE d.c = 0 → (tOf (zaW d.c.ps d.c.ps.length)).list.length ≤ 4611686018427387904 := fun h0 => by
  have hg := zho h0
  have h1 := (zfV hg (fun p hp => (ok.c.ps p hp).1) d.c.ps.length (Nat.le_refl _)).l
  have h2 := zdX hg (Nat.le_refl d.c.ps.length)
  have h6 := hg.n6
  omega
 have hn := ok.psN
 have hvT := fun h : Unit => zdZ (tOf (zaW d.c.ps d.c.ps.length)).list
 obtain ⟨E, hE⟩ : ∃ E, dmE d = E := ⟨_, rfl⟩
 rw [hE]
 unfold dmE rangeD goodD at hE
 generalize cfE d.c = e0 at *
 generalize stsE d.ps = e1' at *
 generalize sgE d.sg = e2 at *
 generalize mostD d.ps = mo at *
 clear ok
 obtain ⟨⟨k1, p1, q1⟩, t1, s1, ⟨v1, r1, ⟨sk1, sp1, sq1⟩, a1, e1⟩, g1, w1, l1'⟩ := d
 dsimp only at hC hS hG hM hT hK hQ hfew hn hE hvT
 generalize (tOf (zaW q1 q1.length)).list = TL at *
 change Fn Tryz.prog _ [.agg [.p (.v (.string k1)), .p (.v (.int .i64 p1)), .p (.sl q1.length 5 (q1.flatMap PE.pv))]] _ _ at hC
 change ∀ h0, Fn Tryz.prog _ [.agg [.p (.v (.string k1)), .p (.v (.int .i64 p1)), .p (.sl q1.length 5 (q1.flatMap PE.pv))]] _ _ at hT
 change Fn Tryz.prog _ [.agg (sgV v1 (sesV r1) sk1 sp1 (CF.row ⟨sk1, sp1, sq1⟩) a1 e1)] _ _ at hG
 change ∀ h, Fn Tryz.prog _ [.p (.sl TL.length 4 (nds TL)), .p (ndsV t1)] _ _ at hQ
 show Fn Tryz.prog _ [.agg (dmC k1 p1 (.sl q1.length 5 (q1.flatMap PE.pv)) (ndsV t1) (.sl s1.length 41 (s1.flatMap ST.pv)) v1 (sesV r1) sk1 sp1 (CF.row ⟨sk1, sp1, sq1⟩) a1 e1 g1 w1 l1')] _ _
 generalize CF.row ⟨sk1, sp1, sq1⟩ = SQ1 at *
 generalize sesV r1 = R1 at *
 have hv := hvT ()
 clear hvT
 have hcT : (nds TL).length = TL.length * 4 := zdY TL
 have heqB : eqB TL t1 = true ↔ TL = t1 := zfn
 generalize hkb : zfE s1 q1 = kb at *
 generalize hqb : eqB TL t1 = qb at *
 generalize ndsV t1 = T1 at *
 generalize q1.flatMap PE.pv = QL at *
 generalize q1.length = qn at *
 generalize nds TL = TN at *
 generalize TL.length = tn at *
 refine zap Tryz.func15 rfl (Nat.le_of_ble_eq_true rfl) fun w0 A => ?_
 refine zaa ?_
 refine tx ?_
 refine zal (za2 (X := .agg _) 1 rfl) rfl rfl ⟨rfl, trivial⟩ ?_
 refine yA ?_
 refine zab ?_
 refine zaa (zaa ?_)
 refine zav 4 (by kernel_rfl) ?_
 refine yF zbK ?_
 refine lN Tryz.underlying24 rfl sz24 rfl rfl ⟨rfl, trivial⟩ ?_
 refine cS (fun n => 12 + 1000 * n) (hC) Tryz.func20 ?_
 refine yF zct ?_
 refine yL Tryz.underlying40 ?_
 refine cS (fun n => 15 + 1000 * n) (hS) Tryz.func35 ?_
 refine yF zcC ?_
 refine lN Tryz.underlying35 rfl sz35 rfl rfl ⟨rfl, trivial⟩ ?_
 refine cS (fun n => 18 + 1000 * n) (hG) Tryz.func36 ?_
 refine zac (xs := [.p (.v (.int .i64 e0)), .p (.v (.int .i64 e1')), .p (.v (.int .i64 e2))]) (zfO (es := [.p (.v (.int .i64 e0)), .p (.v (.int .i64 e1')), .p (.v (.int .i64 e2))]) Tryz.underlying67 zr67 rfl sz26 (by kernel_rfl)) (by first | rfl | kernel_rfl) rfl ?_
 refine yM ?_
 refine zab ⟨by kernel_rfl, ?_⟩
 refine zaj ?_
 refine zaE (fun m st => ∃ i : Nat, m + i = 3 ∧ (∀ j, j < i → er3 e0 e1' e2 j = 0) ∧ st = St.of [(1, .ref 1 0), (19, .agg [.p (.v (.int .i64 e0)), .p (.v (.int .i64 e1')), .p (.v (.int .i64 e2))]), (20, .p (.v (.int .i64 i)))] [(1, .box 42 (dmC k1 p1 (.sl qn 5 QL) T1 (.sl s1.length 41 (s1.flatMap ST.pv)) v1 R1 sk1 sp1 SQ1 a1 e1 g1 w1 l1'))]) 3 ?_ ?_
 ·refine ⟨_, zaJ id _ _ ?_ ?_ rfl, 0, by omega, by omega, rfl⟩
  ·(repeat (first | exact trivial | (refine ⟨⟨(by first | rfl | (simp; done) | (simp; omega)), rfl⟩, ?_⟩)))
  ·exact ⟨⟨rfl, rfl⟩, trivial⟩
 rintro m st ⟨i, hi, hf, rfl⟩
 refine zaa ?_
 refine tx ?_
 refine yP zaX ?_
 refine zab ?_
 refine zaa ?_
 refine zah _ rfl (fun h => ?_) (fun h => ?_)
 ·have hlt : i < 3 := by simp at h; omega
  clear h
  have hix := er3_at e0 e1' e2 i hlt
  have hbad : er3 e0 e1' e2 i ≠ 0 → E = er3 e0 e1' e2 i := by
   intro hne
   match i, hlt with
   | 0, _ => rw [if_pos (show e0 ≠ 0 from hne)] at hE; exact hE.symm
   | 1, _ =>
    have z0 : e0 = 0 := hf 0 (by omega)
    rw [if_neg (by rw [z0]; simp), if_pos (show e1' ≠ 0 from hne)] at hE; exact hE.symm
   | 2, _ =>
    have z0 : e0 = 0 := hf 0 (by omega)
    have z1 : e1' = 0 := hf 1 (by omega)
    rw [if_neg (by rw [z0]; simp), if_neg (by rw [z1]; simp), if_pos (show e2 ≠ 0 from hne)] at hE; exact hE.symm
  generalize hee : er3 e0 e1' e2 i = ee at *
  refine zad (zaa (zaj (zaa ?_)))
  refine tx ?_
  refine zac (ze9 Tryz.underlying67 sz26 Tryz.underlying26 rfl (by omega) (by omega) (show _ = some (.p (.v (.int .i64 ee))) by rw [Int.toNat_natCast]; exact hix)) rfl rfl ?_
  refine yA ?_
  refine zab ?_
  refine zaa ?_
  refine tx ?_
  refine yM ?_
  refine yP za8 ?_
  refine zab ?_
  refine zae ?_
  refine zah _ rfl (fun h => ?_) (fun h => ?_)
  ·have h7 : ee ≠ 0 := by simpa using h
   rw [hbad h7]
   refine zaa ?_
   refine tx ?_
   refine yM ?_
   refine yA ?_
   refine zab ?_
   refine zaf (zaK (zam (zam (zaK (zam ?_)))))
   refine yT ?_ ?_
   ·exact rfl
   ·exact trivial
  have h7 : ee = 0 := by simpa using h
  clear h
  refine zad (za3 (zae ?_))
  refine tx ?_
  refine zac (za4 (by first | exact IntWalk.i64_in _ (by omega) | rfl)) rfl rfl ?_
  refine yM ?_
  refine zab ?_
  refine zae ?_
  refine ⟨m - 1, by omega, _, zaJ id _ _ ?_ ?_ rfl, i + 1, by omega, fun j hj => ?_, rfl⟩
  ·(repeat (first | exact trivial | (refine ⟨⟨(by first | rfl | (simp; done) | (simp; omega)), rfl⟩, ?_⟩)))
  ·exact ⟨⟨rfl, rfl⟩, trivial⟩
  ·by_cases e : j = i
   ·rw [e, hee]; exact h7
   ·exact hf j (by omega)
 have hge : i = 3 := by simp at h; omega
 clear h
 subst hge
 have z0 : e0 = 0 := hf 0 (by omega)
 have z1 : e1' = 0 := hf 1 (by omega)
 have z2 : e2 = 0 := hf 2 (by omega)
 rw [if_neg (by rw [z0]; simp), if_neg (by rw [z1]; simp), if_neg (by rw [z2]; simp)] at hE
 have hT := hT z0
 have hQ := hQ (hfew z0)
 clear hf hfew hC hS hG z0 z1 z2
 refine zaG (zaa (zaa ?_))
 refine zav 4 (by kernel_rfl) ?_
 refine yF zfA ?_
 refine yL Tryz.underlying3 ?_
 refine yP zaX ?_
 refine yM ?_
 refine mb2 _ rfl rfl (fun hb => (zag zfA rfl)) (fun _ => trivial) ?_
 refine mb2 _ rfl rfl (fun hb => (zat Tryz.underlying3 rfl (by first | rfl | assumption))) (fun _ => ⟨rfl, trivial⟩) ?_
 refine mb2 _ rfl rfl (fun hb => za5) (fun _ => trivial) ?_
 refine zac (a_or (by first | exact id | (simp; done) | grind)) rfl rfl ?_
 refine yM ?_
 refine mb2 _ rfl rfl (fun hb => (zag zc6 rfl)) (fun _ => trivial) ?_
 refine mb2 _ rfl rfl (fun hb => (zat Tryz.underlying3 rfl (by first | rfl | assumption))) (fun _ => ⟨rfl, trivial⟩) ?_
 refine mb2 _ rfl rfl (fun hb => zaX) (fun _ => trivial) ?_
 refine zac (a_or (by first | exact id | (simp; done) | grind)) rfl rfl ?_
 refine yM ?_
 refine mb2 _ rfl rfl (fun hb => (zag zc6 rfl)) (fun _ => trivial) ?_
 refine mb2 _ rfl rfl (fun hb => (zat Tryz.underlying3 rfl (by first | rfl | assumption))) (fun _ => ⟨rfl, trivial⟩) ?_
 refine mb2 _ rfl rfl (fun hb => za5) (fun _ => trivial) ?_
 refine zac (a_or (by first | exact id | (simp; done) | grind)) rfl rfl ?_
 refine yM ?_
 refine mb2 _ rfl rfl (fun hb => (zag zfz rfl)) (fun _ => trivial) ?_
 refine mb2 _ rfl rfl (fun hb => (zat Tryz.underlying3 rfl (by first | rfl | assumption))) (fun _ => ⟨rfl, trivial⟩) ?_
 refine mb2 _ rfl rfl (fun hb => (zag zct rfl)) (fun _ => trivial) ?_
 refine mb2 _ rfl rfl (fun hb => (zat Tryz.underlying40 rfl (by first | rfl | assumption))) (fun _ => ⟨rfl, trivial⟩) ?_
 refine mb2 _ rfl rfl (fun _ => zbd Tryz.func37 rfl rfl (hM) (by first | rfl | simp [AV.okInL, AV.okIn, zaZ]) rfl) (fun _ => trivial) ?_
 refine mb2 _ rfl rfl (fun hb => zaX) (fun _ => trivial) ?_
 refine zac (a_or (by first | exact id | (simp; done) | grind)) rfl rfl ?_
 refine yM ?_
 refine mb2 _ rfl rfl (fun hb => (zag zfz rfl)) (fun _ => trivial) ?_
 refine mb2 _ rfl rfl (fun hb => (zat Tryz.underlying3 rfl (by first | rfl | assumption))) (fun _ => ⟨rfl, trivial⟩) ?_
 refine mb2 _ rfl rfl (fun hb => za5) (fun _ => trivial) ?_
 refine zac (a_or (by first | exact id | (simp; done) | grind)) rfl rfl ?_
 refine zab ⟨by kernel_rfl, ?_⟩
 refine zae ?_
 refine zah _ rfl (fun h => ?_) (fun h => ?_)
 ·have h1 : g1 < 0 ∨ 1099511627776 < g1 ∨ w1 < 0 ∨ 1099511627776 < w1 ∨ l1' < mo ∨ 4294967235 < l1' := by
   simp at h
   simp only [or_assoc] at h
   exact h
  rw [if_pos h1] at hE
  subst hE
  refine zaa ?_
  refine tx ?_
  refine yA ?_
  refine zab ?_
  refine zaf (zam ?_)
  refine yT ?_ ?_
  ·exact rfl
  ·exact trivial
 have h1 : ¬ (g1 < 0 ∨ 1099511627776 < g1 ∨ w1 < 0 ∨ 1099511627776 < w1 ∨ l1' < mo ∨ 4294967235 < l1') := by
  simp at h
  omega
 clear h
 rw [if_neg h1] at hE
 refine zad (zaa ?_)
 refine tx ?_
 refine yF zbK ?_
 refine lN Tryz.underlying24 rfl sz24 rfl rfl ⟨rfl, trivial⟩ ?_
 refine cS (fun n => 61 + 1000 * n) (hT) Tryz.func7 ?_
 refine yP (zaq (r := .tup _)) ?_
 refine yP (zar rfl) ?_
 refine yP (zar rfl) ?_
 refine yP (zas (r := .row _)) ?_
 refine yA ?_
 refine zab ?_
 refine zaa ?_
 refine tx ?_
 refine yF zct ?_
 refine yL Tryz.underlying40 ?_
 refine yF zbK ?_
 refine yF zbO ?_
 refine yL Tryz.underlying22 ?_
 refine cS (fun n => 69 + 1000 * n) (hK) Tryz.func38 ?_
 refine yA ?_
 refine zab ?_
 by_cases hq : qb = true ∧ kb = true
 rotate_left
 ·have hng : ¬ ((TL = t1 ∧ kb = true) ∧ ∀ s ∈ s1, okSt k1 w1 s) := fun h => hq ⟨heqB.2 h.1.1, h.1.2⟩
  rw [if_neg hng] at hE
  subst hE
  refine zaa (zaa ?_)
  refine tx ?_
  refine yP (zaq (r := .row _)) ?_
  refine yF zdr ?_
  refine yL Tryz.underlying25 ?_
  refine yV (fun n => 73 + 1000 * n) (hQ) Tryz.func24 ?_
  refine yP za0 ?_
  refine yM ?_
  refine mb2 _ rfl rfl (fun hb => (zaq (r := .p _))) (fun _ => trivial) ?_
  refine mb2 _ rfl rfl (fun hb => za0) (fun _ => trivial) ?_
  refine zac (a_or (by first | exact id | (simp; done) | grind)) rfl rfl ?_
  refine zab ?_
  refine zae ?_
  refine zah _ rfl (fun h => ?_) (fun h => ?_)
  ·refine zaa ?_
   refine tx ?_
   refine yA ?_
   refine zab ?_
   refine zaf (zam ?_)
   refine yT ?_ ?_
   ·exact rfl
   ·exact trivial
  ·exact absurd (by simpa using h) hq
 obtain ⟨hq1, hq2⟩ := hq
 subst hq1 hq2
 refine zaa (zaa ?_)
 refine tx ?_
 refine yP (zaq (r := .row _)) ?_
 refine yF zdr ?_
 refine yL Tryz.underlying25 ?_
 refine yV (fun n => 73 + 1000 * n) (hQ) Tryz.func24 ?_
 refine yP za0 ?_
 refine yM ?_
 refine yM ?_
 refine yP za0 ?_
 refine yP zai ?_
 refine zab ?_
 refine zae ?_
 refine zah _ rfl (fun h => ?_) (fun h => ?_)
 ·cases h
 refine zad (zaa (zaa ?_))
 refine tx ?_
 refine yF zct ?_
 refine yL Tryz.underlying40 ?_
 refine yP (zaC Tryz.underlying40) ?_
 refine yM ?_
 refine zab ?_
 refine zaj ?_
 refine zaE (fun m st => ∃ i : Nat, m + i = s1.length ∧ (∀ j, j < i → ∀ s, s1[j]? = some s → okSt k1 w1 s) ∧ st = St.of [(1, .ref 1 0), (80, .p (.sl s1.length 41 (s1.flatMap ST.pv))), (81, .p (.v (.int .i64 s1.length))), (82, .p (.v (.int .i64 i)))] [(1, .box 42 (dmC k1 p1 (.sl qn 5 QL) T1 (.sl s1.length 41 (s1.flatMap ST.pv)) v1 R1 sk1 sp1 SQ1 a1 e1 g1 w1 l1'))]) s1.length ?_ ?_
 ·refine ⟨_, zaJ id _ _ ?_ ?_ rfl, 0, by omega, by omega, rfl⟩
  ·(repeat (first | exact trivial | (refine ⟨⟨(by first | rfl | (simp; done) | (simp; omega)), rfl⟩, ?_⟩)))
  ·exact ⟨⟨rfl, rfl⟩, trivial⟩
 rintro m st ⟨i, hi, hf, rfl⟩
 refine zaa ?_
 refine tx ?_
 refine yP zaX ?_
 refine zab ?_
 refine zaa ?_
 refine zah _ rfl (fun h => ?_) (fun h => ?_)
 ·have hlt : i < s1.length := by simp at h; omega
  clear h
  obtain ⟨x, hx⟩ : ∃ x, s1[i]? = some x := ⟨s1[i], List.getElem?_eq_getElem hlt⟩
  have hch := zaN (f := ST.pv) (k := 41) (fun _ => rfl) hx
  have hle := zaP (f := ST.pv) (k := 41) (fun _ => rfl) hlt
  have hmem := List.mem_of_getElem? hx
  have hbad : ¬ okSt k1 w1 x → E = 14 := fun hno => by
   rw [if_neg (fun h => hno (h.2 x hmem))] at hE
   exact hE.symm
  generalize s1.flatMap ST.pv = L at *
  obtain ⟨key, ep, a, b, c, ⟨lv, mine, nc, hb, hs⟩, q⟩ := x
  refine zad (zaa (zaj (zaa ?_)))
  refine tx ?_
  refine zac (zao Tryz.underlying40 sz81 (by omega) (by omega) rfl) rfl rfl ?_
  refine zac (zaz Tryz.underlying81 rfl sz81 (by first | omega | (simp; done) | (simp; omega)) (hch)) rfl rfl ?_
  refine zal (zaU 9 zr81 rfl) rfl rfl ⟨rfl, trivial⟩ ?_
  refine zal (zaA (Y := .agg (stC key ep a b c ⟨lv, mine, nc, hb, hs⟩ q.length (q.flatMap PQ.pv))) sz81 rfl rfl (Nat.eq_of_beq_eq_true rfl)) rfl rfl ⟨rfl, trivial⟩ ?_
  refine zab ?_
  by_cases hk : k1 = ⟨#[]⟩
  ·by_cases hz : a = KY0 ∧ b = KY0 ∧ c = KY0
   ·cases lv with
    | true =>
     rw [hbad (fun h => h (.inl ⟨hk, .inr rfl⟩))]
     refine zaa ?_
     refine tx ?_
     refine yF zbK ?_
     refine yF zbo ?_
     refine yL Tryz.underlying9 ?_
     refine yP (zaI (c := true) (decide_eq_true hk)) ?_
     refine yM ?_
     refine yF zbI ?_
     refine zal (zaL Tryz.underlying76 rfl sz76 (by first | exact Nat.le_of_ble_eq_true rfl | omega | (simp only [AV.cells, List.length_map]; omega)) (show _ = zcX a b c from rfl)) rfl rfl ⟨rfl, trivial⟩ ?_
     refine yP (zaR pl76 zr76 rfl rfl) ?_
     refine zac (zaV Tryz.underlying76 (xs := a.vals ++ b.vals ++ c.vals) (ys := KY0.vals ++ KY0.vals ++ KY0.vals) rfl rfl (by kernel_rfl) (by kernel_rfl) (by kernel_rfl) (c := false) (by rw [za7.2 (zcl.2 hz)]; rfl)) rfl rfl ?_
     refine yM ?_
     refine yF zb1 ?_
     refine yF zdK ?_
     refine yL Tryz.underlying4 ?_
     refine yP zai ?_
     refine yP zak ?_
     refine yM ?_
     refine yS ?_
     refine yS ?_
     refine yS ?_
     refine yS ?_
     refine yS ?_
     refine yS ?_
     refine yP zak ?_
     refine zab ?_
     refine zae ?_
     refine zaD rfl ?_
     refine zaa ?_
     refine tx ?_
     refine yA ?_
     refine zab ?_
     refine zaf (zaK (zam (zam (zaK (zam ?_)))))
     refine yT ?_ ?_
     ·exact rfl
     ·exact trivial
    | false =>
     by_cases ht : w1 < hs
     ·rw [hbad (fun h => h (.inr ht))]
      refine zaa ?_
      refine tx ?_
      refine yF zbK ?_
      refine yF zbo ?_
      refine yL Tryz.underlying9 ?_
      refine yP (zaI (c := true) (decide_eq_true hk)) ?_
      refine yM ?_
      refine yF zbI ?_
      refine zal (zaL Tryz.underlying76 rfl sz76 (by first | exact Nat.le_of_ble_eq_true rfl | omega | (simp only [AV.cells, List.length_map]; omega)) (show _ = zcX a b c from rfl)) rfl rfl ⟨rfl, trivial⟩ ?_
      refine yP (zaR pl76 zr76 rfl rfl) ?_
      refine zac (zaV Tryz.underlying76 (xs := a.vals ++ b.vals ++ c.vals) (ys := KY0.vals ++ KY0.vals ++ KY0.vals) rfl rfl (by kernel_rfl) (by kernel_rfl) (by kernel_rfl) (c := false) (by rw [za7.2 (zcl.2 hz)]; rfl)) rfl rfl ?_
      refine yM ?_
      refine yF zb1 ?_
      refine yF zdK ?_
      refine yL Tryz.underlying4 ?_
      refine yP zai ?_
      refine yP zak ?_
      refine yM ?_
      refine yF zb1 ?_
      refine yF zd3 ?_
      refine yL Tryz.underlying3 ?_
      refine yF zc6 ?_
      refine yL Tryz.underlying3 ?_
      refine zac (zb5 (c := true) (by simp; omega)) rfl rfl ?_
      refine yP zai ?_
      refine zab ?_
      refine zae ?_
      refine zaD rfl ?_
      refine zaa ?_
      refine tx ?_
      refine yA ?_
      refine zab ?_
      refine zaf (zaK (zam (zam (zaK (zam ?_)))))
      refine yT ?_ ?_
      ·exact rfl
      ·exact trivial
     ·have HOK : okSt k1 w1 ⟨key, ep, a, b, c, ⟨false, mine, nc, hb, hs⟩, q⟩ := by
       rintro (⟨_, h | h⟩ | h)
       ·exact h hz
       ·cases h
       ·exact ht h
      refine zaa ?_
      refine tx ?_
      refine yF zbK ?_
      refine yF zbo ?_
      refine yL Tryz.underlying9 ?_
      refine yP (zaI (c := true) (decide_eq_true hk)) ?_
      refine yM ?_
      refine yF zbI ?_
      refine zal (zaL Tryz.underlying76 rfl sz76 (by first | exact Nat.le_of_ble_eq_true rfl | omega | (simp only [AV.cells, List.length_map]; omega)) (show _ = zcX a b c from rfl)) rfl rfl ⟨rfl, trivial⟩ ?_
      refine yP (zaR pl76 zr76 rfl rfl) ?_
      refine zac (zaV Tryz.underlying76 (xs := a.vals ++ b.vals ++ c.vals) (ys := KY0.vals ++ KY0.vals ++ KY0.vals) rfl rfl (by kernel_rfl) (by kernel_rfl) (by kernel_rfl) (c := false) (by rw [za7.2 (zcl.2 hz)]; rfl)) rfl rfl ?_
      refine yM ?_
      refine yF zb1 ?_
      refine yF zdK ?_
      refine yL Tryz.underlying4 ?_
      refine yP zai ?_
      refine yP zak ?_
      refine yM ?_
      refine yF zb1 ?_
      refine yF zd3 ?_
      refine yL Tryz.underlying3 ?_
      refine yF zc6 ?_
      refine yL Tryz.underlying3 ?_
      refine zac (zb5 (c := false) (by simp; omega)) rfl rfl ?_
      refine yP zai ?_
      refine zab ?_
      refine zae ?_
      refine zan rfl ?_
      refine zad (za3 (zae ?_))
      refine tx ?_
      refine zac (za4 (by first | exact IntWalk.i64_in _ (by omega) | rfl)) rfl rfl ?_
      refine yM ?_
      refine zab ?_
      refine zae ?_
      refine ⟨m - 1, by omega, _, zaJ id _ _ ?_ ?_ rfl, i + 1, by omega, fun j hj s hs => ?_, rfl⟩
      ·(repeat (first | exact trivial | (refine ⟨⟨(by first | rfl | (simp; done) | (simp; omega)), rfl⟩, ?_⟩)))
      ·exact ⟨⟨rfl, rfl⟩, trivial⟩
      ·by_cases e : j = i
       ·subst e; rw [hx] at hs; cases hs; exact HOK
       ·exact hf j (by omega) s hs
   ·rw [hbad (fun h => h (.inl ⟨hk, .inl hz⟩))]
    refine zaa ?_
    refine tx ?_
    refine yF zbK ?_
    refine yF zbo ?_
    refine yL Tryz.underlying9 ?_
    refine yP (zaI (c := true) (decide_eq_true hk)) ?_
    refine yM ?_
    refine yF zbI ?_
    refine zal (zaL Tryz.underlying76 rfl sz76 (by first | exact Nat.le_of_ble_eq_true rfl | omega | (simp only [AV.cells, List.length_map]; omega)) (show _ = zcX a b c from rfl)) rfl rfl ⟨rfl, trivial⟩ ?_
    refine yP (zaR pl76 zr76 rfl rfl) ?_
    refine zac (zaV Tryz.underlying76 (xs := a.vals ++ b.vals ++ c.vals) (ys := KY0.vals ++ KY0.vals ++ KY0.vals) rfl rfl (by kernel_rfl) (by kernel_rfl) (by kernel_rfl) (c := true) (by rw [zds.2 (fun e => hz (zcl.1 e))]; rfl)) rfl rfl ?_
    refine yM ?_
    refine yS ?_
    refine yS ?_
    refine yS ?_
    refine yP zak ?_
    refine yP zak ?_
    refine yM ?_
    refine yS ?_
    refine yS ?_
    refine yS ?_
    refine yS ?_
    refine yS ?_
    refine yS ?_
    refine yP zak ?_
    refine zab ?_
    refine zae ?_
    refine zaD rfl ?_
    refine zaa ?_
    refine tx ?_
    refine yA ?_
    refine zab ?_
    refine zaf (zaK (zam (zam (zaK (zam ?_)))))
    refine yT ?_ ?_
    ·exact rfl
    ·exact trivial
  ·by_cases ht : w1 < hs
   ·rw [hbad (fun h => h (.inr ht))]
    refine zaa ?_
    refine tx ?_
    refine yF zbK ?_
    refine yF zbo ?_
    refine yL Tryz.underlying9 ?_
    refine yP (zaI (c := false) (decide_eq_false hk)) ?_
    refine yM ?_
    refine yS ?_
    refine yS ?_
    refine yS ?_
    refine yS ?_
    refine yS ?_
    refine yS ?_
    refine yS ?_
    refine yS ?_
    refine yS ?_
    refine yP zai ?_
    refine yM ?_
    refine yF zb1 ?_
    refine yF zd3 ?_
    refine yL Tryz.underlying3 ?_
    refine yF zc6 ?_
    refine yL Tryz.underlying3 ?_
    refine zac (zb5 (c := true) (by simp; omega)) rfl rfl ?_
    refine yP zai ?_
    refine zab ?_
    refine zae ?_
    refine zaD rfl ?_
    refine zaa ?_
    refine tx ?_
    refine yA ?_
    refine zab ?_
    refine zaf (zaK (zam (zam (zaK (zam ?_)))))
    refine yT ?_ ?_
    ·exact rfl
    ·exact trivial
   ·have HOK : okSt k1 w1 ⟨key, ep, a, b, c, ⟨lv, mine, nc, hb, hs⟩, q⟩ := by
     rintro (⟨h, _⟩ | h)
     ·exact hk h
     ·exact ht h
    refine zaa ?_
    refine tx ?_
    refine yF zbK ?_
    refine yF zbo ?_
    refine yL Tryz.underlying9 ?_
    refine yP (zaI (c := false) (decide_eq_false hk)) ?_
    refine yM ?_
    refine yS ?_
    refine yS ?_
    refine yS ?_
    refine yS ?_
    refine yS ?_
    refine yS ?_
    refine yS ?_
    refine yS ?_
    refine yS ?_
    refine yP zai ?_
    refine yM ?_
    refine yF zb1 ?_
    refine yF zd3 ?_
    refine yL Tryz.underlying3 ?_
    refine yF zc6 ?_
    refine yL Tryz.underlying3 ?_
    refine zac (zb5 (c := false) (by simp; omega)) rfl rfl ?_
    refine yP zai ?_
    refine zab ?_
    refine zae ?_
    refine zan rfl ?_
    refine zad (za3 (zae ?_))
    refine tx ?_
    refine zac (za4 (by first | exact IntWalk.i64_in _ (by omega) | rfl)) rfl rfl ?_
    refine yM ?_
    refine zab ?_
    refine zae ?_
    refine ⟨m - 1, by omega, _, zaJ id _ _ ?_ ?_ rfl, i + 1, by omega, fun j hj s hs => ?_, rfl⟩
    ·(repeat (first | exact trivial | (refine ⟨⟨(by first | rfl | (simp; done) | (simp; omega)), rfl⟩, ?_⟩)))
    ·exact ⟨⟨rfl, rfl⟩, trivial⟩
    ·by_cases e : j = i
     ·subst e; rw [hx] at hs; cases hs; exact HOK
     ·exact hf j (by omega) s hs
 have hge : i = s1.length := by simp at h; omega
 clear h
 subst hge
 have hall : ∀ s ∈ s1, okSt k1 w1 s := fun s hs => by
  obtain ⟨j, hj, rfl⟩ := List.getElem_of_mem hs
  exact hf j hj _ (List.getElem?_eq_getElem hj)
 rw [if_pos ⟨⟨heqB.1 rfl, rfl⟩, hall⟩] at hE
 subst hE
 refine zaG (zaa ?_)
 refine tx ?_
 refine yA ?_
 refine zab ?_
 refine zaf ?_
 refine yT ?_ ?_
 ·exact rfl
 ·exact trivial
end Go.Proofs.YtgpleldhddpcgaaGreatDoor
