/- The reference's DaemonFault, over data. -/
import Derived.Test.YtgpleldhddpcgaaGreatDoorSDm4
namespace Go.Proofs.YtgpleldhddpcgaaGreatDoor
open Go.RowKit Go.Sort
set_option linter.unusedVariables false
set_option linter.unusedSimpArgs false
set_option maxRecDepth 100000
set_option maxHeartbeats 16000000 in
theorem refDm_s (d : DM) (ok : d.OK) : Fn Tryz.prog 18 [.agg d.cells] (.p (.v (.int .i64 (dmE d)))) [] := by
 have hC := zf7 d.c ok.c
 have hS := refStates_s d.ps (fun s hs => (ok.ps s hs).1) ok.psN
 have hG := refStage_s d.sg ok.sg
 have hM := rmost_s d.ps ok.psN
 have hT := fun h0 => rtree_s d.c ok.c h0
 have hfew : cfE d.c = 0 → (tOf (zaW d.c.ps d.c.ps.length)).list.length ≤ 4611686018427387904 := fun h0 => by
  have hg := zho h0
  have h1 := (zfV hg (fun p hp => (ok.c.ps p hp).1) d.c.ps.length (Nat.le_refl _)).l
  have h2 := zdX hg (Nat.le_refl d.c.ps.length)
  have h6 := hg.n6
  omega
 have hn := ok.psN
 have hnq := ok.c.len
 have hnt : d.tree.length ≤ 4611686018427387904 := by have := ok.treeN; omega
 obtain ⟨E, hE⟩ : ∃ E, dmE d = E := ⟨_, rfl⟩
 rw [hE]
 unfold dmE rangeD goodD at hE
 generalize cfE d.c = e0 at *
 generalize stsE d.ps = e1' at *
 generalize sgE d.sg = e2 at *
 generalize mostD d.ps = mo at *
 clear ok
 obtain ⟨⟨k1, p1, q1⟩, t1, s1, ⟨v1, r1, ⟨sk1, sp1, sq1⟩, a1, e1⟩, g1, w1, l1'⟩ := d
 dsimp only at hC hS hG hM hT hfew hn hnq hnt hE
 generalize (tOf (zaW q1 q1.length)).list = TL at *
 change Fn Tryz.prog _ [.agg [.p (.v (.string k1)), .p (.v (.int .i64 p1)), .p (.sl q1.length 5 (q1.flatMap PE.pv))]] _ _ at hC
 change ∀ h0, Fn Tryz.prog _ [.agg [.p (.v (.string k1)), .p (.v (.int .i64 p1)), .p (.sl q1.length 5 (q1.flatMap PE.pv))]] _ _ at hT
 change Fn Tryz.prog _ [.agg (sgV v1 (sesV r1) sk1 sp1 (CF.row ⟨sk1, sp1, sq1⟩) a1 e1)] _ _ at hG
 show Fn Tryz.prog _ [.agg (dmC k1 p1 (.sl q1.length 5 (q1.flatMap PE.pv)) (.sl t1.length 4 (nds t1)) (.sl s1.length 41 (s1.flatMap ST.pv)) v1 (sesV r1) sk1 sp1 (CF.row ⟨sk1, sp1, sq1⟩) a1 e1 g1 w1 l1')] _ _
 generalize CF.row ⟨sk1, sp1, sq1⟩ = SQ1 at *
 generalize sesV r1 = R1 at *
 have hchT := fun (i : Nat) (x : ND) (h : TL[i]? = some x) => zaN (f := ND.pv) (k := 4) (fun _ => rfl) h
 have hleT := fun (i : Nat) (h : i < TL.length) => zaP (f := ND.pv) (k := 4) (fun _ => rfl) h
 have hcht := fun (i : Nat) (x : ND) (h : t1[i]? = some x) => zaN (f := ND.pv) (k := 4) (fun _ => rfl) h
 have hlet := fun (i : Nat) (h : i < t1.length) => zaP (f := ND.pv) (k := 4) (fun _ => rfl) h
 have hchS := fun (i : Nat) (x : ST) (h : s1[i]? = some x) => zaN (f := ST.pv) (k := 41) (fun _ => rfl) h
 have hleS := fun (i : Nat) (h : i < s1.length) => zaP (f := ST.pv) (k := 41) (fun _ => rfl) h
 have hchQ := fun (i : Nat) (x : PE) (h : q1[i]? = some x) => zaN (f := PE.pv) (k := 5) (fun _ => rfl) h
 have hleQ := fun (i : Nat) (h : i < q1.length) => zaP (f := PE.pv) (k := 5) (fun _ => rfl) h
 change ∀ (i : Nat) (x : ND), TL[i]? = some x → ((nds TL).drop (i * 4)).take 4 = x.pv at hchT
 change ∀ (i : Nat), i < TL.length → i * 4 + 4 ≤ (nds TL).length at hleT
 change ∀ (i : Nat) (x : ND), t1[i]? = some x → ((nds t1).drop (i * 4)).take 4 = x.pv at hcht
 change ∀ (i : Nat), i < t1.length → i * 4 + 4 ≤ (nds t1).length at hlet
 generalize nds TL = TN at *
 generalize nds t1 = T1 at *
 generalize s1.flatMap ST.pv = L at *
 generalize q1.flatMap PE.pv = QL at *
 refine zap Tryz.func18 rfl (Nat.le_of_ble_eq_true rfl) fun w0 A => ?_
 refine zaa ?_
 refine tx ?_
 refine zal (za2 (X := .agg _) 1 rfl) rfl rfl ⟨rfl, trivial⟩ ?_
 refine yA ?_
 refine zab ?_
 refine zaa (zaa ?_)
 refine tx ?_
 refine yF zbK ?_
 refine lN Tryz.underlying24 rfl sz24 rfl rfl ⟨rfl, trivial⟩ ?_
 refine cS (fun n => 14 + 1000 * n) (hC) Tryz.func22 ?_
 refine yA ?_
 refine zab ?_
 refine zaa ?_
 refine tx ?_
 refine yM ?_
 refine yP za8 ?_
 refine zab ?_
 refine zae ?_
 refine zah _ rfl (fun h => ?_) (fun h => ?_)
 ·have h1 : e0 ≠ 0 := by simpa using h
  rw [if_pos h1] at hE
  subst hE
  refine zaa ?_
  refine tx ?_
  refine yM ?_
  refine yA ?_
  refine zab ?_
  refine zaf (zam ?_)
  refine yT ?_ ?_
  ·exact rfl
  ·exact trivial
 have z0 : e0 = 0 := by simpa using h
 clear h
 rw [if_neg (by rw [z0]; simp)] at hE
 refine zad (zaa (zaa ?_))
 refine tx ?_
 refine yF zct ?_
 refine yL Tryz.underlying40 ?_
 refine cS (fun n => 20 + 1000 * n) (hS) Tryz.func49 ?_
 refine yA ?_
 refine zab ?_
 refine zaa ?_
 refine tx ?_
 refine yM ?_
 refine yP za8 ?_
 refine zab ?_
 refine zae ?_
 refine zah _ rfl (fun h => ?_) (fun h => ?_)
 ·have h1 : e1' ≠ 0 := by simpa using h
  rw [if_pos h1] at hE
  subst hE
  refine zaa ?_
  refine tx ?_
  refine yM ?_
  refine yA ?_
  refine zab ?_
  refine zaf (zam ?_)
  refine yT ?_ ?_
  ·exact rfl
  ·exact trivial
 have z1 : e1' = 0 := by simpa using h
 clear h
 rw [if_neg (by rw [z1]; simp)] at hE
 refine zad (zaa (zaa ?_))
 refine tx ?_
 refine yF zcC ?_
 refine lN Tryz.underlying35 rfl sz35 rfl rfl ⟨rfl, trivial⟩ ?_
 refine cS (fun n => 26 + 1000 * n) (hG) Tryz.func50 ?_
 refine yA ?_
 refine zab ?_
 refine zaa ?_
 refine tx ?_
 refine yM ?_
 refine yP za8 ?_
 refine zab ?_
 refine zae ?_
 refine zah _ rfl (fun h => ?_) (fun h => ?_)
 ·have h1 : e2 ≠ 0 := by simpa using h
  rw [if_pos h1] at hE
  subst hE
  refine zaa ?_
  refine tx ?_
  refine yM ?_
  refine yA ?_
  refine zab ?_
  refine zaf (zam ?_)
  refine yT ?_ ?_
  ·exact rfl
  ·exact trivial
 have z2 : e2 = 0 := by simpa using h
 clear h
 rw [if_neg (by rw [z2]; simp)] at hE
 have hT := hT z0
 have hfew := hfew z0
 clear hC hS hG z0 z1 z2
 refine zad (zaa (zaa ?_))
 refine zav 4 (by kernel_rfl) ?_
 refine yF zfA ?_
 refine yL Tryz.underlying3 ?_
 refine yP zaX ?_
 refine yM ?_
 refine mb2 _ rfl rfl (fun hb => (zag zfA rfl)) (fun _ => trivial) ?_
 refine mb2 _ rfl rfl (fun hb => (zat Tryz.underlying3 rfl (by first | rfl | assumption))) (fun _ => ⟨rfl, trivial⟩) ?_
 refine mb2 _ rfl rfl (fun hb => za5) (fun _ => trivial) ?_
 refine zac (a_or (by first | exact id | (simp; done) | grind)) rfl rfl ?_
 refine yM ?_
 refine mb2 _ rfl rfl (fun hb => (zag zc6 rfl)) (fun _ => trivial) ?_
 refine mb2 _ rfl rfl (fun hb => (zat Tryz.underlying3 rfl (by first | rfl | assumption))) (fun _ => ⟨rfl, trivial⟩) ?_
 refine mb2 _ rfl rfl (fun hb => zaX) (fun _ => trivial) ?_
 refine zac (a_or (by first | exact id | (simp; done) | grind)) rfl rfl ?_
 refine yM ?_
 refine mb2 _ rfl rfl (fun hb => (zag zc6 rfl)) (fun _ => trivial) ?_
 refine mb2 _ rfl rfl (fun hb => (zat Tryz.underlying3 rfl (by first | rfl | assumption))) (fun _ => ⟨rfl, trivial⟩) ?_
 refine mb2 _ rfl rfl (fun hb => za5) (fun _ => trivial) ?_
 refine zac (a_or (by first | exact id | (simp; done) | grind)) rfl rfl ?_
 refine yM ?_
 refine mb2 _ rfl rfl (fun hb => (zag zfz rfl)) (fun _ => trivial) ?_
 refine mb2 _ rfl rfl (fun hb => (zat Tryz.underlying3 rfl (by first | rfl | assumption))) (fun _ => ⟨rfl, trivial⟩) ?_
 refine mb2 _ rfl rfl (fun hb => (zag zct rfl)) (fun _ => trivial) ?_
 refine mb2 _ rfl rfl (fun hb => (zat Tryz.underlying40 rfl (by first | rfl | assumption))) (fun _ => ⟨rfl, trivial⟩) ?_
 refine mb2 _ rfl rfl (fun _ => zbd Tryz.func51 rfl rfl (hM) (by first | rfl | simp [AV.okInL, AV.okIn, zaZ]) rfl) (fun _ => trivial) ?_
 refine mb2 _ rfl rfl (fun hb => zaX) (fun _ => trivial) ?_
 refine zac (a_or (by first | exact id | (simp; done) | grind)) rfl rfl ?_
 refine yM ?_
 refine mb2 _ rfl rfl (fun hb => (zag zfz rfl)) (fun _ => trivial) ?_
 refine mb2 _ rfl rfl (fun hb => (zat Tryz.underlying3 rfl (by first | rfl | assumption))) (fun _ => ⟨rfl, trivial⟩) ?_
 refine mb2 _ rfl rfl (fun hb => zeb) (fun _ => trivial) ?_
 refine zac (a_or (by first | exact id | (simp; done) | grind)) rfl rfl ?_
 refine zab ⟨by kernel_rfl, ?_⟩
 refine zae ?_
 refine zah _ rfl (fun h => ?_) (fun h => ?_)
 ·have h1 : g1 < 0 ∨ 1099511627776 < g1 ∨ w1 < 0 ∨ 1099511627776 < w1 ∨ l1' < mo ∨ 4294967235 < l1' := by
   simp at h
   simp only [or_assoc] at h
   omega
  rw [if_pos h1] at hE
  subst hE
  refine zaa ?_
  refine tx ?_
  refine yA ?_
  refine zab ?_
  refine zaf (zam ?_)
  refine yT ?_ ?_
  ·exact rfl
  ·exact trivial
 have h1 : ¬ (g1 < 0 ∨ 1099511627776 < g1 ∨ w1 < 0 ∨ 1099511627776 < w1 ∨ l1' < mo ∨ 4294967235 < l1') := by
  simp at h
  omega
 clear h
 rw [if_neg h1] at hE
 clear h1
 refine zad (zaa ?_)
 refine tx ?_
 refine yF zbK ?_
 refine lN Tryz.underlying24 rfl sz24 rfl rfl ⟨rfl, trivial⟩ ?_
 refine cS (fun n => 64 + 1000 * n) (hT) Tryz.func8 ?_
 refine yP (zaq (r := .tup _)) ?_
 refine yP (zar rfl) ?_
 refine yP (zar rfl) ?_
 refine yP (zas (r := .row _)) ?_
 refine yA ?_
 refine zab ?_
 refine zg3 (zha (cs := TN) 64 rfl) ?_
 clear hT hM
 obtain ⟨g0, hg0⟩ : ∃ g0 : Bool, decide (TL.length = t1.length ∧ s1.length = q1.length) = g0 := ⟨_, rfl⟩
 refine zaa ?_
 refine zcU (St.of [(1, .ref 1 0), (6, .p (.sl TL.length 4 TN)), (8, .p (.v (.bool g0)))] [(1, .box 42 (dmC k1 p1 (.sl q1.length 5 QL) (.sl t1.length 4 T1) (.sl s1.length 41 L) v1 R1 sk1 sp1 SQ1 a1 e1 g1 w1 l1'))]) ?_ ?_
 ·by_cases h1 : TL.length = t1.length
  ·by_cases h2 : s1.length = q1.length
   ·have : g0 = true := by rw [← hg0]; exact decide_eq_true ⟨h1, h2⟩
    subst this
    skip
    refine tx ?_
    refine yM ?_
    refine yP (zaC Tryz.underlying25) ?_
    refine yF zdr ?_
    refine yL Tryz.underlying25 ?_
    refine yP (zaC Tryz.underlying25) ?_
    refine zac (a_eqlV (c := true) (by simp; omega)) rfl rfl ?_
    refine yM ?_
    refine yF zct ?_
    refine yL Tryz.underlying40 ?_
    refine yP (zaC Tryz.underlying40) ?_
    refine yF zbK ?_
    refine yF zbO ?_
    refine yL Tryz.underlying22 ?_
    refine yP (zaC Tryz.underlying22) ?_
    refine zac (a_eqlV (c := true) (by simp; omega)) rfl rfl ?_
    refine yP zak ?_
    refine yA ?_
    refine zab ?_
    refine zae ?_
    exact zaJ id _ _ (by repeat (first | exact trivial | refine ⟨⟨rfl, rfl⟩, ?_⟩)) (by repeat (first | exact trivial | refine ⟨⟨rfl, rfl⟩, ?_⟩)) rfl
   ·have : g0 = false := by rw [← hg0]; exact decide_eq_false fun h => h2 h.2
    subst this
    skip
    refine tx ?_
    refine yM ?_
    refine yP (zaC Tryz.underlying25) ?_
    refine yF zdr ?_
    refine yL Tryz.underlying25 ?_
    refine yP (zaC Tryz.underlying25) ?_
    refine zac (a_eqlV (c := true) (by simp; omega)) rfl rfl ?_
    refine yM ?_
    refine yF zct ?_
    refine yL Tryz.underlying40 ?_
    refine yP (zaC Tryz.underlying40) ?_
    refine yF zbK ?_
    refine yF zbO ?_
    refine yL Tryz.underlying22 ?_
    refine yP (zaC Tryz.underlying22) ?_
    refine zac (a_eqlV (c := false) (by simp; omega)) rfl rfl ?_
    refine yP zak ?_
    refine yA ?_
    refine zab ?_
    refine zae ?_
    exact zaJ id _ _ (by repeat (first | exact trivial | refine ⟨⟨rfl, rfl⟩, ?_⟩)) (by repeat (first | exact trivial | refine ⟨⟨rfl, rfl⟩, ?_⟩)) rfl
  ·have : g0 = false := by rw [← hg0]; exact decide_eq_false fun h => h1 h.1
   subst this
   skip
   refine tx ?_
   refine yM ?_
   refine yP (zaC Tryz.underlying25) ?_
   refine yF zdr ?_
   refine yL Tryz.underlying25 ?_
   refine yP (zaC Tryz.underlying25) ?_
   refine zac (a_eqlV (c := false) (by simp; omega)) rfl rfl ?_
   refine yM ?_
   refine yS ?_
   refine yS ?_
   refine yS ?_
   refine yS ?_
   refine yS ?_
   refine yS ?_
   refine yS ?_
   refine yS ?_
   refine yP zai ?_
   refine yA ?_
   refine zab ?_
   refine zae ?_
   exact zaJ id _ _ (by repeat (first | exact trivial | refine ⟨⟨rfl, rfl⟩, ?_⟩)) (by repeat (first | exact trivial | refine ⟨⟨rfl, rfl⟩, ?_⟩)) rfl
 have hg0T : g0 = true → TL.length = t1.length ∧ s1.length = q1.length := fun h => by rw [h] at hg0; exact of_decide_eq_true hg0
 have hg0F : g0 = false → ¬ (TL.length = t1.length ∧ s1.length = q1.length) := fun h => by rw [h] at hg0; exact of_decide_eq_false hg0
 clear hg0
 obtain ⟨gA, hgA⟩ : ∃ gA : Bool, (g0 && eqB TL t1) = gA := ⟨_, rfl⟩
 refine zaa (zaa ?_)
 refine tx ?_
 refine yA ?_
 refine zab ?_
 refine zaj ?_
 refine zgt (St.of [(1, .ref 1 0), (8, .p (.v (.bool gA)))] [(1, .box 42 (dmC k1 p1 (.sl q1.length 5 QL) (.sl t1.length 4 T1) (.sl s1.length 41 L) v1 R1 sk1 sp1 SQ1 a1 e1 g1 w1 l1'))]) ?_ ?_
 ·refine zaE (fun m st => ∃ (i : Nat) (g : Bool), m + i = TL.length ∧ (g = true → g0 = true ∧ ∀ j, j < i → TL[j]? = t1[j]?) ∧ (g = false → gA = false) ∧ st = St.of [(1, .ref 1 0), (6, .p (.sl TL.length 4 TN)), (8, .p (.v (.bool g))), (9, .p (.v (.int .i64 i)))] [(1, .box 42 (dmC k1 p1 (.sl q1.length 5 QL) (.sl t1.length 4 T1) (.sl s1.length 41 L) v1 R1 sk1 sp1 SQ1 a1 e1 g1 w1 l1'))]) TL.length ?_ ?_
  ·refine ⟨_, zaJ id _ _ ?_ ?_ rfl, 0, g0, by omega, fun h => ⟨h, fun j hj => by omega⟩, fun h => ?_, rfl⟩
   ·(repeat (first | exact trivial | (refine ⟨⟨(by first | rfl | (simp; done) | (simp; omega)), rfl⟩, ?_⟩)))
   ·exact ⟨⟨rfl, rfl⟩, trivial⟩
   ·rw [← hgA, h]; rfl
  rintro m st ⟨i, g, hi, hgt, hgf, rfl⟩
  cases g with
  | false =>
   have hA := hgf rfl
   subst hA
   refine zaa (zaa ?_)
   refine tx ?_
   refine yM ?_
   refine yM ?_
   refine yS ?_
   refine yS ?_
   refine yS ?_
   refine yS ?_
   refine yP zai ?_
   refine zab ?_
   refine zae ?_
   refine zan rfl ?_
   refine zaG (zb3 (zb3 (zdo (zae ?_))))
   exact zaJ id _ _ (by repeat (first | exact trivial | refine ⟨⟨rfl, rfl⟩, ?_⟩)) (by repeat (first | exact trivial | refine ⟨⟨rfl, rfl⟩, ?_⟩)) rfl
  | true =>
   obtain ⟨hg1, hpre⟩ := hgt rfl
   obtain ⟨hlt', hls⟩ := hg0T hg1
   by_cases hlt : i < TL.length
   ·obtain ⟨x, hx⟩ : ∃ x, TL[i]? = some x := ⟨TL[i], List.getElem?_eq_getElem hlt⟩
    obtain ⟨y, hy⟩ : ∃ y, t1[i]? = some y := ⟨t1[i]'(by omega), List.getElem?_eq_getElem (by omega)⟩
    have hch := hchT i x hx
    have hle := hleT i hlt
    have hch2 := hcht i y hy
    have hle2 := hlet i (by omega)
    have hbad := zeo hx hy
    have hxy : x = y → TL[i]? = t1[i]? := fun e => by rw [hx, hy, e]
    obtain ⟨xa, xn, xo, xs⟩ := x
    obtain ⟨ya, yn, yo, ys⟩ := y
    refine zaa (zaa ?_)
    refine tx ?_
    refine yM ?_
    refine yM ?_
    refine yM ?_
    refine yM ?_
    refine yP (zaC Tryz.underlying25) ?_
    refine zac (zcE (c := true) (by simp; omega)) rfl rfl ?_
    refine yP zak ?_
    refine zab ?_
    refine zae ?_
    refine zaD rfl ?_
    by_cases he : (⟨xa, xn, xo, xs⟩ : ND) = ⟨ya, yn, yo, ys⟩
    ·refine zad (zaa (zaj ?_))
     refine zav 4 (by kernel_rfl) ?_
     refine yM ?_
     refine yM ?_
     refine zac (zao Tryz.underlying25 sz55 (by omega) (by omega) rfl) rfl rfl ?_
     refine zac (zaz Tryz.underlying55 rfl sz55 (by first | omega | (simp; done) | (simp; omega)) (hch)) rfl rfl ?_
     refine yF zdr ?_
     refine yL Tryz.underlying25 ?_
     refine yM ?_
     refine zac (zao Tryz.underlying25 sz55 (by omega) (by omega) rfl) rfl rfl ?_
     refine zac (zaz Tryz.underlying55 rfl sz55 (by first | omega | (simp; done) | (simp; omega)) (hch2)) rfl rfl ?_
     refine zac (zdG Tryz.underlying55 (xs := [.int .u32 xa, .int .i64 xn, .string xo, .int .i64 xs]) (ys := [.int .u32 ya, .int .i64 yn, .string yo, .int .i64 ys]) rfl rfl (by kernel_rfl) (by kernel_rfl) (by kernel_rfl) (c := true) (za7.2 (by simp at he; simp [he]))) rfl rfl ?_
     refine yA ?_
     refine zab ⟨by kernel_rfl, ?_⟩
     refine za3 (zae ?_)
     refine tx ?_
     refine yM ?_
     refine zac (za4 (by first | exact IntWalk.i64_in _ (by omega) | rfl)) rfl rfl ?_
     refine yA ?_
     refine zab ?_
     refine zae ?_
     refine ⟨m - 1, by omega, _, zaJ id _ _ ?_ ?_ rfl, i + 1, true, by omega, fun _ => ⟨hg1, fun j hj => ?_⟩, fun h => (by cases h), rfl⟩
     ·(repeat (first | exact trivial | (refine ⟨⟨(by first | rfl | (simp; done) | (simp; omega)), rfl⟩, ?_⟩)))
     ·exact ⟨⟨rfl, rfl⟩, trivial⟩
     ·by_cases e : j = i
      ·rw [e]; exact hxy he
      ·exact hpre j (by omega)
    ·refine zad (zaa (zaj ?_))
     refine zav 4 (by kernel_rfl) ?_
     refine yM ?_
     refine yM ?_
     refine zac (zao Tryz.underlying25 sz55 (by omega) (by omega) rfl) rfl rfl ?_
     refine zac (zaz Tryz.underlying55 rfl sz55 (by first | omega | (simp; done) | (simp; omega)) (hch)) rfl rfl ?_
     refine yF zdr ?_
     refine yL Tryz.underlying25 ?_
     refine yM ?_
     refine zac (zao Tryz.underlying25 sz55 (by omega) (by omega) rfl) rfl rfl ?_
     refine zac (zaz Tryz.underlying55 rfl sz55 (by first | omega | (simp; done) | (simp; omega)) (hch2)) rfl rfl ?_
     refine zac (zdG Tryz.underlying55 (xs := [.int .u32 xa, .int .i64 xn, .string xo, .int .i64 xs]) (ys := [.int .u32 ya, .int .i64 yn, .string yo, .int .i64 ys]) rfl rfl (by kernel_rfl) (by kernel_rfl) (by kernel_rfl) (c := false) (zds.2 (fun e => he (by simp at e; simp [e])))) rfl rfl ?_
     refine yA ?_
     refine zab ⟨by kernel_rfl, ?_⟩
     refine za3 (zae ?_)
     refine tx ?_
     refine yM ?_
     refine zac (za4 (by first | exact IntWalk.i64_in _ (by omega) | rfl)) rfl rfl ?_
     refine yA ?_
     refine zab ?_
     refine zae ?_
     refine ⟨m - 1, by omega, _, zaJ id _ _ ?_ ?_ rfl, i + 1, false, by omega, fun h => (by cases h), fun _ => ?_, rfl⟩
     ·(repeat (first | exact trivial | (refine ⟨⟨(by first | rfl | (simp; done) | (simp; omega)), rfl⟩, ?_⟩)))
     ·exact ⟨⟨rfl, rfl⟩, trivial⟩
     ·rw [← hgA, zdB (hbad he)]; simp
   ·have hge : i = TL.length := by omega
    subst hge
    have hA : gA = true := by rw [← hgA, hg1, zfF (zep hlt' hpre)]; rfl
    subst hA
    refine zaa (zaa ?_)
    refine tx ?_
    refine yM ?_
    refine yM ?_
    refine yM ?_
    refine yM ?_
    refine yP (zaC Tryz.underlying25) ?_
    refine zac (zcE (c := false) (by simp)) rfl rfl ?_
    refine yP zak ?_
    refine zab ?_
    refine zae ?_
    refine zan rfl ?_
    refine zaG (zb3 (zb3 (zdo (zae ?_))))
    exact zaJ id _ _ (by repeat (first | exact trivial | refine ⟨⟨rfl, rfl⟩, ?_⟩)) (by repeat (first | exact trivial | refine ⟨⟨rfl, rfl⟩, ?_⟩)) rfl
 have hgAT : gA = true → (TL = t1 ∧ TL.length = t1.length ∧ s1.length = q1.length) := fun h => by
  rw [h, Bool.and_eq_true] at hgA
  exact ⟨zfn.1 hgA.2, hg0T hgA.1⟩
 have hgAF : gA = false → ¬ ((TL = t1 ∧ zfE s1 q1 = true) ∧ ∀ s ∈ s1, okSt k1 w1 s) := fun h hgood => by
  have h1 : g0 = true := by
   cases hq : g0 with
   | true => rfl
   | false =>
    exfalso
    refine hg0F hq ⟨by rw [hgood.1.1], ?_⟩
    by_cases hl : s1.length = q1.length
    ·exact hl
    ·have := keysB_len hl; rw [this] at hgood; cases hgood.1.2
  rw [h, h1, zfF hgood.1.1] at hgA
  cases hgA
 clear hgA hg0T hg0F hchT hleT hcht hlet
 refine zaa (zaa ?_)
 refine tx ?_
 refine yA ?_
 refine zab ?_
 refine zaj ?_
 refine zaE (fun m st => ∃ (i : Nat) (g : Bool), m + i = s1.length ∧ (g = true → gA = true ∧ ∀ j, j < i → ∀ s p, s1[j]? = some s → q1[j]? = some p → s.key = p.key ∧ okSt k1 w1 s) ∧ (g = false → ¬ ((TL = t1 ∧ zfE s1 q1 = true) ∧ ∀ s ∈ s1, okSt k1 w1 s)) ∧ st = St.of [(1, .ref 1 0), (8, .p (.v (.bool g))), (10, .p (.v (.int .i64 i)))] [(1, .box 42 (dmC k1 p1 (.sl q1.length 5 QL) (.sl t1.length 4 T1) (.sl s1.length 41 L) v1 R1 sk1 sp1 SQ1 a1 e1 g1 w1 l1'))]) s1.length ?_ ?_
 ·refine ⟨_, zaJ id _ _ ?_ ?_ rfl, 0, gA, by omega, fun h => ⟨h, fun j hj => by omega⟩, hgAF, rfl⟩
  ·(repeat (first | exact trivial | (refine ⟨⟨(by first | rfl | (simp; done) | (simp; omega)), rfl⟩, ?_⟩)))
  ·exact ⟨⟨rfl, rfl⟩, trivial⟩
 rintro m st ⟨i, g, hi, hgt0, hgf, rfl⟩
 cases g with
 | false =>
  rw [if_neg (hgf rfl)] at hE
  subst hE
  refine zaa (zaa ?_)
  refine tx ?_
  refine yM ?_
  refine yM ?_
  refine yS ?_
  refine yS ?_
  refine yS ?_
  refine yS ?_
  refine yS ?_
  refine yP zai ?_
  refine zab ?_
  refine zae ?_
  refine zan rfl ?_
  refine zaG (zaa (zaa ?_))
  refine tx ?_
  refine yM ?_
  refine yP za0 ?_
  refine zab ?_
  refine zae ?_
  refine zaD rfl ?_
  refine zaa ?_
  refine tx ?_
  refine yA ?_
  refine zab ?_
  refine zaf (zam ?_)
  refine yT ?_ ?_
  ·exact rfl
  ·exact trivial
 | true =>
  obtain ⟨hgt, hpre⟩ := hgt0 rfl
  obtain ⟨hTt, hlt', hls⟩ := hgAT hgt
  by_cases hlt : i < s1.length
  ·obtain ⟨x, hx⟩ : ∃ x, s1[i]? = some x := ⟨s1[i], List.getElem?_eq_getElem hlt⟩
   obtain ⟨y, hy⟩ : ∃ y, q1[i]? = some y := ⟨q1[i]'(by omega), List.getElem?_eq_getElem (by omega)⟩
   have hch := hchS i x hx
   have hle := hleS i hlt
   have hch2 := hchQ i y hy
   have hle2 := hleQ i (by omega)
   have hmem := List.mem_of_getElem? hx
   have hpk : (QL.drop (i * 5))[0]? = some (.v (.string y.key)) := by
    have := congrArg (fun x => x[0]?) hch2
    rw [List.getElem?_take] at this
    simpa [PE.pv] using this
   have hkn := @keysB_ne s1 q1 i x y hx hy
   have hkbad : x.key ≠ y.key → ¬ ((TL = t1 ∧ zfE s1 q1 = true) ∧ ∀ s ∈ s1, okSt k1 w1 s) := fun hne h => by rw [hkn hne] at h; cases h.1.2
   have hsbad : ¬ okSt k1 w1 x → ¬ ((TL = t1 ∧ zfE s1 q1 = true) ∧ ∀ s ∈ s1, okSt k1 w1 s) := fun hno h => hno (h.2 x hmem)
   clear hkn hch2
   obtain ⟨key, ep, a, b, c, ⟨lv, mine, nc, hb, hs⟩, q⟩ := x
   dsimp only at hkbad hsbad
   refine zaa (zaa ?_)
   refine tx ?_
   refine yM ?_
   refine yM ?_
   refine yM ?_
   refine yF zct ?_
   refine yL Tryz.underlying40 ?_
   refine yP (zaC Tryz.underlying40) ?_
   refine zac (zcE (c := true) (by simp; omega)) rfl rfl ?_
   refine yP zak ?_
   refine zab ?_
   refine zae ?_
   refine zaD rfl ?_
   refine zad (zaa (zaj (zaa ?_)))
   refine tx ?_
   refine yF zct ?_
   refine yL Tryz.underlying40 ?_
   refine yM ?_
   refine zac (zao Tryz.underlying40 sz81 (by omega) (by omega) rfl) rfl rfl ?_
   refine zac (zaz Tryz.underlying81 rfl sz81 (by first | omega | (simp; done) | (simp; omega)) (hch)) rfl rfl ?_
   refine zal (zaU 11 zr81 rfl) rfl rfl ⟨rfl, trivial⟩ ?_
   refine zal (zaA (Y := .agg (stC key ep a b c ⟨lv, mine, nc, hb, hs⟩ q.length (q.flatMap PQ.pv))) sz81 rfl rfl (Nat.eq_of_beq_eq_true rfl)) rfl rfl ⟨rfl, trivial⟩ ?_
   refine zab ?_
   by_cases hkk : key = y.key
   rotate_left
   ·refine zaa ?_
    refine zav 4 (by kernel_rfl) ?_
    refine yF zc4 ?_
    refine yL Tryz.underlying9 ?_
    refine yF zbK ?_
    refine yF zbO ?_
    refine yL Tryz.underlying22 ?_
    refine yM ?_
    refine zac (zao Tryz.underlying22 sz49 (by omega) (by omega) rfl) rfl rfl ?_
    refine yP (zaH zbJ rfl) ?_
    refine yP (zbx Tryz.underlying9 rfl hpk) ?_
    refine yP (zaI (c := false) (decide_eq_false hkk)) ?_
    refine yM ?_
    refine yS ?_
    refine yS ?_
    refine yS ?_
    refine yS ?_
    refine yS ?_
    refine yS ?_
    refine yP zai ?_
    refine yA ?_
    refine zab ⟨by kernel_rfl, ?_⟩
    by_cases hk : k1 = ⟨#[]⟩
    ·refine zaa ?_
     refine tx ?_
     refine yF zbK ?_
     refine yF zbo ?_
     refine yL Tryz.underlying9 ?_
     refine yP (zaI (c := true) (decide_eq_true hk)) ?_
     refine zab ?_
     refine zae ?_
     refine zaD rfl ?_
     skip
     refine tx ?_
     refine yM ?_
     refine yM ?_
     refine yS ?_
     refine yS ?_
     refine yS ?_
     refine yS ?_
     refine yP zai ?_
     refine yM ?_
     refine yS ?_
     refine yS ?_
     refine yS ?_
     refine yS ?_
     refine yP zai ?_
     refine yA ?_
     refine zab ?_
     refine za3 (zae ?_)
     refine tx ?_
     refine yM ?_
     refine zac (za4 (by first | exact IntWalk.i64_in _ (by omega) | rfl)) rfl rfl ?_
     refine yA ?_
     refine zab ?_
     refine zae ?_
     refine ⟨m - 1, by omega, _, zaJ id _ _ ?_ ?_ rfl, i + 1, false, by omega, ?_, ?_, rfl⟩
     ·(repeat (first | exact trivial | (refine ⟨⟨(by first | rfl | (simp; done) | (simp; omega)), rfl⟩, ?_⟩)))
     ·exact ⟨⟨rfl, rfl⟩, trivial⟩
     ·intro h; cases h
     ·intro _; exact hkbad hkk
    ·refine zaa ?_
     refine tx ?_
     refine yF zbK ?_
     refine yF zbo ?_
     refine yL Tryz.underlying9 ?_
     refine yP (zaI (c := false) (decide_eq_false hk)) ?_
     refine zab ?_
     refine zae ?_
     refine zan rfl ?_
     refine zad (za3 (zae ?_))
     skip
     refine tx ?_
     refine yM ?_
     refine zac (za4 (by first | exact IntWalk.i64_in _ (by omega) | rfl)) rfl rfl ?_
     refine yA ?_
     refine zab ?_
     refine zae ?_
     refine ⟨m - 1, by omega, _, zaJ id _ _ ?_ ?_ rfl, i + 1, false, by omega, ?_, ?_, rfl⟩
     ·(repeat (first | exact trivial | (refine ⟨⟨(by first | rfl | (simp; done) | (simp; omega)), rfl⟩, ?_⟩)))
     ·exact ⟨⟨rfl, rfl⟩, trivial⟩
     ·intro h; cases h
     ·intro _; exact hkbad hkk
   by_cases ht : hs ≤ w1
   rotate_left
   ·refine zaa ?_
    refine zav 4 (by kernel_rfl) ?_
    refine yF zc4 ?_
    refine yL Tryz.underlying9 ?_
    refine yF zbK ?_
    refine yF zbO ?_
    refine yL Tryz.underlying22 ?_
    refine yM ?_
    refine zac (zao Tryz.underlying22 sz49 (by omega) (by omega) rfl) rfl rfl ?_
    refine yP (zaH zbJ rfl) ?_
    refine yP (zbx Tryz.underlying9 rfl hpk) ?_
    refine yP (zaI (c := true) (decide_eq_true hkk)) ?_
    refine yM ?_
    refine yF zb1 ?_
    refine yF zd3 ?_
    refine yL Tryz.underlying3 ?_
    refine yF zc6 ?_
    refine yL Tryz.underlying3 ?_
    refine zac (a_leqV (c := false) (by simp; omega)) rfl rfl ?_
    refine yP zak ?_
    refine yA ?_
    refine zab ⟨by kernel_rfl, ?_⟩
    have hno : ¬ okSt k1 w1 ⟨key, ep, a, b, c, ⟨lv, mine, nc, hb, hs⟩, q⟩ := fun h => h (.inr (by show w1 < hs; omega))
    by_cases hk : k1 = ⟨#[]⟩
    ·refine zaa ?_
     refine tx ?_
     refine yF zbK ?_
     refine yF zbo ?_
     refine yL Tryz.underlying9 ?_
     refine yP (zaI (c := true) (decide_eq_true hk)) ?_
     refine zab ?_
     refine zae ?_
     refine zaD rfl ?_
     skip
     refine tx ?_
     refine yM ?_
     refine yM ?_
     refine yS ?_
     refine yS ?_
     refine yS ?_
     refine yS ?_
     refine yP zai ?_
     refine yM ?_
     refine yS ?_
     refine yS ?_
     refine yS ?_
     refine yS ?_
     refine yP zai ?_
     refine yA ?_
     refine zab ?_
     refine za3 (zae ?_)
     refine tx ?_
     refine yM ?_
     refine zac (za4 (by first | exact IntWalk.i64_in _ (by omega) | rfl)) rfl rfl ?_
     refine yA ?_
     refine zab ?_
     refine zae ?_
     refine ⟨m - 1, by omega, _, zaJ id _ _ ?_ ?_ rfl, i + 1, false, by omega, ?_, ?_, rfl⟩
     ·(repeat (first | exact trivial | (refine ⟨⟨(by first | rfl | (simp; done) | (simp; omega)), rfl⟩, ?_⟩)))
     ·exact ⟨⟨rfl, rfl⟩, trivial⟩
     ·intro h; cases h
     ·intro _; exact hsbad hno
    ·refine zaa ?_
     refine tx ?_
     refine yF zbK ?_
     refine yF zbo ?_
     refine yL Tryz.underlying9 ?_
     refine yP (zaI (c := false) (decide_eq_false hk)) ?_
     refine zab ?_
     refine zae ?_
     refine zan rfl ?_
     refine zad (za3 (zae ?_))
     skip
     refine tx ?_
     refine yM ?_
     refine zac (za4 (by first | exact IntWalk.i64_in _ (by omega) | rfl)) rfl rfl ?_
     refine yA ?_
     refine zab ?_
     refine zae ?_
     refine ⟨m - 1, by omega, _, zaJ id _ _ ?_ ?_ rfl, i + 1, false, by omega, ?_, ?_, rfl⟩
     ·(repeat (first | exact trivial | (refine ⟨⟨(by first | rfl | (simp; done) | (simp; omega)), rfl⟩, ?_⟩)))
     ·exact ⟨⟨rfl, rfl⟩, trivial⟩
     ·intro h; cases h
     ·intro _; exact hsbad hno
   refine zaa ?_
   refine zav 4 (by kernel_rfl) ?_
   refine yF zc4 ?_
   refine yL Tryz.underlying9 ?_
   refine yF zbK ?_
   refine yF zbO ?_
   refine yL Tryz.underlying22 ?_
   refine yM ?_
   refine zac (zao Tryz.underlying22 sz49 (by omega) (by omega) rfl) rfl rfl ?_
   refine yP (zaH zbJ rfl) ?_
   refine yP (zbx Tryz.underlying9 rfl hpk) ?_
   refine yP (zaI (c := true) (decide_eq_true hkk)) ?_
   refine yM ?_
   refine yF zb1 ?_
   refine yF zd3 ?_
   refine yL Tryz.underlying3 ?_
   refine yF zc6 ?_
   refine yL Tryz.underlying3 ?_
   refine zac (a_leqV (c := true) (by simpa using ht)) rfl rfl ?_
   refine yP zak ?_
   refine yA ?_
   refine zab ⟨by kernel_rfl, ?_⟩
   by_cases hk : k1 = ⟨#[]⟩
   ·refine zaa ?_
    refine tx ?_
    refine yF zbK ?_
    refine yF zbo ?_
    refine yL Tryz.underlying9 ?_
    refine yP (zaI (c := true) (decide_eq_true hk)) ?_
    refine zab ?_
    refine zae ?_
    refine zaD rfl ?_
    by_cases hz : a = KY0 ∧ b = KY0 ∧ c = KY0
    ·cases lv with
     | true =>
      skip
      refine tx ?_
      refine yM ?_
      refine yM ?_
      refine yF zbI ?_
      refine zal (zaL Tryz.underlying76 rfl sz76 (by first | exact Nat.le_of_ble_eq_true rfl | omega | (simp only [AV.cells, List.length_map]; omega)) (show _ = zcX a b c from rfl)) rfl rfl ⟨rfl, trivial⟩ ?_
      refine yP (zaR pl76 zr76 rfl rfl) ?_
      refine zac (zdG Tryz.underlying76 (xs := a.vals ++ b.vals ++ c.vals) (ys := KY0.vals ++ KY0.vals ++ KY0.vals) rfl rfl (by kernel_rfl) (by kernel_rfl) (by kernel_rfl) (c := true) (za7.2 (zcl.2 hz))) rfl rfl ?_
      refine yP zak ?_
      refine yM ?_
      refine yF zb1 ?_
      refine yF zdK ?_
      refine yL Tryz.underlying4 ?_
      refine yP za0 ?_
      refine yP zak ?_
      refine yA ?_
      refine zab ?_
      have hno : ¬ okSt k1 w1 ⟨key, ep, a, b, c, ⟨true, mine, nc, hb, hs⟩, q⟩ := fun h => h (.inl ⟨hk, .inr rfl⟩)
      refine za3 (zae ?_)
      refine tx ?_
      refine yM ?_
      refine zac (za4 (by first | exact IntWalk.i64_in _ (by omega) | rfl)) rfl rfl ?_
      refine yA ?_
      refine zab ?_
      refine zae ?_
      refine ⟨m - 1, by omega, _, zaJ id _ _ ?_ ?_ rfl, i + 1, false, by omega, ?_, ?_, rfl⟩
      ·(repeat (first | exact trivial | (refine ⟨⟨(by first | rfl | (simp; done) | (simp; omega)), rfl⟩, ?_⟩)))
      ·exact ⟨⟨rfl, rfl⟩, trivial⟩
      ·intro h; cases h
      ·intro _; exact hsbad hno
     | false =>
      skip
      refine tx ?_
      refine yM ?_
      refine yM ?_
      refine yF zbI ?_
      refine zal (zaL Tryz.underlying76 rfl sz76 (by first | exact Nat.le_of_ble_eq_true rfl | omega | (simp only [AV.cells, List.length_map]; omega)) (show _ = zcX a b c from rfl)) rfl rfl ⟨rfl, trivial⟩ ?_
      refine yP (zaR pl76 zr76 rfl rfl) ?_
      refine zac (zdG Tryz.underlying76 (xs := a.vals ++ b.vals ++ c.vals) (ys := KY0.vals ++ KY0.vals ++ KY0.vals) rfl rfl (by kernel_rfl) (by kernel_rfl) (by kernel_rfl) (c := true) (za7.2 (zcl.2 hz))) rfl rfl ?_
      refine yP zak ?_
      refine yM ?_
      refine yF zb1 ?_
      refine yF zdK ?_
      refine yL Tryz.underlying4 ?_
      refine yP za0 ?_
      refine yP zak ?_
      refine yA ?_
      refine zab ?_
      have HOK : okSt k1 w1 ⟨key, ep, a, b, c, ⟨false, mine, nc, hb, hs⟩, q⟩ := by
       rintro (⟨_, h | h⟩ | h)
       ·exact h hz
       ·cases h
       ·have h' : w1 < hs := h
        omega
      (repeat (first | refine zaa ?_ | refine zaj ?_ | refine zad ?_ | refine zaf ?_ | refine zaG ?_ | refine zae ?_ | refine zam ?_ | refine zb3 ?_ | refine za3 ?_ | refine zaK ?_ | refine zdo ?_ | refine inb_y rfl ?_))
      refine tx ?_
      refine yM ?_
      refine zac (za4 (by first | exact IntWalk.i64_in _ (by omega) | rfl)) rfl rfl ?_
      refine yA ?_
      refine zab ?_
      refine zae ?_
      refine ⟨m - 1, by omega, _, zaJ id _ _ ?_ ?_ rfl, i + 1, true, by omega, ?_, ?_, rfl⟩
      ·(repeat (first | exact trivial | (refine ⟨⟨(by first | rfl | (simp; done) | (simp; omega)), rfl⟩, ?_⟩)))
      ·exact ⟨⟨rfl, rfl⟩, trivial⟩
      ·intro _
       refine ⟨hgt, fun j hj s p hs hp => ?_⟩
       by_cases e : j = i
       ·subst e; rw [hx] at hs; rw [hy] at hp; cases hs; cases hp; exact ⟨hkk, HOK⟩
       ·exact hpre j (by omega) s p hs hp
      ·intro h; cases h
    ·skip
     refine tx ?_
     refine yM ?_
     refine yM ?_
     refine yF zbI ?_
     refine zal (zaL Tryz.underlying76 rfl sz76 (by first | exact Nat.le_of_ble_eq_true rfl | omega | (simp only [AV.cells, List.length_map]; omega)) (show _ = zcX a b c from rfl)) rfl rfl ⟨rfl, trivial⟩ ?_
     refine yP (zaR pl76 zr76 rfl rfl) ?_
     refine zac (zdG Tryz.underlying76 (xs := a.vals ++ b.vals ++ c.vals) (ys := KY0.vals ++ KY0.vals ++ KY0.vals) rfl rfl (by kernel_rfl) (by kernel_rfl) (by kernel_rfl) (c := false) (zds.2 (fun e => hz (zcl.1 e)))) rfl rfl ?_
     refine yP zak ?_
     refine yM ?_
     refine yS ?_
     refine yS ?_
     refine yS ?_
     refine yS ?_
     refine yP zai ?_
     refine yA ?_
     refine zab ?_
     have hno : ¬ okSt k1 w1 ⟨key, ep, a, b, c, ⟨lv, mine, nc, hb, hs⟩, q⟩ := fun h => h (.inl ⟨hk, .inl hz⟩)
     refine za3 (zae ?_)
     refine tx ?_
     refine yM ?_
     refine zac (za4 (by first | exact IntWalk.i64_in _ (by omega) | rfl)) rfl rfl ?_
     refine yA ?_
     refine zab ?_
     refine zae ?_
     refine ⟨m - 1, by omega, _, zaJ id _ _ ?_ ?_ rfl, i + 1, false, by omega, ?_, ?_, rfl⟩
     ·(repeat (first | exact trivial | (refine ⟨⟨(by first | rfl | (simp; done) | (simp; omega)), rfl⟩, ?_⟩)))
     ·exact ⟨⟨rfl, rfl⟩, trivial⟩
     ·intro h; cases h
     ·intro _; exact hsbad hno
   ·refine zaa ?_
    refine tx ?_
    refine yF zbK ?_
    refine yF zbo ?_
    refine yL Tryz.underlying9 ?_
    refine yP (zaI (c := false) (decide_eq_false hk)) ?_
    refine zab ?_
    refine zae ?_
    refine zan rfl ?_
    refine zad (za3 (zae ?_))
    have HOK : okSt k1 w1 ⟨key, ep, a, b, c, ⟨lv, mine, nc, hb, hs⟩, q⟩ := by
     rintro (⟨h, _⟩ | h)
     ·exact hk h
     ·have h' : w1 < hs := h
      omega
    (repeat (first | refine zaa ?_ | refine zaj ?_ | refine zad ?_ | refine zaf ?_ | refine zaG ?_ | refine zae ?_ | refine zam ?_ | refine zb3 ?_ | refine za3 ?_ | refine zaK ?_ | refine zdo ?_ | refine inb_y rfl ?_))
    refine tx ?_
    refine yM ?_
    refine zac (za4 (by first | exact IntWalk.i64_in _ (by omega) | rfl)) rfl rfl ?_
    refine yA ?_
    refine zab ?_
    refine zae ?_
    refine ⟨m - 1, by omega, _, zaJ id _ _ ?_ ?_ rfl, i + 1, true, by omega, ?_, ?_, rfl⟩
    ·(repeat (first | exact trivial | (refine ⟨⟨(by first | rfl | (simp; done) | (simp; omega)), rfl⟩, ?_⟩)))
    ·exact ⟨⟨rfl, rfl⟩, trivial⟩
    ·intro _
     refine ⟨hgt, fun j hj s p hs hp => ?_⟩
     by_cases e : j = i
     ·subst e; rw [hx] at hs; rw [hy] at hp; cases hs; cases hp; exact ⟨hkk, HOK⟩
     ·exact hpre j (by omega) s p hs hp
    ·intro h; cases h
  ·have hge : i = s1.length := by omega
   subst hge
   have hkall : zfE s1 q1 = true := keysB_all hls fun j hj => by
    have h1 : s1[j]? = some s1[j] := List.getElem?_eq_getElem hj
    have h2 : q1[j]? = some (q1[j]'(by omega)) := List.getElem?_eq_getElem (by omega)
    rw [h1, h2]
    simp [(hpre j hj _ _ h1 h2).1]
   have hall : ∀ s ∈ s1, okSt k1 w1 s := fun s hs => by
    obtain ⟨j, hj, rfl⟩ := List.getElem_of_mem hs
    exact (hpre j hj _ (q1[j]'(by omega)) (List.getElem?_eq_getElem hj) (List.getElem?_eq_getElem (by omega))).2
   rw [if_pos ⟨⟨hTt, hkall⟩, hall⟩] at hE
   subst hE
   refine zaa (zaa ?_)
   refine tx ?_
   refine yM ?_
   refine yM ?_
   refine yM ?_
   refine yF zct ?_
   refine yL Tryz.underlying40 ?_
   refine yP (zaC Tryz.underlying40) ?_
   refine zac (zcE (c := false) (by simp)) rfl rfl ?_
   refine yP zak ?_
   refine zab ?_
   refine zae ?_
   refine zan rfl ?_
   refine zaG (zaa (zaa ?_))
   refine tx ?_
   refine yM ?_
   refine yP za0 ?_
   refine zab ?_
   refine zae ?_
   refine zan rfl ?_
   refine zad (zaa ?_)
   refine tx ?_
   refine yA ?_
   refine zab ?_
   refine zaf ?_
   refine yT ?_ ?_
   ·exact rfl
   ·exact trivial
end Go.Proofs.YtgpleldhddpcgaaGreatDoor
