/- slices.Equal of rows of nets, of settings, of nodes: are two rows the same? Over data. -/
import Derived.Test.YtgpleldhddpcgaaGreatDoorSBt1
import Derived.Test.YtgpleldhddpcgaaGreatDoorSTw2
import Derived.Test.YtgpleldhddpcgaaGreatDoorSCf1
import Derived.Test.YtgpleldhddpcgaaGreatDoorSUtZ
namespace Go.Proofs.YtgpleldhddpcgaaGreatDoor
open Go.RowKit Go.Sort
set_option linter.unusedVariables false
set_option linter.unusedSimpArgs false
set_option maxRecDepth 100000
/-- are they the same? -/
noncomputable def eqB {α : Type} (x y : α) : Bool := @decide (x = y) (Classical.propDecidable _)
theorem zfn {α : Type} {x y : α} : eqB x y = true ↔ x = y := by unfold eqB; simp
theorem zfF {α : Type} {x y : α} (h : x = y) : eqB x y = true := zfn.2 h
theorem zdB {α : Type} {x y : α} (h : x ≠ y) : eqB x y = false := by
 cases hq : eqB x y with
 | false => rfl
 | true => exact absurd (zfn.1 hq) h
theorem zhm {α : Type} (x : α) : eqB x x = true := zfF rfl
theorem zeo {α : Type} {l m : List α} {i : Nat} {x y : α} (h1 : l[i]? = some x) (h2 : m[i]? = some y) (h : x ≠ y) : l ≠ m := by
 rintro rfl
 rw [h1] at h2
 exact h (Option.some.inj h2)
theorem zep {α : Type} {l m : List α} (h : l.length = m.length) (k : ∀ j, j < l.length → l[j]? = m[j]?) : l = m := by
 apply List.ext_getElem?
 intro j
 rcases Nat.lt_or_ge j l.length with hj | hj
 ·exact k j hj
 ·rw [List.getElem?_eq_none hj, List.getElem?_eq_none (by omega)]
theorem eqNets_d (l m : List NtP) (hl : l.length ≤ 4611686018427387904) (hm : m.length ≤ 4611686018427387904) : Fn Tryz.prog 78 [.p (.sl l.length 2 (l.flatMap ntC)), .p (.sl m.length 2 (m.flatMap ntC))] (.p (.v (.bool (eqB l m)))) [] := by
 by_cases hlen : l.length = m.length
 rotate_left
 ·rw [zdB (fun e => hlen (by rw [e]))]
  generalize l.flatMap ntC = L
  generalize m.flatMap ntC = M
  generalize l.length = n at *
  generalize m.length = k at *
  refine zap Tryz.func78 rfl (Nat.le_of_ble_eq_true rfl) fun w0 A => ?_
  refine zaa ?_
  refine tx ?_
  refine yA ?_
  refine zab ?_
  refine zaa (zaa ?_)
  refine tx ?_
  refine yM ?_
  refine yP (zaC Tryz.underlying47) ?_
  refine yM ?_
  refine yP (zaC Tryz.underlying47) ?_
  refine zac (zaQ (c := true) (by simp; omega)) rfl rfl ?_
  refine zab ?_
  refine zae ?_
  refine zaD rfl ?_
  refine zaa ?_
  refine tx ?_
  refine yA ?_
  refine zab ?_
  refine zaf (zam ?_)
  refine yT ?_ ?_
  ·exact rfl
  ·exact trivial
 obtain ⟨E, hE⟩ : ∃ E, eqB l m = E := ⟨_, rfl⟩
 rw [hE]
 refine zap Tryz.func78 rfl (Nat.le_of_ble_eq_true rfl) fun w0 A => ?_
 refine zaa ?_
 refine tx ?_
 refine yA ?_
 refine zab ?_
 refine zaa (zaa ?_)
 refine tx ?_
 refine yM ?_
 refine yP (zaC Tryz.underlying47) ?_
 refine yM ?_
 refine yP (zaC Tryz.underlying47) ?_
 refine zac (zaQ (c := false) (by simp; omega)) rfl rfl ?_
 refine zab ?_
 refine zae ?_
 refine zan rfl ?_
 refine zad (zaa (zaa ?_))
 refine tx ?_
 refine yM ?_
 refine yP (zaC Tryz.underlying47) ?_
 refine yM ?_
 refine zab ?_
 refine zaj ?_
 refine zaE (fun u st => ∃ i : Nat, u + i = l.length ∧ (∀ j, j < i → l[j]? = m[j]?) ∧ st = St.of [(0, .p (.sl l.length 2 (l.flatMap ntC))), (1, .p (.sl m.length 2 (m.flatMap ntC))), (12, .p (.v (.int .i64 l.length))), (13, .p (.v (.int .i64 i)))] []) l.length ?_ ?_
 ·refine ⟨_, zaJ id _ _ ?_ ?_ rfl, 0, by omega, by omega, rfl⟩
  ·(repeat (first | exact trivial | (refine ⟨⟨(by first | rfl | (simp; done) | (simp; omega)), rfl⟩, ?_⟩)))
  ·exact trivial
 rintro u st ⟨i, hi, hf, rfl⟩
 refine zaa ?_
 refine tx ?_
 refine yP zaX ?_
 refine zab ?_
 refine zaa ?_
 refine zah _ rfl (fun h => ?_) (fun h => ?_)
 ·have hlt : i < l.length := by simp at h; omega
  clear h
  obtain ⟨x, hx⟩ : ∃ x, l[i]? = some x := ⟨l[i], List.getElem?_eq_getElem hlt⟩
  obtain ⟨y, hy⟩ : ∃ y, m[i]? = some y := ⟨m[i]'(by omega), List.getElem?_eq_getElem (by omega)⟩
  have hch := zaN (f := ntC) (k := 2) (fun _ => rfl) hx
  have hle := zaP (f := ntC) (k := 2) (fun _ => rfl) hlt
  have hch2 := zaN (f := ntC) (k := 2) (fun _ => rfl) hy
  have hle2 := zaP (f := ntC) (k := 2) (fun _ => rfl) (show i < m.length by omega)
  have hbad := zeo hx hy
  have hxy : x = y → l[i]? = m[i]? := fun e => by rw [hx, hy, e]
  generalize l.flatMap ntC = L at *
  generalize m.flatMap ntC = M at *
  obtain ⟨a1, b1⟩ := x
  obtain ⟨a2, b2⟩ := y
  refine zad (zaa (zaj (zaa ?_)))
  refine tx ?_
  refine yM ?_
  refine yA ?_
  refine zab ?_
  by_cases he : (⟨a1, b1⟩ : NtP) = ⟨a2, b2⟩
  ·refine zaa ?_
   refine zav 4 (by kernel_rfl) ?_
   refine yM ?_
   refine yM ?_
   refine zac (zao Tryz.underlying47 sz52 (by omega) (by omega) rfl) rfl rfl ?_
   refine zac (zaz Tryz.underlying52 rfl sz52 (by first | omega | (simp; done) | (simp; omega)) (hch)) rfl rfl ?_
   refine yM ?_
   refine yM ?_
   refine zac (zao Tryz.underlying47 sz52 (by omega) (by omega) rfl) rfl rfl ?_
   refine zac (zaz Tryz.underlying52 rfl sz52 (by first | omega | (simp; done) | (simp; omega)) (hch2)) rfl rfl ?_
   refine zac (zaV Tryz.underlying52 (xs := [.int .u32 a1, .int .i64 b1]) (ys := [.int .u32 a2, .int .i64 b2]) rfl rfl (by kernel_rfl) (by kernel_rfl) (by kernel_rfl) (c := false) (by rw [za7.2 (by simp at he; simp [he])]; rfl)) rfl rfl ?_
   refine zab ⟨by kernel_rfl, ?_⟩
   refine zae ?_
   refine zan rfl ?_
   refine zad (za3 (zae ?_))
   refine tx ?_
   refine zac (za4 (by first | exact IntWalk.i64_in _ (by omega) | rfl)) rfl rfl ?_
   refine yM ?_
   refine zab ?_
   refine zae ?_
   refine ⟨u - 1, by omega, _, zaJ id _ _ ?_ ?_ rfl, i + 1, by omega, fun j hj => ?_, rfl⟩
   ·(repeat (first | exact trivial | (refine ⟨⟨(by first | rfl | (simp; done) | (simp; omega)), rfl⟩, ?_⟩)))
   ·exact trivial
   ·by_cases e : j = i
    ·rw [e]; exact hxy he
    ·exact hf j (by omega)
  ·rw [zdB (hbad he)] at hE
   subst hE
   refine zaa ?_
   refine zav 4 (by kernel_rfl) ?_
   refine yM ?_
   refine yM ?_
   refine zac (zao Tryz.underlying47 sz52 (by omega) (by omega) rfl) rfl rfl ?_
   refine zac (zaz Tryz.underlying52 rfl sz52 (by first | omega | (simp; done) | (simp; omega)) (hch)) rfl rfl ?_
   refine yM ?_
   refine yM ?_
   refine zac (zao Tryz.underlying47 sz52 (by omega) (by omega) rfl) rfl rfl ?_
   refine zac (zaz Tryz.underlying52 rfl sz52 (by first | omega | (simp; done) | (simp; omega)) (hch2)) rfl rfl ?_
   refine zac (zaV Tryz.underlying52 (xs := [.int .u32 a1, .int .i64 b1]) (ys := [.int .u32 a2, .int .i64 b2]) rfl rfl (by kernel_rfl) (by kernel_rfl) (by kernel_rfl) (c := true) (by rw [zds.2 (fun e => he (by simp at e; simp [e]))]; rfl)) rfl rfl ?_
   refine zab ⟨by kernel_rfl, ?_⟩
   refine zae ?_
   refine zaD rfl ?_
   refine zaa ?_
   refine tx ?_
   refine yA ?_
   refine zab ?_
   refine zaf (zaK (zam (zam (zaK (zam ?_)))))
   refine yT ?_ ?_
   ·exact rfl
   ·exact trivial
 have hge : i = l.length := by simp at h; omega
 clear h
 subst hge
 rw [zfF (zep hlen hf)] at hE
 subst hE
 refine zaG (zaa ?_)
 refine tx ?_
 refine yA ?_
 refine zab ?_
 refine zaf ?_
 refine yT ?_ ?_
 ·exact rfl
 ·exact trivial
theorem eqSets_d (l m : List SE) (hl : l.length ≤ 4611686018427387904) (hm : m.length ≤ 4611686018427387904) : Fn Tryz.prog 44 [.p (.sl l.length 5 (l.flatMap SE.pv)), .p (.sl m.length 5 (m.flatMap SE.pv))] (.p (.v (.bool (eqB l m)))) [] := by
 by_cases hlen : l.length = m.length
 rotate_left
 ·rw [zdB (fun e => hlen (by rw [e]))]
  generalize l.flatMap SE.pv = L
  generalize m.flatMap SE.pv = M
  generalize l.length = n at *
  generalize m.length = k at *
  refine zap Tryz.func44 rfl (Nat.le_of_ble_eq_true rfl) fun w0 A => ?_
  refine zaa ?_
  refine tx ?_
  refine yA ?_
  refine zab ?_
  refine zaa (zaa ?_)
  refine tx ?_
  refine yM ?_
  refine yP (zaC Tryz.underlying33) ?_
  refine yM ?_
  refine yP (zaC Tryz.underlying33) ?_
  refine zac (zaQ (c := true) (by simp; omega)) rfl rfl ?_
  refine zab ?_
  refine zae ?_
  refine zaD rfl ?_
  refine zaa ?_
  refine tx ?_
  refine yA ?_
  refine zab ?_
  refine zaf (zam ?_)
  refine yT ?_ ?_
  ·exact rfl
  ·exact trivial
 obtain ⟨E, hE⟩ : ∃ E, eqB l m = E := ⟨_, rfl⟩
 rw [hE]
 refine zap Tryz.func44 rfl (Nat.le_of_ble_eq_true rfl) fun w0 A => ?_
 refine zaa ?_
 refine tx ?_
 refine yA ?_
 refine zab ?_
 refine zaa (zaa ?_)
 refine tx ?_
 refine yM ?_
 (first | refine zac (zaC Tryz.underlying33) rfl rfl ?_ | refine zac (zdI Tryz.underlying33) rfl rfl ?_)
 refine yM ?_
 (first | refine zac (zaC Tryz.underlying33) rfl rfl ?_ | refine zac (zdI Tryz.underlying33) rfl rfl ?_)
 refine zac (zaQ (c := false) (by simp; omega)) rfl rfl ?_
 refine zab ?_
 refine zae ?_
 refine zan rfl ?_
 refine zad (zaa (zaa ?_))
 refine tx ?_
 refine yM ?_
 refine yP (zaC Tryz.underlying33) ?_
 refine yM ?_
 refine zab ?_
 refine zaj ?_
 refine zaE (fun u st => ∃ i : Nat, u + i = l.length ∧ (∀ j, j < i → l[j]? = m[j]?) ∧ st = St.of [(0, .p (.sl l.length 5 (l.flatMap SE.pv))), (1, .p (.sl m.length 5 (m.flatMap SE.pv))), (12, .p (.v (.int .i64 l.length))), (13, .p (.v (.int .i64 i)))] []) l.length ?_ ?_
 ·refine ⟨_, zaJ id _ _ ?_ ?_ rfl, 0, by omega, by omega, rfl⟩
  ·(repeat (first | exact trivial | (refine ⟨⟨(by first | rfl | (simp; done) | (simp; omega)), rfl⟩, ?_⟩)))
  ·exact trivial
 rintro u st ⟨i, hi, hf, rfl⟩
 refine zaa ?_
 refine tx ?_
 refine yP zaX ?_
 refine zab ?_
 refine zaa ?_
 refine zah _ rfl (fun h => ?_) (fun h => ?_)
 ·have hlt : i < l.length := by simp at h; omega
  clear h
  obtain ⟨x, hx⟩ : ∃ x, l[i]? = some x := ⟨l[i], List.getElem?_eq_getElem hlt⟩
  obtain ⟨y, hy⟩ : ∃ y, m[i]? = some y := ⟨m[i]'(by omega), List.getElem?_eq_getElem (by omega)⟩
  have hch := zaN (f := SE.pv) (k := 5) (fun _ => rfl) hx
  have hle := zaP (f := SE.pv) (k := 5) (fun _ => rfl) hlt
  have hch2 := zaN (f := SE.pv) (k := 5) (fun _ => rfl) hy
  have hle2 := zaP (f := SE.pv) (k := 5) (fun _ => rfl) (show i < m.length by omega)
  have hbad := zeo hx hy
  have hxy : x = y → l[i]? = m[i]? := fun e => by rw [hx, hy, e]
  generalize l.flatMap SE.pv = L at *
  generalize m.flatMap SE.pv = M at *
  obtain ⟨k1, t1, n1, a1, b1⟩ := x
  obtain ⟨k2, t2, n2, a2, b2⟩ := y
  refine zad (zaa (zaj (zaa ?_)))
  refine tx ?_
  refine yM ?_
  refine yA ?_
  refine zab ?_
  by_cases he : (⟨k1, t1, n1, a1, b1⟩ : SE) = ⟨k2, t2, n2, a2, b2⟩
  ·refine zaa ?_
   refine zav 4 (by kernel_rfl) ?_
   refine yM ?_
   refine yM ?_
   refine zac (zao Tryz.underlying33 sz86 (by omega) (by omega) rfl) rfl rfl ?_
   refine zac (zaz Tryz.underlying86 rfl sz86 (by first | omega | (simp; done) | (simp; omega)) (hch)) rfl rfl ?_
   refine yM ?_
   refine yM ?_
   refine zac (zao Tryz.underlying33 sz86 (by omega) (by omega) rfl) rfl rfl ?_
   refine zac (zaz Tryz.underlying86 rfl sz86 (by first | omega | (simp; done) | (simp; omega)) (hch2)) rfl rfl ?_
   refine zac (zaV Tryz.underlying86 (xs := [.int .i64 k1, .string t1, .int .i64 n1, .int .u32 a1, .int .i64 b1]) (ys := [.int .i64 k2, .string t2, .int .i64 n2, .int .u32 a2, .int .i64 b2]) rfl rfl (by kernel_rfl) (by kernel_rfl) (by kernel_rfl) (c := false) (by rw [za7.2 (by simp at he; simp [he])]; rfl)) rfl rfl ?_
   refine zab ⟨by kernel_rfl, ?_⟩
   refine zae ?_
   refine zan rfl ?_
   refine zad (za3 (zae ?_))
   refine tx ?_
   refine zac (za4 (by first | exact IntWalk.i64_in _ (by omega) | rfl)) rfl rfl ?_
   refine yM ?_
   refine zab ?_
   refine zae ?_
   refine ⟨u - 1, by omega, _, zaJ id _ _ ?_ ?_ rfl, i + 1, by omega, fun j hj => ?_, rfl⟩
   ·(repeat (first | exact trivial | (refine ⟨⟨(by first | rfl | (simp; done) | (simp; omega)), rfl⟩, ?_⟩)))
   ·exact trivial
   ·by_cases e : j = i
    ·rw [e]; exact hxy he
    ·exact hf j (by omega)
  ·rw [zdB (hbad he)] at hE
   subst hE
   refine zaa ?_
   refine zav 4 (by kernel_rfl) ?_
   refine yM ?_
   refine yM ?_
   refine zac (zao Tryz.underlying33 sz86 (by omega) (by omega) rfl) rfl rfl ?_
   refine zac (zaz Tryz.underlying86 rfl sz86 (by first | omega | (simp; done) | (simp; omega)) (hch)) rfl rfl ?_
   refine yM ?_
   refine yM ?_
   refine zac (zao Tryz.underlying33 sz86 (by omega) (by omega) rfl) rfl rfl ?_
   refine zac (zaz Tryz.underlying86 rfl sz86 (by first | omega | (simp; done) | (simp; omega)) (hch2)) rfl rfl ?_
   refine zac (zaV Tryz.underlying86 (xs := [.int .i64 k1, .string t1, .int .i64 n1, .int .u32 a1, .int .i64 b1]) (ys := [.int .i64 k2, .string t2, .int .i64 n2, .int .u32 a2, .int .i64 b2]) rfl rfl (by kernel_rfl) (by kernel_rfl) (by kernel_rfl) (c := true) (by rw [zds.2 (fun e => he (by simp at e; simp [e]))]; rfl)) rfl rfl ?_
   refine zab ⟨by kernel_rfl, ?_⟩
   refine zae ?_
   refine zaD rfl ?_
   refine zaa ?_
   refine tx ?_
   refine yA ?_
   refine zab ?_
   refine zaf (zaK (zam (zam (zaK (zam ?_)))))
   refine yT ?_ ?_
   ·exact rfl
   ·exact trivial
 have hge : i = l.length := by simp at h; omega
 clear h
 subst hge
 rw [zfF (zep hlen hf)] at hE
 subst hE
 refine zaG (zaa ?_)
 refine tx ?_
 refine yA ?_
 refine zab ?_
 refine zaf ?_
 refine yT ?_ ?_
 ·exact rfl
 ·exact trivial
theorem zgp (l m : List ND) (hl : l.length ≤ 4611686018427387904) (hm : m.length ≤ 4611686018427387904) : Fn Tryz.prog 24 [.p (.sl l.length 4 (l.flatMap ND.pv)), .p (.sl m.length 4 (m.flatMap ND.pv))] (.p (.v (.bool (eqB l m)))) [] := by
 by_cases hlen : l.length = m.length
 rotate_left
 ·rw [zdB (fun e => hlen (by rw [e]))]
  generalize l.flatMap ND.pv = L
  generalize m.flatMap ND.pv = M
  generalize l.length = n at *
  generalize m.length = k at *
  refine zap Tryz.func24 rfl (Nat.le_of_ble_eq_true rfl) fun w0 A => ?_
  refine zaa ?_
  refine tx ?_
  refine yA ?_
  refine zab ?_
  refine zaa (zaa ?_)
  refine tx ?_
  refine yM ?_
  refine yP (zaC Tryz.underlying25) ?_
  refine yM ?_
  refine yP (zaC Tryz.underlying25) ?_
  refine zac (zaQ (c := true) (by simp; omega)) rfl rfl ?_
  refine zab ?_
  refine zae ?_
  refine zaD rfl ?_
  refine zaa ?_
  refine tx ?_
  refine yA ?_
  refine zab ?_
  refine zaf (zam ?_)
  refine yT ?_ ?_
  ·exact rfl
  ·exact trivial
 obtain ⟨E, hE⟩ : ∃ E, eqB l m = E := ⟨_, rfl⟩
 rw [hE]
 refine zap Tryz.func24 rfl (Nat.le_of_ble_eq_true rfl) fun w0 A => ?_
 refine zaa ?_
 refine tx ?_
 refine yA ?_
 refine zab ?_
 refine zaa (zaa ?_)
 refine tx ?_
 refine yM ?_
 (first | refine zac (zaC Tryz.underlying25) rfl rfl ?_ | refine zac (zdI Tryz.underlying25) rfl rfl ?_)
 refine yM ?_
 (first | refine zac (zaC Tryz.underlying25) rfl rfl ?_ | refine zac (zdI Tryz.underlying25) rfl rfl ?_)
 refine zac (zaQ (c := false) (by simp; omega)) rfl rfl ?_
 refine zab ?_
 refine zae ?_
 refine zan rfl ?_
 refine zad (zaa (zaa ?_))
 refine tx ?_
 refine yM ?_
 refine yP (zaC Tryz.underlying25) ?_
 refine yM ?_
 refine zab ?_
 refine zaj ?_
 refine zaE (fun u st => ∃ i : Nat, u + i = l.length ∧ (∀ j, j < i → l[j]? = m[j]?) ∧ st = St.of [(0, .p (.sl l.length 4 (l.flatMap ND.pv))), (1, .p (.sl m.length 4 (m.flatMap ND.pv))), (12, .p (.v (.int .i64 l.length))), (13, .p (.v (.int .i64 i)))] []) l.length ?_ ?_
 ·refine ⟨_, zaJ id _ _ ?_ ?_ rfl, 0, by omega, by omega, rfl⟩
  ·(repeat (first | exact trivial | (refine ⟨⟨(by first | rfl | (simp; done) | (simp; omega)), rfl⟩, ?_⟩)))
  ·exact trivial
 rintro u st ⟨i, hi, hf, rfl⟩
 refine zaa ?_
 refine tx ?_
 refine yP zaX ?_
 refine zab ?_
 refine zaa ?_
 refine zah _ rfl (fun h => ?_) (fun h => ?_)
 ·have hlt : i < l.length := by simp at h; omega
  clear h
  obtain ⟨x, hx⟩ : ∃ x, l[i]? = some x := ⟨l[i], List.getElem?_eq_getElem hlt⟩
  obtain ⟨y, hy⟩ : ∃ y, m[i]? = some y := ⟨m[i]'(by omega), List.getElem?_eq_getElem (by omega)⟩
  have hch := zaN (f := ND.pv) (k := 4) (fun _ => rfl) hx
  have hle := zaP (f := ND.pv) (k := 4) (fun _ => rfl) hlt
  have hch2 := zaN (f := ND.pv) (k := 4) (fun _ => rfl) hy
  have hle2 := zaP (f := ND.pv) (k := 4) (fun _ => rfl) (show i < m.length by omega)
  have hbad := zeo hx hy
  have hxy : x = y → l[i]? = m[i]? := fun e => by rw [hx, hy, e]
  generalize l.flatMap ND.pv = L at *
  generalize m.flatMap ND.pv = M at *
  obtain ⟨a1, n1, o1, s1⟩ := x
  obtain ⟨a2, n2, o2, s2⟩ := y
  refine zad (zaa (zaj (zaa ?_)))
  refine tx ?_
  refine yM ?_
  refine yA ?_
  refine zab ?_
  by_cases he : (⟨a1, n1, o1, s1⟩ : ND) = ⟨a2, n2, o2, s2⟩
  ·refine zaa ?_
   refine zav 4 (by kernel_rfl) ?_
   refine yM ?_
   refine yM ?_
   refine zac (zao Tryz.underlying25 sz55 (by omega) (by omega) rfl) rfl rfl ?_
   refine zac (zaz Tryz.underlying55 rfl sz55 (by first | omega | (simp; done) | (simp; omega)) (hch)) rfl rfl ?_
   refine yM ?_
   refine yM ?_
   refine zac (zao Tryz.underlying25 sz55 (by omega) (by omega) rfl) rfl rfl ?_
   refine zac (zaz Tryz.underlying55 rfl sz55 (by first | omega | (simp; done) | (simp; omega)) (hch2)) rfl rfl ?_
   refine zac (zaV Tryz.underlying55 (xs := [.int .u32 a1, .int .i64 n1, .string o1, .int .i64 s1]) (ys := [.int .u32 a2, .int .i64 n2, .string o2, .int .i64 s2]) rfl rfl (by kernel_rfl) (by kernel_rfl) (by kernel_rfl) (c := false) (by rw [za7.2 (by simp at he; simp [he])]; rfl)) rfl rfl ?_
   refine zab ⟨by kernel_rfl, ?_⟩
   refine zae ?_
   refine zan rfl ?_
   refine zad (za3 (zae ?_))
   refine tx ?_
   refine zac (za4 (by first | exact IntWalk.i64_in _ (by omega) | rfl)) rfl rfl ?_
   refine yM ?_
   refine zab ?_
   refine zae ?_
   refine ⟨u - 1, by omega, _, zaJ id _ _ ?_ ?_ rfl, i + 1, by omega, fun j hj => ?_, rfl⟩
   ·(repeat (first | exact trivial | (refine ⟨⟨(by first | rfl | (simp; done) | (simp; omega)), rfl⟩, ?_⟩)))
   ·exact trivial
   ·by_cases e : j = i
    ·rw [e]; exact hxy he
    ·exact hf j (by omega)
  ·rw [zdB (hbad he)] at hE
   subst hE
   refine zaa ?_
   refine zav 4 (by kernel_rfl) ?_
   refine yM ?_
   refine yM ?_
   refine zac (zao Tryz.underlying25 sz55 (by omega) (by omega) rfl) rfl rfl ?_
   refine zac (zaz Tryz.underlying55 rfl sz55 (by first | omega | (simp; done) | (simp; omega)) (hch)) rfl rfl ?_
   refine yM ?_
   refine yM ?_
   refine zac (zao Tryz.underlying25 sz55 (by omega) (by omega) rfl) rfl rfl ?_
   refine zac (zaz Tryz.underlying55 rfl sz55 (by first | omega | (simp; done) | (simp; omega)) (hch2)) rfl rfl ?_
   refine zac (zaV Tryz.underlying55 (xs := [.int .u32 a1, .int .i64 n1, .string o1, .int .i64 s1]) (ys := [.int .u32 a2, .int .i64 n2, .string o2, .int .i64 s2]) rfl rfl (by kernel_rfl) (by kernel_rfl) (by kernel_rfl) (c := true) (by rw [zds.2 (fun e => he (by simp at e; simp [e]))]; rfl)) rfl rfl ?_
   refine zab ⟨by kernel_rfl, ?_⟩
   refine zae ?_
   refine zaD rfl ?_
   refine zaa ?_
   refine tx ?_
   refine yA ?_
   refine zab ?_
   refine zaf (zaK (zam (zam (zaK (zam ?_)))))
   refine yT ?_ ?_
   ·exact rfl
   ·exact trivial
 have hge : i = l.length := by simp at h; omega
 clear h
 subst hge
 rw [zfF (zep hlen hf)] at hE
 subst hE
 refine zaG (zaa ?_)
 refine tx ?_
 refine yA ?_
 refine zab ?_
 refine zaf ?_
 refine yT ?_ ?_
 ·exact rfl
 ·exact trivial
end Go.Proofs.YtgpleldhddpcgaaGreatDoor
/- A configuration, typed, as data; what conf.Check says of it. -/
namespace Go.Proofs.YtgpleldhddpcgaaGreatDoor
open Go.RowKit Go.Sort
set_option linter.unusedVariables false
set_option linter.unusedSimpArgs false
set_option maxRecDepth 100000
/-- a configuration -/
structure CF where
 key : ByteArray
 port : Int
 ps : List PE
def cfC (key : ByteArray) (port : Int) (n : Nat) (L : List PV) : List AV := [.p (.v (.string key)), .p (.v (.int .i64 port)), .p (.sl n 5 L)]
def CF.cells (c : CF) : List AV := cfC c.key c.port c.ps.length (c.ps.flatMap PE.pv)
def CF.pv (c : CF) : List PV := [.v (.string c.key), .v (.int .i64 c.port), .sl c.ps.length 5 (c.ps.flatMap PE.pv)]
structure CF.OK (c : CF) : Prop where
 len : c.ps.length ≤ 1048576
 ps : ∀ p ∈ c.ps, p.OK ∧ p.nets.length ≤ 1048576
theorem PE.list_ty {n : Nat} {ps : List PV} (h : Ty Tryz.prog (n + 6) 22 ps) (hb : PV.bdL 1048576 ps) : ∃ l : List PE, (∀ p ∈ l, p.OK ∧ p.nets.length ≤ 1048576) ∧ l.length ≤ 1048576 ∧ ps = [.sl l.length 5 (l.flatMap PE.pv)] := by
 obtain ⟨L, rfl, h2, h3⟩ := zeS (sz := 5) Tryz.underlying22 (by kernel_rfl) h
 simp only [PV.bdL, PV.bd, and_true] at hb
 obtain ⟨l, k1, k2, k3⟩ := zfg (f := PE.pv) (Q := fun p : PE => p.OK ∧ p.nets.length ≤ 1048576) (L := L) fun x hx => by
  have hbx := zbD hb.2 x hx
  obtain ⟨s, h4, h5⟩ := PE.of_ty (n := n) (h3 x hx).1 hbx
  rw [h5] at hbx
  simp only [PE.pv, PV.bdL, PV.bd] at hbx
  exact ⟨s, ⟨h4, hbx.2.2.2.2.1.1⟩, h5⟩
 exact ⟨l, k3, by rw [k1]; exact hb.1, by rw [k1, k2]⟩
theorem CF.of_ty {n : Nat} {ps : List PV} (h : Ty Tryz.prog (n + 7) 24 ps) (hb : PV.bdL 1048576 ps) : ∃ c : CF, c.OK ∧ ps = c.pv := by
 obtain ⟨_, rfl, x0, _, rfl, t0, x1, _, rfl, t1, x2, _, rfl, t2, rfl⟩ := zbv (ts := [9, 3, 22]) (by kernel_rfl) h
 obtain ⟨a0, rfl, _⟩ := zbS Tryz.underlying9 t0
 obtain ⟨a1, rfl, _⟩ := zbM Tryz.underlying3 t1
 obtain ⟨l, ok, hl, rfl⟩ := PE.list_ty t2 (zbD hb x2 (by simp))
 exact ⟨⟨a0, a1, l⟩, ⟨hl, ok⟩, rfl⟩
def dupN : List NtP → List NtP → Bool
 | _, [] => false
 | acc, n :: r => decide (n ∈ acc) || dupN (acc ++ [n]) r
def peG (l : List PE) (i : Nat) : PE := l.getD i ⟨⟨#[]⟩, ⟨#[]⟩, ⟨#[]⟩, 0, []⟩
def zcd (l : List PE) (i : Nat) : List NtP := (l.take i).flatMap PE.nets
def zd5 (k : ByteArray) (l : List PE) (i : Nat) : Int :=
 if peE (peG l i) ≠ 0 then peE (peG l i) else if (0 < i ∧ leK (peG l i).key (peG l (i - 1)).key = true) ∨ (peG l i).key = k then 6
 else if dupN (zcd l i) (peG l i).nets = true then 6 else 0
def cfE (c : CF) : Int :=
 if c.key ≠ ⟨#[]⟩ ∧ keyE c.key ≠ 0 then keyE c.key else if c.port < 0 ∨ 65535 < c.port then 4 else if 6 < c.ps.length then 1 else fnz (zd5 c.key c.ps) c.ps.length
theorem zf8 {l : List PE} {i : Nat} {p : PE} (h : l[i]? = some p) : peG l i = p := by unfold peG; rw [List.getD_eq_getElem?_getD, h]; rfl
theorem zfj {l : List PE} {i : Nat} {p : PE} (h : l[i]? = some p) : zcd l (i + 1) = zcd l i ++ p.nets := by
 obtain ⟨h1, h2⟩ := List.getElem?_eq_some_iff.1 h
 unfold zcd
 rw [List.take_succ_eq_append_getElem h1, h2, List.flatMap_append]
 simp
/-- all nets are 8 each at most as long as the peers are right -/
theorem netsB_len {l : List PE} {i : Nat} (h : ∀ j, j < i → (peG l j).nets.length ≤ 8) (hi : i ≤ l.length) : (zcd l i).length ≤ 8 * i := by
 induction i with
 | zero => simp [zcd]
 | succ i ih =>
  have hi' : l[i]? = some l[i] := List.getElem?_eq_getElem (by omega)
  rw [zfj hi', List.length_append]
  have h1 := ih (fun j hj => h j (by omega)) (by omega)
  have h2 := h i (by omega)
  rw [zf8 hi'] at h2
  omega
theorem zc1 {p : PE} (h : peE p = 0) : p.nets.length ≤ 8 ∧ keyE p.key = 0 := by
 unfold peE at h
 split at h
 ·exact absurd h (by assumption)
 rename_i h1
 split at h
 ·rename_i h2; exact absurd h h2.2
 split at h
 ·cases h
 split at h
 ·rename_i h2; exact absurd h h2.2
 split at h
 ·cases h
 split at h
 ·cases h
 exact ⟨by omega, Decidable.not_not.1 h1⟩
end Go.Proofs.YtgpleldhddpcgaaGreatDoor
