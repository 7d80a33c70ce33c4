/- apply.Run and the reference's ApplyAll; the law ApplyRuns, over data. -/
import Derived.Test.YtkdfdcodkeclmaaGreatDoorSAl3
import Derived.Test.YtkdfdcodkeclmaaGreatDoorSRu0
namespace Go.Proofs.YtkdfdcodkeclmaaGreatDoor
open Tryz
open Go.RowKit Go.Sort
set_option linter.unusedVariables false
set_option linter.unusedSimpArgs false
set_option maxRecDepth 100000
theorem refConf0_s (c : CF) (ok : c.OK) : Fn prog 24 [.agg c.cells] (.p (.v (.int .i64 (cfE c)))) [] := zbk c ok
def apL : CF → ByteArray → List SE → Nat → CF × Int × Int
 | c, _, [], _ => (c, 0, 0)
 | c, pt, s :: r, i => if (apO c pt s).2.2 ≠ 0 then (zcf, (i : Int) + 1, (apO c pt s).2.2) else apL (apO c pt s).1 (apO c pt s).2.1 r (i + 1)
def apA (c : CF) (ss : List SE) : CF × Int × Int :=
 if cfE c ≠ 0 then (zcf, 0, cfE c) else if 60 < ss.length then (zcf, 0, 1) else apL c ⟨#[]⟩ ss 0
def ruR (E : CF × Int × Int) : AV := .tup [.agg E.1.cells, .p (.v (.int .i64 E.2.1)), .p (.v (.int .i64 E.2.2))]
def ruV (E : CF × Int × Int) : AV := if E.2.2 ≠ 0 then .tup [.agg [.p (.v (.string ⟨#[]⟩)), .p (.v (.int .i64 0)), .p (.v (.slice none 0 0))], .p (.v (.int .i64 E.2.1)), .p (.v (.int .i64 E.2.2))] else ruR E
theorem ruV_e {a e : Int} (h : e ≠ 0) : ruV (zcf, a, e) = .tup [.agg [.p (.v (.string ⟨#[]⟩)), .p (.v (.int .i64 0)), .p (.v (.slice none 0 0))], .p (.v (.int .i64 a)), .p (.v (.int .i64 e))] := by unfold ruV; rw [if_pos h]
theorem ruV_o {key : ByteArray} {port a : Int} {l : List PE} : ruV (⟨key, port, l⟩, a, 0) = .tup [.agg (cfC key port l.length (l.flatMap PE.pv)), .p (.v (.int .i64 a)), .p (.v (.int .i64 0))] := by unfold ruV; rw [if_neg (by simp)]; rfl
theorem apL_e : ∀ {ss : List SE} {c : CF} {pt : ByteArray} {i : Nat}, (apL c pt ss i).2.2 ≠ 0 → (apL c pt ss i).1 = zcf
 | [], c, pt, i, h => absurd rfl h
 | s :: r, c, pt, i, h => by
  unfold apL at h ⊢
  by_cases h0 : (apO c pt s).2.2 ≠ 0
  ·rw [if_pos h0]
  ·rw [if_neg h0] at h ⊢; exact apL_e h
theorem apA_e {c : CF} {ss : List SE} (h : (apA c ss).2.2 ≠ 0) : (apA c ss).1 = zcf := by
 unfold apA at h ⊢
 by_cases h0 : cfE c ≠ 0
 ·rw [if_pos h0]
 rw [if_neg h0] at h ⊢
 by_cases h1 : 60 < ss.length
 ·rw [if_pos h1]
 rw [if_neg h1] at h ⊢
 exact apL_e h
theorem fn_ru {f : FuncId} {args : List AV} {E : CF × Int × Int} (hz : E.2.2 ≠ 0 → E.1 = zcf) (h : Fn prog f args (ruV E) []) : Fn prog f args (ruR E) [] := by
 obtain ⟨c, a, e⟩ := E
 dsimp only at hz
 by_cases h0 : e ≠ 0
 ·obtain rfl := hz h0
  rw [ruV_e h0] at h
  exact fn_nil (size := 5) h
 ·unfold ruV at h; rw [if_neg h0] at h; exact h
theorem apL_ok : ∀ {ss : List SE} {c : CF} {pt : ByteArray} {i : Nat}, c.OK → (∀ s ∈ ss, s.OK) → (apL c pt ss i).1.OK
 | [], c, pt, i, ok, h => ok
 | s :: r, c, pt, i, ok, h => by
  unfold apL
  by_cases h0 : (apO c pt s).2.2 ≠ 0
  ·rw [if_pos h0]; exact zeM (Nat.zero_le _) (fun p hp => by cases hp)
  ·rw [if_neg h0]; exact apL_ok (apO_ok c ok pt s (h s (by simp))) fun x hx => h x (by simp [hx])
theorem apA_ok {c : CF} {ss : List SE} (ok : c.OK) (h : ∀ s ∈ ss, s.OK) : (apA c ss).1.OK := by
 have hz : zcf.OK := zeM (Nat.zero_le _) (fun p hp => by cases hp)
 unfold apA
 by_cases h0 : cfE c ≠ 0
 ·rw [if_pos h0]; exact hz
 rw [if_neg h0]
 by_cases h1 : 60 < ss.length
 ·rw [if_pos h1]; exact hz
 rw [if_neg h1]
 exact apL_ok ok h
theorem apL_cons {c : CF} {pt : ByteArray} {ss : List SE} {i : Nat} {x : SE} (hx : ss[i]? = some x) : apL c pt (ss.drop i) i = if (apO c pt x).2.2 ≠ 0 then (zcf, (i : Int) + 1, (apO c pt x).2.2) else apL (apO c pt x).1 (apO c pt x).2.1 (ss.drop (i + 1)) (i + 1) := by
 obtain ⟨h, rfl⟩ := List.getElem?_eq_some_iff.1 hx
 rw [List.drop_eq_getElem_cons h]
 rfl
set_option maxHeartbeats 4000000 in
theorem run_s (c : CF) (ok : c.OK) (ss : List SE) (oks : ∀ s ∈ ss, s.OK) (hl : ss.length ≤ 1048576) : Fn prog 10 [.agg c.cells, .p (.sl ss.length 5 (ss.flatMap SE.pv))] (ruV (apA c ss)) [] := by
 obtain ⟨E, hE⟩ : ∃ E, apA c ss = E := ⟨_, rfl⟩
 rw [hE]
 unfold apA at hE
 have hCf := zco c ok
 have hCp := cfCopyD_s c ok
 obtain ⟨ce, hce⟩ : ∃ e, cfE c = e := ⟨_, rfl⟩
 rw [hce] at hE hCf
 clear hce
 obtain ⟨key, port, l⟩ := c
 change Fn prog _ [.agg (cfC key port l.length (l.flatMap PE.pv))] (.agg (cfC key port l.length (l.flatMap PE.pv))) _ at hCp
 change Fn prog _ [.agg (cfC key port l.length (l.flatMap PE.pv))] _ _ at hCf
 show Fn prog _ [.agg (cfC key port l.length (l.flatMap PE.pv)), .p (.sl ss.length 5 (ss.flatMap SE.pv))] _ _
 refine zaw func10 rfl (qE rfl) fun w0 A => zaa<| tx<| wG (zaK (X := .agg _) 2 rfl) rfl<| wG (zaF 4 zr24 rfl) rfl<| wA rfl<| wA rfl<| zab<| zaa<| zaa<| tx<| wN U24 sz24 rfl ?_
 refine cS (fun n => 16 + 1000 * n) (hCf) F19 ?_
 refine wA rfl<| zab<| zaa<| tx<| wM rfl<| wP zbR rfl<| zab<| zaf<| zaq _ rfl (fun h => ?_) (fun h => ?_)
 ·have h0 : ce ≠ 0 := by simpa using h
  rw [if_pos h0] at hE
  subst hE
  rw [ruV_e h0]
  refine zaa<| tx<| wP (zaQ pl24 zr24 rfl rfl) rfl<| wM rfl<| wG (zar (Y := .agg _) sz24 rfl (by first | exact Nat.eq_of_beq_eq_true rfl | (simp only [AV.cells, List.length_map]; first | assumption | omega)) (Nat.eq_of_beq_eq_true rfl)) rfl ?_
  refine wA rfl<| wA rfl<| zab<| zai<| zau ?_
  refine fT (fun o => o) (.cellN _ _ _ _ _ _ _ _ _ rfl rfl U24 rfl sz24 (by first | assumption | kernel_rfl) (.tmp _ _ _ _ rfl (.tmp _ _ _ _ rfl .nil))) ?_ ?_
  ·exact rfl
  ·exact trivial
 have h0 : ¬ ce ≠ 0 := by simpa using h
 clear h
 rw [if_neg h0] at hE
 refine zae<| zaa<| zaa<| tx<| wM rfl<| wP (zbf U35) rfl<| wP zbA rfl<| zab<| zaf<| zaq _ rfl (fun h => ?_) (fun h => ?_)
 ·have h1 : 60 < ss.length := by simp at h; omega
  rw [if_pos h1] at hE
  subst hE
  rw [ruV_e (by decide)]
  refine zaa<| tx<| wP (zaQ pl24 zr24 rfl rfl) rfl<| wG (zar (Y := .agg _) sz24 rfl (by first | exact Nat.eq_of_beq_eq_true rfl | (simp only [AV.cells, List.length_map]; first | assumption | omega)) (Nat.eq_of_beq_eq_true rfl)) rfl ?_
  refine wA rfl<| wA rfl<| zab<| zai<| zau ?_
  refine fT (fun o => o) (.cellN _ _ _ _ _ _ _ _ _ rfl rfl U24 rfl sz24 (by first | assumption | kernel_rfl) (.tmp _ _ _ _ rfl (.tmp _ _ _ _ rfl .nil))) ?_ ?_
  ·exact rfl
  ·exact trivial
 have h1 : ¬ 60 < ss.length := by simp at h; omega
 clear h
 rw [if_neg h1] at hE
 refine zae<| zaa<| tx<| wN U24 sz24 rfl ?_
 refine cS (fun n => 26 + 1000 * n) (hCp) F21 ?_
 refine wG (zaF 8 zr24 rfl) rfl<| wG (zar (Y := .agg _) sz24 rfl (by first | exact Nat.eq_of_beq_eq_true rfl | (simp only [AV.cells, List.length_map]; first | assumption | omega)) (Nat.eq_of_beq_eq_true rfl)) rfl ?_
 refine wA rfl<| zab<| zaa<| zaa<| tx<| wM rfl<| wP (zbf U35) rfl<| wM rfl<| zab ?_
 clear hCf hCp
 refine zak<| zaN (fun m st => ∃ (i : Nat) (d : CF) (pt : ByteArray), m + i = ss.length ∧ d.OK ∧ apL d pt (ss.drop i) i = E ∧ st = St.of [(4, .ref 4 0), (8, .ref 8 0), (9, .p (.v (.string pt))), (27, .p (.sl ss.length 5 (ss.flatMap SE.pv))), (28, .p (.v (.int .i64 ss.length))), (29, .p (.v (.int .i64 i)))] [(4, .box 24 [.p (.v (.string ⟨#[]⟩)), .p (.v (.int .i64 0)), .p (.v (.slice none 0 0))]), (8, .box 24 (cfC d.key d.port d.ps.length (d.ps.flatMap PE.pv)))]) ss.length ?_ ?_
 ·refine ⟨_, zaJ id _ _ ?_ ?_ rfl, 0, ⟨key, port, l⟩, ⟨#[]⟩, qO, ok, hE, rfl⟩
  ·(repeat (first | exact trivial | (refine ⟨⟨(by first | rfl | (simp; done) | (simp; omega)), rfl⟩, ?_⟩)))
  ·exact ⟨⟨rfl, rfl⟩, ⟨rfl, rfl⟩, trivial⟩
 clear hE
 rintro m st ⟨i, d, pt, hi, okd, hi2, rfl⟩
 refine zaa<| tx<| wP za8 rfl<| zab<| zaa<| zaq _ rfl (fun h => ?_) (fun h => ?_)
 ·have hlt : i < ss.length := by simp at h; omega
  clear h
  obtain ⟨x, hx⟩ : ∃ x, ss[i]? = some x := ⟨ss[i], List.getElem?_eq_getElem hlt⟩
  have hch := zaX (f := SE.pv) (k := 5) (fun _ => rfl) hx
  have hle := zaV (f := SE.pv) (k := 5) (fun _ => rfl) hlt
  have okx := oks x (List.mem_of_getElem? hx)
  rw [apL_cons hx] at hi2
  have hC := aone_s d okd pt x okx
  have hO := apO_ok d okd pt x okx
  obtain ⟨⟨c3, nx, e⟩, hr⟩ : ∃ r, apO d pt x = r := ⟨_, rfl⟩
  rw [hr] at hC hO hi2
  clear hr okx okd
  unfold apR at hC
  obtain ⟨key2, port2, l2⟩ := d
  obtain ⟨key3, port3, l3⟩ := c3
  obtain ⟨xk, xt, xn, xa, xb⟩ := x
  dsimp only at hC hO hi2 ⊢
  change Fn prog _ [.agg (cfC key2 port2 l2.length (l2.flatMap PE.pv)), _, .agg [.p (.v (.int .i64 xk)), .p (.v (.string xt)), .p (.v (.int .i64 xn)), .p (.v (.int .u32 xa)), .p (.v (.int .i64 xb))]] (.tup [.agg (cfC key3 port3 l3.length (l3.flatMap PE.pv)), _, _]) _ at hC
  refine zae<| zaa<| zak<| zaa<| tx<| wM rfl<| wP (zaA U35 sz29 qO qO rfl) rfl<| wP (zaS U29 rfl sz29 (by rw [List.length_drop]; exact Nat.le_sub_of_add_le (by rw [Nat.add_comm]; exact hle)) (hch)) rfl ?_
  refine wG (zaF 11 zr29 rfl) rfl<| wA rfl<| wG (zar (Y := .agg [.p (.v (.int .i64 xk)), .p (.v (.string xt)), .p (.v (.int .i64 xn)), .p (.v (.int .u32 xa)), .p (.v (.int .i64 xb))]) sz29 rfl rfl (Nat.eq_of_beq_eq_true rfl)) rfl<| zab<| zaa<| tx<| wN U24 sz24 rfl ?_
  refine wM rfl<| wN U29 sz29 rfl ?_
  refine cS (fun n => 38 + 1000 * n) (hC) func7 ?_
  refine wP (zam (r := .tup _)) rfl<| wP (zal rfl) rfl<| wP (zal rfl) rfl<| wP (zal rfl) rfl<| wG (zaF 12 zr24 rfl) rfl<| wG (zar (Y := .agg _) sz24 rfl (by first | exact Nat.eq_of_beq_eq_true rfl | (simp only [AV.cells, List.length_map]; first | assumption | omega)) (Nat.eq_of_beq_eq_true rfl)) rfl ?_
  refine wA rfl<| wA rfl<| zab<| zaa<| zaa<| tx<| wM rfl<| wP zbR rfl<| zab<| zaf<| zaq _ rfl (fun h => ?_) (fun h => ?_)
  ·have h7 : e ≠ 0 := by simpa using h
   rw [if_pos h7] at hi2
   subst hi2
   rw [ruV_e h7]
   refine zaa<| tx<| wP (zaQ pl24 zr24 rfl rfl) rfl<| wM rfl<| wP (za5 (by first | exact IntWalk.i64_in _ (by omega) | rfl)) rfl ?_
   refine wM rfl<| wG (zar (Y := .agg _) sz24 rfl (by first | exact Nat.eq_of_beq_eq_true rfl | (simp only [AV.cells, List.length_map]; first | assumption | omega)) (Nat.eq_of_beq_eq_true rfl)) rfl ?_
   refine wA rfl<| wA rfl<| zab<| zai<| zau<| zaU<| zau<| zau<| zaU<| zau ?_
   refine fT (fun o => o) (.cellN _ _ _ _ _ _ _ _ _ rfl rfl U24 rfl sz24 (by first | assumption | kernel_rfl) (.tmp _ _ _ _ rfl (.tmp _ _ _ _ rfl .nil))) ?_ ?_
   ·exact rfl
   ·exact trivial
  have h7 : ¬ e ≠ 0 := by simpa using h
  clear h
  rw [if_neg h7] at hi2
  refine zae<| zaf<| tx<| wN U24 sz24 rfl ?_
  refine wM rfl<| wG (zar (Y := .agg _) sz24 rfl (by first | exact Nat.eq_of_beq_eq_true rfl | (simp only [AV.cells, List.length_map]; first | assumption | omega)) (Nat.eq_of_beq_eq_true rfl)) rfl ?_
  refine wA rfl<| zab<| zbb<| zaf<| tx<| wP (za5 (by first | exact IntWalk.i64_in _ (by omega) | rfl)) rfl ?_
  refine wM rfl<| zab<| zaf<| ⟨m - 1, qO, _, zaJ id _ _ ?_ ?_ rfl, i + 1, ⟨key3, port3, l3⟩, nx, qO, hO, hi2, rfl⟩
  ·(repeat (first | exact trivial | (refine ⟨⟨(by first | rfl | (simp; done) | (simp; omega)), rfl⟩, ?_⟩)))
  ·exact ⟨⟨rfl, rfl⟩, ⟨rfl, rfl⟩, trivial⟩
 have hge : i = ss.length := by simp at h; omega
 clear h
 subst hge
 rw [List.drop_length] at hi2
 obtain ⟨key2, port2, l2⟩ := d
 unfold apL at hi2
 subst hi2
 rw [ruV_o]
 dsimp only
 refine zaI<| zaa<| tx<| wN U24 sz24 rfl ?_
 refine wG (zar (Y := .agg _) sz24 rfl (by first | exact Nat.eq_of_beq_eq_true rfl | (simp only [AV.cells, List.length_map]; first | assumption | omega)) (Nat.eq_of_beq_eq_true rfl)) rfl ?_
 refine wA rfl<| wA rfl<| zab<| zai ?_
 refine fT (fun o => o) (.cellN _ _ _ _ _ _ _ _ _ rfl rfl U24 rfl sz24 (by first | assumption | kernel_rfl) (.tmp _ _ _ _ rfl (.tmp _ _ _ _ rfl .nil))) ?_ ?_
 ·exact rfl
 ·exact trivial
set_option maxHeartbeats 4000000 in
theorem refRun_s (c : CF) (ok : c.OK) (ss : List SE) (oks : ∀ s ∈ ss, s.OK) (hl : ss.length ≤ 1048576) : Fn prog 11 [.agg c.cells, .p (.sl ss.length 5 (ss.flatMap SE.pv))] (ruV (apA c ss)) [] := by
 obtain ⟨E, hE⟩ : ∃ E, apA c ss = E := ⟨_, rfl⟩
 rw [hE]
 unfold apA at hE
 have hCf := refConf0_s c ok
 obtain ⟨ce, hce⟩ : ∃ e, cfE c = e := ⟨_, rfl⟩
 rw [hce] at hE hCf
 clear hce
 obtain ⟨key, port, l⟩ := c
 change Fn prog _ [.agg (cfC key port l.length (l.flatMap PE.pv))] _ _ at hCf
 show Fn prog _ [.agg (cfC key port l.length (l.flatMap PE.pv)), .p (.sl ss.length 5 (ss.flatMap SE.pv))] _ _
 refine zaw func11 rfl (qE rfl) fun w0 A => zaa<| tx<| wG (zaK (X := .agg _) 2 rfl) rfl<| wG (zaF 4 zr24 rfl) rfl<| wA rfl<| wA rfl<| zab<| zaa<| zaa<| tx<| wN U24 sz24 rfl ?_
 refine cS (fun n => 12 + 1000 * n) (hCf) F24 ?_
 refine wA rfl<| zab<| zaa<| tx<| wM rfl<| wP zbR rfl<| zab<| zaf<| zaq _ rfl (fun h => ?_) (fun h => ?_)
 ·have h0 : ce ≠ 0 := by simpa using h
  rw [if_pos h0] at hE
  subst hE
  rw [ruV_e h0]
  refine zaa<| tx<| wP (zaQ pl24 zr24 rfl rfl) rfl<| wM rfl<| wG (zar (Y := .agg _) sz24 rfl (by first | exact Nat.eq_of_beq_eq_true rfl | (simp only [AV.cells, List.length_map]; first | assumption | omega)) (Nat.eq_of_beq_eq_true rfl)) rfl ?_
  refine wA rfl<| wA rfl<| zab<| zai<| zau ?_
  refine fT (fun o => o) (.cellN _ _ _ _ _ _ _ _ _ rfl rfl U24 rfl sz24 (by first | assumption | kernel_rfl) (.tmp _ _ _ _ rfl (.tmp _ _ _ _ rfl .nil))) ?_ ?_
  ·exact rfl
  ·exact trivial
 have h0 : ¬ ce ≠ 0 := by simpa using h
 clear h
 rw [if_neg h0] at hE
 refine zae<| zaa<| zaa<| tx<| wM rfl<| wP (zbf U35) rfl<| wP zbA rfl<| zab<| zaf<| zaq _ rfl (fun h => ?_) (fun h => ?_)
 ·have h1 : 60 < ss.length := by simp at h; omega
  rw [if_pos h1] at hE
  subst hE
  rw [ruV_e (by decide)]
  refine zaa<| tx<| wP (zaQ pl24 zr24 rfl rfl) rfl<| wG (zar (Y := .agg _) sz24 rfl (by first | exact Nat.eq_of_beq_eq_true rfl | (simp only [AV.cells, List.length_map]; first | assumption | omega)) (Nat.eq_of_beq_eq_true rfl)) rfl ?_
  refine wA rfl<| wA rfl<| zab<| zai<| zau ?_
  refine fT (fun o => o) (.cellN _ _ _ _ _ _ _ _ _ rfl rfl U24 rfl sz24 (by first | assumption | kernel_rfl) (.tmp _ _ _ _ rfl (.tmp _ _ _ _ rfl .nil))) ?_ ?_
  ·exact rfl
  ·exact trivial
 have h1 : ¬ 60 < ss.length := by simp at h; omega
 clear h
 rw [if_neg h1] at hE
 refine zae<| zaa<| tx<| wA rfl<| zab<| zaa<| tx<| wA rfl<| zab<| zaa<| zaa<| tx<| wA rfl<| zab ?_
 clear hCf
 refine zak<| zaN (fun m st => ∃ (i : Nat) (d : CF) (pt : ByteArray), m + i = ss.length ∧ d.OK ∧ apL d pt (ss.drop i) i = E ∧ st = St.of [(1, .p (.sl ss.length 5 (ss.flatMap SE.pv))), (2, .ref 2 0), (4, .ref 4 0), (8, .p (.v (.string pt))), (10, .p (.v (.int .i64 i)))] [(2, .box 24 (cfC d.key d.port d.ps.length (d.ps.flatMap PE.pv))), (4, .box 24 [.p (.v (.string ⟨#[]⟩)), .p (.v (.int .i64 0)), .p (.v (.slice none 0 0))])]) ss.length ?_ ?_
 ·refine ⟨_, zaJ id _ _ ?_ ?_ rfl, 0, ⟨key, port, l⟩, ⟨#[]⟩, qO, ok, hE, rfl⟩
  ·(repeat (first | exact trivial | (refine ⟨⟨(by first | rfl | (simp; done) | (simp; omega)), rfl⟩, ?_⟩)))
  ·exact ⟨⟨rfl, rfl⟩, ⟨rfl, rfl⟩, trivial⟩
 clear hE
 rintro m st ⟨i, d, pt, hi, okd, hi2, rfl⟩
 refine zaa<| zaa<| tx<| wM rfl<| wM rfl<| wP (zbf U35) rfl<| wP za8 rfl<| zab<| zaf<| zaq _ rfl (fun h => ?_) (fun h => ?_)
 ·have hlt : i < ss.length := by simp at h; omega
  clear h
  obtain ⟨x, hx⟩ : ∃ x, ss[i]? = some x := ⟨ss[i], List.getElem?_eq_getElem hlt⟩
  have hch := zaX (f := SE.pv) (k := 5) (fun _ => rfl) hx
  have hle := zaV (f := SE.pv) (k := 5) (fun _ => rfl) hlt
  have okx := oks x (List.mem_of_getElem? hx)
  rw [apL_cons hx] at hi2
  have hC := refOne_s d okd pt x okx
  have hO := apO_ok d okd pt x okx
  obtain ⟨⟨c3, nx, e⟩, hr⟩ : ∃ r, apO d pt x = r := ⟨_, rfl⟩
  rw [hr] at hC hO hi2
  clear hr okx okd
  unfold apR at hC
  obtain ⟨key2, port2, l2⟩ := d
  obtain ⟨key3, port3, l3⟩ := c3
  obtain ⟨xk, xt, xn, xa, xb⟩ := x
  dsimp only at hC hO hi2 ⊢
  change Fn prog _ [.agg (cfC key2 port2 l2.length (l2.flatMap PE.pv)), _, .agg [.p (.v (.int .i64 xk)), .p (.v (.string xt)), .p (.v (.int .i64 xn)), .p (.v (.int .u32 xa)), .p (.v (.int .i64 xb))]] (.tup [.agg (cfC key3 port3 l3.length (l3.flatMap PE.pv)), _, _]) _ at hC
  refine zae<| zaa<| zak<| zaa<| zaB 4 qK<| wN U24 sz24 rfl ?_
  refine wM rfl<| wM rfl<| wM rfl<| wP (zaA U35 sz29 qO qO rfl) rfl<| wP (zaS U29 rfl sz29 (by rw [List.length_drop]; exact Nat.le_sub_of_add_le (by rw [Nat.add_comm]; exact hle)) (hch)) rfl ?_
  refine cS (fun n => 34 + 1000 * n) (hC) func8 ?_
  refine wP (zam (r := .tup _)) rfl<| wP (zal rfl) rfl<| wP (zal rfl) rfl<| wP (zal rfl) rfl<| wG (zar (Y := .agg _) sz24 rfl (by first | exact Nat.eq_of_beq_eq_true rfl | (simp only [AV.cells, List.length_map]; first | assumption | omega)) (Nat.eq_of_beq_eq_true rfl)) rfl ?_
  refine wA rfl<| wA rfl<| zab ⟨qK, ?_⟩
  refine zaa<| tx<| wM rfl<| wP zbR rfl<| zab<| zaf<| zaq _ rfl (fun h => ?_) (fun h => ?_)
  ·have h7 : e ≠ 0 := by simpa using h
   rw [if_pos h7] at hi2
   subst hi2
   rw [ruV_e h7]
   refine zaa<| tx<| wP (zaQ pl24 zr24 rfl rfl) rfl<| wM rfl<| wP (za5 (by first | exact IntWalk.i64_in _ (by omega) | rfl)) rfl ?_
   refine wM rfl<| wG (zar (Y := .agg _) sz24 rfl (by first | exact Nat.eq_of_beq_eq_true rfl | (simp only [AV.cells, List.length_map]; first | assumption | omega)) (Nat.eq_of_beq_eq_true rfl)) rfl ?_
   refine wA rfl<| wA rfl<| zab<| zai<| zaU<| zau<| zau<| zaU<| zau ?_
   refine fT (fun o => o) (.cellN _ _ _ _ _ _ _ _ _ rfl rfl U24 rfl sz24 (by first | assumption | kernel_rfl) (.tmp _ _ _ _ rfl (.tmp _ _ _ _ rfl .nil))) ?_ ?_
   ·exact rfl
   ·exact trivial
  have h7 : ¬ e ≠ 0 := by simpa using h
  clear h
  rw [if_neg h7] at hi2
  refine zae<| zbb<| zaf<| tx<| wM rfl<| wP (za5 (by first | exact IntWalk.i64_in _ (by omega) | rfl)) rfl ?_
  refine wA rfl<| zab<| zaf<| ⟨m - 1, qO, _, zaJ id _ _ ?_ ?_ rfl, i + 1, ⟨key3, port3, l3⟩, nx, qO, hO, hi2, rfl⟩
  ·(repeat (first | exact trivial | (refine ⟨⟨(by first | rfl | (simp; done) | (simp; omega)), rfl⟩, ?_⟩)))
  ·exact ⟨⟨rfl, rfl⟩, ⟨rfl, rfl⟩, trivial⟩
 have hge : i = ss.length := by simp at h; omega
 clear h
 subst hge
 rw [List.drop_length] at hi2
 have hCp := refCopyD_s d okd
 obtain ⟨key2, port2, l2⟩ := d
 change Fn prog _ [.agg (cfC key2 port2 l2.length (l2.flatMap PE.pv))] (.agg (cfC key2 port2 l2.length (l2.flatMap PE.pv))) _ at hCp
 unfold apL at hi2
 subst hi2
 rw [ruV_o]
 dsimp only
 refine zaI<| zaa<| tx<| wN U24 sz24 rfl ?_
 refine cS (fun n => 45 + 1000 * n) (hCp) F26 ?_
 refine wG (zar (Y := .agg _) sz24 rfl (by first | exact Nat.eq_of_beq_eq_true rfl | (simp only [AV.cells, List.length_map]; first | assumption | omega)) (Nat.eq_of_beq_eq_true rfl)) rfl ?_
 refine wA rfl<| wA rfl<| zab<| zai ?_
 refine fT (fun o => o) (.cellN _ _ _ _ _ _ _ _ _ rfl rfl U24 rfl sz24 (by first | assumption | kernel_rfl) (.tmp _ _ _ _ rfl (.tmp _ _ _ _ rfl .nil))) ?_ ?_
 ·exact rfl
 ·exact trivial
theorem law_ApplyRuns (x0 : List PV) (ty0 : Ty prog 10 24 x0) (hb0 : PV.bdL 1048576 x0) (x1 : List PV) (ty1 : Ty prog 10 35 x1) (hb1 : PV.bdL 1048576 x1) :
  Fn prog 4 [argAV true x0, argAV false x1] (.p (.v (.bool true))) [] := by
 obtain ⟨c, ok, rfl⟩ := CF.of_ty ty0 hb0
 obtain ⟨ss, oks, hl, rfl⟩ := SE.list_ty ty1 hb1
 have p1 := fn_ru apA_e (run_s c ok ss oks hl)
 have q1 := fn_ru apA_e (refRun_s c ok ss oks hl)
 have pS := sameConf_s (apA c ss).1 (apA_ok ok oks)
 obtain ⟨⟨c2, a, e⟩, hr⟩ : ∃ r, apA c ss = r := ⟨_, rfl⟩
 rw [hr] at p1 q1 pS
 dsimp only at pS
 clear hr oks ok hl
 unfold ruR at p1 q1
 dsimp only at p1 q1
 obtain ⟨key, port, l⟩ := c
 obtain ⟨key2, port2, l2⟩ := c2
 change Fn prog _ [.agg (cfC key port l.length (l.flatMap PE.pv)), _] (.tup [.agg (cfC key2 port2 l2.length (l2.flatMap PE.pv)), _, _]) _ at p1 q1
 change Fn prog _ [.agg (cfC key2 port2 l2.length (l2.flatMap PE.pv)), .agg (cfC key2 port2 l2.length (l2.flatMap PE.pv))] _ _ at pS
 show Fn prog 4 [.agg (cfC key port l.length (l.flatMap PE.pv)), .p (.sl ss.length 5 (ss.flatMap SE.pv))] (.p (.v (.bool true))) []
 generalize l.flatMap PE.pv = L at *
 generalize l2.flatMap PE.pv = L2 at *
 generalize ss.flatMap SE.pv = S at *
 refine zaw func4 rfl (qE rfl) fun w0 A => zaa<| tx<| wG (zaK (X := .agg _) 2 rfl) rfl<| wA rfl<| zab<| zaa<| tx<| wN U24 sz24 rfl ?_
 refine wM rfl<| cS (fun n => 14 + 1000 * n) (p1) func10 ?_
 refine wP (zam (r := .tup _)) rfl<| wP (zal rfl) rfl<| wP (zal rfl) rfl<| wP (zal rfl) rfl<| wG (zaF 5 zr24 rfl) rfl<| wG (zar (Y := .agg _) sz24 rfl (by first | exact Nat.eq_of_beq_eq_true rfl | (simp only [AV.cells, List.length_map]; first | assumption | omega)) (Nat.eq_of_beq_eq_true rfl)) rfl ?_
 refine wA rfl<| wA rfl<| zab<| zaa<| tx<| wN U24 sz24 rfl ?_
 refine wM rfl<| cS (fun n => 21 + 1000 * n) (q1) func11 ?_
 refine wP (zam (r := .tup _)) rfl<| wP (zal rfl) rfl<| wP (zal rfl) rfl<| wP (zal rfl) rfl<| wG (zaF 8 zr24 rfl) rfl<| wG (zar (Y := .agg _) sz24 rfl (by first | exact Nat.eq_of_beq_eq_true rfl | (simp only [AV.cells, List.length_map]; first | assumption | omega)) (Nat.eq_of_beq_eq_true rfl)) rfl ?_
 refine wA rfl<| wA rfl<| zab<| zaa<| tx<| wN U24 sz24 rfl ?_
 refine wN U24 sz24 rfl ?_
 refine cS (fun n => 27 + 1000 * n) (pS) func9 ?_
 refine wM rfl<| wM rfl<| wM rfl<| wP zaZ rfl<| wP zao rfl<| wM rfl<| wM rfl<| wM rfl<| wP zaZ rfl<| wP zao rfl<| wA rfl<| zab<| zai<| yT ?_ ?_
 ·exact rfl
 ·exact trivial
end Go.Proofs.YtkdfdcodkeclmaaGreatDoor
