/- The reference's StageFault, over data. -/
import Derived.Test.YtkdfdcodkeclmaaGreatDoorSSg1
import Derived.Test.YtkdfdcodkeclmaaGreatDoorSBt1
import Derived.Test.YtkdfdcodkeclmaaGreatDoorSCf5
import Derived.Test.YtkdfdcodkeclmaaGreatDoorSSe
namespace Go.Proofs.YtkdfdcodkeclmaaGreatDoor
open Tryz
open Go.RowKit Go.Sort
set_option linter.unusedVariables false
set_option linter.unusedSimpArgs false
set_option maxRecDepth 100000
theorem app_empty (a b : ByteArray) : (a ++ b = ⟨#[]⟩) ↔ (a = ⟨#[]⟩ ∧ b = ⟨#[]⟩) := by
 constructor
 ·intro h
  have hs := congrArg ByteArray.size h
  rw [ByteArray.size_append] at hs
  have h0 : (ByteArray.mk #[]).size = 0 := rfl
  rw [h0] at hs
  have f : ∀ x : ByteArray, x.size = 0 → x = ⟨#[]⟩ := fun x hx => by
   obtain ⟨d⟩ := x
   have : d = #[] := Array.eq_empty_of_size_eq_zero hx
   rw [this]
  exact ⟨f a qO, f b qO⟩
 ·rintro ⟨rfl, rfl⟩
  rfl
set_option maxHeartbeats 4000000 in
theorem refStage_s (s : SG) (ok : s.OK) : Fn prog 36 [.agg s.cells] (.p (.v (.int .i64 (sgE s)))) [] := by
 obtain ⟨lv, rest, c, at_, err⟩ := s
 obtain ⟨okr, hl, okc, haz, hkz⟩ := ok
 dsimp only at okr hl okc haz hkz
 obtain ⟨E, hE⟩ : ∃ E, sgE ⟨lv, rest, c, at_, err⟩ = E := ⟨_, rfl⟩
 rw [hE]
 unfold sgE at hE
 dsimp only at hE
 have hCf := zbo c okc
 have hK := zcn at_
 have hrE : restE rest = fnz (fun i => seE (seG rest i)) rest.length := rfl
 have hpl := okc.len
 generalize cfE c = ce at *
 generalize keyE at_ = k1 at *
 obtain ⟨key, port, ps⟩ := c
 dsimp only at hE hpl hkz
 change Fn prog _ [.agg [.p (.v (.string key)), .p (.v (.int .i64 port)), .p (.sl ps.length 5 (ps.flatMap PE.pv))]] _ _ at hCf
 show Fn prog _ [.agg (sgC lv rest.length (rest.flatMap SE.pv) key port ps.length (ps.flatMap PE.pv) at_ err)] _ _
 clear okc
 generalize ps.flatMap PE.pv = L at *
 generalize ps.length = M at *
 refine zat func36 rfl (qE rfl) fun w0 A => zaa<| tx<| wG (zaJ (X := .agg _) 1 rfl) rfl<| wA rfl<| zab<| zaa<| zaa<| tx<| wF zfT rfl<| wL U4 rfl<| wP zbb rfl<| zab<| zaf<| zap _ rfl (fun h => ?_) (fun h => ?_)
 ·have h0 : lv = false := by simpa using h
  clear h
  rw [if_pos h0] at hE
  refine zaa<| zaa<| tx<| wF zci rfl<| wL U35 rfl<| wP (za9 U35) rfl<| wF zch rfl<| wF zaI rfl<| wL U22 rfl<| wP (za9 U22) rfl<| wP (za4 (by first | exact IntWalk.i64_in _ (by omega) | rfl)) rfl ?_
  refine wP zbv rfl<| wM rfl<| mb2 _ rfl rfl (fun hb => (zaL zch rfl)) (fun _ => trivial) ?_
  refine mb2 _ rfl rfl (fun hb => (zaL zdK rfl)) (fun _ => trivial) ?_
  refine mb2 _ rfl rfl (fun hb => (zbd U3 rfl (by first | rfl | assumption))) (fun _ => ⟨rfl, trivial⟩) ?_
  refine mb2 _ rfl rfl (fun hb => zbw) (fun _ => trivial) ?_
  refine wP (a_or (by first | exact id | (simp; done) | grind)) rfl ?_
  refine wM rfl<| mb2 _ rfl rfl (fun hb => (zaL zdk rfl)) (fun _ => trivial) ?_
  refine mb2 _ rfl rfl (fun hb => (zbd U9 rfl (by first | rfl | assumption))) (fun _ => ⟨rfl, trivial⟩) ?_
  refine mb2 _ rfl rfl (fun hb => (zaL zch rfl)) (fun _ => trivial) ?_
  refine mb2 _ rfl rfl (fun hb => (zaL zbD rfl)) (fun _ => trivial) ?_
  refine mb2 _ rfl rfl (fun hb => (zbd U9 rfl (by first | rfl | assumption))) (fun _ => ⟨rfl, trivial⟩) ?_
  refine mb2 _ rfl rfl (fun hb => (a_cat (s := at_) (t := key) qO rfl)) (fun _ => trivial) ?_
  refine mb2 _ rfl rfl (fun hb => zcX) (fun _ => trivial) ?_
  refine wP (a_or (by first | exact id | (simp; done) | grind)) rfl ?_
  refine wM rfl<| mb2 _ rfl rfl (fun hb => (zaL zcB rfl)) (fun _ => trivial) ?_
  refine mb2 _ rfl rfl (fun hb => (zbd U30 rfl (by first | rfl | assumption))) (fun _ => ⟨rfl, trivial⟩) ?_
  refine mb2 _ rfl rfl (fun hb => zbw) (fun _ => trivial) ?_
  refine wP (a_or (by first | exact id | (simp; done) | grind)) rfl ?_
  refine zab<| zaf<| zap _ rfl (fun h => ?_) (fun h => ?_)
  ·have h1 : 0 < rest.length ∨ at_ ≠ ⟨#[]⟩ ∨ err ≠ 0 ∨ key ≠ ⟨#[]⟩ ∨ port ≠ 0 ∨ 0 < M := by
    simp at h
    rcases h with ((q | q) | q) | q
    ·by_cases h2 : 0 < rest.length
     ·exact .inl h2
     ·exact .inr (.inr (.inr (.inr (.inr qO))))
    ·exact .inr (.inr (.inr (.inr (.inl q))))
    ·by_cases h2 : at_ = ⟨#[]⟩
     ·exact .inr (.inr (.inr (.inl fun h3 => q ((app_empty at_ key).2 ⟨h2, h3⟩))))
     ·exact .inr (.inl h2)
    ·exact .inr (.inr (.inl q))
   rw [if_pos h1] at hE
   subst hE
   refine zaa<| tx<| wA rfl<| zab<| zag<| zau<| zau<| yT ?_ ?_
   ·exact rfl
   ·exact trivial
  ·have h1 : ¬ (0 < rest.length ∨ at_ ≠ ⟨#[]⟩ ∨ err ≠ 0 ∨ key ≠ ⟨#[]⟩ ∨ port ≠ 0 ∨ 0 < M) := by
    simp at h
    obtain ⟨⟨⟨q1, q2⟩, q3⟩, q4⟩ := h
    obtain ⟨q5, q6⟩ := (app_empty at_ key).1 q3
    rintro (p | p | p | p | p | p)
    ·omega
    ·exact p q5
    ·exact p q4
    ·exact p q6
    ·exact p q2
    ·omega
   rw [if_neg h1] at hE
   subst hE
   refine zae<| zaa<| tx<| wA rfl<| zab<| zag<| zau<| yT ?_ ?_
   ·exact rfl
   ·exact trivial
 have h0 : ¬ lv = false := by simpa using h
 clear h
 rw [if_neg h0] at hE
 refine zae<| zaa<| zaa<| tx<| wF zch rfl<| wN U24 sz24 rfl ?_
 refine cS (fun n => 41 + 1000 * n) (hCf) F24 ?_
 refine wA rfl<| zab<| zaa<| tx<| wM rfl<| wP zbw rfl<| zab<| zaf<| zap _ rfl (fun h => ?_) (fun h => ?_)
 ·have h1 : ce ≠ 0 := by simpa using h
  rw [if_pos h1] at hE
  subst hE
  refine zaa<| tx<| wM rfl<| wA rfl<| zab<| zag<| zau<| yT ?_ ?_
  ·exact rfl
  ·exact trivial
 have h1 : ce = 0 := by simpa using h
 clear h
 rw [if_neg (by simp [h1])] at hE
 refine zae<| zaa<| zaa<| tx<| wF zci rfl<| wL U35 rfl<| wP (za9 U35) rfl<| wP zbv rfl<| zab<| zaf<| zap _ rfl (fun h => ?_) (fun h => ?_)
 ·have h2 : 60 < rest.length := by simp at h; omega
  rw [if_pos h2] at hE
  subst hE
  refine zaa<| tx<| wA rfl<| zab<| zag<| zau<| yT ?_ ?_
  ·exact rfl
  ·exact trivial
 have h2 : ¬ 60 < rest.length := by simp at h; omega
 clear h
 rw [if_neg h2] at hE
 refine zae<| zaa<| zaa<| tx<| wF zci rfl<| wL U35 rfl<| wP (za9 U35) rfl<| wM rfl<| zab<| zak<| zaM (fun m st => ∃ i : Nat, m + i = rest.length ∧ (∀ j, j < i → seE (seG rest j) = 0) ∧ st = St.of [(1, .ref 1 0), (50, .p (.sl rest.length 5 (rest.flatMap SE.pv))), (51, .p (.v (.int .i64 rest.length))), (52, .p (.v (.int .i64 i)))] [(1, .box 40 (sgC lv rest.length (rest.flatMap SE.pv) key port M L at_ err))]) rest.length ?_ ?_
 ·refine ⟨_, zaK id _ _ ?_ ?_ rfl, 0, qO, qO, rfl⟩
  ·(repeat (first | exact trivial | (refine ⟨⟨(by first | rfl | (simp; done) | (simp; omega)), rfl⟩, ?_⟩)))
  ·exact ⟨⟨rfl, rfl⟩, trivial⟩
 rintro m st ⟨i, hi, hf, rfl⟩
 refine zaa<| tx<| wP za8 rfl<| zab<| zaa<| zap _ rfl (fun h => ?_) (fun h => ?_)
 ·have hlt : i < rest.length := by simp at h; omega
  clear h
  obtain ⟨x, hx⟩ : ∃ x, rest[i]? = some x := ⟨rest[i], List.getElem?_eq_getElem hlt⟩
  have hch := zaW (f := SE.pv) (k := 5) (fun _ => rfl) hx
  have hle := zaV (f := SE.pv) (k := 5) (fun _ => rfl) hlt
  have hC := zbh x (okr x (List.mem_of_getElem? hx))
  have hhit := @zef (fun i => seE (seG rest i)) i rest.length hf hlt
  have hgx : seE (seG rest i) = seE x := by rw [seG_at hx]
  generalize rest.flatMap SE.pv = R at *
  generalize seE x = e at *
  obtain ⟨xk, xt, xn, xa, xb⟩ := x
  change Fn prog _ [.agg [.p (.v (.int .i64 xk)), .p (.v (.string xt)), .p (.v (.int .i64 xn)), .p (.v (.int .u32 xa)), .p (.v (.int .i64 xb))]] _ _ at hC
  refine zae<| zaa<| zak<| zaa<| tx<| wP (zaA U35 sz29 qO qO rfl) rfl<| wP (zaR U29 rfl sz29 (by first | omega | (simp; done) | (simp; omega)) (hch)) rfl ?_
  refine wG (zaE 5 zr29 rfl) rfl<| wG (zar (Y := .agg [.p (.v (.int .i64 xk)), .p (.v (.string xt)), .p (.v (.int .i64 xn)), .p (.v (.int .u32 xa)), .p (.v (.int .i64 xb))]) sz29 rfl rfl (Nat.eq_of_beq_eq_true rfl)) rfl<| zab<| zaa<| tx<| wN U29 sz29 rfl ?_
  refine yV (fun n => 57 + 1000 * n) (hC) F25 ?_
  refine wA rfl<| zab<| zaa<| tx<| wM rfl<| wP zbw rfl<| zab<| zaf<| zap _ rfl (fun h => ?_) (fun h => ?_)
  ·have h7 : e ≠ 0 := by simpa using h
   rw [hrE, hhit (by rw [hgx]; exact h7), hgx, if_pos h7] at hE
   subst hE
   refine zaa<| tx<| wM rfl<| wA rfl<| zab<| zag<| zaY<| zau<| zau<| zaY<| zau<| yT ?_ ?_
   ·exact rfl
   ·exact trivial
  have h7 : e = 0 := by simpa using h
  clear h
  refine zae<| zbf<| zaf<| tx<| wP (za4 (by first | exact IntWalk.i64_in _ (by omega) | rfl)) rfl ?_
  refine wM rfl<| zab<| zaf<| ⟨m - 1, qO, _, zaK id _ _ ?_ ?_ rfl, i + 1, qO, fun q hq => ?_, rfl⟩
  ·(repeat (first | exact trivial | (refine ⟨⟨(by first | rfl | (simp; done) | (simp; omega)), rfl⟩, ?_⟩)))
  ·exact ⟨⟨rfl, rfl⟩, trivial⟩
  ·by_cases eq : q = i
   ·rw [eq, hgx]; exact h7
   ·exact hf q qO
 have hge : i = rest.length := by simp at h; omega
 clear h
 subst hge
 rw [hrE, zfd hf, if_neg (by simp)] at hE
 clear hf hrE
 refine zaH<| zaa<| zaa<| tx<| wF zdk rfl<| wL U9 rfl<| wP zcX rfl<| wM rfl<| mb2 _ rfl rfl (fun hb => (zaL zdk rfl)) (fun _ => trivial) ?_
 refine mb2 _ rfl rfl (fun hb => (zbd U9 rfl (by first | rfl | assumption))) (fun _ => ⟨rfl, trivial⟩) ?_
 refine mb2 _ rfl rfl (fun _ => zfr F55 rfl rfl (hK) (by first | rfl | simp [AV.okInL, AV.okIn, zan]) rfl) (fun _ => trivial) ?_
 refine mb2 _ rfl rfl (fun hb => zbw) (fun _ => trivial) ?_
 refine wP (zgO (by first | exact id | (simp; done) | grind)) rfl ?_
 refine wM rfl<| mb2 _ rfl rfl (fun hb => (zaL zcB rfl)) (fun _ => trivial) ?_
 refine mb2 _ rfl rfl (fun hb => (zbd U30 rfl (by first | rfl | assumption))) (fun _ => ⟨rfl, trivial⟩) ?_
 refine mb2 _ rfl rfl (fun hb => za8) (fun _ => trivial) ?_
 refine wP (a_or (by first | exact id | (simp; done) | grind)) rfl ?_
 refine wM rfl<| mb2 _ rfl rfl (fun hb => (zaL zcB rfl)) (fun _ => trivial) ?_
 refine mb2 _ rfl rfl (fun hb => (zbd U30 rfl (by first | rfl | assumption))) (fun _ => ⟨rfl, trivial⟩) ?_
 refine mb2 _ rfl rfl (fun hb => zbv) (fun _ => trivial) ?_
 refine wP (a_or (by first | exact id | (simp; done) | grind)) rfl ?_
 refine zab<| zaf<| zap _ rfl (fun h => ?_) (fun h => ?_)
 ·have h9 : (at_ ≠ ⟨#[]⟩ ∧ k1 ≠ 0) ∨ err < 0 ∨ 14 < err := by
   simp at h
   rcases h with (q | q) | q
   ·exact .inl q
   ·exact .inr (.inl q)
   ·exact .inr (.inr q)
  rw [if_pos h9] at hE
  subst hE
  refine zaa<| tx<| wA rfl<| zab<| zag<| zau<| yT ?_ ?_
  ·exact rfl
  ·exact trivial
 ·have h9 : ¬ ((at_ ≠ ⟨#[]⟩ ∧ k1 ≠ 0) ∨ err < 0 ∨ 14 < err) := by
   simp at h
   obtain ⟨⟨q1, q2⟩, q3⟩ := h
   rintro (⟨p1, p2⟩ | p | p)
   ·exact p2 (q1 p1)
   ·omega
   ·omega
  rw [if_neg h9] at hE
  subst hE
  refine zae<| zaa<| tx<| wA rfl<| zab<| zag<| yT ?_ ?_
  ·exact rfl
  ·exact trivial
end Go.Proofs.YtkdfdcodkeclmaaGreatDoor
/- The law's sameSettings: settings are the same as themselves; over data. -/
namespace Go.Proofs.YtkdfdcodkeclmaaGreatDoor
open Tryz
open Go.RowKit Go.Sort
set_option linter.unusedVariables false
set_option linter.unusedSimpArgs false
set_option maxRecDepth 100000
theorem eqSets_s (l : List SE) (hn : l.length ≤ 1048576) : Fn prog 61 [.p (.sl l.length 5 (l.flatMap SE.pv)), .p (.sl l.length 5 (l.flatMap SE.pv))] (.p (.v (.bool true))) [] := by
 refine zat func61 rfl (qE rfl) fun w0 A => zaa<| tx<| wA rfl<| zab<| zaa<| zaa<| tx<| wM rfl<| wP (za9 U35) rfl<| wM rfl<| wP (za9 U35) rfl<| wP za5 rfl<| zab<| zaf<| zap _ rfl (fun h => ?_) (fun h => ?_)
 ·simp at h
 refine zae<| zaa<| zaa<| tx<| wM rfl<| wP (za9 U35) rfl<| wM rfl<| zab<| zak<| zaM (fun m st => ∃ i : Nat, m + i = l.length ∧ st = St.of [(0, .p (.sl l.length 5 (l.flatMap SE.pv))), (1, .p (.sl l.length 5 (l.flatMap SE.pv))), (12, .p (.v (.int .i64 l.length))), (13, .p (.v (.int .i64 i)))] []) l.length ?_ ?_
 ·refine ⟨_, zaK id _ _ ?_ ?_ rfl, 0, qO, rfl⟩
  ·(repeat (first | exact trivial | (refine ⟨⟨(by first | rfl | (simp; done) | (simp; omega)), rfl⟩, ?_⟩)))
  ·exact trivial
 rintro m st ⟨i, hi, rfl⟩
 refine zaa<| tx<| wP za8 rfl<| zab<| zaa<| zap _ rfl (fun h => ?_) (fun h => ?_)
 ·have hlt : i < l.length := by simp at h; omega
  clear h
  obtain ⟨s, hs⟩ : ∃ s, l[i]? = some s := ⟨l[i], List.getElem?_eq_getElem hlt⟩
  have hch := zaW (f := SE.pv) (k := 5) (fun _ => rfl) hs
  have hle := zaV (f := SE.pv) (k := 5) (fun _ => rfl) hlt
  generalize hL : l.flatMap SE.pv = L at *
  obtain ⟨k, t, n, a, b⟩ := s
  refine zae<| zaa<| zak<| zaa<| tx<| wM rfl<| wA rfl<| zab<| zaa<| zaB 4 qK<| wM rfl<| wM rfl<| wP (zaA U35 sz29 qO qO rfl) rfl<| wP (zaR U29 rfl sz29 (by first | omega | (simp; done) | (simp; omega)) (hch)) rfl ?_
  refine wM rfl<| wM rfl<| wP (zaA U35 sz29 qO qO rfl) rfl<| wP (zaR U29 rfl sz29 (by first | omega | (simp; done) | (simp; omega)) (hch)) rfl ?_
  refine wP (zaQ U29 (xs := [.int .i64 k, .string t, .int .i64 n, .int .u32 a, .int .i64 b]) (ys := [.int .i64 k, .string t, .int .i64 n, .int .u32 a, .int .i64 b]) rfl rfl (by kernel_rfl) (by kernel_rfl) (by kernel_rfl) (c := false) (by rw [zgF]; rfl)) rfl ?_
  refine zab ⟨qK, ?_⟩
  refine zaf<| zai rfl<| zae<| zbf<| zaf<| tx<| wP (za4 (by first | exact IntWalk.i64_in _ (by omega) | rfl)) rfl ?_
  refine wM rfl<| zab<| zaf<| ⟨m - 1, qO, _, zaK id _ _ ?_ ?_ rfl, i + 1, qO, rfl⟩
  ·(repeat (first | exact trivial | (refine ⟨⟨(by first | rfl | (simp; done) | (simp; omega)), rfl⟩, ?_⟩)))
  ·exact trivial
 refine zaH<| zaa<| tx<| wA rfl<| zab<| zag<| yT ?_ ?_
 ·exact rfl
 ·exact trivial
theorem sameSets_s (l : List SE) (hn : l.length ≤ 1048576) : Fn prog 38 [.p (.sl l.length 5 (l.flatMap SE.pv)), .p (.sl l.length 5 (l.flatMap SE.pv))] (.p (.v (.bool true))) [] := by
 have hC := eqSets_s l hn
 clear hn
 generalize l.flatMap SE.pv = L at *
 generalize l.length = N at *
 refine zat func38 rfl (qE rfl) fun w0 A => zaa<| tx<| wA rfl<| zab<| zaa<| tx<| wM rfl<| wM rfl<| cS (fun n => 7 + 1000 * n) (hC) func61 ?_
 refine wA rfl<| zab<| zag<| yT ?_ ?_
 ·exact rfl
 ·exact trivial
end Go.Proofs.YtkdfdcodkeclmaaGreatDoor
/- stage.Copy, the law's sameStage, the law StageChecks, over data. -/
namespace Go.Proofs.YtkdfdcodkeclmaaGreatDoor
open Tryz
open Go.RowKit Go.Sort
set_option linter.unusedVariables false
set_option linter.unusedSimpArgs false
set_option maxRecDepth 100000
theorem sclone_s (l : List SE) (hn : l.length ≤ 1048576) : Fn prog 35 [.p (.sl l.length 5 (l.flatMap SE.pv))] (.row 0) [(0, .row 29 5 l.length (l.flatMap SE.pv))] := by
 have hL : (l.flatMap SE.pv).length = l.length * 5 := zaU (f := SE.pv) (k := 5) (fun _ => rfl) l
 by_cases h0 : l.length = 0
 ·obtain rfl : l = [] := List.eq_nil_of_length_eq_zero h0
  show Fn prog _ [.p (.sl 0 5 [])] (.row 0) [(0, .row 29 5 0 [])]
  refine zat func35 rfl (qE rfl) fun w0 A => zaa<| tx<| wA rfl<| zab<| zaa<| zaa<| tx<| wM rfl<| wP (a_seqX U35) rfl<| zab<| zaf<| awp_condX rfl ?_ ?_
  ·refine zaa<| tx<| wA rfl<| zab<| zaf<| zbn (zdy 2 100 29 5 rfl rfl)<| zag<| zau<| fT (fun _ => 100) (.tmp _ _ _ _ rfl .nil) ?_ ?_
   ·exact rfl
   ·exact ⟨⟨rfl, rfl⟩, trivial⟩
  ·refine zae<| zaa<| tx<| wG (zbR 5 U35 sz29) rfl<| wM rfl<| zah (zbe 7 U35 eo29 (zfx) (by simp only [maxLen]; omega) (by omega) rfl rfl) rfl rfl ⟨rfl, rfl, trivial⟩ ?_
   refine wP (zav (r := .row _)) rfl<| zab<| zag<| fT (fun _ => 7) (.tmp _ _ _ _ rfl .nil) ?_ ?_
   ·exact rfl
   ·exact ⟨⟨rfl, rfl⟩, trivial⟩
 ·generalize l.flatMap SE.pv = L at *
  generalize l.length = n at *
  refine zat func35 rfl (qE rfl) fun w0 A => zaa<| tx<| wA rfl<| zab<| zaa<| zaa<| tx<| wM rfl<| wP (a_seqS U35 qO) rfl<| zab<| zaf<| zap _ rfl (fun h => ?_) (fun h => ?_)
  ·cases h
  ·refine zae<| zaa<| tx<| wG (zbR 5 U35 sz29) rfl<| wM rfl<| zah (zbe 7 U35 eo29 (zfx) (by simp only [maxLen]; omega) (by omega) (show _ = n by omega) rfl) rfl rfl ⟨rfl, rfl, trivial⟩ ?_
   refine wP (zav (r := .row _)) rfl<| zab<| zag<| fT (fun _ => 7) (.tmp _ _ _ _ rfl .nil) ?_ ?_
   ·exact rfl
   ·exact ⟨⟨rfl, rfl⟩, trivial⟩
theorem sameStageP (lv : Bool) (P Q : PV) (key : ByteArray) (port : Int) (at_ : ByteArray) (err : Int) (hS : Fn prog 38 [.p P, .p P] (.p (.v (.bool true))) [])
  (hC : Fn prog 9 [.agg [.p (.v (.string key)), .p (.v (.int .i64 port)), .p Q], .agg [.p (.v (.string key)), .p (.v (.int .i64 port)), .p Q]] (.p (.v (.bool true))) []) :
  Fn prog 16 [.agg [.p (.v (.bool lv)), .p P, .p (.v (.string key)), .p (.v (.int .i64 port)), .p Q, .p (.v (.string at_)), .p (.v (.int .i64 err))], .agg [.p (.v (.bool lv)), .p P, .p (.v (.string key)), .p (.v (.int .i64 port)), .p Q, .p (.v (.string at_)), .p (.v (.int .i64 err))]] (.p (.v (.bool true))) [] := by
 refine zat func16 rfl (qE rfl) fun w0 A => zaa<| tx<| wG (zaJ (X := .agg _) 2 rfl) rfl<| wG (zaJ (X := .agg _) 3 rfl) rfl<| wA rfl<| zab<| zaa<| tx<| wF zfT rfl<| wL U4 rfl<| wF zfT rfl<| wL U4 rfl<| wP (a_beqlT U4) rfl<| wM rfl<| wF zci rfl<| wL U35 rfl<| wF zci rfl<| wL U35 rfl<| cS (fun n => 15 + 1000 * n) (hS) func38 ?_
 refine wP zao rfl<| wM rfl<| wF zch rfl<| wN U24 sz24 rfl ?_
 refine wF zch rfl<| wN U24 sz24 rfl ?_
 refine cS (fun n => 22 + 1000 * n) (hC) func9 ?_
 refine wP zao rfl<| wM rfl<| wF zdk rfl<| wL U9 rfl<| wF zdk rfl<| wL U9 rfl<| wP zf0 rfl<| wP zao rfl<| wM rfl<| wF zcB rfl<| wL U30 rfl<| wF zcB rfl<| wL U30 rfl<| wP za0 rfl<| wP zao rfl<| wA rfl<| zab<| zag<| yT ?_ ?_
 ·exact rfl
 ·exact trivial
end Go.Proofs.YtkdfdcodkeclmaaGreatDoor
