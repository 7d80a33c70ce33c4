/- A copied configuration, as data. -/
import Derived.Test.YtkdfdcodkeclmaaGreatDoorSAl2
import Derived.Test.YtkdfdcodkeclmaaGreatDoorSCf5
import Derived.Test.YtkdfdcodkeclmaaGreatDoorSAl3
import Derived.Test.YtkdfdcodkeclmaaGreatDoorSCf4
import Derived.Test.YtkdfdcodkeclmaaGreatDoorSSe
import Derived.Test.YtkdfdcodkeclmaaGreatDoorSBt2
namespace Go.Proofs.YtkdfdcodkeclmaaGreatDoor
open Go.RowKit Go.Sort
set_option linter.unusedVariables false
set_option linter.unusedSimpArgs false
set_option maxRecDepth 100000
theorem fn_dataC {P : Program} {f : FuncId} {args : List AV} {a b : PV} {e size n : Nat} {cs : List PV} (h : Fn P f args (.agg [.p a, .p b, .row 0]) [(0, .row e size n cs)]) : Fn P f args (.agg [.p a, .p b, .p (.sl n size cs)]) [] := by
 intro w A us hA hG hr
 refine (h w A us hA hG hr).mono fun en w' ⟨v, he, S', m', h1, h2⟩ => ⟨v, he, fun b => S' b ∨ ∃ v0, m' 0 = some v0 ∧ blk v0 = some b, fun _ => none, ?_, ?_⟩
 ·simp only [Rep, RepL] at h1 ⊢
  obtain ⟨us, rfl, ⟨u0, _, rfl, k0, u1, _, rfl, k1, u2, _, rfl, k2, rfl⟩, k3⟩ := h1
  have hs : ∀ b, S' b → (fun b => S' b ∨ ∃ v0, m' 0 = some v0 ∧ blk v0 = some b) b := fun b hb => .inl hb
  exact ⟨_, rfl, ⟨u0, _, rfl, PRep.mono hs (fun _ _ => rfl) _ _ k0, u1, _, rfl, PRep.mono hs (fun _ _ => rfl) _ _ k1, u2, _, rfl, zeS h2 hs rfl (fun v b hv hb => .inr ⟨v, hv, hb⟩) k2.1, rfl⟩, k3⟩
 ·refine ⟨h2.bel, ?_, ?_, fun o _ => rfl, fun o ob ho => (by cases ho), fun o o' ob ob' v v' b ho => (by cases ho), h2.gl⟩
  ·rintro b (hb | ⟨v0, h3, h4⟩)
   ·exact h2.sA b hb
   ·obtain ⟨v', k1, k2, _⟩ := h2.live 0 _ rfl
    rw [h3] at k1; cases k1
    exact .inr (k2.lt h4).1
  ·rintro b (hb | ⟨v0, h3, h4⟩)
   ·exact h2.sW b hb
   ·obtain ⟨v', k1, k2, _⟩ := h2.live 0 _ rfl
    rw [h3] at k1; cases k1
    exact (k2.lt h4).2
theorem cfCopyD_s (c : CF) (ok : c.OK) : Fn Tryz.prog 21 [.agg c.cells] (.agg c.cells) [] := fn_dataC (zds c ok)
theorem refCopyD_s (c : CF) (ok : c.OK) : Fn Tryz.prog 26 [.agg c.cells] (.agg c.cells) [] := fn_dataC (zbt c ok)
end Go.Proofs.YtkdfdcodkeclmaaGreatDoor
/- apply.Run and the reference's ApplyAll; the law ApplyRuns, over data. -/
namespace Go.Proofs.YtkdfdcodkeclmaaGreatDoor
open Go.RowKit Go.Sort
set_option linter.unusedVariables false
set_option linter.unusedSimpArgs false
set_option maxRecDepth 100000
end Go.Proofs.YtkdfdcodkeclmaaGreatDoor
/- A stage, typed, as data; stage.Check, the reference's StageFault. -/
namespace Go.Proofs.YtkdfdcodkeclmaaGreatDoor
open Tryz
open Go.RowKit Go.Sort
set_option linter.unusedVariables false
set_option linter.unusedSimpArgs false
set_option maxRecDepth 100000
/-- a stage -/
structure SG where
 lv : Bool
 rest : List SE
 c : CF
 at_ : ByteArray
 err : Int
def sgC (lv : Bool) (n : Nat) (R : List PV) (key : ByteArray) (port : Int) (m : Nat) (L : List PV) (at_ : ByteArray) (err : Int) : List AV :=
 [.p (.v (.bool lv)), .p (.sl n 5 R), .p (.v (.string key)), .p (.v (.int .i64 port)), .p (.sl m 5 L), .p (.v (.string at_)), .p (.v (.int .i64 err))]
def SG.cells (s : SG) : List AV := sgC s.lv s.rest.length (s.rest.flatMap SE.pv) s.c.key s.c.port s.c.ps.length (s.c.ps.flatMap PE.pv) s.at_ s.err
def SG.pv (s : SG) : List PV := [.v (.bool s.lv), .sl s.rest.length 5 (s.rest.flatMap SE.pv)] ++ s.c.pv ++ [.v (.string s.at_), .v (.int .i64 s.err)]
structure SG.OK (s : SG) : Prop where
 rest : ∀ x ∈ s.rest, x.OK
 len : s.rest.length ≤ 1048576
 c : s.c.OK
 az : s.at_.size ≤ 1048576
 kz : s.c.key.size ≤ 1048576
theorem SG.of_ty {n : Nat} {ps : List PV} (h : Ty prog (n + 8) 40 ps) (hb : PV.bdL 1048576 ps) : ∃ s : SG, s.OK ∧ ps = s.pv := by
 obtain ⟨_, rfl, x0, _, rfl, t0, x1, _, rfl, t1, x2, _, rfl, t2, x3, _, rfl, t3, x4, _, rfl, t4, rfl⟩ := zdd (ts := [4, 35, 24, 9, 30]) qK h
 obtain ⟨a0, rfl⟩ := ty_bool U4 t0
 obtain ⟨l, okl, hl, rfl⟩ := SE.list_ty t1 (zcK hb x1 qS)
 have hb2 := zcK hb x2 qS
 have hb3 := zcK hb x3 qS
 obtain ⟨c, okc, rfl⟩ := CF.of_ty t2 hb2
 obtain ⟨a3, rfl, _⟩ := zde U9 t3
 obtain ⟨a4, rfl, _⟩ := zdV U30 t4
 simp only [CF.pv, PV.bdL, PV.bd] at hb2 hb3
 exact ⟨⟨a0, l, c, a3, a4⟩, ⟨okl, hl, okc, hb3.1, hb2.1⟩, by simp [SG.pv]⟩
def seG (l : List SE) (i : Nat) : SE := l.getD i ⟨0, ⟨#[]⟩, 0, 0, 0⟩
theorem seG_at {l : List SE} {i : Nat} {p : SE} (h : l[i]? = some p) : seG l i = p := by unfold seG; rw [List.getD_eq_getElem?_getD, h]; rfl
def restE (l : List SE) : Int := fnz (fun i => seE (seG l i)) l.length
def sgE (s : SG) : Int :=
 if s.lv = false then (if 0 < s.rest.length ∨ s.at_ ≠ ⟨#[]⟩ ∨ s.err ≠ 0 ∨ s.c.key ≠ ⟨#[]⟩ ∨ s.c.port ≠ 0 ∨ 0 < s.c.ps.length then 14 else 0)
 else if cfE s.c ≠ 0 then cfE s.c else if 60 < s.rest.length then 1 else if restE s.rest ≠ 0 then restE s.rest
 else if (s.at_ ≠ ⟨#[]⟩ ∧ keyE s.at_ ≠ 0) ∨ s.err < 0 ∨ 14 < s.err then 4 else 0
set_option maxHeartbeats 4000000 in
theorem sgCheck_s (s : SG) (ok : s.OK) : Fn prog 33 [.agg s.cells] (.p (.v (.int .i64 (sgE s)))) [] := by
 obtain ⟨lv, rest, c, at_, err⟩ := s
 obtain ⟨okr, hl, okc, haz, hkz⟩ := ok
 dsimp only at okr hl okc haz hkz
 obtain ⟨E, hE⟩ : ∃ E, sgE ⟨lv, rest, c, at_, err⟩ = E := ⟨_, rfl⟩
 rw [hE]
 unfold sgE at hE
 dsimp only at hE
 have hCf := zcs c okc
 have hK := zco at_
 have hrE : restE rest = fnz (fun i => seE (seG rest i)) rest.length := rfl
 have hpl := okc.len
 generalize cfE c = ce at *
 generalize keyE at_ = k1 at *
 obtain ⟨key, port, ps⟩ := c
 dsimp only at hE hpl hkz
 change Fn prog _ [.agg [.p (.v (.string key)), .p (.v (.int .i64 port)), .p (.sl ps.length 5 (ps.flatMap PE.pv))]] _ _ at hCf
 show Fn prog _ [.agg (sgC lv rest.length (rest.flatMap SE.pv) key port ps.length (ps.flatMap PE.pv) at_ err)] _ _
 clear okc
 generalize ps.flatMap PE.pv = L at *
 generalize ps.length = M at *
 refine zat func33 rfl (qE rfl) fun w0 A => zaa<| tx<| wG (zaJ (X := .agg _) 1 rfl) rfl<| wA rfl<| zab<| zaa<| zaa<| tx<| wF zfT rfl<| wL U4 rfl<| wP zbb rfl<| zab<| zaf<| zap _ rfl (fun h => ?_) (fun h => ?_)
 ·have h0 : lv = false := by simpa using h
  clear h
  rw [if_pos h0] at hE
  refine zaa<| zaa<| tx<| wF zci rfl<| wL U35 rfl<| wP (za9 U35) rfl<| wP zbv rfl<| wM rfl<| mb2 _ rfl rfl (fun hb => (zaL zdk rfl)) (fun _ => trivial) ?_
  refine mb2 _ rfl rfl (fun hb => (zbd U9 rfl (by first | rfl | assumption))) (fun _ => ⟨rfl, trivial⟩) ?_
  refine mb2 _ rfl rfl (fun hb => zcX) (fun _ => trivial) ?_
  refine wP (a_or (by first | exact id | (simp; done) | grind)) rfl ?_
  refine wM rfl<| mb2 _ rfl rfl (fun hb => (zaL zcB rfl)) (fun _ => trivial) ?_
  refine mb2 _ rfl rfl (fun hb => (zbd U30 rfl (by first | rfl | assumption))) (fun _ => ⟨rfl, trivial⟩) ?_
  refine mb2 _ rfl rfl (fun hb => zbw) (fun _ => trivial) ?_
  refine wP (a_or (by first | exact id | (simp; done) | grind)) rfl ?_
  refine wM rfl<| mb2 _ rfl rfl (fun hb => (zaL zch rfl)) (fun _ => trivial) ?_
  refine mb2 _ rfl rfl (fun hb => (zaL zbD rfl)) (fun _ => trivial) ?_
  refine mb2 _ rfl rfl (fun hb => (zbd U9 rfl (by first | rfl | assumption))) (fun _ => ⟨rfl, trivial⟩) ?_
  refine mb2 _ rfl rfl (fun hb => zcX) (fun _ => trivial) ?_
  refine wP (a_or (by first | exact id | (simp; done) | grind)) rfl ?_
  refine wM rfl<| mb2 _ rfl rfl (fun hb => (zaL zch rfl)) (fun _ => trivial) ?_
  refine mb2 _ rfl rfl (fun hb => (zaL zdK rfl)) (fun _ => trivial) ?_
  refine mb2 _ rfl rfl (fun hb => (zbd U3 rfl (by first | rfl | assumption))) (fun _ => ⟨rfl, trivial⟩) ?_
  refine mb2 _ rfl rfl (fun hb => zbw) (fun _ => trivial) ?_
  refine wP (a_or (by first | exact id | (simp; done) | grind)) rfl ?_
  refine wM rfl<| mb2 _ rfl rfl (fun hb => (zaL zch rfl)) (fun _ => trivial) ?_
  refine mb2 _ rfl rfl (fun hb => (zaL zaI rfl)) (fun _ => trivial) ?_
  refine mb2 _ rfl rfl (fun hb => (zbd U22 rfl (by first | rfl | assumption))) (fun _ => ⟨rfl, trivial⟩) ?_
  refine mb2 _ rfl rfl (fun hb => (za9 U22)) (fun _ => trivial) ?_
  refine mb2 _ rfl rfl (fun hb => zbv) (fun _ => trivial) ?_
  refine wP (a_or (by first | exact id | (simp; done) | grind)) rfl ?_
  refine zab<| zaf<| zap _ rfl (fun h => ?_) (fun h => ?_)
  ·have h1 : 0 < rest.length ∨ at_ ≠ ⟨#[]⟩ ∨ err ≠ 0 ∨ key ≠ ⟨#[]⟩ ∨ port ≠ 0 ∨ 0 < M := by
    simp at h
    simp only [or_assoc] at h
    exact h
   rw [if_pos h1] at hE
   subst hE
   refine zaa<| tx<| wA rfl<| zab<| zag<| zau<| zau<| yT ?_ ?_
   ·exact rfl
   ·exact trivial
  ·have h1 : ¬ (0 < rest.length ∨ at_ ≠ ⟨#[]⟩ ∨ err ≠ 0 ∨ key ≠ ⟨#[]⟩ ∨ port ≠ 0 ∨ 0 < M) := by
    simp at h
    simp only [not_or]
    simp only [and_assoc] at h
    obtain ⟨q1, q2, q3, q4, q5, q6⟩ := h
    refine ⟨by simp [q1], by simpa using q2, by simpa using q3, by simpa using q4, by simpa using q5, by omega⟩
   rw [if_neg h1] at hE
   subst hE
   refine zae<| zaa<| tx<| wA rfl<| zab<| zag<| zau<| yT ?_ ?_
   ·exact rfl
   ·exact trivial
 have h0 : ¬ lv = false := by simpa using h
 clear h
 rw [if_neg h0] at hE
 refine zae<| zaa<| zaa<| tx<| wF zch rfl<| wN U24 sz24 rfl ?_
 refine cS (fun n => 45 + 1000 * n) (hCf) F19 ?_
 refine wA rfl<| zab<| zaa<| tx<| wM rfl<| wP zbw rfl<| zab<| zaf<| zap _ rfl (fun h => ?_) (fun h => ?_)
 ·have h1 : ce ≠ 0 := by simpa using h
  rw [if_pos h1] at hE
  subst hE
  refine zaa<| tx<| wM rfl<| wA rfl<| zab<| zag<| zau<| yT ?_ ?_
  ·exact rfl
  ·exact trivial
 have h1 : ce = 0 := by simpa using h
 clear h
 rw [if_neg (by simp [h1])] at hE
 refine zae<| zaa<| zaa<| tx<| wF zci rfl<| wL U35 rfl<| wP (za9 U35) rfl<| wP zbv rfl<| zab<| zaf<| zap _ rfl (fun h => ?_) (fun h => ?_)
 ·have h2 : 60 < rest.length := by simp at h; omega
  rw [if_pos h2] at hE
  subst hE
  refine zaa<| tx<| wA rfl<| zab<| zag<| zau<| yT ?_ ?_
  ·exact rfl
  ·exact trivial
 have h2 : ¬ 60 < rest.length := by simp at h; omega
 clear h
 rw [if_neg h2] at hE
 refine zae<| zaa<| zaa<| tx<| wF zci rfl<| wL U35 rfl<| wP (za9 U35) rfl<| wM rfl<| zab<| zak<| zaM (fun m st => ∃ i : Nat, m + i = rest.length ∧ (∀ j, j < i → seE (seG rest j) = 0) ∧ st = St.of [(1, .ref 1 0), (54, .p (.sl rest.length 5 (rest.flatMap SE.pv))), (55, .p (.v (.int .i64 rest.length))), (56, .p (.v (.int .i64 i)))] [(1, .box 40 (sgC lv rest.length (rest.flatMap SE.pv) key port M L at_ err))]) rest.length ?_ ?_
 ·refine ⟨_, zaK id _ _ ?_ ?_ rfl, 0, qO, qO, rfl⟩
  ·(repeat (first | exact trivial | (refine ⟨⟨(by first | rfl | (simp; done) | (simp; omega)), rfl⟩, ?_⟩)))
  ·exact ⟨⟨rfl, rfl⟩, trivial⟩
 rintro m st ⟨i, hi, hf, rfl⟩
 refine zaa<| tx<| wP za8 rfl<| zab<| zaa<| zap _ rfl (fun h => ?_) (fun h => ?_)
 ·have hlt : i < rest.length := by simp at h; omega
  clear h
  obtain ⟨x, hx⟩ : ∃ x, rest[i]? = some x := ⟨rest[i], List.getElem?_eq_getElem hlt⟩
  have hch := zaW (f := SE.pv) (k := 5) (fun _ => rfl) hx
  have hle := zaV (f := SE.pv) (k := 5) (fun _ => rfl) hlt
  have hC := zej x (okr x (List.mem_of_getElem? hx))
  have hhit := @zef (fun i => seE (seG rest i)) i rest.length hf hlt
  have hgx : seE (seG rest i) = seE x := by rw [seG_at hx]
  generalize rest.flatMap SE.pv = R at *
  generalize seE x = e at *
  obtain ⟨xk, xt, xn, xa, xb⟩ := x
  change Fn prog _ [.agg [.p (.v (.int .i64 xk)), .p (.v (.string xt)), .p (.v (.int .i64 xn)), .p (.v (.int .u32 xa)), .p (.v (.int .i64 xb))]] _ _ at hC
  refine zae<| zaa<| zak<| zaa<| tx<| wP (zaA U35 sz29 qO qO rfl) rfl<| wP (zaR U29 rfl sz29 (by first | omega | (simp; done) | (simp; omega)) (hch)) rfl ?_
  refine wG (zaE 5 zr29 rfl) rfl<| wG (zar (Y := .agg [.p (.v (.int .i64 xk)), .p (.v (.string xt)), .p (.v (.int .i64 xn)), .p (.v (.int .u32 xa)), .p (.v (.int .i64 xb))]) sz29 rfl rfl (Nat.eq_of_beq_eq_true rfl)) rfl<| zab<| zaa<| tx<| wN U29 sz29 rfl ?_
  refine yV (fun n => 61 + 1000 * n) (hC) F20 ?_
  refine wA rfl<| zab<| zaa<| tx<| wM rfl<| wP zbw rfl<| zab<| zaf<| zap _ rfl (fun h => ?_) (fun h => ?_)
  ·have h7 : e ≠ 0 := by simpa using h
   rw [hrE, hhit (by rw [hgx]; exact h7), hgx, if_pos h7] at hE
   subst hE
   refine zaa<| tx<| wM rfl<| wA rfl<| zab<| zag<| zaY<| zau<| zau<| zaY<| zau<| yT ?_ ?_
   ·exact rfl
   ·exact trivial
  have h7 : e = 0 := by simpa using h
  clear h
  refine zae<| zbf<| zaf<| tx<| wP (za4 (by first | exact IntWalk.i64_in _ (by omega) | rfl)) rfl ?_
  refine wM rfl<| zab<| zaf<| ⟨m - 1, qO, _, zaK id _ _ ?_ ?_ rfl, i + 1, qO, fun q hq => ?_, rfl⟩
  ·(repeat (first | exact trivial | (refine ⟨⟨(by first | rfl | (simp; done) | (simp; omega)), rfl⟩, ?_⟩)))
  ·exact ⟨⟨rfl, rfl⟩, trivial⟩
  ·by_cases eq : q = i
   ·rw [eq, hgx]; exact h7
   ·exact hf q qO
 have hge : i = rest.length := by simp at h; omega
 clear h
 subst hge
 rw [hrE, zfd hf, if_neg (by simp)] at hE
 clear hf hrE
 refine zaH<| zaa<| zaa<| tx<| wF zdk rfl<| wL U9 rfl<| wP zcX rfl<| wM rfl<| mb2 _ rfl rfl (fun hb => (zaL zdk rfl)) (fun _ => trivial) ?_
 refine mb2 _ rfl rfl (fun hb => (zbd U9 rfl (by first | rfl | assumption))) (fun _ => ⟨rfl, trivial⟩) ?_
 refine mb2 _ rfl rfl (fun _ => zfr F41 rfl rfl (hK) (by first | rfl | simp [AV.okInL, AV.okIn, zan]) rfl) (fun _ => trivial) ?_
 refine mb2 _ rfl rfl (fun hb => zbw) (fun _ => trivial) ?_
 refine wP (zgO (by first | exact id | (simp; done) | grind)) rfl ?_
 refine wM rfl<| mb2 _ rfl rfl (fun hb => (zaL zcB rfl)) (fun _ => trivial) ?_
 refine mb2 _ rfl rfl (fun hb => (zbd U30 rfl (by first | rfl | assumption))) (fun _ => ⟨rfl, trivial⟩) ?_
 refine mb2 _ rfl rfl (fun hb => za8) (fun _ => trivial) ?_
 refine wP (a_or (by first | exact id | (simp; done) | grind)) rfl ?_
 refine wM rfl<| mb2 _ rfl rfl (fun hb => (zaL zcB rfl)) (fun _ => trivial) ?_
 refine mb2 _ rfl rfl (fun hb => (zbd U30 rfl (by first | rfl | assumption))) (fun _ => ⟨rfl, trivial⟩) ?_
 refine mb2 _ rfl rfl (fun hb => zbv) (fun _ => trivial) ?_
 refine wP (a_or (by first | exact id | (simp; done) | grind)) rfl ?_
 refine zab<| zaf<| zap _ rfl (fun h => ?_) (fun h => ?_)
 ·have h9 : (at_ ≠ ⟨#[]⟩ ∧ k1 ≠ 0) ∨ err < 0 ∨ 14 < err := by
   simp at h
   rcases h with (q | q) | q
   ·exact .inl q
   ·exact .inr (.inl q)
   ·exact .inr (.inr q)
  rw [if_pos h9] at hE
  subst hE
  refine zaa<| tx<| wA rfl<| zab<| zag<| zau<| yT ?_ ?_
  ·exact rfl
  ·exact trivial
 ·have h9 : ¬ ((at_ ≠ ⟨#[]⟩ ∧ k1 ≠ 0) ∨ err < 0 ∨ 14 < err) := by
   simp at h
   obtain ⟨⟨q1, q2⟩, q3⟩ := h
   rintro (⟨p1, p2⟩ | p | p)
   ·exact p2 (q1 p1)
   ·omega
   ·omega
  rw [if_neg h9] at hE
  subst hE
  refine zae<| zaa<| tx<| wA rfl<| zab<| zag<| yT ?_ ?_
  ·exact rfl
  ·exact trivial
end Go.Proofs.YtkdfdcodkeclmaaGreatDoor
