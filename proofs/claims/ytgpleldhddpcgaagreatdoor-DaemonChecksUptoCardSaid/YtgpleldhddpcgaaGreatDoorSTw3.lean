/- A stage, typed, as data; stage.Check, the reference's StageFault. -/
import Derived.Test.YtgpleldhddpcgaaGreatDoorSSe
import Derived.Test.YtgpleldhddpcgaaGreatDoorSBt2
import Derived.Test.YtgpleldhddpcgaaGreatDoorSTw2
import Derived.Test.YtgpleldhddpcgaaGreatDoorSNetY
namespace Go.Proofs.YtgpleldhddpcgaaGreatDoor
open Go.RowKit Go.Sort
set_option linter.unusedVariables false
set_option linter.unusedSimpArgs false
set_option maxRecDepth 100000
/-- a stage -/
structure SG where
 lv : Bool
 rest : List SE
 c : CF
 at_ : ByteArray
 err : Int
def sgC (lv : Bool) (n : Nat) (R : List PV) (key : ByteArray) (port : Int) (m : Nat) (L : List PV) (at_ : ByteArray) (err : Int) : List AV :=
 [.p (.v (.bool lv)), .p (.sl n 5 R), .p (.v (.string key)), .p (.v (.int .i64 port)), .p (.sl m 5 L), .p (.v (.string at_)), .p (.v (.int .i64 err))]
def SG.cells (s : SG) : List AV := sgC s.lv s.rest.length (s.rest.flatMap SE.pv) s.c.key s.c.port s.c.ps.length (s.c.ps.flatMap PE.pv) s.at_ s.err
def SG.pv (s : SG) : List PV := [.v (.bool s.lv), .sl s.rest.length 5 (s.rest.flatMap SE.pv)] ++ s.c.pv ++ [.v (.string s.at_), .v (.int .i64 s.err)]
structure SG.OK (s : SG) : Prop where
 rest : ∀ x ∈ s.rest, x.OK
 len : s.rest.length ≤ 1048576
 c : s.c.OK
 az : s.at_.size ≤ 1048576
 kz : s.c.key.size ≤ 1048576
theorem SG.of_ty {n : Nat} {ps : List PV} (h : Ty Tryz.prog (n + 8) 35 ps) (hb : PV.bdL 1048576 ps) : ∃ s : SG, s.OK ∧ ps = s.pv := by
 obtain ⟨_, rfl, x0, _, rfl, t0, x1, _, rfl, t1, x2, _, rfl, t2, x3, _, rfl, t3, x4, _, rfl, t4, rfl⟩ := zbv (ts := [4, 33, 24, 9, 26]) (by kernel_rfl) h
 obtain ⟨a0, rfl⟩ := zfT Tryz.underlying4 t0
 obtain ⟨l, okl, hl, rfl⟩ := SE.list_ty t1 (zbD hb x1 (by simp))
 have hb2 := zbD hb x2 (by simp)
 have hb3 := zbD hb x3 (by simp)
 obtain ⟨c, okc, rfl⟩ := CF.of_ty t2 hb2
 obtain ⟨a3, rfl, _⟩ := zbS Tryz.underlying9 t3
 obtain ⟨a4, rfl, _⟩ := zbM Tryz.underlying26 t4
 simp only [CF.pv, PV.bdL, PV.bd] at hb2 hb3
 exact ⟨⟨a0, l, c, a3, a4⟩, ⟨okl, hl, okc, hb3.1, hb2.1⟩, by simp [SG.pv]⟩
def seG (l : List SE) (i : Nat) : SE := l.getD i ⟨0, ⟨#[]⟩, 0, 0, 0⟩
theorem seG_at {l : List SE} {i : Nat} {p : SE} (h : l[i]? = some p) : seG l i = p := by unfold seG; rw [List.getD_eq_getElem?_getD, h]; rfl
def restE (l : List SE) : Int := fnz (fun i => seE (seG l i)) l.length
def sgE (s : SG) : Int :=
 if s.lv = false then (if 0 < s.rest.length ∨ s.at_ ≠ ⟨#[]⟩ ∨ s.err ≠ 0 ∨ s.c.key ≠ ⟨#[]⟩ ∨ s.c.port ≠ 0 ∨ 0 < s.c.ps.length then 14 else 0)
 else if cfE s.c ≠ 0 then cfE s.c else if 60 < s.rest.length then 1 else if restE s.rest ≠ 0 then restE s.rest
 else if (s.at_ ≠ ⟨#[]⟩ ∧ keyE s.at_ ≠ 0) ∨ s.err < 0 ∨ 14 < s.err then 4 else 0
set_option maxHeartbeats 4000000 in
theorem sgCheck_s (s : SG) (ok : s.OK) : Fn Tryz.prog 36 [.agg s.cells] (.p (.v (.int .i64 (sgE s)))) [] := by
 obtain ⟨lv, rest, c, at_, err⟩ := s
 obtain ⟨okr, hl, okc, haz, hkz⟩ := ok
 dsimp only at okr hl okc haz hkz
 obtain ⟨E, hE⟩ : ∃ E, sgE ⟨lv, rest, c, at_, err⟩ = E := ⟨_, rfl⟩
 rw [hE]
 unfold sgE at hE
 dsimp only at hE
 have hCf := zgr c okc
 have hK := zb0 at_
 have hrE : restE rest = fnz (fun i => seE (seG rest i)) rest.length := rfl
 have hpl := okc.len
 generalize cfE c = ce at *
 generalize keyE at_ = k1 at *
 obtain ⟨key, port, ps⟩ := c
 dsimp only at hE hpl hkz
 change Fn Tryz.prog _ [.agg [.p (.v (.string key)), .p (.v (.int .i64 port)), .p (.sl ps.length 5 (ps.flatMap PE.pv))]] _ _ at hCf
 show Fn Tryz.prog _ [.agg (sgC lv rest.length (rest.flatMap SE.pv) key port ps.length (ps.flatMap PE.pv) at_ err)] _ _
 clear okc
 generalize ps.flatMap PE.pv = L at *
 generalize ps.length = M at *
 refine zap Tryz.func36 rfl (Nat.le_of_ble_eq_true rfl) fun w0 A => ?_
 refine zaa ?_
 refine tx ?_
 refine zal (za2 (X := .agg _) 1 rfl) rfl rfl ⟨rfl, trivial⟩ ?_
 refine yA ?_
 refine zab ?_
 refine zaa (zaa ?_)
 refine tx ?_
 refine yF zgS ?_
 refine yL Tryz.underlying4 ?_
 refine yP za0 ?_
 refine zab ?_
 refine zae ?_
 refine zah _ rfl (fun h => ?_) (fun h => ?_)
 ·have h0 : lv = false := by simpa using h
  clear h
  rw [if_pos h0] at hE
  refine zaa (zaa ?_)
  refine tx ?_
  refine yF zc7 ?_
  refine yL Tryz.underlying33 ?_
  refine yP (zaC Tryz.underlying33) ?_
  refine yP za5 ?_
  refine yM ?_
  refine mb2 _ rfl rfl (fun hb => (zag zdO rfl)) (fun _ => trivial) ?_
  refine mb2 _ rfl rfl (fun hb => (zat Tryz.underlying9 rfl (by first | rfl | assumption))) (fun _ => ⟨rfl, trivial⟩) ?_
  refine mb2 _ rfl rfl (fun hb => zb2) (fun _ => trivial) ?_
  refine zac (a_or (by first | exact id | (simp; done) | grind)) rfl rfl ?_
  refine yM ?_
  refine mb2 _ rfl rfl (fun hb => (zag zdN rfl)) (fun _ => trivial) ?_
  refine mb2 _ rfl rfl (fun hb => (zat Tryz.underlying26 rfl (by first | rfl | assumption))) (fun _ => ⟨rfl, trivial⟩) ?_
  refine mb2 _ rfl rfl (fun hb => za8) (fun _ => trivial) ?_
  refine zac (a_or (by first | exact id | (simp; done) | grind)) rfl rfl ?_
  refine yM ?_
  refine mb2 _ rfl rfl (fun hb => (zag zcD rfl)) (fun _ => trivial) ?_
  refine mb2 _ rfl rfl (fun hb => (zag zbo rfl)) (fun _ => trivial) ?_
  refine mb2 _ rfl rfl (fun hb => (zat Tryz.underlying9 rfl (by first | rfl | assumption))) (fun _ => ⟨rfl, trivial⟩) ?_
  refine mb2 _ rfl rfl (fun hb => zb2) (fun _ => trivial) ?_
  refine zac (a_or (by first | exact id | (simp; done) | grind)) rfl rfl ?_
  refine yM ?_
  refine mb2 _ rfl rfl (fun hb => (zag zcD rfl)) (fun _ => trivial) ?_
  refine mb2 _ rfl rfl (fun hb => (zag zdP rfl)) (fun _ => trivial) ?_
  refine mb2 _ rfl rfl (fun hb => (zat Tryz.underlying3 rfl (by first | rfl | assumption))) (fun _ => ⟨rfl, trivial⟩) ?_
  refine mb2 _ rfl rfl (fun hb => za8) (fun _ => trivial) ?_
  refine zac (a_or (by first | exact id | (simp; done) | grind)) rfl rfl ?_
  refine yM ?_
  refine mb2 _ rfl rfl (fun hb => (zag zcD rfl)) (fun _ => trivial) ?_
  refine mb2 _ rfl rfl (fun hb => (zag zbO rfl)) (fun _ => trivial) ?_
  refine mb2 _ rfl rfl (fun hb => (zat Tryz.underlying22 rfl (by first | rfl | assumption))) (fun _ => ⟨rfl, trivial⟩) ?_
  refine mb2 _ rfl rfl (fun hb => (zaC Tryz.underlying22)) (fun _ => trivial) ?_
  refine mb2 _ rfl rfl (fun hb => za5) (fun _ => trivial) ?_
  refine zac (a_or (by first | exact id | (simp; done) | grind)) rfl rfl ?_
  refine zab ?_
  refine zae ?_
  refine zah _ rfl (fun h => ?_) (fun h => ?_)
  ·have h1 : 0 < rest.length ∨ at_ ≠ ⟨#[]⟩ ∨ err ≠ 0 ∨ key ≠ ⟨#[]⟩ ∨ port ≠ 0 ∨ 0 < M := by
    simp at h
    simp only [or_assoc] at h
    exact h
   rw [if_pos h1] at hE
   subst hE
   refine zaa ?_
   refine tx ?_
   refine yA ?_
   refine zab ?_
   refine zaf (zam (zam ?_))
   refine yT ?_ ?_
   ·exact rfl
   ·exact trivial
  ·have h1 : ¬ (0 < rest.length ∨ at_ ≠ ⟨#[]⟩ ∨ err ≠ 0 ∨ key ≠ ⟨#[]⟩ ∨ port ≠ 0 ∨ 0 < M) := by
    simp at h
    simp only [not_or]
    simp only [and_assoc] at h
    obtain ⟨q1, q2, q3, q4, q5, q6⟩ := h
    refine ⟨by simp [q1], by simpa using q2, by simpa using q3, by simpa using q4, by simpa using q5, by omega⟩
   rw [if_neg h1] at hE
   subst hE
   refine zad (zaa ?_)
   refine tx ?_
   refine yA ?_
   refine zab ?_
   refine zaf (zam ?_)
   refine yT ?_ ?_
   ·exact rfl
   ·exact trivial
 have h0 : ¬ lv = false := by simpa using h
 clear h
 rw [if_neg h0] at hE
 refine zad (zaa (zaa ?_))
 refine tx ?_
 refine yF zcD ?_
 refine lN Tryz.underlying24 rfl sz24 rfl rfl ⟨rfl, trivial⟩ ?_
 refine cS (fun n => 45 + 1000 * n) (hCf) Tryz.func20 ?_
 refine yA ?_
 refine zab ?_
 refine zaa ?_
 refine tx ?_
 refine yM ?_
 refine yP za8 ?_
 refine zab ?_
 refine zae ?_
 refine zah _ rfl (fun h => ?_) (fun h => ?_)
 ·have h1 : ce ≠ 0 := by simpa using h
  rw [if_pos h1] at hE
  subst hE
  refine zaa ?_
  refine tx ?_
  refine yM ?_
  refine yA ?_
  refine zab ?_
  refine zaf (zam ?_)
  refine yT ?_ ?_
  ·exact rfl
  ·exact trivial
 have h1 : ce = 0 := by simpa using h
 clear h
 rw [if_neg (by simp [h1])] at hE
 refine zad (zaa (zaa ?_))
 refine tx ?_
 refine yF zc7 ?_
 refine yL Tryz.underlying33 ?_
 refine yP (zaC Tryz.underlying33) ?_
 refine yP za5 ?_
 refine zab ?_
 refine zae ?_
 refine zah _ rfl (fun h => ?_) (fun h => ?_)
 ·have h2 : 60 < rest.length := by simp at h; omega
  rw [if_pos h2] at hE
  subst hE
  refine zaa ?_
  refine tx ?_
  refine yA ?_
  refine zab ?_
  refine zaf (zam ?_)
  refine yT ?_ ?_
  ·exact rfl
  ·exact trivial
 have h2 : ¬ 60 < rest.length := by simp at h; omega
 clear h
 rw [if_neg h2] at hE
 refine zad (zaa (zaa ?_))
 refine tx ?_
 refine yF zc7 ?_
 refine yL Tryz.underlying33 ?_
 refine yP (zaC Tryz.underlying33) ?_
 refine yM ?_
 refine zab ?_
 refine zaj ?_
 refine zaE (fun m st => ∃ i : Nat, m + i = rest.length ∧ (∀ j, j < i → seE (seG rest j) = 0) ∧ st = St.of [(1, .ref 1 0), (54, .p (.sl rest.length 5 (rest.flatMap SE.pv))), (55, .p (.v (.int .i64 rest.length))), (56, .p (.v (.int .i64 i)))] [(1, .box 35 (sgC lv rest.length (rest.flatMap SE.pv) key port M L at_ err))]) rest.length ?_ ?_
 ·refine ⟨_, zaJ id _ _ ?_ ?_ rfl, 0, by omega, by omega, rfl⟩
  ·(repeat (first | exact trivial | (refine ⟨⟨(by first | rfl | (simp; done) | (simp; omega)), rfl⟩, ?_⟩)))
  ·exact ⟨⟨rfl, rfl⟩, trivial⟩
 rintro m st ⟨i, hi, hf, rfl⟩
 refine zaa ?_
 refine tx ?_
 refine yP zaX ?_
 refine zab ?_
 refine zaa ?_
 refine zah _ rfl (fun h => ?_) (fun h => ?_)
 ·have hlt : i < rest.length := by simp at h; omega
  clear h
  obtain ⟨x, hx⟩ : ∃ x, rest[i]? = some x := ⟨rest[i], List.getElem?_eq_getElem hlt⟩
  have hch := zaN (f := SE.pv) (k := 5) (fun _ => rfl) hx
  have hle := zaP (f := SE.pv) (k := 5) (fun _ => rfl) hlt
  have hC := check_s x (okr x (List.mem_of_getElem? hx))
  have hhit := @zb9 (fun i => seE (seG rest i)) i rest.length hf hlt
  have hgx : seE (seG rest i) = seE x := by rw [seG_at hx]
  generalize rest.flatMap SE.pv = R at *
  generalize seE x = e at *
  obtain ⟨xk, xt, xn, xa, xb⟩ := x
  change Fn Tryz.prog _ [.agg [.p (.v (.int .i64 xk)), .p (.v (.string xt)), .p (.v (.int .i64 xn)), .p (.v (.int .u32 xa)), .p (.v (.int .i64 xb))]] _ _ at hC
  refine zad (zaa (zaj (zaa ?_)))
  refine tx ?_
  refine zac (zao Tryz.underlying33 sz86 (by omega) (by omega) rfl) rfl rfl ?_
  refine zac (zaz Tryz.underlying86 rfl sz86 (by first | omega | (simp; done) | (simp; omega)) (hch)) rfl rfl ?_
  refine zal (zaU 5 zr86 rfl) rfl rfl ⟨rfl, trivial⟩ ?_
  refine zal (zaA (Y := .agg [.p (.v (.int .i64 xk)), .p (.v (.string xt)), .p (.v (.int .i64 xn)), .p (.v (.int .u32 xa)), .p (.v (.int .i64 xb))]) sz86 rfl rfl (Nat.eq_of_beq_eq_true rfl)) rfl rfl ⟨rfl, trivial⟩ ?_
  refine zab ?_
  refine zaa ?_
  refine tx ?_
  refine lN Tryz.underlying86 rfl sz86 rfl rfl ⟨rfl, trivial⟩ ?_
  refine yV (fun n => 61 + 1000 * n) (hC) Tryz.func82 ?_
  refine yA ?_
  refine zab ?_
  refine zaa ?_
  refine tx ?_
  refine yM ?_
  refine yP za8 ?_
  refine zab ?_
  refine zae ?_
  refine zah _ rfl (fun h => ?_) (fun h => ?_)
  ·have h7 : e ≠ 0 := by simpa using h
   rw [hrE, hhit (by rw [hgx]; exact h7), hgx, if_pos h7] at hE
   subst hE
   refine zaa ?_
   refine tx ?_
   refine yM ?_
   refine yA ?_
   refine zab ?_
   refine zaf (zaK (zam (zam (zaK (zam ?_)))))
   refine yT ?_ ?_
   ·exact rfl
   ·exact trivial
  have h7 : e = 0 := by simpa using h
  clear h
  refine zad (za3 (zae ?_))
  refine tx ?_
  refine zac (za4 (by first | exact IntWalk.i64_in _ (by omega) | rfl)) rfl rfl ?_
  refine yM ?_
  refine zab ?_
  refine zae ?_
  refine ⟨m - 1, by omega, _, zaJ id _ _ ?_ ?_ rfl, i + 1, by omega, fun q hq => ?_, rfl⟩
  ·(repeat (first | exact trivial | (refine ⟨⟨(by first | rfl | (simp; done) | (simp; omega)), rfl⟩, ?_⟩)))
  ·exact ⟨⟨rfl, rfl⟩, trivial⟩
  ·by_cases eq : q = i
   ·rw [eq, hgx]; exact h7
   ·exact hf q (by omega)
 have hge : i = rest.length := by simp at h; omega
 clear h
 subst hge
 rw [hrE, zcB hf, if_neg (by simp)] at hE
 clear hf hrE
 refine zaG (zaa (zaa ?_))
 refine tx ?_
 refine yF zdO ?_
 refine yL Tryz.underlying9 ?_
 refine yP zb2 ?_
 refine yM ?_
 refine mb2 _ rfl rfl (fun hb => (zag zdO rfl)) (fun _ => trivial) ?_
 refine mb2 _ rfl rfl (fun hb => (zat Tryz.underlying9 rfl (by first | rfl | assumption))) (fun _ => ⟨rfl, trivial⟩) ?_
 refine mb2 _ rfl rfl (fun _ => zbd Tryz.func53 rfl rfl (hK) (by first | rfl | simp [AV.okInL, AV.okIn, zaZ]) rfl) (fun _ => trivial) ?_
 refine mb2 _ rfl rfl (fun hb => za8) (fun _ => trivial) ?_
 refine zac (zbl (by first | exact id | (simp; done) | grind)) rfl rfl ?_
 refine yM ?_
 refine mb2 _ rfl rfl (fun hb => (zag zdN rfl)) (fun _ => trivial) ?_
 refine mb2 _ rfl rfl (fun hb => (zat Tryz.underlying26 rfl (by first | rfl | assumption))) (fun _ => ⟨rfl, trivial⟩) ?_
 refine mb2 _ rfl rfl (fun hb => zaX) (fun _ => trivial) ?_
 refine zac (a_or (by first | exact id | (simp; done) | grind)) rfl rfl ?_
 refine yM ?_
 refine mb2 _ rfl rfl (fun hb => (zag zdN rfl)) (fun _ => trivial) ?_
 refine mb2 _ rfl rfl (fun hb => (zat Tryz.underlying26 rfl (by first | rfl | assumption))) (fun _ => ⟨rfl, trivial⟩) ?_
 refine mb2 _ rfl rfl (fun hb => za5) (fun _ => trivial) ?_
 refine zac (a_or (by first | exact id | (simp; done) | grind)) rfl rfl ?_
 refine zab ?_
 refine zae ?_
 refine zah _ rfl (fun h => ?_) (fun h => ?_)
 ·have h9 : (at_ ≠ ⟨#[]⟩ ∧ k1 ≠ 0) ∨ err < 0 ∨ 14 < err := by
   simp at h
   rcases h with (q | q) | q
   ·exact .inl q
   ·exact .inr (.inl q)
   ·exact .inr (.inr q)
  rw [if_pos h9] at hE
  subst hE
  refine zaa ?_
  refine tx ?_
  refine yA ?_
  refine zab ?_
  refine zaf (zam ?_)
  refine yT ?_ ?_
  ·exact rfl
  ·exact trivial
 ·have h9 : ¬ ((at_ ≠ ⟨#[]⟩ ∧ k1 ≠ 0) ∨ err < 0 ∨ 14 < err) := by
   simp at h
   obtain ⟨⟨q1, q2⟩, q3⟩ := h
   rintro (⟨p1, p2⟩ | p | p)
   ·exact p2 (q1 p1)
   ·omega
   ·omega
  rw [if_neg h9] at hE
  subst hE
  refine zad (zaa ?_)
  refine tx ?_
  refine yA ?_
  refine zab ?_
  refine zaf ?_
  refine yT ?_ ?_
  ·exact rfl
  ·exact trivial
end Go.Proofs.YtgpleldhddpcgaaGreatDoor
/- trie: a tree, its check, its list, putting. -/
namespace Go.Proofs.YtgpleldhddpcgaaGreatDoor
open Go.RowKit Go.Sort
set_option linter.unusedVariables false
set_option linter.unusedSimpArgs false
set_option maxRecDepth 100000
def rootRes : Option (TR × List ND) → TR
 | none => .nil
 | some (t, _) => t
theorem tree_s (l : List ND) (hok : ∀ x ∈ l, x.OK) (hz : l.length ≤ 4611686018427387904) : Fn Tryz.prog 59 [.p (ndsV l)] (.p (trP (rootRes (zcW l.length l)))) [] := by
 have hg := grow_s l.length l (Nat.le_refl _) hok hz
 cases hq : zcW l.length l with
 | none =>
  rw [hq] at hg
  replace hg : Fn Tryz.prog 96 [.p (ndsV l)] (.tup [.p (.v (.pointer none)), .p (.v (.slice none 0 0)), .p (.v (.bool false))]) [] := hg
  refine zap Tryz.func59 rfl (Nat.le_of_ble_eq_true rfl) fun w0 A => ?_
  refine zaa ?_
  refine tx ?_
  refine yA ?_
  refine zab ?_
  refine zaa ?_
  refine tx ?_
  refine yM ?_
  refine cS (fun n => 8 + 1000 * n) (hg) Tryz.func96 ?_
  refine yP (zaq (r := .tup _)) ?_
  refine yP (zar rfl) ?_
  refine yP (zar rfl) ?_
  refine yP (zar rfl) ?_
  refine yA ?_
  refine yA ?_
  refine yA ?_
  refine zab ?_
  refine zaa ?_
  refine tx ?_
  refine yM ?_
  refine yA ?_
  refine zab ?_
  refine zaf ?_
  refine yT ?_ ?_
  ·exact rfl
  ·exact trivial
 | some r =>
  obtain ⟨t, rest⟩ := r
  rw [hq] at hg
  replace hg : Fn Tryz.prog 96 [.p (ndsV l)] (.tup [.p (trP t), .p (ndsV rest), .p (.v (.bool true))]) [] := hg
  refine zap Tryz.func59 rfl (Nat.le_of_ble_eq_true rfl) fun w0 A => ?_
  refine zaa ?_
  refine tx ?_
  refine yA ?_
  refine zab ?_
  refine zaa ?_
  refine tx ?_
  refine yM ?_
  refine cS (fun n => 8 + 1000 * n) (hg) Tryz.func96 ?_
  refine yP (zaq (r := .tup _)) ?_
  refine yP (zar rfl) ?_
  refine yP (zar rfl) ?_
  refine yP (zar rfl) ?_
  refine yA ?_
  refine yA ?_
  refine yA ?_
  refine zab ?_
  refine zaa ?_
  refine tx ?_
  refine yM ?_
  refine yA ?_
  refine zab ?_
  refine zaf ?_
  refine yT ?_ ?_
  ·exact rfl
  ·exact trivial
def zd4 : List ND → Int
 | [] => 0
 | x :: l => if x.fault ≠ 0 then x.fault else zd4 l
def endsB : Option (TR × List ND) → Bool
 | some (_, []) => true
 | _ => false
def zfD (l : List ND) : Int := if zd4 l ≠ 0 then zd4 l else if l = [] then 0 else if endsB (zcW l.length l) = true then 0 else 14
theorem faultL_at : ∀ {l : List ND} {i : Nat} {x : ND}, l[i]? = some x → (∀ j, j < i → ∀ y, l[j]? = some y → y.fault = 0) → x.fault ≠ 0 → zd4 l = x.fault
 | [], i, x, h, _, _ => by simp at h
 | y :: l, 0, x, h, _, hx => by simp at h; subst h; rw [zd4, if_pos hx]
 | y :: l, i + 1, x, h, hj, hx => by
  have h0 := hj 0 (by omega) y (by simp)
  rw [zd4, if_neg (by simp [h0])]
  exact faultL_at (i := i) (by simpa using h) (fun j hj' z hz => hj (j + 1) (by omega) z (by simpa using hz)) hx
theorem zeM : ∀ {l : List ND}, zd4 l = 0 ↔ ∀ x ∈ l, x.fault = 0
 | [] => by simp [zd4]
 | y :: l => by
  rw [zd4]
  by_cases h : y.fault = 0
  ·rw [if_neg (by simp [h]), zeM]; simp [h]
  ·rw [if_pos h]; simp [h]
theorem nds_at (l : List ND) (i : Nat) (x : ND) (h : l[i]? = some x) : ((nds l).drop (i * 4)).take 4 = x.pv := by
 rw [zhe]
 obtain ⟨hi, rfl⟩ := List.getElem?_eq_some_iff.1 h
 rw [List.drop_eq_getElem_cons hi, zc2]; rfl
set_option maxHeartbeats 2000000 in
theorem tcheck_s (l : List ND) (hok : ∀ x ∈ l, x.OK) (hz : l.length ≤ 4611686018427387904) : Fn Tryz.prog 56 [.p (ndsV l)] (.p (.v (.int .i64 (zfD l)))) [] := by
 refine zap Tryz.func56 rfl (Nat.le_of_ble_eq_true rfl) fun w0 A => ?_
 refine zaa ?_
 refine tx ?_
 refine yA ?_
 refine zab ?_
 refine zaa (zaa ?_)
 refine tx ?_
 refine yM ?_
 refine yP (zaC Tryz.underlying25) ?_
 refine yM ?_
 refine zab ?_
 refine zaj ?_
 refine zaE (fun m st => ∃ i : Nat, m + i = l.length ∧ (∀ j, j < i → ∀ y, l[j]? = some y → y.fault = 0) ∧ st = St.of [(0, .p (ndsV l)), (9, .p (ndsV l)), (10, .p (.v (.int .i64 l.length))), (11, .p (.v (.int .i64 i)))] []) l.length ?_ ?_
 ·refine ⟨_, re_of0 _ ?_, 0, by omega, by omega, rfl⟩
  ·exact ⟨⟨rfl, rfl⟩, ⟨rfl, rfl⟩, ⟨rfl, rfl⟩, ⟨rfl, rfl⟩, trivial⟩
 rintro m st ⟨i, hi, hj, rfl⟩
 refine zaa ?_
 refine tx ?_
 refine yP zaX ?_
 refine zab ?_
 refine zaa ?_
 refine zah _ rfl (fun h => ?_) (fun h => ?_)
 ·have hlt : i < l.length := by simp at h; omega
  clear h
  obtain ⟨x, hx⟩ : ∃ x, l[i]? = some x := ⟨l[i], List.getElem?_eq_getElem hlt⟩
  have hxo := hok x (List.mem_of_getElem? hx)
  have hld := nds_at l i x hx
  have hln := zdY l
  have hC := ze2 x.a x.n hxo.a0 hxo.a1
  have hxf : zax x.a x.n = x.fault := rfl
  rw [hxf] at hC
  obtain ⟨F, hF⟩ : ∃ F, F = x.fault := ⟨_, rfl⟩
  rw [← hF] at hC
  refine zad (zaa (zaj (zaa ?_)))
  refine tx ?_
  refine zac (zao Tryz.underlying25 sz55 (by omega) (by omega) rfl) rfl rfl ?_
  refine zac (zaz Tryz.underlying55 rfl sz55 (by rw [List.length_drop, hln]; first | omega | (simp only [Int.toNat_natCast]; omega)) ((show _ = x.pv from hld))) rfl rfl ?_
  refine zal (zaU 4 zr55 rfl) rfl rfl ⟨rfl, trivial⟩ ?_
  refine zal (zaA (Y := .agg _) sz55 rfl (by first | exact Nat.eq_of_beq_eq_true rfl | (simp only [AV.cells, List.length_map]; first | assumption | omega)) (Nat.eq_of_beq_eq_true rfl)) rfl rfl ⟨rfl, trivial⟩ ?_
  refine zab ?_
  refine zaa ?_
  refine tx ?_
  refine yF zer ?_
  refine lN Tryz.underlying52 rfl sz52 rfl rfl ⟨rfl, trivial⟩ ?_
  refine yV (fun n => 17 + 1000 * n) (hC) Tryz.func57 ?_
  refine yA ?_
  refine zab ?_
  refine zaa ?_
  refine tx ?_
  refine yM ?_
  refine yP za8 ?_
  refine zab ?_
  refine zae ?_
  refine zah _ rfl (fun h => ?_) (fun h => ?_)
  ·have hne : x.fault ≠ 0 := by rw [← hF]; simpa using h
   have hE : zfD l = F := by
    unfold zfD
    have := faultL_at hx hj hne
    rw [this, if_pos hne, hF]
   rw [hE]
   refine zaa ?_
   refine tx ?_
   refine yM ?_
   refine yA ?_
   refine zab ?_
   refine zaf (zaK (zam (zam (zaK (zam ?_)))))
   refine yT ?_ ?_
   ·exact rfl
   ·exact trivial
  ·have he : x.fault = 0 := by rw [← hF]; simpa using h
   refine zad (za3 (zae ?_))
   refine tx ?_
   refine zac (za4 (by first | exact IntWalk.i64_in _ (by omega) | rfl)) rfl rfl ?_
   refine yM ?_
   refine zab ?_
   refine zae ?_
   refine ⟨m - 1, by omega, _, re_of0 _ ?_, i + 1, by omega, ?_, rfl⟩
   ·exact ⟨⟨rfl, rfl⟩, ⟨rfl, rfl⟩, ⟨rfl, rfl⟩, ⟨rfl, rfl⟩, trivial⟩
   ·intro j hj' y hy
    by_cases hji : j = i
    ·subst hji; rw [hx] at hy; cases hy; exact he
    ·exact hj j (by omega) y hy
 have hge : i = l.length := by simp at h; omega
 clear h
 subst hge
 have h0 : zd4 l = 0 := zeM.2 fun x hx => by
  obtain ⟨j, hj1, rfl⟩ := List.mem_iff_getElem.1 hx
  exact hj j hj1 _ (List.getElem?_eq_getElem hj1)
 unfold zfD
 rw [if_neg (by simp [h0])]
 refine zaG (zaa (zaa ?_))
 refine tx ?_
 refine yM ?_
 refine yP (zaC Tryz.underlying25) ?_
 refine yP zaF ?_
 refine zab ?_
 refine zae ?_
 refine zah _ rfl (fun h => ?_) (fun h => ?_)
 ·have hl : l = [] := List.eq_nil_of_length_eq_zero (by simpa using h)
  rw [if_pos hl]
  refine zaa ?_
  refine tx ?_
  refine yA ?_
  refine zab ?_
  refine zaf (zam ?_)
  refine yT ?_ ?_
  ·exact rfl
  ·exact trivial
 have hl : l ≠ [] := by rintro rfl; simp at h
 rw [if_neg hl]
 have hg := grow_s l.length l (Nat.le_refl _) hok hz
 cases hq : zcW l.length l with
 | none =>
  rw [hq] at hg
  replace hg : Fn Tryz.prog 96 [.p (ndsV l)] (.tup [.p (.v (.pointer none)), .p (.v (.slice none 0 0)), .p (.v (.bool false))]) [] := hg
  rw [show endsB none = false from rfl, if_neg (by simp)]
  refine zad (zaa (zaa ?_))
  refine tx ?_
  refine yM ?_
  refine cS (fun n => 27 + 1000 * n) (hg) Tryz.func96 ?_
  refine yP (zaq (r := .tup _)) ?_
  refine yP (zar rfl) ?_
  refine yP (zar rfl) ?_
  refine yP (zar rfl) ?_
  refine yA ?_
  refine yA ?_
  refine yA ?_
  refine zab ?_
  refine zaa ?_
  refine tx ?_
  refine yM ?_
  refine yP za0 ?_
  refine yM ?_
  refine yS ?_
  refine yS ?_
  refine yS ?_
  refine yP zak ?_
  refine zab ?_
  refine zae ?_
  refine zah _ rfl (fun h => ?_) (fun h => ?_)
  ·refine zaa ?_
   refine tx ?_
   refine yA ?_
   refine zab ?_
   refine zaf (zam ?_)
   refine yT ?_ ?_
   ·exact rfl
   ·exact trivial
  ·cases h
 | some r =>
  obtain ⟨t, rest⟩ := r
  rw [hq] at hg
  replace hg : Fn Tryz.prog 96 [.p (ndsV l)] (.tup [.p (trP t), .p (ndsV rest), .p (.v (.bool true))]) [] := hg
  refine zad (zaa (zaa ?_))
  refine tx ?_
  refine yM ?_
  refine cS (fun n => 27 + 1000 * n) (hg) Tryz.func96 ?_
  refine yP (zaq (r := .tup _)) ?_
  refine yP (zar rfl) ?_
  refine yP (zar rfl) ?_
  refine yP (zar rfl) ?_
  refine yA ?_
  refine yA ?_
  refine yA ?_
  refine zab ?_
  refine zaa ?_
  refine tx ?_
  refine yM ?_
  refine yP za0 ?_
  refine yM ?_
  refine yM ?_
  refine yP (zaC Tryz.underlying25) ?_
  refine yP za5 ?_
  refine yP zai ?_
  refine zab ?_
  refine zae ?_
  refine zah _ rfl (fun h => ?_) (fun h => ?_)
  ·have : endsB (some (t, rest)) = false := by
    cases rest with
    | nil => simp at h
    | cons => rfl
   rw [this, if_neg (by simp)]
   refine zaa ?_
   refine tx ?_
   refine yA ?_
   refine zab ?_
   refine zaf (zam ?_)
   refine yT ?_ ?_
   ·exact rfl
   ·exact trivial
  ·have : endsB (some (t, rest)) = true := by
    cases rest with
    | nil => rfl
    | cons => simp at h
   rw [this, if_pos rfl]
   refine zad (zaa ?_)
   refine tx ?_
   refine yA ?_
   refine zab ?_
   refine zaf ?_
   refine yT ?_ ?_
   ·exact rfl
   ·exact trivial
end Go.Proofs.YtgpleldhddpcgaaGreatDoor
