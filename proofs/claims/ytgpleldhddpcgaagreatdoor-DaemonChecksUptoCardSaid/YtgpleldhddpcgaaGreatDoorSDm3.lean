/- The reference's StageFault, over data. -/
import Derived.Test.YtgpleldhddpcgaaGreatDoorSTw3
import Derived.Test.YtgpleldhddpcgaaGreatDoorSDm1
import Derived.Test.YtgpleldhddpcgaaGreatDoorSTc3
import Derived.Test.YtgpleldhddpcgaaGreatDoorSTab5
import Derived.Test.YtgpleldhddpcgaaGreatDoorSTw9
import Derived.Test.YtgpleldhddpcgaaGreatDoorSCt2
namespace Go.Proofs.YtgpleldhddpcgaaGreatDoor
open Go.RowKit Go.Sort
set_option linter.unusedVariables false
set_option linter.unusedSimpArgs false
set_option maxRecDepth 100000
theorem app_empty (a b : ByteArray) : (a ++ b = ⟨#[]⟩) ↔ (a = ⟨#[]⟩ ∧ b = ⟨#[]⟩) := by
 constructor
 ·intro h
  have hs := congrArg ByteArray.size h
  rw [ByteArray.size_append] at hs
  have h0 : (ByteArray.mk #[]).size = 0 := rfl
  rw [h0] at hs
  have f : ∀ x : ByteArray, x.size = 0 → x = ⟨#[]⟩ := fun x hx => by
   obtain ⟨d⟩ := x
   have : d = #[] := Array.eq_empty_of_size_eq_zero hx
   rw [this]
  exact ⟨f a (by omega), f b (by omega)⟩
 ·rintro ⟨rfl, rfl⟩
  rfl
set_option maxHeartbeats 4000000 in
theorem refStage_s (s : SG) (ok : s.OK) : Fn Tryz.prog 50 [.agg s.cells] (.p (.v (.int .i64 (sgE s)))) [] := by
 obtain ⟨lv, rest, c, at_, err⟩ := s
 obtain ⟨okr, hl, okc, haz, hkz⟩ := ok
 dsimp only at okr hl okc haz hkz
 obtain ⟨E, hE⟩ : ∃ E, sgE ⟨lv, rest, c, at_, err⟩ = E := ⟨_, rfl⟩
 rw [hE]
 unfold sgE at hE
 dsimp only at hE
 have hCf := zf7 c okc
 have hK := zbT at_
 have hrE : restE rest = fnz (fun i => seE (seG rest i)) rest.length := rfl
 have hpl := okc.len
 generalize cfE c = ce at *
 generalize keyE at_ = k1 at *
 obtain ⟨key, port, ps⟩ := c
 dsimp only at hE hpl hkz
 change Fn Tryz.prog _ [.agg [.p (.v (.string key)), .p (.v (.int .i64 port)), .p (.sl ps.length 5 (ps.flatMap PE.pv))]] _ _ at hCf
 show Fn Tryz.prog _ [.agg (sgC lv rest.length (rest.flatMap SE.pv) key port ps.length (ps.flatMap PE.pv) at_ err)] _ _
 clear okc
 generalize ps.flatMap PE.pv = L at *
 generalize ps.length = M at *
 refine zap Tryz.func50 rfl (Nat.le_of_ble_eq_true rfl) fun w0 A => ?_
 refine zaa ?_
 refine tx ?_
 refine zal (za2 (X := .agg _) 1 rfl) rfl rfl ⟨rfl, trivial⟩ ?_
 refine yA ?_
 refine zab ?_
 refine zaa (zaa ?_)
 refine tx ?_
 refine yF zgS ?_
 refine yL Tryz.underlying4 ?_
 refine yP za0 ?_
 refine zab ?_
 refine zae ?_
 refine zah _ rfl (fun h => ?_) (fun h => ?_)
 ·have h0 : lv = false := by simpa using h
  clear h
  rw [if_pos h0] at hE
  refine zaa (zaa ?_)
  refine tx ?_
  refine yF zc7 ?_
  refine yL Tryz.underlying33 ?_
  refine yP (zaC Tryz.underlying33) ?_
  refine yF zcD ?_
  refine yF zbO ?_
  refine yL Tryz.underlying22 ?_
  refine yP (zaC Tryz.underlying22) ?_
  refine zac (za4 (by first | exact IntWalk.i64_in _ (by omega) | rfl)) rfl rfl ?_
  refine yP za5 ?_
  refine yM ?_
  refine mb2 _ rfl rfl (fun hb => (zag zcD rfl)) (fun _ => trivial) ?_
  refine mb2 _ rfl rfl (fun hb => (zag zdP rfl)) (fun _ => trivial) ?_
  refine mb2 _ rfl rfl (fun hb => (zat Tryz.underlying3 rfl (by first | rfl | assumption))) (fun _ => ⟨rfl, trivial⟩) ?_
  refine mb2 _ rfl rfl (fun hb => za8) (fun _ => trivial) ?_
  refine zac (a_or (by first | exact id | (simp; done) | grind)) rfl rfl ?_
  refine yM ?_
  refine mb2 _ rfl rfl (fun hb => (zag zdO rfl)) (fun _ => trivial) ?_
  refine mb2 _ rfl rfl (fun hb => (zat Tryz.underlying9 rfl (by first | rfl | assumption))) (fun _ => ⟨rfl, trivial⟩) ?_
  refine mb2 _ rfl rfl (fun hb => (zag zcD rfl)) (fun _ => trivial) ?_
  refine mb2 _ rfl rfl (fun hb => (zag zbo rfl)) (fun _ => trivial) ?_
  refine mb2 _ rfl rfl (fun hb => (zat Tryz.underlying9 rfl (by first | rfl | assumption))) (fun _ => ⟨rfl, trivial⟩) ?_
  refine mb2 _ rfl rfl (fun hb => (a_cat (s := at_) (t := key) (by omega) rfl)) (fun _ => trivial) ?_
  refine mb2 _ rfl rfl (fun hb => zb2) (fun _ => trivial) ?_
  refine zac (a_or (by first | exact id | (simp; done) | grind)) rfl rfl ?_
  refine yM ?_
  refine mb2 _ rfl rfl (fun hb => (zag zdN rfl)) (fun _ => trivial) ?_
  refine mb2 _ rfl rfl (fun hb => (zat Tryz.underlying26 rfl (by first | rfl | assumption))) (fun _ => ⟨rfl, trivial⟩) ?_
  refine mb2 _ rfl rfl (fun hb => za8) (fun _ => trivial) ?_
  refine zac (a_or (by first | exact id | (simp; done) | grind)) rfl rfl ?_
  refine zab ?_
  refine zae ?_
  refine zah _ rfl (fun h => ?_) (fun h => ?_)
  ·have h1 : 0 < rest.length ∨ at_ ≠ ⟨#[]⟩ ∨ err ≠ 0 ∨ key ≠ ⟨#[]⟩ ∨ port ≠ 0 ∨ 0 < M := by
    simp at h
    rcases h with ((q | q) | q) | q
    ·by_cases h2 : 0 < rest.length
     ·exact .inl h2
     ·exact .inr (.inr (.inr (.inr (.inr (by omega)))))
    ·exact .inr (.inr (.inr (.inr (.inl q))))
    ·by_cases h2 : at_ = ⟨#[]⟩
     ·exact .inr (.inr (.inr (.inl fun h3 => q ((app_empty at_ key).2 ⟨h2, h3⟩))))
     ·exact .inr (.inl h2)
    ·exact .inr (.inr (.inl q))
   rw [if_pos h1] at hE
   subst hE
   refine zaa ?_
   refine tx ?_
   refine yA ?_
   refine zab ?_
   refine zaf (zam (zam ?_))
   refine yT ?_ ?_
   ·exact rfl
   ·exact trivial
  ·have h1 : ¬ (0 < rest.length ∨ at_ ≠ ⟨#[]⟩ ∨ err ≠ 0 ∨ key ≠ ⟨#[]⟩ ∨ port ≠ 0 ∨ 0 < M) := by
    simp at h
    obtain ⟨⟨⟨q1, q2⟩, q3⟩, q4⟩ := h
    obtain ⟨q5, q6⟩ := (app_empty at_ key).1 q3
    rintro (p | p | p | p | p | p)
    ·omega
    ·exact p q5
    ·exact p q4
    ·exact p q6
    ·exact p q2
    ·omega
   rw [if_neg h1] at hE
   subst hE
   refine zad (zaa ?_)
   refine tx ?_
   refine yA ?_
   refine zab ?_
   refine zaf (zam ?_)
   refine yT ?_ ?_
   ·exact rfl
   ·exact trivial
 have h0 : ¬ lv = false := by simpa using h
 clear h
 rw [if_neg h0] at hE
 refine zad (zaa (zaa ?_))
 refine tx ?_
 refine yF zcD ?_
 refine lN Tryz.underlying24 rfl sz24 rfl rfl ⟨rfl, trivial⟩ ?_
 refine cS (fun n => 41 + 1000 * n) (hCf) Tryz.func22 ?_
 refine yA ?_
 refine zab ?_
 refine zaa ?_
 refine tx ?_
 refine yM ?_
 refine yP za8 ?_
 refine zab ?_
 refine zae ?_
 refine zah _ rfl (fun h => ?_) (fun h => ?_)
 ·have h1 : ce ≠ 0 := by simpa using h
  rw [if_pos h1] at hE
  subst hE
  refine zaa ?_
  refine tx ?_
  refine yM ?_
  refine yA ?_
  refine zab ?_
  refine zaf (zam ?_)
  refine yT ?_ ?_
  ·exact rfl
  ·exact trivial
 have h1 : ce = 0 := by simpa using h
 clear h
 rw [if_neg (by simp [h1])] at hE
 refine zad (zaa (zaa ?_))
 refine tx ?_
 refine yF zc7 ?_
 refine yL Tryz.underlying33 ?_
 refine yP (zaC Tryz.underlying33) ?_
 refine yP za5 ?_
 refine zab ?_
 refine zae ?_
 refine zah _ rfl (fun h => ?_) (fun h => ?_)
 ·have h2 : 60 < rest.length := by simp at h; omega
  rw [if_pos h2] at hE
  subst hE
  refine zaa ?_
  refine tx ?_
  refine yA ?_
  refine zab ?_
  refine zaf (zam ?_)
  refine yT ?_ ?_
  ·exact rfl
  ·exact trivial
 have h2 : ¬ 60 < rest.length := by simp at h; omega
 clear h
 rw [if_neg h2] at hE
 refine zad (zaa (zaa ?_))
 refine tx ?_
 refine yF zc7 ?_
 refine yL Tryz.underlying33 ?_
 refine yP (zaC Tryz.underlying33) ?_
 refine yM ?_
 refine zab ?_
 refine zaj ?_
 refine zaE (fun m st => ∃ i : Nat, m + i = rest.length ∧ (∀ j, j < i → seE (seG rest j) = 0) ∧ st = St.of [(1, .ref 1 0), (50, .p (.sl rest.length 5 (rest.flatMap SE.pv))), (51, .p (.v (.int .i64 rest.length))), (52, .p (.v (.int .i64 i)))] [(1, .box 35 (sgC lv rest.length (rest.flatMap SE.pv) key port M L at_ err))]) rest.length ?_ ?_
 ·refine ⟨_, zaJ id _ _ ?_ ?_ rfl, 0, by omega, by omega, rfl⟩
  ·(repeat (first | exact trivial | (refine ⟨⟨(by first | rfl | (simp; done) | (simp; omega)), rfl⟩, ?_⟩)))
  ·exact ⟨⟨rfl, rfl⟩, trivial⟩
 rintro m st ⟨i, hi, hf, rfl⟩
 refine zaa ?_
 refine tx ?_
 refine yP zaX ?_
 refine zab ?_
 refine zaa ?_
 refine zah _ rfl (fun h => ?_) (fun h => ?_)
 ·have hlt : i < rest.length := by simp at h; omega
  clear h
  obtain ⟨x, hx⟩ : ∃ x, rest[i]? = some x := ⟨rest[i], List.getElem?_eq_getElem hlt⟩
  have hch := zaN (f := SE.pv) (k := 5) (fun _ => rfl) hx
  have hle := zaP (f := SE.pv) (k := 5) (fun _ => rfl) hlt
  have hC := refCheck_s x (okr x (List.mem_of_getElem? hx))
  have hhit := @zb9 (fun i => seE (seG rest i)) i rest.length hf hlt
  have hgx : seE (seG rest i) = seE x := by rw [seG_at hx]
  generalize rest.flatMap SE.pv = R at *
  generalize seE x = e at *
  obtain ⟨xk, xt, xn, xa, xb⟩ := x
  change Fn Tryz.prog _ [.agg [.p (.v (.int .i64 xk)), .p (.v (.string xt)), .p (.v (.int .i64 xn)), .p (.v (.int .u32 xa)), .p (.v (.int .i64 xb))]] _ _ at hC
  refine zad (zaa (zaj (zaa ?_)))
  refine tx ?_
  refine zac (zao Tryz.underlying33 sz86 (by omega) (by omega) rfl) rfl rfl ?_
  refine zac (zaz Tryz.underlying86 rfl sz86 (by first | omega | (simp; done) | (simp; omega)) (hch)) rfl rfl ?_
  refine zal (zaU 5 zr86 rfl) rfl rfl ⟨rfl, trivial⟩ ?_
  refine zal (zaA (Y := .agg [.p (.v (.int .i64 xk)), .p (.v (.string xt)), .p (.v (.int .i64 xn)), .p (.v (.int .u32 xa)), .p (.v (.int .i64 xb))]) sz86 rfl rfl (Nat.eq_of_beq_eq_true rfl)) rfl rfl ⟨rfl, trivial⟩ ?_
  refine zab ?_
  refine zaa ?_
  refine tx ?_
  refine lN Tryz.underlying86 rfl sz86 rfl rfl ⟨rfl, trivial⟩ ?_
  refine yV (fun n => 57 + 1000 * n) (hC) Tryz.func88 ?_
  refine yA ?_
  refine zab ?_
  refine zaa ?_
  refine tx ?_
  refine yM ?_
  refine yP za8 ?_
  refine zab ?_
  refine zae ?_
  refine zah _ rfl (fun h => ?_) (fun h => ?_)
  ·have h7 : e ≠ 0 := by simpa using h
   rw [hrE, hhit (by rw [hgx]; exact h7), hgx, if_pos h7] at hE
   subst hE
   refine zaa ?_
   refine tx ?_
   refine yM ?_
   refine yA ?_
   refine zab ?_
   refine zaf (zaK (zam (zam (zaK (zam ?_)))))
   refine yT ?_ ?_
   ·exact rfl
   ·exact trivial
  have h7 : e = 0 := by simpa using h
  clear h
  refine zad (za3 (zae ?_))
  refine tx ?_
  refine zac (za4 (by first | exact IntWalk.i64_in _ (by omega) | rfl)) rfl rfl ?_
  refine yM ?_
  refine zab ?_
  refine zae ?_
  refine ⟨m - 1, by omega, _, zaJ id _ _ ?_ ?_ rfl, i + 1, by omega, fun q hq => ?_, rfl⟩
  ·(repeat (first | exact trivial | (refine ⟨⟨(by first | rfl | (simp; done) | (simp; omega)), rfl⟩, ?_⟩)))
  ·exact ⟨⟨rfl, rfl⟩, trivial⟩
  ·by_cases eq : q = i
   ·rw [eq, hgx]; exact h7
   ·exact hf q (by omega)
 have hge : i = rest.length := by simp at h; omega
 clear h
 subst hge
 rw [hrE, zcB hf, if_neg (by simp)] at hE
 clear hf hrE
 refine zaG (zaa (zaa ?_))
 refine tx ?_
 refine yF zdO ?_
 refine yL Tryz.underlying9 ?_
 refine yP zb2 ?_
 refine yM ?_
 refine mb2 _ rfl rfl (fun hb => (zag zdO rfl)) (fun _ => trivial) ?_
 refine mb2 _ rfl rfl (fun hb => (zat Tryz.underlying9 rfl (by first | rfl | assumption))) (fun _ => ⟨rfl, trivial⟩) ?_
 refine mb2 _ rfl rfl (fun _ => zbd Tryz.func61 rfl rfl (hK) (by first | rfl | simp [AV.okInL, AV.okIn, zaZ]) rfl) (fun _ => trivial) ?_
 refine mb2 _ rfl rfl (fun hb => za8) (fun _ => trivial) ?_
 refine zac (zbl (by first | exact id | (simp; done) | grind)) rfl rfl ?_
 refine yM ?_
 refine mb2 _ rfl rfl (fun hb => (zag zdN rfl)) (fun _ => trivial) ?_
 refine mb2 _ rfl rfl (fun hb => (zat Tryz.underlying26 rfl (by first | rfl | assumption))) (fun _ => ⟨rfl, trivial⟩) ?_
 refine mb2 _ rfl rfl (fun hb => zaX) (fun _ => trivial) ?_
 refine zac (a_or (by first | exact id | (simp; done) | grind)) rfl rfl ?_
 refine yM ?_
 refine mb2 _ rfl rfl (fun hb => (zag zdN rfl)) (fun _ => trivial) ?_
 refine mb2 _ rfl rfl (fun hb => (zat Tryz.underlying26 rfl (by first | rfl | assumption))) (fun _ => ⟨rfl, trivial⟩) ?_
 refine mb2 _ rfl rfl (fun hb => za5) (fun _ => trivial) ?_
 refine zac (a_or (by first | exact id | (simp; done) | grind)) rfl rfl ?_
 refine zab ?_
 refine zae ?_
 refine zah _ rfl (fun h => ?_) (fun h => ?_)
 ·have h9 : (at_ ≠ ⟨#[]⟩ ∧ k1 ≠ 0) ∨ err < 0 ∨ 14 < err := by
   simp at h
   rcases h with (q | q) | q
   ·exact .inl q
   ·exact .inr (.inl q)
   ·exact .inr (.inr q)
  rw [if_pos h9] at hE
  subst hE
  refine zaa ?_
  refine tx ?_
  refine yA ?_
  refine zab ?_
  refine zaf (zam ?_)
  refine yT ?_ ?_
  ·exact rfl
  ·exact trivial
 ·have h9 : ¬ ((at_ ≠ ⟨#[]⟩ ∧ k1 ≠ 0) ∨ err < 0 ∨ 14 < err) := by
   simp at h
   obtain ⟨⟨q1, q2⟩, q3⟩ := h
   rintro (⟨p1, p2⟩ | p | p)
   ·exact p2 (q1 p1)
   ·omega
   ·omega
  rw [if_neg h9] at hE
  subst hE
  refine zad (zaa ?_)
  refine tx ?_
  refine yA ?_
  refine zab ?_
  refine zaf ?_
  refine yT ?_ ?_
  ·exact rfl
  ·exact trivial
end Go.Proofs.YtgpleldhddpcgaaGreatDoor
/- What daemon.Check says, as data; table.Most of states; are these the states of those peers? -/
namespace Go.Proofs.YtgpleldhddpcgaaGreatDoor
open Go.RowKit Go.Sort
set_option linter.unusedVariables false
set_option linter.unusedSimpArgs false
set_option maxRecDepth 100000
def four (s : ST) : Four := (s.a.mine, s.b.mine, s.c.mine, s.h.mine)
def mostD (l : List ST) : Int := most (l.map four)
theorem four_ok (l : List ST) : ∀ (k : Nat) e q, (l.map ST.pv)[k]? = some e → (l.map four)[k]? = some q → StP e q := by
 intro k e q he hq
 rw [List.getElem?_map] at he hq
 cases hs : l[k]? with
 | none => rw [hs] at he; cases he
 | some s =>
  rw [hs] at he hq
  simp only [Option.map_some, Option.some.injEq] at he hq
  subst he hq
  exact ⟨rfl, rfl, rfl, rfl, rfl⟩
theorem tmost_s (l : List ST) (hn : l.length ≤ 1048576) : Fn Tryz.prog 37 [.p (.sl l.length 41 (l.flatMap ST.pv))] (.p (.v (.int .i64 (mostD l)))) [] := by
 have h := most_s (l.map ST.pv) (l.map four) l.length (by simp) (by simp) (by omega) (four_ok l)
 rwa [← List.flatMap_def] at h
theorem rmost_s (l : List ST) (hn : l.length ≤ 1048576) : Fn Tryz.prog 51 [.p (.sl l.length 41 (l.flatMap ST.pv))] (.p (.v (.int .i64 (mostD l)))) [] := by
 have h := statesMost_s (l.map ST.pv) (l.map four) l.length (by simp) (by simp) (by omega) (four_ok l)
 rwa [← List.flatMap_def] at h
def zfE (l : List ST) (m : List PE) : Bool := decide (l.map ST.key = m.map PE.key)
theorem keysB_len {l : List ST} {m : List PE} (h : l.length ≠ m.length) : zfE l m = false := by
 refine decide_eq_false fun e => h ?_
 have := congrArg List.length e
 simpa using this
theorem keysB_ne {l : List ST} {m : List PE} {i : Nat} {x : ST} {y : PE} (h1 : l[i]? = some x) (h2 : m[i]? = some y) (h : x.key ≠ y.key) : zfE l m = false := by
 refine decide_eq_false fun e => h ?_
 have := congrArg (fun z : List ByteArray => z[i]?) e
 simpa [h1, h2] using this
theorem keysB_all {l : List ST} {m : List PE} (h : l.length = m.length) (k : ∀ j, j < l.length → (l[j]?).map ST.key = (m[j]?).map PE.key) : zfE l m = true := by
 refine decide_eq_true ?_
 apply List.ext_getElem?
 intro j
 rw [List.getElem?_map, List.getElem?_map]
 rcases Nat.lt_or_ge j l.length with hj | hj
 ·exact k j hj
 ·rw [List.getElem?_eq_none hj, List.getElem?_eq_none (by omega)]
  rfl
theorem chk1_s (s : ST) (p : PE) : Fn Tryz.prog 39 [.agg s.cells, .agg p.cells] (.p (.v (.bool (decide (s.key = p.key))))) [] := by
 obtain ⟨k1, e1, a1, b1, c1, h1, q1⟩ := s
 obtain ⟨k2, s2, e2, a2, n2⟩ := p
 show Fn Tryz.prog _ [.agg (stC k1 e1 a1 b1 c1 h1 q1.length (q1.flatMap PQ.pv)), .agg [.p (.v (.string k2)), .p (.v (.string s2)), .p (.v (.string e2)), .p (.v (.int .i64 a2)), .p (.sl n2.length 2 (n2.flatMap ntC))]] (.p (.v (.bool (decide (k1 = k2))))) _
 generalize q1.flatMap PQ.pv = L1 at *
 generalize q1.length = c at *
 generalize n2.flatMap ntC = L2 at *
 generalize n2.length = d at *
 refine zap Tryz.func39 rfl (Nat.le_of_ble_eq_true rfl) fun w0 A => ?_
 refine zaa ?_
 refine tx ?_
 refine zal (za2 (X := .agg _) 2 rfl) rfl rfl ⟨rfl, trivial⟩ ?_
 refine zal (za2 (X := .agg _) 3 rfl) rfl rfl ⟨rfl, trivial⟩ ?_
 refine yA ?_
 refine zab ?_
 refine zaa ?_
 refine tx ?_
 refine yF zc4 ?_
 refine yL Tryz.underlying9 ?_
 refine yF zbJ ?_
 refine yL Tryz.underlying9 ?_
 refine yP zbQ ?_
 refine yA ?_
 refine zab ?_
 refine zaf ?_
 refine yT ?_ ?_
 ·exact rfl
 ·exact trivial
theorem keys_d (l : List ST) (m : List PE) (hl : l.length ≤ 1048576) (hm : m.length ≤ 1048576) : Fn Tryz.prog 38 [.p (.sl l.length 41 (l.flatMap ST.pv)), .p (.sl m.length 5 (m.flatMap PE.pv)), .fn 39 []] (.p (.v (.bool (zfE l m)))) [] := by
 by_cases hlen : l.length = m.length
 rotate_left
 ·rw [keysB_len hlen]
  generalize l.flatMap ST.pv = L
  generalize m.flatMap PE.pv = M
  generalize l.length = n at *
  generalize m.length = k at *
  refine zap Tryz.func38 rfl (Nat.le_of_ble_eq_true rfl) fun w0 A => ?_
  refine zaa ?_
  refine tx ?_
  refine yA ?_
  refine zab ?_
  refine zaa (zaa ?_)
  refine tx ?_
  refine yM ?_
  refine yP (zaC Tryz.underlying40) ?_
  refine yM ?_
  refine yP (zaC Tryz.underlying22) ?_
  refine zac (zaQ (c := true) (by simp; omega)) rfl rfl ?_
  refine zab ?_
  refine zae ?_
  refine zaD rfl ?_
  refine zaa ?_
  refine tx ?_
  refine yA ?_
  refine zab ?_
  refine zaf (zam ?_)
  refine yT ?_ ?_
  ·exact rfl
  ·exact trivial
 obtain ⟨E, hE⟩ : ∃ E, zfE l m = E := ⟨_, rfl⟩
 rw [hE]
 refine zap Tryz.func38 rfl (Nat.le_of_ble_eq_true rfl) fun w0 A => ?_
 refine zaa ?_
 refine tx ?_
 refine yA ?_
 refine zab ?_
 refine zaa (zaa ?_)
 refine tx ?_
 refine yM ?_
 refine yP (zaC Tryz.underlying40) ?_
 refine yM ?_
 refine yP (zaC Tryz.underlying22) ?_
 refine zac (zaQ (c := false) (by simp; omega)) rfl rfl ?_
 refine zab ?_
 refine zae ?_
 refine zan rfl ?_
 refine zad (zaa (zaa ?_))
 refine tx ?_
 refine yM ?_
 refine yP (zaC Tryz.underlying40) ?_
 refine yM ?_
 refine zab ?_
 refine zaj ?_
 refine zaE (fun u st => ∃ i : Nat, u + i = l.length ∧ (∀ j, j < i → (l[j]?).map ST.key = (m[j]?).map PE.key) ∧ st = St.of [(1, .p (.sl m.length 5 (m.flatMap PE.pv))), (2, .fn 39 []), (15, .p (.sl l.length 41 (l.flatMap ST.pv))), (16, .p (.v (.int .i64 l.length))), (17, .p (.v (.int .i64 i)))] []) l.length ?_ ?_
 ·refine ⟨_, zaJ id _ _ ?_ ?_ rfl, 0, by omega, by omega, rfl⟩
  ·(repeat (first | exact trivial | (refine ⟨⟨(by first | rfl | (simp; done) | (simp; omega)), rfl⟩, ?_⟩)))
  ·exact trivial
 rintro u st ⟨i, hi, hf, rfl⟩
 refine zaa ?_
 refine tx ?_
 refine yP zaX ?_
 refine zab ?_
 refine zaa ?_
 refine zah _ rfl (fun h => ?_) (fun h => ?_)
 ·have hlt : i < l.length := by simp at h; omega
  clear h
  obtain ⟨x, hx⟩ : ∃ x, l[i]? = some x := ⟨l[i], List.getElem?_eq_getElem hlt⟩
  obtain ⟨y, hy⟩ : ∃ y, m[i]? = some y := ⟨m[i]'(by omega), List.getElem?_eq_getElem (by omega)⟩
  have hch := zaN (f := ST.pv) (k := 41) (fun _ => rfl) hx
  have hle := zaP (f := ST.pv) (k := 41) (fun _ => rfl) hlt
  have hch2 := zaN (f := PE.pv) (k := 5) (fun _ => rfl) hy
  have hle2 := zaP (f := PE.pv) (k := 5) (fun _ => rfl) (show i < m.length by omega)
  have hbad := @keysB_ne l m i x y hx hy
  have hxy : x.key = y.key → (l[i]?).map ST.key = (m[i]?).map PE.key := fun e => by rw [hx, hy]; simp [e]
  have hC := chk1_s x y
  generalize l.flatMap ST.pv = L at *
  generalize m.flatMap PE.pv = M at *
  refine zad (zaa (zaj (zaa ?_)))
  refine tx ?_
  refine yM ?_
  refine zac (zao Tryz.underlying40 sz81 (by omega) (by omega) rfl) rfl rfl ?_
  refine zac (zaz Tryz.underlying81 rfl sz81 (by first | omega | (simp; done) | (simp; omega)) (hch)) rfl rfl ?_
  refine zal (zaU 8 zr81 rfl) rfl rfl ⟨rfl, trivial⟩ ?_
  refine yA ?_
  refine zal (zaA (Y := .agg x.cells) sz81 rfl rfl (Nat.eq_of_beq_eq_true rfl)) rfl rfl ⟨rfl, trivial⟩ ?_
  refine zab ?_
  refine zaa ?_
  refine tx ?_
  refine yM ?_
  refine yM ?_
  refine zac (zao Tryz.underlying22 sz49 (by omega) (by omega) rfl) rfl rfl ?_
  refine zac (zaz Tryz.underlying49 rfl sz49 (by first | omega | (simp; done) | (simp; omega)) (hch2)) rfl rfl ?_
  refine zal (zaU 9 zr49 rfl) rfl rfl ⟨rfl, trivial⟩ ?_
  refine zal (zaA (Y := .agg y.cells) sz49 rfl rfl (Nat.eq_of_beq_eq_true rfl)) rfl rfl ⟨rfl, trivial⟩ ?_
  refine zab ?_
  by_cases he : x.key = y.key
  ·rw [decide_eq_true he] at hC
   refine zaa ?_
   refine tx ?_
   refine yP (zaq (r := .fn _ _)) ?_
   refine zal (zaL Tryz.underlying81 rfl sz81 (by first | exact Nat.le_of_ble_eq_true rfl | omega | (simp only [AV.cells, List.length_map]; omega)) (show _ = x.cells from rfl)) rfl rfl ⟨rfl, trivial⟩ ?_
   refine zal (zaL Tryz.underlying49 rfl sz49 (by first | exact Nat.le_of_ble_eq_true rfl | omega | (simp only [AV.cells, List.length_map]; omega)) (show _ = y.cells from rfl)) rfl rfl ⟨rfl, trivial⟩ ?_
   refine cS (fun n => 29 + 1000 * n) (hC) Tryz.func39 ?_
   refine yP za0 ?_
   refine zab ?_
   refine zae ?_
   refine zah _ rfl (fun h => ?_) (fun h => ?_)
   ·cases h
   refine zad (za3 (zae ?_))
   refine tx ?_
   refine zac (za4 (by first | exact IntWalk.i64_in _ (by omega) | rfl)) rfl rfl ?_
   refine yM ?_
   refine zab ?_
   refine zae ?_
   refine ⟨u - 1, by omega, _, zaJ id _ _ ?_ ?_ rfl, i + 1, by omega, fun j hj => ?_, rfl⟩
   ·(repeat (first | exact trivial | (refine ⟨⟨(by first | rfl | (simp; done) | (simp; omega)), rfl⟩, ?_⟩)))
   ·exact trivial
   ·by_cases e : j = i
    ·rw [e]; exact hxy he
    ·exact hf j (by omega)
  ·rw [hbad he] at hE
   subst hE
   rw [decide_eq_false he] at hC
   refine zaa ?_
   refine tx ?_
   refine yP (zaq (r := .fn _ _)) ?_
   refine zal (zaL Tryz.underlying81 rfl sz81 (by first | exact Nat.le_of_ble_eq_true rfl | omega | (simp only [AV.cells, List.length_map]; omega)) (show _ = x.cells from rfl)) rfl rfl ⟨rfl, trivial⟩ ?_
   refine zal (zaL Tryz.underlying49 rfl sz49 (by first | exact Nat.le_of_ble_eq_true rfl | omega | (simp only [AV.cells, List.length_map]; omega)) (show _ = y.cells from rfl)) rfl rfl ⟨rfl, trivial⟩ ?_
   refine cS (fun n => 29 + 1000 * n) (hC) Tryz.func39 ?_
   refine yP za0 ?_
   refine zab ?_
   refine zae ?_
   refine zah _ rfl (fun h => ?_) (fun h => ?_)
   ·refine zaa ?_
    refine tx ?_
    refine yA ?_
    refine zab ?_
    refine zaf (zaK (zam (zam (zaK (zam ?_)))))
    refine yT ?_ ?_
    ·exact rfl
    ·exact trivial
   ·cases h
 have hge : i = l.length := by simp at h; omega
 clear h
 subst hge
 rw [keysB_all hlen hf] at hE
 subst hE
 refine zaG (zaa ?_)
 refine tx ?_
 refine yA ?_
 refine zab ?_
 refine zaf ?_
 refine yT ?_ ?_
 ·exact rfl
 ·exact trivial
/-- may a state be, in this daemon? -/
def okSt (ck : ByteArray) (now : Int) (s : ST) : Prop := ¬ ((ck = ⟨#[]⟩ ∧ (¬ (s.a = KY0 ∧ s.b = KY0 ∧ s.c = KY0) ∨ s.h.lv = true)) ∨ now < s.h.s)
def rangeD (d : DM) : Prop := d.gen < 0 ∨ 1099511627776 < d.gen ∨ d.now < 0 ∨ 1099511627776 < d.now ∨ d.last < mostD d.ps ∨ 4294967235 < d.last
def goodD (d : DM) : Prop := ((tOf (zaW d.c.ps d.c.ps.length)).list = d.tree ∧ zfE d.ps d.c.ps = true) ∧ ∀ s ∈ d.ps, okSt d.c.key d.now s
open Classical in
noncomputable def dmE (d : DM) : Int :=
 if cfE d.c ≠ 0 then cfE d.c else if stsE d.ps ≠ 0 then stsE d.ps else if sgE d.sg ≠ 0 then sgE d.sg else if rangeD d then 4 else if goodD d then 0 else 14
end Go.Proofs.YtgpleldhddpcgaaGreatDoor
