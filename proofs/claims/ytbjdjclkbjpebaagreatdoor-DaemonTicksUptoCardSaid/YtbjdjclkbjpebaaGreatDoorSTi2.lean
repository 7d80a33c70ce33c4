/- The reference's StageFault, over data. -/
import Derived.Test.YtbjdjclkbjpebaaGreatDoorSTw3
import Derived.Test.YtbjdjclkbjpebaaGreatDoorSDm1
import Derived.Test.YtbjdjclkbjpebaaGreatDoorSMo3
import Derived.Test.YtbjdjclkbjpebaaGreatDoorSTab5
import Derived.Test.YtbjdjclkbjpebaaGreatDoorSTw9
import Derived.Test.YtbjdjclkbjpebaaGreatDoorSCt2
namespace Go.Proofs.YtbjdjclkbjpebaaGreatDoor
open Tryz
open Go.RowKit Go.Sort
set_option maxHeartbeats 16000000
set_option linter.unusedVariables false
set_option linter.unusedSimpArgs false
set_option maxRecDepth 100000
theorem app_empty (a b : ByteArray) : (a ++ b = ⟨#[]⟩) ↔ (a = ⟨#[]⟩ ∧ b = ⟨#[]⟩) := by
 constructor
 ·intro h
  have hs := congrArg ByteArray.size h
  rw [ByteArray.size_append] at hs
  have h0 : (ByteArray.mk #[]).size = 0 := rfl
  rw [h0] at hs
  have f : ∀ x : ByteArray, x.size = 0 → x = ⟨#[]⟩ := fun x hx => by
   obtain ⟨d⟩ := x
   have : d = #[] := Array.eq_empty_of_size_eq_zero hx
   rw [this]
  exact ⟨f a (by omega), f b (by omega)⟩
 ·rintro ⟨rfl, rfl⟩
  rfl
theorem refStage_s (s : SG) (ok : s.OK) : Fn prog 39 [.agg s.cells] (.p (.v (.int .i64 (sgE s)))) [] := by
 obtain ⟨lv, rest, c, at_, err⟩ := s
 obtain ⟨okr, hl, okc, haz, hkz⟩ := ok
 dsimp only at okr hl okc haz hkz
 obtain ⟨E, hE⟩ : ∃ E, sgE ⟨lv, rest, c, at_, err⟩ = E := ⟨_, rfl⟩
 rw [hE]
 unfold sgE at hE
 dsimp only at hE
 have hCf := zgL c okc
 have hK := za9 at_
 have hrE : restE rest = fnz (fun i => seE (seG rest i)) rest.length := rfl
 have hpl := okc.len
 generalize cfE c = ce at *
 generalize keyE at_ = k1 at *
 obtain ⟨key, port, ps⟩ := c
 dsimp only at hE hpl hkz
 change Fn prog _ [.agg [.p (.v (.string key)), .p (.v (.int .i64 port)), .p (.sl ps.length 5 (ps.flatMap PE.pv))]] _ _ at hCf
 show Fn prog _ [.agg (sgC lv rest.length (rest.flatMap SE.pv) key port ps.length (ps.flatMap PE.pv) at_ err)] _ _
 clear okc
 generalize ps.flatMap PE.pv = L at *
 generalize ps.length = M at *
 refine fnI fun w0 A => ?_
 refine G [12, 9, 0] ?_
 refine cX (fun h => ?_) fun h => ?_
 ·have h0 : lv = false := by simpa using h
  clear h
  rw [if_pos h0] at hE
  refine G [17, 2, 6] ?_
  refine mb2 _ rfl rfl (fun hb => (zcU (s := at_) (t := key) (by omega) rfl)) (fun _ => trivial) ?_
  refine G [1, 2, 4, 2, 1, 9, 0] ?_
  refine cX (fun h => ?_) fun h => ?_
  ·have h1 : 0 < rest.length ∨ at_ ≠ ⟨#[]⟩ ∨ err ≠ 0 ∨ key ≠ ⟨#[]⟩ ∨ port ≠ 0 ∨ 0 < M := by
    simp at h
    rcases h with ((q | q) | q) | q
    ·by_cases h2 : 0 < rest.length
     ·exact .inl h2
     ·exact .inr (.inr (.inr (.inr (.inr (by omega)))))
    ·exact .inr (.inr (.inr (.inr (.inl q))))
    ·by_cases h2 : at_ = ⟨#[]⟩
     ·exact .inr (.inr (.inr (.inl fun h3 => q ((app_empty at_ key).2 ⟨h2, h3⟩))))
     ·exact .inr (.inl h2)
    ·exact .inr (.inr (.inl q))
   exact jbs
  ·have h1 : ¬ (0 < rest.length ∨ at_ ≠ ⟨#[]⟩ ∨ err ≠ 0 ∨ key ≠ ⟨#[]⟩ ∨ port ≠ 0 ∨ 0 < M) := by
    simp at h
    obtain ⟨⟨⟨q1, q2⟩, q3⟩, q4⟩ := h
    obtain ⟨q5, q6⟩ := (app_empty at_ key).1 q3
    rintro (p | p | p | p | p | p)
    ·omega
    ·exact p q5
    ·exact p q4
    ·exact p q6
    ·exact p q2
    ·omega
   rw [if_neg h1] at hE
   subst hE
   refine jcs ?_
   exact yE
 have h0 : ¬ lv = false := by simpa using h
 clear h
 rw [if_neg h0] at hE
 refine G [6] ?_
 refine cK hCf ?_
 refine jcq ?_
 refine cX (fun h => ?_) fun h => ?_
 ·have h1 : ce ≠ 0 := by simpa using h
  exact jaP
 have h1 : ce = 0 := by simpa using h
 clear h
 rw [if_neg (by simp [h1])] at hE
 refine G [9, 9, 0] ?_
 refine cX (fun h => ?_) fun h => ?_
 ·exact jcd
 have h2 : ¬ 60 < rest.length := by simp at h; omega
 clear h
 rw [if_neg h2] at hE
 refine G [10] ?_
 refine zag (fun m st => ∃ i : Nat, m + i = rest.length ∧ (∀ j, j < i → seE (seG rest j) = 0) ∧ st = St.of [(1, .ref 1 0), (50, .p (.sl rest.length 5 (rest.flatMap SE.pv))), (51, .p (.v (.int .i64 rest.length))), (52, .p (.v (.int .i64 i)))] [(1, .box 30 (sgC lv rest.length (rest.flatMap SE.pv) key port M L at_ err))]) rest.length ?_ ?_
 ·exact jar
 rintro m st ⟨i, hi, hf, rfl⟩
 refine G [5] ?_
 refine cX (fun h => ?_) fun h => ?_
 ·have hlt : i < rest.length := by simp at h; omega
  clear h
  obtain ⟨x, hx⟩ : ∃ x, rest[i]? = some x := ⟨rest[i], List.getElem?_eq_getElem hlt⟩
  have hch := zar (f := SE.pv) (k := 5) (fun _ => rfl) hx
  have hle := zas (f := SE.pv) (k := 5) (fun _ => rfl) hlt
  have hC := refCheck_s x (okr x (List.mem_of_getElem? hx))
  exact jaw
 have hge : i = rest.length := by simp at h; omega
 clear h
 subst hge
 rw [hrE, zcN hf, if_neg (by simp)] at hE
 clear hf hrE
 refine G [10] ?_
 refine mb2 _ rfl rfl (fun _ => zbc F74 rfl rfl (hK) (by first | rfl | simp [AV.okInL, AV.okIn, zay]) rfl) (fun _ => trivial) ?_
 exact jaE
def four (s : ST) : Four := (s.a.mine, s.b.mine, s.c.mine, s.h.mine)
def mostD (l : List ST) : Int := most (l.map four)
theorem four_ok (l : List ST) : ∀ (k : Nat) e q, (l.map ST.pv)[k]? = some e → (l.map four)[k]? = some q → StP e q := by
 intro k e q he hq
 rw [List.getElem?_map] at he hq
 cases hs : l[k]? with
 | none => rw [hs] at he; cases he
 | some s =>
  rw [hs] at he hq
  simp only [Option.map_some, Option.some.injEq] at he hq
  subst he hq
  exact ⟨rfl, rfl, rfl, rfl, rfl⟩
theorem tmost_s (l : List ST) (hn : l.length ≤ 1048576) : Fn prog 26 [.p (.sl l.length 41 (l.flatMap ST.pv))] (.p (.v (.int .i64 (mostD l)))) [] := by
 have h := most_s (l.map ST.pv) (l.map four) l.length (by simp) (by simp) (by omega) (four_ok l)
 rwa [← List.flatMap_def] at h
theorem rmost_s (l : List ST) (hn : l.length ≤ 1048576) : Fn prog 40 [.p (.sl l.length 41 (l.flatMap ST.pv))] (.p (.v (.int .i64 (mostD l)))) [] := by
 have h := statesMost_s (l.map ST.pv) (l.map four) l.length (by simp) (by simp) (by omega) (four_ok l)
 rwa [← List.flatMap_def] at h
def zf5 (l : List ST) (m : List PE) : Bool := decide (l.map ST.key = m.map PE.key)
theorem zgW {l : List ST} {m : List PE} (h : l.length ≠ m.length) : zf5 l m = false := by
 refine decide_eq_false fun e => h ?_
 have := congrArg List.length e
 simpa using this
theorem keysB_ne {l : List ST} {m : List PE} {i : Nat} {x : ST} {y : PE} (h1 : l[i]? = some x) (h2 : m[i]? = some y) (h : x.key ≠ y.key) : zf5 l m = false := by
 refine decide_eq_false fun e => h ?_
 have := congrArg (fun z : List ByteArray => z[i]?) e
 simpa [h1, h2] using this
theorem keysB_all {l : List ST} {m : List PE} (h : l.length = m.length) (k : ∀ j, j < l.length → (l[j]?).map ST.key = (m[j]?).map PE.key) : zf5 l m = true := by
 refine decide_eq_true ?_
 apply List.ext_getElem?
 intro j
 rw [List.getElem?_map, List.getElem?_map]
 rcases Nat.lt_or_ge j l.length with hj | hj
 ·exact k j hj
 ·rw [List.getElem?_eq_none hj, List.getElem?_eq_none (by omega)]
  rfl
theorem chk1_s (s : ST) (p : PE) : Fn prog 29 [.agg s.cells, .agg p.cells] (.p (.v (.bool (decide (s.key = p.key))))) [] := by
 obtain ⟨k1, e1, a1, b1, c1, h1, q1⟩ := s
 obtain ⟨k2, s2, e2, a2, n2⟩ := p
 show Fn prog _ [.agg (stC k1 e1 a1 b1 c1 h1 q1.length (q1.flatMap PQ.pv)), .agg [.p (.v (.string k2)), .p (.v (.string s2)), .p (.v (.string e2)), .p (.v (.int .i64 a2)), .p (.sl n2.length 2 (n2.flatMap ntC))]] (.p (.v (.bool (decide (k1 = k2))))) _
 generalize q1.flatMap PQ.pv = L1 at *
 generalize q1.length = c at *
 generalize n2.flatMap ntC = L2 at *
 generalize n2.length = d at *
 refine fnI fun w0 A => ?_
 refine G [16, 9, 0] ?_
 exact yE
theorem keys_d (l : List ST) (m : List PE) (hl : l.length ≤ 1048576) (hm : m.length ≤ 1048576) : Fn prog 28 [.p (.sl l.length 41 (l.flatMap ST.pv)), .p (.sl m.length 5 (m.flatMap PE.pv)), .fn 29 []] (.p (.v (.bool (zf5 l m)))) [] := by
 by_cases hlen : l.length = m.length
 rotate_left
 ·rw [zgW hlen]
  generalize l.flatMap ST.pv = L
  generalize m.flatMap PE.pv = M
  exact jay
 obtain ⟨E, hE⟩ : ∃ E, zf5 l m = E := ⟨_, rfl⟩
 rw [hE]
 refine fnI fun w0 A => ?_
 refine G [11, 3, 11] ?_
 refine zag (fun u st => ∃ i : Nat, u + i = l.length ∧ (∀ j, j < i → (l[j]?).map ST.key = (m[j]?).map PE.key) ∧ st = St.of [(1, .p (.sl m.length 5 (m.flatMap PE.pv))), (2, .fn 29 []), (15, .p (.sl l.length 41 (l.flatMap ST.pv))), (16, .p (.v (.int .i64 l.length))), (17, .p (.v (.int .i64 i)))] []) l.length ?_ ?_
 ·exact jas
 rintro u st ⟨i, hi, hf, rfl⟩
 refine G [5] ?_
 refine cX (fun h => ?_) fun h => ?_
 ·have hlt : i < l.length := by simp at h; omega
  clear h
  obtain ⟨x, hx⟩ : ∃ x, l[i]? = some x := ⟨l[i], List.getElem?_eq_getElem hlt⟩
  obtain ⟨y, hy⟩ : ∃ y, m[i]? = some y := ⟨m[i]'(by omega), List.getElem?_eq_getElem (by omega)⟩
  have hch := zar (f := ST.pv) (k := 41) (fun _ => rfl) hx
  have hle := zas (f := ST.pv) (k := 41) (fun _ => rfl) hlt
  have hch2 := zar (f := PE.pv) (k := 5) (fun _ => rfl) hy
  have hle2 := zas (f := PE.pv) (k := 5) (fun _ => rfl) (show i < m.length by omega)
  have hbad := @keysB_ne l m i x y hx hy
  have hxy : x.key = y.key → (l[i]?).map ST.key = (m[i]?).map PE.key := fun e => by rw [hx, hy]; simp [e]
  have hC := chk1_s x y
  generalize l.flatMap ST.pv = L at *
  generalize m.flatMap PE.pv = M at *
  refine G [10] ?_
  refine jdA (zaf (Y := .agg x.cells) sz56 rfl rfl (Nat.eq_of_beq_eq_true rfl)) ?_
  refine G [8] ?_
  refine jdA (zaf (Y := .agg y.cells) sz84 rfl rfl (Nat.eq_of_beq_eq_true rfl)) ?_
  refine zac ?_
  by_cases he : x.key = y.key
  ·rw [decide_eq_true he] at hC
   refine G [3] ?_
   refine jcH ?_
   exact jcg
  ·rw [hbad he] at hE
   subst hE
   rw [decide_eq_false he] at hC
   refine G [3] ?_
   refine jcH ?_
   exact jbw
 have hge : i = l.length := by simp at h; omega
 clear h
 subst hge
 rw [keysB_all hlen hf] at hE
 subst hE
 refine jcs ?_
 exact yE
def okSt (ck : ByteArray) (now : Int) (s : ST) : Prop := ¬ ((ck = ⟨#[]⟩ ∧ (¬ (s.a = KY0 ∧ s.b = KY0 ∧ s.c = KY0) ∨ s.h.lv = true)) ∨ now < s.h.s)
def zgN (d : DM) : Prop := d.gen < 0 ∨ 1099511627776 < d.gen ∨ d.now < 0 ∨ 1099511627776 < d.now ∨ d.last < mostD d.ps ∨ 4294967235 < d.last
def goodD (d : DM) : Prop := ((tOf (zaD d.c.ps d.c.ps.length)).list = d.tree ∧ zf5 d.ps d.c.ps = true) ∧ ∀ s ∈ d.ps, okSt d.c.key d.now s
open Classical in
noncomputable def dmE (d : DM) : Int :=
 if cfE d.c ≠ 0 then cfE d.c else if stsE d.ps ≠ 0 then stsE d.ps else if sgE d.sg ≠ 0 then sgE d.sg else if zgN d then 4 else if goodD d then 0 else 14
theorem dm_good {d : DM} (h : dmE d = 0) : cfE d.c = 0 ∧ stsE d.ps = 0 ∧ sgE d.sg = 0 ∧ ¬ zgN d ∧ goodD d := by
 unfold dmE at h
 by_cases h1 : cfE d.c = 0
 ·rw [if_neg (by simp [h1])] at h
  by_cases h2 : stsE d.ps = 0
  ·rw [if_neg (by simp [h2])] at h
   by_cases h3 : sgE d.sg = 0
   ·rw [if_neg (by simp [h3])] at h
    by_cases h4 : zgN d
    ·rw [if_pos h4] at h; omega
    ·rw [if_neg h4] at h
     by_cases h5 : goodD d
     ·exact ⟨h1, h2, h3, h4, h5⟩
     ·rw [if_neg h5] at h; omega
   ·rw [if_pos h3] at h; exact absurd h h3
  ·rw [if_pos h2] at h; exact absurd h h2
 ·rw [if_pos h1] at h; exact absurd h h1
theorem kE_born {k : KY} (h : kE k = 0) : 0 ≤ k.born ∧ k.born ≤ 1099511627776 := by
 by_cases hl : k.live = true
 ·exact ⟨(zgX h hl).2.2.2.2.2.2.1, (zgX h hl).2.2.2.2.2.2.2⟩
 ·unfold kE at h
  rw [if_pos (by simpa using hl)] at h
  by_cases hz : k.zero = true
  ·have := KY.zero_iff.1 hz
   subst this
   exact ⟨by decide, by decide⟩
  ·rw [if_neg hz] at h; omega
theorem zg3 {x : HS} (h : hsE x = 0) : 0 ≤ x.mine ∧ x.mine ≤ 4294967295 ∧ 0 ≤ x.b ∧ x.b ≤ 1099511627776 ∧ 0 ≤ x.s ∧ x.s ≤ 1099511627776 := by
 unfold hsE at h
 by_cases hl : x.lv = false
 ·rw [if_pos hl] at h
  by_cases hz : x.mine = 0 ∧ x.nc = ⟨#[]⟩ ∧ x.b = 0 ∧ x.s = 0
  ·omega
  ·rw [if_neg hz] at h; omega
 ·rw [if_neg hl] at h
  by_cases h1 : x.nc.size ≠ 16
  ·rw [if_pos h1] at h; omega
  ·rw [if_neg h1] at h
   by_cases h2 : hexE x.nc ≠ 0
   ·rw [if_pos h2] at h; omega
   ·rw [if_neg h2] at h
    by_cases h3 : x.mine < 1 ∨ 4294967295 < x.mine ∨ x.b < 0 ∨ x.s < x.b ∨ 1099511627776 < x.s
    ·rw [if_pos h3] at h; omega
    ·omega
theorem stE_parts {s : ST} (h : stE s = 0) : ksE s.a s.b s.c = 0 ∧ hsE s.h = 0 := by
 unfold stE at h
 by_cases h1 : keyE s.key ≠ 0
 ·rw [if_pos h1] at h; exact absurd h h1
 ·rw [if_neg h1] at h
  by_cases h2 : ksE s.a s.b s.c ≠ 0
  ·rw [if_pos h2] at h; exact absurd h h2
  ·rw [if_neg h2] at h
   by_cases h3 : hsE s.h ≠ 0
   ·rw [if_pos h3] at h; exact absurd h h3
   ·exact ⟨by omega, by omega⟩
theorem sts_each {l : List ST} (h : stsE l = 0) {i : Nat} {s : ST} (hs : l[i]? = some s) : stE s = 0 := by
 have hi := (List.getElem?_eq_some_iff.1 hs).1
 unfold stsE at h
 by_cases h6 : 6 < l.length
 ·rw [if_pos h6] at h; omega
 ·rw [if_neg h6] at h
  have h1 := zeA h i hi
  unfold zeG at h1
  rw [stG_at hs] at h1
  by_cases h2 : stE s ≠ 0
  ·rw [if_pos h2] at h1; exact h1
  ·omega
theorem pe_sh {p : PE} (h : peE p = 0) : p.sh.size ≤ 140737488351232 := by
 unfold peE at h
 by_cases h1 : keyE p.key ≠ 0
 ·rw [if_pos h1] at h; exact absurd h h1
 ·rw [if_neg h1] at h
  by_cases h2 : p.sh ≠ ⟨#[]⟩ ∧ keyE p.sh ≠ 0
  ·rw [if_pos h2] at h; exact absurd h h2.2
  ·by_cases h3 : p.sh = ⟨#[]⟩
   ·rw [h3]; decide
   ·exact zil (Decidable.byContradiction fun h4 => h2 ⟨h3, h4⟩)
structure TkG (d : DM) : Prop where
 n6 : d.ps.length ≤ 6
 c6 : d.c.ps.length ≤ 6
 same : d.ps.length = d.c.ps.length
 born : ∀ (i : Nat) (s : ST), d.ps[i]? = some s → ∀ j, 0 ≤ (zc2 s.a s.b s.c j).born ∧ (zc2 s.a s.b s.c j).born ≤ 1099511627776
 hand : ∀ (i : Nat) (s : ST), d.ps[i]? = some s → hsE s.h = 0
 sh : ∀ (i : Nat) (p : PE), d.c.ps[i]? = some p → p.sh.size ≤ 140737488351232
 now : 0 ≤ d.now ∧ d.now ≤ 1099511627776
 last : d.last ≤ 4294967235
theorem dm_tk {d : DM} (h : dmE d = 0) : TkG d := by
 obtain ⟨h1, h2, h3, h4, h5⟩ := dm_good h
 have hc := zhb h1
 have hlen : d.ps.length = d.c.ps.length := by
  rcases Nat.decEq d.ps.length d.c.ps.length with e | e
  ·have := zgW (l := d.ps) (m := d.c.ps) e
   rw [h5.1.2] at this; cases this
  ·exact e
 refine ⟨by rw [hlen]; exact hc.n6, hc.n6, hlen, fun i s hs j => ?_, fun i s hs => (stE_parts (sts_each h2 hs)).2, fun i p hp => pe_sh (hc.pe p (List.mem_of_getElem? hp)), ?_, ?_⟩
 ·have hk := (stE_parts (sts_each h2 hs)).1
  have hk3 := zeA hk
  have key : ∀ j, j < 3 → 0 ≤ (zc2 s.a s.b s.c j).born ∧ (zc2 s.a s.b s.c j).born ≤ 1099511627776 := fun j hj => kE_born (hk3 j hj)
  unfold zc2 at key ⊢
  have k0 := key 0 (by decide)
  have k1 := key 1 (by decide)
  have k2 := key 2 (by decide)
  simp at k0 k1 k2
  split
  ·exact k0
  ·split
   ·exact k1
   ·exact k2
 ·unfold zgN at h4; omega
 ·unfold zgN at h4; omega
def tkJ (now : Int) (s : ST) (j : Nat) : ST := { s with a := if 0 < j then zbX now s.a else s.a, b := if 1 < j then zbX now s.b else s.b, c := if 2 < j then zbX now s.c else s.c }
theorem tkJ_key (now : Int) (s : ST) (j : Nat) (h : j < 3) : ((tkJ now s j).pv.drop (2 + j * 11)).take 11 = (zc2 s.a s.b s.c j).pv := by
 exact jcj
theorem tkJ_set (now : Int) (s : ST) (j : Nat) (h : j < 3) : setR (tkJ now s j).pv (2 + j * 11) (zbX now (zc2 s.a s.b s.c j)).pv = (tkJ now s (j + 1)).pv := by
 exact jcj
theorem tkJ_keep (now : Int) (s : ST) (j : Nat) (h : j < 3) (e : zbX now (zc2 s.a s.b s.c j) = zc2 s.a s.b s.c j) : tkJ now s (j + 1) = tkJ now s j := by
 match j, h with
 | 0, _ => exact congrArg (fun k => ({ s with a := k } : ST)) e
 | 1, _ => exact congrArg (fun k => ({ s with a := zbX now s.a, b := k } : ST)) e
 | 2, _ => exact congrArg (fun k => ({ s with a := zbX now s.a, b := zbX now s.b, c := k } : ST)) e
def tkP (now : Int) (ps : List ST) (i : Nat) : List ST := (ps.take i).map (tkS now) ++ ps.drop i
theorem zh3 (now : Int) (ps : List ST) (i : Nat) : (tkP now ps i).length = ps.length := by
 unfold tkP
 rw [List.length_append, List.length_map, List.length_take, List.length_drop]
 omega
theorem tkP_at (now : Int) {ps : List ST} {i : Nat} {s : ST} (hs : ps[i]? = some s) : (tkP now ps i)[i]? = some s := by
 have hi := (List.getElem?_eq_some_iff.1 hs).1
 unfold tkP
 have hl : ((ps.take i).map (tkS now)).length = i := by rw [List.length_map, List.length_take]; omega
 rw [List.getElem?_append_right (by omega), hl, List.getElem?_drop, Nat.sub_self, Nat.add_zero, hs]
theorem tkP_next (now : Int) {ps : List ST} {i : Nat} {s : ST} (hs : ps[i]? = some s) : (tkP now ps i).set i (tkS now s) = tkP now ps (i + 1) := by
 obtain ⟨hi, e⟩ := List.getElem?_eq_some_iff.1 hs
 have hl : ((ps.take i).map (tkS now)).length = i := by rw [List.length_map, List.length_take]; omega
 unfold tkP
 rw [List.set_append_right _ _ (by omega), hl, Nat.sub_self, List.take_succ_eq_append_getElem hi, e, List.map_append, List.append_assoc]
 congr 1
 rw [← List.getElem_cons_drop hi, e]
 rfl
theorem tkP_all (now : Int) (ps : List ST) : tkP now ps ps.length = ps.map (tkS now) := by
 unfold tkP
 rw [List.take_length, List.drop_length, List.append_nil]
def tkQ (now : Int) (Z : Nat → List Int) (ps : List ST) : Nat → List LR
 | 0 => []
 | i + 1 => tkQ now Z ps i ++ (match ps[i]? with
  | some s => if tkA now s = true then [⟨⟨#[]⟩, s.ep, Z i⟩] else []
  | none => [])
theorem tkQ_yes {now : Int} {Z : Nat → List Int} {ps : List ST} {i : Nat} {s : ST} (hs : ps[i]? = some s) (h : tkA now s = true) : tkQ now Z ps (i + 1) = tkQ now Z ps i ++ [⟨⟨#[]⟩, s.ep, Z i⟩] := by
 show _ ++ (match ps[i]? with | some s => _ | none => _) = _
 rw [hs]
 show _ ++ (if _ then _ else _) = _
 rw [if_pos h]
theorem tkQ_no {now : Int} {Z : Nat → List Int} {ps : List ST} {i : Nat} {s : ST} (hs : ps[i]? = some s) (h : tkA now s = false) : tkQ now Z ps (i + 1) = tkQ now Z ps i := by
 show _ ++ (match ps[i]? with | some s => _ | none => _) = _
 rw [hs]
 show _ ++ (if _ then _ else _) = _
 rw [if_neg (by rw [h]; simp), List.append_nil]
theorem zh2 (now : Int) (Z : Nat → List Int) (ps : List ST) : ∀ i, (tkQ now Z ps i).length ≤ i
 | 0 => Nat.le_refl _
 | i + 1 => by
  have h := zh2 now Z ps i
  show (tkQ now Z ps i ++ _).length ≤ _
  rw [List.length_append]
  split
  ·split
   ·simp; omega
   ·simp; omega
  ·simp; omega
theorem tkQ_B {now : Int} {Z : Nat → List Int} {ps : List ST} (hZ : ∀ i, isB (Z i)) : ∀ i, ∀ p ∈ tkQ now Z ps i, isB p.xs
 | 0, p, h => by cases h
 | i + 1, p, h => by
  change p ∈ tkQ now Z ps i ++ _ at h
  rcases List.mem_append.1 h with h | h
  ·exact tkQ_B hZ i p h
  ·split at h
   ·split at h
    ·have := List.mem_singleton.1 h
     subst this
     exact hZ i
    ·cases h
   ·cases h
structure TkH (d : DM) (Z : Nat → List Int) (i : Nat) (s : ST) (p : PE) : Prop where
 both : ∃ (m : MS) (e e' : Int),
  Fn prog 35 [.p (.v (.string d.c.key)), .p (.v (.string p.key)), .p (.v (.string p.sh)), .p (.v (.int .i64 s.h.mine)), .p (.v (.string s.h.nc))] (.tup [.agg m.cells, .p (.v (.int .i64 e))]) [] ∧
  Fn prog 45 [.p (.v (.string d.c.key)), .p (.v (.string p.key)), .p (.v (.string p.sh)), .p (.v (.int .i64 s.h.mine)), .p (.v (.string s.h.nc))] (.tup [.agg m.cells, .p (.v (.int .i64 e))]) [] ∧
  Fn prog 73 [.agg m.cells] (.tup [.p (.sl (Z i).length 1 (bs (Z i))), .p (.v (.int .i64 e'))]) [] ∧
  Fn prog 86 [.agg m.cells] (.tup [.row 0, .p (.v (.int .i64 e'))]) [(0, .row 5 1 (Z i).length (bs (Z i)))]
theorem tk_hello {d : DM} (g : TkG d) : ∃ Z : Nat → List Int, (∀ i, isB (Z i)) ∧ ∀ (i : Nat) (s : ST) (p : PE), d.ps[i]? = some s → d.c.ps[i]? = some p → TkH d Z i s p := by
 have key : ∀ i : Nat, ∃ zs : List Int, isB zs ∧ ∀ (s : ST) (p : PE), d.ps[i]? = some s → d.c.ps[i]? = some p → TkH d (fun _ => zs) i s p := by
  intro i
  cases hs : d.ps[i]? with
  | none => exact ⟨[], fun x h => (by cases h), fun s p h => (by cases h)⟩
  | some s =>
   cases hp : d.c.ps[i]? with
   | none => exact ⟨[], fun x h => (by cases h), fun s p _ h => (by cases h)⟩
   | some p =>
    have hsh := g.sh i p hp
    have hr := zg3 (g.hand i s hs)
    have hok := helX_ok d.c.key p.key p.sh s.h.nc s.h.mine
    obtain ⟨zs, hz, w1, w2⟩ := wenc_both (helX d.c.key p.key p.sh s.h.nc s.h.mine) hok.1 hok.2.1 (by omega)
    refine ⟨zs, hz, fun s' p' h1 h2 => ?_⟩
    cases h1
    cases h2
    exact ⟨_, _, _, helloD_s _ _ _ _ _ hsh, refHelloD_s _ _ _ _ _ (by omega) (by omega) hsh, w1, w2⟩
 refine ⟨fun i => (key i).choose, fun i => (key i).choose_spec.1, fun i s p hs hp => ?_⟩
 obtain ⟨hb⟩ := (key i).choose_spec.2 s p hs hp
 exact ⟨hb⟩
end Go.Proofs.YtbjdjclkbjpebaaGreatDoor
