/- A copied configuration, as data. -/
import Derived.Test.YtkdfdcodkeclmaaGreatDoorSSe
import Derived.Test.YtkdfdcodkeclmaaGreatDoorSCf5
import Derived.Test.YtkdfdcodkeclmaaGreatDoorSAl3
namespace Go.Proofs.YtkdfdcodkeclmaaGreatDoor
open Go.RowKit Go.Sort
set_option linter.unusedVariables false
set_option linter.unusedSimpArgs false
set_option maxRecDepth 100000
theorem fn_dataC {P : Program} {f : FuncId} {args : List AV} {a b : PV} {e size n : Nat} {cs : List PV} (h : Fn P f args (.agg [.p a, .p b, .row 0]) [(0, .row e size n cs)]) : Fn P f args (.agg [.p a, .p b, .p (.sl n size cs)]) [] := by
 intro w A us hA hG hr
 refine (h w A us hA hG hr).mono fun en w' ⟨v, he, S', m', h1, h2⟩ => ⟨v, he, fun b => S' b ∨ ∃ v0, m' 0 = some v0 ∧ blk v0 = some b, fun _ => none, ?_, ?_⟩
 ·simp only [Rep, RepL] at h1 ⊢
  obtain ⟨us, rfl, ⟨u0, _, rfl, k0, u1, _, rfl, k1, u2, _, rfl, k2, rfl⟩, k3⟩ := h1
  have hs : ∀ b, S' b → (fun b => S' b ∨ ∃ v0, m' 0 = some v0 ∧ blk v0 = some b) b := fun b hb => .inl hb
  exact ⟨_, rfl, ⟨u0, _, rfl, PRep.mono hs (fun _ _ => rfl) _ _ k0, u1, _, rfl, PRep.mono hs (fun _ _ => rfl) _ _ k1, u2, _, rfl, zeH h2 hs rfl (fun v b hv hb => .inr ⟨v, hv, hb⟩) k2.1, rfl⟩, k3⟩
 ·refine ⟨h2.bel, ?_, ?_, fun o _ => rfl, fun o ob ho => (by cases ho), fun o o' ob ob' v v' b ho => (by cases ho), h2.gl⟩
  ·rintro b (hb | ⟨v0, h3, h4⟩)
   ·exact h2.sA b hb
   ·obtain ⟨v', k1, k2, _⟩ := h2.live 0 _ rfl
    rw [h3] at k1; cases k1
    exact .inr (k2.lt h4).1
  ·rintro b (hb | ⟨v0, h3, h4⟩)
   ·exact h2.sW b hb
   ·obtain ⟨v', k1, k2, _⟩ := h2.live 0 _ rfl
    rw [h3] at k1; cases k1
    exact (k2.lt h4).2
theorem cfCopyD_s (c : CF) (ok : c.OK) : Fn Tryz.prog 21 [.agg c.cells] (.agg c.cells) [] := fn_dataC (zdc c ok)
theorem refCopyD_s (c : CF) (ok : c.OK) : Fn Tryz.prog 26 [.agg c.cells] (.agg c.cells) [] := fn_dataC (za0 c ok)
end Go.Proofs.YtkdfdcodkeclmaaGreatDoor
/- apply.Run and the reference's ApplyAll; the law ApplyRuns, over data. -/
namespace Go.Proofs.YtkdfdcodkeclmaaGreatDoor
open Tryz
open Go.RowKit Go.Sort
set_option linter.unusedVariables false
set_option linter.unusedSimpArgs false
set_option maxRecDepth 100000
theorem refConf0_s (c : CF) (ok : c.OK) : Fn prog 24 [.agg c.cells] (.p (.v (.int .i64 (cfE c)))) [] := zaO c ok
def apL : CF → ByteArray → List SE → Nat → CF × Int × Int
 | c, _, [], _ => (c, 0, 0)
 | c, pt, s :: r, i => if (apO c pt s).2.2 ≠ 0 then (zcf, (i : Int) + 1, (apO c pt s).2.2) else apL (apO c pt s).1 (apO c pt s).2.1 r (i + 1)
def apA (c : CF) (ss : List SE) : CF × Int × Int :=
 if cfE c ≠ 0 then (zcf, 0, cfE c) else if 60 < ss.length then (zcf, 0, 1) else apL c ⟨#[]⟩ ss 0
def ruR (E : CF × Int × Int) : AV := .tup [.agg E.1.cells, .p (.v (.int .i64 E.2.1)), .p (.v (.int .i64 E.2.2))]
def ruV (E : CF × Int × Int) : AV := if E.2.2 ≠ 0 then .tup [.agg [.p (.v (.string ⟨#[]⟩)), .p (.v (.int .i64 0)), .p (.v (.slice none 0 0))], .p (.v (.int .i64 E.2.1)), .p (.v (.int .i64 E.2.2))] else ruR E
theorem ruV_e {a e : Int} (h : e ≠ 0) : ruV (zcf, a, e) = .tup [.agg [.p (.v (.string ⟨#[]⟩)), .p (.v (.int .i64 0)), .p (.v (.slice none 0 0))], .p (.v (.int .i64 a)), .p (.v (.int .i64 e))] := by unfold ruV; rw [if_pos h]
theorem ruV_o {key : ByteArray} {port a : Int} {l : List PE} : ruV (⟨key, port, l⟩, a, 0) = .tup [.agg (cfC key port l.length (l.flatMap PE.pv)), .p (.v (.int .i64 a)), .p (.v (.int .i64 0))] := by unfold ruV; rw [if_neg (by simp)]; rfl
theorem apL_e : ∀ {ss : List SE} {c : CF} {pt : ByteArray} {i : Nat}, (apL c pt ss i).2.2 ≠ 0 → (apL c pt ss i).1 = zcf
 | [], c, pt, i, h => absurd rfl h
 | s :: r, c, pt, i, h => by
  unfold apL at h ⊢
  by_cases h0 : (apO c pt s).2.2 ≠ 0
  ·rw [if_pos h0]
  ·rw [if_neg h0] at h ⊢; exact apL_e h
theorem apA_e {c : CF} {ss : List SE} (h : (apA c ss).2.2 ≠ 0) : (apA c ss).1 = zcf := by
 unfold apA at h ⊢
 by_cases h0 : cfE c ≠ 0
 ·rw [if_pos h0]
 rw [if_neg h0] at h ⊢
 by_cases h1 : 60 < ss.length
 ·rw [if_pos h1]
 rw [if_neg h1] at h ⊢
 exact apL_e h
theorem fn_ru {f : FuncId} {args : List AV} {E : CF × Int × Int} (hz : E.2.2 ≠ 0 → E.1 = zcf) (h : Fn prog f args (ruV E) []) : Fn prog f args (ruR E) [] := by
 obtain ⟨c, a, e⟩ := E
 dsimp only at hz
 by_cases h0 : e ≠ 0
 ·obtain rfl := hz h0
  rw [ruV_e h0] at h
  exact fn_nil (size := 5) h
 ·unfold ruV at h; rw [if_neg h0] at h; exact h
theorem apL_ok : ∀ {ss : List SE} {c : CF} {pt : ByteArray} {i : Nat}, c.OK → (∀ s ∈ ss, s.OK) → (apL c pt ss i).1.OK
 | [], c, pt, i, ok, h => ok
 | s :: r, c, pt, i, ok, h => by
  unfold apL
  by_cases h0 : (apO c pt s).2.2 ≠ 0
  ·rw [if_pos h0]; exact zej (Nat.zero_le _) (fun p hp => by cases hp)
  ·rw [if_neg h0]; exact apL_ok (apO_ok c ok pt s (h s (by simp))) fun x hx => h x (by simp [hx])
theorem apA_ok {c : CF} {ss : List SE} (ok : c.OK) (h : ∀ s ∈ ss, s.OK) : (apA c ss).1.OK := by
 have hz : zcf.OK := zej (Nat.zero_le _) (fun p hp => by cases hp)
 unfold apA
 by_cases h0 : cfE c ≠ 0
 ·rw [if_pos h0]; exact hz
 rw [if_neg h0]
 by_cases h1 : 60 < ss.length
 ·rw [if_pos h1]; exact hz
 rw [if_neg h1]
 exact apL_ok ok h
theorem apL_cons {c : CF} {pt : ByteArray} {ss : List SE} {i : Nat} {x : SE} (hx : ss[i]? = some x) : apL c pt (ss.drop i) i = if (apO c pt x).2.2 ≠ 0 then (zcf, (i : Int) + 1, (apO c pt x).2.2) else apL (apO c pt x).1 (apO c pt x).2.1 (ss.drop (i + 1)) (i + 1) := by
 obtain ⟨h, rfl⟩ := List.getElem?_eq_some_iff.1 hx
 rw [List.drop_eq_getElem_cons h]
 rfl
set_option maxHeartbeats 4000000 in
theorem run_s (c : CF) (ok : c.OK) (ss : List SE) (oks : ∀ s ∈ ss, s.OK) (hl : ss.length ≤ 1048576) : Fn prog 10 [.agg c.cells, .p (.sl ss.length 5 (ss.flatMap SE.pv))] (ruV (apA c ss)) [] := by
 obtain ⟨E, hE⟩ : ∃ E, apA c ss = E := ⟨_, rfl⟩
 rw [hE]
 unfold apA at hE
 have hCf := zbV c ok
 have hCp := cfCopyD_s c ok
 obtain ⟨ce, hce⟩ : ∃ e, cfE c = e := ⟨_, rfl⟩
 rw [hce] at hE hCf
 clear hce
 obtain ⟨key, port, l⟩ := c
 change Fn prog _ [.agg (cfC key port l.length (l.flatMap PE.pv))] (.agg (cfC key port l.length (l.flatMap PE.pv))) _ at hCp
 change Fn prog _ [.agg (cfC key port l.length (l.flatMap PE.pv))] _ _ at hCf
 show Fn prog _ [.agg (cfC key port l.length (l.flatMap PE.pv)), .p (.sl ss.length 5 (ss.flatMap SE.pv))] _ _
 refine fnI fun w0 A => ?_
 refine G [11] ?_
 refine cK hCf ?_
 refine G [7, 9, 0] ?_
 refine zab _ rfl (fun h => ?_) (fun h => ?_)
 ·have h0 : ce ≠ 0 := by simpa using h
  rw [if_pos h0] at hE
  subst hE
  rw [ruV_e h0]
  refine G [9, 9, 0] ?_
  exact yE
 have h0 : ¬ ce ≠ 0 := by simpa using h
 clear h
 rw [if_neg h0] at hE
 refine G [5] ?_
 refine zaa (zaL U35) rfl rfl ?_
 refine G [2, 9, 0] ?_
 refine zab _ rfl (fun h => ?_) (fun h => ?_)
 ·have h1 : 60 < ss.length := by simp at h; omega
  rw [if_pos h1] at hE
  subst hE
  rw [ruV_e (by decide)]
  refine G [8, 9, 0] ?_
  exact yE
 have h1 : ¬ 60 < ss.length := by simp at h; omega
 clear h
 rw [if_neg h1] at hE
 refine G [4] ?_
 refine cK hCp ?_
 refine G [8] ?_
 refine zaa (zaL U35) rfl rfl ?_
 refine G [2] ?_
 clear hCf hCp
 refine zaS ?_
 refine zal (fun m st => ∃ (i : Nat) (d : CF) (pt : ByteArray), m + i = ss.length ∧ d.OK ∧ apL d pt (ss.drop i) i = E ∧ st = St.of [(4, .ref 4 0), (8, .ref 8 0), (9, .p (.v (.string pt))), (27, .p (.sl ss.length 5 (ss.flatMap SE.pv))), (28, .p (.v (.int .i64 ss.length))), (29, .p (.v (.int .i64 i)))] [(4, .box 24 [.p (.v (.string ⟨#[]⟩)), .p (.v (.int .i64 0)), .p (.v (.slice none 0 0))]), (8, .box 24 (cfC d.key d.port d.ps.length (d.ps.flatMap PE.pv)))]) ss.length ?_ ?_
 ·refine ⟨_, zak id _ _ ?_ ?_ rfl, 0, ⟨key, port, l⟩, ⟨#[]⟩, by omega, ok, hE, rfl⟩
  ·(repeat (first | exact trivial | (refine ⟨⟨(by first | rfl | (simp; done) | (simp; omega)), rfl⟩, ?_⟩)))
  ·exact ⟨⟨rfl, rfl⟩, ⟨rfl, rfl⟩, trivial⟩
 clear hE
 rintro m st ⟨i, d, pt, hi, okd, hi2, rfl⟩
 refine G [5] ?_
 refine zab _ rfl (fun h => ?_) (fun h => ?_)
 ·have hlt : i < ss.length := by simp at h; omega
  clear h
  obtain ⟨x, hx⟩ : ∃ x, ss[i]? = some x := ⟨ss[i], List.getElem?_eq_getElem hlt⟩
  have hch := zav (f := SE.pv) (k := 5) (fun _ => rfl) hx
  have hle := zau (f := SE.pv) (k := 5) (fun _ => rfl) hlt
  have okx := oks x (List.mem_of_getElem? hx)
  rw [apL_cons hx] at hi2
  have hC := aone_s d okd pt x okx
  have hO := apO_ok d okd pt x okx
  obtain ⟨⟨c3, nx, e⟩, hr⟩ : ∃ r, apO d pt x = r := ⟨_, rfl⟩
  rw [hr] at hC hO hi2
  clear hr okx okd
  unfold apR at hC
  obtain ⟨key2, port2, l2⟩ := d
  obtain ⟨key3, port3, l3⟩ := c3
  obtain ⟨xk, xt, xn, xa, xb⟩ := x
  dsimp only at hC hO hi2 ⊢
  change Fn prog _ [.agg (cfC key2 port2 l2.length (l2.flatMap PE.pv)), _, .agg [.p (.v (.int .i64 xk)), .p (.v (.string xt)), .p (.v (.int .i64 xn)), .p (.v (.int .u32 xa)), .p (.v (.int .i64 xb))]] (.tup [.agg (cfC key3 port3 l3.length (l3.flatMap PE.pv)), _, _]) _ at hC
  refine G [6] ?_
  refine zaa (zad U35 sz29 (by omega) (by omega) rfl) rfl rfl ?_
  refine zaa (zaq U29 rfl sz29 (by rw [List.length_drop]; exact Nat.le_sub_of_add_le (by rw [Nat.add_comm]; exact hle)) (hch)) rfl rfl ?_
  refine G [2] ?_
  refine zac (zap (Y := .agg [.p (.v (.int .i64 xk)), .p (.v (.string xt)), .p (.v (.int .i64 xn)), .p (.v (.int .u32 xa)), .p (.v (.int .i64 xb))]) sz29 rfl rfl (Nat.eq_of_beq_eq_true rfl)) rfl rfl ⟨rfl, trivial⟩ ?_
  refine G [6] ?_
  refine cK hC ?_
  refine G [15, 9, 0] ?_
  refine zab _ rfl (fun h => ?_) (fun h => ?_)
  ·have h7 : e ≠ 0 := by simpa using h
   rw [if_pos h7] at hi2
   subst hi2
   rw [ruV_e h7]
   refine G [4] ?_
   refine zaa (zas (by first | exact IntWalk.i64_in _ (by omega) | rfl)) rfl rfl ?_
   refine G [6, 9, 0] ?_
   exact yE
  have h7 : ¬ e ≠ 0 := by simpa using h
  clear h
  rw [if_neg h7] at hi2
  refine G [8] ?_
  refine zaa (zas (by first | exact IntWalk.i64_in _ (by omega) | rfl)) rfl rfl ?_
  refine G [2, 9, 0] ?_
  refine ⟨m - 1, by omega, _, zak id _ _ ?_ ?_ rfl, i + 1, ⟨key3, port3, l3⟩, nx, by omega, hO, hi2, rfl⟩
  ·(repeat (first | exact trivial | (refine ⟨⟨(by first | rfl | (simp; done) | (simp; omega)), rfl⟩, ?_⟩)))
  ·exact ⟨⟨rfl, rfl⟩, ⟨rfl, rfl⟩, trivial⟩
 have hge : i = ss.length := by simp at h; omega
 clear h
 subst hge
 rw [List.drop_length] at hi2
 obtain ⟨key2, port2, l2⟩ := d
 unfold apL at hi2
 subst hi2
 rw [ruV_o]
 dsimp only
 refine G [9, 9, 0] ?_
 exact yE
set_option maxHeartbeats 4000000 in
theorem refRun_s (c : CF) (ok : c.OK) (ss : List SE) (oks : ∀ s ∈ ss, s.OK) (hl : ss.length ≤ 1048576) : Fn prog 11 [.agg c.cells, .p (.sl ss.length 5 (ss.flatMap SE.pv))] (ruV (apA c ss)) [] := by
 obtain ⟨E, hE⟩ : ∃ E, apA c ss = E := ⟨_, rfl⟩
 rw [hE]
 unfold apA at hE
 have hCf := refConf0_s c ok
 obtain ⟨ce, hce⟩ : ∃ e, cfE c = e := ⟨_, rfl⟩
 rw [hce] at hE hCf
 clear hce
 obtain ⟨key, port, l⟩ := c
 change Fn prog _ [.agg (cfC key port l.length (l.flatMap PE.pv))] _ _ at hCf
 show Fn prog _ [.agg (cfC key port l.length (l.flatMap PE.pv)), .p (.sl ss.length 5 (ss.flatMap SE.pv))] _ _
 refine fnI fun w0 A => ?_
 refine G [11] ?_
 refine cK hCf ?_
 refine G [7, 9, 0] ?_
 refine zab _ rfl (fun h => ?_) (fun h => ?_)
 ·have h0 : ce ≠ 0 := by simpa using h
  rw [if_pos h0] at hE
  subst hE
  rw [ruV_e h0]
  refine G [9, 9, 0] ?_
  exact yE
 have h0 : ¬ ce ≠ 0 := by simpa using h
 clear h
 rw [if_neg h0] at hE
 refine G [5] ?_
 refine zaa (zaL U35) rfl rfl ?_
 refine G [2, 9, 0] ?_
 refine zab _ rfl (fun h => ?_) (fun h => ?_)
 ·have h1 : 60 < ss.length := by simp at h; omega
  rw [if_pos h1] at hE
  subst hE
  rw [ruV_e (by decide)]
  refine G [8, 9, 0] ?_
  exact yE
 have h1 : ¬ 60 < ss.length := by simp at h; omega
 clear h
 rw [if_neg h1] at hE
 refine G [14] ?_
 clear hCf
 refine zaS ?_
 refine zal (fun m st => ∃ (i : Nat) (d : CF) (pt : ByteArray), m + i = ss.length ∧ d.OK ∧ apL d pt (ss.drop i) i = E ∧ st = St.of [(1, .p (.sl ss.length 5 (ss.flatMap SE.pv))), (2, .ref 2 0), (4, .ref 4 0), (8, .p (.v (.string pt))), (10, .p (.v (.int .i64 i)))] [(2, .box 24 (cfC d.key d.port d.ps.length (d.ps.flatMap PE.pv))), (4, .box 24 [.p (.v (.string ⟨#[]⟩)), .p (.v (.int .i64 0)), .p (.v (.slice none 0 0))])]) ss.length ?_ ?_
 ·refine ⟨_, zak id _ _ ?_ ?_ rfl, 0, ⟨key, port, l⟩, ⟨#[]⟩, by omega, ok, hE, rfl⟩
  ·(repeat (first | exact trivial | (refine ⟨⟨(by first | rfl | (simp; done) | (simp; omega)), rfl⟩, ?_⟩)))
  ·exact ⟨⟨rfl, rfl⟩, ⟨rfl, rfl⟩, trivial⟩
 clear hE
 rintro m st ⟨i, d, pt, hi, okd, hi2, rfl⟩
 refine G [5] ?_
 refine zaa (zaL U35) rfl rfl ?_
 refine G [2, 9, 0] ?_
 refine zab _ rfl (fun h => ?_) (fun h => ?_)
 ·have hlt : i < ss.length := by simp at h; omega
  clear h
  obtain ⟨x, hx⟩ : ∃ x, ss[i]? = some x := ⟨ss[i], List.getElem?_eq_getElem hlt⟩
  have hch := zav (f := SE.pv) (k := 5) (fun _ => rfl) hx
  have hle := zau (f := SE.pv) (k := 5) (fun _ => rfl) hlt
  have okx := oks x (List.mem_of_getElem? hx)
  rw [apL_cons hx] at hi2
  have hC := refOne_s d okd pt x okx
  have hO := apO_ok d okd pt x okx
  obtain ⟨⟨c3, nx, e⟩, hr⟩ : ∃ r, apO d pt x = r := ⟨_, rfl⟩
  rw [hr] at hC hO hi2
  clear hr okx okd
  unfold apR at hC
  obtain ⟨key2, port2, l2⟩ := d
  obtain ⟨key3, port3, l3⟩ := c3
  obtain ⟨xk, xt, xn, xa, xb⟩ := x
  dsimp only at hC hO hi2 ⊢
  change Fn prog _ [.agg (cfC key2 port2 l2.length (l2.flatMap PE.pv)), _, .agg [.p (.v (.int .i64 xk)), .p (.v (.string xt)), .p (.v (.int .i64 xn)), .p (.v (.int .u32 xa)), .p (.v (.int .i64 xb))]] (.tup [.agg (cfC key3 port3 l3.length (l3.flatMap PE.pv)), _, _]) _ at hC
  refine G [9] ?_
  refine zaa (zad U35 sz29 (by omega) (by omega) rfl) rfl rfl ?_
  refine zaa (zaq U29 rfl sz29 (by rw [List.length_drop]; exact Nat.le_sub_of_add_le (by rw [Nat.add_comm]; exact hle)) (hch)) rfl rfl ?_
  refine cK hC ?_
  refine G [13, 9, 0] ?_
  refine zab _ rfl (fun h => ?_) (fun h => ?_)
  ·have h7 : e ≠ 0 := by simpa using h
   rw [if_pos h7] at hi2
   subst hi2
   rw [ruV_e h7]
   refine G [4] ?_
   refine zaa (zas (by first | exact IntWalk.i64_in _ (by omega) | rfl)) rfl rfl ?_
   refine G [6, 9, 0] ?_
   exact yE
  have h7 : ¬ e ≠ 0 := by simpa using h
  clear h
  rw [if_neg h7] at hi2
  refine G [3] ?_
  refine zaa (zas (by first | exact IntWalk.i64_in _ (by omega) | rfl)) rfl rfl ?_
  refine G [2, 9, 0] ?_
  refine ⟨m - 1, by omega, _, zak id _ _ ?_ ?_ rfl, i + 1, ⟨key3, port3, l3⟩, nx, by omega, hO, hi2, rfl⟩
  ·(repeat (first | exact trivial | (refine ⟨⟨(by first | rfl | (simp; done) | (simp; omega)), rfl⟩, ?_⟩)))
  ·exact ⟨⟨rfl, rfl⟩, ⟨rfl, rfl⟩, trivial⟩
 have hge : i = ss.length := by simp at h; omega
 clear h
 subst hge
 rw [List.drop_length] at hi2
 have hCp := refCopyD_s d okd
 obtain ⟨key2, port2, l2⟩ := d
 change Fn prog _ [.agg (cfC key2 port2 l2.length (l2.flatMap PE.pv))] (.agg (cfC key2 port2 l2.length (l2.flatMap PE.pv))) _ at hCp
 unfold apL at hi2
 subst hi2
 rw [ruV_o]
 dsimp only
 refine G [4] ?_
 refine cK hCp ?_
 refine G [5, 9, 0] ?_
 exact yE
end Go.Proofs.YtkdfdcodkeclmaaGreatDoor
