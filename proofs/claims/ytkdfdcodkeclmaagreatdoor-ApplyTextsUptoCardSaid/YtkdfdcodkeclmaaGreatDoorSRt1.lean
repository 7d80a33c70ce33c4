/- apply.Text, the reference's ApplyText; the law ApplyTexts, over data. -/
import Derived.Test.YtkdfdcodkeclmaaGreatDoorSRu1
import Derived.Test.YtkdfdcodkeclmaaGreatDoorSBp1
namespace Go.Proofs.YtkdfdcodkeclmaaGreatDoor
open Tryz
open Go.RowKit Go.Sort
set_option linter.unusedVariables false
set_option linter.unusedSimpArgs false
set_option maxRecDepth 100000
theorem fn_dataT {P : Program} {f : FuncId} {args : List AV} {x y : PV} {e size n : Nat} {cs : List PV} (h : Fn P f args (.tup [.row 0, .p x, .p y]) [(0, .row e size n cs)]) : Fn P f args (.tup [.p (.sl n size cs), .p x, .p y]) [] := by
 intro w A us hA hG hr
 refine (h w A us hA hG hr).mono fun en w' ⟨v, he, S', m', h1, h2⟩ => ⟨v, he, fun b => S' b ∨ ∃ v0, m' 0 = some v0 ∧ blk v0 = some b, fun _ => none, ?_, ?_⟩
 ·simp only [Rep, RepL] at h1 ⊢
  obtain ⟨ts, rfl, t0, _, rfl, k0, t1, _, rfl, k1, t2, _, rfl, k2, rfl⟩ := h1
  have hs : ∀ b, S' b → (fun b => S' b ∨ ∃ v0, m' 0 = some v0 ∧ blk v0 = some b) b := fun b hb => .inl hb
  exact ⟨_, rfl, t0, _, rfl, zeH h2 hs rfl (fun v b hv hb => .inr ⟨v, hv, hb⟩) k0.1, t1, _, rfl, PRep.mono hs (fun _ _ => rfl) _ _ k1, t2, _, rfl, PRep.mono hs (fun _ _ => rfl) _ _ k2, rfl⟩
 ·refine ⟨h2.bel, ?_, ?_, fun o _ => rfl, fun o ob ho => (by cases ho), fun o o' ob ob' v v' b ho => (by cases ho), h2.gl⟩
  ·rintro b (hb | ⟨v0, h3, h4⟩)
   ·exact h2.sA b hb
   ·obtain ⟨v', k1, k2, _⟩ := h2.live 0 _ rfl
    rw [h3] at k1; cases k1
    exact .inr (k2.lt h4).1
  ·rintro b (hb | ⟨v0, h3, h4⟩)
   ·exact h2.sW b hb
   ·obtain ⟨v', k1, k2, _⟩ := h2.live 0 _ rfl
    rw [h3] at k1; cases k1
    exact (k2.lt h4).2
theorem fn_nilT {P : Program} {f : FuncId} {args : List AV} {x y : PV} {size : Nat} (h : Fn P f args (.tup [.p (.v (.slice none 0 0)), .p x, .p y]) []) : Fn P f args (.tup [.p (.sl 0 size []), .p x, .p y]) [] := by
 intro w A us hA hG hr
 refine (h w A us hA hG hr).mono fun en w' ⟨v, he, S', m', h1, h2⟩ => ⟨v, he, S', m', ?_, h2⟩
 simp only [Rep, RepL] at h1 ⊢
 obtain ⟨ts, rfl, t0, _, rfl, k0, t1, _, rfl, k1, t2, _, rfl, k2, rfl⟩ := h1
 simp only [PRep] at k0
 obtain ⟨rfl, _⟩ := k0
 refine ⟨_, rfl, _, _, rfl, ?_, t1, _, rfl, k1, t2, _, rfl, k2, rfl⟩
 simp only [PRep, PRepL]
 exact ⟨none, 0, [], rfl, Nat.le_refl _, by simp, rfl, by simp⟩
noncomputable def bpD (s : ByteArray) : List SE × Int × Int := match bpO s with
 | some (n, e) => ([], n, e)
 | none => (((spl s 10).map lnOf).map rdS, 0, 0)
theorem bpD_s {f : FuncId} {s : ByteArray} (h : Fn prog f [.p (.v (.string s))] (spR (bpO s)) (bpN (((spl s 10).map lnOf).map rdS) (bpO s))) : Fn prog f [.p (.v (.string s))] (.tup [.p (.sl (bpD s).1.length 5 ((bpD s).1.flatMap SE.pv)), .p (.v (.int .i64 (bpD s).2.1)), .p (.v (.int .i64 (bpD s).2.2))]) [] := by
 unfold bpD
 cases hq : bpO s with
 | some x =>
  rw [hq] at h
  exact fn_nilT (size := 5) h
 | none =>
  rw [hq] at h
  exact fn_dataT h
theorem SE0_ok : SE.OK SE0 := ⟨show (0 : Nat) < _ by omega, by simp [SE0], by simp [SE0], by simp [SE0], by simp [SE0]⟩
theorem bpD_ok (s : ByteArray) : (∀ x ∈ (bpD s).1, x.OK) ∧ (bpD s).1.length ≤ 1048576 := by
 unfold bpD
 cases hq : bpO s with
 | some x => exact ⟨fun x hx => by simp at hx, Nat.zero_le _⟩
 | none =>
  have hsp : s.size ≤ 3000 ∧ cntB s 10 ≤ 59 := by
   unfold bpO at hq
   cases hr : spO s with
   | some x => rw [hr] at hq; cases hq
   | none => exact zgy hr
  refine ⟨fun x hx => ?_, ?_⟩
  ·obtain ⟨p, hp, rfl⟩ := List.mem_map.1 hx
   have hz := zgT hsp.1 p hp
   unfold rdS
   by_cases h0 : kd p.1 = 0
   ·rw [if_pos h0]; exact SE0_ok
   rw [if_neg h0]
   by_cases h1 : isL (bc (kd p.1) p.2) p.1 p.2
   ·rw [if_pos h1]
    obtain ⟨j, _, hj⟩ := bc_in4 (kd p.1) p.2
    rw [← hj]
    exact C4_ok (by omega) j
   ·rw [if_neg h1]; exact SE0_ok
  ·show (((spl s 10).map lnOf).map rdS).length ≤ _
   rw [List.length_map, List.length_map, zb5]; omega
noncomputable def atE (c : CF) (s : ByteArray) : CF × Int × Int :=
 if cfE c ≠ 0 then (zcf, 0, cfE c) else if (bpD s).2.2 ≠ 0 then (zcf, (bpD s).2.1, (bpD s).2.2) else apA c (bpD s).1
def ruN (a e : Int) : AV := .tup [.agg [.p (.v (.string ⟨#[]⟩)), .p (.v (.int .i64 0)), .p (.v (.slice none 0 0))], .p (.v (.int .i64 a)), .p (.v (.int .i64 e))]
noncomputable def atV (c : CF) (s : ByteArray) : AV :=
 if cfE c ≠ 0 then ruN 0 (cfE c) else if (bpD s).2.2 ≠ 0 then ruN (bpD s).2.1 (bpD s).2.2 else ruR (apA c (bpD s).1)
theorem fn_at {f : FuncId} {args : List AV} {c : CF} {s : ByteArray} (h : Fn prog f args (atV c s) []) : Fn prog f args (ruR (atE c s)) [] := by
 unfold atV at h
 unfold atE
 by_cases h0 : cfE c ≠ 0
 ·rw [if_pos h0] at h ⊢; exact fn_nil (size := 5) h
 rw [if_neg h0] at h ⊢
 by_cases h1 : (bpD s).2.2 ≠ 0
 ·rw [if_pos h1] at h ⊢; exact fn_nil (size := 5) h
 rw [if_neg h1] at h ⊢
 exact h
theorem atE_ok {c : CF} (ok : c.OK) (s : ByteArray) : (atE c s).1.OK := by
 have hz : zcf.OK := zej (Nat.zero_le _) (fun p hp => by cases hp)
 unfold atE
 by_cases h0 : cfE c ≠ 0
 ·rw [if_pos h0]; exact hz
 rw [if_neg h0]
 by_cases h1 : (bpD s).2.2 ≠ 0
 ·rw [if_pos h1]; exact hz
 rw [if_neg h1]
 exact apA_ok ok (bpD_ok s).1
theorem text_s (c : CF) (ok : c.OK) (s : ByteArray) : Fn prog 17 [.agg c.cells, .p (.v (.string s))] (atV c s) [] := by
 obtain ⟨E, hE⟩ : ∃ E, atV c s = E := ⟨_, rfl⟩
 rw [hE]
 unfold atV at hE
 have hCf := zbV c ok
 have hP := bpD_s (bparse_s s)
 have hR := fn_ru apA_e (run_s c ok (bpD s).1 (bpD_ok s).1 (bpD_ok s).2)
 obtain ⟨⟨ss, a, e⟩, hb⟩ : ∃ y, bpD s = y := ⟨_, rfl⟩
 rw [hb] at hP hR hE
 clear hb
 dsimp only at hP hR hE
 obtain ⟨⟨c2, a2, e2⟩, hr⟩ : ∃ y, apA c ss = y := ⟨_, rfl⟩
 rw [hr] at hR hE
 clear hr ok
 unfold ruR at hR hE
 obtain ⟨ce, hce⟩ : ∃ e, cfE c = e := ⟨_, rfl⟩
 rw [hce] at hCf hE
 clear hce
 obtain ⟨key, port, l⟩ := c
 obtain ⟨key2, port2, l2⟩ := c2
 dsimp only at hE
 change Fn prog _ [.agg (cfC key port l.length (l.flatMap PE.pv))] _ _ at hCf
 change Fn prog _ [.agg (cfC key port l.length (l.flatMap PE.pv)), _] (.tup [.agg (cfC key2 port2 l2.length (l2.flatMap PE.pv)), _, _]) _ at hR
 change (if ce ≠ 0 then ruN 0 ce else if e ≠ 0 then ruN a e else .tup [.agg (cfC key2 port2 l2.length (l2.flatMap PE.pv)), _, _]) = E at hE
 show Fn prog _ [.agg (cfC key port l.length (l.flatMap PE.pv)), _] _ _
 generalize l.flatMap PE.pv = L at *
 generalize l2.flatMap PE.pv = L2 at *
 generalize ss.flatMap SE.pv = S at *
 refine fnI fun w0 A => ?_
 refine G [11] ?_
 refine cK hCf ?_
 refine G [7, 9, 0] ?_
 refine zab _ rfl (fun h => ?_) (fun h => ?_)
 ·have h0 : ce ≠ 0 := by simpa using h
  rw [if_pos h0] at hE
  subst hE
  unfold ruN
  refine G [9, 9, 0] ?_
  exact yE
 have h0 : ¬ ce ≠ 0 := by simpa using h
 clear h
 rw [if_neg h0] at hE
 refine G [4] ?_
 refine cK hP ?_
 refine G [14, 9, 0] ?_
 refine zab _ rfl (fun h => ?_) (fun h => ?_)
 ·have h1 : e ≠ 0 := by simpa using h
  rw [if_pos h1] at hE
  subst hE
  unfold ruN
  refine G [10, 9, 0] ?_
  exact yE
 have h1 : ¬ e ≠ 0 := by simpa using h
 clear h
 rw [if_neg h1] at hE
 subst hE
 refine G [5] ?_
 refine cK hR ?_
 refine G [8, 9, 0] ?_
 exact yE
theorem refText_s (c : CF) (ok : c.OK) (s : ByteArray) : Fn prog 18 [.agg c.cells, .p (.v (.string s))] (atV c s) [] := by
 obtain ⟨E, hE⟩ : ∃ E, atV c s = E := ⟨_, rfl⟩
 rw [hE]
 unfold atV at hE
 have hCf := zaO c ok
 have hP := bpD_s (refBatch_s s)
 have hR := fn_ru apA_e (refRun_s c ok (bpD s).1 (bpD_ok s).1 (bpD_ok s).2)
 obtain ⟨⟨ss, a, e⟩, hb⟩ : ∃ y, bpD s = y := ⟨_, rfl⟩
 rw [hb] at hP hR hE
 clear hb
 dsimp only at hP hR hE
 obtain ⟨⟨c2, a2, e2⟩, hr⟩ : ∃ y, apA c ss = y := ⟨_, rfl⟩
 rw [hr] at hR hE
 clear hr ok
 unfold ruR at hR hE
 obtain ⟨ce, hce⟩ : ∃ e, cfE c = e := ⟨_, rfl⟩
 rw [hce] at hCf hE
 clear hce
 obtain ⟨key, port, l⟩ := c
 obtain ⟨key2, port2, l2⟩ := c2
 dsimp only at hE
 change Fn prog _ [.agg (cfC key port l.length (l.flatMap PE.pv))] _ _ at hCf
 change Fn prog _ [.agg (cfC key port l.length (l.flatMap PE.pv)), _] (.tup [.agg (cfC key2 port2 l2.length (l2.flatMap PE.pv)), _, _]) _ at hR
 change (if ce ≠ 0 then ruN 0 ce else if e ≠ 0 then ruN a e else .tup [.agg (cfC key2 port2 l2.length (l2.flatMap PE.pv)), _, _]) = E at hE
 show Fn prog _ [.agg (cfC key port l.length (l.flatMap PE.pv)), _] _ _
 generalize l.flatMap PE.pv = L at *
 generalize l2.flatMap PE.pv = L2 at *
 generalize ss.flatMap SE.pv = S at *
 refine fnI fun w0 A => ?_
 refine G [11] ?_
 refine cK hCf ?_
 refine G [7, 9, 0] ?_
 refine zab _ rfl (fun h => ?_) (fun h => ?_)
 ·have h0 : ce ≠ 0 := by simpa using h
  rw [if_pos h0] at hE
  subst hE
  unfold ruN
  refine G [9, 9, 0] ?_
  exact yE
 have h0 : ¬ ce ≠ 0 := by simpa using h
 clear h
 rw [if_neg h0] at hE
 refine G [4] ?_
 refine cK hP ?_
 refine G [14, 9, 0] ?_
 refine zab _ rfl (fun h => ?_) (fun h => ?_)
 ·have h1 : e ≠ 0 := by simpa using h
  rw [if_pos h1] at hE
  subst hE
  unfold ruN
  refine G [10, 9, 0] ?_
  exact yE
 have h1 : ¬ e ≠ 0 := by simpa using h
 clear h
 rw [if_neg h1] at hE
 subst hE
 refine G [5] ?_
 refine cK hR ?_
 refine G [8, 9, 0] ?_
 exact yE
theorem law_ApplyTexts (x0 : List PV) (ty0 : Ty prog 10 24 x0) (hb0 : PV.bdL 1048576 x0) (x1 : List PV) (ty1 : Ty prog 10 9 x1) (hb1 : PV.bdL 1048576 x1) :
  Fn prog 6 [argAV true x0, argAV false x1] (.p (.v (.bool true))) [] := by
 obtain ⟨c, ok, rfl⟩ := CF.of_ty ty0 hb0
 obtain ⟨s, rfl, _⟩ := zcQ U9 ty1
 have p1 := fn_at (text_s c ok s)
 have q1 := fn_at (refText_s c ok s)
 have pS := sameConf_s (atE c s).1 (atE_ok ok s)
 obtain ⟨⟨c2, a, e⟩, hr⟩ : ∃ r, atE c s = r := ⟨_, rfl⟩
 rw [hr] at p1 q1 pS
 dsimp only at pS
 clear hr ok
 unfold ruR at p1 q1
 dsimp only at p1 q1
 obtain ⟨key, port, l⟩ := c
 obtain ⟨key2, port2, l2⟩ := c2
 change Fn prog _ [.agg (cfC key port l.length (l.flatMap PE.pv)), _] (.tup [.agg (cfC key2 port2 l2.length (l2.flatMap PE.pv)), _, _]) _ at p1 q1
 change Fn prog _ [.agg (cfC key2 port2 l2.length (l2.flatMap PE.pv)), .agg (cfC key2 port2 l2.length (l2.flatMap PE.pv))] _ _ at pS
 show Fn prog 6 [.agg (cfC key port l.length (l.flatMap PE.pv)), .p (.v (.string s))] (.p (.v (.bool true))) []
 generalize l.flatMap PE.pv = L at *
 generalize l2.flatMap PE.pv = L2 at *
 refine fnI fun w0 A => ?_
 refine G [9] ?_
 refine cK p1 ?_
 refine G [13] ?_
 refine cK q1 ?_
 refine G [13] ?_
 refine cK pS ?_
 refine G [3, 1, 4, 1, 4, 9, 0] ?_
 exact yE
end Go.Proofs.YtkdfdcodkeclmaaGreatDoor
