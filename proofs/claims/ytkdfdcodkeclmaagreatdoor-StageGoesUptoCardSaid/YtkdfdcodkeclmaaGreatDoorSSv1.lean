/- What a staged batch does, step by step: as plain data; copies of stages as data. -/
import Derived.Test.YtkdfdcodkeclmaaGreatDoorSSg1
import Derived.Test.YtkdfdcodkeclmaaGreatDoorSSg3
namespace Go.Proofs.YtkdfdcodkeclmaaGreatDoor
open Tryz
open Go.RowKit Go.Sort
set_option linter.unusedVariables false
set_option linter.unusedSimpArgs false
set_option maxRecDepth 100000
theorem fn_dataS {P : Program} {f : FuncId} {args : List AV} {e size n : Nat} {cs : List PV} (h : Fn P f args (.row 0) [(0, .row e size n cs)]) : Fn P f args (.p (.sl n size cs)) [] := by
 intro w A us hA hG hr
 refine (h w A us hA hG hr).mono fun en w' ⟨v, he, S', m', h1, h2⟩ => ⟨v, he, fun b => S' b ∨ ∃ v0, m' 0 = some v0 ∧ blk v0 = some b, fun _ => none, ?_, ?_⟩
 ·simp only [Rep] at h1 ⊢
  have hs : ∀ b, S' b → (fun b => S' b ∨ ∃ v0, m' 0 = some v0 ∧ blk v0 = some b) b := fun b hb => .inl hb
  exact zeS h2 hs rfl (fun v b hv hb => .inr ⟨v, hv, hb⟩) h1.1
 ·refine ⟨h2.bel, ?_, ?_, fun o _ => rfl, fun o ob ho => (by cases ho), fun o o' ob ob' v v' b ho => (by cases ho), h2.gl⟩
  ·rintro b (hb | ⟨v0, h3, h4⟩)
   ·exact h2.sA b hb
   ·obtain ⟨v', k1, k2, _⟩ := h2.live 0 _ rfl
    rw [h3] at k1; cases k1
    exact .inr (k2.lt h4).1
  ·rintro b (hb | ⟨v0, h3, h4⟩)
   ·exact h2.sW b hb
   ·obtain ⟨v', k1, k2, _⟩ := h2.live 0 _ rfl
    rw [h3] at k1; cases k1
    exact (k2.lt h4).2
theorem fn_res {P : Program} {f : FuncId} {args : List AV} {res res' : AV} {news : List (Nat × AObj)} (hm : ∀ S m w v, Rep S m w res v → Rep S m w res' v) (h : Fn P f args res news) : Fn P f args res' news := by
 intro w A us hA hG hr
 exact (h w A us hA hG hr).mono fun en w' ⟨v, he, S', m', h1, h2⟩ => ⟨v, he, S', m', hm _ _ _ _ h1, h2⟩
theorem zgx {S : Nat → Prop} {w : World} {size : Nat} {u : Value} (h : PRep S w (.v (.slice none 0 0)) u) : PRep S w (.sl 0 size []) u := by
 simp only [PRep] at h
 obtain ⟨rfl, _⟩ := h
 simp only [PRep, PRepL]
 exact ⟨none, 0, [], rfl, Nat.le_refl _, qS, rfl, qS⟩
theorem scloneD_s (l : List SE) (hn : l.length ≤ 1048576) : Fn prog 35 [.p (.sl l.length 5 (l.flatMap SE.pv))] (.p (.sl l.length 5 (l.flatMap SE.pv))) [] := fn_dataS (sclone_s l hn)
def zsg : SG := ⟨false, [], zcf, ⟨#[]⟩, 0⟩
def zsgV : List AV := [.p (.v (.bool false)), .p (.v (.slice none 0 0)), .p (.v (.string ⟨#[]⟩)), .p (.v (.int .i64 0)), .p (.v (.slice none 0 0)), .p (.v (.string ⟨#[]⟩)), .p (.v (.int .i64 0))]
def stG : Nat → SG → SG
 | 0, d => d
 | n + 1, ⟨lv, [], c, p, e⟩ => ⟨lv, [], c, p, e⟩
 | n + 1, ⟨lv, x :: r, c, p, e⟩ => if e ≠ 0 then ⟨lv, x :: r, c, p, e⟩ else if (apO c p x).2.2 ≠ 0 then ⟨lv, x :: r, c, p, (apO c p x).2.2⟩ else stG n ⟨lv, r, (apO c p x).1, (apO c p x).2.1, e⟩
theorem zgp (n : Nat) (lv : Bool) (c : CF) (p : ByteArray) (e : Int) : stG n ⟨lv, [], c, p, e⟩ = ⟨lv, [], c, p, e⟩ := by cases n <;> rfl
theorem stG_err (n : Nat) {lv : Bool} {r : List SE} {c : CF} {p : ByteArray} {e : Int} (h : e ≠ 0) : stG n ⟨lv, r, c, p, e⟩ = ⟨lv, r, c, p, e⟩ := by
 cases n with
 | zero => rfl
 | succ n =>
  cases r with
  | nil => rfl
  | cons x r => unfold stG; rw [if_pos h]
theorem stG_bad {n : Nat} {lv : Bool} {x : SE} {r : List SE} {c : CF} {p : ByteArray} (h : (apO c p x).2.2 ≠ 0) : stG (n + 1) ⟨lv, x :: r, c, p, 0⟩ = ⟨lv, x :: r, c, p, (apO c p x).2.2⟩ := by
 unfold stG; rw [if_neg (by simp), if_pos h]
theorem stG_go {n : Nat} {lv : Bool} {x : SE} {r : List SE} {c : CF} {p : ByteArray} (h : ¬ (apO c p x).2.2 ≠ 0) : stG (n + 1) ⟨lv, x :: r, c, p, 0⟩ = stG n ⟨lv, r, (apO c p x).1, (apO c p x).2.1, 0⟩ := by
 rw [stG, if_neg (by simp), if_neg h]
theorem stG_len : ∀ (r : List SE) (n : Nat) (lv : Bool) (c : CF) (p : ByteArray) (e : Int), r.length ≤ n → stG n ⟨lv, r, c, p, e⟩ = stG r.length ⟨lv, r, c, p, e⟩
 | [], n, lv, c, p, e, h => by rw [zgp]; rfl
 | x :: r, 0, lv, c, p, e, h => by simp at h
 | x :: r, n + 1, lv, c, p, e, h => by
  rw [List.length_cons] at h ⊢
  have ih := stG_len r n lv (apO c p x).1 (apO c p x).2.1 e qO
  unfold stG
  rw [ih]
theorem stG_ok : ∀ (r : List SE) (n : Nat) (lv : Bool) (c : CF) (p : ByteArray) (e : Int), (∀ x ∈ r, x.OK) → c.OK → (stG n ⟨lv, r, c, p, e⟩).rest.length ≤ r.length ∧ (stG n ⟨lv, r, c, p, e⟩).c.OK
 | [], n, lv, c, p, e, h, ok => by rw [zgp]; exact ⟨Nat.le_refl _, ok⟩
 | x :: r, 0, lv, c, p, e, h, ok => ⟨Nat.le_refl _, ok⟩
 | x :: r, n + 1, lv, c, p, e, h, ok => by
  have ih := stG_ok r n lv (apO c p x).1 (apO c p x).2.1 e (fun y hy => h y (by simp [hy])) (apO_ok c ok p x (h x (by simp)))
  unfold stG
  by_cases h0 : e ≠ 0
  ·rw [if_pos h0]; exact ⟨Nat.le_refl _, ok⟩
  rw [if_neg h0]
  by_cases h1 : (apO c p x).2.2 ≠ 0
  ·rw [if_pos h1]; exact ⟨Nat.le_refl _, ok⟩
  rw [if_neg h1]
  exact ⟨Nat.le_trans ih.1 qS, ih.2⟩
def stE (s : SG) (n : Int) : SG × Int := if sgE s ≠ 0 then (zsg, sgE s) else if s.lv = false then (zsg, 13) else if n < 0 then (zsg, 4) else (stG n.toNat s, 0)
def stR (E : SG × Int) : AV := .tup [.agg E.1.cells, .p (.v (.int .i64 E.2))]
def stV (E : SG × Int) : AV := if E.2 ≠ 0 then .tup [.agg zsgV, .p (.v (.int .i64 E.2))] else stR E
theorem stV_e {e : Int} (h : e ≠ 0) : stV (zsg, e) = .tup [.agg zsgV, .p (.v (.int .i64 e))] := by unfold stV; rw [if_pos h]
theorem stV_o {d : SG} : stV (d, 0) = .tup [.agg (sgC d.lv d.rest.length (d.rest.flatMap SE.pv) d.c.key d.c.port d.c.ps.length (d.c.ps.flatMap PE.pv) d.at_ d.err), .p (.v (.int .i64 0))] := by unfold stV; rw [if_neg (by simp)]; rfl
theorem stE_e {s : SG} {n : Int} (h : (stE s n).2 ≠ 0) : (stE s n).1 = zsg := by
 unfold stE at h ⊢
 by_cases h0 : sgE s ≠ 0
 ·rw [if_pos h0]
 rw [if_neg h0] at h ⊢
 by_cases h1 : s.lv = false
 ·rw [if_pos h1]
 rw [if_neg h1] at h ⊢
 by_cases h2 : n < 0
 ·rw [if_pos h2]
 rw [if_neg h2] at h
 exact absurd rfl h
theorem zsg_rep (S : Nat → Prop) (m : Nat → Option Value) (w : World) (e : Int) (v : Value) (h : Rep S m w (.tup [.agg zsgV, .p (.v (.int .i64 e))]) v) : Rep S m w (.tup [.agg zsg.cells, .p (.v (.int .i64 e))]) v := by
 simp only [zsgV, zsg, zcf, SG.cells, sgC, List.length_nil, List.flatMap_nil, Rep, RepL] at h ⊢
 obtain ⟨ts, rfl, t0, _, rfl, ⟨us, rfl, ⟨u0, _, rfl, k0, u1, _, rfl, k1, u2, _, rfl, k2, u3, _, rfl, k3, u4, _, rfl, k4, u5, _, rfl, k5, u6, _, rfl, k6, rfl⟩, k⟩, t1, _, rfl, q, rfl⟩ := h
 exact ⟨_, rfl, _, _, rfl, ⟨_, rfl, ⟨u0, _, rfl, k0, u1, _, rfl, zgx k1, u2, _, rfl, k2, u3, _, rfl, k3, u4, _, rfl, zgx k4, u5, _, rfl, k5, u6, _, rfl, k6, rfl⟩, k⟩, t1, _, rfl, q, rfl⟩
theorem fn_st {f : FuncId} {args : List AV} {E : SG × Int} (hz : E.2 ≠ 0 → E.1 = zsg) (h : Fn prog f args (stV E) []) : Fn prog f args (stR E) [] := by
 obtain ⟨d, e⟩ := E
 dsimp only at hz
 by_cases h0 : e ≠ 0
 ·obtain rfl := hz h0
  rw [stV_e h0] at h
  exact fn_res (fun S m w v hv => zsg_rep S m w e v hv) h
 ·unfold stV at h; rw [if_neg h0] at h; exact h
theorem stE_ok {s : SG} (ok : s.OK) (n : Int) : (stE s n).1.rest.length ≤ 1048576 ∧ (stE s n).1.c.OK := by
 have hz : zsg.rest.length ≤ 1048576 ∧ zsg.c.OK := ⟨Nat.zero_le _, zeW (Nat.zero_le _) (fun p hp => by cases hp)⟩
 unfold stE
 by_cases h0 : sgE s ≠ 0
 ·rw [if_pos h0]; exact hz
 rw [if_neg h0]
 by_cases h1 : s.lv = false
 ·rw [if_pos h1]; exact hz
 rw [if_neg h1]
 by_cases h2 : n < 0
 ·rw [if_pos h2]; exact hz
 rw [if_neg h2]
 obtain ⟨lv, r, c, p, e⟩ := s
 have := stG_ok r n.toNat lv c p e ok.rest ok.c
 exact ⟨Nat.le_trans this.1 ok.len, this.2⟩
theorem stE_1000 (s : SG) : stE s 1000 = stE s 60 := by
 unfold stE
 by_cases h0 : sgE s ≠ 0
 ·rw [if_pos h0, if_pos h0]
 rw [if_neg h0, if_neg h0]
 by_cases h1 : s.lv = false
 ·rw [if_pos h1, if_pos h1]
 rw [if_neg h1, if_neg h1, if_neg (by omega), if_neg (by omega)]
 have hl : s.rest.length ≤ 60 := by
  unfold sgE at h0
  rw [if_neg h1] at h0
  by_cases h2 : cfE s.c ≠ 0
  ·rw [if_pos h2] at h0; exact absurd h2 h0
  rw [if_neg h2] at h0
  by_cases h3 : 60 < s.rest.length
  ·rw [if_pos h3] at h0; exact absurd (by decide) h0
  omega
 obtain ⟨lv, r, c, p, e⟩ := s
 dsimp only at hl
 rw [stG_len r _ lv c p e (show r.length ≤ Int.toNat 1000 by omega), stG_len r _ lv c p e (show r.length ≤ Int.toNat 60 by omega)]
def sxE (s : SG) : CF × Int := if (stE s 60).2 ≠ 0 then (zcf, (stE s 60).2) else if (stE s 60).1.err ≠ 0 then (zcf, (stE s 60).1.err) else ((stE s 60).1.c, 0)
def sxR (E : CF × Int) : AV := .tup [.agg E.1.cells, .p (.v (.int .i64 E.2))]
def sxV (E : CF × Int) : AV := if E.2 ≠ 0 then .tup [.agg [.p (.v (.string ⟨#[]⟩)), .p (.v (.int .i64 0)), .p (.v (.slice none 0 0))], .p (.v (.int .i64 E.2))] else sxR E
theorem sxV_e {e : Int} (h : e ≠ 0) : sxV (zcf, e) = .tup [.agg [.p (.v (.string ⟨#[]⟩)), .p (.v (.int .i64 0)), .p (.v (.slice none 0 0))], .p (.v (.int .i64 e))] := by unfold sxV; rw [if_pos h]
theorem sxV_o {key : ByteArray} {port : Int} {l : List PE} : sxV (⟨key, port, l⟩, 0) = .tup [.agg (cfC key port l.length (l.flatMap PE.pv)), .p (.v (.int .i64 0))] := by unfold sxV; rw [if_neg (by simp)]; rfl
theorem sxE_e {s : SG} (h : (sxE s).2 ≠ 0) : (sxE s).1 = zcf := by
 unfold sxE at h ⊢
 by_cases h0 : (stE s 60).2 ≠ 0
 ·rw [if_pos h0]
 rw [if_neg h0] at h ⊢
 by_cases h1 : (stE s 60).1.err ≠ 0
 ·rw [if_pos h1]
 rw [if_neg h1] at h
 exact absurd rfl h
theorem sxE_ok {s : SG} (ok : s.OK) : (sxE s).1.OK := by
 have hz : zcf.OK := zeW (Nat.zero_le _) (fun p hp => by cases hp)
 unfold sxE
 by_cases h0 : (stE s 60).2 ≠ 0
 ·rw [if_pos h0]; exact hz
 rw [if_neg h0]
 by_cases h1 : (stE s 60).1.err ≠ 0
 ·rw [if_pos h1]; exact hz
 rw [if_neg h1]
 exact (stE_ok ok 60).2
theorem zcf_rep (S : Nat → Prop) (m : Nat → Option Value) (w : World) (e : Int) (v : Value) (h : Rep S m w (.tup [.agg [.p (.v (.string ⟨#[]⟩)), .p (.v (.int .i64 0)), .p (.v (.slice none 0 0))], .p (.v (.int .i64 e))]) v) : Rep S m w (.tup [.agg zcf.cells, .p (.v (.int .i64 e))]) v := by
 simp only [zcf, CF.cells, cfC, List.length_nil, List.flatMap_nil, Rep, RepL] at h ⊢
 obtain ⟨ts, rfl, t0, _, rfl, ⟨us, rfl, ⟨u0, _, rfl, k0, u1, _, rfl, k1, u2, _, rfl, k2, rfl⟩, k⟩, t1, _, rfl, q, rfl⟩ := h
 exact ⟨_, rfl, _, _, rfl, ⟨_, rfl, ⟨u0, _, rfl, k0, u1, _, rfl, k1, u2, _, rfl, zgx k2, rfl⟩, k⟩, t1, _, rfl, q, rfl⟩
theorem fn_en {f : FuncId} {args : List AV} {E : CF × Int} (hz : E.2 ≠ 0 → E.1 = zcf) (h : Fn prog f args (sxV E) []) : Fn prog f args (sxR E) [] := by
 obtain ⟨d, e⟩ := E
 dsimp only at hz
 by_cases h0 : e ≠ 0
 ·obtain rfl := hz h0
  rw [sxV_e h0] at h
  exact fn_res (fun S m w v hv => zcf_rep S m w e v hv) h
 ·unfold sxV at h; rw [if_neg h0] at h; exact h
theorem sgCopyD_s (s : SG) (ok : s.OK) : Fn prog 34 [.agg s.cells] (.agg s.cells) [] := by
 obtain ⟨lv, rest, c, at_, err⟩ := s
 obtain ⟨okr, hl, okc, haz, hkz⟩ := ok
 dsimp only at hl okc
 have hC := cfCopyD_s c okc
 have hS := scloneD_s rest hl
 obtain ⟨key, port, ps⟩ := c
 change Fn prog _ [.agg (cfC key port ps.length (ps.flatMap PE.pv))] (.agg (cfC key port ps.length (ps.flatMap PE.pv))) _ at hC
 show Fn prog _ [.agg (sgC lv rest.length (rest.flatMap SE.pv) key port ps.length (ps.flatMap PE.pv) at_ err)] (.agg (sgC lv rest.length (rest.flatMap SE.pv) key port ps.length (ps.flatMap PE.pv) at_ err)) []
 clear okc okr haz hkz hl
 generalize ps.flatMap PE.pv = L at *
 generalize ps.length = M at *
 generalize rest.flatMap SE.pv = R at *
 generalize rest.length = N at *
 refine zat func34 rfl (qE rfl) fun w0 A => zaa<| tx<| wG (zaJ (X := .agg _) 1 rfl) rfl<| wG (zaE 2 zr40 rfl) rfl<| zab<| zaa<| zaB 4 qK<| wF zci rfl<| wL U35 rfl<| cS (fun n => 5 + 1000 * n) (hS) func35 ?_
 refine wF zch rfl<| wN U24 sz24 rfl ?_
 refine cS (fun n => 8 + 1000 * n) (hC) F21 ?_
 refine wF zci rfl<| wG (zbs (Y := .p _) sz35 rfl (by first | exact Nat.eq_of_beq_eq_true rfl | (simp only [AV.cells, List.length_map]; first | assumption | omega)) (by first | exact Nat.le_of_ble_eq_true rfl | omega | (simp only [AV.cells, List.length_map]; omega)) (by first | (simp only [setR, AV.cells, List.take_succ_cons, List.take_zero, List.drop_succ_cons, List.drop_zero, List.drop_nil, List.take_nil, List.nil_append, List.cons_append, List.append_nil, List.length_cons, List.length_nil, Nat.reduceAdd, Nat.zero_add, Nat.add_zero]; rfl) | rfl)) rfl ?_
 refine wF zch rfl<| wG (zbs (Y := .agg _) sz24 rfl (by first | exact Nat.eq_of_beq_eq_true rfl | (simp only [AV.cells, List.length_map]; first | assumption | omega)) (by first | exact Nat.le_of_ble_eq_true rfl | omega | (simp only [AV.cells, List.length_map]; omega)) (by first | (simp only [setR, AV.cells, List.take_succ_cons, List.take_zero, List.drop_succ_cons, List.drop_zero, List.drop_nil, List.take_nil, List.nil_append, List.cons_append, List.append_nil, List.length_cons, List.length_nil, Nat.reduceAdd, Nat.zero_add, Nat.add_zero]; rfl) | rfl)) rfl ?_
 refine zab ⟨qK, ?_⟩
 refine zaa<| tx<| wN U40 sz40 rfl ?_
 refine wG (zar (Y := .agg _) sz40 rfl (by first | exact Nat.eq_of_beq_eq_true rfl | (simp only [AV.cells, List.length_map]; first | assumption | omega)) (Nat.eq_of_beq_eq_true rfl)) rfl ?_
 refine zab<| zag ?_
 refine fT (fun o => o) (.cellN _ _ _ _ _ _ _ _ _ rfl rfl U40 rfl sz40 (by first | assumption | kernel_rfl) .nil) ?_ ?_
 ·exact rfl
 ·exact trivial
theorem refSgCopyD_s (s : SG) (ok : s.OK) : Fn prog 37 [.agg s.cells] (.agg s.cells) [] := by
 obtain ⟨lv, rest, c, at_, err⟩ := s
 obtain ⟨okr, hl, okc, haz, hkz⟩ := ok
 dsimp only at hl okc
 have hC := refCopyD_s c okc
 obtain ⟨key, port, ps⟩ := c
 change Fn prog _ [.agg (cfC key port ps.length (ps.flatMap PE.pv))] (.agg (cfC key port ps.length (ps.flatMap PE.pv))) _ at hC
 show Fn prog _ [.agg (sgC lv rest.length (rest.flatMap SE.pv) key port ps.length (ps.flatMap PE.pv) at_ err)] (.agg (sgC lv rest.length (rest.flatMap SE.pv) key port ps.length (ps.flatMap PE.pv) at_ err)) []
 clear okc okr haz hkz
 generalize ps.flatMap PE.pv = L at *
 generalize ps.length = M at *
 generalize rest.flatMap SE.pv = R at *
 generalize rest.length = N at *
 refine zat func37 rfl (qE rfl) fun w0 A => zaa<| tx<| wG (zaJ (X := .agg _) 1 rfl) rfl<| wG (zaE 2 zr40 rfl) rfl<| zab<| zaa<| zaB 4 qK<| wF zfT rfl<| wL U4 rfl<| wF zci rfl<| wL U35 rfl<| wG (zel 7 U35 eo29 (zfx) (by simp only [maxLen]; omega) (by omega)) rfl ?_
 refine wF zch rfl<| wN U24 sz24 rfl ?_
 refine cS (fun n => 10 + 1000 * n) (hC) F26 ?_
 refine wF zdk rfl<| wL U9 rfl<| wF zcB rfl<| wL U30 rfl<| wP (zaP pl40 zr40 rfl rfl) rfl<| wG (zar (Y := .agg _) sz40 rfl (by first | exact Nat.eq_of_beq_eq_true rfl | (simp only [AV.cells, List.length_map]; first | assumption | omega)) (Nat.eq_of_beq_eq_true rfl)) rfl ?_
 refine zab ⟨qK, ?_⟩
 refine zbE (zgt (cs := R) 7 rfl)<| zag ?_
 refine fT (fun o => o) (.cellN _ _ _ _ _ _ _ _ _ rfl rfl U40 rfl sz40 (by first | assumption | kernel_rfl) .nil) ?_ ?_
 ·exact rfl
 ·exact trivial
end Go.Proofs.YtkdfdcodkeclmaaGreatDoor
