/- A copied configuration, as data. -/
import Derived.Test.YtlfjpippeeikdaaGreatDoorSAl3
set_option linter.all false
namespace Go.Proofs.YtlfjpippeeikdaaGreatDoor
open Go.RowKit Go.Sort
set_option maxRecDepth 100000
theorem fn_dataC {P : Program} {f : FuncId} {args : List AV} {a b : PV} {e size n : Nat} {cs : List PV} (h : Fn P f args (.agg [.p a, .p b, .row 0]) [(0, .row e size n cs)]) : Fn P f args (.agg [.p a, .p b, .p (.sl n size cs)]) [] := by
 intro w A us hA hG hr
 refine (h w A us hA hG hr).mono fun en w' ⟨v, he, S', m', h1, h2⟩ => ⟨v, he, fun b => S' b ∨ ∃ v0, m' 0 = some v0 ∧ blk v0 = some b, fun _ => none, ?_, ?_⟩
 ·simp only [Rep, RepL] at h1 ⊢
  obtain ⟨us, rfl, ⟨u0, _, rfl, k0, u1, _, rfl, k1, u2, _, rfl, k2, rfl⟩, k3⟩ := h1
  have hs : ∀ b, S' b → (fun b => S' b ∨ ∃ v0, m' 0 = some v0 ∧ blk v0 = some b) b := fun b hb => .inl hb
  exact ⟨_, rfl, ⟨u0, _, rfl, PRep.mono hs (fun _ _ => rfl) _ _ k0, u1, _, rfl, PRep.mono hs (fun _ _ => rfl) _ _ k1, u2, _, rfl, zed h2 hs rfl (fun v b hv hb => .inr ⟨v, hv, hb⟩) k2.1, rfl⟩, k3⟩
 ·exact jaD
theorem cfCopyD_s (c : CF) (ok : c.OK) : Fn Tryz.prog 40 [.agg c.cells] (.agg c.cells) [] := fn_dataC (zcO c ok)
theorem refCopyD_s (c : CF) (ok : c.OK) : Fn Tryz.prog 63 [.agg c.cells] (.agg c.cells) [] := fn_dataC (za8 c ok)
end Go.Proofs.YtlfjpippeeikdaaGreatDoor
namespace Go.Proofs.YtlfjpippeeikdaaGreatDoor
open Tryz
open Go.RowKit Go.Sort
set_option maxRecDepth 100000
set_option maxHeartbeats 16000000
theorem fn_dataS {P : Program} {f : FuncId} {args : List AV} {e size n : Nat} {cs : List PV} (h : Fn P f args (.row 0) [(0, .row e size n cs)]) : Fn P f args (.p (.sl n size cs)) [] := by
 intro w A us hA hG hr
 refine (h w A us hA hG hr).mono fun en w' ⟨v, he, S', m', h1, h2⟩ => ⟨v, he, fun b => S' b ∨ ∃ v0, m' 0 = some v0 ∧ blk v0 = some b, fun _ => none, ?_, ?_⟩
 ·simp only [Rep] at h1 ⊢
  have hs : ∀ b, S' b → (fun b => S' b ∨ ∃ v0, m' 0 = some v0 ∧ blk v0 = some b) b := fun b hb => .inl hb
  exact zed h2 hs rfl (fun v b hv hb => .inr ⟨v, hv, hb⟩) h1.1
 ·exact jaD
theorem fn_res {P : Program} {f : FuncId} {args : List AV} {res res' : AV} {news : List (Nat × AObj)} (hm : ∀ S m w v, Rep S m w res v → Rep S m w res' v) (h : Fn P f args res news) : Fn P f args res' news := by
 intro w A us hA hG hr
 exact (h w A us hA hG hr).mono fun en w' ⟨v, he, S', m', h1, h2⟩ => ⟨v, he, S', m', hm _ _ _ _ h1, h2⟩
theorem zil {S : Nat → Prop} {w : World} {size : Nat} {u : Value} (h : PRep S w (.v (.slice none 0 0)) u) : PRep S w (.sl 0 size []) u := by
 simp only [PRep] at h
 obtain ⟨rfl, _⟩ := h
 simp only [PRep, PRepL]
 exact jcp
theorem scloneD_s (l : List SE) (hn : l.length ≤ 1048576) : Fn prog 61 [.p (.sl l.length 5 (l.flatMap SE.pv))] (.p (.sl l.length 5 (l.flatMap SE.pv))) [] := fn_dataS (sclone_s l hn)
def zsg : SG := ⟨false, [], zcf, ⟨#[]⟩, 0⟩
def zsgV : List AV := [qf false, qj, qc ⟨#[]⟩, qd 0, qj, qc ⟨#[]⟩, qd 0]
def svG : Nat → SG → SG
 | 0, d => d
 | n + 1, ⟨lv, [], c, p, e⟩ => ⟨lv, [], c, p, e⟩
 | n + 1, ⟨lv, x :: r, c, p, e⟩ => if e ≠ 0 then ⟨lv, x :: r, c, p, e⟩ else if (apO c p x).2.2 ≠ 0 then ⟨lv, x :: r, c, p, (apO c p x).2.2⟩ else svG n ⟨lv, r, (apO c p x).1, (apO c p x).2.1, e⟩
theorem zia (n : Nat) (lv : Bool) (c : CF) (p : ByteArray) (e : Int) : svG n ⟨lv, [], c, p, e⟩ = ⟨lv, [], c, p, e⟩ := by cases n <;> rfl
theorem stG_err (n : Nat) {lv : Bool} {r : List SE} {c : CF} {p : ByteArray} {e : Int} (h : e ≠ 0) : svG n ⟨lv, r, c, p, e⟩ = ⟨lv, r, c, p, e⟩ := by
 cases n with
 | zero => rfl
 | succ n =>
  cases r with
  | nil => rfl
  | cons x r => unfold svG; rw [if_pos h]
theorem stG_bad {n : Nat} {lv : Bool} {x : SE} {r : List SE} {c : CF} {p : ByteArray} (h : (apO c p x).2.2 ≠ 0) : svG (n + 1) ⟨lv, x :: r, c, p, 0⟩ = ⟨lv, x :: r, c, p, (apO c p x).2.2⟩ := by
 unfold svG; rw [if_neg (by simp), if_pos h]
theorem stG_go {n : Nat} {lv : Bool} {x : SE} {r : List SE} {c : CF} {p : ByteArray} (h : ¬ (apO c p x).2.2 ≠ 0) : svG (n + 1) ⟨lv, x :: r, c, p, 0⟩ = svG n ⟨lv, r, (apO c p x).1, (apO c p x).2.1, 0⟩ := by
 rw [svG, if_neg (by simp), if_neg h]
theorem stG_len : ∀ (r : List SE) (n : Nat) (lv : Bool) (c : CF) (p : ByteArray) (e : Int), r.length ≤ n → svG n ⟨lv, r, c, p, e⟩ = svG r.length ⟨lv, r, c, p, e⟩
 | [], n, lv, c, p, e, h => by rw [zia]; rfl
 | x :: r, 0, lv, c, p, e, h => by simp at h
 | x :: r, n + 1, lv, c, p, e, h => by
  rw [qaO] at h ⊢
  have ih := stG_len r n lv (apO c p x).1 (apO c p x).2.1 e qk
  unfold svG
  rw [ih]
theorem stG_ok : ∀ (r : List SE) (n : Nat) (lv : Bool) (c : CF) (p : ByteArray) (e : Int), (∀ x ∈ r, x.OK) → c.OK → (svG n ⟨lv, r, c, p, e⟩).rest.length ≤ r.length ∧ (svG n ⟨lv, r, c, p, e⟩).c.OK
 | [], n, lv, c, p, e, h, ok => by rw [zia]; exact ⟨Nat.le_refl _, ok⟩
 | x :: r, 0, lv, c, p, e, h, ok => ⟨Nat.le_refl _, ok⟩
 | x :: r, n + 1, lv, c, p, e, h, ok => by
  have ih := stG_ok r n lv (apO c p x).1 (apO c p x).2.1 e (fun y hy => h y qaw) (apO_ok c ok p x (h x qz))
  unfold svG
  by_cases h0 : e ≠ 0
  ·rw [if_pos h0]; exact ⟨Nat.le_refl _, ok⟩
  rw [if_neg h0]
  by_cases h1 : (apO c p x).2.2 ≠ 0
  ·rw [if_pos h1]; exact ⟨Nat.le_refl _, ok⟩
  rw [if_neg h1]
  exact ⟨qby ih.1 qz, ih.2⟩
def svE (s : SG) (n : Int) : SG × Int := if sgE s ≠ 0 then (zsg, sgE s) else if s.lv = false then (zsg, 13) else if n < 0 then (zsg, 4) else (svG n.toNat s, 0)
def stR (E : SG × Int) : AV := .tup [.agg E.1.cells, qd E.2]
def stV (E : SG × Int) : AV := if E.2 ≠ 0 then .tup [.agg zsgV, qd E.2] else stR E
theorem stV_e {e : Int} (h : e ≠ 0) : stV (zsg, e) = .tup [.agg zsgV, qd e] := by unfold stV; rw [if_pos h]
theorem stV_o {d : SG} : stV (d, 0) = .tup [.agg (sgC d.lv d.rest.length (d.rest.flatMap SE.pv) d.c.key d.c.port d.c.ps.length (d.c.ps.flatMap PE.pv) d.at_ d.err), qd 0] := by unfold stV; rw [if_neg (by simp)]; rfl
theorem stE_e {s : SG} {n : Int} (h : (svE s n).2 ≠ 0) : (svE s n).1 = zsg := by
 unfold svE at h ⊢
 by_cases h0 : sgE s ≠ 0
 ·rw [if_pos h0]
 rw [if_neg h0] at h ⊢
 by_cases h1 : s.lv = false
 ·rw [if_pos h1]
 rw [if_neg h1] at h ⊢
 by_cases h2 : n < 0
 ·rw [if_pos h2]
 rw [if_neg h2] at h
 exact absurd rfl h
theorem zsg_rep (S : Nat → Prop) (m : Nat → Option Value) (w : World) (e : Int) (v : Value) (h : Rep S m w (.tup [.agg zsgV, qd e]) v) : Rep S m w (.tup [.agg zsg.cells, qd e]) v := by
 simp only [zsgV, zsg, zcf, SG.cells, sgC, qbV, qb9, Rep, RepL] at h ⊢
 obtain ⟨ts, rfl, t0, _, rfl, ⟨us, rfl, ⟨u0, _, rfl, k0, u1, _, rfl, k1, u2, _, rfl, k2, u3, _, rfl, k3, u4, _, rfl, k4, u5, _, rfl, k5, u6, _, rfl, k6, rfl⟩, k⟩, t1, _, rfl, q, rfl⟩ := h
 exact ⟨_, rfl, _, _, rfl, ⟨_, rfl, ⟨u0, _, rfl, k0, u1, _, rfl, zil k1, u2, _, rfl, k2, u3, _, rfl, k3, u4, _, rfl, zil k4, u5, _, rfl, k5, u6, _, rfl, k6, rfl⟩, k⟩, t1, _, rfl, q, rfl⟩
theorem fn_st {f : FuncId} {args : List AV} {E : SG × Int} (hz : E.2 ≠ 0 → E.1 = zsg) (h : Fn prog f args (stV E) []) : Fn prog f args (stR E) [] := by
 obtain ⟨d, e⟩ := E
 dsimp only at hz
 by_cases h0 : e ≠ 0
 ·obtain rfl := hz h0
  rw [stV_e h0] at h
  exact fn_res (fun S m w v hv => zsg_rep S m w e v hv) h
 ·unfold stV at h; rw [if_neg h0] at h; exact h
theorem stE_ok {s : SG} (ok : s.OK) (n : Int) : (svE s n).1.rest.length ≤ 1048576 ∧ (svE s n).1.c.OK := by
 have hz : zsg.rest.length ≤ 1048576 ∧ zsg.c.OK := ⟨qbk _, zfZ (qbk _) (fun p hp => by cases hp)⟩
 unfold svE
 by_cases h0 : sgE s ≠ 0
 ·rw [if_pos h0]; exact hz
 rw [if_neg h0]
 by_cases h1 : s.lv = false
 ·rw [if_pos h1]; exact hz
 rw [if_neg h1]
 by_cases h2 : n < 0
 ·rw [if_pos h2]; exact hz
 rw [if_neg h2]
 obtain ⟨lv, r, c, p, e⟩ := s
 have := stG_ok r n.toNat lv c p e ok.rest ok.c
 exact ⟨qby this.1 ok.len, this.2⟩
theorem stE_1000 (s : SG) : svE s 1000 = svE s 60 := by
 unfold svE
 by_cases h0 : sgE s ≠ 0
 ·rw [if_pos h0, if_pos h0]
 rw [if_neg h0, if_neg h0]
 by_cases h1 : s.lv = false
 ·rw [if_pos h1, if_pos h1]
 rw [if_neg h1, if_neg h1, if_neg (by omega), if_neg (by omega)]
 have hl : s.rest.length ≤ 60 := by
  unfold sgE at h0
  rw [if_neg h1] at h0
  by_cases h2 : cfE s.c ≠ 0
  ·rw [if_pos h2] at h0; exact absurd h2 h0
  rw [if_neg h2] at h0
  by_cases h3 : 60 < s.rest.length
  ·rw [if_pos h3] at h0; exact absurd qw h0
  omega
 obtain ⟨lv, r, c, p, e⟩ := s
 dsimp only at hl
 rw [stG_len r _ lv c p e (show r.length ≤ Int.toNat 1000 by omega), stG_len r _ lv c p e (show r.length ≤ Int.toNat 60 by omega)]
def sxE (s : SG) : CF × Int := if (svE s 60).2 ≠ 0 then (zcf, (svE s 60).2) else if (svE s 60).1.err ≠ 0 then (zcf, (svE s 60).1.err) else ((svE s 60).1.c, 0)
def sxR (E : CF × Int) : AV := .tup [.agg E.1.cells, qd E.2]
def sxV (E : CF × Int) : AV := if E.2 ≠ 0 then .tup [.agg [qc ⟨#[]⟩, qd 0, qj], qd E.2] else sxR E
theorem sxV_e {e : Int} (h : e ≠ 0) : sxV (zcf, e) = .tup [.agg [qc ⟨#[]⟩, qd 0, qj], qd e] := by unfold sxV; rw [if_pos h]
theorem sxV_o {key : ByteArray} {port : Int} {l : List PE} : sxV (⟨key, port, l⟩, 0) = .tup [.agg (cfC key port l.length (l.flatMap PE.pv)), qd 0] := by unfold sxV; rw [if_neg (by simp)]; rfl
theorem sxE_e {s : SG} (h : (sxE s).2 ≠ 0) : (sxE s).1 = zcf := by
 unfold sxE at h ⊢
 by_cases h0 : (svE s 60).2 ≠ 0
 ·rw [if_pos h0]
 rw [if_neg h0] at h ⊢
 by_cases h1 : (svE s 60).1.err ≠ 0
 ·rw [if_pos h1]
 rw [if_neg h1] at h
 exact absurd rfl h
theorem sxE_ok {s : SG} (ok : s.OK) : (sxE s).1.OK := by
 have hz : zcf.OK := zfZ (qbk _) (fun p hp => by cases hp)
 unfold sxE
 by_cases h0 : (svE s 60).2 ≠ 0
 ·rw [if_pos h0]; exact hz
 rw [if_neg h0]
 by_cases h1 : (svE s 60).1.err ≠ 0
 ·rw [if_pos h1]; exact hz
 rw [if_neg h1]
 exact (stE_ok ok 60).2
theorem zcf_rep (S : Nat → Prop) (m : Nat → Option Value) (w : World) (e : Int) (v : Value) (h : Rep S m w (.tup [.agg [qc ⟨#[]⟩, qd 0, qj], qd e]) v) : Rep S m w (.tup [.agg zcf.cells, qd e]) v := by
 simp only [zcf, CF.cells, cfC, qbV, qb9, Rep, RepL] at h ⊢
 obtain ⟨ts, rfl, t0, _, rfl, ⟨us, rfl, ⟨u0, _, rfl, k0, u1, _, rfl, k1, u2, _, rfl, k2, rfl⟩, k⟩, t1, _, rfl, q, rfl⟩ := h
 exact ⟨_, rfl, _, _, rfl, ⟨_, rfl, ⟨u0, _, rfl, k0, u1, _, rfl, k1, u2, _, rfl, zil k2, rfl⟩, k⟩, t1, _, rfl, q, rfl⟩
theorem fn_en {f : FuncId} {args : List AV} {E : CF × Int} (hz : E.2 ≠ 0 → E.1 = zcf) (h : Fn prog f args (sxV E) []) : Fn prog f args (sxR E) [] := by
 obtain ⟨d, e⟩ := E
 dsimp only at hz
 by_cases h0 : e ≠ 0
 ·obtain rfl := hz h0
  rw [sxV_e h0] at h
  exact fn_res (fun S m w v hv => zcf_rep S m w e v hv) h
 ·unfold sxV at h; rw [if_neg h0] at h; exact h
theorem sgCopyD_s (s : SG) (ok : s.OK) : Fn prog 45 [.agg s.cells] (.agg s.cells) [] := by
 obtain ⟨lv, rest, c, at_, err⟩ := s
 obtain ⟨okr, hl, okc, haz, hkz⟩ := ok
 dsimp only at hl okc
 have hC := cfCopyD_s c okc
 have hS := scloneD_s rest hl
 obtain ⟨key, port, ps⟩ := c
 change Fn prog _ [.agg (cfC key port ps.length (ps.flatMap PE.pv))] (.agg (cfC key port ps.length (ps.flatMap PE.pv))) _ at hC
 refine jdy ?_
 clear okc okr haz hkz hl
 generalize ps.flatMap PE.pv = L at *
 generalize ps.length = M at *
 generalize rest.flatMap SE.pv = R at *
 generalize rest.length = N at *
 refine fnI fun w0 A => ?_
 refine G [9] ?_
 refine cK hS ?_
 refine G [2] ?_
 refine cK hC ?_
 refine G [11, 9, 0] ?_
 exact yE
theorem refSgCopyD_s (s : SG) (ok : s.OK) : Fn prog 64 [.agg s.cells] (.agg s.cells) [] := by
 obtain ⟨lv, rest, c, at_, err⟩ := s
 obtain ⟨okr, hl, okc, haz, hkz⟩ := ok
 dsimp only at hl okc
 have hC := refCopyD_s c okc
 obtain ⟨key, port, ps⟩ := c
 change Fn prog _ [.agg (cfC key port ps.length (ps.flatMap PE.pv))] (.agg (cfC key port ps.length (ps.flatMap PE.pv))) _ at hC
 refine jdy ?_
 clear okc okr haz hkz
 generalize ps.flatMap PE.pv = L at *
 generalize ps.length = M at *
 generalize rest.flatMap SE.pv = R at *
 generalize rest.length = N at *
 refine zcN func64 rfl (qaA rfl) fun w0 A => ?_
 refine zan (tx (jdZ (a_box (X := .agg _) 1 rfl) ?_))
 refine jdZ (zaJ 2 zr30 rfl) ?_
 refine zag (zan (zfE 4 qm ?_))
 refine fA fi30_0 rfl rfl ?_
 refine l1 U4 rfl rfl rfl ⟨rfl, trivial⟩ ?_
 refine fA fi30_1 rfl rfl ?_
 refine l1 U27 rfl rfl rfl ⟨rfl, trivial⟩ ?_
 refine zab (zd4 7 U27 eo107 (zdh) qy qk) rfl rfl ⟨rfl, trivial⟩ ?_
 refine fA fi30_2 rfl rfl ?_
 refine lN U24 rfl sz24 rfl rfl ⟨rfl, trivial⟩ ?_
 refine zaM (fun n => 10 + 1000 * n) (hC) rfl rfl F63 rfl rfl qr rfl rfl rfl ql rfl rfl rfl ?_
 refine fA fi30_3 rfl rfl ?_
 refine l1 U9 rfl rfl rfl ⟨rfl, trivial⟩ ?_
 refine fA fi30_4 rfl rfl ?_
 refine l1 underlying28 rfl rfl rfl ⟨rfl, trivial⟩ ?_
 refine jdY (zcs pl30 zr30 rfl rfl) ?_
 refine zab (zac (Y := .agg _) sz30 rfl qD (qaB rfl)) rfl rfl ⟨rfl, trivial⟩ ?_
 refine zag ⟨qm, ?_⟩
 refine zbd (zdO (cs := R) 7 rfl) ?_
 refine zaB (fT (fun o => o) (.cellN _ _ _ _ _ _ _ _ _ rfl rfl U30 rfl sz30 qap .nil) ?_ ?_)
 ·exact rfl
 ·exact trivial
theorem step_s (s : SG) (ok : s.OK) (n : Int) (hn0 : -9223372036854775808 ≤ n) (hn1 : n ≤ 9223372036854775807) : Fn prog 29 [.agg s.cells, qd n] (stV (svE s n)) [] := by
 obtain ⟨E, hE⟩ : ∃ E, svE s n = E := ⟨_, rfl⟩
 rw [hE]
 unfold svE at hE
 have hCf := sgCheck_s s ok
 have hCp := sgCopyD_s s ok
 obtain ⟨ce, hce⟩ : ∃ e, sgE s = e := ⟨_, rfl⟩
 rw [hce] at hE hCf
 clear hce
 have okr := ok.rest
 have okl := ok.len
 have okc := ok.c
 clear ok
 obtain ⟨lv, rest, ⟨key, port, l⟩, p, err⟩ := s
 dsimp only at hE okr okl okc
 change Fn prog _ [.agg (sgC lv rest.length (rest.flatMap SE.pv) key port l.length (l.flatMap PE.pv) p err)] _ _ at hCf
 change Fn prog _ [.agg (sgC lv rest.length (rest.flatMap SE.pv) key port l.length (l.flatMap PE.pv) p err)] (.agg (sgC lv rest.length (rest.flatMap SE.pv) key port l.length (l.flatMap PE.pv) p err)) _ at hCp
 show Fn prog _ [.agg (sgC lv rest.length (rest.flatMap SE.pv) key port l.length (l.flatMap PE.pv) p err), _] _ _
 refine fnI fun w0 A => ?_
 refine G [10] ?_
 refine cK hCf ?_
 refine jcS ?_
 refine cX ?_ ?_ <;> intro h
 ·exact jcu
 have h0 : ¬ ce ≠ 0 := by simpa using h
 clear h
 rw [if_neg h0] at hE
 refine jdh ?_
 refine cX ?_ ?_ <;> intro h
 ·have h1 : lv = false := by simpa using h
  rw [if_pos h1] at hE
  exact jbZ
 have h1 : ¬ lv = false := by simpa using h
 clear h
 rw [if_neg h1] at hE
 refine jcS ?_
 refine cX ?_ ?_ <;> intro h
 ·have h2 : n < 0 := by simpa using h
  rw [if_pos h2] at hE
  exact jbZ
 have h2 : ¬ n < 0 := by simpa using h
 clear h
 rw [if_neg h2] at hE
 refine G [4] ?_
 refine cK hCp ?_
 refine G [3] ?_
 clear hCf hCp
 refine jcM ?_
 refine zae (fun m st => ∃ (n : Int) (d : SG), d.rest.length = m ∧ 0 ≤ n ∧ n ≤ 9223372036854775807 ∧ (∀ x ∈ d.rest, x.OK) ∧ d.rest.length ≤ 1048576 ∧ d.c.OK ∧ (svG n.toNat d, (0 : Int)) = E ∧ st = St.of [(1, qd n), (4, .ref 4 0), (7, .ref 7 0)] [(4, .box 30 [qf false, qj, qc ⟨#[]⟩, qd 0, qj, qc ⟨#[]⟩, qd 0]), (7, .box 30 (sgC d.lv d.rest.length (d.rest.flatMap SE.pv) d.c.key d.c.port d.c.ps.length (d.c.ps.flatMap PE.pv) d.at_ d.err))]) rest.length ?_ ?_
 ·refine ⟨_, zad id _ _ ?_ ?_ rfl, n, ⟨lv, rest, ⟨key, port, l⟩, p, err⟩, rfl, qk, hn1, okr, okl, okc, hE, rfl⟩
  ·exact ja5
  ·exact ⟨⟨rfl, rfl⟩, ⟨rfl, rfl⟩, trivial⟩
 clear hE okr okl okc h0 h1 h2 hn0 hn1
 clear lv rest key port l p err n ce
 rintro m st ⟨n, ⟨lv, rest, ⟨key, port, l⟩, p, err⟩, hm, hn0, hn1, okr, okl, okc, hE, rfl⟩
 dsimp only at hm okr okl okc ⊢
 subst hm
 refine G [8] ?_
 refine mb2 _ rfl rfl (fun hb => (zd7 U27)) (fun _ => trivial) ?_
 refine G [1, 2, 4, 2, 1, 9, 0] ?_
 refine cX ?_ ?_ <;> intro h
 ·have h3 : 0 < n ∧ 0 < rest.length ∧ err = 0 := by
   simp at h
   obtain ⟨⟨q1, q2⟩, q3⟩ := h
   exact ⟨q1, by first | omega | exact List.length_pos_iff.2 q2, q3⟩
  clear h
  obtain ⟨g1, g2, rfl⟩ := h3
  obtain ⟨x, r, rfl⟩ : ∃ x r, rest = x :: r := by
   cases rest with
   | nil => simp at g2
   | cons x r => exact ⟨x, r, rfl⟩
  have okx := okr x qz
  have hC := aone_s ⟨key, port, l⟩ okc p x okx
  have hO := apO_ok ⟨key, port, l⟩ okc p x okx
  have hcl := scloneD_s r (by rw [qaO] at okl; omega)
  have hch : (((x :: r).flatMap SE.pv).drop (0 * 5)).take 5 = SE.pv x := zaj (f := SE.pv) (k := 5) (l := x :: r) (i := 0) (fun _ => rfl) rfl
  have hle : 5 ≤ ((x :: r).flatMap SE.pv).length := by
   have := zak (f := SE.pv) (k := 5) (l := x :: r) (i := 0) (fun _ => rfl) qz
   omega
  have hsub : (((x :: r).flatMap SE.pv).drop (1 * 5)).take (r.length * 5) = r.flatMap SE.pv := by
   rw [zgd (f := SE.pv) (k := 5) (fun _ => rfl), List.drop_one, List.tail_cons, qaN (by rw [zas (f := SE.pv) (k := 5) (fun _ => rfl)]; omega)]
  have hns : n.toNat = (n - 1).toNat + 1 := qk
  rw [hns] at hE
  have hbad := @stG_bad (n - 1).toNat lv x r ⟨key, port, l⟩ p
  have hgo := @stG_go (n - 1).toNat lv x r ⟨key, port, l⟩ p
  obtain ⟨⟨c3, nx, e⟩, hr⟩ : ∃ y, apO ⟨key, port, l⟩ p x = y := ⟨_, rfl⟩
  rw [hr] at hC hO hbad hgo
  have okr2 : ∀ y ∈ r, y.OK := fun y hy => okr y qaw
  have okl2 : r.length ≤ 1048576 := by rw [qaO] at okl; omega
  clear hr okx okc okr
  unfold apR at hC
  obtain ⟨key3, port3, l3⟩ := c3
  obtain ⟨xk, xt, xn, xa, xb⟩ := x
  dsimp only at hC hO hbad hgo
  change Fn prog _ [.agg (cfC key port l.length (l.flatMap PE.pv)), _, .agg [qd xk, qc xt, qd xn, qe xa, qd xb]] (.tup [.agg (cfC key3 port3 l3.length (l3.flatMap PE.pv)), _, _]) _ at hC
  have hN : ((⟨xk, xt, xn, xa, xb⟩ : SE) :: r).length = r.length + 1 := rfl
  generalize hRR : ((⟨xk, xt, xn, xa, xb⟩ : SE) :: r).flatMap SE.pv = RR at *
  generalize hNN : ((⟨xk, xt, xn, xa, xb⟩ : SE) :: r).length = NN at *
  refine G [12] ?_
  refine jdY (zam U107 rfl zfM hle (hch)) ?_
  refine cK hC ?_
  refine G [15, 9, 0] ?_
  refine cX ?_ ?_ <;> intro h
  ·have h7 : e ≠ 0 := by simpa using h
   rw [hbad h7] at hE
   subst hE
   refine G [6] ?_
   rw [stV_o]
   dsimp only
   rw [hNN, hRR]
   refine jdh ?_
   exact yE
  have h7 : ¬ e ≠ 0 := by simpa using h
  clear h
  rw [hgo h7] at hE
  refine G [6] ?_
  refine zaa (zdn (L := (some (_, _))) (H := none) U27 zfM ⟨qk, rfl⟩ rfl qk qk (show NN - 1 = r.length by omega) hsub) rfl rfl ?_
  refine cK hcl ?_
  refine G [9] ?_
  refine zaa (zgf (show IntKind.i64.wrap (n - 1) = n - 1 by rw [qa6 _ (by omega)])) rfl rfl ?_
  refine G [2, 9, 0] ?_
  refine ⟨r.length, qk, _, zad id _ _ ?_ ?_ rfl, n - 1, ⟨lv, r, ⟨key3, port3, l3⟩, nx, 0⟩, rfl, qk, qk, okr2, okl2, hO, hE, rfl⟩
  ·exact ja5
  ·exact ⟨⟨rfl, rfl⟩, ⟨rfl, rfl⟩, trivial⟩
 have h3 : svG n.toNat ⟨lv, rest, ⟨key, port, l⟩, p, err⟩ = ⟨lv, rest, ⟨key, port, l⟩, p, err⟩ := by
  by_cases q3 : err = 0
  ·by_cases q2 : rest = []
   ·subst q2; exact zia ..
   ·have q1 : n = 0 := by
     simp at h
     have : 0 < rest.length := List.length_pos_iff.2 q2
     by_cases q : 0 < n
     ·exact absurd q3 (h q (by first | exact q2 | omega))
     ·omega
    subst q1; rfl
  ·exact stG_err _ q3
 clear h
 rw [h3] at hE
 subst hE
 rw [stV_o]
 dsimp only
 refine jdh ?_
 exact yE
theorem refStep_s (s : SG) (ok : s.OK) (n : Int) (hn0 : -9223372036854775808 ≤ n) (hn1 : n ≤ 9223372036854775807) : Fn prog 32 [.agg s.cells, qd n] (stV (svE s n)) [] := by
 obtain ⟨E, hE⟩ : ∃ E, svE s n = E := ⟨_, rfl⟩
 rw [hE]
 unfold svE at hE
 have hCf := zhO s ok
 have hCp := refSgCopyD_s s ok
 obtain ⟨ce, hce⟩ : ∃ e, sgE s = e := ⟨_, rfl⟩
 rw [hce] at hE hCf
 clear hce
 have okr := ok.rest
 have okl := ok.len
 have okc := ok.c
 clear ok
 obtain ⟨lv, rest, ⟨key, port, l⟩, p, err⟩ := s
 dsimp only at hE okr okl okc
 change Fn prog _ [.agg (sgC lv rest.length (rest.flatMap SE.pv) key port l.length (l.flatMap PE.pv) p err)] _ _ at hCf
 change Fn prog _ [.agg (sgC lv rest.length (rest.flatMap SE.pv) key port l.length (l.flatMap PE.pv) p err)] (.agg (sgC lv rest.length (rest.flatMap SE.pv) key port l.length (l.flatMap PE.pv) p err)) _ at hCp
 show Fn prog _ [.agg (sgC lv rest.length (rest.flatMap SE.pv) key port l.length (l.flatMap PE.pv) p err), _] _ _
 refine fnI fun w0 A => ?_
 refine G [10] ?_
 refine cK hCf ?_
 refine jcS ?_
 refine cX ?_ ?_ <;> intro h
 ·exact jcu
 have h0 : ¬ ce ≠ 0 := by simpa using h
 clear h
 rw [if_neg h0] at hE
 refine jdh ?_
 refine cX ?_ ?_ <;> intro h
 ·have h1 : lv = false := by simpa using h
  rw [if_pos h1] at hE
  exact jbZ
 have h1 : ¬ lv = false := by simpa using h
 clear h
 rw [if_neg h1] at hE
 refine jcS ?_
 refine cX ?_ ?_ <;> intro h
 ·have h2 : n < 0 := by simpa using h
  rw [if_pos h2] at hE
  exact jbZ
 have h2 : ¬ n < 0 := by simpa using h
 clear h
 rw [if_neg h2] at hE
 refine G [4] ?_
 refine cK hCp ?_
 refine G [8] ?_
 clear hCf hCp
 obtain ⟨O, hO⟩ : ∃ O, sgC lv rest.length (rest.flatMap SE.pv) key port l.length (l.flatMap PE.pv) p err = O := ⟨_, rfl⟩
 refine jcM ?_
 refine zae (fun m st => ∃ (i : Nat) (d : SG), m + i = rest.length ∧ (d.err = 0 → d.rest = rest.drop i) ∧ d.c.OK ∧ (svG (n.toNat - i) d, (0 : Int)) = E ∧ st = St.of [(1, qd n), (2, .ref 2 0), (4, .ref 4 0), (7, .ref 7 0), (8, qd i)] [(2, .box 30 (sgC lv rest.length (rest.flatMap SE.pv) key port l.length (l.flatMap PE.pv) p err)), (4, .box 30 [qf false, qj, qc ⟨#[]⟩, qd 0, qj, qc ⟨#[]⟩, qd 0]), (7, .box 30 (sgC d.lv d.rest.length (d.rest.flatMap SE.pv) d.c.key d.c.port d.c.ps.length (d.c.ps.flatMap PE.pv) d.at_ d.err))]) rest.length ?_ ?_
 ·refine ⟨_, zad id _ _ ?_ ?_ rfl, 0, ⟨lv, rest, ⟨key, port, l⟩, p, err⟩, rfl, fun _ => rfl, okc, hE, rfl⟩
  ·exact ja5
  ·exact jaP
 clear hE okc h0 h1 hO
 rintro m st ⟨i, ⟨lv2, rest2, ⟨key2, port2, l2⟩, p2, err2⟩, hm, hrs, okc, hE, rfl⟩
 dsimp only at hrs okc ⊢
 refine G [10] ?_
 refine mb2 _ rfl rfl (fun hb => (zd7 U27)) (fun _ => trivial) ?_
 refine G [1, 2, 4, 2, 1, 9, 0] ?_
 refine cX ?_ ?_ <;> intro h
 ·have h3 : (i : Int) < n ∧ i < rest.length ∧ err2 = 0 := by
   simp at h
   obtain ⟨⟨q1, q2⟩, q3⟩ := h
   exact ⟨q1, qk, q3⟩
  clear h
  obtain ⟨g1, g2, rfl⟩ := h3
  obtain rfl := hrs rfl
  obtain ⟨x, hx⟩ : ∃ x, rest[i]? = some x := ⟨rest[i], List.getElem?_eq_getElem g2⟩
  have hdx : rest.drop i = x :: rest.drop (i + 1) := by
   obtain ⟨_, rfl⟩ := qaG.1 hx
   exact qbh g2
  have hch := zaj (f := SE.pv) (k := 5) (fun _ => rfl) hx
  have hle := zak (f := SE.pv) (k := 5) (fun _ => rfl) g2
  have okx := okr x (qaE hx)
  have hC := refOne_s ⟨key2, port2, l2⟩ okc p2 x okx
  have hO := apO_ok ⟨key2, port2, l2⟩ okc p2 x okx
  have hns : n.toNat - i = (n.toNat - (i + 1)) + 1 := qk
  have hbad := @stG_bad (n.toNat - (i + 1)) lv2 x (rest.drop (i + 1)) ⟨key2, port2, l2⟩ p2
  have hgo := @stG_go (n.toNat - (i + 1)) lv2 x (rest.drop (i + 1)) ⟨key2, port2, l2⟩ p2
  rw [hns] at hE
  rw [← hdx] at hbad hgo
  obtain ⟨⟨c3, nx, e⟩, hr⟩ : ∃ y, apO ⟨key2, port2, l2⟩ p2 x = y := ⟨_, rfl⟩
  rw [hr] at hC hO hbad hgo
  clear hr okx hdx
  unfold apR at hC
  obtain ⟨key3, port3, l3⟩ := c3
  obtain ⟨xk, xt, xn, xa, xb⟩ := x
  dsimp only at hC hO hbad hgo
  change Fn prog _ [.agg (cfC key2 port2 l2.length (l2.flatMap PE.pv)), _, .agg [qd xk, qc xt, qd xn, qe xa, qd xb]] (.tup [.agg (cfC key3 port3 l3.length (l3.flatMap PE.pv)), _, _]) _ at hC
  have hle2 : 5 ≤ ((rest.flatMap SE.pv).drop (i * 5)).length := by rw [qaP]; omega
  have hsub : ((rest.flatMap SE.pv).drop (Int.toNat ((i + 1 : Nat) : Int) * 5)).take ((rest.drop (i + 1)).length * 5) = (rest.drop (i + 1)).flatMap SE.pv := by
   rw [qaS, zgd (f := SE.pv) (k := 5) (fun _ => rfl), qaN (by rw [zas (f := SE.pv) (k := 5) (fun _ => rfl)]; omega)]
  have hND : (rest.drop (i + 1)).length = rest.length - (i + 1) := qaP ..
  generalize hRR : rest.flatMap SE.pv = RR at *
  generalize hR1 : (rest.drop i).flatMap SE.pv = R1 at *
  generalize hN1 : (rest.drop i).length = N1 at *
  generalize hR2 : (rest.drop (i + 1)).flatMap SE.pv = R2 at *
  generalize hN2 : (rest.drop (i + 1)).length = N2 at *
  generalize hNN : rest.length = NN at *
  refine G [13] ?_
  refine jdY (zam U107 rfl zfM hle2 (hch)) ?_
  refine cK hC ?_
  refine G [14, 9, 0] ?_
  refine cX ?_ ?_ <;> intro h
  ·have h7 : e ≠ 0 := by simpa using h
   clear h
   rw [hbad h7] at hE
   skip
   refine G [10, 9, 0] ?_
   refine ⟨m - 1, qk, _, zad id _ _ ?_ ?_ rfl, i + 1, ⟨lv2, rest.drop i, ⟨key2, port2, l2⟩, p2, e⟩, qk, fun q => absurd q h7, okc, ?_, rfl⟩
   ·subst hR1 hN1
    exact ja5
   ·subst hR1 hN1
    exact jaP
   ·rw [stG_err _ h7]; exact hE
  have h7 : ¬ e ≠ 0 := by simpa using h
  clear h
  rw [hgo h7] at hE
  refine G [16] ?_
  refine zaa (zd8 (show IntKind.i64.wrap ((i : Int) + 1) = ((i + 1 : Nat) : Int) by rw [qa6 _ (by omega)]; omega)) rfl rfl ?_
  refine zaa (zdn (L := (some (_, _))) (H := none) U27 zfM ⟨qk, rfl⟩ rfl qk qk (show NN - Int.toNat ((i + 1 : Nat) : Int) = N2 by rw [qaS]; omega) hsub) rfl rfl ?_
  refine zab (zd4 71 U27 eo107 (zdh) qy qk) rfl rfl ⟨rfl, trivial⟩ ?_
  refine G [3] ?_
  refine zbd (zdO (cs := R2) 71 rfl) ?_
  skip
  refine jcQ ?_
  refine ⟨m - 1, qk, _, zad id _ _ ?_ ?_ rfl, i + 1, ⟨lv2, rest.drop (i + 1), ⟨key3, port3, l3⟩, nx, 0⟩, qk, fun _ => rfl, hO, hE, rfl⟩
  ·subst hR2 hN2
   exact ja5
  ·subst hR2 hN2
   exact jaP
 have h3 : svG (n.toNat - i) ⟨lv2, rest2, ⟨key2, port2, l2⟩, p2, err2⟩ = ⟨lv2, rest2, ⟨key2, port2, l2⟩, p2, err2⟩ := by
  by_cases q3 : err2 = 0
  ·obtain rfl := hrs q3
   by_cases q2 : i < rest.length
   ·have q1 : n.toNat - i = 0 := by
     simp at h
     by_cases q : (i : Int) < n
     ·exact absurd q3 (h q qk)
     ·omega
    rw [q1]; rfl
   ·rw [List.drop_of_length_le (by omega)]; exact zia ..
  ·exact stG_err _ q3
 clear h
 rw [h3] at hE
 subst hE
 rw [stV_o]
 dsimp only
 refine jdh ?_
 exact yE
theorem stepD_s (s : SG) (ok : s.OK) (n : Int) (hn0 : -9223372036854775808 ≤ n) (hn1 : n ≤ 9223372036854775807) : Fn prog 29 [.agg s.cells, qd n] (stR (svE s n)) [] := fn_st stE_e (step_s s ok n hn0 hn1)
theorem refStepD_s (s : SG) (ok : s.OK) (n : Int) (hn0 : -9223372036854775808 ≤ n) (hn1 : n ≤ 9223372036854775807) : Fn prog 32 [.agg s.cells, qd n] (stR (svE s n)) [] := fn_st stE_e (refStep_s s ok n hn0 hn1)
theorem sgEnd_s (s : SG) (ok : s.OK) : Fn prog 15 [.agg s.cells] (sxV (sxE s)) [] := by
 obtain ⟨E, hE⟩ : ∃ E, sxE s = E := ⟨_, rfl⟩
 rw [hE]
 unfold sxE at hE
 have hS := stepD_s s ok 60 qw qw
 have hok := (stE_ok ok 60).2
 obtain ⟨⟨d, e⟩, hr⟩ : ∃ y, svE s 60 = y := ⟨_, rfl⟩
 rw [hr] at hS hE hok
 clear hr ok
 unfold stR at hS
 obtain ⟨lv, rest, ⟨key, port, l⟩, p, err⟩ := s
 obtain ⟨lv2, rest2, ⟨key2, port2, l2⟩, p2, err2⟩ := d
 dsimp only at hE hok hS
 have hCp := cfCopyD_s ⟨key2, port2, l2⟩ hok
 change Fn prog _ [.agg (cfC key2 port2 l2.length (l2.flatMap PE.pv))] (.agg (cfC key2 port2 l2.length (l2.flatMap PE.pv))) _ at hCp
 change Fn prog _ [.agg (sgC lv rest.length (rest.flatMap SE.pv) key port l.length (l.flatMap PE.pv) p err), _] (.tup [.agg (sgC lv2 rest2.length (rest2.flatMap SE.pv) key2 port2 l2.length (l2.flatMap PE.pv) p2 err2), _]) _ at hS
 show Fn prog _ [.agg (sgC lv rest.length (rest.flatMap SE.pv) key port l.length (l.flatMap PE.pv) p err)] _ _
 refine fnI fun w0 A => ?_
 refine G [9] ?_
 refine cK hS ?_
 refine G [15, 9, 0] ?_
 refine cX ?_ ?_ <;> intro h
 ·have h0 : e ≠ 0 := by simpa using h
  rw [if_pos h0] at hE
  subst hE
  rw [sxV_e h0]
  refine jdh ?_
  exact yE
 have h0 : ¬ e ≠ 0 := by simpa using h
 clear h
 rw [if_neg h0] at hE
 refine jcS ?_
 refine cX ?_ ?_ <;> intro h
 ·have h1 : err2 ≠ 0 := by simpa using h
  rw [if_pos h1] at hE
  subst hE
  rw [sxV_e h1]
  refine G [9, 9, 0] ?_
  exact yE
 have h1 : ¬ err2 ≠ 0 := by simpa using h
 clear h
 rw [if_neg h1] at hE
 subst hE
 rw [sxV_o]
 refine G [5] ?_
 refine cK hCp ?_
 refine G [4, 9, 0] ?_
 exact yE
theorem refSgEnd_s (s : SG) (ok : s.OK) : Fn prog 20 [.agg s.cells] (sxV (sxE s)) [] := by
 obtain ⟨E, hE⟩ : ∃ E, sxE s = E := ⟨_, rfl⟩
 rw [hE]
 unfold sxE at hE
 have hS := refStepD_s s ok 1000 qw qw
 rw [stE_1000] at hS
 obtain ⟨⟨d, e⟩, hr⟩ : ∃ y, svE s 60 = y := ⟨_, rfl⟩
 rw [hr] at hS hE
 clear hr ok
 unfold stR at hS
 obtain ⟨lv, rest, ⟨key, port, l⟩, p, err⟩ := s
 obtain ⟨lv2, rest2, ⟨key2, port2, l2⟩, p2, err2⟩ := d
 dsimp only at hE hS
 change Fn prog _ [.agg (sgC lv rest.length (rest.flatMap SE.pv) key port l.length (l.flatMap PE.pv) p err), _] (.tup [.agg (sgC lv2 rest2.length (rest2.flatMap SE.pv) key2 port2 l2.length (l2.flatMap PE.pv) p2 err2), _]) _ at hS
 show Fn prog _ [.agg (sgC lv rest.length (rest.flatMap SE.pv) key port l.length (l.flatMap PE.pv) p err)] _ _
 refine fnI fun w0 A => ?_
 refine G [9] ?_
 refine cK hS ?_
 refine G [13, 9, 0] ?_
 refine cX ?_ ?_ <;> intro h
 ·have h0 : e = 0 := by simpa using h
  clear h
  rw [if_neg (by simp [h0])] at hE
  skip
  refine G [11, 9, 0] ?_
  refine cX ?_ ?_ <;> intro h
  ·have h1 : err2 ≠ 0 := by simpa using h
   rw [if_pos h1] at hE
   subst hE
   rw [sxV_e h1]
   refine jdh ?_
   exact yE
  have h1 : ¬ err2 ≠ 0 := by simpa using h
  clear h
  rw [if_neg h1] at hE
  subst hE
  rw [sxV_o]
  refine G [9, 9, 0] ?_
  exact yE
 have h0 : e ≠ 0 := by simpa using h
 clear h
 rw [if_pos h0] at hE
 subst hE
 rw [sxV_e h0]
 refine G [3] ?_
 skip
 refine G [4, 9, 0] ?_
 refine cX ?_ ?_ <;> intro h
 ·refine jdh ?_
  exact yE
 ·exact absurd qG h0
end Go.Proofs.YtlfjpippeeikdaaGreatDoor
