/- What one setting does to a configuration: apply.One and the reference's ApplyOne, over data. -/
import Derived.Test.YtlfjpippeeikdaaGreatDoorSAr2
set_option linter.all false
namespace Go.Proofs.YtlfjpippeeikdaaGreatDoor
open Tryz
open Go.RowKit Go.Sort
set_option maxRecDepth 100000
theorem fn_data {P : Program} {f : FuncId} {args : List AV} {a b x y : PV} {e size n : Nat} {cs : List PV} (h : Fn P f args (.tup [.agg [.p a, .p b, .row 0], .p x, .p y]) [(0, .row e size n cs)]) : Fn P f args (.tup [.agg [.p a, .p b, .p (.sl n size cs)], .p x, .p y]) [] := by
 intro w A us hA hG hr
 refine (h w A us hA hG hr).mono fun en w' ⟨v, he, S', m', h1, h2⟩ => ⟨v, he, fun b => S' b ∨ ∃ v0, m' 0 = some v0 ∧ blk v0 = some b, fun _ => none, ?_, ?_⟩
 ·simp only [Rep, RepL] at h1 ⊢
  obtain ⟨ts, rfl, t0, _, rfl, ⟨us, rfl, ⟨u0, _, rfl, k0, u1, _, rfl, k1, u2, _, rfl, k2, rfl⟩, k3⟩, t1, _, rfl, k4, t2, _, rfl, k5, rfl⟩ := h1
  have hs : ∀ b, S' b → (fun b => S' b ∨ ∃ v0, m' 0 = some v0 ∧ blk v0 = some b) b := fun b hb => .inl hb
  exact ⟨_, rfl, _, _, rfl, ⟨_, rfl, ⟨u0, _, rfl, PRep.mono hs (fun _ _ => rfl) _ _ k0, u1, _, rfl, PRep.mono hs (fun _ _ => rfl) _ _ k1, u2, _, rfl, zed h2 hs rfl (fun v b hv hb => .inr ⟨v, hv, hb⟩) k2.1, rfl⟩, k3⟩, t1, _, rfl, PRep.mono hs (fun _ _ => rfl) _ _ k4, t2, _, rfl, PRep.mono hs (fun _ _ => rfl) _ _ k5, rfl⟩
 ·exact jaD
theorem fn_nil {P : Program} {f : FuncId} {args : List AV} {a b x y : PV} {size : Nat} (h : Fn P f args (.tup [.agg [.p a, .p b, qj], .p x, .p y]) []) : Fn P f args (.tup [.agg [.p a, .p b, .p (.sl 0 size [])], .p x, .p y]) [] := by
 intro w A us hA hG hr
 refine (h w A us hA hG hr).mono fun en w' ⟨v, he, S', m', h1, h2⟩ => ⟨v, he, S', m', ?_, h2⟩
 simp only [Rep, RepL] at h1 ⊢
 obtain ⟨ts, rfl, t0, _, rfl, ⟨us, rfl, ⟨u0, _, rfl, k0, u1, _, rfl, k1, u2, _, rfl, k2, rfl⟩, k3⟩, t1, _, rfl, k4, t2, _, rfl, k5, rfl⟩ := h1
 simp only [PRep] at k2
 obtain ⟨rfl, _⟩ := k2
 refine ⟨_, rfl, _, _, rfl, ⟨_, rfl, ⟨u0, _, rfl, k0, u1, _, rfl, k1, _, _, rfl, ?_, rfl⟩, k3⟩, t1, _, rfl, k4, t2, _, rfl, k5, rfl⟩
 simp only [PRep, PRepL]
 exact jcp
def zcf : CF := ⟨⟨#[]⟩, 0, []⟩
def apR (r : CF × ByteArray × Int) : AV := .tup [.agg r.1.cells, qc r.2.1, qd r.2.2]
theorem zbO {f : FuncId} {args : List AV} {e : Int} (h : Fn prog f args (oErr e) []) : Fn prog f args (apR (zcf, ⟨#[]⟩, e)) [] := fn_nil (size := 5) h
theorem zhn {f : FuncId} {args : List AV} {c : CF} {nx : ByteArray} (h : Fn prog f args (.tup [.agg [qc c.key, qd c.port, .row 0], qc nx, qd 0]) [(0, .row 48 5 c.ps.length (c.ps.flatMap PE.pv))]) : Fn prog f args (apR (c, nx, 0)) [] := fn_data h
def putP (t : ByteArray) (l : List PE) : List PE := l.take (posL (fun p => sLt p.key t) l) ++ newP t :: l.drop (posL (fun p => sLt p.key t) l)
instance nLt_dec (m n : NtP) : Decidable (nLt m n) := by unfold nLt; infer_instance
def putN (n : NtP) (l : List NtP) : List NtP := l.take (posL (fun m => decide (nLt m n)) l) ++ n :: l.drop (posL (fun m => decide (nLt m n)) l)
def upP (l : List PE) (j : Nat) (f : PE → PE) : List PE := l.set j (f (peG l j))
def apO (c : CF) (pt : ByteArray) (s : SE) : CF × ByteArray × Int :=
 if cfE c ≠ 0 then (zcf, ⟨#[]⟩, cfE c) else if seE s ≠ 0 then (zcf, ⟨#[]⟩, seE s)
 else if s.k = 1 then (if peN s.t c.ps < c.ps.length then (zcf, ⟨#[]⟩, 14) else (⟨s.t, c.port, c.ps⟩, ⟨#[]⟩, 0))
 else if s.k = 2 then (⟨c.key, s.n, c.ps⟩, ⟨#[]⟩, 0)
 else if s.k = 3 then (⟨c.key, c.port, []⟩, ⟨#[]⟩, 0)
 else if s.k = 4 then (if s.t = c.key then (zcf, ⟨#[]⟩, 14) else if peN s.t c.ps < c.ps.length then (c, s.t, 0) else if c.ps.length = 6 then (zcf, ⟨#[]⟩, 7) else (⟨c.key, c.port, putP s.t c.ps⟩, s.t, 0))
 else if pt = ⟨#[]⟩ ∨ ¬ peN pt c.ps < c.ps.length then (zcf, ⟨#[]⟩, 13)
 else if s.k = 5 then (⟨c.key, c.port, delK pt c.ps⟩, ⟨#[]⟩, 0)
 else if s.k = 6 then (⟨c.key, c.port, upP c.ps (peN pt c.ps) fun p => { p with sh := s.t }⟩, pt, 0)
 else if s.k = 7 then (⟨c.key, c.port, upP c.ps (peN pt c.ps) fun p => { p with ep := s.t }⟩, pt, 0)
 else if s.k = 8 then (⟨c.key, c.port, upP c.ps (peN pt c.ps) fun p => { p with al := s.n }⟩, pt, 0)
 else if s.k = 9 then (⟨c.key, c.port, upP c.ps (peN pt c.ps) fun p => { p with nets := [] }⟩, pt, 0)
 else if (delN (s.a, s.b) (peG c.ps (peN pt c.ps)).nets).length = 8 then (zcf, ⟨#[]⟩, 7)
 else (⟨c.key, c.port, (dnL (s.a, s.b) c.ps).set (peN pt c.ps) { peG c.ps (peN pt c.ps) with nets := putN (s.a, s.b) (delN (s.a, s.b) (peG c.ps (peN pt c.ps)).nets) }⟩, pt, 0)
theorem seE_k {s : SE} (h : seE s = 0) : s.k = 1 ∨ s.k = 2 ∨ s.k = 3 ∨ s.k = 4 ∨ s.k = 5 ∨ s.k = 6 ∨ s.k = 7 ∨ s.k = 8 ∨ s.k = 9 ∨ s.k = 10 := by
 unfold seE at h
 split at h
 ·cases h
 ·omega
theorem zik (t : ByteArray) (l : List PE) : (putP t l).length = l.length + 1 := by
 have := zfW (fun p : PE => sLt p.key t) l
 unfold putP
 exact jb6
theorem newP_ok (t : ByteArray) : (newP t).OK ∧ (newP t).nets.length ≤ 1048576 := ⟨⟨(show (0 : Nat) < 4294967281 by decide), by simp [newP], fun n hn => by simp [newP] at hn⟩, by simp [newP]⟩
theorem zfZ {key : ByteArray} {port : Int} {l : List PE} (hl : l.length ≤ 1048576) (h : ∀ p ∈ l, p.OK ∧ p.nets.length ≤ 1048576) : CF.OK ⟨key, port, l⟩ := ⟨hl, h⟩
theorem putP_ok {key : ByteArray} {port : Int} {l : List PE} {t : ByteArray} (ok : CF.OK ⟨key, port, l⟩) (h6 : l.length ≤ 6) : CF.OK ⟨key, port, putP t l⟩ := by
 refine zfZ (by rw [zik]; omega) fun p hp => ?_
 unfold putP at hp
 rcases qaW.1 hp with hp | hp
 ·exact ok.ps p (qbj hp)
 ·rcases qaI.1 hp with rfl | hp
  ·exact newP_ok t
  ·exact ok.ps p (qb3 hp)
theorem delK_ok {key : ByteArray} {port : Int} {l : List PE} {t : ByteArray} (ok : CF.OK ⟨key, port, l⟩) : CF.OK ⟨key, port, delK t l⟩ :=
 zfZ (qby (List.length_filter_le _ _) ok.len) fun p hp => ok.ps p (qbM.1 hp).1
theorem zd5 {key : ByteArray} {port : Int} {l : List PE} {j : Nat} {f : PE → PE} (ok : CF.OK ⟨key, port, l⟩) (hj : j < l.length) (h : ∀ p : PE, p.OK ∧ p.nets.length ≤ 1048576 → (f p).OK ∧ (f p).nets.length ≤ 1048576) : CF.OK ⟨key, port, upP l j f⟩ := by
 refine zfZ (by unfold upP; rw [List.length_set]; exact ok.len) fun p hp => ?_
 unfold upP at hp
 rcases List.mem_or_eq_of_mem_set hp with hp | rfl
 ·exact ok.ps p hp
 ·rw [zcd (List.getElem?_eq_getElem hj)]
  exact h _ (ok.ps _ (qbz hj))
theorem putN_len (n : NtP) (l : List NtP) : (putN n l).length = l.length + 1 := by
 have := zfW (fun m : NtP => decide (nLt m n)) l
 unfold putN
 exact jb6
theorem putN_mem {n m : NtP} {l : List NtP} (h : m ∈ putN n l) : m = n ∨ m ∈ l := by
 unfold putN at h
 rcases qaW.1 h with h | h
 ·exact .inr (qbj h)
 ·rcases qaI.1 h with h | h
  ·exact .inl h
  ·exact .inr (qb3 h)
theorem mvL_ok {key : ByteArray} {port : Int} {l : List PE} {j : Nat} {n : NtP} (ok : CF.OK ⟨key, port, l⟩) (hj : j < l.length) (hn : ntOK n) (h8 : l[j].nets.length ≤ 8) : CF.OK ⟨key, port, (dnL n l).set j { l[j] with nets := putN n (delN n l[j].nets) }⟩ := by
 have okd := dnL_ok (n := n) ok
 have hd := @zcm n l[j].nets
 refine zfZ (by rw [List.length_set, zbo]; exact ok.len) fun p hp => ?_
 rcases List.mem_or_eq_of_mem_set hp with hp | rfl
 ·exact okd.ps p hp
 ·obtain ⟨h1, h2⟩ := ok.ps l[j] (qbz hj)
  refine ⟨⟨h1.ep, by show (putN n (delN n l[j].nets)).length ≤ _; rw [putN_len]; omega, fun m hm => ?_⟩, by show (putN n (delN n l[j].nets)).length ≤ _; rw [putN_len]; omega⟩
  rcases putN_mem hm with rfl | hm
  ·exact hn
  ·exact h1.nets m (hd.2 m hm)
theorem posP_hi {l : List PE} (hs : ∀ i, (hi : i + 1 < l.length) → sLt (l[i]'qk).key l[i + 1].key = true) (t : ByteArray) (u : Nat) (h : posL (fun p => sLt p.key t) l ≤ u) (hu : u < l.length) : ¬ sLt l[u].key t = true := by
 have hS : Srt (fun p q : PE => sLt p.key q.key = true) l := srt_of (lt := fun p q : PE => sLt p.key q.key = true) (fun a b c h1 h2 => zfg h1 h2) hs
 have := posL_hi (lt := fun p : PE => sLt p.key t) (l := l) (fun i j hij hj hlt => zfg (hS i j hij hj) hlt) u h hu
 rw [this]; decide
theorem posN_hi {l : List NtP} (hS : Srt nLt l) (n : NtP) (u : Nat) (h : posL (fun m => decide (nLt m n)) l ≤ u) (hu : u < l.length) : ¬ nLt l[u] n := by
 have := posL_hi (lt := fun m : NtP => decide (nLt m n)) (l := l) (fun i j hij hj hlt => by
  rw [decide_eq_true_eq] at hlt ⊢
  exact nLt_trans _ _ _ (hS i j hij hj) hlt) u h hu
 simpa using this
theorem peN_key {t : ByteArray} : ∀ {l : List PE}, ¬ peN t l < l.length → ∀ u, (hu : u < l.length) → l[u].key ≠ t
 | p :: l, h, u, hu => by
  have h0 : p.key ≠ t := fun e => h (by simp [peN, e])
  have ih : ¬ peN t l < l.length := fun h2 => h (by simp [peN, h0]; omega)
  cases u with
  | zero => exact h0
  | succ u => simpa using peN_key ih u (by simpa using hu)
theorem peN_at2 {t : ByteArray} : ∀ {l : List PE}, (h : peN t l < l.length) → l[peN t l].key = t
 | [], h => by simp at h
 | p :: l, h => by
  by_cases e : p.key = t
  ·have : peN t (p :: l) = 0 := by simp [peN, e]
   simp only [this]; exact e
  ·have h2 : peN t (p :: l) = peN t l + 1 := by simp [peN, e]
   simp only [h2, List.getElem_cons_succ]
   exact peN_at2 (by rw [h2] at h; simpa using h)
theorem zhY {t : ByteArray} {l : List PE} (hs : ∀ i, (hi : i + 1 < l.length) → sLt (l[i]'qk).key l[i + 1].key = true) (h : peN t l < l.length) : delK t l = l.take (peN t l) ++ l.drop (peN t l + 1) := by
 have hS : Srt (fun p q : PE => sLt p.key q.key = true) l := srt_of (lt := fun p q : PE => sLt p.key q.key = true) (fun a b c h1 h2 => zfg h1 h2) hs
 have hne : ∀ u, (hu : u < l.length) → u ≠ peN t l → l[u].key ≠ t := fun u hu hun e => by
  have hk := peN_at2 h
  rcases qbH u (peN t l) with h1 | h1
  ·have := hS u _ h1 h
   simp only at this
   rw [e, hk, zhH] at this; cases this
  ·have := hS _ u (show peN t l < u by omega) hu
   simp only at this
   rw [e, hk, zhH] at this; cases this
 have h1 : l = l.take (peN t l) ++ l[peN t l] :: l.drop (peN t l + 1) := by rw [List.getElem_cons_drop, qa1]
 unfold delK
 conv => lhs; rw [h1]
 rw [qbX, List.filter_cons, peN_at2 h]
 simp only [decide_true, Bool.not_true, qa0, if_false]
 congr 1
 ·refine qbE.2 fun p hp => ?_
  obtain ⟨u, hu, rfl⟩ := qbs.1 hp
  rw [List.length_take] at hu
  rw [qb4]
  simp [hne u (by omega) (by omega)]
 ·refine qbE.2 fun p hp => ?_
  obtain ⟨u, hu, rfl⟩ := qbs.1 hp
  rw [qaP] at hu
  rw [List.getElem_drop]
  simp [hne (peN t l + 1 + u) (by omega) (by omega)]
theorem sortP_put {t : ByteArray} {l : List PE} (hs : ∀ i, (hi : i + 1 < l.length) → sLt (l[i]'qk).key l[i + 1].key = true) (h : ¬ peN t l < l.length) : zcz gtP (l ++ [newP t]) = putP t l := by
 have hS : Srt (fun p q : PE => sLt p.key q.key = true) l := srt_of (lt := fun p q : PE => sLt p.key q.key = true) (fun a b c h1 h2 => zfg h1 h2) hs
 refine sortE_put (fun i j hij hj => ?_) (zfW _ _) (fun u hu hl => ?_) (fun u hu hl => ?_)
 ·have : sLt l[i].key l[j].key = true := hS i j hij hj
  simp [gtP, this]
 ·have : sLt l[u].key t = true := zim (lt := fun p : PE => sLt p.key t) u hu hl
  simp [gtP, newP, this]
 ·have h1 := posP_hi hs t u hu hl
  have h2 := peN_key h u hl
  rw [Bool.not_eq_true] at h1
  simp [gtP, newP, h1, h2]
theorem sortN_put {n : NtP} {l : List NtP} (hS : Srt nLt l) (hne : ∀ u, (hu : u < l.length) → l[u] ≠ n) : zcz gtN (l ++ [n]) = putN n l := by
 refine sortE_put (fun i j hij hj => ?_) (zfW _ _) (fun u hu hl => ?_) (fun u hu hl => ?_)
 ·have h1 := hS i j hij hj
  unfold gtN
  rw [decide_eq_false_iff_not, nGt_iff]
  rw [zg9] at h1 ⊢
  omega
 ·have h1 := zim (lt := fun m : NtP => decide (nLt m n)) u hu hl
  simp only [decide_eq_true_eq] at h1
  unfold gtN
  rw [decide_eq_false_iff_not, nGt_iff]
  rw [zg9] at h1 ⊢
  omega
 ·have h1 := posN_hi hS n u hu hl
  unfold gtN
  rw [decide_eq_true_eq, nGt_iff]
  rcases Classical.em (nLt n l[u]) with h2 | h2
  ·exact h2
  ·exact absurd (nLt_total h1 h2) (hne u hl)
theorem delN_srt {n : NtP} {p : PE} (h : peE p = 0) : Srt nLt (delN n p.nets) := srt_filter _ (srt_of nLt_trans (zfl h).2)
theorem delN_ne {n : NtP} {l : List NtP} (u : Nat) (hu : u < (delN n l).length) : (delN n l)[u] ≠ n := fun e => by
 have := (qbM.1 (qbz hu)).2
 rw [e] at this
 simp at this
end Go.Proofs.YtlfjpippeeikdaaGreatDoor
