/- What one setting does to a configuration: apply.One and the reference's ApplyOne, over data. -/
import Derived.Test.YtkdfdcodkeclmaaGreatDoorSAp5
import Derived.Test.YtkdfdcodkeclmaaGreatDoorSAo1
import Derived.Test.YtkdfdcodkeclmaaGreatDoorSAr2
import Derived.Test.YtkdfdcodkeclmaaGreatDoorSCf2
import Derived.Test.YtkdfdcodkeclmaaGreatDoorSBt1
import Derived.Test.YtkdfdcodkeclmaaGreatDoorSUtZ
namespace Go.Proofs.YtkdfdcodkeclmaaGreatDoor
open Tryz
open Go.RowKit Go.Sort
set_option linter.unusedVariables false
set_option linter.unusedSimpArgs false
set_option maxRecDepth 100000
theorem fn_data {P : Program} {f : FuncId} {args : List AV} {a b x y : PV} {e size n : Nat} {cs : List PV} (h : Fn P f args (.tup [.agg [.p a, .p b, .row 0], .p x, .p y]) [(0, .row e size n cs)]) : Fn P f args (.tup [.agg [.p a, .p b, .p (.sl n size cs)], .p x, .p y]) [] := by
 intro w A us hA hG hr
 refine (h w A us hA hG hr).mono fun en w' ⟨v, he, S', m', h1, h2⟩ => ⟨v, he, fun b => S' b ∨ ∃ v0, m' 0 = some v0 ∧ blk v0 = some b, fun _ => none, ?_, ?_⟩
 ·simp only [Rep, RepL] at h1 ⊢
  obtain ⟨ts, rfl, t0, _, rfl, ⟨us, rfl, ⟨u0, _, rfl, k0, u1, _, rfl, k1, u2, _, rfl, k2, rfl⟩, k3⟩, t1, _, rfl, k4, t2, _, rfl, k5, rfl⟩ := h1
  have hs : ∀ b, S' b → (fun b => S' b ∨ ∃ v0, m' 0 = some v0 ∧ blk v0 = some b) b := fun b hb => .inl hb
  exact ⟨_, rfl, _, _, rfl, ⟨_, rfl, ⟨u0, _, rfl, PRep.mono hs (fun _ _ => rfl) _ _ k0, u1, _, rfl, PRep.mono hs (fun _ _ => rfl) _ _ k1, u2, _, rfl, zeH h2 hs rfl (fun v b hv hb => .inr ⟨v, hv, hb⟩) k2.1, rfl⟩, k3⟩, t1, _, rfl, PRep.mono hs (fun _ _ => rfl) _ _ k4, t2, _, rfl, PRep.mono hs (fun _ _ => rfl) _ _ k5, rfl⟩
 ·refine ⟨h2.bel, ?_, ?_, fun o _ => rfl, fun o ob ho => (by cases ho), fun o o' ob ob' v v' b ho => (by cases ho), h2.gl⟩
  ·rintro b (hb | ⟨v0, h3, h4⟩)
   ·exact h2.sA b hb
   ·obtain ⟨v', k1, k2, _⟩ := h2.live 0 _ rfl
    rw [h3] at k1; cases k1
    exact .inr (k2.lt h4).1
  ·rintro b (hb | ⟨v0, h3, h4⟩)
   ·exact h2.sW b hb
   ·obtain ⟨v', k1, k2, _⟩ := h2.live 0 _ rfl
    rw [h3] at k1; cases k1
    exact (k2.lt h4).2
theorem fn_nil {P : Program} {f : FuncId} {args : List AV} {a b x y : PV} {size : Nat} (h : Fn P f args (.tup [.agg [.p a, .p b, .p (.v (.slice none 0 0))], .p x, .p y]) []) : Fn P f args (.tup [.agg [.p a, .p b, .p (.sl 0 size [])], .p x, .p y]) [] := by
 intro w A us hA hG hr
 refine (h w A us hA hG hr).mono fun en w' ⟨v, he, S', m', h1, h2⟩ => ⟨v, he, S', m', ?_, h2⟩
 simp only [Rep, RepL] at h1 ⊢
 obtain ⟨ts, rfl, t0, _, rfl, ⟨us, rfl, ⟨u0, _, rfl, k0, u1, _, rfl, k1, u2, _, rfl, k2, rfl⟩, k3⟩, t1, _, rfl, k4, t2, _, rfl, k5, rfl⟩ := h1
 simp only [PRep] at k2
 obtain ⟨rfl, _⟩ := k2
 refine ⟨_, rfl, _, _, rfl, ⟨_, rfl, ⟨u0, _, rfl, k0, u1, _, rfl, k1, _, _, rfl, ?_, rfl⟩, k3⟩, t1, _, rfl, k4, t2, _, rfl, k5, rfl⟩
 simp only [PRep, PRepL]
 exact ⟨none, 0, [], rfl, Nat.le_refl _, by simp, rfl, by simp⟩
def zcf : CF := ⟨⟨#[]⟩, 0, []⟩
def apR (r : CF × ByteArray × Int) : AV := .tup [.agg r.1.cells, .p (.v (.string r.2.1)), .p (.v (.int .i64 r.2.2))]
theorem zbx {f : FuncId} {args : List AV} {e : Int} (h : Fn prog f args (oErr e) []) : Fn prog f args (apR (zcf, ⟨#[]⟩, e)) [] := fn_nil (size := 5) h
theorem zfR {f : FuncId} {args : List AV} {c : CF} {nx : ByteArray} (h : Fn prog f args (.tup [.agg [.p (.v (.string c.key)), .p (.v (.int .i64 c.port)), .row 0], .p (.v (.string nx)), .p (.v (.int .i64 0))]) [(0, .row 60 5 c.ps.length (c.ps.flatMap PE.pv))]) : Fn prog f args (apR (c, nx, 0)) [] := fn_data h
def putP (t : ByteArray) (l : List PE) : List PE := l.take (posL (fun p => sLt p.key t) l) ++ newP t :: l.drop (posL (fun p => sLt p.key t) l)
instance nLt_dec (m n : NtP) : Decidable (nLt m n) := by unfold nLt; infer_instance
def putN (n : NtP) (l : List NtP) : List NtP := l.take (posL (fun m => decide (nLt m n)) l) ++ n :: l.drop (posL (fun m => decide (nLt m n)) l)
def upP (l : List PE) (j : Nat) (f : PE → PE) : List PE := l.set j (f (peG l j))
def apO (c : CF) (pt : ByteArray) (s : SE) : CF × ByteArray × Int :=
 if cfE c ≠ 0 then (zcf, ⟨#[]⟩, cfE c) else if seE s ≠ 0 then (zcf, ⟨#[]⟩, seE s)
 else if s.k = 1 then (if peN s.t c.ps < c.ps.length then (zcf, ⟨#[]⟩, 14) else (⟨s.t, c.port, c.ps⟩, ⟨#[]⟩, 0))
 else if s.k = 2 then (⟨c.key, s.n, c.ps⟩, ⟨#[]⟩, 0)
 else if s.k = 3 then (⟨c.key, c.port, []⟩, ⟨#[]⟩, 0)
 else if s.k = 4 then (if s.t = c.key then (zcf, ⟨#[]⟩, 14) else if peN s.t c.ps < c.ps.length then (c, s.t, 0) else if c.ps.length = 6 then (zcf, ⟨#[]⟩, 7) else (⟨c.key, c.port, putP s.t c.ps⟩, s.t, 0))
 else if pt = ⟨#[]⟩ ∨ ¬ peN pt c.ps < c.ps.length then (zcf, ⟨#[]⟩, 13)
 else if s.k = 5 then (⟨c.key, c.port, delK pt c.ps⟩, ⟨#[]⟩, 0)
 else if s.k = 6 then (⟨c.key, c.port, upP c.ps (peN pt c.ps) fun p => { p with sh := s.t }⟩, pt, 0)
 else if s.k = 7 then (⟨c.key, c.port, upP c.ps (peN pt c.ps) fun p => { p with ep := s.t }⟩, pt, 0)
 else if s.k = 8 then (⟨c.key, c.port, upP c.ps (peN pt c.ps) fun p => { p with al := s.n }⟩, pt, 0)
 else if s.k = 9 then (⟨c.key, c.port, upP c.ps (peN pt c.ps) fun p => { p with nets := [] }⟩, pt, 0)
 else if (delN (s.a, s.b) (peG c.ps (peN pt c.ps)).nets).length = 8 then (zcf, ⟨#[]⟩, 7)
 else (⟨c.key, c.port, (dnL (s.a, s.b) c.ps).set (peN pt c.ps) { peG c.ps (peN pt c.ps) with nets := putN (s.a, s.b) (delN (s.a, s.b) (peG c.ps (peN pt c.ps)).nets) }⟩, pt, 0)
theorem seE_k {s : SE} (h : seE s = 0) : s.k = 1 ∨ s.k = 2 ∨ s.k = 3 ∨ s.k = 4 ∨ s.k = 5 ∨ s.k = 6 ∨ s.k = 7 ∨ s.k = 8 ∨ s.k = 9 ∨ s.k = 10 := by
 unfold seE at h
 split at h
 ·cases h
 ·omega
theorem zgC (t : ByteArray) (l : List PE) : (putP t l).length = l.length + 1 := by
 have := zeK (fun p : PE => sLt p.key t) l
 unfold putP
 rw [List.length_append, List.length_cons, List.length_take, List.length_drop]; omega
theorem newP_ok (t : ByteArray) : (newP t).OK ∧ (newP t).nets.length ≤ 1048576 := ⟨⟨(show (0 : Nat) < 4294967281 by decide), by simp [newP], fun n hn => by simp [newP] at hn⟩, by simp [newP]⟩
theorem zej {key : ByteArray} {port : Int} {l : List PE} (hl : l.length ≤ 1048576) (h : ∀ p ∈ l, p.OK ∧ p.nets.length ≤ 1048576) : CF.OK ⟨key, port, l⟩ := ⟨hl, h⟩
theorem putP_ok {key : ByteArray} {port : Int} {l : List PE} {t : ByteArray} (ok : CF.OK ⟨key, port, l⟩) (h6 : l.length ≤ 6) : CF.OK ⟨key, port, putP t l⟩ := by
 refine zej (by rw [zgC]; omega) fun p hp => ?_
 unfold putP at hp
 rcases List.mem_append.1 hp with hp | hp
 ·exact ok.ps p (List.mem_of_mem_take hp)
 ·rcases List.mem_cons.1 hp with rfl | hp
  ·exact newP_ok t
  ·exact ok.ps p (List.mem_of_mem_drop hp)
theorem delK_ok {key : ByteArray} {port : Int} {l : List PE} {t : ByteArray} (ok : CF.OK ⟨key, port, l⟩) : CF.OK ⟨key, port, delK t l⟩ :=
 zej (Nat.le_trans (List.length_filter_le _ _) ok.len) fun p hp => ok.ps p (List.mem_filter.1 hp).1
theorem zdh {key : ByteArray} {port : Int} {l : List PE} {j : Nat} {f : PE → PE} (ok : CF.OK ⟨key, port, l⟩) (hj : j < l.length) (h : ∀ p : PE, p.OK ∧ p.nets.length ≤ 1048576 → (f p).OK ∧ (f p).nets.length ≤ 1048576) : CF.OK ⟨key, port, upP l j f⟩ := by
 refine zej (by unfold upP; rw [List.length_set]; exact ok.len) fun p hp => ?_
 unfold upP at hp
 rcases List.mem_or_eq_of_mem_set hp with hp | rfl
 ·exact ok.ps p hp
 ·rw [zbY (List.getElem?_eq_getElem hj)]
  exact h _ (ok.ps _ (List.getElem_mem hj))
theorem putN_len (n : NtP) (l : List NtP) : (putN n l).length = l.length + 1 := by
 have := zeK (fun m : NtP => decide (nLt m n)) l
 unfold putN
 rw [List.length_append, List.length_cons, List.length_take, List.length_drop]; omega
theorem putN_mem {n m : NtP} {l : List NtP} (h : m ∈ putN n l) : m = n ∨ m ∈ l := by
 unfold putN at h
 rcases List.mem_append.1 h with h | h
 ·exact .inr (List.mem_of_mem_take h)
 ·rcases List.mem_cons.1 h with h | h
  ·exact .inl h
  ·exact .inr (List.mem_of_mem_drop h)
theorem mvL_ok {key : ByteArray} {port : Int} {l : List PE} {j : Nat} {n : NtP} (ok : CF.OK ⟨key, port, l⟩) (hj : j < l.length) (hn : ntOK n) (h8 : l[j].nets.length ≤ 8) : CF.OK ⟨key, port, (dnL n l).set j { l[j] with nets := putN n (delN n l[j].nets) }⟩ := by
 have okd := dnL_ok (n := n) ok
 have hd := @zbU n l[j].nets
 refine zej (by rw [List.length_set, zbc]; exact ok.len) fun p hp => ?_
 rcases List.mem_or_eq_of_mem_set hp with hp | rfl
 ·exact okd.ps p hp
 ·obtain ⟨h1, h2⟩ := ok.ps l[j] (List.getElem_mem hj)
  refine ⟨⟨h1.ep, by show (putN n (delN n l[j].nets)).length ≤ _; rw [putN_len]; omega, fun m hm => ?_⟩, by show (putN n (delN n l[j].nets)).length ≤ _; rw [putN_len]; omega⟩
  rcases putN_mem hm with rfl | hm
  ·exact hn
  ·exact h1.nets m (hd.2 m hm)
theorem posP_hi {l : List PE} (hs : ∀ i, (hi : i + 1 < l.length) → sLt (l[i]'(by omega)).key l[i + 1].key = true) (t : ByteArray) (u : Nat) (h : posL (fun p => sLt p.key t) l ≤ u) (hu : u < l.length) : ¬ sLt l[u].key t = true := by
 have hS : Srt (fun p q : PE => sLt p.key q.key = true) l := srt_of (lt := fun p q : PE => sLt p.key q.key = true) (fun a b c h1 h2 => zd8 h1 h2) hs
 have := posL_hi (lt := fun p : PE => sLt p.key t) (l := l) (fun i j hij hj hlt => zd8 (hS i j hij hj) hlt) u h hu
 rw [this]; decide
theorem posN_hi {l : List NtP} (hS : Srt nLt l) (n : NtP) (u : Nat) (h : posL (fun m => decide (nLt m n)) l ≤ u) (hu : u < l.length) : ¬ nLt l[u] n := by
 have := posL_hi (lt := fun m : NtP => decide (nLt m n)) (l := l) (fun i j hij hj hlt => by
  rw [decide_eq_true_eq] at hlt ⊢
  exact nLt_trans _ _ _ (hS i j hij hj) hlt) u h hu
 simpa using this
theorem peN_key {t : ByteArray} : ∀ {l : List PE}, ¬ peN t l < l.length → ∀ u, (hu : u < l.length) → l[u].key ≠ t
 | p :: l, h, u, hu => by
  have h0 : p.key ≠ t := fun e => h (by simp [peN, e])
  have ih : ¬ peN t l < l.length := fun h2 => h (by simp [peN, h0]; omega)
  cases u with
  | zero => exact h0
  | succ u => simpa using peN_key ih u (by simpa using hu)
theorem peN_at2 {t : ByteArray} : ∀ {l : List PE}, (h : peN t l < l.length) → l[peN t l].key = t
 | [], h => by simp at h
 | p :: l, h => by
  by_cases e : p.key = t
  ·have : peN t (p :: l) = 0 := by simp [peN, e]
   simp only [this]; exact e
  ·have h2 : peN t (p :: l) = peN t l + 1 := by simp [peN, e]
   simp only [h2, List.getElem_cons_succ]
   exact peN_at2 (by rw [h2] at h; simpa using h)
theorem zgs {t : ByteArray} {l : List PE} (hs : ∀ i, (hi : i + 1 < l.length) → sLt (l[i]'(by omega)).key l[i + 1].key = true) (h : peN t l < l.length) : delK t l = l.take (peN t l) ++ l.drop (peN t l + 1) := by
 have hS : Srt (fun p q : PE => sLt p.key q.key = true) l := srt_of (lt := fun p q : PE => sLt p.key q.key = true) (fun a b c h1 h2 => zd8 h1 h2) hs
 have hne : ∀ u, (hu : u < l.length) → u ≠ peN t l → l[u].key ≠ t := fun u hu hun e => by
  have hk := peN_at2 h
  rcases Nat.lt_or_ge u (peN t l) with h1 | h1
  ·have := hS u _ h1 h
   simp only at this
   rw [e, hk, zgd] at this; cases this
  ·have := hS _ u (show peN t l < u by omega) hu
   simp only at this
   rw [e, hk, zgd] at this; cases this
 have h1 : l = l.take (peN t l) ++ l[peN t l] :: l.drop (peN t l + 1) := by rw [List.getElem_cons_drop, List.take_append_drop]
 unfold delK
 conv => lhs; rw [h1]
 rw [List.filter_append, List.filter_cons, peN_at2 h]
 simp only [decide_true, Bool.not_true, Bool.false_eq_true, if_false]
 congr 1
 ·refine List.filter_eq_self.2 fun p hp => ?_
  obtain ⟨u, hu, rfl⟩ := List.mem_iff_getElem.1 hp
  rw [List.length_take] at hu
  rw [List.getElem_take]
  simp [hne u (by omega) (by omega)]
 ·refine List.filter_eq_self.2 fun p hp => ?_
  obtain ⟨u, hu, rfl⟩ := List.mem_iff_getElem.1 hp
  rw [List.length_drop] at hu
  rw [List.getElem_drop]
  simp [hne (peN t l + 1 + u) (by omega) (by omega)]
theorem sortP_put {t : ByteArray} {l : List PE} (hs : ∀ i, (hi : i + 1 < l.length) → sLt (l[i]'(by omega)).key l[i + 1].key = true) (h : ¬ peN t l < l.length) : zb6 gtP (l ++ [newP t]) = putP t l := by
 have hS : Srt (fun p q : PE => sLt p.key q.key = true) l := srt_of (lt := fun p q : PE => sLt p.key q.key = true) (fun a b c h1 h2 => zd8 h1 h2) hs
 refine sortE_put (fun i j hij hj => ?_) (zeK _ _) (fun u hu hl => ?_) (fun u hu hl => ?_)
 ·have : sLt l[i].key l[j].key = true := hS i j hij hj
  simp [gtP, this]
 ·have : sLt l[u].key t = true := zgD (lt := fun p : PE => sLt p.key t) u hu hl
  simp [gtP, newP, this]
 ·have h1 := posP_hi hs t u hu hl
  have h2 := peN_key h u hl
  rw [Bool.not_eq_true] at h1
  simp [gtP, newP, h1, h2]
theorem sortN_put {n : NtP} {l : List NtP} (hS : Srt nLt l) (hne : ∀ u, (hu : u < l.length) → l[u] ≠ n) : zb6 gtN (l ++ [n]) = putN n l := by
 refine sortE_put (fun i j hij hj => ?_) (zeK _ _) (fun u hu hl => ?_) (fun u hu hl => ?_)
 ·have h1 := hS i j hij hj
  unfold gtN
  rw [decide_eq_false_iff_not, nGt_iff]
  rw [zfE] at h1 ⊢
  omega
 ·have h1 := zgD (lt := fun m : NtP => decide (nLt m n)) u hu hl
  simp only [decide_eq_true_eq] at h1
  unfold gtN
  rw [decide_eq_false_iff_not, nGt_iff]
  rw [zfE] at h1 ⊢
  omega
 ·have h1 := posN_hi hS n u hu hl
  unfold gtN
  rw [decide_eq_true_eq, nGt_iff]
  rcases Classical.em (nLt n l[u]) with h2 | h2
  ·exact h2
  ·exact absurd (nLt_total h1 h2) (hne u hl)
theorem delN_srt {n : NtP} {p : PE} (h : peE p = 0) : Srt nLt (delN n p.nets) := srt_filter _ (srt_of nLt_trans (zeh h).2)
theorem delN_ne {n : NtP} {l : List NtP} (u : Nat) (hu : u < (delN n l).length) : (delN n l)[u] ≠ n := fun e => by
 have := (List.mem_filter.1 (List.getElem_mem hu)).2
 rw [e] at this
 simp at this
end Go.Proofs.YtkdfdcodkeclmaaGreatDoor
/- The law's sameConf: a configuration is the same as itself; over data. -/
namespace Go.Proofs.YtkdfdcodkeclmaaGreatDoor
open Tryz
open Go.RowKit Go.Sort
set_option linter.unusedVariables false
set_option linter.unusedSimpArgs false
set_option maxRecDepth 100000
theorem sameNets_s (l : List NtP) (hn : l.length ≤ 1048576) : Fn prog 32 [.p (.sl l.length 2 (l.flatMap ntC)), .p (.sl l.length 2 (l.flatMap ntC))] (.p (.v (.bool true))) [] := by
 refine fnI fun w0 A => ?_
 refine G [8] ?_
 refine zaa (zaL U58) rfl rfl ?_
 refine mP rfl rfl ?_
 refine zaa (zaL U58) rfl rfl ?_
 refine G [0, 1, 1, 9, 0] ?_
 refine zab _ rfl (fun h => ?_) (fun h => ?_)
 ·simp at h
 refine G [5] ?_
 refine zaa (zaL U58) rfl rfl ?_
 refine G [3] ?_
 refine zal (fun m st => ∃ i : Nat, m + i = l.length ∧ st = St.of [(0, .p (.sl l.length 2 (l.flatMap ntC))), (1, .p (.sl l.length 2 (l.flatMap ntC))), (12, .p (.v (.int .i64 l.length))), (13, .p (.v (.int .i64 i)))] []) l.length ?_ ?_
 ·refine ⟨_, zak id _ _ ?_ ?_ rfl, 0, by omega, rfl⟩
  ·(repeat (first | exact trivial | (refine ⟨⟨(by first | rfl | (simp; done) | (simp; omega)), rfl⟩, ?_⟩)))
  ·exact trivial
 rintro m st ⟨i, hi, rfl⟩
 refine G [5] ?_
 refine zab _ rfl (fun h => ?_) (fun h => ?_)
 ·have hlt : i < l.length := by simp at h; omega
  clear h
  obtain ⟨s, hs⟩ : ∃ s, l[i]? = some s := ⟨l[i], List.getElem?_eq_getElem hlt⟩
  have hch := zav (f := ntC) (k := 2) (fun _ => rfl) hs
  have hle := zau (f := ntC) (k := 2) (fun _ => rfl) hlt
  generalize hL : l.flatMap ntC = L at *
  obtain ⟨a, b⟩ := s
  refine G [12] ?_
  refine zaa (zad U58 sz27 (by omega) (by omega) rfl) rfl rfl ?_
  refine zaa (zaq U27 rfl sz27 (by first | omega | (simp; done) | (simp; omega)) (hch)) rfl rfl ?_
  refine G [2] ?_
  refine zaa (zad U58 sz27 (by omega) (by omega) rfl) rfl rfl ?_
  refine zaa (zaq U27 rfl sz27 (by first | omega | (simp; done) | (simp; omega)) (hch)) rfl rfl ?_
  refine zaa (zam U27 (xs := [.int .u32 a, .int .i64 b]) (ys := [.int .u32 a, .int .i64 b]) rfl rfl (by kernel_rfl) (by kernel_rfl) (by kernel_rfl) (c := false) (by rw [zbF]; rfl)) rfl rfl ?_
  refine G [4] ?_
  refine zaa (zas (by first | exact IntWalk.i64_in _ (by omega) | rfl)) rfl rfl ?_
  refine G [2, 9, 0] ?_
  refine ⟨m - 1, by omega, _, zak id _ _ ?_ ?_ rfl, i + 1, by omega, rfl⟩
  ·(repeat (first | exact trivial | (refine ⟨⟨(by first | rfl | (simp; done) | (simp; omega)), rfl⟩, ?_⟩)))
  ·exact trivial
 refine G [6, 9, 0] ?_
 exact yE
theorem samePe_s (p : PE) (hn : p.nets.length ≤ 1048576) : Fn prog 31 [.agg p.cells, .agg p.cells] (.p (.v (.bool true))) [] := by
 have hQ := sameNets_s p.nets hn
 obtain ⟨pk, sh, ep, al, nn⟩ := p
 dsimp only at hQ
 show Fn prog _ [.agg [.p (.v (.string pk)), .p (.v (.string sh)), .p (.v (.string ep)), .p (.v (.int .i64 al)), .p (.sl nn.length 2 (nn.flatMap ntC))], .agg [.p (.v (.string pk)), .p (.v (.string sh)), .p (.v (.string ep)), .p (.v (.int .i64 al)), .p (.sl nn.length 2 (nn.flatMap ntC))]] _ _
 clear hn
 generalize nn.flatMap ntC = L at *
 generalize nn.length = N at *
 refine fnI fun w0 A => ?_
 refine G [12, 1, 5, 1, 6, 1, 6, 1, 6] ?_
 refine cK hQ ?_
 refine G [4, 9, 0] ?_
 exact yE
theorem samePes_s (l : List PE) (hn : l.length ≤ 1048576) (ok : ∀ p ∈ l, p.OK ∧ p.nets.length ≤ 1048576) : Fn prog 30 [.p (.sl l.length 5 (l.flatMap PE.pv)), .p (.sl l.length 5 (l.flatMap PE.pv)), .fn 31 []] (.p (.v (.bool true))) [] := by
 refine fnI fun w0 A => ?_
 refine G [8] ?_
 refine zaa (zaL U22) rfl rfl ?_
 refine mP rfl rfl ?_
 refine zaa (zaL U22) rfl rfl ?_
 refine G [0, 1, 1, 9, 0] ?_
 refine zab _ rfl (fun h => ?_) (fun h => ?_)
 ·simp at h
 refine G [5] ?_
 refine zaa (zaL U22) rfl rfl ?_
 refine G [3] ?_
 refine zal (fun m st => ∃ i : Nat, m + i = l.length ∧ st = St.of [(1, .p (.sl l.length 5 (l.flatMap PE.pv))), (2, .fn 31 []), (15, .p (.sl l.length 5 (l.flatMap PE.pv))), (16, .p (.v (.int .i64 l.length))), (17, .p (.v (.int .i64 i)))] []) l.length ?_ ?_
 ·refine ⟨_, zak id _ _ ?_ ?_ rfl, 0, by omega, rfl⟩
  ·(repeat (first | exact trivial | (refine ⟨⟨(by first | rfl | (simp; done) | (simp; omega)), rfl⟩, ?_⟩)))
  ·exact trivial
 rintro m st ⟨i, hi, rfl⟩
 refine G [5] ?_
 refine zab _ rfl (fun h => ?_) (fun h => ?_)
 ·have hlt : i < l.length := by simp at h; omega
  clear h
  obtain ⟨s, hs⟩ : ∃ s, l[i]? = some s := ⟨l[i], List.getElem?_eq_getElem hlt⟩
  have hch := zav (f := PE.pv) (k := 5) (fun _ => rfl) hs
  have hle := zau (f := PE.pv) (k := 5) (fun _ => rfl) hlt
  have hC := samePe_s s (ok s (List.mem_of_getElem? hs)).2
  generalize hL : l.flatMap PE.pv = L at *
  refine G [6] ?_
  refine zaa (zad U22 sz60 (by omega) (by omega) rfl) rfl rfl ?_
  refine zaa (zaq U60 rfl sz60 (by first | omega | (simp; done) | (simp; omega)) (hch)) rfl rfl ?_
  refine G [2] ?_
  refine zac (zap (Y := .agg s.cells) sz60 rfl rfl (Nat.eq_of_beq_eq_true rfl)) rfl rfl ⟨rfl, trivial⟩ ?_
  refine G [5] ?_
  refine zaa (zad U22 sz60 (by omega) (by omega) rfl) rfl rfl ?_
  refine zaa (zaq U60 rfl sz60 (by first | omega | (simp; done) | (simp; omega)) (hch)) rfl rfl ?_
  refine zac (zaV 9 zr60 rfl) rfl rfl ⟨rfl, trivial⟩ ?_
  refine zac (zap (Y := .agg s.cells) sz60 rfl rfl (Nat.eq_of_beq_eq_true rfl)) rfl rfl ⟨rfl, trivial⟩ ?_
  refine G [4] ?_
  refine zac (zbJ U60 rfl sz60 (by first | exact Nat.le_of_ble_eq_true rfl | omega | (simp only [AV.cells, List.length_map]; omega)) (show _ = s.cells from rfl)) rfl rfl ⟨rfl, trivial⟩ ?_
  refine zac (zbJ U60 rfl sz60 (by first | exact Nat.le_of_ble_eq_true rfl | omega | (simp only [AV.cells, List.length_map]; omega)) (show _ = s.cells from rfl)) rfl rfl ⟨rfl, trivial⟩ ?_
  refine cK hC ?_
  refine G [2, 9, 0] ?_
  refine zab _ rfl (fun h => ?_) (fun h => ?_)
  ·cases h
  refine G [2] ?_
  refine zaa (zas (by first | exact IntWalk.i64_in _ (by omega) | rfl)) rfl rfl ?_
  refine G [2, 9, 0] ?_
  refine ⟨m - 1, by omega, _, zak id _ _ ?_ ?_ rfl, i + 1, by omega, rfl⟩
  ·(repeat (first | exact trivial | (refine ⟨⟨(by first | rfl | (simp; done) | (simp; omega)), rfl⟩, ?_⟩)))
  ·exact trivial
 refine G [6, 9, 0] ?_
 exact yE
theorem sameConfP (key : ByteArray) (port : Int) (Q : PV) (hQ : Fn prog 30 [.p Q, .p Q, .fn 31 []] (.p (.v (.bool true))) []) : Fn prog 9 [.agg [.p (.v (.string key)), .p (.v (.int .i64 port)), .p Q], .agg [.p (.v (.string key)), .p (.v (.int .i64 port)), .p Q]] (.p (.v (.bool true))) [] := by
 refine fnI fun w0 A => ?_
 refine G [12, 1, 5, 1, 6] ?_
 refine cK hQ ?_
 refine G [4, 9, 0] ?_
 exact yE
theorem sameConf_s (c : CF) (ok : c.OK) : Fn prog 9 [.agg c.cells, .agg c.cells] (.p (.v (.bool true))) [] :=
 sameConfP c.key c.port _ (samePes_s c.ps ok.len ok.ps)
end Go.Proofs.YtkdfdcodkeclmaaGreatDoor
/- Settings, typed, as data. -/
namespace Go.Proofs.YtkdfdcodkeclmaaGreatDoor
open Go.RowKit Go.Sort
set_option linter.unusedVariables false
set_option linter.unusedSimpArgs false
set_option maxRecDepth 100000
theorem SE.of_ty {n : Nat} {ps : List PV} (h : Ty Tryz.prog (n + 3) 29 ps) (hb : PV.bdL 1048576 ps) : ∃ s : SE, s.OK ∧ ps = s.pv := by
 obtain ⟨_, rfl, x0, _, rfl, t0, x1, _, rfl, t1, x2, _, rfl, t2, x3, _, rfl, t3, rfl⟩ := zdk (ts := [3, 9, 3, 27]) (by kernel_rfl) h
 obtain ⟨k, rfl, hk⟩ := zeZ U3 t0
 obtain ⟨t, rfl, _⟩ := zcQ U9 t1
 obtain ⟨m, rfl, hm⟩ := zeZ U3 t2
 obtain ⟨_, rfl, y0, _, rfl, u0, y1, _, rfl, u1, rfl⟩ := zdk (ts := [25, 3]) (by kernel_rfl) t3
 obtain ⟨a, rfl, ha⟩ := zeZ U25 u0
 obtain ⟨b, rfl, hb'⟩ := zeZ U3 u1
 obtain ⟨m0, m1⟩ := wf_i64 hm
 obtain ⟨a0, a1⟩ := wf_u32 ha
 refine ⟨⟨k, t, m, a, b⟩, ⟨?_, m0, m1, a0, a1⟩, rfl⟩
 simp [PV.bdL, PV.bd] at hb
 show t.size < _
 omega
theorem SE.list_ty {n : Nat} {ps : List PV} (h : Ty Tryz.prog (n + 4) 35 ps) (hb : PV.bdL 1048576 ps) : ∃ l : List SE, (∀ s ∈ l, s.OK) ∧ l.length ≤ 1048576 ∧ ps = [.sl l.length 5 (l.flatMap SE.pv)] := by
 obtain ⟨L, rfl, h2, h3⟩ := ty_slice (sz := 5) U35 (by kernel_rfl) h
 simp only [PV.bdL, PV.bd, and_true] at hb
 obtain ⟨l, k1, k2, k3⟩ := zgA (f := SE.pv) (Q := SE.OK) (L := L) fun x hx => by
  obtain ⟨s, h4, h5⟩ := SE.of_ty (n := n) (h3 x hx).1 (zeV hb.2 x hx)
  exact ⟨s, h4, h5⟩
 exact ⟨l, k3, by rw [k1]; exact hb.1, by rw [k1, k2]⟩
end Go.Proofs.YtkdfdcodkeclmaaGreatDoor
