/- apply.One, over data, za5 what apply.one does. -/
import Derived.Test.YtlfjpippeeikdaaGreatDoorSAp5
import Derived.Test.YtlfjpippeeikdaaGreatDoorSCp1
set_option linter.all false
namespace Go.Proofs.YtlfjpippeeikdaaGreatDoor
open Tryz
open Go.RowKit Go.Sort
set_option maxHeartbeats 16000000
set_option maxRecDepth 100000
theorem reo_fzBox {st : St} {bt e size n q : Nat} {a b : PV} {cs : List PV} (h0 : st.heap 0 = .live (.box bt [.p a, .p b, .row q])) (hq : st.heap q = .live (.row e size n cs)) (hne : q ≠ 0) :
 ReO st ⟨st.tmps, updL st.heap [(0, .live (.box bt [.p a, .p b, .p (.sl n size cs)])), (q, .dead)]⟩ := by
 rintro w0 A nt x w ⟨⟨S, m, hm, hj, hr⟩, hsz, hd⟩
 obtain ⟨vq, k1, k2, k3⟩ := hm.live q _ hq
 obtain ⟨v0, j1, j2, j3⟩ := hm.live 0 _ h0
 have hs : ∀ b', S b' → (fun y => S y ∨ blk vq = some y) b' := fun b' hb => .inl hb
 have g : Grow S m w (fun y => S y ∨ blk vq = some y) m w := ⟨hs, fun _ _ => rfl, fun _ _ h => h⟩
 have hold : ∀ z ob, updL st.heap [(0, .live (.box bt [.p a, .p b, .p (.sl n size cs)])), (q, .dead)] z = .live ob → z ≠ 0 → st.heap z = .live ob ∧ z ≠ q := fun z ob hz h1 => by
  simp only [updL, nbeq h1, cond_false] at hz
  by_cases e1 : z = q
  ·subst e1; simp at hz
  ·rw [nbeq e1, cond_false] at hz; exact ⟨hz, e1⟩
 have key : ∀ z obz, updL st.heap [(0, .live (.box bt [.p a, .p b, .p (.sl n size cs)])), (q, .dead)] z = .live obz → (∃ ob', st.heap z = .live ob') ∧ z ≠ q := fun z obz hz => by
  by_cases e1 : z = 0
  ·subst e1; exact ⟨⟨_, h0⟩, Ne.symm hne⟩
  ·exact ⟨⟨_, (hold z obz hz e1).1⟩, (hold z obz hz e1).2⟩
 have hnS : ∀ z ob v b', st.heap z = .live ob → z ≠ q → m z = some v → blk v = some b' → ¬ (S b' ∨ blk vq = some b') := fun z ob v b' hz hzq hv hb hS => by
  obtain ⟨v', i1, _, i3⟩ := hm.live z ob hz
  rw [hv] at i1; cases i1
  rcases hS with hS | hS
  ·exact i3 b' hb hS
  ·exact hzq (hm.inj _ _ _ _ _ _ _ hz hq hv k1 hb hS)
 refine ⟨⟨_, m, ⟨hm.bel, ?_, ?_, ?_, ?_, ?_, hm.gl⟩, A.up _ _ _ _ _ _ g hj, fun k => Rep.mono g _ _ (hr k)⟩, hsz, hd⟩
 ·rintro b' (hb | hb)
  ·exact hm.sA b' hb
  ·exact .inr (k2.lt hb).1
 ·rintro b' (hb | hb)
  ·exact hm.sW b' hb
  ·exact (k2.lt hb).2
 ·intro z hz
  by_cases e1 : z = 0
  ·subst e1; simp [updL] at hz
  ·simp only [updL, nbeq e1, cond_false] at hz
   by_cases e2 : z = q
   ·subst e2; simp at hz
   ·rw [nbeq e2, cond_false] at hz; exact hm.un z hz
 ·intro z ob hz
  by_cases e1 : z = 0
  ·subst e1
   simp only [updL, qbv, cond_true, Slot.live.injEq] at hz
   subst hz
   refine ⟨v0, j1, ?_, fun b' hb => hnS 0 _ v0 b' h0 (Ne.symm hne) j1 hb⟩
   obtain ⟨b0, us, rfl, i1, i2, i3, i4⟩ := j2
   refine ⟨b0, us, rfl, i1, ?_, i3, i4⟩
   simp only [RepL, Rep] at i2 ⊢
   obtain ⟨u1, _, rfl, l1, u2, _, rfl, l2, u3, _, rfl, ⟨l3, _⟩, rfl⟩ := i2
   refine ⟨u1, _, rfl, PRep.mono hs (fun _ _ => rfl) _ _ l1, u2, _, rfl, PRep.mono hs (fun _ _ => rfl) _ _ l2, u3, _, rfl, ?_, rfl⟩
   exact zed hm hs hq (fun v b' hv hb => by rw [k1] at hv; cases hv; exact .inr hb) l3
  ·obtain ⟨h1, h2⟩ := hold z ob hz e1
   obtain ⟨v, i1, i2, i3⟩ := hm.live z ob h1
   exact ⟨v, i1, i2.mono g fun _ _ => rfl, fun b' hb => hnS z ob v b' h1 h2 i1 hb⟩
 ·intro x y ob1 ob2 v1 v2 b' h1 h2 h3 h4 h5 h6
  obtain ⟨⟨_, g1⟩, _⟩ := key _ _ h1
  obtain ⟨⟨_, g2⟩, _⟩ := key _ _ h2
  exact jcx
theorem zfB {r : Nat} : ∀ {l : List PE} {k : Nat}, ((zbb k l).map fun p => bif Nat.beq p.1 0 then r else p.1) = (List.range l.length).map fun i => k + i + 1000 := by
 intro l k
 rw [← zdb]
 refine qbw fun q hq => ?_
 obtain ⟨i, hi, rfl⟩ := zcl.1 hq
 simp only [nbeq (show k + i + 1000 ≠ 0 by omega), cond_false]
theorem cpN_nd5 : ∀ n, n < 7 → (27 :: (List.range n).map fun i => 0 + i + 1000).Nodup := qw
theorem cpN_nd6 : ∀ n, n < 7 → (11 :: 27 :: 5 :: 6 :: (List.range n).map fun i => 0 + i + 1000).Nodup := qw
theorem zhb : ∀ {L : List (Nat × AObj)} {o : Nat}, o ∉ L.map Prod.fst → zaT L o = .un
 | [], _, _ => rfl
 | (n, x) :: L, o, h => by
  simp only [qaF, qaI, not_or] at h
  simp only [zaT, nbeq h.1, cond_false]
  exact zhb h.2
def zC : List AV := [qc ⟨#[]⟩, qd 0, qj]
def oErr (e : Int) : AV := .tup [.agg zC, qc ⟨#[]⟩, qd e]
theorem aone_bad (c : CF) (ok : c.OK) (pt : ByteArray) (s : SE) (sok : s.OK) (h : cfE c ≠ 0) : Fn prog 60 [.agg c.cells, qc pt, .agg s.cells] (oErr (cfE c)) [] := by
 have hC := zbT c ok
 generalize cfE c = e at *
 obtain ⟨key, port, l⟩ := c
 obtain ⟨k, t, n, a, b⟩ := s
 refine jcN ?_
 change Fn prog _ [.agg (cfC key port l.length (l.flatMap PE.pv))] _ _ at hC
 clear ok sok
 generalize l.flatMap PE.pv = L at *
 refine fnI fun w0 A => ?_
 refine G [12] ?_
 refine cK hC ?_
 refine G [5, 4, 11, 9, 0] ?_
 exact yE
theorem aone_bad2 (c : CF) (ok : c.OK) (pt : ByteArray) (s : SE) (sok : s.OK) (h : cfE c = 0) (h2 : seE s ≠ 0) : Fn prog 60 [.agg c.cells, qc pt, .agg s.cells] (oErr (seE s)) [] := by
 have hC := zbT c ok
 rw [h] at hC
 have hS := ze5 s sok
 generalize seE s = e at *
 obtain ⟨key, port, l⟩ := c
 obtain ⟨k, t, n, a, b⟩ := s
 refine jcN ?_
 change Fn prog _ [.agg (cfC key port l.length (l.flatMap PE.pv))] _ _ at hC
 change Fn prog _ [.agg [qd k, qc t, qd n, qe a, qd b]] _ _ at hS
 clear ok sok h
 generalize l.flatMap PE.pv = L at *
 refine fnI fun w0 A => ?_
 refine G [12] ?_
 refine cK hC ?_
 refine G [5, 1, 7] ?_
 refine cK hS ?_
 refine G [5, 4, 11, 9, 0] ?_
 exact yE
theorem zcQ (c : CF) (ok : c.OK) (pt : ByteArray) (s : SE) (sok : s.OK) (hc0 : cfE c = 0) (hs0 : seE s = 0) (uns : List (Nat × Slot)) (hun : ∀ p ∈ uns, p.2 = .un ∧ 1 < p.1 ∧ p.1 < 100) (wrs : List (Nat × Slot)) (nx : ByteArray) (e : Int) (hw : 39 ∉ wrs.map Prod.fst ∧ 106 ∉ wrs.map Prod.fst) (hO : FnO prog 93 [.ref 0 0, qc pt, .agg s.cells] ((0, D0 c.key c.port) :: (1, .live (.row 48 5 c.ps.length (c.ps.flatMap PE.pv))) :: uns) wrs (.tup [qc nx, qd e])) (he : e ≠ 0) : Fn prog 60 [.agg c.cells, qc pt, .agg s.cells] (oErr e) [] := by
 have hC := zbT c ok
 rw [hc0] at hC
 have hS := ze5 s sok
 rw [hs0] at hS
 have hK := zcO c ok
 obtain ⟨key, port, l⟩ := c
 obtain ⟨k, t, n, a, b⟩ := s
 dsimp only at hK hO
 change Fn prog _ [.agg (cfC key port l.length (l.flatMap PE.pv))] _ _ at hC hK
 change Fn prog _ [.agg [qd k, qc t, qd n, qe a, qd b]] _ _ at hS
 change FnO prog _ [.ref 0 0, qc pt, .agg [qd k, qc t, qd n, qe a, qd b]] _ _ _ at hO
 refine jcN ?_
 clear ok sok hc0 hs0
 generalize l.flatMap PE.pv = L at *
 refine fnI fun w0 A => ?_
 refine G [12] ?_
 refine cK hC ?_
 refine G [5, 1, 7] ?_
 refine cK hS ?_
 refine G [5, 1, 6] ?_
 refine zaM (fun _ => 27) (hK) rfl rfl F40 rfl rfl qr rfl rfl rfl ql rfl rfl rfl ?_
 refine G [3] ?_
 refine zaE (zaH (zad (fun o => bif Nat.beq o 0 then 11 else bif Nat.beq o 1 then 27 else bif Nat.beq o 105 then 5 else bif Nat.beq o 106 then 6 else o) [(1, qc pt), (5, .ref 105 0), (6, .ref 106 0), (11, .ref 0 0)] [(0, .box 24 [qc key, qd port, .row 1]), (1, .row 48 5 l.length L), (105, .box 107 [qd k, qc t, qd n, qe a, qd b]), (106, .box 24 [qc ⟨#[]⟩, qd 0, qj])] qp qp rfl) ?_)
 obtain ⟨H, hH⟩ : ∃ H, zaT [(0, .box 24 [qc key, qd port, .row 1]), (1, .row 48 5 l.length L), (105, .box 107 [qd k, qc t, qd n, qe a, qd b]), (106, .box 24 [qc ⟨#[]⟩, qd 0, qj])] = H := ⟨_, rfl⟩
 have hun2 : ∀ o, 1 < o → o < 100 → H o = .un := fun o h1 h2 => by
  rw [← hH]
  simp only [zaT, nbeq (show o ≠ 0 by omega), nbeq (show o ≠ 1 by omega), nbeq (show o ≠ 105 by omega), nbeq (show o ≠ 106 by omega), cond_false]
 have hR : ∀ p ∈ (0, D0 key port) :: (1, Slot.live (.row 48 5 l.length L)) :: uns, H p.1 = p.2 := fun p hp => by
  exact ja0
 exact jas
theorem zcP (c : CF) (ok : c.OK) (pt : ByteArray) (s : SE) (sok : s.OK) (hc0 : cfE c = 0) (hs0 : seE s = 0) (uns : List (Nat × Slot)) (hun : ∀ p ∈ uns, p.2 = .un ∧ 1 < p.1 ∧ p.1 < 100) (wrs : List (Nat × Slot)) (nx : ByteArray) (e : Int) (hw : 39 ∉ wrs.map Prod.fst ∧ 106 ∉ wrs.map Prod.fst) (hO : FnO prog 93 [.ref 0 0, qc pt, .agg s.cells] ((0, D0 c.key c.port) :: (1, .live (.row 48 5 c.ps.length (c.ps.flatMap PE.pv))) :: uns) wrs (.tup [qc nx, qd e])) (he : e = 0) (c2 : CF) (ok2 : c2.OK) (q : Nat) (hq : q ≠ 0 ∧ q ≠ 39 ∧ q ≠ 106) (hg0 : ∀ h, updL h wrs 0 = .live (.box 24 [qc c2.key, qd c2.port, .row q])) (hgq : ∀ h, updL h wrs q = .live (.row 48 5 c2.ps.length (c2.ps.flatMap PE.pv))) : Fn prog 60 [.agg c.cells, qc pt, .agg s.cells] (.tup [.agg [qc c2.key, qd c2.port, .row 0], qc nx, qd 0]) [(0, .row 48 5 c2.ps.length (c2.ps.flatMap PE.pv))] := by
 have hC := zbT c ok
 rw [hc0] at hC
 have hS := ze5 s sok
 rw [hs0] at hS
 have hK := zcO c ok
 subst he
 have hK2 := zcO c2 ok2
 obtain ⟨key, port, l⟩ := c
 obtain ⟨k, t, n, a, b⟩ := s
 dsimp only at hK hO
 obtain ⟨key2, port2, l2⟩ := c2
 dsimp only at hK2 hg0 hgq ⊢
 change Fn prog _ [.agg (cfC key2 port2 l2.length (l2.flatMap PE.pv))] _ _ at hK2
 change Fn prog _ [.agg (cfC key port l.length (l.flatMap PE.pv))] _ _ at hC hK
 change Fn prog _ [.agg [qd k, qc t, qd n, qe a, qd b]] _ _ at hS
 change FnO prog _ [.ref 0 0, qc pt, .agg [qd k, qc t, qd n, qe a, qd b]] _ _ _ at hO
 refine jdd ?_
 clear ok sok hc0 hs0 ok2
 generalize l.flatMap PE.pv = L at *
 refine fnI fun w0 A => ?_
 refine G [12] ?_
 refine cK hC ?_
 refine G [5, 1, 7] ?_
 refine cK hS ?_
 refine G [5, 1, 6] ?_
 refine zaM (fun _ => 27) (hK) rfl rfl F40 rfl rfl qr rfl rfl rfl ql rfl rfl rfl ?_
 refine G [3] ?_
 refine zaE (zaH (zad (fun o => bif Nat.beq o 0 then 11 else bif Nat.beq o 1 then 27 else bif Nat.beq o 105 then 5 else bif Nat.beq o 106 then 6 else o) [(1, qc pt), (5, .ref 105 0), (6, .ref 106 0), (11, .ref 0 0)] [(0, .box 24 [qc key, qd port, .row 1]), (1, .row 48 5 l.length L), (105, .box 107 [qd k, qc t, qd n, qe a, qd b]), (106, .box 24 [qc ⟨#[]⟩, qd 0, qj])] qp qp rfl) ?_)
 obtain ⟨H, hH⟩ : ∃ H, zaT [(0, .box 24 [qc key, qd port, .row 1]), (1, .row 48 5 l.length L), (105, .box 107 [qd k, qc t, qd n, qe a, qd b]), (106, .box 24 [qc ⟨#[]⟩, qd 0, qj])] = H := ⟨_, rfl⟩
 have hun2 : ∀ o, 1 < o → o < 100 → H o = .un := fun o h1 h2 => by
  rw [← hH]
  simp only [zaT, nbeq (show o ≠ 0 by omega), nbeq (show o ≠ 1 by omega), nbeq (show o ≠ 105 by omega), nbeq (show o ≠ 106 by omega), cond_false]
 have hR : ∀ p ∈ (0, D0 key port) :: (1, Slot.live (.row 48 5 l.length L)) :: uns, H p.1 = p.2 := fun p hp => by
  exact ja0
 exact jap
theorem aone_nil (c : CF) (ok : c.OK) (pt : ByteArray) (s : SE) (sok : s.OK) (hc0 : cfE c = 0) (hs0 : seE s = 0) (uns : List (Nat × Slot)) (hun : ∀ p ∈ uns, p.2 = .un ∧ 1 < p.1 ∧ p.1 < 100) (wrs : List (Nat × Slot)) (nx : ByteArray) (e : Int) (hw : 39 ∉ wrs.map Prod.fst ∧ 106 ∉ wrs.map Prod.fst) (hO : FnO prog 93 [.ref 0 0, qc pt, .agg s.cells] ((0, D0 c.key c.port) :: (1, .live (.row 48 5 c.ps.length (c.ps.flatMap PE.pv))) :: uns) wrs (.tup [qc nx, qd e])) (he : e = 0) (c2 : CF) (ok2 : c2.OK) (hg0 : ∀ h, updL h wrs 0 = .live (.box 24 c2.cells)) : Fn prog 60 [.agg c.cells, qc pt, .agg s.cells] (.tup [.agg [qc c2.key, qd c2.port, .row 0], qc nx, qd 0]) [(0, .row 48 5 c2.ps.length (c2.ps.flatMap PE.pv))] := by
 have hC := zbT c ok
 rw [hc0] at hC
 have hS := ze5 s sok
 rw [hs0] at hS
 have hK := zcO c ok
 subst he
 have hK2 := zcO c2 ok2
 obtain ⟨key, port, l⟩ := c
 obtain ⟨k, t, n, a, b⟩ := s
 dsimp only at hK hO
 obtain ⟨key2, port2, l2⟩ := c2
 dsimp only at hK2 hg0 ⊢
 change Fn prog _ [.agg (cfC key2 port2 l2.length (l2.flatMap PE.pv))] _ _ at hK2
 change ∀ h, updL h wrs 0 = .live (.box 24 (cfC key2 port2 l2.length (l2.flatMap PE.pv))) at hg0
 change Fn prog _ [.agg (cfC key port l.length (l.flatMap PE.pv))] _ _ at hC hK
 change Fn prog _ [.agg [qd k, qc t, qd n, qe a, qd b]] _ _ at hS
 change FnO prog _ [.ref 0 0, qc pt, .agg [qd k, qc t, qd n, qe a, qd b]] _ _ _ at hO
 refine jdd ?_
 clear ok sok hc0 hs0 ok2
 generalize l.flatMap PE.pv = L at *
 refine fnI fun w0 A => ?_
 refine G [12] ?_
 refine cK hC ?_
 refine G [5, 1, 7] ?_
 refine cK hS ?_
 refine G [5, 1, 6] ?_
 refine zaM (fun _ => 27) (hK) rfl rfl F40 rfl rfl qr rfl rfl rfl ql rfl rfl rfl ?_
 refine G [3] ?_
 refine zaE (zaH (zad (fun o => bif Nat.beq o 0 then 11 else bif Nat.beq o 1 then 27 else bif Nat.beq o 105 then 5 else bif Nat.beq o 106 then 6 else o) [(1, qc pt), (5, .ref 105 0), (6, .ref 106 0), (11, .ref 0 0)] [(0, .box 24 [qc key, qd port, .row 1]), (1, .row 48 5 l.length L), (105, .box 107 [qd k, qc t, qd n, qe a, qd b]), (106, .box 24 [qc ⟨#[]⟩, qd 0, qj])] qp qp rfl) ?_)
 obtain ⟨H, hH⟩ : ∃ H, zaT [(0, .box 24 [qc key, qd port, .row 1]), (1, .row 48 5 l.length L), (105, .box 107 [qd k, qc t, qd n, qe a, qd b]), (106, .box 24 [qc ⟨#[]⟩, qd 0, qj])] = H := ⟨_, rfl⟩
 have hun2 : ∀ o, 1 < o → o < 100 → H o = .un := fun o h1 h2 => by
  rw [← hH]
  simp only [zaT, nbeq (show o ≠ 0 by omega), nbeq (show o ≠ 1 by omega), nbeq (show o ≠ 105 by omega), nbeq (show o ≠ 106 by omega), cond_false]
 have hR : ∀ p ∈ (0, D0 key port) :: (1, Slot.live (.row 48 5 l.length L)) :: uns, H p.1 = p.2 := fun p hp => by
  exact ja0
 have h105 : H 105 = .live (.box 107 [qd k, qc t, qd n, qe a, qd b]) := by rw [← hH]; rfl
 have h106 : H 106 = .live (.box 24 [qc ⟨#[]⟩, qd 0, qj]) := by rw [← hH]; rfl
 refine jdW ?_
 rw [hH]
 refine G [3] ?_
 refine jdi ?_
 refine zaK hO rfl rfl func93 rfl rfl (zc1 hR) rfl ?_
 refine G [6] ?_
 obtain ⟨GV, hG⟩ : ∃ GV, updL H wrs = GV := ⟨_, rfl⟩
 have g106 : GV 106 = .live (.box 24 [qc ⟨#[]⟩, qd 0, qj]) := by rw [← hG, zaz hw.2]; exact h106
 have g39 : GV 39 = .un := by rw [← hG, zaz hw.1]; exact hun2 39 qw qw
 refine zbd (zdz [(6, .ref 106 0), (11, .ref 0 0), (12, qc nx), (13, qd 0)] GV qE (fun o => .inl (by rw [← hG]; rfl))) ?_
 have k0 : GV 0 = .live (.box 24 (cfC key2 port2 l2.length (l2.flatMap PE.pv))) := by rw [← hG]; exact hg0 _
 have k39 := g39
 have k106 := g106
 exact jba
theorem aoneS_err (c : CF) (ok : c.OK) (pt : ByteArray) (s : SE) (sok : s.OK) (hc0 : cfE c = 0) (hs0 : seE s = 0) (h6 : c.ps.length ≤ 6) (wrs : List (Nat × Slot)) (nx : ByteArray) (e : Int) (hw : 39 ∉ wrs.map Prod.fst ∧ 106 ∉ wrs.map Prod.fst) (hO : FnO prog 93 [.ref 0 0, qc pt, .agg s.cells] ((3, .un) :: (4, .un) :: (5, .un) :: mvR c.key c.port c.ps) wrs (.tup [qc nx, qd e])) (he : e ≠ 0) : Fn prog 60 [.agg c.cells, qc pt, .agg s.cells] (oErr e) [] := by
 have hC := zbT c ok
 rw [hc0] at hC
 have hS := ze5 s sok
 rw [hs0] at hS
 have hK := cfCopyS_s c ok h6
 obtain ⟨key, port, l⟩ := c
 obtain ⟨k, t, n, a, b⟩ := s
 dsimp only at hK hO h6
 change Fn prog _ [.agg (cfC key port l.length (l.flatMap PE.pv))] _ _ at hC hK
 change Fn prog _ [.agg [qd k, qc t, qd n, qe a, qd b]] _ _ at hS
 change FnO prog _ [.ref 0 0, qc pt, .agg [qd k, qc t, qd n, qe a, qd b]] _ _ _ at hO
 refine jcN ?_
 clear ok sok hc0 hs0
 have hF : ∀ o, o < 1000 → zaT (zbb 0 l) o = .un := fun o ho => zhc ho
 have hFa : ∀ j, (h : j < l.length) → zaT (zbb 0 l) (j + 1000) = .live (nrO l[j]) := fun j hj => by
  exact jcm
 have hFf := zdb l 0
 have hFm := fun q => @zcl l 0 q
 have hPo := fun K h => @zfm K l 0 h
 have hlow : ∀ (h : Nat → Slot) (o : Nat), o < 1000 → updL h (za4 (fun o => bif Nat.beq o 0 then 27 else o) (zbb 0 l)) o = h o := fun h o ho => zaz fun hm => by
  exact jbF
 refine fnI fun w0 A => ?_
 refine G [12] ?_
 refine cK hC ?_
 refine G [5, 1, 7] ?_
 refine cK hS ?_
 refine G [5, 1, 2] ?_
 refine jc0 ?_
 have hun7 : ∀ q ∈ ((0, AObj.rowA 48 5 l.length none (pcs (fun i => i + 1000) 0 l)) :: zbb 0 l).map (fun p => ((bif Nat.beq p.1 0 then 27 else p.1), Slot.un)), zaT [(3, .box 24 (cfC key port l.length (l.flatMap PE.pv))), (5, .box 107 [qd k, qc t, qd n, qe a, qd b]), (6, .box 24 [qc ⟨#[]⟩, qd 0, qj])] q.1 = q.2 := fun q hq => by
  exact jaU
 refine G [4] ?_
 refine zaM (fun o => bif Nat.beq o 0 then 27 else o) hK rfl rfl F40 rfl rfl qr rfl (zcj qan) (zcj qQ) (zc1 hun7) rfl rfl rfl ?_
 refine zab (zaJ 11 zr24 rfl) rfl rfl ⟨hlow _ 11 qw, trivial⟩ ?_
 refine G [2] ?_
 refine zaE (zaH (zad (fun o => bif Nat.beq o 0 then 11 else bif Nat.beq o 1 then 27 else bif Nat.beq o 105 then 5 else bif Nat.beq o 106 then 6 else o) [(1, qc pt), (5, .ref 105 0), (6, .ref 106 0), (11, .ref 0 0)] ((0, .box 24 [qc key, qd port, .row 1]) :: (1, .rowA 48 5 l.length none (pcs (fun i => i + 1000) 0 l)) :: (105, .box 107 [qd k, qc t, qd n, qe a, qd b]) :: (106, .box 24 [qc ⟨#[]⟩, qd 0, qj]) :: zbb 0 l) qp ?_ ?_) ?_)
 ·exact jar
 ·refine zcj ?_
  show (11 :: 27 :: 5 :: 6 :: (zbb 0 l).map fun p => bif Nat.beq p.1 0 then 11 else bif Nat.beq p.1 1 then 27 else bif Nat.beq p.1 105 then 5 else bif Nat.beq p.1 106 then 6 else p.1).Nodup
  have e1 : ((zbb 0 l).map fun p => bif Nat.beq p.1 0 then 11 else bif Nat.beq p.1 1 then 27 else bif Nat.beq p.1 105 then 5 else bif Nat.beq p.1 106 then 6 else p.1) = (List.range l.length).map fun i => 0 + i + 1000 := by
   rw [← hFf]
   refine qbw fun q hq => ?_
   obtain ⟨j, hj, rfl⟩ := (hFm q).1 hq
   simp only [nbeq (show 0 + j + 1000 ≠ 0 by omega), nbeq (show 0 + j + 1000 ≠ 1 by omega), nbeq (show 0 + j + 1000 ≠ 105 by omega), nbeq (show 0 + j + 1000 ≠ 106 by omega), cond_false]
  rw [e1]
  exact cpN_nd6 _ qk
 obtain ⟨H, hH⟩ : ∃ H, zaT ((0, .box 24 [qc key, qd port, .row 1]) :: (1, .rowA 48 5 l.length none (pcs (fun i => i + 1000) 0 l)) :: (105, .box 107 [qd k, qc t, qd n, qe a, qd b]) :: (106, .box 24 [qc ⟨#[]⟩, qd 0, qj]) :: zbb 0 l) = H := ⟨_, rfl⟩
 have hun2 : ∀ o, 1 < o → o < 100 → H o = .un := fun o h1 h2 => by
  exact jbS
 have hR : ∀ p ∈ (3, Slot.un) :: (4, .un) :: (5, .un) :: mvR key port l, H p.1 = p.2 := fun p hp => by
  exact jay
 exact jas
theorem aoneS_row (c : CF) (ok : c.OK) (pt : ByteArray) (s : SE) (sok : s.OK) (hc0 : cfE c = 0) (hs0 : seE s = 0) (h6 : c.ps.length ≤ 6) (wrs : List (Nat × Slot)) (nx : ByteArray) (e : Int) (hw : 39 ∉ wrs.map Prod.fst ∧ 106 ∉ wrs.map Prod.fst) (hO : FnO prog 93 [.ref 0 0, qc pt, .agg s.cells] ((3, .un) :: (4, .un) :: (5, .un) :: mvR c.key c.port c.ps) wrs (.tup [qc nx, qd e])) (he : e = 0) (c2 : CF) (ok2 : c2.OK) (q : Nat) (hq : q ≠ 0 ∧ q ≠ 39 ∧ q ≠ 106) (hg0 : ∀ h, updL h wrs 0 = .live (.box 24 [qc c2.key, qd c2.port, .row q])) (hgq : ∀ h, updL h wrs q = .live (.row 48 5 c2.ps.length (c2.ps.flatMap PE.pv))) : Fn prog 60 [.agg c.cells, qc pt, .agg s.cells] (.tup [.agg [qc c2.key, qd c2.port, .row 0], qc nx, qd 0]) [(0, .row 48 5 c2.ps.length (c2.ps.flatMap PE.pv))] := by
 have hC := zbT c ok
 rw [hc0] at hC
 have hS := ze5 s sok
 rw [hs0] at hS
 have hK := cfCopyS_s c ok h6
 subst he
 have hK2 := zcO c2 ok2
 obtain ⟨key, port, l⟩ := c
 obtain ⟨k, t, n, a, b⟩ := s
 dsimp only at hK hO h6
 obtain ⟨key2, port2, l2⟩ := c2
 dsimp only at hK2 hg0 hgq ⊢
 change Fn prog _ [.agg (cfC key2 port2 l2.length (l2.flatMap PE.pv))] _ _ at hK2
 change Fn prog _ [.agg (cfC key port l.length (l.flatMap PE.pv))] _ _ at hC hK
 change Fn prog _ [.agg [qd k, qc t, qd n, qe a, qd b]] _ _ at hS
 change FnO prog _ [.ref 0 0, qc pt, .agg [qd k, qc t, qd n, qe a, qd b]] _ _ _ at hO
 refine jdd ?_
 clear ok sok hc0 hs0 ok2
 have hF : ∀ o, o < 1000 → zaT (zbb 0 l) o = .un := fun o ho => zhc ho
 have hFa : ∀ j, (h : j < l.length) → zaT (zbb 0 l) (j + 1000) = .live (nrO l[j]) := fun j hj => by
  exact jcm
 have hFf := zdb l 0
 have hFm := fun q => @zcl l 0 q
 have hPo := fun K h => @zfm K l 0 h
 have hlow : ∀ (h : Nat → Slot) (o : Nat), o < 1000 → updL h (za4 (fun o => bif Nat.beq o 0 then 27 else o) (zbb 0 l)) o = h o := fun h o ho => zaz fun hm => by
  exact jbF
 refine fnI fun w0 A => ?_
 refine G [12] ?_
 refine cK hC ?_
 refine G [5, 1, 7] ?_
 refine cK hS ?_
 refine G [5, 1, 2] ?_
 refine jc0 ?_
 have hun7 : ∀ q ∈ ((0, AObj.rowA 48 5 l.length none (pcs (fun i => i + 1000) 0 l)) :: zbb 0 l).map (fun p => ((bif Nat.beq p.1 0 then 27 else p.1), Slot.un)), zaT [(3, .box 24 (cfC key port l.length (l.flatMap PE.pv))), (5, .box 107 [qd k, qc t, qd n, qe a, qd b]), (6, .box 24 [qc ⟨#[]⟩, qd 0, qj])] q.1 = q.2 := fun q hq => by
  exact jaU
 refine G [4] ?_
 refine zaM (fun o => bif Nat.beq o 0 then 27 else o) hK rfl rfl F40 rfl rfl qr rfl (zcj qan) (zcj qQ) (zc1 hun7) rfl rfl rfl ?_
 refine zab (zaJ 11 zr24 rfl) rfl rfl ⟨hlow _ 11 qw, trivial⟩ ?_
 refine G [2] ?_
 refine zaE (zaH (zad (fun o => bif Nat.beq o 0 then 11 else bif Nat.beq o 1 then 27 else bif Nat.beq o 105 then 5 else bif Nat.beq o 106 then 6 else o) [(1, qc pt), (5, .ref 105 0), (6, .ref 106 0), (11, .ref 0 0)] ((0, .box 24 [qc key, qd port, .row 1]) :: (1, .rowA 48 5 l.length none (pcs (fun i => i + 1000) 0 l)) :: (105, .box 107 [qd k, qc t, qd n, qe a, qd b]) :: (106, .box 24 [qc ⟨#[]⟩, qd 0, qj]) :: zbb 0 l) qp ?_ ?_) ?_)
 ·exact jar
 ·refine zcj ?_
  show (11 :: 27 :: 5 :: 6 :: (zbb 0 l).map fun p => bif Nat.beq p.1 0 then 11 else bif Nat.beq p.1 1 then 27 else bif Nat.beq p.1 105 then 5 else bif Nat.beq p.1 106 then 6 else p.1).Nodup
  have e1 : ((zbb 0 l).map fun p => bif Nat.beq p.1 0 then 11 else bif Nat.beq p.1 1 then 27 else bif Nat.beq p.1 105 then 5 else bif Nat.beq p.1 106 then 6 else p.1) = (List.range l.length).map fun i => 0 + i + 1000 := by
   rw [← hFf]
   refine qbw fun q hq => ?_
   obtain ⟨j, hj, rfl⟩ := (hFm q).1 hq
   simp only [nbeq (show 0 + j + 1000 ≠ 0 by omega), nbeq (show 0 + j + 1000 ≠ 1 by omega), nbeq (show 0 + j + 1000 ≠ 105 by omega), nbeq (show 0 + j + 1000 ≠ 106 by omega), cond_false]
  rw [e1]
  exact cpN_nd6 _ qk
 obtain ⟨H, hH⟩ : ∃ H, zaT ((0, .box 24 [qc key, qd port, .row 1]) :: (1, .rowA 48 5 l.length none (pcs (fun i => i + 1000) 0 l)) :: (105, .box 107 [qd k, qc t, qd n, qe a, qd b]) :: (106, .box 24 [qc ⟨#[]⟩, qd 0, qj]) :: zbb 0 l) = H := ⟨_, rfl⟩
 have hun2 : ∀ o, 1 < o → o < 100 → H o = .un := fun o h1 h2 => by
  exact jbS
 have hR : ∀ p ∈ (3, Slot.un) :: (4, .un) :: (5, .un) :: mvR key port l, H p.1 = p.2 := fun p hp => by
  exact jay
 exact jap
end Go.Proofs.YtlfjpippeeikdaaGreatDoor
