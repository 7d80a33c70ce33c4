/- Used. -/
import Derived.Test.YtlfjpippeeikdaaGreatDoorSCp1
set_option maxRecDepth 100000
set_option maxHeartbeats 16000000
set_option linter.all false
namespace Go.Proofs.YtlfjpippeeikdaaGreatDoor
open Tryz
open Go.RowKit
open Go.Sort
theorem reo_fzBox {st : St} {bt e size n q : Nat} {a b : PV} {cs : List PV} (h0 : st.heap 0 = qj bt [.p a, .p b, .row q]) (hq : st.heap q = qk e size n cs) (hne : q ≠ 0) :
 ReO st ⟨st.tmps, updL st.heap [(0, qj bt [.p a, .p b, ql n size cs]), (q, .dead)]⟩ := by
 rintro w0 A nt x w ⟨⟨S, m, hm, hj, hr⟩, hsz, hd⟩
 obtain ⟨vq, k1, k2, k3⟩ := hm.live q _ hq
 obtain ⟨v0, j1, j2, j3⟩ := hm.live 0 _ h0
 have hs : ∀ b', S b' → (fun y => S y ∨ blk vq = some y) b' := fun b' hb => .inl hb
 have g : Grow S m w (fun y => S y ∨ blk vq = some y) m w := ⟨hs, fun _ _ => rfl, fun _ _ h => h⟩
 have hold : ∀ z ob, updL st.heap [(0, qj bt [.p a, .p b, ql n size cs]), (q, .dead)] z = .live ob → z ≠ 0 → st.heap z = .live ob ∧ z ≠ q := fun z ob hz h1 => by
  simp only [updL, nbeq h1, cond_false] at hz
  by_cases e1 : z = q
  ·subst e1; simp at hz
  ·rw [nbeq e1, cond_false] at hz; exact ⟨hz, e1⟩
 have key : ∀ z obz, updL st.heap [(0, qj bt [.p a, .p b, ql n size cs]), (q, .dead)] z = .live obz → (∃ ob', st.heap z = .live ob') ∧ z ≠ q := fun z obz hz => by
  by_cases e1 : z = 0
  ·subst e1; exact ⟨⟨_, h0⟩, Ne.symm hne⟩
  ·exact ⟨⟨_, (hold z obz hz e1).1⟩, (hold z obz hz e1).2⟩
 have hnS : ∀ z ob v b', st.heap z = .live ob → z ≠ q → m z = some v → blk v = some b' → ¬ (S b' ∨ blk vq = some b') := fun z ob v b' hz hzq hv hb hS => by
  obtain ⟨v', i1, _, i3⟩ := hm.live z ob hz
  rw [hv] at i1; cases i1
  rcases hS with hS | hS
  ·exact i3 b' hb hS
  ·exact hzq (hm.inj _ _ _ _ _ _ _ hz hq hv k1 hb hS)
 refine ⟨⟨_, m, ⟨hm.bel, ?_, ?_, ?_, ?_, ?_, hm.gl⟩, A.up _ _ _ _ _ _ g hj, fun k => Rep.mono g _ _ (hr k)⟩, hsz, hd⟩
 ·rintro b' (hb | hb)
  ·exact hm.sA b' hb
  ·exact .inr (k2.lt hb).1
 ·rintro b' (hb | hb)
  ·exact hm.sW b' hb
  ·exact (k2.lt hb).2
 ·intro z hz
  by_cases e1 : z = 0
  ·subst e1; simp [updL] at hz
  ·simp only [updL, nbeq e1, cond_false] at hz
   by_cases e2 : z = q
   ·subst e2; simp at hz
   ·rw [nbeq e2, cond_false] at hz; exact hm.un z hz
 ·intro z ob hz
  by_cases e1 : z = 0
  ·subst e1
   simp only [updL, qca, cond_true, Slot.live.injEq] at hz
   subst hz
   refine ⟨v0, j1, ?_, fun b' hb => hnS 0 _ v0 b' h0 (Ne.symm hne) j1 hb⟩
   obtain ⟨b0, us, rfl, i1, i2, i3, i4⟩ := j2
   refine ⟨b0, us, rfl, i1, ?_, i3, i4⟩
   simp only [RepL, Rep] at i2 ⊢
   obtain ⟨u1, _, rfl, l1, u2, _, rfl, l2, u3, _, rfl, ⟨l3, _⟩, rfl⟩ := i2
   refine ⟨u1, _, rfl, PRep.mono hs (fun _ _ => rfl) _ _ l1, u2, _, rfl, PRep.mono hs (fun _ _ => rfl) _ _ l2, u3, _, rfl, ?_, rfl⟩
   exact zel hm hs hq (fun v b' hv hb => by rw [k1] at hv; cases hv; exact .inr hb) l3
  ·obtain ⟨h1, h2⟩ := hold z ob hz e1
   obtain ⟨v, i1, i2, i3⟩ := hm.live z ob h1
   exact ⟨v, i1, i2.mono g fun _ _ => rfl, fun b' hb => hnS z ob v b' h1 h2 i1 hb⟩
 ·intro x y ob1 ob2 v1 v2 b' h1 h2 h3 h4 h5 h6
  obtain ⟨⟨_, g1⟩, _⟩ := key _ _ h1
  obtain ⟨⟨_, g2⟩, _⟩ := key _ _ h2
  exact jdc
theorem zfY {r : Nat} : ∀ {l : List PE} {k : Nat}, ((zba k l).map fun p => bif Nat.beq p.1 0 then r else p.1) = (List.range l.length).map fun i => k + i + 1000 := by
 intro l k
 rw [← zdl]
 refine qcb fun q hq => ?_
 obtain ⟨i, hi, rfl⟩ := zct.1 hq
 simp only [nbeq (show k + i + 1000 ≠ 0 by omega), cond_false]
theorem cpN_nd5 : ∀ n, n < 7 → (27 :: (List.range n).map fun i => 0 + i + 1000).Nodup := qE
theorem cpN_nd6 : ∀ n, n < 7 → (11 :: 27 :: 5 :: 6 :: (List.range n).map fun i => 0 + i + 1000).Nodup := qE
theorem zhB : ∀ {L : List (Nat × AObj)} {o : Nat}, o ∉ L.map Prod.fst → zaR L o = .un
 | [], _, _ => rfl
 | (n, x) :: L, o, h => by
  simp only [qbj, qbm, not_or] at h
  simp only [zaR, nbeq h.1, cond_false]
  exact zhB h.2
def zC : List AV := [qc ⟨#[]⟩, qd 0, qm]
def oErr (e : Int) : AV := .tup [.agg zC, qc ⟨#[]⟩, qd e]
theorem aone_bad (c : CF) (ok : c.OK) (pt : ByteArray) (s : SE) (sok : s.OK) (h : cfE c ≠ 0) : Fn prog 60 [.agg c.cells, qc pt, .agg s.cells] (oErr (cfE c)) [] := by
 have hC := zbu c ok
 generalize cfE c = e at *
 obtain ⟨key, port, l⟩ := c
 obtain ⟨k, t, n, a, b⟩ := s
 refine jds ?_
 change Fn prog _ [.agg (cfC key port l.length (l.flatMap PE.pv))] _ _ at hC
 clear ok sok
 generalize l.flatMap PE.pv = L at *
 refine fnI fun w0 A => ?_
 refine G [12] ?_
 refine cK hC ?_
 refine G [5, 4, 11, 9, 0] ?_
 exact yE
theorem aone_bad2 (c : CF) (ok : c.OK) (pt : ByteArray) (s : SE) (sok : s.OK) (h : cfE c = 0) (h2 : seE s ≠ 0) : Fn prog 60 [.agg c.cells, qc pt, .agg s.cells] (oErr (seE s)) [] := by
 have hC := zbu c ok
 rw [h] at hC
 have hS := zeB s sok
 generalize seE s = e at *
 obtain ⟨key, port, l⟩ := c
 obtain ⟨k, t, n, a, b⟩ := s
 refine jds ?_
 change Fn prog _ [.agg (cfC key port l.length (l.flatMap PE.pv))] _ _ at hC
 change Fn prog _ [.agg [qd k, qc t, qd n, qe a, qd b]] _ _ at hS
 clear ok sok h
 generalize l.flatMap PE.pv = L at *
 refine fnI fun w0 A => ?_
 refine jeP ?_
 refine G [5, 4, 11, 9, 0] ?_
 exact yE
theorem zcY (c : CF) (ok : c.OK) (pt : ByteArray) (s : SE) (sok : s.OK) (hc0 : cfE c = 0) (hs0 : seE s = 0) (uns : List (Nat × Slot)) (hun : ∀ p ∈ uns, p.2 = .un ∧ 1 < p.1 ∧ p.1 < 100) (wrs : List (Nat × Slot)) (nx : ByteArray) (e : Int) (hw : 39 ∉ wrs.map Prod.fst ∧ 106 ∉ wrs.map Prod.fst) (hO : FnO prog 93 [.ref 0 0, qc pt, .agg s.cells] ((0, D0 c.key c.port) :: (1, qk 48 5 c.ps.length (c.ps.flatMap PE.pv)) :: uns) wrs (.tup [qc nx, qd e])) (he : e ≠ 0) : Fn prog 60 [.agg c.cells, qc pt, .agg s.cells] (oErr e) [] := by
 have hC := zbu c ok
 rw [hc0] at hC
 have hS := zeB s sok
 rw [hs0] at hS
 have hK := zcv c ok
 obtain ⟨key, port, l⟩ := c
 obtain ⟨k, t, n, a, b⟩ := s
 dsimp only at hK hO
 change Fn prog _ [.agg (cfC key port l.length (l.flatMap PE.pv))] _ _ at hC hK
 change Fn prog _ [.agg [qd k, qc t, qd n, qe a, qd b]] _ _ at hS
 change FnO prog _ [.ref 0 0, qc pt, .agg [qd k, qc t, qd n, qe a, qd b]] _ _ _ at hO
 refine jds ?_
 clear ok sok hc0 hs0
 generalize l.flatMap PE.pv = L at *
 refine fnI fun w0 A => ?_
 refine jeP ?_
 refine G [5, 1, 6] ?_
 refine zay (fun _ => 27) (hK) rfl rfl F40 rfl rfl qw rfl rfl rfl qq rfl rfl rfl ?_
 refine G [3] ?_
 refine zaH (zaK (zae (fun o => bif Nat.beq o 0 then 11 else bif Nat.beq o 1 then 27 else bif Nat.beq o 105 then 5 else bif Nat.beq o 106 then 6 else o) [(1, qc pt), (5, .ref 105 0), (6, .ref 106 0), (11, .ref 0 0)] [(0, .box 24 [qc key, qd port, .row 1]), (1, .row 48 5 l.length L), (105, .box 107 [qd k, qc t, qd n, qe a, qd b]), (106, .box 24 [qc ⟨#[]⟩, qd 0, qm])] qt qt rfl) ?_)
 obtain ⟨H, hH⟩ : ∃ H, zaR [(0, .box 24 [qc key, qd port, .row 1]), (1, .row 48 5 l.length L), (105, .box 107 [qd k, qc t, qd n, qe a, qd b]), (106, .box 24 [qc ⟨#[]⟩, qd 0, qm])] = H := ⟨_, rfl⟩
 have hun2 : ∀ o, 1 < o → o < 100 → H o = .un := fun o h1 h2 => by
  exact jbB
 have hR : ∀ p ∈ (0, D0 key port) :: (1, Slot.live (.row 48 5 l.length L)) :: uns, H p.1 = p.2 := fun p hp => by
  exact jbt
 exact jaE
theorem zcX (c : CF) (ok : c.OK) (pt : ByteArray) (s : SE) (sok : s.OK) (hc0 : cfE c = 0) (hs0 : seE s = 0) (uns : List (Nat × Slot)) (hun : ∀ p ∈ uns, p.2 = .un ∧ 1 < p.1 ∧ p.1 < 100) (wrs : List (Nat × Slot)) (nx : ByteArray) (e : Int) (hw : 39 ∉ wrs.map Prod.fst ∧ 106 ∉ wrs.map Prod.fst) (hO : FnO prog 93 [.ref 0 0, qc pt, .agg s.cells] ((0, D0 c.key c.port) :: (1, qk 48 5 c.ps.length (c.ps.flatMap PE.pv)) :: uns) wrs (.tup [qc nx, qd e])) (he : e = 0) (c2 : CF) (ok2 : c2.OK) (q : Nat) (hq : q ≠ 0 ∧ q ≠ 39 ∧ q ≠ 106) (hg0 : ∀ h, updL h wrs 0 = qj 24 [qc c2.key, qd c2.port, .row q]) (hgq : ∀ h, updL h wrs q = qk 48 5 c2.ps.length (c2.ps.flatMap PE.pv)) : Fn prog 60 [.agg c.cells, qc pt, .agg s.cells] (.tup [.agg [qc c2.key, qd c2.port, .row 0], qc nx, qd 0]) [(0, .row 48 5 c2.ps.length (c2.ps.flatMap PE.pv))] := by
 have hC := zbu c ok
 rw [hc0] at hC
 have hS := zeB s sok
 rw [hs0] at hS
 have hK := zcv c ok
 subst he
 have hK2 := zcv c2 ok2
 obtain ⟨key, port, l⟩ := c
 obtain ⟨k, t, n, a, b⟩ := s
 dsimp only at hK hO
 obtain ⟨key2, port2, l2⟩ := c2
 dsimp only at hK2 hg0 hgq ⊢
 change Fn prog _ [.agg (cfC key2 port2 l2.length (l2.flatMap PE.pv))] _ _ at hK2
 change Fn prog _ [.agg (cfC key port l.length (l.flatMap PE.pv))] _ _ at hC hK
 change Fn prog _ [.agg [qd k, qc t, qd n, qe a, qd b]] _ _ at hS
 change FnO prog _ [.ref 0 0, qc pt, .agg [qd k, qc t, qd n, qe a, qd b]] _ _ _ at hO
 refine jdM ?_
 clear ok sok hc0 hs0 ok2
 generalize l.flatMap PE.pv = L at *
 refine fnI fun w0 A => ?_
 refine jeP ?_
 refine G [5, 1, 6] ?_
 refine zay (fun _ => 27) (hK) rfl rfl F40 rfl rfl qw rfl rfl rfl qq rfl rfl rfl ?_
 refine G [3] ?_
 refine zaH (zaK (zae (fun o => bif Nat.beq o 0 then 11 else bif Nat.beq o 1 then 27 else bif Nat.beq o 105 then 5 else bif Nat.beq o 106 then 6 else o) [(1, qc pt), (5, .ref 105 0), (6, .ref 106 0), (11, .ref 0 0)] [(0, .box 24 [qc key, qd port, .row 1]), (1, .row 48 5 l.length L), (105, .box 107 [qd k, qc t, qd n, qe a, qd b]), (106, .box 24 [qc ⟨#[]⟩, qd 0, qm])] qt qt rfl) ?_)
 obtain ⟨H, hH⟩ : ∃ H, zaR [(0, .box 24 [qc key, qd port, .row 1]), (1, .row 48 5 l.length L), (105, .box 107 [qd k, qc t, qd n, qe a, qd b]), (106, .box 24 [qc ⟨#[]⟩, qd 0, qm])] = H := ⟨_, rfl⟩
 have hun2 : ∀ o, 1 < o → o < 100 → H o = .un := fun o h1 h2 => by
  exact jbB
 have hR : ∀ p ∈ (0, D0 key port) :: (1, Slot.live (.row 48 5 l.length L)) :: uns, H p.1 = p.2 := fun p hp => by
  exact jbt
 exact jav
theorem aone_nil (c : CF) (ok : c.OK) (pt : ByteArray) (s : SE) (sok : s.OK) (hc0 : cfE c = 0) (hs0 : seE s = 0) (uns : List (Nat × Slot)) (hun : ∀ p ∈ uns, p.2 = .un ∧ 1 < p.1 ∧ p.1 < 100) (wrs : List (Nat × Slot)) (nx : ByteArray) (e : Int) (hw : 39 ∉ wrs.map Prod.fst ∧ 106 ∉ wrs.map Prod.fst) (hO : FnO prog 93 [.ref 0 0, qc pt, .agg s.cells] ((0, D0 c.key c.port) :: (1, qk 48 5 c.ps.length (c.ps.flatMap PE.pv)) :: uns) wrs (.tup [qc nx, qd e])) (he : e = 0) (c2 : CF) (ok2 : c2.OK) (hg0 : ∀ h, updL h wrs 0 = qj 24 c2.cells) : Fn prog 60 [.agg c.cells, qc pt, .agg s.cells] (.tup [.agg [qc c2.key, qd c2.port, .row 0], qc nx, qd 0]) [(0, .row 48 5 c2.ps.length (c2.ps.flatMap PE.pv))] := by
 have hC := zbu c ok
 rw [hc0] at hC
 have hS := zeB s sok
 rw [hs0] at hS
 have hK := zcv c ok
 subst he
 have hK2 := zcv c2 ok2
 obtain ⟨key, port, l⟩ := c
 obtain ⟨k, t, n, a, b⟩ := s
 dsimp only at hK hO
 obtain ⟨key2, port2, l2⟩ := c2
 dsimp only at hK2 hg0 ⊢
 change Fn prog _ [.agg (cfC key2 port2 l2.length (l2.flatMap PE.pv))] _ _ at hK2
 change ∀ h, updL h wrs 0 = qj 24 (cfC key2 port2 l2.length (l2.flatMap PE.pv)) at hg0
 change Fn prog _ [.agg (cfC key port l.length (l.flatMap PE.pv))] _ _ at hC hK
 change Fn prog _ [.agg [qd k, qc t, qd n, qe a, qd b]] _ _ at hS
 change FnO prog _ [.ref 0 0, qc pt, .agg [qd k, qc t, qd n, qe a, qd b]] _ _ _ at hO
 refine jdM ?_
 clear ok sok hc0 hs0 ok2
 generalize l.flatMap PE.pv = L at *
 refine fnI fun w0 A => ?_
 refine jeP ?_
 refine G [5, 1, 6] ?_
 refine zay (fun _ => 27) (hK) rfl rfl F40 rfl rfl qw rfl rfl rfl qq rfl rfl rfl ?_
 refine G [3] ?_
 refine zaH (zaK (zae (fun o => bif Nat.beq o 0 then 11 else bif Nat.beq o 1 then 27 else bif Nat.beq o 105 then 5 else bif Nat.beq o 106 then 6 else o) [(1, qc pt), (5, .ref 105 0), (6, .ref 106 0), (11, .ref 0 0)] [(0, .box 24 [qc key, qd port, .row 1]), (1, .row 48 5 l.length L), (105, .box 107 [qd k, qc t, qd n, qe a, qd b]), (106, .box 24 [qc ⟨#[]⟩, qd 0, qm])] qt qt rfl) ?_)
 obtain ⟨H, hH⟩ : ∃ H, zaR [(0, .box 24 [qc key, qd port, .row 1]), (1, .row 48 5 l.length L), (105, .box 107 [qd k, qc t, qd n, qe a, qd b]), (106, .box 24 [qc ⟨#[]⟩, qd 0, qm])] = H := ⟨_, rfl⟩
 have hun2 : ∀ o, 1 < o → o < 100 → H o = .un := fun o h1 h2 => by
  exact jbB
 have hR : ∀ p ∈ (0, D0 key port) :: (1, Slot.live (.row 48 5 l.length L)) :: uns, H p.1 = p.2 := fun p hp => by
  exact jbt
 have h105 : H 105 = qj 107 [qd k, qc t, qd n, qe a, qd b] := qaL
 have h106 : H 106 = qj 24 [qc ⟨#[]⟩, qd 0, qm] := qaL
 refine jeI ?_
 rw [hH]
 refine G [3] ?_
 refine jdS ?_
 refine zaL hO rfl rfl func93 rfl rfl (zdd hR) rfl ?_
 refine G [6] ?_
 obtain ⟨GV, hG⟩ : ∃ GV, updL H wrs = GV := ⟨_, rfl⟩
 have g106 : GV 106 = qj 24 [qc ⟨#[]⟩, qd 0, qm] := qaO
 have g39 : GV 39 = .un := by rw [← hG, zaz hw.1]; exact hun2 39 qE qE
 refine za7 (zdM [(6, .ref 106 0), (11, .ref 0 0), (12, qc nx), (13, qd 0)] GV qL (fun o => .inl (by rw [← hG]; rfl))) ?_
 have k0 : GV 0 = qj 24 (cfC key2 port2 l2.length (l2.flatMap PE.pv)) := by rw [← hG]; exact hg0 _
 have k39 := g39
 have k106 := g106
 exact jbc
theorem aoneS_err (c : CF) (ok : c.OK) (pt : ByteArray) (s : SE) (sok : s.OK) (hc0 : cfE c = 0) (hs0 : seE s = 0) (h6 : c.ps.length ≤ 6) (wrs : List (Nat × Slot)) (nx : ByteArray) (e : Int) (hw : 39 ∉ wrs.map Prod.fst ∧ 106 ∉ wrs.map Prod.fst) (hO : FnO prog 93 [.ref 0 0, qc pt, .agg s.cells] ((3, .un) :: (4, .un) :: (5, .un) :: mvR c.key c.port c.ps) wrs (.tup [qc nx, qd e])) (he : e ≠ 0) : Fn prog 60 [.agg c.cells, qc pt, .agg s.cells] (oErr e) [] := by
 have hC := zbu c ok
 rw [hc0] at hC
 have hS := zeB s sok
 rw [hs0] at hS
 have hK := cfCopyS_s c ok h6
 obtain ⟨key, port, l⟩ := c
 obtain ⟨k, t, n, a, b⟩ := s
 dsimp only at hK hO h6
 change Fn prog _ [.agg (cfC key port l.length (l.flatMap PE.pv))] _ _ at hC hK
 change Fn prog _ [.agg [qd k, qc t, qd n, qe a, qd b]] _ _ at hS
 change FnO prog _ [.ref 0 0, qc pt, .agg [qd k, qc t, qd n, qe a, qd b]] _ _ _ at hO
 refine jds ?_
 clear ok sok hc0 hs0
 have hF : ∀ o, o < 1000 → zaR (zba 0 l) o = .un := fun o ho => zhC ho
 have hFa : ∀ j, (h : j < l.length) → zaR (zba 0 l) (j + 1000) = .live (nrO l[j]) := fun j hj => by
  exact jcV
 have hFf := zdl l 0
 have hFm := fun q => @zct l 0 q
 have hPo := fun K h => @zfG K l 0 h
 have hlow : ∀ (h : Nat → Slot) (o : Nat), o < 1000 → updL h (za2 (fun o => bif Nat.beq o 0 then 27 else o) (zba 0 l)) o = h o := fun h o ho => zaz fun hm => by
  exact jb8
 refine fnI fun w0 A => ?_
 refine jeP ?_
 refine G [5, 1, 2] ?_
 refine jdC ?_
 have hun7 : ∀ q ∈ ((0, AObj.rowA 48 5 l.length none (pcs (fun i => i + 1000) 0 l)) :: zba 0 l).map (fun p => ((bif Nat.beq p.1 0 then 27 else p.1), Slot.un)), zaR [(3, .box 24 (cfC key port l.length (l.flatMap PE.pv))), (5, .box 107 [qd k, qc t, qd n, qe a, qd b]), (6, .box 24 [qc ⟨#[]⟩, qd 0, qm])] q.1 = q.2 := fun q hq => by
  exact jbn
 refine G [4] ?_
 refine zay (fun o => bif Nat.beq o 0 then 27 else o) hK rfl rfl F40 rfl rfl qw rfl (zco qaS) (zco qab) (zdd hun7) rfl rfl rfl ?_
 refine zab (zaW 11 zr24 rfl) rfl rfl ⟨hlow _ 11 qE, trivial⟩ ?_
 refine G [2] ?_
 refine zaH (zaK (zae (fun o => bif Nat.beq o 0 then 11 else bif Nat.beq o 1 then 27 else bif Nat.beq o 105 then 5 else bif Nat.beq o 106 then 6 else o) [(1, qc pt), (5, .ref 105 0), (6, .ref 106 0), (11, .ref 0 0)] ((0, .box 24 [qc key, qd port, .row 1]) :: (1, .rowA 48 5 l.length none (pcs (fun i => i + 1000) 0 l)) :: (105, .box 107 [qd k, qc t, qd n, qe a, qd b]) :: (106, .box 24 [qc ⟨#[]⟩, qd 0, qm]) :: zba 0 l) qt ?_ ?_) ?_)
 ·exact jaz
 ·exact jaZ
 obtain ⟨H, hH⟩ : ∃ H, zaR ((0, .box 24 [qc key, qd port, .row 1]) :: (1, .rowA 48 5 l.length none (pcs (fun i => i + 1000) 0 l)) :: (105, .box 107 [qd k, qc t, qd n, qe a, qd b]) :: (106, .box 24 [qc ⟨#[]⟩, qd 0, qm]) :: zba 0 l) = H := ⟨_, rfl⟩
 have hun2 : ∀ o, 1 < o → o < 100 → H o = .un := fun o h1 h2 => by
  exact jcl
 have hR : ∀ p ∈ (3, Slot.un) :: (4, .un) :: (5, .un) :: mvR key port l, H p.1 = p.2 := fun p hp => by
  exact jaJ
 exact jaE
theorem aoneS_row (c : CF) (ok : c.OK) (pt : ByteArray) (s : SE) (sok : s.OK) (hc0 : cfE c = 0) (hs0 : seE s = 0) (h6 : c.ps.length ≤ 6) (wrs : List (Nat × Slot)) (nx : ByteArray) (e : Int) (hw : 39 ∉ wrs.map Prod.fst ∧ 106 ∉ wrs.map Prod.fst) (hO : FnO prog 93 [.ref 0 0, qc pt, .agg s.cells] ((3, .un) :: (4, .un) :: (5, .un) :: mvR c.key c.port c.ps) wrs (.tup [qc nx, qd e])) (he : e = 0) (c2 : CF) (ok2 : c2.OK) (q : Nat) (hq : q ≠ 0 ∧ q ≠ 39 ∧ q ≠ 106) (hg0 : ∀ h, updL h wrs 0 = qj 24 [qc c2.key, qd c2.port, .row q]) (hgq : ∀ h, updL h wrs q = qk 48 5 c2.ps.length (c2.ps.flatMap PE.pv)) : Fn prog 60 [.agg c.cells, qc pt, .agg s.cells] (.tup [.agg [qc c2.key, qd c2.port, .row 0], qc nx, qd 0]) [(0, .row 48 5 c2.ps.length (c2.ps.flatMap PE.pv))] := by
 have hC := zbu c ok
 rw [hc0] at hC
 have hS := zeB s sok
 rw [hs0] at hS
 have hK := cfCopyS_s c ok h6
 subst he
 have hK2 := zcv c2 ok2
 obtain ⟨key, port, l⟩ := c
 obtain ⟨k, t, n, a, b⟩ := s
 dsimp only at hK hO h6
 obtain ⟨key2, port2, l2⟩ := c2
 dsimp only at hK2 hg0 hgq ⊢
 change Fn prog _ [.agg (cfC key2 port2 l2.length (l2.flatMap PE.pv))] _ _ at hK2
 change Fn prog _ [.agg (cfC key port l.length (l.flatMap PE.pv))] _ _ at hC hK
 change Fn prog _ [.agg [qd k, qc t, qd n, qe a, qd b]] _ _ at hS
 change FnO prog _ [.ref 0 0, qc pt, .agg [qd k, qc t, qd n, qe a, qd b]] _ _ _ at hO
 refine jdM ?_
 clear ok sok hc0 hs0 ok2
 have hF : ∀ o, o < 1000 → zaR (zba 0 l) o = .un := fun o ho => zhC ho
 have hFa : ∀ j, (h : j < l.length) → zaR (zba 0 l) (j + 1000) = .live (nrO l[j]) := fun j hj => by
  exact jcV
 have hFf := zdl l 0
 have hFm := fun q => @zct l 0 q
 have hPo := fun K h => @zfG K l 0 h
 have hlow : ∀ (h : Nat → Slot) (o : Nat), o < 1000 → updL h (za2 (fun o => bif Nat.beq o 0 then 27 else o) (zba 0 l)) o = h o := fun h o ho => zaz fun hm => by
  exact jb8
 refine fnI fun w0 A => ?_
 refine jeP ?_
 refine G [5, 1, 2] ?_
 refine jdC ?_
 have hun7 : ∀ q ∈ ((0, AObj.rowA 48 5 l.length none (pcs (fun i => i + 1000) 0 l)) :: zba 0 l).map (fun p => ((bif Nat.beq p.1 0 then 27 else p.1), Slot.un)), zaR [(3, .box 24 (cfC key port l.length (l.flatMap PE.pv))), (5, .box 107 [qd k, qc t, qd n, qe a, qd b]), (6, .box 24 [qc ⟨#[]⟩, qd 0, qm])] q.1 = q.2 := fun q hq => by
  exact jbn
 refine G [4] ?_
 refine zay (fun o => bif Nat.beq o 0 then 27 else o) hK rfl rfl F40 rfl rfl qw rfl (zco qaS) (zco qab) (zdd hun7) rfl rfl rfl ?_
 refine zab (zaW 11 zr24 rfl) rfl rfl ⟨hlow _ 11 qE, trivial⟩ ?_
 refine G [2] ?_
 refine zaH (zaK (zae (fun o => bif Nat.beq o 0 then 11 else bif Nat.beq o 1 then 27 else bif Nat.beq o 105 then 5 else bif Nat.beq o 106 then 6 else o) [(1, qc pt), (5, .ref 105 0), (6, .ref 106 0), (11, .ref 0 0)] ((0, .box 24 [qc key, qd port, .row 1]) :: (1, .rowA 48 5 l.length none (pcs (fun i => i + 1000) 0 l)) :: (105, .box 107 [qd k, qc t, qd n, qe a, qd b]) :: (106, .box 24 [qc ⟨#[]⟩, qd 0, qm]) :: zba 0 l) qt ?_ ?_) ?_)
 ·exact jaz
 ·exact jaZ
 obtain ⟨H, hH⟩ : ∃ H, zaR ((0, .box 24 [qc key, qd port, .row 1]) :: (1, .rowA 48 5 l.length none (pcs (fun i => i + 1000) 0 l)) :: (105, .box 107 [qd k, qc t, qd n, qe a, qd b]) :: (106, .box 24 [qc ⟨#[]⟩, qd 0, qm]) :: zba 0 l) = H := ⟨_, rfl⟩
 have hun2 : ∀ o, 1 < o → o < 100 → H o = .un := fun o h1 h2 => by
  exact jcl
 have hR : ∀ p ∈ (3, Slot.un) :: (4, .un) :: (5, .un) :: mvR key port l, H p.1 = p.2 := fun p hp => by
  exact jaJ
 exact jav
def Slot.isLive : Slot → Bool
 | .live _ => true
 | _ => false
def zh8 (rds : List (Nat × Slot)) : List (Nat × Slot) := rds.map fun p => (p.1, Slot.dead)
theorem zc2 {h : Nat → Slot} : ∀ {l : List (Nat × Slot)} {o : Nat}, (updL h (zh8 l) o = .dead ∧ o ∈ l.map Prod.fst) ∨ (updL h (zh8 l) o = h o ∧ o ∉ l.map Prod.fst)
 | [], o => .inr ⟨rfl, qC⟩
 | (n, s) :: l, o => by
  by_cases e : o = n
  ·subst e; exact .inl ⟨by simp [zh8, updL], qC⟩
  ·have hu : updL h (zh8 ((n, s) :: l)) o = updL h (zh8 l) o := by
    show (bif Nat.beq o n then Slot.dead else updL h (zh8 l) o) = _
    rw [nbeq e, cond_false]
   rw [hu]
   rcases zc2 (h := h) (l := l) (o := o) with ⟨h1, h2⟩ | ⟨h1, h2⟩
   ·exact .inl ⟨h1, by simp [h2]⟩
   ·exact .inr ⟨h1, by simp only [qbj, qbm, not_or]; exact ⟨e, h2⟩⟩
theorem updL_app {h : Nat → Slot} : ∀ a b : List (Nat × Slot), updL (updL h b) a = updL h (a ++ b)
 | [], b => rfl
 | (n, s) :: l, b => by
  funext o
  show (bif Nat.beq o n then s else updL (updL h b) l o) = (bif Nat.beq o n then s else updL h (l ++ b) o)
  rw [updL_app l b]
theorem mem_kill {w0 : World} {A S : Nat → Prop} {m : Nat → Option Value} {heap : Nat → Slot} {w : World} {rds : List (Nat × Slot)} (hm : Mem w0 A S m heap w) (hrd : ∀ p ∈ rds, heap p.1 = p.2) (hl : rds.all (fun p => p.2.isLive) = true) :
 Mem w0 A (fun b => S b ∨ ∃ p ∈ rds, ∃ v, m p.1 = some v ∧ blk v = some b) m (updL heap (zh8 rds)) w := by
 have key : ∀ p ∈ rds, ∃ ob v, heap p.1 = .live ob ∧ m p.1 = some v ∧ ORep w0.heap.size S m w ob v := fun p hp => by
  have h1 := qbU.1 hl p hp
  have h2 := hrd p hp
  cases hs : p.2 with
  | live ob =>
   rw [hs] at h2
   obtain ⟨v, k1, k2, _⟩ := hm.live _ _ h2
   exact ⟨ob, v, h2, k1, k2⟩
  | un => rw [hs] at h1; cases h1
  | dead => rw [hs] at h1; cases h1
 have hlt : ∀ p ∈ rds, ∀ v b, m p.1 = some v → blk v = some b → w0.heap.size ≤ b ∧ b < w.heap.size := fun p hp v b hv hb => by
  obtain ⟨ob, v', _, k2, k3⟩ := key p hp
  rw [hv] at k2; cases k2
  exact k3.lt hb
 refine ⟨hm.bel, ?_, ?_, ?_, ?_, ?_, hm.gl⟩
 ·rintro b (h | ⟨p, hp, v, hv, hb⟩)
  ·exact hm.sA b h
  ·exact .inr (hlt p hp v b hv hb).1
 ·rintro b (h | ⟨p, hp, v, hv, hb⟩)
  ·exact hm.sW b h
  ·exact (hlt p hp v b hv hb).2
 ·intro o ho
  rcases zc2 (h := heap) (l := rds) (o := o) with ⟨h1, _⟩ | ⟨h1, _⟩
  ·rw [h1] at ho; cases ho
  ·rw [h1] at ho; exact hm.un o ho
 ·intro o ob ho
  rcases zc2 (h := heap) (l := rds) (o := o) with ⟨h1, _⟩ | ⟨h1, h2⟩
  ·rw [h1] at ho; cases ho
  ·rw [h1] at ho
   obtain ⟨v, k1, k2, k3⟩ := hm.live o ob ho
   refine ⟨v, k1, ORep.mono ⟨fun _ h => .inl h, fun _ _ => rfl, fun _ _ h => h⟩ k2 fun _ _ => rfl, ?_⟩
   rintro b hb (h | ⟨p, hp, v', hv', hb'⟩)
   ·exact k3 b hb h
   ·obtain ⟨ob', _, q1, _, _⟩ := key p hp
    exact h2 (qbo.2 ⟨p, hp, hm.inj _ _ _ _ _ _ b q1 ho hv' k1 hb' hb⟩)
 ·intro o o' ob ob' v v' b ho ho' hv hv' hb hb'
  rcases zc2 (h := heap) (l := rds) (o := o) with ⟨h1, _⟩ | ⟨h1, _⟩
  ·rw [h1] at ho; cases ho
  rcases zc2 (h := heap) (l := rds) (o := o') with ⟨h2, _⟩ | ⟨h2, _⟩
  ·rw [h2] at ho'; cases ho'
  rw [h1] at ho; rw [h2] at ho'
  exact hm.inj _ _ _ _ _ _ b ho ho' hv hv' hb hb'
section
variable {P : Program} {d : Option Tmp} {ty : TypeId} {pos : String} {af : Array Edge} {g : Option (Nat × Bool)} {x : Operand} {args : Array Operand} {ts : Array TypeId} {f : FuncId} {fn : Func}
theorem a_callW {xs cs : List AV} {rds : List (Nat × Slot)} {res : AV} {news : List (Nat × AObj)} (ρ : Nat → Nat) (hf : P.funcs[f]? = some fn) (hb : fn.body.isNone = false) (hn : (fn.name == "runtime.NumGoroutine") = false)
 (hC : Fn P f (AV.viewL (fun _ => false) (zce rds) (xs ++ cs)) res news) (hl : rds.all (fun p => p.2.isLive) = true) (h3 : res.okIn (news.map Prod.fst) = true) (h4 : zbj (news.map Prod.fst) = true) (h5 : zbj (news.map fun p => ρ p.1) = true) :
 AOp P ⟨d, .call { callee := .value x, args := args, argTypes := ts }, ty, pos, af, g⟩ (.fn f cs :: xs) (rds ++ news.map fun p => (ρ p.1, .un)) (za2 ρ news ++ zh8 rds) (res.ren ρ) := by
 intro w0 A S m heap w ev hm hR hrd
 obtain ⟨us, e1, e2⟩ := zfj hR
 unfold Out
 rw [zdZ hf hb hn e1]
 have hrd1 : ∀ p ∈ rds, heap p.1 = p.2 := fun p hp => hrd p qaX
 have hk := mem_kill hm hrd1 hl
 have hO : ∀ o ob, zce rds o = .live ob → ∃ v, m o = some v ∧ ORep w0.heap.size S m w ob v := fun o ob ho => by
  rcases ze1 (heap := heap) (rds := rds) (o := o) (fun p hp => hrd1 p hp) with h | h
  ·rw [h] at ho; cases ho
  ·rw [h] at ho
   obtain ⟨v, k1, k2, _⟩ := hm.live o ob ho
   exact ⟨v, k1, k2⟩
 have hin : ∀ (l : List (Nat × Slot)) o ob, zce l o = .live ob → ∃ p ∈ l, p.1 = o := by
  intro l
  induction l with
  | nil => intro o ob h; cases h
  | cons q l ih =>
   intro o ob h
   by_cases e : o = q.1
   ·exact ⟨q, qC, e.symm⟩
   ·simp only [zce, updL, nbeq e, cond_false] at h
    obtain ⟨p, hp, rfl⟩ := ih o ob h
    exact ⟨p, by simp [hp], rfl⟩
 have hT : ∀ o ob v b, zce rds o = .live ob → m o = some v → blk v = some b → (S b ∨ ∃ p ∈ rds, ∃ v, m p.1 = some v ∧ blk v = some b) := fun o ob v b ho hv hb => by
  obtain ⟨p, hp, rfl⟩ := hin rds o ob ho
  exact .inr ⟨p, hp, v, hv, hb⟩
 have hST : ∀ b, S b → (S b ∨ ∃ p ∈ rds, ∃ v, m p.1 = some v ∧ blk v = some b) := fun b h => .inl h
 have e3 := zdH (keep := fun _ => false) (T := fun b => S b ∨ ∃ p ∈ rds, ∃ v, m p.1 = some v ∧ blk v = some b) (m' := fun _ => none) hO hST
  (fun o off n size u _ hr => zdY hO hST (fun ob v b g1 g2 g3 => hT o ob v b g1 g2 g3) hr)
  (fun o u _ hr => ze5 hO hST (fun ob v b g1 g2 g3 => hT o ob v b g1 g2 g3) hr) (fun o v hk => by cases hk) _ _ e2
 have hcall := hC w _ _ hk.sW (hk.gl.below hk.bel) e3
 have e4 : args.map ev ++ us.toArray = ((args.map ev).toList ++ us).toArray := qC
 rw [e4]
 refine hcall.mono fun e w' ⟨v, he, S', m', hres, hkk⟩ => ⟨v, he, ?_⟩
 generalize hS1 : (fun b => S b ∨ ∃ p ∈ rds, ∃ v, m p.1 = some v ∧ blk v = some b) = S1 at hk hkk
 have hsub : ∀ b, S' b → S1 b ∨ (S' b ∧ w.heap.size ≤ b) := fun b hb => (hkk.sA b hb).imp id fun h => ⟨hb, h⟩
 obtain ⟨m2, k1, k2, k3⟩ := zfB (S2 := fun b => S1 b ∨ (S' b ∧ w.heap.size ≤ b)) ρ hk hkk (Rep.mono ⟨hsub, fun _ _ => rfl, fun _ _ h => h⟩ _ _ hres) (fun o ob u ho hr => hr.mono ⟨hsub, fun _ _ => rfl, fun _ _ h => h⟩ fun _ _ => rfl) (fun b h => .inl h) (fun b h => h) (fun k hk2 => by
  obtain ⟨p, hp, rfl⟩ := qbo.1 hk2
  have hu := hrd (ρ p.1, .un) (List.mem_append_right _ (qbo.2 ⟨p, hp, rfl⟩))
  rcases zc2 (h := heap) (l := rds) (o := ρ p.1) with ⟨_, h2⟩ | ⟨h1, _⟩
  ·exfalso
   obtain ⟨q, hq, hqe⟩ := qbo.1 h2
   have a1 := hrd1 q hq
   have a2 := qbU.1 hl q hq
   rw [hqe] at a1
   rw [← a1, hu] at a2
   cases a2
  ·rw [h1]; exact hu) h4 h5 h3
 rw [updL_app] at k2
 refine ⟨_, m2, k1, k2, ?_⟩
 have g0 : Grow S m w S1 m w := ⟨fun b h => by rw [← hS1]; exact .inl h, fun _ _ => rfl, fun _ _ h => h⟩
 exact g0.trans k3
end
section
variable {P : Program} {ops : Array Oper} {K : List Foot → St → Prop} {l : List Oper} {fs : List Foot} {st : St} {d : Option Tmp} {ty : TypeId} {pos : String} {af : Array Edge} {gd : Option (Nat × Bool)}
theorem r_callW {x : Operand} {args : Array Operand} {ts : Array TypeId} {f : FuncId} {fn : Func} {zs cs : List AV} {res : AV} {news : List (Nat × AObj)} (ρ : Nat → Nat) (hC : Fn P f zs res news) (hx : st.ev x = .fn f cs) (hxs : AV.viewL (fun _ => false) st.heap (args.toList.map st.ev ++ cs) = zs) (hf : P.funcs[f]? = some fn) (hb : fn.body.isNone = false) (hn : (fn.name == "runtime.NumGoroutine") = false)
 {os : List Nat} (hos : AV.objsL (args.toList.map st.ev ++ cs) = os) (hl : (os.all fun o => (st.heap o).isLive) = true) (h3 : res.okIn (news.map Prod.fst) = true) (h4 : zbj (news.map Prod.fst) = true) (h5 : zbj (news.map fun p => ρ p.1) = true)
 (hun : Rds st (news.map fun p => (ρ p.1, .un))) (hg : zau ops ⟨d, .call { callee := .value x, args := args, argTypes := ts }, ty, pos, af, gd⟩ st = some true) {r : AV} (hr : res.ren ρ = r) {wrs : List (Nat × Slot)} (hw : za2 ρ news ++ os.map (fun o => (o, Slot.dead)) = wrs)
 (k : ARun P ops K l (fs ++ [(os ++ news.map (fun p => ρ p.1), news.map (fun p => ρ p.1) ++ os)]) ((st.upd wrs).put d r)) :
 ARun P ops K (⟨d, .call { callee := .value x, args := args, argTypes := ts }, ty, pos, af, gd⟩ :: l) fs st := by
 subst hxs
 subst hr
 subst hw
 subst hos
 have hview : AV.viewL (fun _ => false) (zce ((AV.objsL (args.toList.map st.ev ++ cs)).map fun o => (o, st.heap o))) (args.toList.map st.ev ++ cs) = AV.viewL (fun _ => false) st.heap (args.toList.map st.ev ++ cs) := zc1 _ _ fun o ho => by
  have : ∀ l : List Nat, o ∈ l → zce (l.map fun o => (o, st.heap o)) o = st.heap o := by
   intro l
   induction l with
   | nil => intro h; cases h
   | cons a l ih =>
    intro h
    by_cases e : o = a
    ·subst e; simp [zce, updL]
    ·rcases qbm.1 h with h | h
     ·exact absurd h e
     ·simp only [qbj, zce, updL, nbeq e, cond_false]; exact ih h
  exact this _ ho
 have hop := a_callW (P := P) (d := d) (ty := ty) (pos := pos) (af := af) (g := gd) (x := x) (args := args) (ts := ts) (rds := (AV.objsL (args.toList.map st.ev ++ cs)).map fun o => (o, st.heap o)) ρ hf hb hn (by rw [hview]; exact hC) (by simpa [List.all_map, Function.comp_def] using hl) h3 h4 h5
 refine zab hop ?_ hg ?_ ?_
 ·rw [← hx]
  simp [Op.operands, Call.operands]
 ·have app : ∀ a b : List (Nat × Slot), Rds st a → Rds st b → Rds st (a ++ b) := by
   intro a
   induction a with
   | nil => intro b _ h; exact h
   | cons p a ih => intro b h1 h2; exact ⟨h1.1, ih b h1.2 h2⟩
  refine app _ _ ?_ hun
  generalize AV.objsL (args.toList.map st.ev ++ cs) = l
  induction l with
  | nil => trivial
  | cons a l ih => exact ⟨rfl, ih⟩
 ·have e1 : ((AV.objsL (args.toList.map st.ev ++ cs)).map (fun o => (o, st.heap o)) ++ news.map fun p => (ρ p.1, Slot.un)).map Prod.fst = AV.objsL (args.toList.map st.ev ++ cs) ++ news.map (fun p => ρ p.1) := by
   simp [qbW, Function.comp_def]
  have e3 : zh8 ((AV.objsL (args.toList.map st.ev ++ cs)).map fun o => (o, st.heap o)) = (AV.objsL (args.toList.map st.ev ++ cs)).map fun o => (o, Slot.dead) := by
   simp [zh8, qbW, Function.comp_def]
  have e2 : (za2 ρ news ++ (AV.objsL (args.toList.map st.ev ++ cs)).map fun o => (o, Slot.dead)).map Prod.fst = news.map (fun p => ρ p.1) ++ AV.objsL (args.toList.map st.ev ++ cs) := by
   simp [za2, qbW, Function.comp_def]
  rw [e3, e1, e2]
  exact k
end
theorem newP_view (t : ByteArray) (S : Nat → Prop) (m : Nat → Option Value) (w : World) (us : List Value) (h : RepL S m w [.agg [qc t, qc ⟨#[]⟩, qc ⟨#[]⟩, qd 0, qm]] us) : RepL S m w [.agg (newP t).cells] us := by
 simp only [newP, PE.cells, RepL, Rep, PRep, PRepL, qcy, List.flatMap_nil] at h ⊢
 obtain ⟨u, _, rfl, ⟨ua, rfl, ⟨u0, _, rfl, h0, u1, _, rfl, h1, u2, _, rfl, h2, u3, _, rfl, h3, u4, _, rfl, ⟨rfl, _⟩, rfl⟩, h5⟩, rfl⟩ := h
 exact ⟨_, _, rfl, ⟨_, rfl, ⟨u0, _, rfl, h0, u1, _, rfl, h1, u2, _, rfl, h2, u3, _, rfl, h3, _, _, rfl, ⟨none, 0, [], rfl, Nat.le_refl _, qC, rfl, qC⟩, rfl⟩, h5⟩, rfl⟩
theorem za9 (c : CF) (ok : c.OK) : Fn prog 63 [.agg c.cells] (.agg [qc c.key, qd c.port, .row 0]) [(0, .row 48 5 c.ps.length (c.ps.flatMap PE.pv))] := by
 obtain ⟨key, port, l⟩ := c
 obtain ⟨hn, ok⟩ := ok
 dsimp only at hn ok
 show Fn prog _ [.agg (cfC key port l.length (l.flatMap PE.pv))] (.agg [qc key, qd port, .row 0]) [(0, .row 48 5 l.length (l.flatMap PE.pv))]
 refine fnI fun w0 A => ?_
 refine G [24] ?_
 refine zaK (re_nilB 3 2 100 48 5 rfl rfl rfl) ?_
 refine zac (fun m st => ∃ i : Nat, m + i = l.length ∧ st = St.of [(2, .ref 2 0), (3, .ref 3 0), (12, ql l.length 5 (l.flatMap PE.pv)), (13, qd l.length), (14, qd i)] [(2, .box 24 [qc ⟨#[]⟩, qd 0, qm]), (3, .box 24 [qc key, qd port, .row 100]), (100, .row 48 5 i ((l.take i).flatMap PE.pv))]) l.length ?_ ?_
 ·exact jcF
 rintro m st ⟨i, hi, rfl⟩
 refine G [5] ?_
 refine cX ?_ ?_ <;> intro h
 ·have hlt : i < l.length := qu
  clear h
  obtain ⟨p, hp⟩ := qo hlt
  have hch := zaj (f := PE.pv) (k := 5) (fun _ => rfl) hp
  have hle := zai (f := PE.pv) (k := 5) (fun _ => rfl) hlt
  have hpl := (ok p (qbh hp)).2
  have hpush := pe_push l i p hp
  have hil : ((l.take i).flatMap PE.pv).length = i * 5 := qS
  generalize hL : l.flatMap PE.pv = L at *
  generalize (l.take i).flatMap PE.pv = T at *
  obtain ⟨pk, sh, ep, al, nn⟩ := p
  dsimp only at hpl
  refine G [8] ?_
  refine jdG ?_
  refine G [5] ?_
  refine zab (zcb 20 U46 eo82 (zcF) qB qp) rfl rfl ⟨rfl, trivial⟩ ?_
  refine G [3] ?_
  refine za7 (zcL (cs := nn.flatMap ntC) 20 rfl) ?_
  skip
  refine jeQ ?_
  refine ⟨m - 1, qp, _, zae (fun o => bif Nat.beq o 100 then 26 else o) [(2, .ref 2 0), (3, .ref 3 0), (12, ql l.length 5 L), (13, qd l.length), (14, qd (i + 1 : Nat))] [(2, .box 24 [qc ⟨#[]⟩, qd 0, qm]), (3, .box 24 [qc key, qd port, .row 100]), (100, .row 48 5 (i + 1) (T ++ [qg pk, qg sh, qg ep, qh al, .sl nn.length 2 (nn.flatMap ntC)]))] ?_ ?_ rfl, i + 1, qp, by rw [← hpush]; rfl⟩
  ·exact jap
  ·exact jaR
 exact jbf
theorem ze7 (e : Int) : Fn prog 96 [qd e] (oErr e) [] := by
 show Fn prog _ _ (.tup [.agg [qc ⟨#[]⟩, qd 0, qm], qc ⟨#[]⟩, qd e]) _
 refine fnI fun w0 A => ?_
 refine G [15, 9, 0] ?_
 exact yE
theorem refOne_bad (c : CF) (ok : c.OK) (pt : ByteArray) (s : SE) (sok : s.OK) (h : cfE c ≠ 0) : Fn prog 65 [.agg c.cells, qc pt, .agg s.cells] (oErr (cfE c)) [] := by
 have hC := zaP c ok
 generalize cfE c = e at *
 obtain ⟨key, port, l⟩ := c
 obtain ⟨k, t, n, a, b⟩ := s
 have hN := ze7 (e)
 change Fn prog _ _ (.tup [.agg [qc ⟨#[]⟩, qd 0, qm], qc ⟨#[]⟩, qd (e)]) _ at hN
 refine jds ?_
 change Fn prog _ [.agg (cfC key port l.length (l.flatMap PE.pv))] _ _ at hC
 clear ok sok
 generalize l.flatMap PE.pv = L at *
 refine fnI fun w0 A => ?_
 refine G [16] ?_
 refine cK hC ?_
 refine G [5, 4, 6] ?_
 refine cK hN ?_
 exact jbh
theorem refOne_bad2 (c : CF) (ok : c.OK) (pt : ByteArray) (s : SE) (sok : s.OK) (h : cfE c = 0) (h2 : seE s ≠ 0) : Fn prog 65 [.agg c.cells, qc pt, .agg s.cells] (oErr (seE s)) [] := by
 have hC := zaP c ok
 rw [h] at hC
 have hS := zaT s sok
 generalize seE s = e at *
 obtain ⟨key, port, l⟩ := c
 obtain ⟨k, t, n, a, b⟩ := s
 have hN := ze7 (e)
 change Fn prog _ _ (.tup [.agg [qc ⟨#[]⟩, qd 0, qm], qc ⟨#[]⟩, qd (e)]) _ at hN
 refine jds ?_
 change Fn prog _ [.agg (cfC key port l.length (l.flatMap PE.pv))] _ _ at hC
 change Fn prog _ [.agg [qd k, qc t, qd n, qe a, qd b]] _ _ at hS
 clear ok sok
 generalize l.flatMap PE.pv = L at *
 refine fnI fun w0 A => ?_
 refine G [16] ?_
 refine cK hC ?_
 refine G [5, 1, 7] ?_
 refine cK hS ?_
 refine G [5, 4, 6] ?_
 refine cK hN ?_
 exact jbh
theorem ref1a_s (key : ByteArray) (port : Int) (l : List PE) (ok : CF.OK ⟨key, port, l⟩) (pt : ByteArray) (t : ByteArray) (n a b : Int) (sok : SE.OK ⟨1, t, n, a, b⟩) (hc0 : cfE ⟨key, port, l⟩ = 0) (hs0 : seE ⟨1, t, n, a, b⟩ = 0) (h : peN t l < l.length) : Fn prog 65 [.agg (CF.cells ⟨key, port, l⟩), qc pt, .agg (SE.cells ⟨1, t, n, a, b⟩)] (.tup [.agg [qc ⟨#[]⟩, qd 0, qm], qc ⟨#[]⟩, qd 14]) [] := by
 have hC := zaP ⟨key, port, l⟩ ok
 rw [hc0] at hC
 have hS := zaT ⟨1, t, n, a, b⟩ sok
 rw [hs0] at hS
 have hK := za9 ⟨key, port, l⟩ ok
 have hA := zaM ⟨key, port, l⟩ ok t
 have hA2 := zaM ⟨key, port, l⟩ ok pt
 have hn := ok.len
 dsimp only at hn
 change Fn prog _ [.agg (cfC key port l.length (l.flatMap PE.pv))] _ _ at hC hK
 change Fn prog _ [.agg (cfC key port l.length (l.flatMap PE.pv)), _] (qd (peN t l : Nat)) _ at hA
 change Fn prog _ [.agg (cfC key port l.length (l.flatMap PE.pv)), _] (qd (peN pt l : Nat)) _ at hA2
 change Fn prog _ [.agg [qd 1, qc t, qd n, qe a, qd b]] _ _ at hS
 refine jeq ?_
 have hN := ze7 (14)
 change Fn prog _ _ (.tup [.agg [qc ⟨#[]⟩, qd 0, qm], qc ⟨#[]⟩, qd 14]) _ at hN
 clear ok sok hc0 hs0
 generalize l.flatMap PE.pv = L at *
 generalize peN t l = T at *
 refine fnI fun w0 A => ?_
 refine jeL ?_
 refine zay (fun _ => 40) (hK) rfl rfl F63 rfl rfl qw rfl rfl rfl qq rfl rfl rfl ?_
 refine G [3] ?_
 refine jdz ?_
 refine G [5] ?_
 refine cV hA ?_
 refine G [8, 4, 11] ?_
 (first | refine zaa zbH rfl rfl ?_ | refine zaa za4 rfl rfl ?_)
 refine G [12] ?_
 refine cK hN ?_
 refine jdQ ?_
 exact yE
theorem ref1b_s (key : ByteArray) (port : Int) (l : List PE) (ok : CF.OK ⟨key, port, l⟩) (pt : ByteArray) (t : ByteArray) (n a b : Int) (sok : SE.OK ⟨1, t, n, a, b⟩) (hc0 : cfE ⟨key, port, l⟩ = 0) (hs0 : seE ⟨1, t, n, a, b⟩ = 0) (h : ¬ peN t l < l.length) : Fn prog 65 [.agg (CF.cells ⟨key, port, l⟩), qc pt, .agg (SE.cells ⟨1, t, n, a, b⟩)] (.tup [.agg [qc t, qd port, .row 0], qc ⟨#[]⟩, qd 0]) [(0, .row 48 5 l.length (l.flatMap PE.pv))] := by
 have hC := zaP ⟨key, port, l⟩ ok
 rw [hc0] at hC
 have hS := zaT ⟨1, t, n, a, b⟩ sok
 rw [hs0] at hS
 have hK := za9 ⟨key, port, l⟩ ok
 have hA := zaM ⟨key, port, l⟩ ok t
 have hA2 := zaM ⟨key, port, l⟩ ok pt
 have hn := ok.len
 dsimp only at hn
 change Fn prog _ [.agg (cfC key port l.length (l.flatMap PE.pv))] _ _ at hC hK
 change Fn prog _ [.agg (cfC key port l.length (l.flatMap PE.pv)), _] (qd (peN t l : Nat)) _ at hA
 change Fn prog _ [.agg (cfC key port l.length (l.flatMap PE.pv)), _] (qd (peN pt l : Nat)) _ at hA2
 change Fn prog _ [.agg [qd 1, qc t, qd n, qe a, qd b]] _ _ at hS
 refine jeq ?_
 clear ok sok hc0 hs0
 generalize l.flatMap PE.pv = L at *
 generalize peN t l = T at *
 refine fnI fun w0 A => ?_
 refine jeL ?_
 refine zay (fun _ => 40) (hK) rfl rfl F63 rfl rfl qw rfl rfl rfl qq rfl rfl rfl ?_
 refine G [3] ?_
 refine jdz ?_
 refine G [5] ?_
 refine cV hA ?_
 refine G [8, 3, 11] ?_
 (first | refine zaa zbH rfl rfl ?_ | refine zaa za4 rfl rfl ?_)
 refine G [25, 9, 0] ?_
 refine yT (fun _ => 40) ?_ ?_
 ·exact rfl
 ·exact ja3
theorem ref2_s (key : ByteArray) (port : Int) (l : List PE) (ok : CF.OK ⟨key, port, l⟩) (pt : ByteArray) (t : ByteArray) (n a b : Int) (sok : SE.OK ⟨2, t, n, a, b⟩) (hc0 : cfE ⟨key, port, l⟩ = 0) (hs0 : seE ⟨2, t, n, a, b⟩ = 0) : Fn prog 65 [.agg (CF.cells ⟨key, port, l⟩), qc pt, .agg (SE.cells ⟨2, t, n, a, b⟩)] (.tup [.agg [qc key, qd n, .row 0], qc ⟨#[]⟩, qd 0]) [(0, .row 48 5 l.length (l.flatMap PE.pv))] := by
 have hC := zaP ⟨key, port, l⟩ ok
 rw [hc0] at hC
 have hS := zaT ⟨2, t, n, a, b⟩ sok
 rw [hs0] at hS
 have hK := za9 ⟨key, port, l⟩ ok
 have hA := zaM ⟨key, port, l⟩ ok t
 have hA2 := zaM ⟨key, port, l⟩ ok pt
 have hn := ok.len
 dsimp only at hn
 change Fn prog _ [.agg (cfC key port l.length (l.flatMap PE.pv))] _ _ at hC hK
 change Fn prog _ [.agg (cfC key port l.length (l.flatMap PE.pv)), _] (qd (peN t l : Nat)) _ at hA
 change Fn prog _ [.agg (cfC key port l.length (l.flatMap PE.pv)), _] (qd (peN pt l : Nat)) _ at hA2
 change Fn prog _ [.agg [qd 2, qc t, qd n, qe a, qd b]] _ _ at hS
 show Fn prog _ [.agg (cfC key port l.length (l.flatMap PE.pv)), _, .agg [qd 2, qc t, qd n, qe a, qd b]] _ _
 clear ok sok hc0 hs0
 generalize l.flatMap PE.pv = L at *
 generalize peN t l = T at *
 refine fnI fun w0 A => ?_
 refine jeL ?_
 refine zay (fun _ => 40) (hK) rfl rfl F63 rfl rfl qw rfl rfl rfl qq rfl rfl rfl ?_
 refine G [3] ?_
 refine zaH (zaK (zae id [(1, qc pt), (3, .ref 3 0), (5, .ref 5 0), (6, .ref 6 0), (9, .fn 96 []), (12, .ref 12 0)] [(3, .box 24 (cfC key port l.length L)), (5, .box 107 [qd 2, qc t, qd n, qe a, qd b]), (6, .box 24 [qc ⟨#[]⟩, qd 0, qm]), (12, .box 24 [qc key, qd port, .row 40]), (40, .row 48 5 l.length L)] qt qt rfl) ?_)
 refine jeM ?_
 refine G [17] ?_
 (first | refine zaa zbH rfl rfl ?_ | refine zaa za4 rfl rfl ?_)
 refine G [18, 9, 0] ?_
 refine yT (fun _ => 40) ?_ ?_
 ·exact rfl
 ·exact ja3
theorem ref3_s (key : ByteArray) (port : Int) (l : List PE) (ok : CF.OK ⟨key, port, l⟩) (pt : ByteArray) (t : ByteArray) (n a b : Int) (sok : SE.OK ⟨3, t, n, a, b⟩) (hc0 : cfE ⟨key, port, l⟩ = 0) (hs0 : seE ⟨3, t, n, a, b⟩ = 0) : Fn prog 65 [.agg (CF.cells ⟨key, port, l⟩), qc pt, .agg (SE.cells ⟨3, t, n, a, b⟩)] (.tup [.agg [qc key, qd port, ql 0 5 []], qc ⟨#[]⟩, qd 0]) [] := by
 have hC := zaP ⟨key, port, l⟩ ok
 rw [hc0] at hC
 have hS := zaT ⟨3, t, n, a, b⟩ sok
 rw [hs0] at hS
 have hK := za9 ⟨key, port, l⟩ ok
 have hA := zaM ⟨key, port, l⟩ ok t
 have hA2 := zaM ⟨key, port, l⟩ ok pt
 have hn := ok.len
 dsimp only at hn
 change Fn prog _ [.agg (cfC key port l.length (l.flatMap PE.pv))] _ _ at hC hK
 change Fn prog _ [.agg (cfC key port l.length (l.flatMap PE.pv)), _] (qd (peN t l : Nat)) _ at hA
 change Fn prog _ [.agg (cfC key port l.length (l.flatMap PE.pv)), _] (qd (peN pt l : Nat)) _ at hA2
 change Fn prog _ [.agg [qd 3, qc t, qd n, qe a, qd b]] _ _ at hS
 show Fn prog _ [.agg (cfC key port l.length (l.flatMap PE.pv)), _, .agg [qd 3, qc t, qd n, qe a, qd b]] _ _
 clear ok sok hc0 hs0
 generalize l.flatMap PE.pv = L at *
 generalize peN t l = T at *
 refine fnI fun w0 A => ?_
 refine jeL ?_
 refine zay (fun _ => 40) (hK) rfl rfl F63 rfl rfl qw rfl rfl rfl qq rfl rfl rfl ?_
 refine G [3] ?_
 refine zaH (zaK (zae id [(1, qc pt), (3, .ref 3 0), (5, .ref 5 0), (6, .ref 6 0), (9, .fn 96 []), (12, .ref 12 0)] [(3, .box 24 (cfC key port l.length L)), (5, .box 107 [qd 3, qc t, qd n, qe a, qd b]), (6, .box 24 [qc ⟨#[]⟩, qd 0, qm]), (12, .box 24 [qc key, qd port, .row 40]), (40, .row 48 5 l.length L)] qt qt rfl) ?_)
 refine jeM ?_
 refine G [23] ?_
 (first | refine zaa zbH rfl rfl ?_ | refine zaa za4 rfl rfl ?_)
 refine G [6] ?_
 refine jfc (zhZ (nil_sl (.ref 12 (0 + 2)) 5) (zcM (es := [qc key, qd port, ql 0 5 []]) sz22 rfl rfl (qbe rfl) rfl)) ?_
 refine G [9, 9, 0] ?_
 exact yE
theorem ref4own_s (key : ByteArray) (port : Int) (l : List PE) (ok : CF.OK ⟨key, port, l⟩) (pt : ByteArray) (t : ByteArray) (n a b : Int) (sok : SE.OK ⟨4, t, n, a, b⟩) (hc0 : cfE ⟨key, port, l⟩ = 0) (hs0 : seE ⟨4, t, n, a, b⟩ = 0) (h : t = key) : Fn prog 65 [.agg (CF.cells ⟨key, port, l⟩), qc pt, .agg (SE.cells ⟨4, t, n, a, b⟩)] (.tup [.agg [qc ⟨#[]⟩, qd 0, qm], qc ⟨#[]⟩, qd 14]) [] := by
 have hC := zaP ⟨key, port, l⟩ ok
 rw [hc0] at hC
 have hS := zaT ⟨4, t, n, a, b⟩ sok
 rw [hs0] at hS
 have hK := za9 ⟨key, port, l⟩ ok
 have hA := zaM ⟨key, port, l⟩ ok t
 have hA2 := zaM ⟨key, port, l⟩ ok pt
 have hn := ok.len
 dsimp only at hn
 change Fn prog _ [.agg (cfC key port l.length (l.flatMap PE.pv))] _ _ at hC hK
 change Fn prog _ [.agg (cfC key port l.length (l.flatMap PE.pv)), _] (qd (peN t l : Nat)) _ at hA
 change Fn prog _ [.agg (cfC key port l.length (l.flatMap PE.pv)), _] (qd (peN pt l : Nat)) _ at hA2
 change Fn prog _ [.agg [qd 4, qc t, qd n, qe a, qd b]] _ _ at hS
 refine jdN ?_
 have hN := ze7 (14)
 change Fn prog _ _ (.tup [.agg [qc ⟨#[]⟩, qd 0, qm], qc ⟨#[]⟩, qd 14]) _ at hN
 clear ok sok hc0 hs0
 generalize l.flatMap PE.pv = L at *
 generalize peN t l = T at *
 refine fnI fun w0 A => ?_
 refine jeL ?_
 refine zay (fun _ => 40) (hK) rfl rfl F63 rfl rfl qw rfl rfl rfl qq rfl rfl rfl ?_
 refine G [3] ?_
 refine jdr ?_
 refine jeM ?_
 refine G [29] ?_
 (first | refine zaa zbH rfl rfl ?_ | refine zaa za4 rfl rfl ?_)
 refine G [10, 4, 5] ?_
 refine cK hN ?_
 refine jdQ ?_
 exact yE
theorem ref4old_s (key : ByteArray) (port : Int) (l : List PE) (ok : CF.OK ⟨key, port, l⟩) (pt : ByteArray) (t : ByteArray) (n a b : Int) (sok : SE.OK ⟨4, t, n, a, b⟩) (hc0 : cfE ⟨key, port, l⟩ = 0) (hs0 : seE ⟨4, t, n, a, b⟩ = 0) (h0 : t ≠ key) (h : peN t l < l.length) : Fn prog 65 [.agg (CF.cells ⟨key, port, l⟩), qc pt, .agg (SE.cells ⟨4, t, n, a, b⟩)] (.tup [.agg [qc key, qd port, .row 0], qc t, qd 0]) [(0, .row 48 5 l.length (l.flatMap PE.pv))] := by
 have hC := zaP ⟨key, port, l⟩ ok
 rw [hc0] at hC
 have hS := zaT ⟨4, t, n, a, b⟩ sok
 rw [hs0] at hS
 have hK := za9 ⟨key, port, l⟩ ok
 have hA := zaM ⟨key, port, l⟩ ok t
 have hA2 := zaM ⟨key, port, l⟩ ok pt
 have hn := ok.len
 dsimp only at hn
 change Fn prog _ [.agg (cfC key port l.length (l.flatMap PE.pv))] _ _ at hC hK
 change Fn prog _ [.agg (cfC key port l.length (l.flatMap PE.pv)), _] (qd (peN t l : Nat)) _ at hA
 change Fn prog _ [.agg (cfC key port l.length (l.flatMap PE.pv)), _] (qd (peN pt l : Nat)) _ at hA2
 change Fn prog _ [.agg [qd 4, qc t, qd n, qe a, qd b]] _ _ at hS
 refine jdN ?_
 clear ok sok hc0 hs0
 generalize l.flatMap PE.pv = L at *
 generalize peN t l = T at *
 refine fnI fun w0 A => ?_
 refine jeL ?_
 refine zay (fun _ => 40) (hK) rfl rfl F63 rfl rfl qw rfl rfl rfl qq rfl rfl rfl ?_
 refine G [3] ?_
 refine jdr ?_
 refine G [5] ?_
 refine cV hA ?_
 refine G [8, 4, 29] ?_
 (first | refine zaa zbH rfl rfl ?_ | refine zaa za4 rfl rfl ?_)
 refine G [10, 3, 35, 9, 0] ?_
 refine yT (fun _ => 40) ?_ ?_
 ·exact rfl
 ·exact ja3
theorem ref4full_s (key : ByteArray) (port : Int) (l : List PE) (ok : CF.OK ⟨key, port, l⟩) (pt : ByteArray) (t : ByteArray) (n a b : Int) (sok : SE.OK ⟨4, t, n, a, b⟩) (hc0 : cfE ⟨key, port, l⟩ = 0) (hs0 : seE ⟨4, t, n, a, b⟩ = 0) (h0 : t ≠ key) (h : ¬ peN t l < l.length) (h2 : l.length = 6) : Fn prog 65 [.agg (CF.cells ⟨key, port, l⟩), qc pt, .agg (SE.cells ⟨4, t, n, a, b⟩)] (.tup [.agg [qc ⟨#[]⟩, qd 0, qm], qc ⟨#[]⟩, qd 7]) [] := by
 have hC := zaP ⟨key, port, l⟩ ok
 rw [hc0] at hC
 have hS := zaT ⟨4, t, n, a, b⟩ sok
 rw [hs0] at hS
 have hK := za9 ⟨key, port, l⟩ ok
 have hA := zaM ⟨key, port, l⟩ ok t
 have hA2 := zaM ⟨key, port, l⟩ ok pt
 have hn := ok.len
 dsimp only at hn
 change Fn prog _ [.agg (cfC key port l.length (l.flatMap PE.pv))] _ _ at hC hK
 change Fn prog _ [.agg (cfC key port l.length (l.flatMap PE.pv)), _] (qd (peN t l : Nat)) _ at hA
 change Fn prog _ [.agg (cfC key port l.length (l.flatMap PE.pv)), _] (qd (peN pt l : Nat)) _ at hA2
 change Fn prog _ [.agg [qd 4, qc t, qd n, qe a, qd b]] _ _ at hS
 refine jdN ?_
 have hN := ze7 (7)
 change Fn prog _ _ (.tup [.agg [qc ⟨#[]⟩, qd 0, qm], qc ⟨#[]⟩, qd 7]) _ at hN
 clear ok sok hc0 hs0
 generalize l.flatMap PE.pv = L at *
 generalize peN t l = T at *
 refine fnI fun w0 A => ?_
 refine jeL ?_
 refine zay (fun _ => 40) (hK) rfl rfl F63 rfl rfl qw rfl rfl rfl qq rfl rfl rfl ?_
 refine G [3] ?_
 refine jdr ?_
 refine G [5] ?_
 refine cV hA ?_
 refine G [8, 3, 29, 1, 10, 3, 12, 4, 6] ?_
 refine cK hN ?_
 exact jbh
theorem ref4new_s (key : ByteArray) (port : Int) (l : List PE) (ok : CF.OK ⟨key, port, l⟩) (pt : ByteArray) (t : ByteArray) (n a b : Int) (sok : SE.OK ⟨4, t, n, a, b⟩) (hc0 : cfE ⟨key, port, l⟩ = 0) (hs0 : seE ⟨4, t, n, a, b⟩ = 0) (h0 : t ≠ key) (h : ¬ peN t l < l.length) (h2 : l.length < 6) : Fn prog 65 [.agg (CF.cells ⟨key, port, l⟩), qc pt, .agg (SE.cells ⟨4, t, n, a, b⟩)] (.tup [.agg [qc key, qd port, .row 0], qc t, qd 0]) [(0, .row 48 5 (l.length + 1) ((zcK gtP (l ++ [newP t])).flatMap PE.pv))] := by
 have hC := zaP ⟨key, port, l⟩ ok
 rw [hc0] at hC
 have hS := zaT ⟨4, t, n, a, b⟩ sok
 rw [hs0] at hS
 have hK := za9 ⟨key, port, l⟩ ok
 have hA := zaM ⟨key, port, l⟩ ok t
 have hA2 := zaM ⟨key, port, l⟩ ok pt
 have hn := ok.len
 dsimp only at hn
 change Fn prog _ [.agg (cfC key port l.length (l.flatMap PE.pv))] _ _ at hC hK
 change Fn prog _ [.agg (cfC key port l.length (l.flatMap PE.pv)), _] (qd (peN t l : Nat)) _ at hA
 change Fn prog _ [.agg (cfC key port l.length (l.flatMap PE.pv)), _] (qd (peN pt l : Nat)) _ at hA2
 change Fn prog _ [.agg [qd 4, qc t, qd n, qe a, qd b]] _ _ at hS
 refine jdN ?_
 have hSo := sortedP_s (l ++ [newP t]) (by rw [qbg]; simp; omega)
 have hap : l.flatMap PE.pv ++ (newP t).pv = (l ++ [newP t]).flatMap PE.pv := by rw [qbD]; simp
 rw [show (l ++ [newP t]).length = l.length + 1 by simp] at hSo
 generalize (zcK gtP (l ++ [newP t])).flatMap PE.pv = L2 at *
 generalize (l ++ [newP t]).flatMap PE.pv = L3 at *
 clear ok sok hc0 hs0
 generalize l.flatMap PE.pv = L at *
 generalize peN t l = T at *
 refine fnI fun w0 A => ?_
 refine jeL ?_
 refine zay (fun _ => 40) (hK) rfl rfl F63 rfl rfl qw rfl rfl rfl qq rfl rfl rfl ?_
 refine G [3] ?_
 refine jdr ?_
 refine G [5] ?_
 refine cV hA ?_
 refine G [8, 3, 29, 1, 10, 3, 12, 3, 11] ?_
 skip
 refine G [6] ?_
 refine zab (zhZ (newP_view t) (zag (es := (newP t).cells) (cs := (newP t).pv) (xs := [.agg (newP t).cells]) 106 U22 sz48 zc48 (qbe rfl) (qbe rfl) rfl rfl rfl rfl (qbe rfl))) rfl rfl ⟨rfl, trivial⟩ ?_
 refine zab (zaq 107 U22 eo48 (zaS) qB qp rfl hap) rfl rfl ⟨rfl, rfl, rfl, trivial⟩ ?_
 refine r_callW (fun n => 108 + 1000 * n) (hSo) rfl rfl func97 rfl rfl rfl rfl rfl rfl rfl qq rfl rfl rfl ?_
 refine G [13, 9, 0] ?_
 refine yT (fun _ => 108) ?_ ?_
 ·exact rfl
 ·exact ja3
theorem zdN (k : Int) (key : ByteArray) (port : Int) (l : List PE) (ok : CF.OK ⟨key, port, l⟩) (pt : ByteArray) (t : ByteArray) (n a b : Int) (sok : SE.OK ⟨k, t, n, a, b⟩) (hc0 : cfE ⟨key, port, l⟩ = 0) (hs0 : seE ⟨k, t, n, a, b⟩ = 0) (h1 : k ≠ 1) (h2 : k ≠ 2) (h3 : k ≠ 3) (h4 : k ≠ 4) (h : pt = ⟨#[]⟩ ∨ ¬ peN pt l < l.length) : Fn prog 65 [.agg (CF.cells ⟨key, port, l⟩), qc pt, .agg (SE.cells ⟨k, t, n, a, b⟩)] (.tup [.agg [qc ⟨#[]⟩, qd 0, qm], qc ⟨#[]⟩, qd 13]) [] := by
 have hC := zaP ⟨key, port, l⟩ ok
 rw [hc0] at hC
 have hS := zaT ⟨k, t, n, a, b⟩ sok
 rw [hs0] at hS
 have hK := za9 ⟨key, port, l⟩ ok
 have hA := zaM ⟨key, port, l⟩ ok t
 have hA2 := zaM ⟨key, port, l⟩ ok pt
 have hn := ok.len
 dsimp only at hn
 change Fn prog _ [.agg (cfC key port l.length (l.flatMap PE.pv))] _ _ at hC hK
 change Fn prog _ [.agg (cfC key port l.length (l.flatMap PE.pv)), _] (qd (peN t l : Nat)) _ at hA
 change Fn prog _ [.agg (cfC key port l.length (l.flatMap PE.pv)), _] (qd (peN pt l : Nat)) _ at hA2
 change Fn prog _ [.agg [qd k, qc t, qd n, qe a, qd b]] _ _ at hS
 refine jdM ?_
 have hN := ze7 (13)
 change Fn prog _ _ (.tup [.agg [qc ⟨#[]⟩, qd 0, qm], qc ⟨#[]⟩, qd 13]) _ at hN
 have hU := peN_le pt l
 generalize peN pt l = U at *
 clear ok sok hc0 hs0
 generalize l.flatMap PE.pv = L at *
 generalize peN t l = T at *
 refine fnI fun w0 A => ?_
 refine jeL ?_
 refine zay (fun _ => 40) (hK) rfl rfl F63 rfl rfl qw rfl rfl rfl qq rfl rfl rfl ?_
 refine G [3] ?_
 refine zaH (zaK (zae id [(1, qc pt), (3, .ref 3 0), (5, .ref 5 0), (6, .ref 6 0), (9, .fn 96 []), (12, .ref 12 0)] [(3, .box 24 (cfC key port l.length L)), (5, .box 107 [qd k, qc t, qd n, qe a, qd b]), (6, .box 24 [qc ⟨#[]⟩, qd 0, qm]), (12, .box 24 [qc key, qd port, .row 40]), (40, .row 48 5 l.length L)] qt qt rfl) ?_)
 refine jeM ?_
 refine G [11, 3, 5, 3, 5, 3, 5, 3, 8] ?_
 refine cV hA2 ?_
 refine G [2] ?_
 by_cases h0 : pt = ⟨#[]⟩
 ·refine G [4, 4, 12] ?_
  refine cK hN ?_
  exact jbh
 ·have hJ : U = l.length := by
   have := h.resolve_left h0
   omega
  refine G [4, 3, 5, 4, 6] ?_
  refine cK hN ?_
  exact jbh
theorem ref5_s (key : ByteArray) (port : Int) (l : List PE) (ok : CF.OK ⟨key, port, l⟩) (pt : ByteArray) (t : ByteArray) (n a b : Int) (sok : SE.OK ⟨5, t, n, a, b⟩) (hc0 : cfE ⟨key, port, l⟩ = 0) (hs0 : seE ⟨5, t, n, a, b⟩ = 0) (h0 : pt ≠ ⟨#[]⟩) (h : peN pt l < l.length) : Fn prog 65 [.agg (CF.cells ⟨key, port, l⟩), qc pt, .agg (SE.cells ⟨5, t, n, a, b⟩)] (.tup [.agg [qc key, qd port, .row 0], qc ⟨#[]⟩, qd 0]) [(0, .row 48 5 (l.length - 1) ((l.take (peN pt l) ++ l.drop (peN pt l + 1)).flatMap PE.pv))] := by
 have hC := zaP ⟨key, port, l⟩ ok
 rw [hc0] at hC
 have hS := zaT ⟨5, t, n, a, b⟩ sok
 rw [hs0] at hS
 have hK := za9 ⟨key, port, l⟩ ok
 have hA := zaM ⟨key, port, l⟩ ok t
 have hA2 := zaM ⟨key, port, l⟩ ok pt
 have hn := ok.len
 dsimp only at hn
 change Fn prog _ [.agg (cfC key port l.length (l.flatMap PE.pv))] _ _ at hC hK
 change Fn prog _ [.agg (cfC key port l.length (l.flatMap PE.pv)), _] (qd (peN t l : Nat)) _ at hA
 change Fn prog _ [.agg (cfC key port l.length (l.flatMap PE.pv)), _] (qd (peN pt l : Nat)) _ at hA2
 change Fn prog _ [.agg [qd 5, qc t, qd n, qe a, qd b]] _ _ at hS
 show Fn prog _ [.agg (cfC key port l.length (l.flatMap PE.pv)), _, .agg [qd 5, qc t, qd n, qe a, qd b]] _ _
 have hL0 : (l.flatMap PE.pv).length = l.length * 5 := zap (f := PE.pv) (k := 5) (fun _ => rfl) l
 have hap : (l.flatMap PE.pv).take (peN pt l * 5) ++ ((l.flatMap PE.pv).drop ((peN pt l + 1) * 5)).take ((l.length - (peN pt l + 1)) * 5) = (l.take (peN pt l) ++ l.drop (peN pt l + 1)).flatMap PE.pv := by
  have h1 : ((l.take (peN pt l)).flatMap PE.pv).length = peN pt l * 5 := qS
  have h2 : ((l.take (peN pt l + 1)).flatMap PE.pv).length = (peN pt l + 1) * 5 := qS
  have h3 : l.flatMap PE.pv = (l.take (peN pt l)).flatMap PE.pv ++ (l.drop (peN pt l)).flatMap PE.pv := qaa
  have h4 : l.flatMap PE.pv = (l.take (peN pt l + 1)).flatMap PE.pv ++ (l.drop (peN pt l + 1)).flatMap PE.pv := qaa
  have h5 : ((l.flatMap PE.pv).drop ((peN pt l + 1) * 5)).take ((l.length - (peN pt l + 1)) * 5) = (l.flatMap PE.pv).drop ((peN pt l + 1) * 5) := qbr (by rw [qby, hL0, ← Nat.sub_mul]; exact Nat.le_refl _)
  have h6 : (l.flatMap PE.pv).take (peN pt l * 5) = (l.take (peN pt l)).flatMap PE.pv := by rw [← h1, h3, qcp]
  have h7 : (l.flatMap PE.pv).drop ((peN pt l + 1) * 5) = (l.drop (peN pt l + 1)).flatMap PE.pv := by rw [← h2, h4, qcO]
  rw [h5, h6, h7, qbD]
 generalize (l.take (peN pt l) ++ l.drop (peN pt l + 1)).flatMap PE.pv = L2 at *
 generalize peN pt l = U at *
 clear ok sok hc0 hs0
 generalize l.flatMap PE.pv = L at *
 generalize peN t l = T at *
 refine fnI fun w0 A => ?_
 refine jeL ?_
 refine zay (fun _ => 40) (hK) rfl rfl F63 rfl rfl qw rfl rfl rfl qq rfl rfl rfl ?_
 refine G [3] ?_
 refine zaH (zaK (zae id [(1, qc pt), (3, .ref 3 0), (5, .ref 5 0), (6, .ref 6 0), (9, .fn 96 []), (12, .ref 12 0)] [(3, .box 24 (cfC key port l.length L)), (5, .box 107 [qd 5, qc t, qd n, qe a, qd b]), (6, .box 24 [qc ⟨#[]⟩, qd 0, qm]), (12, .box 24 [qc key, qd port, .row 40]), (40, .row 48 5 l.length L)] qt qt rfl) ?_)
 refine je8 ?_
 refine G [6, 3, 5, 3, 13] ?_
 (first | refine zaa zbH rfl rfl ?_ | refine zaa za4 rfl rfl ?_)
 refine G [5] ?_
 refine jfc (za5 134 U22 sz48) ?_
 refine G [3] ?_
 refine zab (zdy (L := none) (H := (some (_, _))) U22 sz48 rfl ⟨qp, rfl⟩ qp qp (show Int.toNat (U : Int) - 0 = U by omega) rfl) rfl rfl ⟨rfl, trivial⟩ ?_
 refine zab (zaq 139 U22 eo48 (zf7 qp rfl) qB qp (show 0 + U = U by omega) (show [] ++ (L.drop (0 * 5)).take (U * 5) = L.take (U * 5) by simp)) rfl rfl ⟨rfl, rfl, rfl, trivial⟩ ?_
 refine G [3] ?_
 refine zaa (zgF (show IntKind.i64.wrap ((U : Int) + 1) = ((U + 1 : Nat) : Int) by rw [qbM _ (by omega)]; omega)) rfl rfl ?_
 refine zab (zdy (L := (some (_, _))) (H := none) U22 sz48 ⟨qp, rfl⟩ rfl qp qp (show l.length - Int.toNat ((U + 1 : Nat) : Int) = l.length - (U + 1) by omega) (show Int.toNat ((U + 1 : Nat) : Int) * 5 = (U + 1) * 5 by rw [qbx])) rfl rfl ⟨rfl, trivial⟩ ?_
 refine zab (zaq 145 U22 eo48 (zf7 qp rfl) qB qp (show U + (l.length - (U + 1)) = l.length - 1 by omega) hap) rfl rfl ⟨rfl, rfl, rfl, trivial⟩ ?_
 refine G [11, 9, 0] ?_
 refine yT (fun _ => 145) ?_ ?_
 ·exact rfl
 ·exact ja3
theorem ref6_s (key : ByteArray) (port : Int) (l : List PE) (ok : CF.OK ⟨key, port, l⟩) (pt : ByteArray) (t : ByteArray) (n a b : Int) (sok : SE.OK ⟨6, t, n, a, b⟩) (hc0 : cfE ⟨key, port, l⟩ = 0) (hs0 : seE ⟨6, t, n, a, b⟩ = 0) (h0 : pt ≠ ⟨#[]⟩) (h : peN pt l < l.length) : Fn prog 65 [.agg (CF.cells ⟨key, port, l⟩), qc pt, .agg (SE.cells ⟨6, t, n, a, b⟩)] (.tup [.agg [qc key, qd port, .row 0], qc pt, qd 0]) [(0, .row 48 5 l.length ((l.set (peN pt l) { l[peN pt l] with sh := t }).flatMap PE.pv))] := by
 have hC := zaP ⟨key, port, l⟩ ok
 rw [hc0] at hC
 have hS := zaT ⟨6, t, n, a, b⟩ sok
 rw [hs0] at hS
 have hK := za9 ⟨key, port, l⟩ ok
 have hA := zaM ⟨key, port, l⟩ ok t
 have hA2 := zaM ⟨key, port, l⟩ ok pt
 have hn := ok.len
 dsimp only at hn
 change Fn prog _ [.agg (cfC key port l.length (l.flatMap PE.pv))] _ _ at hC hK
 change Fn prog _ [.agg (cfC key port l.length (l.flatMap PE.pv)), _] (qd (peN t l : Nat)) _ at hA
 change Fn prog _ [.agg (cfC key port l.length (l.flatMap PE.pv)), _] (qd (peN pt l : Nat)) _ at hA2
 change Fn prog _ [.agg [qd 6, qc t, qd n, qe a, qd b]] _ _ at hS
 show Fn prog _ [.agg (cfC key port l.length (l.flatMap PE.pv)), _, .agg [qd 6, qc t, qd n, qe a, qd b]] _ _
 have hL0 : (l.flatMap PE.pv).length = l.length * 5 := zap (f := PE.pv) (k := 5) (fun _ => rfl) l
 have hset := zgH h 1 (qg t) { l[peN pt l] with sh := t } rfl qp
 generalize (l.set (peN pt l) { l[peN pt l] with sh := t }).flatMap PE.pv = L2 at *
 generalize peN pt l = U at *
 clear ok sok hc0 hs0
 generalize l.flatMap PE.pv = L at *
 generalize peN t l = T at *
 refine fnI fun w0 A => ?_
 refine jeL ?_
 refine zay (fun _ => 40) (hK) rfl rfl F63 rfl rfl qw rfl rfl rfl qq rfl rfl rfl ?_
 refine G [3] ?_
 refine zaH (zaK (zae id [(1, qc pt), (3, .ref 3 0), (5, .ref 5 0), (6, .ref 6 0), (9, .fn 96 []), (12, .ref 12 0)] [(3, .box 24 (cfC key port l.length L)), (5, .box 107 [qd 6, qc t, qd n, qe a, qd b]), (6, .box 24 [qc ⟨#[]⟩, qd 0, qm]), (12, .box 24 [qc key, qd port, .row 40]), (40, .row 48 5 l.length L)] qt qt rfl) ?_)
 refine je8 ?_
 refine G [6, 3, 5, 3, 19] ?_
 exact jbw
theorem ref7_s (key : ByteArray) (port : Int) (l : List PE) (ok : CF.OK ⟨key, port, l⟩) (pt : ByteArray) (t : ByteArray) (n a b : Int) (sok : SE.OK ⟨7, t, n, a, b⟩) (hc0 : cfE ⟨key, port, l⟩ = 0) (hs0 : seE ⟨7, t, n, a, b⟩ = 0) (h0 : pt ≠ ⟨#[]⟩) (h : peN pt l < l.length) : Fn prog 65 [.agg (CF.cells ⟨key, port, l⟩), qc pt, .agg (SE.cells ⟨7, t, n, a, b⟩)] (.tup [.agg [qc key, qd port, .row 0], qc pt, qd 0]) [(0, .row 48 5 l.length ((l.set (peN pt l) { l[peN pt l] with ep := t }).flatMap PE.pv))] := by
 have hC := zaP ⟨key, port, l⟩ ok
 rw [hc0] at hC
 have hS := zaT ⟨7, t, n, a, b⟩ sok
 rw [hs0] at hS
 have hK := za9 ⟨key, port, l⟩ ok
 have hA := zaM ⟨key, port, l⟩ ok t
 have hA2 := zaM ⟨key, port, l⟩ ok pt
 have hn := ok.len
 dsimp only at hn
 change Fn prog _ [.agg (cfC key port l.length (l.flatMap PE.pv))] _ _ at hC hK
 change Fn prog _ [.agg (cfC key port l.length (l.flatMap PE.pv)), _] (qd (peN t l : Nat)) _ at hA
 change Fn prog _ [.agg (cfC key port l.length (l.flatMap PE.pv)), _] (qd (peN pt l : Nat)) _ at hA2
 change Fn prog _ [.agg [qd 7, qc t, qd n, qe a, qd b]] _ _ at hS
 show Fn prog _ [.agg (cfC key port l.length (l.flatMap PE.pv)), _, .agg [qd 7, qc t, qd n, qe a, qd b]] _ _
 have hL0 : (l.flatMap PE.pv).length = l.length * 5 := zap (f := PE.pv) (k := 5) (fun _ => rfl) l
 have hset := zgH h 2 (qg t) { l[peN pt l] with ep := t } rfl qp
 generalize (l.set (peN pt l) { l[peN pt l] with ep := t }).flatMap PE.pv = L2 at *
 generalize peN pt l = U at *
 clear ok sok hc0 hs0
 generalize l.flatMap PE.pv = L at *
 generalize peN t l = T at *
 refine fnI fun w0 A => ?_
 refine jeL ?_
 refine zay (fun _ => 40) (hK) rfl rfl F63 rfl rfl qw rfl rfl rfl qq rfl rfl rfl ?_
 refine G [3] ?_
 refine zaH (zaK (zae id [(1, qc pt), (3, .ref 3 0), (5, .ref 5 0), (6, .ref 6 0), (9, .fn 96 []), (12, .ref 12 0)] [(3, .box 24 (cfC key port l.length L)), (5, .box 107 [qd 7, qc t, qd n, qe a, qd b]), (6, .box 24 [qc ⟨#[]⟩, qd 0, qm]), (12, .box 24 [qc key, qd port, .row 40]), (40, .row 48 5 l.length L)] qt qt rfl) ?_)
 refine je8 ?_
 refine G [6, 3, 5, 3, 25] ?_
 exact jbw
theorem ref8_s (key : ByteArray) (port : Int) (l : List PE) (ok : CF.OK ⟨key, port, l⟩) (pt : ByteArray) (t : ByteArray) (n a b : Int) (sok : SE.OK ⟨8, t, n, a, b⟩) (hc0 : cfE ⟨key, port, l⟩ = 0) (hs0 : seE ⟨8, t, n, a, b⟩ = 0) (h0 : pt ≠ ⟨#[]⟩) (h : peN pt l < l.length) : Fn prog 65 [.agg (CF.cells ⟨key, port, l⟩), qc pt, .agg (SE.cells ⟨8, t, n, a, b⟩)] (.tup [.agg [qc key, qd port, .row 0], qc pt, qd 0]) [(0, .row 48 5 l.length ((l.set (peN pt l) { l[peN pt l] with al := n }).flatMap PE.pv))] := by
 have hC := zaP ⟨key, port, l⟩ ok
 rw [hc0] at hC
 have hS := zaT ⟨8, t, n, a, b⟩ sok
 rw [hs0] at hS
 have hK := za9 ⟨key, port, l⟩ ok
 have hA := zaM ⟨key, port, l⟩ ok t
 have hA2 := zaM ⟨key, port, l⟩ ok pt
 have hn := ok.len
 dsimp only at hn
 change Fn prog _ [.agg (cfC key port l.length (l.flatMap PE.pv))] _ _ at hC hK
 change Fn prog _ [.agg (cfC key port l.length (l.flatMap PE.pv)), _] (qd (peN t l : Nat)) _ at hA
 change Fn prog _ [.agg (cfC key port l.length (l.flatMap PE.pv)), _] (qd (peN pt l : Nat)) _ at hA2
 change Fn prog _ [.agg [qd 8, qc t, qd n, qe a, qd b]] _ _ at hS
 show Fn prog _ [.agg (cfC key port l.length (l.flatMap PE.pv)), _, .agg [qd 8, qc t, qd n, qe a, qd b]] _ _
 have hL0 : (l.flatMap PE.pv).length = l.length * 5 := zap (f := PE.pv) (k := 5) (fun _ => rfl) l
 have hset := zgH h 3 (qh n) { l[peN pt l] with al := n } rfl qp
 generalize (l.set (peN pt l) { l[peN pt l] with al := n }).flatMap PE.pv = L2 at *
 generalize peN pt l = U at *
 clear ok sok hc0 hs0
 generalize l.flatMap PE.pv = L at *
 generalize peN t l = T at *
 refine fnI fun w0 A => ?_
 refine jeL ?_
 refine zay (fun _ => 40) (hK) rfl rfl F63 rfl rfl qw rfl rfl rfl qq rfl rfl rfl ?_
 refine G [3] ?_
 refine zaH (zaK (zae id [(1, qc pt), (3, .ref 3 0), (5, .ref 5 0), (6, .ref 6 0), (9, .fn 96 []), (12, .ref 12 0)] [(3, .box 24 (cfC key port l.length L)), (5, .box 107 [qd 8, qc t, qd n, qe a, qd b]), (6, .box 24 [qc ⟨#[]⟩, qd 0, qm]), (12, .box 24 [qc key, qd port, .row 40]), (40, .row 48 5 l.length L)] qt qt rfl) ?_)
 refine je8 ?_
 refine G [6, 3, 5, 3, 31] ?_
 (first | refine zaa zbH rfl rfl ?_ | refine zaa za4 rfl rfl ?_)
 refine G [3] ?_
 skip
 refine G [8] ?_
 refine zab (zb3 (Y := qd n) (ys := [qh n]) sz3 rfl rfl rfl qp hset) rfl rfl ⟨rfl, trivial⟩ ?_
 refine G [10, 9, 0] ?_
 refine yT (fun _ => 40) ?_ ?_
 ·exact rfl
 ·exact ja3
theorem ref9_s (key : ByteArray) (port : Int) (l : List PE) (ok : CF.OK ⟨key, port, l⟩) (pt : ByteArray) (t : ByteArray) (n a b : Int) (sok : SE.OK ⟨9, t, n, a, b⟩) (hc0 : cfE ⟨key, port, l⟩ = 0) (hs0 : seE ⟨9, t, n, a, b⟩ = 0) (h0 : pt ≠ ⟨#[]⟩) (h : peN pt l < l.length) : Fn prog 65 [.agg (CF.cells ⟨key, port, l⟩), qc pt, .agg (SE.cells ⟨9, t, n, a, b⟩)] (.tup [.agg [qc key, qd port, .row 0], qc pt, qd 0]) [(0, .row 48 5 l.length ((l.set (peN pt l) { l[peN pt l] with nets := [] }).flatMap PE.pv))] := by
 have hC := zaP ⟨key, port, l⟩ ok
 rw [hc0] at hC
 have hS := zaT ⟨9, t, n, a, b⟩ sok
 rw [hs0] at hS
 have hK := za9 ⟨key, port, l⟩ ok
 have hA := zaM ⟨key, port, l⟩ ok t
 have hA2 := zaM ⟨key, port, l⟩ ok pt
 have hn := ok.len
 dsimp only at hn
 change Fn prog _ [.agg (cfC key port l.length (l.flatMap PE.pv))] _ _ at hC hK
 change Fn prog _ [.agg (cfC key port l.length (l.flatMap PE.pv)), _] (qd (peN t l : Nat)) _ at hA
 change Fn prog _ [.agg (cfC key port l.length (l.flatMap PE.pv)), _] (qd (peN pt l : Nat)) _ at hA2
 change Fn prog _ [.agg [qd 9, qc t, qd n, qe a, qd b]] _ _ at hS
 show Fn prog _ [.agg (cfC key port l.length (l.flatMap PE.pv)), _, .agg [qd 9, qc t, qd n, qe a, qd b]] _ _
 have hL0 : (l.flatMap PE.pv).length = l.length * 5 := zap (f := PE.pv) (k := 5) (fun _ => rfl) l
 have hset := zgH h 4 (.sl 0 2 []) { l[peN pt l] with nets := [] } rfl qp
 generalize (l.set (peN pt l) { l[peN pt l] with nets := [] }).flatMap PE.pv = L2 at *
 generalize peN pt l = U at *
 clear ok sok hc0 hs0
 generalize l.flatMap PE.pv = L at *
 generalize peN t l = T at *
 refine fnI fun w0 A => ?_
 refine jeL ?_
 refine zay (fun _ => 40) (hK) rfl rfl F63 rfl rfl qw rfl rfl rfl qq rfl rfl rfl ?_
 refine G [3] ?_
 refine zaH (zaK (zae id [(1, qc pt), (3, .ref 3 0), (5, .ref 5 0), (6, .ref 6 0), (9, .fn 96 []), (12, .ref 12 0)] [(3, .box 24 (cfC key port l.length L)), (5, .box 107 [qd 9, qc t, qd n, qe a, qd b]), (6, .box 24 [qc ⟨#[]⟩, qd 0, qm]), (12, .box 24 [qc key, qd port, .row 40]), (40, .row 48 5 l.length L)] qt qt rfl) ?_)
 refine je8 ?_
 refine G [6, 3, 5, 3, 37] ?_
 (first | refine zaa zbH rfl rfl ?_ | refine zaa za4 rfl rfl ?_)
 refine G [3] ?_
 skip
 refine G [6] ?_
 refine zab (zhZ (nil_sl (.ref 40 (U * 5 + 4)) 2) (zb3 (Y := ql 0 2 []) (ys := [.sl 0 2 []]) sz46 rfl rfl rfl qp hset)) rfl rfl ⟨rfl, trivial⟩ ?_
 refine G [10, 9, 0] ?_
 refine yT (fun _ => 40) ?_ ?_
 ·exact rfl
 ·exact ja3
end Go.Proofs.YtlfjpippeeikdaaGreatDoor
