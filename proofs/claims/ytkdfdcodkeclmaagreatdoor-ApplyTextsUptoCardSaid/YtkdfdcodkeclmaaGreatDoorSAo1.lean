/- apply.One, over data, given what apply.one does. -/
import Derived.Test.YtkdfdcodkeclmaaGreatDoorSAp5
import Derived.Test.YtkdfdcodkeclmaaGreatDoorSCp1
import Derived.Test.YtkdfdcodkeclmaaGreatDoorSCf4
namespace Go.Proofs.YtkdfdcodkeclmaaGreatDoor
open Tryz
open Go.RowKit Go.Sort
set_option linter.unusedVariables false
set_option linter.unusedSimpArgs false
set_option maxRecDepth 100000
theorem reo_fzBox {st : St} {bt e size n q : Nat} {a b : PV} {cs : List PV} (h0 : st.heap 0 = .live (.box bt [.p a, .p b, .row q])) (hq : st.heap q = .live (.row e size n cs)) (hne : q ≠ 0) :
  ReO st ⟨st.tmps, updL st.heap [(0, .live (.box bt [.p a, .p b, .p (.sl n size cs)])), (q, .dead)]⟩ := by
 rintro w0 A nt x w ⟨⟨S, m, hm, hj, hr⟩, hsz, hd⟩
 obtain ⟨vq, k1, k2, k3⟩ := hm.live q _ hq
 obtain ⟨v0, j1, j2, j3⟩ := hm.live 0 _ h0
 have hs : ∀ b', S b' → (fun y => S y ∨ blk vq = some y) b' := fun b' hb => .inl hb
 have g : Grow S m w (fun y => S y ∨ blk vq = some y) m w := ⟨hs, fun _ _ => rfl, fun _ _ h => h⟩
 have hold : ∀ z ob, updL st.heap [(0, .live (.box bt [.p a, .p b, .p (.sl n size cs)])), (q, .dead)] z = .live ob → z ≠ 0 → st.heap z = .live ob ∧ z ≠ q := fun z ob hz h1 => by
  simp only [updL, nbeq h1, cond_false] at hz
  by_cases e1 : z = q
  ·subst e1; simp at hz
  ·rw [nbeq e1, cond_false] at hz; exact ⟨hz, e1⟩
 have key : ∀ z obz, updL st.heap [(0, .live (.box bt [.p a, .p b, .p (.sl n size cs)])), (q, .dead)] z = .live obz → (∃ ob', st.heap z = .live ob') ∧ z ≠ q := fun z obz hz => by
  by_cases e1 : z = 0
  ·subst e1; exact ⟨⟨_, h0⟩, Ne.symm hne⟩
  ·exact ⟨⟨_, (hold z obz hz e1).1⟩, (hold z obz hz e1).2⟩
 have hnS : ∀ z ob v b', st.heap z = .live ob → z ≠ q → m z = some v → blk v = some b' → ¬ (S b' ∨ blk vq = some b') := fun z ob v b' hz hzq hv hb hS => by
  obtain ⟨v', i1, _, i3⟩ := hm.live z ob hz
  rw [hv] at i1; cases i1
  rcases hS with hS | hS
  ·exact i3 b' hb hS
  ·exact hzq (hm.inj _ _ _ _ _ _ _ hz hq hv k1 hb hS)
 refine ⟨⟨_, m, ⟨hm.bel, ?_, ?_, ?_, ?_, ?_, hm.gl⟩, A.up _ _ _ _ _ _ g hj, fun k => Rep.mono g _ _ (hr k)⟩, hsz, hd⟩
 ·rintro b' (hb | hb)
  ·exact hm.sA b' hb
  ·exact .inr (k2.lt hb).1
 ·rintro b' (hb | hb)
  ·exact hm.sW b' hb
  ·exact (k2.lt hb).2
 ·intro z hz
  by_cases e1 : z = 0
  ·subst e1; simp [updL] at hz
  ·simp only [updL, nbeq e1, cond_false] at hz
   by_cases e2 : z = q
   ·subst e2; simp at hz
   ·rw [nbeq e2, cond_false] at hz; exact hm.un z hz
 ·intro z ob hz
  by_cases e1 : z = 0
  ·subst e1
   simp only [updL, Nat.beq_refl, cond_true, Slot.live.injEq] at hz
   subst hz
   refine ⟨v0, j1, ?_, fun b' hb => hnS 0 _ v0 b' h0 (Ne.symm hne) j1 hb⟩
   obtain ⟨b0, us, rfl, i1, i2, i3, i4⟩ := j2
   refine ⟨b0, us, rfl, i1, ?_, i3, i4⟩
   simp only [RepL, Rep] at i2 ⊢
   obtain ⟨u1, _, rfl, l1, u2, _, rfl, l2, u3, _, rfl, ⟨l3, _⟩, rfl⟩ := i2
   refine ⟨u1, _, rfl, PRep.mono hs (fun _ _ => rfl) _ _ l1, u2, _, rfl, PRep.mono hs (fun _ _ => rfl) _ _ l2, u3, _, rfl, ?_, rfl⟩
   exact zeH hm hs hq (fun v b' hv hb => by rw [k1] at hv; cases hv; exact .inr hb) l3
  ·obtain ⟨h1, h2⟩ := hold z ob hz e1
   obtain ⟨v, i1, i2, i3⟩ := hm.live z ob h1
   exact ⟨v, i1, i2.mono g fun _ _ => rfl, fun b' hb => hnS z ob v b' h1 h2 i1 hb⟩
 ·intro x y ob1 ob2 v1 v2 b' h1 h2 h3 h4 h5 h6
  obtain ⟨⟨_, g1⟩, _⟩ := key _ _ h1
  obtain ⟨⟨_, g2⟩, _⟩ := key _ _ h2
  exact hm.inj _ _ _ _ _ _ _ g1 g2 h3 h4 h5 h6
theorem zex {r : Nat} : ∀ {l : List PE} {k : Nat}, ((za3 k l).map fun p => bif Nat.beq p.1 0 then r else p.1) = (List.range l.length).map fun i => k + i + 1000 := by
 intro l k
 rw [← zcu]
 refine List.map_congr_left fun q hq => ?_
 obtain ⟨i, hi, rfl⟩ := zbS.1 hq
 simp only [nbeq (show k + i + 1000 ≠ 0 by omega), cond_false]
theorem cpN_nd5 : ∀ n, n < 7 → (27 :: (List.range n).map fun i => 0 + i + 1000).Nodup := by decide
theorem cpN_nd6 : ∀ n, n < 7 → (11 :: 27 :: 5 :: 6 :: (List.range n).map fun i => 0 + i + 1000).Nodup := by decide
theorem zfG : ∀ {L : List (Nat × AObj)} {o : Nat}, o ∉ L.map Prod.fst → zaI L o = .un
 | [], _, _ => rfl
 | (n, x) :: L, o, h => by
  simp only [List.map_cons, List.mem_cons, not_or] at h
  simp only [zaI, nbeq h.1, cond_false]
  exact zfG h.2
def zC : List AV := [.p (.v (.string ⟨#[]⟩)), .p (.v (.int .i64 0)), .p (.v (.slice none 0 0))]
def oErr (e : Int) : AV := .tup [.agg zC, .p (.v (.string ⟨#[]⟩)), .p (.v (.int .i64 e))]
theorem aone_bad (c : CF) (ok : c.OK) (pt : ByteArray) (s : SE) (sok : s.OK) (h : cfE c ≠ 0) : Fn prog 7 [.agg c.cells, .p (.v (.string pt)), .agg s.cells] (oErr (cfE c)) [] := by
 have hC := zbV c ok
 generalize cfE c = e at *
 obtain ⟨key, port, l⟩ := c
 obtain ⟨k, t, n, a, b⟩ := s
 show Fn prog _ [.agg (cfC key port l.length (l.flatMap PE.pv)), _, .agg [.p (.v (.int .i64 k)), .p (.v (.string t)), .p (.v (.int .i64 n)), .p (.v (.int .u32 a)), .p (.v (.int .i64 b))]] (.tup [.agg [.p (.v (.string ⟨#[]⟩)), .p (.v (.int .i64 0)), .p (.v (.slice none 0 0))], .p (.v (.string ⟨#[]⟩)), .p (.v (.int .i64 e))]) _
 change Fn prog _ [.agg (cfC key port l.length (l.flatMap PE.pv))] _ _ at hC
 clear ok sok
 generalize l.flatMap PE.pv = L at *
 refine fnI fun w0 A => ?_
 refine G [12] ?_
 refine cK hC ?_
 refine G [5] ?_
 refine zaa (zao (c := true) (by simpa using h)) rfl rfl ?_
 refine G [11, 9, 0] ?_
 exact yE
theorem aone_bad2 (c : CF) (ok : c.OK) (pt : ByteArray) (s : SE) (sok : s.OK) (h : cfE c = 0) (h2 : seE s ≠ 0) : Fn prog 7 [.agg c.cells, .p (.v (.string pt)), .agg s.cells] (oErr (seE s)) [] := by
 have hC := zbV c ok
 rw [h] at hC
 have hS := zdY s sok
 generalize seE s = e at *
 obtain ⟨key, port, l⟩ := c
 obtain ⟨k, t, n, a, b⟩ := s
 show Fn prog _ [.agg (cfC key port l.length (l.flatMap PE.pv)), _, .agg [.p (.v (.int .i64 k)), .p (.v (.string t)), .p (.v (.int .i64 n)), .p (.v (.int .u32 a)), .p (.v (.int .i64 b))]] (.tup [.agg [.p (.v (.string ⟨#[]⟩)), .p (.v (.int .i64 0)), .p (.v (.slice none 0 0))], .p (.v (.string ⟨#[]⟩)), .p (.v (.int .i64 e))]) _
 change Fn prog _ [.agg (cfC key port l.length (l.flatMap PE.pv))] _ _ at hC
 change Fn prog _ [.agg [.p (.v (.int .i64 k)), .p (.v (.string t)), .p (.v (.int .i64 n)), .p (.v (.int .u32 a)), .p (.v (.int .i64 b))]] _ _ at hS
 clear ok sok h
 generalize l.flatMap PE.pv = L at *
 refine fnI fun w0 A => ?_
 refine G [12] ?_
 refine cK hC ?_
 refine G [5, 1, 7] ?_
 refine cK hS ?_
 refine G [5] ?_
 refine zaa (zao (c := true) (by simpa using h2)) rfl rfl ?_
 refine G [11, 9, 0] ?_
 exact yE
set_option maxHeartbeats 8000000 in
theorem zcg (c : CF) (ok : c.OK) (pt : ByteArray) (s : SE) (sok : s.OK) (hc0 : cfE c = 0) (hs0 : seE s = 0) (uns : List (Nat × Slot)) (hun : ∀ p ∈ uns, p.2 = .un ∧ 1 < p.1 ∧ p.1 < 100) (wrs : List (Nat × Slot)) (nx : ByteArray) (e : Int) (hw : 39 ∉ wrs.map Prod.fst ∧ 106 ∉ wrs.map Prod.fst) (hO : FnO prog 22 [.ref 0 0, .p (.v (.string pt)), .agg s.cells] ((0, D0 c.key c.port) :: (1, .live (.row 60 5 c.ps.length (c.ps.flatMap PE.pv))) :: uns) wrs (.tup [.p (.v (.string nx)), .p (.v (.int .i64 e))])) (he : e ≠ 0) : Fn prog 7 [.agg c.cells, .p (.v (.string pt)), .agg s.cells] (oErr e) [] := by
 have hC := zbV c ok
 rw [hc0] at hC
 have hS := zdY s sok
 rw [hs0] at hS
 have hK := zdc c ok
 obtain ⟨key, port, l⟩ := c
 obtain ⟨k, t, n, a, b⟩ := s
 dsimp only at hK hO
 change Fn prog _ [.agg (cfC key port l.length (l.flatMap PE.pv))] _ _ at hC hK
 change Fn prog _ [.agg [.p (.v (.int .i64 k)), .p (.v (.string t)), .p (.v (.int .i64 n)), .p (.v (.int .u32 a)), .p (.v (.int .i64 b))]] _ _ at hS
 change FnO prog _ [.ref 0 0, .p (.v (.string pt)), .agg [.p (.v (.int .i64 k)), .p (.v (.string t)), .p (.v (.int .i64 n)), .p (.v (.int .u32 a)), .p (.v (.int .i64 b))]] _ _ _ at hO
 show Fn prog _ [.agg (cfC key port l.length (l.flatMap PE.pv)), _, .agg [.p (.v (.int .i64 k)), .p (.v (.string t)), .p (.v (.int .i64 n)), .p (.v (.int .u32 a)), .p (.v (.int .i64 b))]] (.tup [.agg [.p (.v (.string ⟨#[]⟩)), .p (.v (.int .i64 0)), .p (.v (.slice none 0 0))], .p (.v (.string ⟨#[]⟩)), .p (.v (.int .i64 e))]) _
 clear ok sok hc0 hs0
 generalize l.flatMap PE.pv = L at *
 refine zda func7 rfl (Nat.le_of_ble_eq_true rfl) fun w0 A => ?_
 refine zag ?_
 refine tx ?_
 refine zac (zeB (X := .agg _) 3 rfl) rfl rfl ⟨rfl, trivial⟩ ?_
 refine zac (zeB (X := .agg _) 5 rfl) rfl rfl ⟨rfl, trivial⟩ ?_
 refine zac (zaV 6 zr24 rfl) rfl rfl ⟨rfl, trivial⟩ ?_
 refine aP rfl rfl ?_
 refine aP rfl rfl ?_
 refine zaf ?_
 refine zag (zag ?_)
 refine tx ?_
 refine lN U24 rfl sz24 rfl rfl ⟨rfl, trivial⟩ ?_
 refine zaw (fun n => 15 + 1000 * n) (hC) rfl rfl func19 rfl rfl (by first | rfl | simp [AV.okInL, AV.okIn, zaj]) rfl rfl rfl (by first | exact trivial | exact ⟨rfl, trivial⟩ | exact ⟨rfl, rfl, trivial⟩ | exact ⟨rfl, rfl, rfl, rfl, rfl, trivial⟩) rfl rfl rfl ?_
 refine aP rfl rfl ?_
 refine zaf ?_
 refine zag ?_
 refine tx ?_
 refine mP rfl rfl ?_
 refine zaa zcF rfl rfl ?_
 refine zaf ?_
 refine zaH ?_
 refine zbA rfl ?_
 refine zaC (zag (zag ?_))
 refine tx ?_
 refine lN U29 rfl sz29 rfl rfl ⟨rfl, trivial⟩ ?_
 refine zaw (fun n => 21 + 1000 * n) (hS) rfl rfl func20 rfl rfl (by first | rfl | simp [AV.okInL, AV.okIn, zaj]) rfl rfl rfl (by first | exact trivial | exact ⟨rfl, trivial⟩ | exact ⟨rfl, rfl, trivial⟩ | exact ⟨rfl, rfl, rfl, rfl, rfl, trivial⟩) rfl rfl rfl ?_
 refine aP rfl rfl ?_
 refine zaf ?_
 refine zag ?_
 refine tx ?_
 refine mP rfl rfl ?_
 refine zaa zcF rfl rfl ?_
 refine zaf ?_
 refine zaH ?_
 refine zbA rfl ?_
 refine zaC (zag ?_)
 refine tx ?_
 refine lN U24 rfl sz24 rfl rfl ⟨rfl, trivial⟩ ?_
 refine zaw (fun _ => 27) (hK) rfl rfl F21 rfl rfl (by first | rfl | simp [AV.okInL, AV.okIn, zaj]) rfl rfl rfl (by first | exact trivial | exact ⟨rfl, trivial⟩ | exact ⟨rfl, rfl, trivial⟩ | exact ⟨rfl, rfl, rfl, rfl, rfl, trivial⟩) rfl rfl rfl ?_
 refine zac (zaV 11 zr24 rfl) rfl rfl ⟨rfl, trivial⟩ ?_
 refine zac (zap (Y := .agg _) sz24 rfl (by first | exact Nat.eq_of_beq_eq_true rfl | (simp only [AV.cells, List.length_map]; first | assumption | omega)) (Nat.eq_of_beq_eq_true rfl)) rfl rfl ⟨rfl, trivial⟩ ?_
 refine zaf ?_
 refine zaH (zaM (zak (fun o => bif Nat.beq o 0 then 11 else bif Nat.beq o 1 then 27 else bif Nat.beq o 105 then 5 else bif Nat.beq o 106 then 6 else o) [(1, .p (.v (.string pt))), (5, .ref 105 0), (6, .ref 106 0), (11, .ref 0 0)] [(0, .box 24 [.p (.v (.string key)), .p (.v (.int .i64 port)), .row 1]), (1, .row 60 5 l.length L), (105, .box 29 [.p (.v (.int .i64 k)), .p (.v (.string t)), .p (.v (.int .i64 n)), .p (.v (.int .u32 a)), .p (.v (.int .i64 b))]), (106, .box 24 [.p (.v (.string ⟨#[]⟩)), .p (.v (.int .i64 0)), .p (.v (.slice none 0 0))])] (by repeat (first | exact trivial | refine ⟨⟨rfl, rfl⟩, ?_⟩)) (by repeat (first | exact trivial | refine ⟨⟨rfl, rfl⟩, ?_⟩)) rfl) ?_)
 obtain ⟨H, hH⟩ : ∃ H, zaI [(0, .box 24 [.p (.v (.string key)), .p (.v (.int .i64 port)), .row 1]), (1, .row 60 5 l.length L), (105, .box 29 [.p (.v (.int .i64 k)), .p (.v (.string t)), .p (.v (.int .i64 n)), .p (.v (.int .u32 a)), .p (.v (.int .i64 b))]), (106, .box 24 [.p (.v (.string ⟨#[]⟩)), .p (.v (.int .i64 0)), .p (.v (.slice none 0 0))])] = H := ⟨_, rfl⟩
 have hun2 : ∀ o, 1 < o → o < 100 → H o = .un := fun o h1 h2 => by
  rw [← hH]
  simp only [zaI, nbeq (show o ≠ 0 by omega), nbeq (show o ≠ 1 by omega), nbeq (show o ≠ 105 by omega), nbeq (show o ≠ 106 by omega), cond_false]
 have hR : ∀ p ∈ (0, D0 key port) :: (1, Slot.live (.row 60 5 l.length L)) :: uns, H p.1 = p.2 := fun p hp => by
  rcases List.mem_cons.1 hp with rfl | hp
  ·rw [← hH]; rfl
  rcases List.mem_cons.1 hp with rfl | hp
  ·rw [← hH]; rfl
  ·obtain ⟨h1, h2, h3⟩ := hun p hp
   rw [h1]; exact hun2 _ h2 h3
 have h105 : H 105 = .live (.box 29 [.p (.v (.int .i64 k)), .p (.v (.string t)), .p (.v (.int .i64 n)), .p (.v (.int .u32 a)), .p (.v (.int .i64 b))]) := by rw [← hH]; rfl
 have h106 : H 106 = .live (.box 24 [.p (.v (.string ⟨#[]⟩)), .p (.v (.int .i64 0)), .p (.v (.slice none 0 0))]) := by rw [← hH]; rfl
 show awp _ _ _ ⟨zcd [(1, .p (.v (.string pt))), (5, .ref 105 0), (6, .ref 106 0), (11, .ref 0 0)], zaI _⟩
 rw [hH]
 refine zag ?_
 refine tx ?_
 refine mP rfl rfl ?_
 refine zac (zbJ (es := [.p (.v (.int .i64 k)), .p (.v (.string t)), .p (.v (.int .i64 n)), .p (.v (.int .u32 a)), .p (.v (.int .i64 b))]) U29 rfl sz29 (Nat.le_of_ble_eq_true rfl) rfl) rfl rfl ⟨h105, trivial⟩ ?_
 refine zaB hO rfl rfl func22 rfl rfl (zcp hR) rfl ?_
 refine zaa (zaJ (r := .tup _)) rfl rfl ?_
 refine zaa (zaU rfl) rfl rfl ?_
 refine zaa (zaU rfl) rfl rfl ?_
 refine aP rfl rfl ?_
 refine aP rfl rfl ?_
 refine zaf ?_
 obtain ⟨G, hG⟩ : ∃ G, updL H wrs = G := ⟨_, rfl⟩
 have g106 : G 106 = .live (.box 24 [.p (.v (.string ⟨#[]⟩)), .p (.v (.int .i64 0)), .p (.v (.slice none 0 0))]) := by rw [← hG, zar hw.2]; exact h106
 have g39 : G 39 = .un := by rw [← hG, zar hw.1]; exact hun2 39 (by decide) (by decide)
 refine zba (zcS [(6, .ref 106 0), (11, .ref 0 0), (12, .p (.v (.string nx))), (13, .p (.v (.int .i64 e)))] G (by repeat (first | exact trivial | refine ⟨rfl, ?_⟩)) (fun o => .inl (by rw [← hG]; rfl))) ?_
 refine zag (zag ?_)
 refine tx ?_
 refine mP rfl rfl ?_
 refine zaa (zao (c := true) (by simpa using he)) rfl rfl ?_
 refine zaf ?_
 refine zaH ?_
 refine awp_cT rfl ?_
 refine zag ?_
 refine tx ?_
 refine zaa (zgW pl24 zr24 rfl rfl) rfl rfl ?_
 refine mP rfl rfl ?_
 refine zac (zap (Y := .agg [.p (.v (.string ⟨#[]⟩)), .p (.v (.int .i64 0)), .p (.v (.slice none 0 0))]) sz24 rfl rfl (Nat.eq_of_beq_eq_true rfl)) rfl rfl ⟨g106, trivial⟩ ?_
 refine aP rfl rfl ?_
 refine aP rfl rfl ?_
 refine zaf ?_
 refine za2 (zcZ ?_)
 refine fT (fun o => o) (.cellN _ _ _ _ _ _ _ _ _ rfl rfl U24 rfl sz24 (by first | assumption | kernel_rfl) (.tmp _ _ _ _ rfl (.tmp _ _ _ _ rfl .nil))) ?_ ?_
 ·exact rfl
 ·exact trivial
set_option maxHeartbeats 8000000 in
theorem zce (c : CF) (ok : c.OK) (pt : ByteArray) (s : SE) (sok : s.OK) (hc0 : cfE c = 0) (hs0 : seE s = 0) (uns : List (Nat × Slot)) (hun : ∀ p ∈ uns, p.2 = .un ∧ 1 < p.1 ∧ p.1 < 100) (wrs : List (Nat × Slot)) (nx : ByteArray) (e : Int) (hw : 39 ∉ wrs.map Prod.fst ∧ 106 ∉ wrs.map Prod.fst) (hO : FnO prog 22 [.ref 0 0, .p (.v (.string pt)), .agg s.cells] ((0, D0 c.key c.port) :: (1, .live (.row 60 5 c.ps.length (c.ps.flatMap PE.pv))) :: uns) wrs (.tup [.p (.v (.string nx)), .p (.v (.int .i64 e))])) (he : e = 0) (c2 : CF) (ok2 : c2.OK) (q : Nat) (hq : q ≠ 0 ∧ q ≠ 39 ∧ q ≠ 106) (hg0 : ∀ h, updL h wrs 0 = .live (.box 24 [.p (.v (.string c2.key)), .p (.v (.int .i64 c2.port)), .row q])) (hgq : ∀ h, updL h wrs q = .live (.row 60 5 c2.ps.length (c2.ps.flatMap PE.pv))) : Fn prog 7 [.agg c.cells, .p (.v (.string pt)), .agg s.cells] (.tup [.agg [.p (.v (.string c2.key)), .p (.v (.int .i64 c2.port)), .row 0], .p (.v (.string nx)), .p (.v (.int .i64 0))]) [(0, .row 60 5 c2.ps.length (c2.ps.flatMap PE.pv))] := by
 have hC := zbV c ok
 rw [hc0] at hC
 have hS := zdY s sok
 rw [hs0] at hS
 have hK := zdc c ok
 subst he
 have hK2 := zdc c2 ok2
 obtain ⟨key, port, l⟩ := c
 obtain ⟨k, t, n, a, b⟩ := s
 dsimp only at hK hO
 obtain ⟨key2, port2, l2⟩ := c2
 dsimp only at hK2 hg0 hgq ⊢
 change Fn prog _ [.agg (cfC key2 port2 l2.length (l2.flatMap PE.pv))] _ _ at hK2
 change Fn prog _ [.agg (cfC key port l.length (l.flatMap PE.pv))] _ _ at hC hK
 change Fn prog _ [.agg [.p (.v (.int .i64 k)), .p (.v (.string t)), .p (.v (.int .i64 n)), .p (.v (.int .u32 a)), .p (.v (.int .i64 b))]] _ _ at hS
 change FnO prog _ [.ref 0 0, .p (.v (.string pt)), .agg [.p (.v (.int .i64 k)), .p (.v (.string t)), .p (.v (.int .i64 n)), .p (.v (.int .u32 a)), .p (.v (.int .i64 b))]] _ _ _ at hO
 show Fn prog _ [.agg (cfC key port l.length (l.flatMap PE.pv)), _, .agg [.p (.v (.int .i64 k)), .p (.v (.string t)), .p (.v (.int .i64 n)), .p (.v (.int .u32 a)), .p (.v (.int .i64 b))]] _ _
 clear ok sok hc0 hs0 ok2
 generalize l.flatMap PE.pv = L at *
 refine zda func7 rfl (Nat.le_of_ble_eq_true rfl) fun w0 A => ?_
 refine zag ?_
 refine tx ?_
 refine zac (zeB (X := .agg _) 3 rfl) rfl rfl ⟨rfl, trivial⟩ ?_
 refine zac (zeB (X := .agg _) 5 rfl) rfl rfl ⟨rfl, trivial⟩ ?_
 refine zac (zaV 6 zr24 rfl) rfl rfl ⟨rfl, trivial⟩ ?_
 refine aP rfl rfl ?_
 refine aP rfl rfl ?_
 refine zaf ?_
 refine zag (zag ?_)
 refine tx ?_
 refine lN U24 rfl sz24 rfl rfl ⟨rfl, trivial⟩ ?_
 refine zaw (fun n => 15 + 1000 * n) (hC) rfl rfl func19 rfl rfl (by first | rfl | simp [AV.okInL, AV.okIn, zaj]) rfl rfl rfl (by first | exact trivial | exact ⟨rfl, trivial⟩ | exact ⟨rfl, rfl, trivial⟩ | exact ⟨rfl, rfl, rfl, rfl, rfl, trivial⟩) rfl rfl rfl ?_
 refine aP rfl rfl ?_
 refine zaf ?_
 refine zag ?_
 refine tx ?_
 refine mP rfl rfl ?_
 refine zaa zcF rfl rfl ?_
 refine zaf ?_
 refine zaH ?_
 refine zbA rfl ?_
 refine zaC (zag (zag ?_))
 refine tx ?_
 refine lN U29 rfl sz29 rfl rfl ⟨rfl, trivial⟩ ?_
 refine zaw (fun n => 21 + 1000 * n) (hS) rfl rfl func20 rfl rfl (by first | rfl | simp [AV.okInL, AV.okIn, zaj]) rfl rfl rfl (by first | exact trivial | exact ⟨rfl, trivial⟩ | exact ⟨rfl, rfl, trivial⟩ | exact ⟨rfl, rfl, rfl, rfl, rfl, trivial⟩) rfl rfl rfl ?_
 refine aP rfl rfl ?_
 refine zaf ?_
 refine zag ?_
 refine tx ?_
 refine mP rfl rfl ?_
 refine zaa zcF rfl rfl ?_
 refine zaf ?_
 refine zaH ?_
 refine zbA rfl ?_
 refine zaC (zag ?_)
 refine tx ?_
 refine lN U24 rfl sz24 rfl rfl ⟨rfl, trivial⟩ ?_
 refine zaw (fun _ => 27) (hK) rfl rfl F21 rfl rfl (by first | rfl | simp [AV.okInL, AV.okIn, zaj]) rfl rfl rfl (by first | exact trivial | exact ⟨rfl, trivial⟩ | exact ⟨rfl, rfl, trivial⟩ | exact ⟨rfl, rfl, rfl, rfl, rfl, trivial⟩) rfl rfl rfl ?_
 refine zac (zaV 11 zr24 rfl) rfl rfl ⟨rfl, trivial⟩ ?_
 refine zac (zap (Y := .agg _) sz24 rfl (by first | exact Nat.eq_of_beq_eq_true rfl | (simp only [AV.cells, List.length_map]; first | assumption | omega)) (Nat.eq_of_beq_eq_true rfl)) rfl rfl ⟨rfl, trivial⟩ ?_
 refine zaf ?_
 refine zaH (zaM (zak (fun o => bif Nat.beq o 0 then 11 else bif Nat.beq o 1 then 27 else bif Nat.beq o 105 then 5 else bif Nat.beq o 106 then 6 else o) [(1, .p (.v (.string pt))), (5, .ref 105 0), (6, .ref 106 0), (11, .ref 0 0)] [(0, .box 24 [.p (.v (.string key)), .p (.v (.int .i64 port)), .row 1]), (1, .row 60 5 l.length L), (105, .box 29 [.p (.v (.int .i64 k)), .p (.v (.string t)), .p (.v (.int .i64 n)), .p (.v (.int .u32 a)), .p (.v (.int .i64 b))]), (106, .box 24 [.p (.v (.string ⟨#[]⟩)), .p (.v (.int .i64 0)), .p (.v (.slice none 0 0))])] (by repeat (first | exact trivial | refine ⟨⟨rfl, rfl⟩, ?_⟩)) (by repeat (first | exact trivial | refine ⟨⟨rfl, rfl⟩, ?_⟩)) rfl) ?_)
 obtain ⟨H, hH⟩ : ∃ H, zaI [(0, .box 24 [.p (.v (.string key)), .p (.v (.int .i64 port)), .row 1]), (1, .row 60 5 l.length L), (105, .box 29 [.p (.v (.int .i64 k)), .p (.v (.string t)), .p (.v (.int .i64 n)), .p (.v (.int .u32 a)), .p (.v (.int .i64 b))]), (106, .box 24 [.p (.v (.string ⟨#[]⟩)), .p (.v (.int .i64 0)), .p (.v (.slice none 0 0))])] = H := ⟨_, rfl⟩
 have hun2 : ∀ o, 1 < o → o < 100 → H o = .un := fun o h1 h2 => by
  rw [← hH]
  simp only [zaI, nbeq (show o ≠ 0 by omega), nbeq (show o ≠ 1 by omega), nbeq (show o ≠ 105 by omega), nbeq (show o ≠ 106 by omega), cond_false]
 have hR : ∀ p ∈ (0, D0 key port) :: (1, Slot.live (.row 60 5 l.length L)) :: uns, H p.1 = p.2 := fun p hp => by
  rcases List.mem_cons.1 hp with rfl | hp
  ·rw [← hH]; rfl
  rcases List.mem_cons.1 hp with rfl | hp
  ·rw [← hH]; rfl
  ·obtain ⟨h1, h2, h3⟩ := hun p hp
   rw [h1]; exact hun2 _ h2 h3
 have h105 : H 105 = .live (.box 29 [.p (.v (.int .i64 k)), .p (.v (.string t)), .p (.v (.int .i64 n)), .p (.v (.int .u32 a)), .p (.v (.int .i64 b))]) := by rw [← hH]; rfl
 have h106 : H 106 = .live (.box 24 [.p (.v (.string ⟨#[]⟩)), .p (.v (.int .i64 0)), .p (.v (.slice none 0 0))]) := by rw [← hH]; rfl
 show awp _ _ _ ⟨zcd [(1, .p (.v (.string pt))), (5, .ref 105 0), (6, .ref 106 0), (11, .ref 0 0)], zaI _⟩
 rw [hH]
 refine zag ?_
 refine tx ?_
 refine mP rfl rfl ?_
 refine zac (zbJ (es := [.p (.v (.int .i64 k)), .p (.v (.string t)), .p (.v (.int .i64 n)), .p (.v (.int .u32 a)), .p (.v (.int .i64 b))]) U29 rfl sz29 (Nat.le_of_ble_eq_true rfl) rfl) rfl rfl ⟨h105, trivial⟩ ?_
 refine zaB hO rfl rfl func22 rfl rfl (zcp hR) rfl ?_
 refine zaa (zaJ (r := .tup _)) rfl rfl ?_
 refine zaa (zaU rfl) rfl rfl ?_
 refine zaa (zaU rfl) rfl rfl ?_
 refine aP rfl rfl ?_
 refine aP rfl rfl ?_
 refine zaf ?_
 obtain ⟨G, hG⟩ : ∃ G, updL H wrs = G := ⟨_, rfl⟩
 have g106 : G 106 = .live (.box 24 [.p (.v (.string ⟨#[]⟩)), .p (.v (.int .i64 0)), .p (.v (.slice none 0 0))]) := by rw [← hG, zar hw.2]; exact h106
 have g39 : G 39 = .un := by rw [← hG, zar hw.1]; exact hun2 39 (by decide) (by decide)
 refine zba (zcS [(6, .ref 106 0), (11, .ref 0 0), (12, .p (.v (.string nx))), (13, .p (.v (.int .i64 0)))] G (by repeat (first | exact trivial | refine ⟨rfl, ?_⟩)) (fun o => .inl (by rw [← hG]; rfl))) ?_
 have g0 : G 0 = .live (.box 24 [.p (.v (.string key2)), .p (.v (.int .i64 port2)), .row q]) := by rw [← hG]; exact hg0 _
 have gq : G q = .live (.row 60 5 l2.length (l2.flatMap PE.pv)) := by rw [← hG]; exact hgq _
 refine zbr (reo_fzBox g0 gq hq.1) ?_
 obtain ⟨G2, hG2⟩ : ∃ G2, updL G [(0, .live (.box 24 (cfC key2 port2 l2.length (l2.flatMap PE.pv)))), (q, .dead)] = G2 := ⟨_, rfl⟩
 have ne : ∀ o, o ≠ 0 → o ≠ q → G2 o = G o := fun o a1 a2 => by rw [← hG2]; simp only [updL, nbeq a1, nbeq a2, cond_false]
 have k0 : G2 0 = .live (.box 24 (cfC key2 port2 l2.length (l2.flatMap PE.pv))) := by rw [← hG2]; rfl
 have k39 := (ne 39 (by decide) (Ne.symm hq.2.1)).trans g39
 have k106 := (ne 106 (by decide) (Ne.symm hq.2.2)).trans g106
 show awp _ _ _ ⟨_, updL G [(0, .live (.box 24 (cfC key2 port2 l2.length (l2.flatMap PE.pv)))), (q, .dead)]⟩
 rw [hG2]
 refine zag (zag ?_)
 refine tx ?_
 refine mP rfl rfl ?_
 refine zaa zcF rfl rfl ?_
 refine zaf ?_
 refine zaH ?_
 refine zbA rfl ?_
 refine zaC (zag ?_)
 refine tx ?_
 refine zac (zbJ (es := cfC key2 port2 l2.length (l2.flatMap PE.pv)) U24 rfl sz24 (Nat.le_of_ble_eq_true rfl) rfl) rfl rfl ⟨k0, trivial⟩ ?_
 refine zaw (fun _ => 39) hK2 rfl rfl F21 rfl rfl (by first | rfl | simp [AV.okInL, AV.okIn, zaj]) rfl rfl rfl ⟨k39, trivial⟩ rfl rfl rfl ?_
 refine mP rfl rfl ?_
 refine zac (zap (Y := .agg [.p (.v (.string key2)), .p (.v (.int .i64 port2)), .row 39]) sz24 rfl rfl (Nat.eq_of_beq_eq_true rfl)) rfl rfl ⟨k106, trivial⟩ ?_
 refine aP rfl rfl ?_
 refine aP rfl rfl ?_
 refine zaf ?_
 refine za2 ?_
 refine fT (fun _ => 39) (.cellN _ _ _ _ _ _ _ _ _ rfl rfl U24 rfl sz24 (by first | assumption | kernel_rfl) (.tmp _ _ _ _ rfl (.tmp _ _ _ _ rfl .nil))) ?_ ?_
 ·exact rfl
 ·exact ⟨⟨rfl, rfl⟩, trivial⟩
set_option maxHeartbeats 8000000 in
theorem aone_nil (c : CF) (ok : c.OK) (pt : ByteArray) (s : SE) (sok : s.OK) (hc0 : cfE c = 0) (hs0 : seE s = 0) (uns : List (Nat × Slot)) (hun : ∀ p ∈ uns, p.2 = .un ∧ 1 < p.1 ∧ p.1 < 100) (wrs : List (Nat × Slot)) (nx : ByteArray) (e : Int) (hw : 39 ∉ wrs.map Prod.fst ∧ 106 ∉ wrs.map Prod.fst) (hO : FnO prog 22 [.ref 0 0, .p (.v (.string pt)), .agg s.cells] ((0, D0 c.key c.port) :: (1, .live (.row 60 5 c.ps.length (c.ps.flatMap PE.pv))) :: uns) wrs (.tup [.p (.v (.string nx)), .p (.v (.int .i64 e))])) (he : e = 0) (c2 : CF) (ok2 : c2.OK) (hg0 : ∀ h, updL h wrs 0 = .live (.box 24 c2.cells)) : Fn prog 7 [.agg c.cells, .p (.v (.string pt)), .agg s.cells] (.tup [.agg [.p (.v (.string c2.key)), .p (.v (.int .i64 c2.port)), .row 0], .p (.v (.string nx)), .p (.v (.int .i64 0))]) [(0, .row 60 5 c2.ps.length (c2.ps.flatMap PE.pv))] := by
 have hC := zbV c ok
 rw [hc0] at hC
 have hS := zdY s sok
 rw [hs0] at hS
 have hK := zdc c ok
 subst he
 have hK2 := zdc c2 ok2
 obtain ⟨key, port, l⟩ := c
 obtain ⟨k, t, n, a, b⟩ := s
 dsimp only at hK hO
 obtain ⟨key2, port2, l2⟩ := c2
 dsimp only at hK2 hg0 ⊢
 change Fn prog _ [.agg (cfC key2 port2 l2.length (l2.flatMap PE.pv))] _ _ at hK2
 change ∀ h, updL h wrs 0 = .live (.box 24 (cfC key2 port2 l2.length (l2.flatMap PE.pv))) at hg0
 change Fn prog _ [.agg (cfC key port l.length (l.flatMap PE.pv))] _ _ at hC hK
 change Fn prog _ [.agg [.p (.v (.int .i64 k)), .p (.v (.string t)), .p (.v (.int .i64 n)), .p (.v (.int .u32 a)), .p (.v (.int .i64 b))]] _ _ at hS
 change FnO prog _ [.ref 0 0, .p (.v (.string pt)), .agg [.p (.v (.int .i64 k)), .p (.v (.string t)), .p (.v (.int .i64 n)), .p (.v (.int .u32 a)), .p (.v (.int .i64 b))]] _ _ _ at hO
 show Fn prog _ [.agg (cfC key port l.length (l.flatMap PE.pv)), _, .agg [.p (.v (.int .i64 k)), .p (.v (.string t)), .p (.v (.int .i64 n)), .p (.v (.int .u32 a)), .p (.v (.int .i64 b))]] _ _
 clear ok sok hc0 hs0 ok2
 generalize l.flatMap PE.pv = L at *
 refine zda func7 rfl (Nat.le_of_ble_eq_true rfl) fun w0 A => ?_
 refine zag ?_
 refine tx ?_
 refine zac (zeB (X := .agg _) 3 rfl) rfl rfl ⟨rfl, trivial⟩ ?_
 refine zac (zeB (X := .agg _) 5 rfl) rfl rfl ⟨rfl, trivial⟩ ?_
 refine zac (zaV 6 zr24 rfl) rfl rfl ⟨rfl, trivial⟩ ?_
 refine aP rfl rfl ?_
 refine aP rfl rfl ?_
 refine zaf ?_
 refine zag (zag ?_)
 refine tx ?_
 refine lN U24 rfl sz24 rfl rfl ⟨rfl, trivial⟩ ?_
 refine zaw (fun n => 15 + 1000 * n) (hC) rfl rfl func19 rfl rfl (by first | rfl | simp [AV.okInL, AV.okIn, zaj]) rfl rfl rfl (by first | exact trivial | exact ⟨rfl, trivial⟩ | exact ⟨rfl, rfl, trivial⟩ | exact ⟨rfl, rfl, rfl, rfl, rfl, trivial⟩) rfl rfl rfl ?_
 refine aP rfl rfl ?_
 refine zaf ?_
 refine zag ?_
 refine tx ?_
 refine mP rfl rfl ?_
 refine zaa zcF rfl rfl ?_
 refine zaf ?_
 refine zaH ?_
 refine zbA rfl ?_
 refine zaC (zag (zag ?_))
 refine tx ?_
 refine lN U29 rfl sz29 rfl rfl ⟨rfl, trivial⟩ ?_
 refine zaw (fun n => 21 + 1000 * n) (hS) rfl rfl func20 rfl rfl (by first | rfl | simp [AV.okInL, AV.okIn, zaj]) rfl rfl rfl (by first | exact trivial | exact ⟨rfl, trivial⟩ | exact ⟨rfl, rfl, trivial⟩ | exact ⟨rfl, rfl, rfl, rfl, rfl, trivial⟩) rfl rfl rfl ?_
 refine aP rfl rfl ?_
 refine zaf ?_
 refine zag ?_
 refine tx ?_
 refine mP rfl rfl ?_
 refine zaa zcF rfl rfl ?_
 refine zaf ?_
 refine zaH ?_
 refine zbA rfl ?_
 refine zaC (zag ?_)
 refine tx ?_
 refine lN U24 rfl sz24 rfl rfl ⟨rfl, trivial⟩ ?_
 refine zaw (fun _ => 27) (hK) rfl rfl F21 rfl rfl (by first | rfl | simp [AV.okInL, AV.okIn, zaj]) rfl rfl rfl (by first | exact trivial | exact ⟨rfl, trivial⟩ | exact ⟨rfl, rfl, trivial⟩ | exact ⟨rfl, rfl, rfl, rfl, rfl, trivial⟩) rfl rfl rfl ?_
 refine zac (zaV 11 zr24 rfl) rfl rfl ⟨rfl, trivial⟩ ?_
 refine zac (zap (Y := .agg _) sz24 rfl (by first | exact Nat.eq_of_beq_eq_true rfl | (simp only [AV.cells, List.length_map]; first | assumption | omega)) (Nat.eq_of_beq_eq_true rfl)) rfl rfl ⟨rfl, trivial⟩ ?_
 refine zaf ?_
 refine zaH (zaM (zak (fun o => bif Nat.beq o 0 then 11 else bif Nat.beq o 1 then 27 else bif Nat.beq o 105 then 5 else bif Nat.beq o 106 then 6 else o) [(1, .p (.v (.string pt))), (5, .ref 105 0), (6, .ref 106 0), (11, .ref 0 0)] [(0, .box 24 [.p (.v (.string key)), .p (.v (.int .i64 port)), .row 1]), (1, .row 60 5 l.length L), (105, .box 29 [.p (.v (.int .i64 k)), .p (.v (.string t)), .p (.v (.int .i64 n)), .p (.v (.int .u32 a)), .p (.v (.int .i64 b))]), (106, .box 24 [.p (.v (.string ⟨#[]⟩)), .p (.v (.int .i64 0)), .p (.v (.slice none 0 0))])] (by repeat (first | exact trivial | refine ⟨⟨rfl, rfl⟩, ?_⟩)) (by repeat (first | exact trivial | refine ⟨⟨rfl, rfl⟩, ?_⟩)) rfl) ?_)
 obtain ⟨H, hH⟩ : ∃ H, zaI [(0, .box 24 [.p (.v (.string key)), .p (.v (.int .i64 port)), .row 1]), (1, .row 60 5 l.length L), (105, .box 29 [.p (.v (.int .i64 k)), .p (.v (.string t)), .p (.v (.int .i64 n)), .p (.v (.int .u32 a)), .p (.v (.int .i64 b))]), (106, .box 24 [.p (.v (.string ⟨#[]⟩)), .p (.v (.int .i64 0)), .p (.v (.slice none 0 0))])] = H := ⟨_, rfl⟩
 have hun2 : ∀ o, 1 < o → o < 100 → H o = .un := fun o h1 h2 => by
  rw [← hH]
  simp only [zaI, nbeq (show o ≠ 0 by omega), nbeq (show o ≠ 1 by omega), nbeq (show o ≠ 105 by omega), nbeq (show o ≠ 106 by omega), cond_false]
 have hR : ∀ p ∈ (0, D0 key port) :: (1, Slot.live (.row 60 5 l.length L)) :: uns, H p.1 = p.2 := fun p hp => by
  rcases List.mem_cons.1 hp with rfl | hp
  ·rw [← hH]; rfl
  rcases List.mem_cons.1 hp with rfl | hp
  ·rw [← hH]; rfl
  ·obtain ⟨h1, h2, h3⟩ := hun p hp
   rw [h1]; exact hun2 _ h2 h3
 have h105 : H 105 = .live (.box 29 [.p (.v (.int .i64 k)), .p (.v (.string t)), .p (.v (.int .i64 n)), .p (.v (.int .u32 a)), .p (.v (.int .i64 b))]) := by rw [← hH]; rfl
 have h106 : H 106 = .live (.box 24 [.p (.v (.string ⟨#[]⟩)), .p (.v (.int .i64 0)), .p (.v (.slice none 0 0))]) := by rw [← hH]; rfl
 show awp _ _ _ ⟨zcd [(1, .p (.v (.string pt))), (5, .ref 105 0), (6, .ref 106 0), (11, .ref 0 0)], zaI _⟩
 rw [hH]
 refine zag ?_
 refine tx ?_
 refine mP rfl rfl ?_
 refine zac (zbJ (es := [.p (.v (.int .i64 k)), .p (.v (.string t)), .p (.v (.int .i64 n)), .p (.v (.int .u32 a)), .p (.v (.int .i64 b))]) U29 rfl sz29 (Nat.le_of_ble_eq_true rfl) rfl) rfl rfl ⟨h105, trivial⟩ ?_
 refine zaB hO rfl rfl func22 rfl rfl (zcp hR) rfl ?_
 refine zaa (zaJ (r := .tup _)) rfl rfl ?_
 refine zaa (zaU rfl) rfl rfl ?_
 refine zaa (zaU rfl) rfl rfl ?_
 refine aP rfl rfl ?_
 refine aP rfl rfl ?_
 refine zaf ?_
 obtain ⟨G, hG⟩ : ∃ G, updL H wrs = G := ⟨_, rfl⟩
 have g106 : G 106 = .live (.box 24 [.p (.v (.string ⟨#[]⟩)), .p (.v (.int .i64 0)), .p (.v (.slice none 0 0))]) := by rw [← hG, zar hw.2]; exact h106
 have g39 : G 39 = .un := by rw [← hG, zar hw.1]; exact hun2 39 (by decide) (by decide)
 refine zba (zcS [(6, .ref 106 0), (11, .ref 0 0), (12, .p (.v (.string nx))), (13, .p (.v (.int .i64 0)))] G (by repeat (first | exact trivial | refine ⟨rfl, ?_⟩)) (fun o => .inl (by rw [← hG]; rfl))) ?_
 have k0 : G 0 = .live (.box 24 (cfC key2 port2 l2.length (l2.flatMap PE.pv))) := by rw [← hG]; exact hg0 _
 have k39 := g39
 have k106 := g106
 refine zag (zag ?_)
 refine tx ?_
 refine mP rfl rfl ?_
 refine zaa zcF rfl rfl ?_
 refine zaf ?_
 refine zaH ?_
 refine zbA rfl ?_
 refine zaC (zag ?_)
 refine tx ?_
 refine zac (zbJ (es := cfC key2 port2 l2.length (l2.flatMap PE.pv)) U24 rfl sz24 (Nat.le_of_ble_eq_true rfl) rfl) rfl rfl ⟨k0, trivial⟩ ?_
 refine zaw (fun _ => 39) hK2 rfl rfl F21 rfl rfl (by first | rfl | simp [AV.okInL, AV.okIn, zaj]) rfl rfl rfl ⟨k39, trivial⟩ rfl rfl rfl ?_
 refine mP rfl rfl ?_
 refine zac (zap (Y := .agg [.p (.v (.string key2)), .p (.v (.int .i64 port2)), .row 39]) sz24 rfl rfl (Nat.eq_of_beq_eq_true rfl)) rfl rfl ⟨k106, trivial⟩ ?_
 refine aP rfl rfl ?_
 refine aP rfl rfl ?_
 refine zaf ?_
 refine za2 ?_
 refine fT (fun _ => 39) (.cellN _ _ _ _ _ _ _ _ _ rfl rfl U24 rfl sz24 (by first | assumption | kernel_rfl) (.tmp _ _ _ _ rfl (.tmp _ _ _ _ rfl .nil))) ?_ ?_
 ·exact rfl
 ·exact ⟨⟨rfl, rfl⟩, trivial⟩
set_option maxHeartbeats 8000000 in
theorem aoneS_err (c : CF) (ok : c.OK) (pt : ByteArray) (s : SE) (sok : s.OK) (hc0 : cfE c = 0) (hs0 : seE s = 0) (h6 : c.ps.length ≤ 6) (wrs : List (Nat × Slot)) (nx : ByteArray) (e : Int) (hw : 39 ∉ wrs.map Prod.fst ∧ 106 ∉ wrs.map Prod.fst) (hO : FnO prog 22 [.ref 0 0, .p (.v (.string pt)), .agg s.cells] ((3, .un) :: (4, .un) :: (5, .un) :: mvR c.key c.port c.ps) wrs (.tup [.p (.v (.string nx)), .p (.v (.int .i64 e))])) (he : e ≠ 0) : Fn prog 7 [.agg c.cells, .p (.v (.string pt)), .agg s.cells] (oErr e) [] := by
 have hC := zbV c ok
 rw [hc0] at hC
 have hS := zdY s sok
 rw [hs0] at hS
 have hK := cfCopyS_s c ok h6
 obtain ⟨key, port, l⟩ := c
 obtain ⟨k, t, n, a, b⟩ := s
 dsimp only at hK hO h6
 change Fn prog _ [.agg (cfC key port l.length (l.flatMap PE.pv))] _ _ at hC hK
 change Fn prog _ [.agg [.p (.v (.int .i64 k)), .p (.v (.string t)), .p (.v (.int .i64 n)), .p (.v (.int .u32 a)), .p (.v (.int .i64 b))]] _ _ at hS
 change FnO prog _ [.ref 0 0, .p (.v (.string pt)), .agg [.p (.v (.int .i64 k)), .p (.v (.string t)), .p (.v (.int .i64 n)), .p (.v (.int .u32 a)), .p (.v (.int .i64 b))]] _ _ _ at hO
 show Fn prog _ [.agg (cfC key port l.length (l.flatMap PE.pv)), _, .agg [.p (.v (.int .i64 k)), .p (.v (.string t)), .p (.v (.int .i64 n)), .p (.v (.int .u32 a)), .p (.v (.int .i64 b))]] (.tup [.agg [.p (.v (.string ⟨#[]⟩)), .p (.v (.int .i64 0)), .p (.v (.slice none 0 0))], .p (.v (.string ⟨#[]⟩)), .p (.v (.int .i64 e))]) _
 clear ok sok hc0 hs0
 have hF : ∀ o, o < 1000 → zaI (za3 0 l) o = .un := fun o ho => zfH ho
 have hFa : ∀ j, (h : j < l.length) → zaI (za3 0 l) (j + 1000) = .live (nrO l[j]) := fun j hj => by
  have := zfk (l := l) (k := 0) (i := j) hj
  rwa [Nat.zero_add] at this
 have hFf := zcu l 0
 have hFm := fun q => @zbS l 0 q
 have hPo := fun K h => @zei K l 0 h
 have hlow : ∀ (h : Nat → Slot) (o : Nat), o < 1000 → updL h (zaR (fun o => bif Nat.beq o 0 then 27 else o) (za3 0 l)) o = h o := fun h o ho => zar fun hm => by
  simp only [zaR, List.map_map, List.mem_map] at hm
  obtain ⟨q, hq, hq1⟩ := hm
  obtain ⟨j, hj, rfl⟩ := zbS.1 hq
  simp only [Function.comp] at hq1
  rw [nbeq (show 0 + j + 1000 ≠ 0 by omega), cond_false] at hq1
  omega
 refine zda func7 rfl (Nat.le_of_ble_eq_true rfl) fun w0 A => ?_
 refine zag ?_
 refine tx ?_
 refine zac (zeB (X := .agg _) 3 rfl) rfl rfl ⟨rfl, trivial⟩ ?_
 refine zac (zeB (X := .agg _) 5 rfl) rfl rfl ⟨rfl, trivial⟩ ?_
 refine zac (zaV 6 zr24 rfl) rfl rfl ⟨rfl, trivial⟩ ?_
 refine aP rfl rfl ?_
 refine aP rfl rfl ?_
 refine zaf ?_
 refine zag (zag ?_)
 refine tx ?_
 refine lN U24 rfl sz24 rfl rfl ⟨rfl, trivial⟩ ?_
 refine zaw (fun n => 15 + 1000 * n) (hC) rfl rfl func19 rfl rfl (by first | rfl | simp [AV.okInL, AV.okIn, zaj]) rfl rfl rfl (by first | exact trivial | exact ⟨rfl, trivial⟩ | exact ⟨rfl, rfl, trivial⟩ | exact ⟨rfl, rfl, rfl, rfl, rfl, trivial⟩) rfl rfl rfl ?_
 refine aP rfl rfl ?_
 refine zaf ?_
 refine zag ?_
 refine tx ?_
 refine mP rfl rfl ?_
 refine zaa zcF rfl rfl ?_
 refine zaf ?_
 refine zaH ?_
 refine zbA rfl ?_
 refine zaC (zag (zag ?_))
 refine tx ?_
 refine lN U29 rfl sz29 rfl rfl ⟨rfl, trivial⟩ ?_
 refine zaw (fun n => 21 + 1000 * n) (hS) rfl rfl func20 rfl rfl (by first | rfl | simp [AV.okInL, AV.okIn, zaj]) rfl rfl rfl (by first | exact trivial | exact ⟨rfl, trivial⟩ | exact ⟨rfl, rfl, trivial⟩ | exact ⟨rfl, rfl, rfl, rfl, rfl, trivial⟩) rfl rfl rfl ?_
 refine aP rfl rfl ?_
 refine zaf ?_
 refine zag ?_
 refine tx ?_
 refine mP rfl rfl ?_
 refine zaa zcF rfl rfl ?_
 refine zaf ?_
 refine zaH ?_
 refine zbA rfl ?_
 refine zaM (zak id [(1, .p (.v (.string pt))), (3, .ref 3 0), (5, .ref 5 0), (6, .ref 6 0)] [(3, .box 24 (cfC key port l.length (l.flatMap PE.pv))), (5, .box 29 [.p (.v (.int .i64 k)), .p (.v (.string t)), .p (.v (.int .i64 n)), .p (.v (.int .u32 a)), .p (.v (.int .i64 b))]), (6, .box 24 [.p (.v (.string ⟨#[]⟩)), .p (.v (.int .i64 0)), .p (.v (.slice none 0 0))])] (by repeat (first | exact trivial | refine ⟨⟨rfl, rfl⟩, ?_⟩)) (by repeat (first | exact trivial | refine ⟨⟨rfl, rfl⟩, ?_⟩)) rfl) ?_
 have hun7 : ∀ q ∈ ((0, AObj.rowA 60 5 l.length none (pcs (fun i => i + 1000) 0 l)) :: za3 0 l).map (fun p => ((bif Nat.beq p.1 0 then 27 else p.1), Slot.un)), zaI [(3, .box 24 (cfC key port l.length (l.flatMap PE.pv))), (5, .box 29 [.p (.v (.int .i64 k)), .p (.v (.string t)), .p (.v (.int .i64 n)), .p (.v (.int .u32 a)), .p (.v (.int .i64 b))]), (6, .box 24 [.p (.v (.string ⟨#[]⟩)), .p (.v (.int .i64 0)), .p (.v (.slice none 0 0))])] q.1 = q.2 := fun q hq => by
  obtain ⟨q0, hq0, rfl⟩ := List.mem_map.1 hq
  rcases List.mem_cons.1 hq0 with rfl | hq0
  ·rfl
  ·obtain ⟨j, hj, rfl⟩ := (hFm q0).1 hq0
   show zaI _ (bif Nat.beq (0 + j + 1000) 0 then 27 else 0 + j + 1000) = .un
   rw [nbeq (show 0 + j + 1000 ≠ 0 by omega), cond_false]
   simp only [zaI, nbeq (show 0 + j + 1000 ≠ 3 by omega), nbeq (show 0 + j + 1000 ≠ 5 by omega), nbeq (show 0 + j + 1000 ≠ 6 by omega), cond_false]
 refine zaC (zag ?_)
 refine tx ?_
 refine lN U24 rfl sz24 rfl rfl ⟨rfl, trivial⟩ ?_
 refine zaw (fun o => bif Nat.beq o 0 then 27 else o) hK rfl rfl F21 rfl rfl (by first | rfl | simp [AV.okInL, AV.okIn, zaj]) rfl (zbR (by rw [List.map_cons, hFf]; exact cpN_nd _ (by omega))) (zbR (by show (27 :: (za3 0 l).map fun p => bif Nat.beq p.1 0 then 27 else p.1).Nodup; rw [zex]; exact cpN_nd5 _ (by omega))) (zcp hun7) rfl rfl rfl ?_
 refine zac (zaV 11 zr24 rfl) rfl rfl ⟨hlow _ 11 (by decide), trivial⟩ ?_
 refine zac (zap (Y := .agg _) sz24 rfl (by first | exact Nat.eq_of_beq_eq_true rfl | (simp only [AV.cells, List.length_map]; first | assumption | omega)) (Nat.eq_of_beq_eq_true rfl)) rfl rfl ⟨rfl, trivial⟩ ?_
 refine zaf ?_
 refine zaH (zaM (zak (fun o => bif Nat.beq o 0 then 11 else bif Nat.beq o 1 then 27 else bif Nat.beq o 105 then 5 else bif Nat.beq o 106 then 6 else o) [(1, .p (.v (.string pt))), (5, .ref 105 0), (6, .ref 106 0), (11, .ref 0 0)] ((0, .box 24 [.p (.v (.string key)), .p (.v (.int .i64 port)), .row 1]) :: (1, .rowA 60 5 l.length none (pcs (fun i => i + 1000) 0 l)) :: (105, .box 29 [.p (.v (.int .i64 k)), .p (.v (.string t)), .p (.v (.int .i64 n)), .p (.v (.int .u32 a)), .p (.v (.int .i64 b))]) :: (106, .box 24 [.p (.v (.string ⟨#[]⟩)), .p (.v (.int .i64 0)), .p (.v (.slice none 0 0))]) :: za3 0 l) (by repeat (first | exact trivial | refine ⟨⟨rfl, rfl⟩, ?_⟩)) ?_ ?_) ?_)
 ·refine ⟨⟨rfl, rfl⟩, ⟨?_, hPo _ fun j hj => by rw [List.map_cons, List.map_cons, List.map_cons, List.map_cons, hFf]; simp only [List.mem_cons, List.mem_map, List.mem_range]; exact .inr (.inr (.inr (.inr ⟨j, hj, rfl⟩)))⟩, ⟨(by show St.heap _ 5 = _; simp only [zbw, St.upd]; rw [zbQ (show 5 ≠ 11 by decide), zbQ (show 5 ≠ 11 by decide)]; exact hlow _ 5 (by decide)), rfl⟩, ⟨(by show St.heap _ 6 = _; simp only [zbw, St.upd]; rw [zbQ (show 6 ≠ 11 by decide), zbQ (show 6 ≠ 11 by decide)]; exact hlow _ 6 (by decide)), rfl⟩, leO_of fun q hq => ?_⟩
  ·show Slot.live (.rowA _ 5 l.length none (AV.renL (fun o => bif Nat.beq o 0 then 27 else o) (pcs (fun i => i + 1000) 0 l))) = .live (.rowA _ 5 l.length none (AV.renL (fun o => bif Nat.beq o 0 then 11 else bif Nat.beq o 1 then 27 else bif Nat.beq o 105 then 5 else bif Nat.beq o 106 then 6 else o) (pcs (fun i => i + 1000) 0 l)))
   rw [zdS, zdS]
   congr 2
  ·obtain ⟨j, hj, rfl⟩ := (hFm q).1 hq
   refine ⟨?_, rfl⟩
   show St.heap _ (bif Nat.beq (0 + j + 1000) 0 then 11 else bif Nat.beq (0 + j + 1000) 1 then 27 else bif Nat.beq (0 + j + 1000) 105 then 5 else bif Nat.beq (0 + j + 1000) 106 then 6 else (0 + j + 1000)) = _
   simp only [nbeq (show 0 + j + 1000 ≠ 0 by omega), nbeq (show 0 + j + 1000 ≠ 1 by omega), nbeq (show 0 + j + 1000 ≠ 105 by omega), nbeq (show 0 + j + 1000 ≠ 106 by omega), cond_false]
   simp only [zbw, St.upd]
   rw [zbQ (show 0 + j + 1000 ≠ 11 by omega), zbQ (show 0 + j + 1000 ≠ 11 by omega)]
   show updL _ ((27, _) :: zaR (fun o => bif Nat.beq o 0 then 27 else o) (za3 0 l)) (0 + j + 1000) = _
   simp only [updL, nbeq (show 0 + j + 1000 ≠ 27 by omega), cond_false]
   exact zbB (by
    have : (zaR (fun o => bif Nat.beq o 0 then 27 else o) (za3 0 l)).map Prod.fst = (za3 0 l).map fun p => bif Nat.beq p.1 0 then 27 else p.1 := by simp only [zaR, List.map_map]; rfl
    rw [this, zex]
    exact (List.nodup_cons.1 (cpN_nd _ (show l.length < 7 by omega))).2) (0 + j + 1000, .live (nrO l[j])) (List.mem_map.2 ⟨_, hq, by
     simp only [nbeq (show 0 + j + 1000 ≠ 0 by omega), cond_false]
     rfl⟩)
 ·refine zbR ?_
  show (11 :: 27 :: 5 :: 6 :: (za3 0 l).map fun p => bif Nat.beq p.1 0 then 11 else bif Nat.beq p.1 1 then 27 else bif Nat.beq p.1 105 then 5 else bif Nat.beq p.1 106 then 6 else p.1).Nodup
  have e1 : ((za3 0 l).map fun p => bif Nat.beq p.1 0 then 11 else bif Nat.beq p.1 1 then 27 else bif Nat.beq p.1 105 then 5 else bif Nat.beq p.1 106 then 6 else p.1) = (List.range l.length).map fun i => 0 + i + 1000 := by
   rw [← hFf]
   refine List.map_congr_left fun q hq => ?_
   obtain ⟨j, hj, rfl⟩ := (hFm q).1 hq
   simp only [nbeq (show 0 + j + 1000 ≠ 0 by omega), nbeq (show 0 + j + 1000 ≠ 1 by omega), nbeq (show 0 + j + 1000 ≠ 105 by omega), nbeq (show 0 + j + 1000 ≠ 106 by omega), cond_false]
  rw [e1]
  exact cpN_nd6 _ (by omega)
 obtain ⟨H, hH⟩ : ∃ H, zaI ((0, .box 24 [.p (.v (.string key)), .p (.v (.int .i64 port)), .row 1]) :: (1, .rowA 60 5 l.length none (pcs (fun i => i + 1000) 0 l)) :: (105, .box 29 [.p (.v (.int .i64 k)), .p (.v (.string t)), .p (.v (.int .i64 n)), .p (.v (.int .u32 a)), .p (.v (.int .i64 b))]) :: (106, .box 24 [.p (.v (.string ⟨#[]⟩)), .p (.v (.int .i64 0)), .p (.v (.slice none 0 0))]) :: za3 0 l) = H := ⟨_, rfl⟩
 have hun2 : ∀ o, 1 < o → o < 100 → H o = .un := fun o h1 h2 => by
  rw [← hH]
  simp only [zaI, nbeq (show o ≠ 0 by omega), nbeq (show o ≠ 1 by omega), nbeq (show o ≠ 105 by omega), nbeq (show o ≠ 106 by omega), cond_false]
  exact hF o (by omega)
 have hR : ∀ p ∈ (3, Slot.un) :: (4, .un) :: (5, .un) :: mvR key port l, H p.1 = p.2 := fun p hp => by
  have hj : ∀ j, (h : j < l.length) → H (j + 1000) = nrow l[j] := fun j h => by
   rw [← hH]
   simp only [zaI, nbeq (show j + 1000 ≠ 0 by omega), nbeq (show j + 1000 ≠ 1 by omega), nbeq (show j + 1000 ≠ 105 by omega), nbeq (show j + 1000 ≠ 106 by omega), cond_false]
   exact hFa j h
  have hhi : ∀ o, 1100 ≤ o → H o = .un := fun o h => by
   rw [← hH]
   simp only [zaI, nbeq (show o ≠ 0 by omega), nbeq (show o ≠ 1 by omega), nbeq (show o ≠ 105 by omega), nbeq (show o ≠ 106 by omega), cond_false]
   refine zfG fun hm => ?_
   rw [hFf] at hm
   obtain ⟨i, hi, rfl⟩ := List.mem_map.1 hm
   rw [List.mem_range] at hi
   omega
  unfold mvR mvU at hp
  simp only [List.mem_cons, List.mem_append, List.not_mem_nil, or_false] at hp
  rcases hp with rfl | rfl | rfl | rfl | rfl | rfl | rfl | rfl | hp | rfl | rfl | rfl | rfl | rfl | rfl
  ·exact hun2 3 (by decide) (by decide)
  ·exact hun2 4 (by decide) (by decide)
  ·exact hun2 5 (by decide) (by decide)
  ·rw [← hH]; rfl
  ·rw [← hH]; rfl
  ·exact hun2 64 (by decide) (by decide)
  ·exact hun2 65 (by decide) (by decide)
  ·exact hun2 66 (by decide) (by decide)
  ·obtain ⟨i, hi, rfl⟩ := zb0.1 hp
   show H (0 + i + 1000) = nrow l[i]
   rw [Nat.zero_add]
   exact hj i hi
  all_goals exact hhi _ (by decide)
 have h105 : H 105 = .live (.box 29 [.p (.v (.int .i64 k)), .p (.v (.string t)), .p (.v (.int .i64 n)), .p (.v (.int .u32 a)), .p (.v (.int .i64 b))]) := by rw [← hH]; rfl
 have h106 : H 106 = .live (.box 24 [.p (.v (.string ⟨#[]⟩)), .p (.v (.int .i64 0)), .p (.v (.slice none 0 0))]) := by rw [← hH]; rfl
 show awp _ _ _ ⟨zcd [(1, .p (.v (.string pt))), (5, .ref 105 0), (6, .ref 106 0), (11, .ref 0 0)], zaI _⟩
 rw [hH]
 refine zag ?_
 refine tx ?_
 refine mP rfl rfl ?_
 refine zac (zbJ (es := [.p (.v (.int .i64 k)), .p (.v (.string t)), .p (.v (.int .i64 n)), .p (.v (.int .u32 a)), .p (.v (.int .i64 b))]) U29 rfl sz29 (Nat.le_of_ble_eq_true rfl) rfl) rfl rfl ⟨h105, trivial⟩ ?_
 refine zaB hO rfl rfl func22 rfl rfl (zcp hR) rfl ?_
 refine zaa (zaJ (r := .tup _)) rfl rfl ?_
 refine zaa (zaU rfl) rfl rfl ?_
 refine zaa (zaU rfl) rfl rfl ?_
 refine aP rfl rfl ?_
 refine aP rfl rfl ?_
 refine zaf ?_
 obtain ⟨G, hG⟩ : ∃ G, updL H wrs = G := ⟨_, rfl⟩
 have g106 : G 106 = .live (.box 24 [.p (.v (.string ⟨#[]⟩)), .p (.v (.int .i64 0)), .p (.v (.slice none 0 0))]) := by rw [← hG, zar hw.2]; exact h106
 have g39 : G 39 = .un := by rw [← hG, zar hw.1]; exact hun2 39 (by decide) (by decide)
 refine zba (zcS [(6, .ref 106 0), (11, .ref 0 0), (12, .p (.v (.string nx))), (13, .p (.v (.int .i64 e)))] G (by repeat (first | exact trivial | refine ⟨rfl, ?_⟩)) (fun o => .inl (by rw [← hG]; rfl))) ?_
 refine zag (zag ?_)
 refine tx ?_
 refine mP rfl rfl ?_
 refine zaa (zao (c := true) (by simpa using he)) rfl rfl ?_
 refine zaf ?_
 refine zaH ?_
 refine awp_cT rfl ?_
 refine zag ?_
 refine tx ?_
 refine zaa (zgW pl24 zr24 rfl rfl) rfl rfl ?_
 refine mP rfl rfl ?_
 refine zac (zap (Y := .agg [.p (.v (.string ⟨#[]⟩)), .p (.v (.int .i64 0)), .p (.v (.slice none 0 0))]) sz24 rfl rfl (Nat.eq_of_beq_eq_true rfl)) rfl rfl ⟨g106, trivial⟩ ?_
 refine aP rfl rfl ?_
 refine aP rfl rfl ?_
 refine zaf ?_
 refine za2 (zcZ ?_)
 refine fT (fun o => o) (.cellN _ _ _ _ _ _ _ _ _ rfl rfl U24 rfl sz24 (by first | assumption | kernel_rfl) (.tmp _ _ _ _ rfl (.tmp _ _ _ _ rfl .nil))) ?_ ?_
 ·exact rfl
 ·exact trivial
set_option maxHeartbeats 8000000 in
theorem aoneS_row (c : CF) (ok : c.OK) (pt : ByteArray) (s : SE) (sok : s.OK) (hc0 : cfE c = 0) (hs0 : seE s = 0) (h6 : c.ps.length ≤ 6) (wrs : List (Nat × Slot)) (nx : ByteArray) (e : Int) (hw : 39 ∉ wrs.map Prod.fst ∧ 106 ∉ wrs.map Prod.fst) (hO : FnO prog 22 [.ref 0 0, .p (.v (.string pt)), .agg s.cells] ((3, .un) :: (4, .un) :: (5, .un) :: mvR c.key c.port c.ps) wrs (.tup [.p (.v (.string nx)), .p (.v (.int .i64 e))])) (he : e = 0) (c2 : CF) (ok2 : c2.OK) (q : Nat) (hq : q ≠ 0 ∧ q ≠ 39 ∧ q ≠ 106) (hg0 : ∀ h, updL h wrs 0 = .live (.box 24 [.p (.v (.string c2.key)), .p (.v (.int .i64 c2.port)), .row q])) (hgq : ∀ h, updL h wrs q = .live (.row 60 5 c2.ps.length (c2.ps.flatMap PE.pv))) : Fn prog 7 [.agg c.cells, .p (.v (.string pt)), .agg s.cells] (.tup [.agg [.p (.v (.string c2.key)), .p (.v (.int .i64 c2.port)), .row 0], .p (.v (.string nx)), .p (.v (.int .i64 0))]) [(0, .row 60 5 c2.ps.length (c2.ps.flatMap PE.pv))] := by
 have hC := zbV c ok
 rw [hc0] at hC
 have hS := zdY s sok
 rw [hs0] at hS
 have hK := cfCopyS_s c ok h6
 subst he
 have hK2 := zdc c2 ok2
 obtain ⟨key, port, l⟩ := c
 obtain ⟨k, t, n, a, b⟩ := s
 dsimp only at hK hO h6
 obtain ⟨key2, port2, l2⟩ := c2
 dsimp only at hK2 hg0 hgq ⊢
 change Fn prog _ [.agg (cfC key2 port2 l2.length (l2.flatMap PE.pv))] _ _ at hK2
 change Fn prog _ [.agg (cfC key port l.length (l.flatMap PE.pv))] _ _ at hC hK
 change Fn prog _ [.agg [.p (.v (.int .i64 k)), .p (.v (.string t)), .p (.v (.int .i64 n)), .p (.v (.int .u32 a)), .p (.v (.int .i64 b))]] _ _ at hS
 change FnO prog _ [.ref 0 0, .p (.v (.string pt)), .agg [.p (.v (.int .i64 k)), .p (.v (.string t)), .p (.v (.int .i64 n)), .p (.v (.int .u32 a)), .p (.v (.int .i64 b))]] _ _ _ at hO
 show Fn prog _ [.agg (cfC key port l.length (l.flatMap PE.pv)), _, .agg [.p (.v (.int .i64 k)), .p (.v (.string t)), .p (.v (.int .i64 n)), .p (.v (.int .u32 a)), .p (.v (.int .i64 b))]] _ _
 clear ok sok hc0 hs0 ok2
 have hF : ∀ o, o < 1000 → zaI (za3 0 l) o = .un := fun o ho => zfH ho
 have hFa : ∀ j, (h : j < l.length) → zaI (za3 0 l) (j + 1000) = .live (nrO l[j]) := fun j hj => by
  have := zfk (l := l) (k := 0) (i := j) hj
  rwa [Nat.zero_add] at this
 have hFf := zcu l 0
 have hFm := fun q => @zbS l 0 q
 have hPo := fun K h => @zei K l 0 h
 have hlow : ∀ (h : Nat → Slot) (o : Nat), o < 1000 → updL h (zaR (fun o => bif Nat.beq o 0 then 27 else o) (za3 0 l)) o = h o := fun h o ho => zar fun hm => by
  simp only [zaR, List.map_map, List.mem_map] at hm
  obtain ⟨q, hq, hq1⟩ := hm
  obtain ⟨j, hj, rfl⟩ := zbS.1 hq
  simp only [Function.comp] at hq1
  rw [nbeq (show 0 + j + 1000 ≠ 0 by omega), cond_false] at hq1
  omega
 refine zda func7 rfl (Nat.le_of_ble_eq_true rfl) fun w0 A => ?_
 refine zag ?_
 refine tx ?_
 refine zac (zeB (X := .agg _) 3 rfl) rfl rfl ⟨rfl, trivial⟩ ?_
 refine zac (zeB (X := .agg _) 5 rfl) rfl rfl ⟨rfl, trivial⟩ ?_
 refine zac (zaV 6 zr24 rfl) rfl rfl ⟨rfl, trivial⟩ ?_
 refine aP rfl rfl ?_
 refine aP rfl rfl ?_
 refine zaf ?_
 refine zag (zag ?_)
 refine tx ?_
 refine lN U24 rfl sz24 rfl rfl ⟨rfl, trivial⟩ ?_
 refine zaw (fun n => 15 + 1000 * n) (hC) rfl rfl func19 rfl rfl (by first | rfl | simp [AV.okInL, AV.okIn, zaj]) rfl rfl rfl (by first | exact trivial | exact ⟨rfl, trivial⟩ | exact ⟨rfl, rfl, trivial⟩ | exact ⟨rfl, rfl, rfl, rfl, rfl, trivial⟩) rfl rfl rfl ?_
 refine aP rfl rfl ?_
 refine zaf ?_
 refine zag ?_
 refine tx ?_
 refine mP rfl rfl ?_
 refine zaa zcF rfl rfl ?_
 refine zaf ?_
 refine zaH ?_
 refine zbA rfl ?_
 refine zaC (zag (zag ?_))
 refine tx ?_
 refine lN U29 rfl sz29 rfl rfl ⟨rfl, trivial⟩ ?_
 refine zaw (fun n => 21 + 1000 * n) (hS) rfl rfl func20 rfl rfl (by first | rfl | simp [AV.okInL, AV.okIn, zaj]) rfl rfl rfl (by first | exact trivial | exact ⟨rfl, trivial⟩ | exact ⟨rfl, rfl, trivial⟩ | exact ⟨rfl, rfl, rfl, rfl, rfl, trivial⟩) rfl rfl rfl ?_
 refine aP rfl rfl ?_
 refine zaf ?_
 refine zag ?_
 refine tx ?_
 refine mP rfl rfl ?_
 refine zaa zcF rfl rfl ?_
 refine zaf ?_
 refine zaH ?_
 refine zbA rfl ?_
 refine zaM (zak id [(1, .p (.v (.string pt))), (3, .ref 3 0), (5, .ref 5 0), (6, .ref 6 0)] [(3, .box 24 (cfC key port l.length (l.flatMap PE.pv))), (5, .box 29 [.p (.v (.int .i64 k)), .p (.v (.string t)), .p (.v (.int .i64 n)), .p (.v (.int .u32 a)), .p (.v (.int .i64 b))]), (6, .box 24 [.p (.v (.string ⟨#[]⟩)), .p (.v (.int .i64 0)), .p (.v (.slice none 0 0))])] (by repeat (first | exact trivial | refine ⟨⟨rfl, rfl⟩, ?_⟩)) (by repeat (first | exact trivial | refine ⟨⟨rfl, rfl⟩, ?_⟩)) rfl) ?_
 have hun7 : ∀ q ∈ ((0, AObj.rowA 60 5 l.length none (pcs (fun i => i + 1000) 0 l)) :: za3 0 l).map (fun p => ((bif Nat.beq p.1 0 then 27 else p.1), Slot.un)), zaI [(3, .box 24 (cfC key port l.length (l.flatMap PE.pv))), (5, .box 29 [.p (.v (.int .i64 k)), .p (.v (.string t)), .p (.v (.int .i64 n)), .p (.v (.int .u32 a)), .p (.v (.int .i64 b))]), (6, .box 24 [.p (.v (.string ⟨#[]⟩)), .p (.v (.int .i64 0)), .p (.v (.slice none 0 0))])] q.1 = q.2 := fun q hq => by
  obtain ⟨q0, hq0, rfl⟩ := List.mem_map.1 hq
  rcases List.mem_cons.1 hq0 with rfl | hq0
  ·rfl
  ·obtain ⟨j, hj, rfl⟩ := (hFm q0).1 hq0
   show zaI _ (bif Nat.beq (0 + j + 1000) 0 then 27 else 0 + j + 1000) = .un
   rw [nbeq (show 0 + j + 1000 ≠ 0 by omega), cond_false]
   simp only [zaI, nbeq (show 0 + j + 1000 ≠ 3 by omega), nbeq (show 0 + j + 1000 ≠ 5 by omega), nbeq (show 0 + j + 1000 ≠ 6 by omega), cond_false]
 refine zaC (zag ?_)
 refine tx ?_
 refine lN U24 rfl sz24 rfl rfl ⟨rfl, trivial⟩ ?_
 refine zaw (fun o => bif Nat.beq o 0 then 27 else o) hK rfl rfl F21 rfl rfl (by first | rfl | simp [AV.okInL, AV.okIn, zaj]) rfl (zbR (by rw [List.map_cons, hFf]; exact cpN_nd _ (by omega))) (zbR (by show (27 :: (za3 0 l).map fun p => bif Nat.beq p.1 0 then 27 else p.1).Nodup; rw [zex]; exact cpN_nd5 _ (by omega))) (zcp hun7) rfl rfl rfl ?_
 refine zac (zaV 11 zr24 rfl) rfl rfl ⟨hlow _ 11 (by decide), trivial⟩ ?_
 refine zac (zap (Y := .agg _) sz24 rfl (by first | exact Nat.eq_of_beq_eq_true rfl | (simp only [AV.cells, List.length_map]; first | assumption | omega)) (Nat.eq_of_beq_eq_true rfl)) rfl rfl ⟨rfl, trivial⟩ ?_
 refine zaf ?_
 refine zaH (zaM (zak (fun o => bif Nat.beq o 0 then 11 else bif Nat.beq o 1 then 27 else bif Nat.beq o 105 then 5 else bif Nat.beq o 106 then 6 else o) [(1, .p (.v (.string pt))), (5, .ref 105 0), (6, .ref 106 0), (11, .ref 0 0)] ((0, .box 24 [.p (.v (.string key)), .p (.v (.int .i64 port)), .row 1]) :: (1, .rowA 60 5 l.length none (pcs (fun i => i + 1000) 0 l)) :: (105, .box 29 [.p (.v (.int .i64 k)), .p (.v (.string t)), .p (.v (.int .i64 n)), .p (.v (.int .u32 a)), .p (.v (.int .i64 b))]) :: (106, .box 24 [.p (.v (.string ⟨#[]⟩)), .p (.v (.int .i64 0)), .p (.v (.slice none 0 0))]) :: za3 0 l) (by repeat (first | exact trivial | refine ⟨⟨rfl, rfl⟩, ?_⟩)) ?_ ?_) ?_)
 ·refine ⟨⟨rfl, rfl⟩, ⟨?_, hPo _ fun j hj => by rw [List.map_cons, List.map_cons, List.map_cons, List.map_cons, hFf]; simp only [List.mem_cons, List.mem_map, List.mem_range]; exact .inr (.inr (.inr (.inr ⟨j, hj, rfl⟩)))⟩, ⟨(by show St.heap _ 5 = _; simp only [zbw, St.upd]; rw [zbQ (show 5 ≠ 11 by decide), zbQ (show 5 ≠ 11 by decide)]; exact hlow _ 5 (by decide)), rfl⟩, ⟨(by show St.heap _ 6 = _; simp only [zbw, St.upd]; rw [zbQ (show 6 ≠ 11 by decide), zbQ (show 6 ≠ 11 by decide)]; exact hlow _ 6 (by decide)), rfl⟩, leO_of fun q hq => ?_⟩
  ·show Slot.live (.rowA _ 5 l.length none (AV.renL (fun o => bif Nat.beq o 0 then 27 else o) (pcs (fun i => i + 1000) 0 l))) = .live (.rowA _ 5 l.length none (AV.renL (fun o => bif Nat.beq o 0 then 11 else bif Nat.beq o 1 then 27 else bif Nat.beq o 105 then 5 else bif Nat.beq o 106 then 6 else o) (pcs (fun i => i + 1000) 0 l)))
   rw [zdS, zdS]
   congr 2
  ·obtain ⟨j, hj, rfl⟩ := (hFm q).1 hq
   refine ⟨?_, rfl⟩
   show St.heap _ (bif Nat.beq (0 + j + 1000) 0 then 11 else bif Nat.beq (0 + j + 1000) 1 then 27 else bif Nat.beq (0 + j + 1000) 105 then 5 else bif Nat.beq (0 + j + 1000) 106 then 6 else (0 + j + 1000)) = _
   simp only [nbeq (show 0 + j + 1000 ≠ 0 by omega), nbeq (show 0 + j + 1000 ≠ 1 by omega), nbeq (show 0 + j + 1000 ≠ 105 by omega), nbeq (show 0 + j + 1000 ≠ 106 by omega), cond_false]
   simp only [zbw, St.upd]
   rw [zbQ (show 0 + j + 1000 ≠ 11 by omega), zbQ (show 0 + j + 1000 ≠ 11 by omega)]
   show updL _ ((27, _) :: zaR (fun o => bif Nat.beq o 0 then 27 else o) (za3 0 l)) (0 + j + 1000) = _
   simp only [updL, nbeq (show 0 + j + 1000 ≠ 27 by omega), cond_false]
   exact zbB (by
    have : (zaR (fun o => bif Nat.beq o 0 then 27 else o) (za3 0 l)).map Prod.fst = (za3 0 l).map fun p => bif Nat.beq p.1 0 then 27 else p.1 := by simp only [zaR, List.map_map]; rfl
    rw [this, zex]
    exact (List.nodup_cons.1 (cpN_nd _ (show l.length < 7 by omega))).2) (0 + j + 1000, .live (nrO l[j])) (List.mem_map.2 ⟨_, hq, by
     simp only [nbeq (show 0 + j + 1000 ≠ 0 by omega), cond_false]
     rfl⟩)
 ·refine zbR ?_
  show (11 :: 27 :: 5 :: 6 :: (za3 0 l).map fun p => bif Nat.beq p.1 0 then 11 else bif Nat.beq p.1 1 then 27 else bif Nat.beq p.1 105 then 5 else bif Nat.beq p.1 106 then 6 else p.1).Nodup
  have e1 : ((za3 0 l).map fun p => bif Nat.beq p.1 0 then 11 else bif Nat.beq p.1 1 then 27 else bif Nat.beq p.1 105 then 5 else bif Nat.beq p.1 106 then 6 else p.1) = (List.range l.length).map fun i => 0 + i + 1000 := by
   rw [← hFf]
   refine List.map_congr_left fun q hq => ?_
   obtain ⟨j, hj, rfl⟩ := (hFm q).1 hq
   simp only [nbeq (show 0 + j + 1000 ≠ 0 by omega), nbeq (show 0 + j + 1000 ≠ 1 by omega), nbeq (show 0 + j + 1000 ≠ 105 by omega), nbeq (show 0 + j + 1000 ≠ 106 by omega), cond_false]
  rw [e1]
  exact cpN_nd6 _ (by omega)
 obtain ⟨H, hH⟩ : ∃ H, zaI ((0, .box 24 [.p (.v (.string key)), .p (.v (.int .i64 port)), .row 1]) :: (1, .rowA 60 5 l.length none (pcs (fun i => i + 1000) 0 l)) :: (105, .box 29 [.p (.v (.int .i64 k)), .p (.v (.string t)), .p (.v (.int .i64 n)), .p (.v (.int .u32 a)), .p (.v (.int .i64 b))]) :: (106, .box 24 [.p (.v (.string ⟨#[]⟩)), .p (.v (.int .i64 0)), .p (.v (.slice none 0 0))]) :: za3 0 l) = H := ⟨_, rfl⟩
 have hun2 : ∀ o, 1 < o → o < 100 → H o = .un := fun o h1 h2 => by
  rw [← hH]
  simp only [zaI, nbeq (show o ≠ 0 by omega), nbeq (show o ≠ 1 by omega), nbeq (show o ≠ 105 by omega), nbeq (show o ≠ 106 by omega), cond_false]
  exact hF o (by omega)
 have hR : ∀ p ∈ (3, Slot.un) :: (4, .un) :: (5, .un) :: mvR key port l, H p.1 = p.2 := fun p hp => by
  have hj : ∀ j, (h : j < l.length) → H (j + 1000) = nrow l[j] := fun j h => by
   rw [← hH]
   simp only [zaI, nbeq (show j + 1000 ≠ 0 by omega), nbeq (show j + 1000 ≠ 1 by omega), nbeq (show j + 1000 ≠ 105 by omega), nbeq (show j + 1000 ≠ 106 by omega), cond_false]
   exact hFa j h
  have hhi : ∀ o, 1100 ≤ o → H o = .un := fun o h => by
   rw [← hH]
   simp only [zaI, nbeq (show o ≠ 0 by omega), nbeq (show o ≠ 1 by omega), nbeq (show o ≠ 105 by omega), nbeq (show o ≠ 106 by omega), cond_false]
   refine zfG fun hm => ?_
   rw [hFf] at hm
   obtain ⟨i, hi, rfl⟩ := List.mem_map.1 hm
   rw [List.mem_range] at hi
   omega
  unfold mvR mvU at hp
  simp only [List.mem_cons, List.mem_append, List.not_mem_nil, or_false] at hp
  rcases hp with rfl | rfl | rfl | rfl | rfl | rfl | rfl | rfl | hp | rfl | rfl | rfl | rfl | rfl | rfl
  ·exact hun2 3 (by decide) (by decide)
  ·exact hun2 4 (by decide) (by decide)
  ·exact hun2 5 (by decide) (by decide)
  ·rw [← hH]; rfl
  ·rw [← hH]; rfl
  ·exact hun2 64 (by decide) (by decide)
  ·exact hun2 65 (by decide) (by decide)
  ·exact hun2 66 (by decide) (by decide)
  ·obtain ⟨i, hi, rfl⟩ := zb0.1 hp
   show H (0 + i + 1000) = nrow l[i]
   rw [Nat.zero_add]
   exact hj i hi
  all_goals exact hhi _ (by decide)
 have h105 : H 105 = .live (.box 29 [.p (.v (.int .i64 k)), .p (.v (.string t)), .p (.v (.int .i64 n)), .p (.v (.int .u32 a)), .p (.v (.int .i64 b))]) := by rw [← hH]; rfl
 have h106 : H 106 = .live (.box 24 [.p (.v (.string ⟨#[]⟩)), .p (.v (.int .i64 0)), .p (.v (.slice none 0 0))]) := by rw [← hH]; rfl
 show awp _ _ _ ⟨zcd [(1, .p (.v (.string pt))), (5, .ref 105 0), (6, .ref 106 0), (11, .ref 0 0)], zaI _⟩
 rw [hH]
 refine zag ?_
 refine tx ?_
 refine mP rfl rfl ?_
 refine zac (zbJ (es := [.p (.v (.int .i64 k)), .p (.v (.string t)), .p (.v (.int .i64 n)), .p (.v (.int .u32 a)), .p (.v (.int .i64 b))]) U29 rfl sz29 (Nat.le_of_ble_eq_true rfl) rfl) rfl rfl ⟨h105, trivial⟩ ?_
 refine zaB hO rfl rfl func22 rfl rfl (zcp hR) rfl ?_
 refine zaa (zaJ (r := .tup _)) rfl rfl ?_
 refine zaa (zaU rfl) rfl rfl ?_
 refine zaa (zaU rfl) rfl rfl ?_
 refine aP rfl rfl ?_
 refine aP rfl rfl ?_
 refine zaf ?_
 obtain ⟨G, hG⟩ : ∃ G, updL H wrs = G := ⟨_, rfl⟩
 have g106 : G 106 = .live (.box 24 [.p (.v (.string ⟨#[]⟩)), .p (.v (.int .i64 0)), .p (.v (.slice none 0 0))]) := by rw [← hG, zar hw.2]; exact h106
 have g39 : G 39 = .un := by rw [← hG, zar hw.1]; exact hun2 39 (by decide) (by decide)
 refine zba (zcS [(6, .ref 106 0), (11, .ref 0 0), (12, .p (.v (.string nx))), (13, .p (.v (.int .i64 0)))] G (by repeat (first | exact trivial | refine ⟨rfl, ?_⟩)) (fun o => .inl (by rw [← hG]; rfl))) ?_
 have g0 : G 0 = .live (.box 24 [.p (.v (.string key2)), .p (.v (.int .i64 port2)), .row q]) := by rw [← hG]; exact hg0 _
 have gq : G q = .live (.row 60 5 l2.length (l2.flatMap PE.pv)) := by rw [← hG]; exact hgq _
 refine zbr (reo_fzBox g0 gq hq.1) ?_
 obtain ⟨G2, hG2⟩ : ∃ G2, updL G [(0, .live (.box 24 (cfC key2 port2 l2.length (l2.flatMap PE.pv)))), (q, .dead)] = G2 := ⟨_, rfl⟩
 have ne : ∀ o, o ≠ 0 → o ≠ q → G2 o = G o := fun o a1 a2 => by rw [← hG2]; simp only [updL, nbeq a1, nbeq a2, cond_false]
 have k0 : G2 0 = .live (.box 24 (cfC key2 port2 l2.length (l2.flatMap PE.pv))) := by rw [← hG2]; rfl
 have k39 := (ne 39 (by decide) (Ne.symm hq.2.1)).trans g39
 have k106 := (ne 106 (by decide) (Ne.symm hq.2.2)).trans g106
 show awp _ _ _ ⟨_, updL G [(0, .live (.box 24 (cfC key2 port2 l2.length (l2.flatMap PE.pv)))), (q, .dead)]⟩
 rw [hG2]
 refine zag (zag ?_)
 refine tx ?_
 refine mP rfl rfl ?_
 refine zaa zcF rfl rfl ?_
 refine zaf ?_
 refine zaH ?_
 refine zbA rfl ?_
 refine zaC (zag ?_)
 refine tx ?_
 refine zac (zbJ (es := cfC key2 port2 l2.length (l2.flatMap PE.pv)) U24 rfl sz24 (Nat.le_of_ble_eq_true rfl) rfl) rfl rfl ⟨k0, trivial⟩ ?_
 refine zaw (fun _ => 39) hK2 rfl rfl F21 rfl rfl (by first | rfl | simp [AV.okInL, AV.okIn, zaj]) rfl rfl rfl ⟨k39, trivial⟩ rfl rfl rfl ?_
 refine mP rfl rfl ?_
 refine zac (zap (Y := .agg [.p (.v (.string key2)), .p (.v (.int .i64 port2)), .row 39]) sz24 rfl rfl (Nat.eq_of_beq_eq_true rfl)) rfl rfl ⟨k106, trivial⟩ ?_
 refine aP rfl rfl ?_
 refine aP rfl rfl ?_
 refine zaf ?_
 refine za2 ?_
 refine fT (fun _ => 39) (.cellN _ _ _ _ _ _ _ _ _ rfl rfl U24 rfl sz24 (by first | assumption | kernel_rfl) (.tmp _ _ _ _ rfl (.tmp _ _ _ _ rfl .nil))) ?_ ?_
 ·exact rfl
 ·exact ⟨⟨rfl, rfl⟩, trivial⟩
end Go.Proofs.YtkdfdcodkeclmaaGreatDoor
