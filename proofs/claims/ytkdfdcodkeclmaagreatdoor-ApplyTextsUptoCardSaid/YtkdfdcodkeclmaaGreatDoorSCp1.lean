/- conf.Copy, over data: the nets of the copy are the caller's own. -/
import Derived.Test.YtkdfdcodkeclmaaGreatDoorSAp4
namespace Go.Proofs.YtkdfdcodkeclmaaGreatDoor
open Tryz
open Go.RowKit Go.Sort
set_option linter.unusedVariables false
set_option linter.unusedSimpArgs false
set_option maxRecDepth 100000
def nrO (p : PE) : AObj := .row 27 2 p.nets.length (p.nets.flatMap ntC)
def za3 : Nat → List PE → List (Nat × AObj)
 | _, [] => []
 | k, p :: l => (k + 1000, nrO p) :: za3 (k + 1) l
theorem zbS : ∀ {l : List PE} {k : Nat} {q : Nat × AObj}, q ∈ za3 k l ↔ ∃ i, ∃ h : i < l.length, q = (k + i + 1000, nrO l[i])
 | [], k, q => by simp [za3]
 | p :: l, k, q => by
  rw [za3, List.mem_cons, zbS (l := l)]
  constructor
  ·rintro (rfl | ⟨i, h, rfl⟩)
   ·exact ⟨0, by simp, by simp⟩
   ·exact ⟨i + 1, by simpa using h, by simp; omega⟩
  ·rintro ⟨i, h, rfl⟩
   cases i with
   | zero => exact .inl (by simp)
   | succ i => exact .inr ⟨i, by simpa using h, by simp; omega⟩
theorem zcu : ∀ (l : List PE) (k : Nat), (za3 k l).map Prod.fst = (List.range l.length).map fun i => k + i + 1000
 | [], k => rfl
 | p :: l, k => by
  rw [za3, List.map_cons, zcu l (k + 1), List.length_cons, List.range_succ_eq_map, List.map_cons, List.map_map]
  congr 1
  apply List.map_congr_left
  intro i _
  show k + 1 + i + 1000 = k + (i + 1) + 1000
  omega
theorem famsO_app : ∀ (l m : List PE) (k : Nat), za3 k (l ++ m) = za3 k l ++ za3 (k + l.length) m
 | [], m, k => rfl
 | p :: l, m, k => by
  rw [List.cons_append, za3, za3, famsO_app l m (k + 1), List.cons_append, List.length_cons]
  congr 3
  omega
theorem zfH {l : List PE} {k o : Nat} (h : o < 1000) : zaI (za3 k l) o = .un := by
 cases hs : zaI (za3 k l) o with
 | un => rfl
 | live ob =>
  obtain ⟨i, hi, e⟩ := zbS.1 (zaW hs)
  simp only [Prod.mk.injEq] at e
  omega
 | dead =>
  exfalso
  have : ∀ L : List (Nat × AObj), zaI L o ≠ .dead := by
   intro L
   induction L with
   | nil => intro h; cases h
   | cons p L ih =>
    obtain ⟨a, b⟩ := p
    by_cases e : o = a
    ·subst e; simp [zaI]
    ·simp only [zaI, nbeq e, cond_false]; exact ih
  exact this _ hs
theorem zfk {l : List PE} {k i : Nat} (h : i < l.length) : zaI (za3 k l) (k + i + 1000) = .live (nrO l[i]) := by
 induction l generalizing k i with
 | nil => simp at h
 | cons p l ih =>
  rw [za3]
  cases i with
  | zero => simp [zaI]
  | succ i =>
   have hne : k + (i + 1) + 1000 ≠ k + 1000 := by omega
   simp only [zaI, nbeq hne, cond_false]
   have := ih (k := k + 1) (i := i) (by simpa using h)
   rw [show k + 1 + i + 1000 = k + (i + 1) + 1000 by omega] at this
   simpa using this
theorem leO_of {ρ : Nat → Nat} {st : St} {K : List Nat} : ∀ {L : List (Nat × AObj)}, (∀ p ∈ L, st.heap (ρ p.1) = .live (p.2.ren ρ) ∧ p.2.okIn K = true) → LeO ρ st K L
 | [], _ => trivial
 | p :: L, h => ⟨h p (by simp), leO_of fun q hq => h q (by simp [hq])⟩
theorem zbR : ∀ {l : List Nat}, l.Nodup → za8 l = true
 | [], _ => rfl
 | x :: l, h => by
  rw [List.nodup_cons] at h
  simp only [za8, Bool.and_eq_true, Bool.not_eq_true', List.elem_eq_mem, decide_eq_false_iff_not]
  exact ⟨h.1, zbR h.2⟩
theorem zei {K : List Nat} : ∀ (l : List PE) (k : Nat), (∀ i, i < l.length → k + i + 1000 ∈ K) → AV.okInL K (pcs (fun i => i + 1000) k l) = true
 | [], k, _ => rfl
 | p :: l, k, h => by
  have h0 := h 0 (by simp)
  rw [Nat.add_zero] at h0
  have ih := zei (K := K) l (k + 1) fun i hi => by
   have := h (i + 1) (by simpa using hi)
   rwa [show k + (i + 1) + 1000 = k + 1 + i + 1000 by omega] at this
  rw [pcs]
  simp only [pcA, List.cons_append, List.nil_append, AV.okInL, AV.okIn, Bool.true_and, ih, Bool.and_true, List.elem_eq_mem, decide_eq_true_eq]
  exact h0
theorem zdS {ρ : Nat → Nat} {nm : Nat → Nat} : ∀ (l : List PE) (k : Nat), AV.renL ρ (pcs nm k l) = pcs (fun i => ρ (nm i)) k l
 | [], k => rfl
 | p :: l, k => by
  rw [pcs, pcs]
  simp only [pcA, List.cons_append, List.nil_append, AV.renL, AV.ren]
  rw [zdS l (k + 1)]
theorem cpN_nd2 : ∀ i, i < 7 → (1 :: 2 :: 24 :: ((List.range i).map (fun j => j + 1000) ++ [19])).Nodup := by decide
theorem cpN_nd3 : ∀ i, i < 7 → (100 :: (List.range i).map (fun j => j + 1000)).Nodup := by decide
theorem cpN_nd : ∀ n, n < 7 → (0 :: (List.range n).map fun i => 0 + i + 1000).Nodup := by decide
set_option maxHeartbeats 8000000 in
theorem cfCopyS_s (c : CF) (ok : c.OK) (h6 : c.ps.length ≤ 6) : Fn prog 21 [.agg c.cells] (.agg [.p (.v (.string c.key)), .p (.v (.int .i64 c.port)), .row 0]) ((0, .rowA 60 5 c.ps.length none (pcs (fun i => i + 1000) 0 c.ps)) :: za3 0 c.ps) := by
 obtain ⟨key, port, l⟩ := c
 obtain ⟨hn, ok⟩ := ok
 dsimp only at hn ok h6
 show Fn prog _ [.agg (cfC key port l.length (l.flatMap PE.pv))] (.agg [.p (.v (.string key)), .p (.v (.int .i64 port)), .row 0]) ((0, .rowA 60 5 l.length none (pcs (fun i => i + 1000) 0 l)) :: za3 0 l)
 refine fnI fun w0 A => ?_
 refine G [9] ?_
 refine zaa (zaL U22) rfl rfl ?_
 refine zac (a_make0 9 U22 eo60 (by omega) (by omega) (by simp only [maxLen]; omega)) rfl rfl ⟨rfl, trivial⟩ ?_
 refine G [7] ?_
 refine zaa (zaL U22) rfl rfl ?_
 refine G [3] ?_
 refine zbr (zdo 9 rfl) ?_
 refine zal (fun m st => ∃ i : Nat, m + i = l.length ∧ st = St.of [(1, .ref 1 0), (2, .ref 2 0), (3, .row 100), (11, .p (.sl l.length 5 (l.flatMap PE.pv))), (12, .p (.v (.int .i64 l.length))), (13, .p (.v (.int .i64 i)))] ((1, .box 24 (cfC key port l.length (l.flatMap PE.pv))) :: (2, .box 24 [.p (.v (.string ⟨#[]⟩)), .p (.v (.int .i64 0)), .p (.v (.slice none 0 0))]) :: (100, .rowA 60 5 i none (pcs (fun i => i + 1000) 0 (l.take i))) :: za3 0 (l.take i))) l.length ?_ ?_
 ·refine ⟨_, zak (fun o => bif Nat.beq o 100 then 9 else o) _ _ ?_ ?_ rfl, 0, by omega, rfl⟩
  ·(repeat (first | exact trivial | (refine ⟨⟨(by first | rfl | (simp; done) | (simp; omega)), rfl⟩, ?_⟩)))
  ·exact ⟨⟨rfl, rfl⟩, ⟨rfl, rfl⟩, ⟨rfl, rfl⟩, trivial⟩
 rintro m st ⟨i, hi, rfl⟩
 refine G [5] ?_
 refine zab _ rfl (fun h => ?_) (fun h => ?_)
 ·have hlt : i < l.length := by simp at h; omega
  clear h
  obtain ⟨p, hp⟩ : ∃ p, l[i]? = some p := ⟨l[i], List.getElem?_eq_getElem hlt⟩
  have hch := zav (f := PE.pv) (k := 5) (fun _ => rfl) hp
  have hle := zau (f := PE.pv) (k := 5) (fun _ => rfl) hlt
  have hpl := (ok p (List.mem_of_getElem? hp)).2
  have hC := nclone_s p.nets hpl
  have htk : l.take (i + 1) = l.take i ++ [p] := by
   obtain ⟨h1, h2⟩ := List.getElem?_eq_some_iff.1 hp
   rw [List.take_succ_eq_append_getElem h1, h2]
  have htl : (l.take i).length = i := by rw [List.length_take]; omega
  have hF : ∀ o, o < 1000 → zaI (za3 0 (l.take i)) o = .un := fun o ho => zfH ho
  have hFa : ∀ j, (h : j < i) → zaI (za3 0 (l.take i)) (j + 1000) = .live (nrO (l[j]'(by omega))) := fun j hj => by
   have := zfk (l := l.take i) (k := 0) (i := j) (by omega)
   rw [Nat.zero_add, List.getElem_take] at this
   exact this
  have hPp : pcs (fun i => i + 1000) 0 (l.take (i + 1)) = pcs (fun i => i + 1000) 0 (l.take i) ++ pcA p (i + 1000) := by
   rw [htk, zfB, htl, Nat.zero_add]
   simp [pcs]
  have hPl : (pcs (fun i => i + 1000) 0 (l.take i)).length = i * 5 := by rw [zdr, htl]
  have hPr : ∀ ρ : Nat → Nat, (∀ j, j < i → ρ (j + 1000) = j + 1000) → AV.renL ρ (pcs (fun i => i + 1000) 0 (l.take i)) = pcs (fun i => i + 1000) 0 (l.take i) := fun ρ hρ => by
   rw [zdS]
   exact zds _ _ fun j hj => by rw [Nat.zero_add]; exact hρ j (by omega)
  have hFf : (za3 0 (l.take (i + 1))).map Prod.fst = (List.range (i + 1)).map fun j => 0 + j + 1000 := by rw [zcu, List.length_take, Nat.min_eq_left (by omega)]
  obtain ⟨FN, hFN⟩ : ∃ FN, za3 0 (l.take (i + 1)) = FN := ⟨_, rfl⟩
  have hFm : ∀ q ∈ FN, (∃ j, ∃ h : j < i, q = (j + 1000, nrO (l[j]'(by omega)))) ∨ q = (i + 1000, nrO p) := fun q hq => by
   rw [← hFN, htk, famsO_app, htl, Nat.zero_add] at hq
   rcases List.mem_append.1 hq with hq | hq
   ·obtain ⟨j, hj, rfl⟩ := zbS.1 hq
    left
    refine ⟨j, by omega, ?_⟩
    rw [Nat.zero_add, List.getElem_take]
   ·right
    simpa [za3] using hq
  have hPo := zei (K := 1 :: 2 :: 100 :: FN.map Prod.fst) (l.take (i + 1)) 0 (fun j hj => by
   rw [← hFN, hFf]
   rw [List.length_take] at hj
   simp only [List.mem_cons, List.mem_map, List.mem_range]
   exact .inr (.inr (.inr ⟨j, by omega, rfl⟩)))
  rw [hPp] at hPo
  rw [hFN] at hFf
  generalize hL : l.flatMap PE.pv = L at *
  obtain ⟨pk, sh, ep, al, nn⟩ := p
  dsimp only at hC hpl
  obtain ⟨F, hFe⟩ : ∃ F, za3 0 (l.take i) = F := ⟨_, rfl⟩
  obtain ⟨C, hCe⟩ : ∃ C, pcs (fun i => i + 1000) 0 (l.take i) = C := ⟨_, rfl⟩
  rw [hFe] at hF hFa ⊢
  rw [hCe] at hPp hPl hPr hPo ⊢
  refine G [5] ?_
  refine zaa (zad U22 sz60 (by omega) (by omega) rfl) rfl rfl ?_
  refine zaa (zaq U60 rfl sz60 (by first | omega | (simp; done) | (simp; omega)) (hch)) rfl rfl ?_
  refine zac (zaV 5 zr60 rfl) rfl rfl ⟨hF 5 (by decide), trivial⟩ ?_
  refine zac (zap (Y := .agg [.p (.v (.string pk)), .p (.v (.string sh)), .p (.v (.string ep)), .p (.v (.int .i64 al)), .p (.sl nn.length 2 (nn.flatMap ntC))]) sz60 rfl rfl (Nat.eq_of_beq_eq_true rfl)) rfl rfl ⟨rfl, trivial⟩ ?_
  refine G [5] ?_
  refine zaw (fun _ => 19) hC rfl rfl func48 rfl rfl (by first | rfl | simp [AV.okInL, AV.okIn, zaj]) rfl rfl rfl ⟨hF 19 (by decide), trivial⟩ rfl rfl rfl ?_
  refine fA zbo rfl rfl ?_
  refine zac (za9 (Y := .row _) sz58 rfl (by first | exact Nat.eq_of_beq_eq_true rfl | (simp only [AV.cells, List.length_map]; first | assumption | omega)) (by first | exact Nat.le_of_ble_eq_true rfl | omega | (simp only [AV.cells, List.length_map]; omega)) (by first | (simp only [setR, AV.cells, List.take_succ_cons, List.take_zero, List.drop_succ_cons, List.drop_zero, List.drop_nil, List.take_nil, List.nil_append, List.cons_append, List.append_nil, List.length_cons, List.length_nil, Nat.reduceAdd, Nat.zero_add, Nat.add_zero]; rfl) | rfl)) rfl rfl ⟨rfl, trivial⟩ ?_
  refine G [4] ?_
  refine zac (zdg 23 U22 sz60 zc60 (Nat.le_of_ble_eq_true rfl) (Nat.le_of_ble_eq_true rfl) rfl rfl (Nat.le_of_ble_eq_true rfl)) rfl rfl ⟨hF 23 (by decide), trivial⟩ ?_
  refine zac (a_appendB (k := i + 1) (zs := C ++ pcA ⟨pk, sh, ep, al, nn⟩ 19) 24 U22 eo60 rfl rfl (by simp only [maxLen]; omega) (by omega) rfl rfl) rfl rfl ⟨rfl, hF 24 (by decide), rfl, trivial⟩ ?_
  refine G [3] ?_
  refine zaa (zas (by first | exact IntWalk.i64_in _ (by omega) | rfl)) rfl rfl ?_
  refine G [2, 9, 0] ?_
  obtain ⟨ρ, hρ⟩ : ∃ ρ : Nat → Nat, ρ = fun o => bif Nat.beq o 100 then 24 else bif Nat.beq o (i + 1000) then 19 else o := ⟨_, rfl⟩
  have hρa : ∀ o, o ≠ 100 → o ≠ i + 1000 → ρ o = o := fun o a1 a2 => by rw [hρ]; simp only [nbeq a1, nbeq a2, cond_false]
  have hρ1 : ρ 100 = 24 := by rw [hρ]; rfl
  have hρ2 : ρ (i + 1000) = 19 := by rw [hρ]; simp only [nbeq (show i + 1000 ≠ 100 by omega), Nat.beq_refl, cond_false, cond_true]
  refine ⟨m - 1, by omega, St.of [(1, .ref 1 0), (2, .ref 2 0), (3, .row 100), (11, .p (.sl l.length 5 L)), (12, .p (.v (.int .i64 l.length))), (13, .p (.v (.int .i64 (i + 1 : Nat))))] ((1, .box 24 (cfC key port l.length L)) :: (2, .box 24 [.p (.v (.string ⟨#[]⟩)), .p (.v (.int .i64 0)), .p (.v (.slice none 0 0))]) :: (100, .rowA 60 5 (i + 1) none (C ++ pcA ⟨pk, sh, ep, al, nn⟩ (i + 1000))) :: FN), zak ρ _ _ ?_ ?_ ?_, i + 1, by omega, by rw [← hPp, hFN]⟩
  ·refine ⟨⟨by show _ = AV.ref (ρ 1) 0; rw [hρa 1 (by decide) (by omega)]; rfl, rfl⟩, ⟨by show _ = AV.ref (ρ 2) 0; rw [hρa 2 (by decide) (by omega)]; rfl, rfl⟩, ⟨by show _ = AV.row (ρ 100); rw [hρ1]; rfl, rfl⟩, ⟨rfl, rfl⟩, ⟨rfl, rfl⟩, ⟨by first | rfl | (simp; done), rfl⟩, trivial⟩
  ·refine ⟨⟨?_, rfl⟩, ⟨?_, rfl⟩, ⟨?_, hPo⟩, leO_of fun q hq => ⟨?_, ?_⟩⟩
   ·show St.heap _ (ρ 1) = _
    rw [hρa 1 (by decide) (by omega)]; rfl
   ·show St.heap _ (ρ 2) = _
    rw [hρa 2 (by decide) (by omega)]; rfl
   ·show St.heap _ (ρ 100) = .live (.rowA _ 5 (i + 1) none (AV.renL ρ (C ++ pcA ⟨pk, sh, ep, al, nn⟩ (i + 1000))))
    have hra : ∀ (x y : List AV), AV.renL ρ (x ++ y) = AV.renL ρ x ++ AV.renL ρ y := by
     intro x y
     induction x with
     | nil => rfl
     | cons a x ih => simp only [List.cons_append, AV.renL, ih]
    rw [hρ1, hra, hPr ρ (fun j hj => hρa _ (by omega) (by omega))]
    simp only [pcA, AV.renL, AV.ren, hρ2]
    rfl
   ·rcases hFm q hq with ⟨j, hj, rfl⟩ | rfl
    ·show St.heap _ (ρ (j + 1000)) = .live (nrO _)
     rw [hρa _ (by omega) (by omega), ← hFa j hj]
     show updL _ _ _ = _
     simp only [updL, nbeq (show j + 1000 ≠ 24 by omega), nbeq (show j + 1000 ≠ 9 by omega), nbeq (show j + 1000 ≠ 100 by omega), nbeq (show j + 1000 ≠ 23 by omega), nbeq (show j + 1000 ≠ 19 by omega), nbeq (show j + 1000 ≠ 5 by omega), cond_false]
     simp only [zbw, St.upd, zaR, List.map_cons, List.map_nil, updL, St.of, zaI, nbeq (show j + 1000 ≠ 24 by omega), nbeq (show j + 1000 ≠ 1 by omega), nbeq (show j + 1000 ≠ 2 by omega), nbeq (show j + 1000 ≠ 100 by omega), nbeq (show j + 1000 ≠ 23 by omega), nbeq (show j + 1000 ≠ 19 by omega), nbeq (show j + 1000 ≠ 5 by omega), cond_false]
    ·show St.heap _ (ρ (i + 1000)) = _
     rw [hρ2]; rfl
   ·rcases hFm q hq with ⟨j, hj, rfl⟩ | rfl <;> rfl
  ·refine zbR ?_
   have e : (FN.map fun p => ρ p.1) = ((List.range i).map fun j => j + 1000) ++ [19] := by
    have e1 : (FN.map fun p => ρ p.1) = (FN.map Prod.fst).map ρ := by rw [List.map_map]; rfl
    rw [e1, hFf, List.range_succ, List.map_append, List.map_append, List.map_map]
    congr 1
    ·refine List.map_congr_left fun j hj => ?_
     rw [List.mem_range] at hj
     show ρ (0 + j + 1000) = _
     rw [Nat.zero_add, hρa _ (by omega) (by omega)]
    ·show [ρ (0 + i + 1000)] = _
     rw [Nat.zero_add, hρ2]
   show (ρ 1 :: ρ 2 :: ρ 100 :: FN.map fun p => ρ p.1).Nodup
   rw [e, hρa 1 (by decide) (by omega), hρa 2 (by decide) (by omega), hρ1]
   exact cpN_nd2 i (by omega)
 have hge : i = l.length := by simp at h; omega
 clear h
 subst hge
 rw [List.take_length]
 have hFa : ∀ j, (h : j < l.length) → zaI (za3 0 l) (j + 1000) = .live (nrO l[j]) := fun j hj => by
  have := zfk (l := l) (k := 0) (i := j) hj
  rwa [Nat.zero_add] at this
 have hPo := zei (K := 0 :: (za3 0 l).map Prod.fst) l 0 (fun j hj => by
  rw [zcu]
  simp only [List.mem_cons, List.mem_map, List.mem_range]
  exact .inr ⟨j, by omega, rfl⟩)
 have hFf := zcu l 0
 have hFm := fun q => @zbS l 0 q
 obtain ⟨F, hFe⟩ : ∃ F, za3 0 l = F := ⟨_, rfl⟩
 rw [hFe] at hFa hPo hFf hFm ⊢
 generalize l.flatMap PE.pv = L at *
 refine G [5] ?_
 refine zac (za9 (Y := .row _) sz22 rfl (by first | exact Nat.eq_of_beq_eq_true rfl | (simp only [AV.cells, List.length_map]; first | assumption | omega)) (by first | exact Nat.le_of_ble_eq_true rfl | omega | (simp only [AV.cells, List.length_map]; omega)) (by first | (simp only [setR, AV.cells, List.take_succ_cons, List.take_zero, List.drop_succ_cons, List.drop_zero, List.drop_nil, List.take_nil, List.nil_append, List.cons_append, List.append_nil, List.length_cons, List.length_nil, Nat.reduceAdd, Nat.zero_add, Nat.add_zero]; rfl) | rfl)) rfl rfl ⟨rfl, trivial⟩ ?_
 refine G [7] ?_
 obtain ⟨ρ, hρ⟩ : ∃ ρ : Nat → Nat, ρ = fun o => bif Nat.beq o 0 then 100 else o := ⟨_, rfl⟩
 have hρ0 : ρ 0 = 100 := by rw [hρ]; rfl
 have hρa : ∀ o, o ≠ 0 → ρ o = o := fun o a1 => by rw [hρ]; simp only [nbeq a1, cond_false]
 refine ⟨(by first | exact .inl rfl | exact .inr rfl), _, ρ, (.cellN _ _ _ _ _ _ _ _ _ rfl rfl U24 rfl sz24 (by first | assumption | kernel_rfl) .nil), ?_, rfl, ⟨⟨?_, hPo⟩, leO_of fun q hq => ⟨?_, ?_⟩⟩, zbR ?_⟩
 ·rw [hρ]; rfl
 ·show St.heap _ (ρ 0) = .live (.rowA _ 5 l.length none (AV.renL ρ (pcs (fun i => i + 1000) 0 l)))
  rw [hρ0, zdS, zds (nm := fun i => ρ (i + 1000)) (nm' := fun i => i + 1000) l 0 (fun j hj => hρa _ (by omega))]
  rfl
 ·obtain ⟨j, hj, rfl⟩ := (hFm q).1 hq
  show St.heap _ (ρ (0 + j + 1000)) = .live (nrO _)
  rw [hρa _ (by omega), ← hFa j hj]
  simp only [Nat.zero_add, zbw, St.upd, zaR, List.map_cons, List.map_nil, updL, St.of, zaI, nbeq (show j + 1000 ≠ 1 by omega), nbeq (show j + 1000 ≠ 2 by omega), nbeq (show j + 1000 ≠ 100 by omega), cond_false]
 ·obtain ⟨j, hj, rfl⟩ := (hFm q).1 hq
  rfl
 ·show (ρ 0 :: F.map fun p => ρ p.1).Nodup
  have e1 : (F.map fun p => ρ p.1) = (List.range l.length).map fun j => j + 1000 := by
   have e1 : (F.map fun p => ρ p.1) = (F.map Prod.fst).map ρ := by rw [List.map_map]; rfl
   rw [e1, hFf, List.map_map]
   refine List.map_congr_left fun j hj => ?_
   show ρ (0 + j + 1000) = _
   rw [Nat.zero_add, hρa _ (by omega)]
  rw [e1, hρ0]
  exact cpN_nd3 _ (by omega)
end Go.Proofs.YtkdfdcodkeclmaaGreatDoor
