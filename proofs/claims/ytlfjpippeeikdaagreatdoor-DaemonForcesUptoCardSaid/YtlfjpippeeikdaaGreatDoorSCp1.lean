/- conf.Copy, over data: the nets of the copy are the caller's own. -/
import Derived.Test.YtlfjpippeeikdaaGreatDoorSAp4
set_option linter.all false
namespace Go.Proofs.YtlfjpippeeikdaaGreatDoor
open Tryz
open Go.RowKit Go.Sort
set_option maxHeartbeats 16000000
set_option maxRecDepth 100000
def nrO (p : PE) : AObj := .row 82 2 p.nets.length (p.nets.flatMap ntC)
def zbb : Nat → List PE → List (Nat × AObj)
 | _, [] => []
 | k, p :: l => (k + 1000, nrO p) :: zbb (k + 1) l
theorem zcl : ∀ {l : List PE} {k : Nat} {q : Nat × AObj}, q ∈ zbb k l ↔ ∃ i, ∃ h : i < l.length, q = (k + i + 1000, nrO l[i])
 | [], k, q => by simp [zbb]
 | p :: l, k, q => by
  rw [zbb, qaI, zcl (l := l)]
  constructor
  ·rintro (rfl | ⟨i, h, rfl⟩)
   ·exact ⟨0, qz, qz⟩
   ·exact ⟨i + 1, by simpa using h, by simp; omega⟩
  ·rintro ⟨i, h, rfl⟩
   cases i with
   | zero => exact .inl qz
   | succ i => exact .inr ⟨i, by simpa using h, by simp; omega⟩
theorem zdb : ∀ (l : List PE) (k : Nat), (zbb k l).map Prod.fst = (List.range l.length).map fun i => k + i + 1000
 | [], k => rfl
 | p :: l, k => by
  rw [zbb, qaF, zdb l (k + 1), qaO, List.range_succ_eq_map, qaF, qbg]
  congr 1
  apply qbw
  intro i _
  show k + 1 + i + 1000 = k + (i + 1) + 1000
  omega
theorem famsO_app : ∀ (l m : List PE) (k : Nat), zbb k (l ++ m) = zbb k l ++ zbb (k + l.length) m
 | [], m, k => rfl
 | p :: l, m, k => by
  rw [qa2, zbb, zbb, famsO_app l m (k + 1), qa2, qaO]
  congr 3
  omega
theorem zhc {l : List PE} {k o : Nat} (h : o < 1000) : zaT (zbb k l) o = .un := by
 cases hs : zaT (zbb k l) o with
 | un => rfl
 | live ob =>
  obtain ⟨i, hi, e⟩ := zcl.1 (za7 hs)
  simp only [Prod.mk.injEq] at e
  omega
 | dead =>
  exfalso
  have : ∀ L : List (Nat × AObj), zaT L o ≠ .dead := by
   intro L
   induction L with
   | nil => intro h; cases h
   | cons p L ih =>
    obtain ⟨a, b⟩ := p
    by_cases e : o = a
    ·subst e; simp [zaT]
    ·simp only [zaT, nbeq e, cond_false]; exact ih
  exact this _ hs
theorem zgF {l : List PE} {k i : Nat} (h : i < l.length) : zaT (zbb k l) (k + i + 1000) = .live (nrO l[i]) := by
 induction l generalizing k i with
 | nil => simp at h
 | cons p l ih =>
  rw [zbb]
  cases i with
  | zero => simp [zaT]
  | succ i =>
   have hne : k + (i + 1) + 1000 ≠ k + 1000 := qk
   simp only [zaT, nbeq hne, cond_false]
   have := ih (k := k + 1) (i := i) qG
   rw [show k + 1 + i + 1000 = k + (i + 1) + 1000 by omega] at this
   simpa using this
theorem leO_of {ρ : Nat → Nat} {st : St} {K : List Nat} : ∀ {L : List (Nat × AObj)}, (∀ p ∈ L, st.heap (ρ p.1) = .live (p.2.ren ρ) ∧ p.2.okIn K = true) → LeO ρ st K L
 | [], _ => trivial
 | p :: L, h => ⟨h p qz, leO_of fun q hq => h q (by simp [hq])⟩
theorem zcj : ∀ {l : List Nat}, l.Nodup → zbj l = true
 | [], _ => rfl
 | x :: l, h => by
  rw [List.nodup_cons] at h
  simp only [zbj, qaT, qbU, List.elem_eq_mem, decide_eq_false_iff_not]
  exact ⟨h.1, zcj h.2⟩
theorem zfm {K : List Nat} : ∀ (l : List PE) (k : Nat), (∀ i, i < l.length → k + i + 1000 ∈ K) → AV.okInL K (pcs (fun i => i + 1000) k l) = true
 | [], k, _ => rfl
 | p :: l, k, h => by
  have h0 := h 0 qz
  rw [qbi] at h0
  have ih := zfm (K := K) l (k + 1) fun i hi => by
   have := h (i + 1) qaj
   rwa [show k + (i + 1) + 1000 = k + 1 + i + 1000 by omega] at this
  rw [pcs]
  simp only [pcA, qa2, qbc, AV.okInL, AV.okIn, Bool.true_and, ih, Bool.and_true, List.elem_eq_mem, decide_eq_true_eq]
  exact h0
theorem zeS {ρ : Nat → Nat} {nm : Nat → Nat} : ∀ (l : List PE) (k : Nat), AV.renL ρ (pcs nm k l) = pcs (fun i => ρ (nm i)) k l
 | [], k => rfl
 | p :: l, k => by
  rw [pcs, pcs]
  simp only [pcA, qa2, qbc, AV.renL, AV.ren]
  rw [zeS l (k + 1)]
theorem cpN_nd2 : ∀ i, i < 7 → (1 :: 2 :: 24 :: ((List.range i).map (fun j => j + 1000) ++ [19])).Nodup := qw
theorem cpN_nd3 : ∀ i, i < 7 → (100 :: (List.range i).map (fun j => j + 1000)).Nodup := qw
theorem cpN_nd : ∀ n, n < 7 → (0 :: (List.range n).map fun i => 0 + i + 1000).Nodup := qw
theorem cfCopyS_s (c : CF) (ok : c.OK) (h6 : c.ps.length ≤ 6) : Fn prog 40 [.agg c.cells] (.agg [qc c.key, qd c.port, .row 0]) ((0, .rowA 48 5 c.ps.length none (pcs (fun i => i + 1000) 0 c.ps)) :: zbb 0 c.ps) := by
 obtain ⟨key, port, l⟩ := c
 obtain ⟨hn, ok⟩ := ok
 dsimp only at hn ok h6
 show Fn prog _ [.agg (cfC key port l.length (l.flatMap PE.pv))] (.agg [qc key, qd port, .row 0]) ((0, .rowA 48 5 l.length none (pcs (fun i => i + 1000) 0 l)) :: zbb 0 l)
 refine fnI fun w0 A => ?_
 refine G [10] ?_
 refine zab (zhB 9 U22 eo48 qk qk qy) rfl rfl ⟨rfl, trivial⟩ ?_
 refine G [11] ?_
 refine zaZ (zef 9 rfl) ?_
 refine zae (fun m st => ∃ i : Nat, m + i = l.length ∧ st = St.of [(1, .ref 1 0), (2, .ref 2 0), (3, .row 100), (11, .p (.sl l.length 5 (l.flatMap PE.pv))), (12, qd l.length), (13, qd i)] ((1, .box 24 (cfC key port l.length (l.flatMap PE.pv))) :: (2, .box 24 [qc ⟨#[]⟩, qd 0, qj]) :: (100, .rowA 48 5 i none (pcs (fun i => i + 1000) 0 (l.take i))) :: zbb 0 (l.take i))) l.length ?_ ?_
 ·exact jbE
 rintro m st ⟨i, hi, rfl⟩
 refine G [5] ?_
 refine cX ?_ ?_ <;> intro h
 ·have hlt : i < l.length := by simp at h; omega
  clear h
  obtain ⟨p, hp⟩ : ∃ p, l[i]? = some p := ⟨l[i], List.getElem?_eq_getElem hlt⟩
  have hch := zaj (f := PE.pv) (k := 5) (fun _ => rfl) hp
  have hle := zak (f := PE.pv) (k := 5) (fun _ => rfl) hlt
  have hpl := (ok p (qaE hp)).2
  have hC := nclone_s p.nets hpl
  have htk : l.take (i + 1) = l.take i ++ [p] := by
   obtain ⟨h1, h2⟩ := qaG.1 hp
   rw [qaM h1, h2]
  have htl : (l.take i).length = i := by rw [List.length_take]; omega
  have hF : ∀ o, o < 1000 → zaT (zbb 0 (l.take i)) o = .un := fun o ho => zhc ho
  have hFa : ∀ j, (h : j < i) → zaT (zbb 0 (l.take i)) (j + 1000) = .live (nrO (l[j]'qk)) := fun j hj => by
   have := zgF (l := l.take i) (k := 0) (i := j) qk
   rw [Nat.zero_add, qb4] at this
   exact this
  have hPp : pcs (fun i => i + 1000) 0 (l.take (i + 1)) = pcs (fun i => i + 1000) 0 (l.take i) ++ pcA p (i + 1000) := by
   rw [htk, zg5, htl, Nat.zero_add]
   simp [pcs]
  have hPl : (pcs (fun i => i + 1000) 0 (l.take i)).length = i * 5 := by rw [zej, htl]
  have hPr : ∀ ρ : Nat → Nat, (∀ j, j < i → ρ (j + 1000) = j + 1000) → AV.renL ρ (pcs (fun i => i + 1000) 0 (l.take i)) = pcs (fun i => i + 1000) 0 (l.take i) := fun ρ hρ => by
   rw [zeS]
   exact zek _ _ fun j hj => by rw [Nat.zero_add]; exact hρ j qk
  have hFf : (zbb 0 (l.take (i + 1))).map Prod.fst = (List.range (i + 1)).map fun j => 0 + j + 1000 := by rw [zdb, List.length_take, Nat.min_eq_left (by omega)]
  obtain ⟨FN, hFN⟩ : ∃ FN, zbb 0 (l.take (i + 1)) = FN := ⟨_, rfl⟩
  have hFm : ∀ q ∈ FN, (∃ j, ∃ h : j < i, q = (j + 1000, nrO (l[j]'qk))) ∨ q = (i + 1000, nrO p) := fun q hq => by
   rw [← hFN, htk, famsO_app, htl, Nat.zero_add] at hq
   rcases qaW.1 hq with hq | hq
   ·obtain ⟨j, hj, rfl⟩ := zcl.1 hq
    left
    refine ⟨j, qk, ?_⟩
    rw [Nat.zero_add, qb4]
   ·right
    simpa [zbb] using hq
  have hPo := zfm (K := 1 :: 2 :: 100 :: FN.map Prod.fst) (l.take (i + 1)) 0 (fun j hj => by
   rw [← hFN, hFf]
   rw [List.length_take] at hj
   simp only [qaI, qaJ, qb1]
   exact .inr (.inr (.inr ⟨j, qk, rfl⟩)))
  rw [hPp] at hPo
  rw [hFN] at hFf
  generalize hL : l.flatMap PE.pv = L at *
  obtain ⟨pk, sh, ep, al, nn⟩ := p
  dsimp only at hC hpl
  obtain ⟨F, hFe⟩ : ∃ F, zbb 0 (l.take i) = F := ⟨_, rfl⟩
  obtain ⟨C, hCe⟩ : ∃ C, pcs (fun i => i + 1000) 0 (l.take i) = C := ⟨_, rfl⟩
  rw [hFe] at hF hFa ⊢
  rw [hCe] at hPp hPl hPr hPo ⊢
  refine G [7] ?_
  refine zab (zaJ 5 zr48 rfl) rfl rfl ⟨hF 5 qw, trivial⟩ ?_
  refine jc5 ?_
  refine G [5] ?_
  refine zaM (fun _ => 19) hC rfl rfl func73 rfl rfl qr rfl rfl rfl ⟨hF 19 qw, trivial⟩ rfl rfl rfl ?_
  refine G [6] ?_
  refine zab (zd3 23 U22 sz48 zc48 (qaA rfl) (qaA rfl) rfl rfl (qaA rfl)) rfl rfl ⟨hF 23 qw, trivial⟩ ?_
  refine zab (a_appendB (k := i + 1) (zs := C ++ pcA ⟨pk, sh, ep, al, nn⟩ 19) 24 U22 eo48 rfl rfl qy qk rfl rfl) rfl rfl ⟨rfl, hF 24 qw, rfl, trivial⟩ ?_
  refine jcV ?_
  obtain ⟨ρ, hρ⟩ : ∃ ρ : Nat → Nat, ρ = fun o => bif Nat.beq o 100 then 24 else bif Nat.beq o (i + 1000) then 19 else o := ⟨_, rfl⟩
  have hρa : ∀ o, o ≠ 100 → o ≠ i + 1000 → ρ o = o := fun o a1 a2 => by rw [hρ]; simp only [nbeq a1, nbeq a2, cond_false]
  have hρ1 : ρ 100 = 24 := by rw [hρ]; rfl
  have hρ2 : ρ (i + 1000) = 19 := by rw [hρ]; simp only [nbeq (show i + 1000 ≠ 100 by omega), qbv, cond_false, cond_true]
  refine ⟨m - 1, qk, St.of [(1, .ref 1 0), (2, .ref 2 0), (3, .row 100), (11, .p (.sl l.length 5 L)), (12, qd l.length), (13, qd (i + 1 : Nat))] ((1, .box 24 (cfC key port l.length L)) :: (2, .box 24 [qc ⟨#[]⟩, qd 0, qj]) :: (100, .rowA 48 5 (i + 1) none (C ++ pcA ⟨pk, sh, ep, al, nn⟩ (i + 1000))) :: FN), zad ρ _ _ ?_ ?_ ?_, i + 1, qk, by rw [← hPp, hFN]⟩
  ·refine ⟨⟨by show _ = AV.ref (ρ 1) 0; rw [hρa 1 (by decide) (by omega)]; rfl, rfl⟩, ⟨by show _ = AV.ref (ρ 2) 0; rw [hρa 2 (by decide) (by omega)]; rfl, rfl⟩, ⟨by show _ = AV.row (ρ 100); rw [hρ1]; rfl, rfl⟩, ⟨rfl, rfl⟩, ⟨rfl, rfl⟩, ⟨by first | rfl | (simp; done), rfl⟩, trivial⟩
  ·refine ⟨⟨?_, rfl⟩, ⟨?_, rfl⟩, ⟨?_, hPo⟩, leO_of fun q hq => ⟨?_, ?_⟩⟩
   ·show St.heap _ (ρ 1) = _
    rw [hρa 1 (by decide) (by omega)]; rfl
   ·show St.heap _ (ρ 2) = _
    rw [hρa 2 (by decide) (by omega)]; rfl
   ·show St.heap _ (ρ 100) = .live (.rowA _ 5 (i + 1) none (AV.renL ρ (C ++ pcA ⟨pk, sh, ep, al, nn⟩ (i + 1000))))
    have hra : ∀ (x y : List AV), AV.renL ρ (x ++ y) = AV.renL ρ x ++ AV.renL ρ y := by
     intro x y
     induction x with
     | nil => rfl
     | cons a x ih => simp only [qa2, AV.renL, ih]
    rw [hρ1, hra, hPr ρ (fun j hj => hρa _ (by omega) (by omega))]
    simp only [pcA, AV.renL, AV.ren, hρ2]
    rfl
   ·rcases hFm q hq with ⟨j, hj, rfl⟩ | rfl
    ·show St.heap _ (ρ (j + 1000)) = .live (nrO _)
     rw [hρa _ (by omega) (by omega), ← hFa j hj]
     show updL _ _ _ = _
     simp only [updL, nbeq (show j + 1000 ≠ 24 by omega), nbeq (show j + 1000 ≠ 9 by omega), nbeq (show j + 1000 ≠ 100 by omega), nbeq (show j + 1000 ≠ 23 by omega), nbeq (show j + 1000 ≠ 19 by omega), nbeq (show j + 1000 ≠ 5 by omega), cond_false]
     simp only [zbN, St.upd, za4, qaF, qbY, updL, St.of, zaT, nbeq (show j + 1000 ≠ 24 by omega), nbeq (show j + 1000 ≠ 1 by omega), nbeq (show j + 1000 ≠ 2 by omega), nbeq (show j + 1000 ≠ 100 by omega), nbeq (show j + 1000 ≠ 23 by omega), nbeq (show j + 1000 ≠ 19 by omega), nbeq (show j + 1000 ≠ 5 by omega), cond_false]
    ·show St.heap _ (ρ (i + 1000)) = _
     rw [hρ2]; rfl
   ·rcases hFm q hq with ⟨j, hj, rfl⟩ | rfl <;> rfl
  ·refine zcj ?_
   have e : (FN.map fun p => ρ p.1) = ((List.range i).map fun j => j + 1000) ++ [19] := by
    have e1 : (FN.map fun p => ρ p.1) = (FN.map Prod.fst).map ρ := by rw [qbg]; rfl
    rw [e1, hFf, List.range_succ, qa4, qa4, qbg]
    congr 1
    ·refine qbw fun j hj => ?_
     rw [qb1] at hj
     show ρ (0 + j + 1000) = _
     rw [Nat.zero_add, hρa _ (by omega) (by omega)]
    ·show [ρ (0 + i + 1000)] = _
     rw [Nat.zero_add, hρ2]
   show (ρ 1 :: ρ 2 :: ρ 100 :: FN.map fun p => ρ p.1).Nodup
   rw [e, hρa 1 (by decide) (by omega), hρa 2 (by decide) (by omega), hρ1]
   exact cpN_nd2 i qk
 have hge : i = l.length := by simp at h; omega
 clear h
 subst hge
 rw [qa5]
 have hFa : ∀ j, (h : j < l.length) → zaT (zbb 0 l) (j + 1000) = .live (nrO l[j]) := fun j hj => by
  exact jcm
 have hPo := zfm (K := 0 :: (zbb 0 l).map Prod.fst) l 0 (fun j hj => by
  rw [zdb]
  simp only [qaI, qaJ, qb1]
  exact .inr ⟨j, qk, rfl⟩)
 have hFf := zdb l 0
 have hFm := fun q => @zcl l 0 q
 obtain ⟨F, hFe⟩ : ∃ F, zbb 0 l = F := ⟨_, rfl⟩
 rw [hFe] at hFa hPo hFf hFm ⊢
 generalize l.flatMap PE.pv = L at *
 refine G [13] ?_
 obtain ⟨ρ, hρ⟩ : ∃ ρ : Nat → Nat, ρ = fun o => bif Nat.beq o 0 then 100 else o := ⟨_, rfl⟩
 have hρ0 : ρ 0 = 100 := by rw [hρ]; rfl
 have hρa : ∀ o, o ≠ 0 → ρ o = o := fun o a1 => by rw [hρ]; simp only [nbeq a1, cond_false]
 refine ⟨qI, _, ρ, (.cellN _ _ _ _ _ _ _ _ _ rfl rfl U24 rfl sz24 qap .nil), ?_, rfl, ⟨⟨?_, hPo⟩, leO_of fun q hq => ⟨?_, ?_⟩⟩, zcj ?_⟩
 ·rw [hρ]; rfl
 ·show St.heap _ (ρ 0) = .live (.rowA _ 5 l.length none (AV.renL ρ (pcs (fun i => i + 1000) 0 l)))
  rw [hρ0, zeS, zek (nm := fun i => ρ (i + 1000)) (nm' := fun i => i + 1000) l 0 (fun j hj => hρa _ (by omega))]
  rfl
 ·obtain ⟨j, hj, rfl⟩ := (hFm q).1 hq
  show St.heap _ (ρ (0 + j + 1000)) = .live (nrO _)
  rw [hρa _ (by omega), ← hFa j hj]
  simp only [Nat.zero_add, zbN, St.upd, za4, qaF, qbY, updL, St.of, zaT, nbeq (show j + 1000 ≠ 1 by omega), nbeq (show j + 1000 ≠ 2 by omega), nbeq (show j + 1000 ≠ 100 by omega), cond_false]
 ·obtain ⟨j, hj, rfl⟩ := (hFm q).1 hq
  rfl
 ·show (ρ 0 :: F.map fun p => ρ p.1).Nodup
  have e1 : (F.map fun p => ρ p.1) = (List.range l.length).map fun j => j + 1000 := by
   have e1 : (F.map fun p => ρ p.1) = (F.map Prod.fst).map ρ := by rw [qbg]; rfl
   rw [e1, hFf, qbg]
   refine qbw fun j hj => ?_
   show ρ (0 + j + 1000) = _
   rw [Nat.zero_add, hρa _ (by omega)]
  rw [e1, hρ0]
  exact cpN_nd3 _ qk
end Go.Proofs.YtlfjpippeeikdaaGreatDoor
