/- trie: Put, strip, Drop, DropOwner. -/
import Derived.Test.YtgpleldhddpcgaaGreatDoorSTw4
import Derived.Test.YtgpleldhddpcgaaGreatDoorSTrY
namespace Go.Proofs.YtgpleldhddpcgaaGreatDoor
open Go.RowKit Go.Sort
set_option linter.unusedVariables false
set_option linter.unusedSimpArgs false
set_option maxRecDepth 100000
def zcN (l : List ND) : TR := rootRes (zcW l.length l)
theorem trieE_iff {l : List ND} (hok : ∀ x ∈ l, x.OK) : zfD l = 0 ↔ isTrie l (zcN l) := by
 unfold zfD
 constructor
 ·intro h
  split at h
  ·rename_i h'; exact absurd h h'
  ·split at h
   ·rename_i h1 h2; subst h2; exact ⟨trivial, trivial, rfl⟩
   ·split at h
    ·rename_i h1 h2 h3
     unfold zcN
     cases hq : zcW l.length l with
     | none => rw [hq] at h3; cases h3
     | some r =>
      obtain ⟨t, rest⟩ := r
      rw [hq] at h3
      obtain ⟨⟨hv, hs, _⟩, hl⟩ := zdA hok hq
      cases rest with
      | cons => cases h3
      | nil => exact ⟨hv, hs, by rw [List.append_nil] at hl; exact hl⟩
    ·exact absurd h (by decide)
 ·rintro ⟨hv, hs, hl⟩
  have h0 : zd4 l = 0 := zeM.2 fun x hx => TR.list_fault hs x (by rw [← hl]; exact hx)
  rw [if_neg (by simp [h0])]
  by_cases hne : l = []
  ·rw [if_pos hne]
  ·rw [if_neg hne]
   obtain ⟨t, ht⟩ := (isTrie_grow hok hne).1 ⟨_, hv, hs, hl⟩
   rw [ht]; rfl
theorem trieE_list {t : TR} (hok : ∀ x ∈ t.list, x.OK) (hv : t.valid) (hs : t.short) : zfD t.list = 0 ∧ zcN t.list = t := by
 have h2 : zcN t.list = t := by
  unfold zcN
  by_cases hn : t = .nil
  ·subst hn; rfl
  ·have := zei (t := t) (n := t.list.length) (rest := []) ⟨hv, hs, hn⟩ (Nat.le_refl _)
   rw [List.append_nil] at this
   rw [this]; rfl
 exact ⟨(trieE_iff hok).2 (by rw [h2]; exact ⟨hv, hs, rfl⟩), h2⟩
theorem TR.put_len : ∀ (t : TR) (n : Key) (o : Own), (t.put n o).list.length ≤ t.list.length + 2
 | .nil, n, o => by simp [TR.put, TR.list_nd, TR.list_nil]
 | .nd p q l r, n, o => by
  have h1 := TR.put_len l n o
  have h2 := TR.put_len r n o
  rw [TR.put]
  split
  ·simp [TR.list_nd]
  ·split
   ·split
    ·simp only [TR.list_nd, List.length_cons, List.length_append] at *; omega
    ·simp only [TR.list_nd, List.length_cons, List.length_append] at *; omega
   ·split
    ·split <;> simp [TR.list_nd, TR.list_nil]
    ·split <;> (simp only [TR.list_nd, TR.list_nil, List.length_cons, List.length_append, List.length_nil]; omega)
def nRes (e : Int) : AV := if e = 0 then .tup [.row 0, .p (.v (.int .i64 0))] else .tup [.p (.v (.slice none 0 0)), .p (.v (.int .i64 e))]
def nNew (e : Int) (l : List ND) : List (Nat × AObj) := if e = 0 then [(0, .row 55 4 l.length (nds l))] else []
theorem zhf {e : Int} (he : e ≠ 0) (l : List ND) : nRes e = .tup [.p (.v (.slice none 0 0)), .p (.v (.int .i64 e))] ∧ nNew e l = [] := by unfold nRes nNew; rw [if_neg he, if_neg he]; exact ⟨rfl, rfl⟩
theorem zgb (l : List ND) : nRes 0 = .tup [.row 0, .p (.v (.int .i64 0))] ∧ nNew 0 l = [(0, .row 55 4 l.length (nds l))] := by unfold nRes nNew; rw [if_pos rfl, if_pos rfl]; exact ⟨rfl, rfl⟩
theorem zdZ (l : List ND) : (nds l).all PV.isV = true := by
 induction l with
 | nil => rfl
 | cons x l ih => rw [zc2]; simp [PV.isV, ih]
def putE (l : List ND) (n : ND) : Int := if zfD l ≠ 0 then zfD l else if n.fault ≠ 0 then n.fault else if n.o = noOwn then 3 else 0
def putL (l : List ND) (n : ND) : List ND := ((zcN l).put n.key n.o).list
set_option maxHeartbeats 2000000 in
theorem Put_s (l : List ND) (hok : ∀ x ∈ l, x.OK) (hz : l.length * 40 ≤ 140737488351232) (n : ND) (hn : n.OK) : Fn Tryz.prog 21 [.p (ndsV l), .agg (netA n.a n.n), .p (.v (.string n.o))] (nRes (putE l n)) (nNew (putE l n) (putL l n)) := by
 have hC := tcheck_s l hok (by omega)
 have hT := tree_s l hok (by omega)
 have hTi := trieE_iff hok
 have hN := ze2 n.a n.n hn.a0 hn.a1
 have hK := @ND.keyed n hn.a0 hn.a1
 have e0 : zax n.a n.n = n.fault := rfl
 rw [e0] at hN
 unfold putE
 by_cases h1 : zfD l ≠ 0
 ·rw [if_pos h1]
  obtain ⟨e1, e2⟩ := zhf h1 (putL l n)
  rw [e1, e2]
  generalize zfD l = e at *
  refine zap Tryz.func21 rfl (Nat.le_of_ble_eq_true rfl) fun w0 A => ?_
  refine zaa ?_
  refine tx ?_
  refine zal (za2 (X := .agg _) 4 rfl) rfl rfl ⟨rfl, trivial⟩ ?_
  refine yA ?_
  refine yA ?_
  refine zab ?_
  refine zaa (zaa ?_)
  refine tx ?_
  refine yM ?_
  refine yV (fun n => 11 + 1000 * n) (hC) Tryz.func56 ?_
  refine yA ?_
  refine zab ?_
  refine zaa ?_
  refine tx ?_
  refine yM ?_
  refine yP za8 ?_
  refine zab ?_
  refine zae ?_
  refine zah _ rfl (fun h => ?_) (fun h => ?_)
  ·refine zaa ?_
   refine tx ?_
   refine yM ?_
   refine yA ?_
   refine yA ?_
   refine zab ?_
   refine zaf (zam ?_)
   refine fT (fun o => o) (.tmp _ _ _ _ rfl (.tmp _ _ _ _ rfl .nil)) ?_ ?_
   ·exact rfl
   ·exact trivial
  ·exact absurd (by simpa using h) h1
 rw [if_neg h1]
 replace h1 : zfD l = 0 := Decidable.not_not.1 h1
 rw [h1] at hC
 by_cases h2 : n.fault ≠ 0
 ·rw [if_pos h2]
  obtain ⟨e1, e2⟩ := zhf h2 (putL l n)
  rw [e1, e2]
  generalize n.fault = e at *
  refine zap Tryz.func21 rfl (Nat.le_of_ble_eq_true rfl) fun w0 A => ?_
  refine zaa ?_
  refine tx ?_
  refine zal (za2 (X := .agg _) 4 rfl) rfl rfl ⟨rfl, trivial⟩ ?_
  refine yA ?_
  refine yA ?_
  refine zab ?_
  refine zaa (zaa ?_)
  refine tx ?_
  refine yM ?_
  refine yV (fun n => 11 + 1000 * n) (hC) Tryz.func56 ?_
  refine yA ?_
  refine zab ?_
  refine zaa ?_
  refine tx ?_
  refine yM ?_
  refine yP zea ?_
  refine zab ?_
  refine zae ?_
  refine zah _ rfl (fun h => ?_) (fun h => ?_)
  ·cases h
  refine zad (zaa (zaa ?_))
  refine tx ?_
  refine lN Tryz.underlying52 rfl sz52 rfl rfl ⟨rfl, trivial⟩ ?_
  refine yV (fun n => 16 + 1000 * n) (hN) Tryz.func57 ?_
  refine yA ?_
  refine zab ?_
  refine zaa ?_
  refine tx ?_
  refine yM ?_
  refine yP za8 ?_
  refine zab ?_
  refine zae ?_
  refine zah _ rfl (fun h => ?_) (fun h => ?_)
  ·refine zaa ?_
   refine tx ?_
   refine yM ?_
   refine yA ?_
   refine yA ?_
   refine zab ?_
   refine zaf (zam ?_)
   refine fT (fun o => o) (.tmp _ _ _ _ rfl (.tmp _ _ _ _ rfl .nil)) ?_ ?_
   ·exact rfl
   ·exact trivial
  ·exact absurd (by simpa using h) h2
 rw [if_neg h2]
 replace h2 : n.fault = 0 := Decidable.not_not.1 h2
 rw [h2] at hN
 by_cases h3 : n.o = noOwn
 ·rw [if_pos h3]
  obtain ⟨e1, e2⟩ := zhf (show (3 : Int) ≠ 0 by decide) (putL l n)
  rw [e1, e2, h3]
  refine zap Tryz.func21 rfl (Nat.le_of_ble_eq_true rfl) fun w0 A => ?_
  refine zaa ?_
  refine tx ?_
  refine zal (za2 (X := .agg _) 4 rfl) rfl rfl ⟨rfl, trivial⟩ ?_
  refine yA ?_
  refine yA ?_
  refine zab ?_
  refine zaa (zaa ?_)
  refine tx ?_
  refine yM ?_
  refine yV (fun n => 11 + 1000 * n) (hC) Tryz.func56 ?_
  refine yA ?_
  refine zab ?_
  refine zaa ?_
  refine tx ?_
  refine yM ?_
  refine yP zea ?_
  refine zab ?_
  refine zae ?_
  refine zah _ rfl (fun h => ?_) (fun h => ?_)
  ·cases h
  refine zad (zaa (zaa ?_))
  refine tx ?_
  refine lN Tryz.underlying52 rfl sz52 rfl rfl ⟨rfl, trivial⟩ ?_
  refine yV (fun n => 16 + 1000 * n) (hN) Tryz.func57 ?_
  refine yA ?_
  refine zab ?_
  refine zaa ?_
  refine tx ?_
  refine yM ?_
  refine yP zea ?_
  refine zab ?_
  refine zae ?_
  refine zah _ rfl (fun h => ?_) (fun h => ?_)
  ·cases h
  refine zad (zaa (zaa ?_))
  refine tx ?_
  refine yM ?_
  refine yP zd9 ?_
  refine zab ?_
  refine zae ?_
  refine zah _ rfl (fun h => ?_) (fun h => ?_)
  ·refine zaa ?_
   refine tx ?_
   refine yA ?_
   refine yA ?_
   refine zab ?_
   refine zaf (zam ?_)
   refine fT (fun o => o) (.tmp _ _ _ _ rfl (.tmp _ _ _ _ rfl .nil)) ?_ ?_
   ·exact rfl
   ·exact trivial
  ·cases h
 rw [if_neg h3]
 obtain ⟨e1, e2⟩ := zgb (putL l n)
 rw [e1, e2]
 clear e1 e2
 obtain ⟨hv, hs, hl⟩ := hTi.1 h1
 obtain ⟨k1, k2, k3⟩ := hK h2
 have hP := put_s (zcN l) n.key n.o hs k1
 have hlen := TR.put_len (zcN l) n.key n.o
 rw [← hl] at hlen
 have hL := list_s ((zcN l).put n.key n.o) (by omega)
 have hCl := cloneN_s ((zcN l).put n.key n.o).list.length (nds ((zcN l).put n.key n.o).list) (zdY _) (by omega)
 have hT' : Fn Tryz.prog 59 [.p (ndsV l)] (.p (trP (zcN l))) [] := hT
 have hiv := zdZ ((zcN l).put n.key n.o).list
 unfold putL
 unfold keyA at hP
 rw [← k2, ← k3] at hP
 generalize ((zcN l).put n.key n.o) = u at *
 generalize zcN l = t at *
 generalize nds u.list = cs at *
 generalize u.list.length = m at *
 refine zap Tryz.func21 rfl (Nat.le_of_ble_eq_true rfl) fun w0 A => ?_
 refine zaa ?_
 refine tx ?_
 refine zal (za2 (X := .agg _) 4 rfl) rfl rfl ⟨rfl, trivial⟩ ?_
 refine yA ?_
 refine yA ?_
 refine zab ?_
 refine zaa (zaa ?_)
 refine tx ?_
 refine yM ?_
 refine yV (fun n => 11 + 1000 * n) (hC) Tryz.func56 ?_
 refine yA ?_
 refine zab ?_
 refine zaa ?_
 refine tx ?_
 refine yM ?_
 refine yP zea ?_
 refine zab ?_
 refine zae ?_
 refine zah _ rfl (fun h => ?_) (fun h => ?_)
 ·cases h
 refine zad (zaa (zaa ?_))
 refine tx ?_
 refine lN Tryz.underlying52 rfl sz52 rfl rfl ⟨rfl, trivial⟩ ?_
 refine yV (fun n => 16 + 1000 * n) (hN) Tryz.func57 ?_
 refine yA ?_
 refine zab ?_
 refine zaa ?_
 refine tx ?_
 refine yM ?_
 refine yP zea ?_
 refine zab ?_
 refine zae ?_
 refine zah _ rfl (fun h => ?_) (fun h => ?_)
 ·cases h
 refine zad (zaa (zaa ?_))
 refine tx ?_
 refine yM ?_
 refine yP zbQ ?_
 refine zab ?_
 refine zae ?_
 refine zah _ rfl (fun h => ?_) (fun h => ?_)
 ·exact absurd (by simpa using h) h3
 refine zad (zaa ?_)
 refine zav 8 (by kernel_rfl) ?_
 refine yM ?_
 refine cS (fun n => 23 + 1000 * n) (hT') Tryz.func59 ?_
 refine lN Tryz.underlying52 rfl sz52 rfl rfl ⟨rfl, trivial⟩ ?_
 refine yM ?_
 refine cS (fun n => 26 + 1000 * n) (hP) Tryz.func58 ?_
 refine cS (fun n => 27 + 1000 * n) (hL) Tryz.func60 ?_
 refine zcv (fun n => 28 + 1000 * n) (hCl) rfl rfl Tryz.func40 rfl rfl (by simp [AV.noSl, AV.noSlL, AObj.noSl, hiv]) (by simp [AV.noSl, AV.noSlL, AObj.noSl, hiv]) rfl rfl rfl (by first | exact trivial | exact ⟨rfl, trivial⟩ | exact ⟨rfl, rfl, trivial⟩ | exact ⟨rfl, rfl, rfl, rfl, rfl, trivial⟩) rfl rfl rfl ?_
 refine yP (zas (r := .row _)) ?_
 refine yA ?_
 refine zab ⟨by kernel_rfl, ?_⟩
 refine zaf ?_
 refine fT (fun _ => 28) (.tmp _ _ _ _ rfl (.tmp _ _ _ _ rfl .nil)) ?_ ?_
 ·exact rfl
 ·exact ⟨⟨rfl, rfl⟩, trivial⟩
end Go.Proofs.YtgpleldhddpcgaaGreatDoor
