/- The reference's StatesFault, over data. -/
import Derived.Test.YtgpleldhddpcgaaGreatDoorSTc2
import Derived.Test.YtgpleldhddpcgaaGreatDoorSMq
namespace Go.Proofs.YtgpleldhddpcgaaGreatDoor
open Go.RowKit Go.Sort
set_option linter.unusedVariables false
set_option linter.unusedSimpArgs false
set_option maxRecDepth 100000
/-- a set of numbers as a map's entries -/
def mpE (D : List Int) : List (Value × Value) := D.map fun n => (.int .i64 n, .bool true)
theorem zfL {n : Int} : ∀ {D : List Int} (k : Nat), n ∉ D → zd1 (.int .i64) (.int .i64 n) (mpE D) k = some none
 | [], _, _ => rfl
 | x :: D, k, h => by
  have h1 : n ≠ x := fun e => h (by simp [e])
  have ih := zfL (n := n) (D := D) (k + 1) fun hh => h (by simp [hh])
  show zd1 (.int .i64) (.int .i64 n) ((.int .i64 x, .bool true) :: mpE D) k = _
  simp only [zd1, Instr.sameNow, if_true]
  rw [show (n == x) = false by simpa using h1]
  exact ih
theorem zhg {n : Int} : ∀ {D : List Int} (k : Nat), n ∈ D → ∃ i, zd1 (.int .i64) (.int .i64 n) (mpE D) k = some (some (k + i, .bool true)) ∧ (mpE D)[i]? = some (.int .i64 n, .bool true)
 | [], _, h => by cases h
 | x :: D, k, h => by
  by_cases e : n = x
  ·subst e
   refine ⟨0, ?_, rfl⟩
   show zd1 (.int .i64) (.int .i64 n) ((.int .i64 n, .bool true) :: mpE D) k = _
   simp [zd1, Instr.sameNow]
  ·have h' : n ∈ D := by simpa [e] using h
   obtain ⟨i, h1, h2⟩ := zhg (n := n) (D := D) (k + 1) h'
   refine ⟨i + 1, ?_, by simpa [mpE] using h2⟩
   show zd1 (.int .i64) (.int .i64 n) ((.int .i64 x, .bool true) :: mpE D) k = _
   simp only [zd1, Instr.sameNow, if_true]
   rw [show (n == x) = false by simpa using e]
   rw [show k + (i + 1) = k + 1 + i by omega]
   exact h1
theorem set_same {α : Type} {l : List α} {i : Nat} {x : α} (h : l[i]? = some x) : l.set i x = l := by
 apply List.ext_getElem?
 intro j
 rw [List.getElem?_set]
 by_cases e : i = j
 ·subst e
  obtain ⟨h1, h2⟩ := List.getElem?_eq_some_iff.1 h
  simp [h1, h2]
 ·simp [e]
theorem kE_nn {k : KY} (h : kE k = 0) : 0 ≤ k.mine := by
 cases hl : k.live with
 | true => have := (kE_bounds h hl).1; omega
 | false =>
  unfold kE at h
  rw [if_pos hl] at h
  split at h
  ·rename_i hz
   rw [KY.zero_iff] at hz
   rw [hz]
   exact Int.le_refl 0
  ·cases h
theorem hsE_nn {x : HS} (h : hsE x = 0) : 0 ≤ x.mine := by
 unfold hsE at h
 split at h
 ·split at h
  ·omega
  ·cases h
 ·split at h
  ·cases h
  ·split at h
   ·exact absurd h (by assumption)
   ·split at h
    ·cases h
    ·omega
theorem stE_good {s : ST} (h : stE s = 0) : keyE s.key = 0 ∧ ∀ n ∈ zbm s, 0 ≤ n := by
 unfold stE at h
 split at h
 ·exact absurd h (by assumption)
 rename_i h1
 split at h
 ·exact absurd h (by assumption)
 rename_i h2
 split at h
 ·exact absurd h (by assumption)
 rename_i h3
 have h2 : ksE s.a s.b s.c = 0 := Decidable.not_not.1 h2
 have h3 : hsE s.h = 0 := Decidable.not_not.1 h3
 have hk := zfM h2
 refine ⟨Decidable.not_not.1 h1, fun n hn => ?_⟩
 simp only [zbm, List.mem_cons, List.not_mem_nil, or_false] at hn
 rcases hn with rfl | rfl | rfl | rfl
 ·exact kE_nn (hk 0 (by omega))
 ·exact kE_nn (hk 1 (by omega))
 ·exact kE_nn (hk 2 (by omega))
 ·exact hsE_nn h3
theorem given_s (s : ST) : Fn Tryz.prog 87 [.agg s.cells] (.row 0) [(0, .row 3 1 4 (is (zbm s)))] := by
 show Fn Tryz.prog _ _ _ [(0, .row 3 1 4 [.v (.int .i64 s.a.mine), .v (.int .i64 s.b.mine), .v (.int .i64 s.c.mine), .v (.int .i64 s.h.mine)])]
 refine zap Tryz.func87 rfl (Nat.le_of_ble_eq_true rfl) fun w0 A => ?_
 refine zaa ?_
 refine tx ?_
 refine zal (za2 (X := .agg _) 1 rfl) rfl rfl ⟨rfl, trivial⟩ ?_
 refine yA ?_
 refine zab ?_
 refine zaa ?_
 refine tx ?_
 refine yF zbI ?_
 refine yF fi76_0 ?_
 refine yF zdL ?_
 refine yL Tryz.underlying3 ?_
 refine yF zbI ?_
 refine yF fi76_1 ?_
 refine yF zdL ?_
 refine yL Tryz.underlying3 ?_
 refine yF zbI ?_
 refine yF fi76_2 ?_
 refine yF zdL ?_
 refine yL Tryz.underlying3 ?_
 refine yF zb1 ?_
 refine yF zfy ?_
 refine yL Tryz.underlying3 ?_
 refine zal (xs := [.p (.v (.int .i64 s.a.mine)), .p (.v (.int .i64 s.b.mine)), .p (.v (.int .i64 s.c.mine)), .p (.v (.int .i64 s.h.mine))]) (zaO (es := [.p (.v (.int .i64 s.a.mine)), .p (.v (.int .i64 s.b.mine)), .p (.v (.int .i64 s.c.mine)), .p (.v (.int .i64 s.h.mine))]) (cs := [.v (.int .i64 s.a.mine), .v (.int .i64 s.b.mine), .v (.int .i64 s.c.mine), .v (.int .i64 s.h.mine)]) 18 Tryz.underlying124 sz3 zc3 (Nat.le_of_ble_eq_true rfl) (Nat.le_of_ble_eq_true rfl) rfl (by kernel_rfl) (by kernel_rfl) (by kernel_rfl) (Nat.le_of_ble_eq_true rfl)) (by first | rfl | kernel_rfl) rfl ⟨rfl, trivial⟩ ?_
 refine yP (zas (r := .row _)) ?_
 refine zab ?_
 refine zaf ?_
 refine fT (fun _ => 18) (.tmp _ _ _ _ rfl .nil) ?_ ?_
 ·exact rfl
 ·exact ⟨⟨rfl, rfl⟩, trivial⟩
section
variable {P : Program} {d : Option Tmp} {ty : TypeId} {pos : String} {af : Array Edge} {g : Option (Nat × Bool)}
theorem a_mapKeep {t kt et : TypeId} {kd : TypeDesc} {o i : Nat} {kv ov : Value} {es : List (Value × Value)} {x y z : Operand} (hu : P.underlying t = some (.map kt et)) (hk : P.underlying kt = some kd) (hp : zcZ kd = true) (hq : MapKept.IsKey kd kv) (hf : zd1 kd kv es 0 = some (some (i, ov))) (hi : es[i]? = some (kv, ov)) :
  AOp P ⟨d, .mapUpdate t x y z, ty, pos, af, g⟩ [.mp o, .p (.v kv), .p (.v ov)] [(o, .live (.map es))] [(o, .live (.map es))] .any := by
 have h := a_mapUpdateO (d := d) (ty := ty) (pos := pos) (af := af) (g := g) (x := x) (y := y) (z := z) (xv := ov) (o := o) hu hk hp hq hf hi
 rwa [set_same hi] at h
end
theorem key_ne : ¬ keyE ⟨#[]⟩ = 0 := by decide +kernel
def lastK (l : List ST) (i : Nat) : ByteArray := if i = 0 then ⟨#[]⟩ else (stG l (i - 1)).key
set_option maxHeartbeats 8000000 in
theorem refStates_s (l : List ST) (ok : ∀ s ∈ l, s.OK) (hn : l.length ≤ 1048576) : Fn Tryz.prog 49 [.p (.sl l.length 41 (l.flatMap ST.pv))] (.p (.v (.int .i64 (stsE l)))) [] := by
 obtain ⟨E, hE⟩ : ∃ E, stsE l = E := ⟨_, rfl⟩
 rw [hE]
 unfold stsE at hE
 refine zap Tryz.func49 rfl (Nat.le_of_ble_eq_true rfl) fun w0 A => ?_
 refine zaa ?_
 refine tx ?_
 refine yA ?_
 refine zab ?_
 refine zaa (zaa ?_)
 refine tx ?_
 refine yM ?_
 refine yP (zaC Tryz.underlying40) ?_
 refine yP za5 ?_
 refine zab ?_
 refine zae ?_
 refine zah _ rfl (fun h => ?_) (fun h => ?_)
 ·have h6 : 6 < l.length := by simp at h; omega
  rw [if_pos h6] at hE
  subst hE
  refine zaa ?_
  refine tx ?_
  refine yA ?_
  refine zab ?_
  refine zaf (zam ?_)
  refine yT ?_ ?_
  ·exact rfl
  ·exact trivial
 have h6 : ¬ 6 < l.length := by simp at h; omega
 clear h
 rw [if_neg h6] at hE
 refine zad (zaa ?_)
 refine tx ?_
 refine zal (a_makeMap 13) rfl rfl ⟨rfl, trivial⟩ ?_
 refine yP (zas (r := .mp _)) ?_
 refine zab ?_
 refine zaa ?_
 refine tx ?_
 refine yA ?_
 refine zab ?_
 refine zaa (zaa ?_)
 refine tx ?_
 refine yM ?_
 refine yP (zaC Tryz.underlying40) ?_
 refine yM ?_
 refine zab ?_
 refine zaj ?_
 refine zaE (fun m st => ∃ i : Nat, m + i = l.length ∧ (∀ j, j < i → zeU l j = 0) ∧ ∃ D : List Int, (∀ n, n ∈ D ↔ n ∈ allN l i) ∧ st = St.of [(3, .mp 13), (4, .p (.v (.string (lastK l i)))), (14, .p (.sl l.length 41 (l.flatMap ST.pv))), (15, .p (.v (.int .i64 l.length))), (16, .p (.v (.int .i64 i)))] [(13, .map (mpE D))]) l.length ?_ ?_
 ·refine ⟨_, zaJ id _ _ ?_ ?_ rfl, 0, by omega, by omega, [], by simp [allN], rfl⟩
  ·(repeat (first | exact trivial | (refine ⟨⟨(by first | rfl | (simp; done) | (simp; omega)), rfl⟩, ?_⟩)))
  ·exact ⟨⟨rfl, rfl⟩, trivial⟩
 rintro m st ⟨i, hi, hf, D, hD, rfl⟩
 refine zaa ?_
 refine tx ?_
 refine yP zaX ?_
 refine zab ?_
 refine zaa ?_
 refine zah _ rfl (fun h => ?_) (fun h => ?_)
 ·have hlt : i < l.length := by simp at h; omega
  clear h
  obtain ⟨s, hs⟩ : ∃ s, l[i]? = some s := ⟨l[i], List.getElem?_eq_getElem hlt⟩
  have hch := zaN (f := ST.pv) (k := 41) (fun _ => rfl) hs
  have hle := zaP (f := ST.pv) (k := 41) (fun _ => rfl) hlt
  have hok := ok s (List.mem_of_getElem? hs)
  have hC := refState_s s hok
  have hhit := @zb9 (zeU l) i l.length hf hlt
  have hst : zeU l i = if stE s ≠ 0 then stE s else if 0 < i ∧ leK s.key (stG l (i - 1)).key = true then 6 else if dupB (allN l i) (zbm s) = true then 6 else 0 := by unfold zeU; rw [stG_at hs]
  have hgood := @stE_good s
  have hlK : lastK l i = if i = 0 then ⟨#[]⟩ else (stG l (i - 1)).key := rfl
  have hlN : lastK l (i + 1) = s.key := by unfold lastK; rw [if_neg (by omega), Nat.add_sub_cancel, stG_at hs]
  generalize hL : l.flatMap ST.pv = L at *
  generalize stE s = e at *
  refine zad (zaa (zaj (zaa ?_)))
  refine tx ?_
  refine zac (zao Tryz.underlying40 sz81 (by omega) (by omega) rfl) rfl rfl ?_
  refine zac (zaz Tryz.underlying81 rfl sz81 (by rw [List.length_drop]; omega) (hch)) rfl rfl ?_
  refine zal (zaU 6 zr81 rfl) rfl rfl ⟨rfl, trivial⟩ ?_
  refine zal (zaA (Y := .agg s.cells) sz81 rfl rfl (Nat.eq_of_beq_eq_true rfl)) rfl rfl ⟨rfl, trivial⟩ ?_
  refine zab ?_
  refine zaa (zaa ?_)
  refine tx ?_
  refine zal (zaL Tryz.underlying81 rfl sz81 (by first | exact Nat.le_of_ble_eq_true rfl | omega | (simp only [AV.cells, List.length_map]; omega)) (show _ = s.cells from rfl)) rfl rfl ⟨rfl, trivial⟩ ?_
  refine cS (fun n => 21 + 1000 * n) (hC) Tryz.func86 ?_
  refine yA ?_
  refine zab ?_
  refine zaa ?_
  refine tx ?_
  refine yM ?_
  refine yP za8 ?_
  refine zab ?_
  refine zae ?_
  refine zah _ rfl (fun h => ?_) (fun h => ?_)
  ·have h7 : e ≠ 0 := by simpa using h
   rw [if_pos h7] at hst
   rw [hhit (by rw [hst]; exact h7), hst] at hE
   subst hE
   refine zaa ?_
   refine tx ?_
   refine yM ?_
   refine yA ?_
   refine zab ?_
   refine zaf (zam (zaK (zam (zam (zaK (zam ?_))))))
   refine yT ?_ ?_
   ·exact rfl
   ·exact trivial
  have h7 : e = 0 := by simpa using h
  clear h
  rw [if_neg (by simp [h7])] at hst
  obtain ⟨hkey, hnn⟩ := hgood h7
  have hkne : s.key ≠ ⟨#[]⟩ := fun e => key_ne (by rw [e] at hkey; exact hkey)
  generalize hLK : lastK l i = lk at *
  refine zad (zaa (zaa ?_))
  refine tx ?_
  refine yF zc4 ?_
  refine yL Tryz.underlying9 ?_
  refine yM ?_
  refine yP a_sleq ?_
  refine zab ?_
  refine zae ?_
  refine zah _ rfl (fun h => ?_) (fun h => ?_)
  ·have h8 : leK s.key lk = true := h
   have hi0 : i ≠ 0 := by
    intro e0
    rw [if_pos e0] at hlK
    rw [hlK] at h8
    unfold leK at h8
    rw [sLt_empty] at h8
    simp at h8
    exact hkne h8
   rw [if_neg hi0] at hlK
   rw [if_pos ⟨by omega, by rw [← hlK]; exact h8⟩] at hst
   rw [hhit (by rw [hst]; decide), hst] at hE
   subst hE
   refine zaa ?_
   refine tx ?_
   refine yA ?_
   refine zab ?_
   refine zaf (zam (zaK (zam (zam (zaK (zam ?_))))))
   refine yT ?_ ?_
   ·exact rfl
   ·exact trivial
  have h8 : ¬ leK s.key lk = true := by
   intro h9
   have h10 : leK s.key lk = false := h
   rw [h10] at h9
   cases h9
  clear h
  have hn8 : ¬ (0 < i ∧ leK s.key (stG l (i - 1)).key = true) := by
   intro ⟨q1, q2⟩
   rw [if_neg (by omega)] at hlK
   rw [← hlK] at q2
   exact h8 q2
  rw [if_neg hn8] at hst
  have hGv := given_s s
  have hgl : (zbm s).length = 4 := rfl
  have hnx : allN l (i + 1) = allN l i ++ zbm s := by
   obtain ⟨q1, q2⟩ := List.getElem?_eq_some_iff.1 hs
   unfold allN
   rw [List.take_succ_eq_append_getElem q1, q2, List.flatMap_append]
   simp
  obtain ⟨DD, hDD⟩ : ∃ b, dupB (allN l i) (zbm s) = b := ⟨_, rfl⟩
  rw [hDD] at hst
  refine zad (zaa ?_)
  refine tx ?_
  refine yF zc4 ?_
  refine yL Tryz.underlying9 ?_
  refine yA ?_
  refine zab ?_
  generalize hG : zbm s = G at *
  refine zaa ?_
  refine tx ?_
  refine zal (zaL Tryz.underlying81 rfl sz81 (by first | exact Nat.le_of_ble_eq_true rfl | omega | (simp only [AV.cells, List.length_map]; omega)) (show _ = s.cells from rfl)) rfl rfl ⟨rfl, trivial⟩ ?_
  refine cS (fun n => 32 + 1000 * n) (hGv) Tryz.func87 ?_
  refine zal (zeu Tryz.underlying124) rfl rfl ⟨rfl, trivial⟩ ?_
  refine yM ?_
  refine zab ?_
  refine zaj ?_
  refine zaE (fun m' st => ∃ j : Nat, m' + j = 4 ∧ ∃ D : List Int, (∀ n, n ∈ D ↔ n ∈ allN l i ++ G.take j) ∧ DD = dupB (allN l i ++ G.take j) (G.drop j) ∧ st = St.of [(3, .mp 13), (4, .p (.v (.string s.key))), (14, .p (.sl l.length 41 L)), (15, .p (.v (.int .i64 l.length))), (16, .p (.v (.int .i64 i))), (32, .row 32), (33, .p (.v (.int .i64 4))), (34, .p (.v (.int .i64 j)))] [(13, .map (mpE D)), (32, .row 3 1 4 (is G))]) 4 ?_ ?_
  ·refine ⟨_, zaJ id _ _ ?_ ?_ rfl, 0, by omega, D, by simpa using hD, by simpa using hDD.symm, rfl⟩
   ·(repeat (first | exact trivial | (refine ⟨⟨(by first | rfl | (simp; done) | (simp; omega)), rfl⟩, ?_⟩)))
   ·exact ⟨⟨rfl, rfl⟩, ⟨rfl, rfl⟩, trivial⟩
  clear hD
  rintro m' st ⟨j, hj, D, hD, hdp, rfl⟩
  refine zaa ?_
  refine tx ?_
  refine yP zaX ?_
  refine zab ?_
  refine zaa ?_
  refine zah _ rfl (fun h => ?_) (fun h => ?_)
  ·have hlj : j < 4 := by simp at h; omega
   clear h
   obtain ⟨n, hn5⟩ : ∃ n, G[j]? = some n := ⟨G[j]'(by omega), List.getElem?_eq_getElem _⟩
   have hat : (is G)[j]? = some (.v (.int .i64 n)) := by simp [is, hn5]
   have hil := is_len G
   have hdr : G.drop j = n :: G.drop (j + 1) := by
    obtain ⟨q1, q2⟩ := List.getElem?_eq_some_iff.1 hn5
    rw [List.drop_eq_getElem_cons q1, q2]
   have htk : G.take (j + 1) = G.take j ++ [n] := by
    obtain ⟨q1, q2⟩ := List.getElem?_eq_some_iff.1 hn5
    rw [List.take_succ_eq_append_getElem q1, q2]
   have hnz := hnn n (List.mem_of_getElem? hn5)
   rw [hdr, dupB, List.append_assoc, ← htk] at hdp
   have hDk : n ∈ D → ∀ k, k ∈ D ↔ k ∈ allN l i ++ G.take (j + 1) := fun hm k => by
    rw [htk, ← List.append_assoc, List.mem_append (t := [n]), ← hD k, List.mem_singleton]
    constructor
    ·exact .inl
    ·rintro (q | q)
     ·exact q
     ·rw [q]; exact hm
   have hDn : ∀ k, k ∈ D ++ [n] ↔ k ∈ allN l i ++ G.take (j + 1) := fun k => by
    rw [htk, ← List.append_assoc, List.mem_append (t := [n]), List.mem_append (t := [n]), hD k]
   have hpush : mpE D ++ [(Value.int .i64 n, Value.bool true)] = mpE (D ++ [n]) := by simp [mpE]
   have hDm := hD n
   refine zad (zaa (zaj (zaa ?_)))
   refine tx ?_
   refine zal (zaY Tryz.underlying124 sz3 (by omega) (by omega) (show _ = j by omega)) rfl rfl ⟨rfl, trivial⟩ ?_
   refine zal (zbt Tryz.underlying3 rfl hat) rfl rfl ⟨rfl, trivial⟩ ?_
   refine yA ?_
   refine zab ?_
   by_cases h0 : n = 0
   ·rw [show (decide (0 < n) && decide (n ∈ allN l i ++ List.take j G) || dupB (allN l i ++ List.take (j + 1) G) (List.drop (j + 1) G)) = dupB (allN l i ++ List.take (j + 1) G) (List.drop (j + 1) G) by simp [h0]] at hdp
    refine zaa (zaa ?_)
    refine tx ?_
    refine yM ?_
    refine zac (zaQ (c := false) (by simp [h0])) rfl rfl ?_
    refine yM ?_
    refine yS ?_
    refine yS ?_
    refine yS ?_
    refine yP zai ?_
    refine zab ?_
    refine zae ?_
    refine zan rfl ?_
    by_cases hm : n ∈ D
    ·obtain ⟨k0, hfd, hfi⟩ := zhg 0 hm
     rw [Nat.zero_add] at hfd
     refine zad (zae ?_)
     refine tx ?_
     refine yP (zaq (r := .mp _)) ?_
     refine yM ?_
     refine zal (a_mapKeep Tryz.underlying132 Tryz.underlying3 rfl (by simp [MapKept.IsKey]) hfd hfi) rfl rfl ⟨rfl, trivial⟩ ?_
     refine zab ?_
     refine za3 (zae ?_)
     refine tx ?_
     refine zac (za4 (by first | exact IntWalk.i64_in _ (by omega) | rfl)) rfl rfl ?_
     refine yM ?_
     refine zab ?_
     refine zae ?_
     refine ⟨m' - 1, by omega, _, zaJ id _ _ ?_ ?_ rfl, j + 1, by omega, D, hDk hm, hdp, rfl⟩
     ·(repeat (first | exact trivial | (refine ⟨⟨(by first | rfl | (simp; done) | (simp; omega)), rfl⟩, ?_⟩)))
     ·exact ⟨⟨rfl, rfl⟩, ⟨rfl, rfl⟩, trivial⟩
    ·refine zad (zae ?_)
     refine tx ?_
     refine yP (zaq (r := .mp _)) ?_
     refine yM ?_
     refine zal (zgy Tryz.underlying132 Tryz.underlying3 rfl (zfL 0 hm)) rfl rfl ⟨rfl, trivial⟩ ?_
     refine zab ?_
     refine za3 (zae ?_)
     refine tx ?_
     refine zac (za4 (by first | exact IntWalk.i64_in _ (by omega) | rfl)) rfl rfl ?_
     refine yM ?_
     refine zab ?_
     refine zae ?_
     refine ⟨m' - 1, by omega, _, zaJ id _ _ ?_ ?_ rfl, j + 1, by omega, D ++ [n], hDn, hdp, rfl⟩
     ·(repeat (first | exact trivial | (refine ⟨⟨(by first | rfl | (simp; done) | (simp; omega)), rfl⟩, ?_⟩)))
     ·exact ⟨⟨congrArg (fun x => Slot.live (AObj.map x)) hpush, rfl⟩, ⟨rfl, rfl⟩, trivial⟩
   ·by_cases hm : n ∈ D
    ·rw [show (decide (0 < n) && decide (n ∈ allN l i ++ List.take j G) || dupB (allN l i ++ List.take (j + 1) G) (List.drop (j + 1) G)) = true by rw [decide_eq_true (show 0 < n by omega), decide_eq_true (hDm.1 hm)]; rfl] at hdp
     rw [if_pos hdp] at hst
     rw [hhit (by rw [hst]; decide), hst] at hE
     subst hE
     obtain ⟨k0, hfd, hfi⟩ := zhg 0 hm
     rw [Nat.zero_add] at hfd
     refine zaa (zaa ?_)
     refine tx ?_
     refine yM ?_
     refine zac (zaQ (c := true) (by simpa using h0)) rfl rfl ?_
     refine yM ?_
     refine yP (zaq (r := .mp _)) ?_
     refine yM ?_
     refine zal (a_lookup Tryz.underlying132 Tryz.underlying3 rfl zr4 hfd rfl rfl) rfl rfl ⟨rfl, trivial⟩ ?_
     refine yP zak ?_
     refine zab ?_
     refine zae ?_
     refine zaD rfl ?_
     refine zaa ?_
     refine tx ?_
     refine yA ?_
     refine zab ?_
     (repeat (first | refine zaa ?_ | refine zaj ?_ | refine zad ?_ | refine zaf ?_ | refine zaG ?_ | refine zae ?_ | refine zam ?_ | refine zb3 ?_ | refine za3 ?_ | refine zaK ?_ | refine zdo ?_ | refine inb_y rfl ?_))
     refine yT ?_ ?_
     ·exact rfl
     ·exact trivial
    ·rw [show (decide (0 < n) && decide (n ∈ allN l i ++ List.take j G) || dupB (allN l i ++ List.take (j + 1) G) (List.drop (j + 1) G)) = dupB (allN l i ++ List.take (j + 1) G) (List.drop (j + 1) G) by rw [decide_eq_false (fun q => hm (hDm.2 q))]; simp] at hdp
     refine zaa (zaa ?_)
     refine tx ?_
     refine yM ?_
     refine zac (zaQ (c := true) (by simpa using h0)) rfl rfl ?_
     refine yM ?_
     refine yP (zaq (r := .mp _)) ?_
     refine yM ?_
     refine zal (a_lookup Tryz.underlying132 Tryz.underlying3 rfl zr4 (zfL 0 hm) rfl rfl) rfl rfl ⟨rfl, trivial⟩ ?_
     refine yP zak ?_
     refine zab ?_
     refine zae ?_
     refine zan rfl ?_
     refine zad (zae ?_)
     refine tx ?_
     refine yP (zaq (r := .mp _)) ?_
     refine yM ?_
     refine zal (zgy Tryz.underlying132 Tryz.underlying3 rfl (zfL 0 hm)) rfl rfl ⟨rfl, trivial⟩ ?_
     refine zab ?_
     refine za3 (zae ?_)
     refine tx ?_
     refine zac (za4 (by first | exact IntWalk.i64_in _ (by omega) | rfl)) rfl rfl ?_
     refine yM ?_
     refine zab ?_
     refine zae ?_
     refine ⟨m' - 1, by omega, _, zaJ id _ _ ?_ ?_ rfl, j + 1, by omega, D ++ [n], hDn, hdp, rfl⟩
     ·(repeat (first | exact trivial | (refine ⟨⟨(by first | rfl | (simp; done) | (simp; omega)), rfl⟩, ?_⟩)))
     ·exact ⟨⟨congrArg (fun x => Slot.live (AObj.map x)) hpush, rfl⟩, ⟨rfl, rfl⟩, trivial⟩
  have hge : j = 4 := by simp at h; omega
  clear h
  subst hge
  rw [List.take_of_length_le (by omega)] at hD hdp
  have hz : dupB (allN l i ++ G) (G.drop 4) = false := by rw [List.drop_of_length_le (by omega)]; rfl
  rw [hz] at hdp
  rw [if_neg (by rw [hdp]; decide)] at hst
  refine zaG (zb3 (zb3 (zdo (za3 (zae ?_)))))
  refine tx ?_
  refine zac (za4 (by first | exact IntWalk.i64_in _ (by omega) | rfl)) rfl rfl ?_
  refine yM ?_
  refine zab ?_
  refine zae ?_
  refine ⟨m - 1, by omega, _, zaJ id _ _ ?_ ?_ rfl, i + 1, by omega, fun q hq => ?_, D, by rw [hnx]; exact hD, rfl⟩
  ·refine ⟨⟨rfl, rfl⟩, ⟨?_, rfl⟩, ⟨rfl, rfl⟩, ⟨rfl, rfl⟩, ⟨rfl, rfl⟩, trivial⟩
   rw [hlN]
   rfl
  ·exact ⟨⟨rfl, rfl⟩, trivial⟩
  ·by_cases eq : q = i
   ·rw [eq]; exact hst
   ·exact hf q (by omega)
 have hge : i = l.length := by simp at h; omega
 clear h
 subst hge
 rw [zcB hf] at hE
 subst hE
 refine zaG (zaa ?_)
 refine tx ?_
 refine yA ?_
 refine zab ?_
 refine zaf ?_
 refine yT ?_ ?_
 ·exact rfl
 ·exact trivial
end Go.Proofs.YtgpleldhddpcgaaGreatDoor
