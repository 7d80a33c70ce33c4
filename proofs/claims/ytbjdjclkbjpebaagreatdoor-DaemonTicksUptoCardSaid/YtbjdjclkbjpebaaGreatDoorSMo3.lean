/- The reference's StatesFault, over data. -/
import Derived.Test.YtbjdjclkbjpebaaGreatDoorSTc2
import Derived.Test.YtbjdjclkbjpebaaGreatDoorSMq
import Derived.Test.YtbjdjclkbjpebaaGreatDoorSEq3
import Derived.Test.YtbjdjclkbjpebaaGreatDoorSFz
import Derived.Test.YtbjdjclkbjpebaaGreatDoorSMa4
namespace Go.Proofs.YtbjdjclkbjpebaaGreatDoor
open Tryz
open Go.RowKit Go.Sort
set_option maxHeartbeats 16000000
set_option linter.unusedVariables false
set_option linter.unusedSimpArgs false
set_option maxRecDepth 100000
def mpE (D : List Int) : List (Value × Value) := D.map fun n => (.int .i64 n, .bool true)
theorem zgi {n : Int} : ∀ {D : List Int} (k : Nat), n ∉ D → zeg (.int .i64) (.int .i64 n) (mpE D) k = some none
 | [], _, _ => rfl
 | x :: D, k, h => by
  have h1 : n ≠ x := fun e => h (by simp [e])
  have ih := zgi (n := n) (D := D) (k + 1) fun hh => h (by simp [hh])
  show zeg (.int .i64) (.int .i64 n) ((.int .i64 x, .bool true) :: mpE D) k = _
  simp only [zeg, Instr.sameNow, if_true]
  rw [show (n == x) = false by simpa using h1]
  exact ih
theorem zii {n : Int} : ∀ {D : List Int} (k : Nat), n ∈ D → ∃ i, zeg (.int .i64) (.int .i64 n) (mpE D) k = some (some (k + i, .bool true)) ∧ (mpE D)[i]? = some (.int .i64 n, .bool true)
 | [], _, h => by cases h
 | x :: D, k, h => by
  by_cases e : n = x
  ·subst e
   refine ⟨0, ?_, rfl⟩
   show zeg (.int .i64) (.int .i64 n) ((.int .i64 n, .bool true) :: mpE D) k = _
   simp [zeg, Instr.sameNow]
  ·have h' : n ∈ D := by simpa [e] using h
   obtain ⟨i, h1, h2⟩ := zii (n := n) (D := D) (k + 1) h'
   refine ⟨i + 1, ?_, by simpa [mpE] using h2⟩
   show zeg (.int .i64) (.int .i64 n) ((.int .i64 x, .bool true) :: mpE D) k = _
   simp only [zeg, Instr.sameNow, if_true]
   rw [show (n == x) = false by simpa using e]
   rw [show k + (i + 1) = k + 1 + i by omega]
   exact h1
theorem set_same {α : Type} {l : List α} {i : Nat} {x : α} (h : l[i]? = some x) : l.set i x = l := by
 exact jbP
theorem kE_nn {k : KY} (h : kE k = 0) : 0 ≤ k.mine := by
 cases hl : k.live with
 | true => have := (zgX h hl).1; omega
 | false =>
  unfold kE at h
  rw [if_pos hl] at h
  split at h
  ·rename_i hz
   rw [KY.zero_iff] at hz
   rw [hz]
   exact Int.le_refl 0
  ·cases h
theorem hsE_nn {x : HS} (h : hsE x = 0) : 0 ≤ x.mine := by
 unfold hsE at h
 split at h
 ·split at h
  ·omega
  ·cases h
 ·split at h
  ·cases h
  ·split at h
   ·exact absurd h (by assumption)
   ·split at h
    ·cases h
    ·omega
theorem stE_good {s : ST} (h : stE s = 0) : keyE s.key = 0 ∧ ∀ n ∈ zbb s, 0 ≤ n := by
 unfold stE at h
 split at h
 ·exact absurd h (by assumption)
 rename_i h1
 split at h
 ·exact absurd h (by assumption)
 rename_i h2
 split at h
 ·exact absurd h (by assumption)
 rename_i h3
 have h2 : ksE s.a s.b s.c = 0 := Decidable.not_not.1 h2
 have h3 : hsE s.h = 0 := Decidable.not_not.1 h3
 have hk := zeA h2
 refine ⟨Decidable.not_not.1 h1, fun n hn => ?_⟩
 simp only [zbb, List.mem_cons, List.not_mem_nil, or_false] at hn
 rcases hn with rfl | rfl | rfl | rfl
 ·exact kE_nn (hk 0 (by omega))
 ·exact kE_nn (hk 1 (by omega))
 ·exact kE_nn (hk 2 (by omega))
 ·exact hsE_nn h3
theorem given_s (s : ST) : Fn prog 77 [.agg s.cells] (.row 0) [(0, .row 3 1 4 (is (zbb s)))] := by
 show Fn prog _ _ _ [(0, .row 3 1 4 [.v (.int .i64 s.a.mine), .v (.int .i64 s.b.mine), .v (.int .i64 s.c.mine), .v (.int .i64 s.h.mine)])]
 refine fnI fun w0 A => ?_
 refine G [22] ?_
 refine zab (xs := [.p (.v (.int .i64 s.a.mine)), .p (.v (.int .i64 s.b.mine)), .p (.v (.int .i64 s.c.mine)), .p (.v (.int .i64 s.h.mine))]) (zae (es := [.p (.v (.int .i64 s.a.mine)), .p (.v (.int .i64 s.b.mine)), .p (.v (.int .i64 s.c.mine)), .p (.v (.int .i64 s.h.mine))]) (cs := [.v (.int .i64 s.a.mine), .v (.int .i64 s.b.mine), .v (.int .i64 s.c.mine), .v (.int .i64 s.h.mine)]) 18 U115 sz3 zc3 (Nat.le_of_ble_eq_true rfl) (Nat.le_of_ble_eq_true rfl) rfl (by kernel_rfl) (by kernel_rfl) (by kernel_rfl) (Nat.le_of_ble_eq_true rfl)) (by first | rfl | kernel_rfl) rfl ⟨rfl, trivial⟩ ?_
 refine jcJ ?_
 refine yT (fun _ => 18) ?_ ?_
 ·exact rfl
 ·exact ⟨⟨rfl, rfl⟩, trivial⟩
section
variable {P : Program} {d : Option Tmp} {ty : TypeId} {pos : String} {af : Array Edge} {g : Option (Nat × Bool)}
theorem a_mapKeep {t kt et : TypeId} {kd : TypeDesc} {o i : Nat} {kv ov : Value} {es : List (Value × Value)} {x y z : Operand} (hu : P.underlying t = some (.map kt et)) (hk : P.underlying kt = some kd) (hp : zdm kd = true) (hq : MapKept.IsKey kd kv) (hf : zeg kd kv es 0 = some (some (i, ov))) (hi : es[i]? = some (kv, ov)) :
  AOp P ⟨d, .mapUpdate t x y z, ty, pos, af, g⟩ [.mp o, .p (.v kv), .p (.v ov)] [(o, .live (.map es))] [(o, .live (.map es))] .any := by
 have h := a_mapUpdateO (d := d) (ty := ty) (pos := pos) (af := af) (g := g) (x := x) (y := y) (z := z) (xv := ov) (o := o) hu hk hp hq hf hi
 rwa [set_same hi] at h
end
theorem key_ne : ¬ keyE ⟨#[]⟩ = 0 := by decide +kernel
def lastK (l : List ST) (i : Nat) : ByteArray := if i = 0 then ⟨#[]⟩ else (stG l (i - 1)).key
theorem refStates_s (l : List ST) (ok : ∀ s ∈ l, s.OK) (hn : l.length ≤ 1048576) : Fn prog 38 [.p (.sl l.length 41 (l.flatMap ST.pv))] (.p (.v (.int .i64 (stsE l)))) [] := by
 obtain ⟨E, hE⟩ : ∃ E, stsE l = E := ⟨_, rfl⟩
 rw [hE]
 unfold stsE at hE
 refine fnI fun w0 A => ?_
 refine G [11, 9, 0] ?_
 refine cX (fun h => ?_) fun h => ?_
 ·exact ja5
 have h6 : ¬ 6 < l.length := by simp at h; omega
 clear h
 rw [if_neg h6] at hE
 refine G [3] ?_
 refine jdA (a_makeMap 13) ?_
 refine G [14] ?_
 refine zag (fun m st => ∃ i : Nat, m + i = l.length ∧ (∀ j, j < i → zeG l j = 0) ∧ ∃ D : List Int, (∀ n, n ∈ D ↔ n ∈ allN l i) ∧ st = St.of [(3, .mp 13), (4, .p (.v (.string (lastK l i)))), (14, .p (.sl l.length 41 (l.flatMap ST.pv))), (15, .p (.v (.int .i64 l.length))), (16, .p (.v (.int .i64 i)))] [(13, .map (mpE D))]) l.length ?_ ?_
 ·refine ⟨_, zah id _ _ ?_ ?_ rfl, 0, by omega, by omega, [], by simp [allN], rfl⟩
  ·exact jak
  ·exact ⟨⟨rfl, rfl⟩, trivial⟩
 rintro m st ⟨i, hi, hf, D, hD, rfl⟩
 refine G [5] ?_
 refine cX (fun h => ?_) fun h => ?_
 ·have hlt : i < l.length := by simp at h; omega
  clear h
  obtain ⟨s, hs⟩ : ∃ s, l[i]? = some s := ⟨l[i], List.getElem?_eq_getElem hlt⟩
  have hch := zar (f := ST.pv) (k := 41) (fun _ => rfl) hs
  have hle := zas (f := ST.pv) (k := 41) (fun _ => rfl) hlt
  have hok := ok s (List.mem_of_getElem? hs)
  have hC := refState_s s hok
  have hhit := @zcd (zeG l) i l.length hf hlt
  have hst : zeG l i = if stE s ≠ 0 then stE s else if 0 < i ∧ leK s.key (stG l (i - 1)).key = true then 6 else if dupB (allN l i) (zbb s) = true then 6 else 0 := by unfold zeG; rw [stG_at hs]
  have hgood := @stE_good s
  have hlK : lastK l i = if i = 0 then ⟨#[]⟩ else (stG l (i - 1)).key := rfl
  have hlN : lastK l (i + 1) = s.key := by unfold lastK; rw [if_neg (by omega), Nat.add_sub_cancel, stG_at hs]
  generalize hL : l.flatMap ST.pv = L at *
  generalize stE s = e at *
  refine G [6] ?_
  refine zaa (zaI U56 rfl sz56 (by rw [List.length_drop]; omega) (hch)) rfl rfl ?_
  refine jdA (zaX 6 zr56 rfl) ?_
  refine jdA (zaf (Y := .agg s.cells) sz56 rfl rfl (Nat.eq_of_beq_eq_true rfl)) ?_
  refine G [4] ?_
  refine jcI ?_
  refine cK hC ?_
  refine jcq ?_
  refine cX (fun h => ?_) fun h => ?_
  ·exact jca
  have h7 : e = 0 := by simpa using h
  clear h
  rw [if_neg (by simp [h7])] at hst
  obtain ⟨hkey, hnn⟩ := hgood h7
  have hkne : s.key ≠ ⟨#[]⟩ := fun e => key_ne (by rw [e] at hkey; exact hkey)
  generalize hLK : lastK l i = lk at *
  refine G [7] ?_
  refine jdz a_sleq ?_
  refine zac (zaz (cX (fun h => ?_) fun h => ?_))
  ·have h8 : leK s.key lk = true := h
   have hi0 : i ≠ 0 := by
    intro e0
    rw [if_pos e0] at hlK
    rw [hlK] at h8
    unfold leK at h8
    rw [sLt_empty] at h8
    simp at h8
    exact hkne h8
   rw [if_neg hi0] at hlK
   rw [if_pos ⟨by omega, by rw [← hlK]; exact h8⟩] at hst
   rw [hhit (by rw [hst]; decide), hst] at hE
   subst hE
   refine jct ?_
   exact yE
  have h8 : ¬ leK s.key lk = true := by
   intro h9
   have h10 : leK s.key lk = false := h
   rw [h10] at h9
   cases h9
  clear h
  have hn8 : ¬ (0 < i ∧ leK s.key (stG l (i - 1)).key = true) := by
   intro ⟨q1, q2⟩
   rw [if_neg (by omega)] at hlK
   rw [← hlK] at q2
   exact h8 q2
  rw [if_neg hn8] at hst
  have hGv := given_s s
  have hgl : (zbb s).length = 4 := rfl
  have hnx : allN l (i + 1) = allN l i ++ zbb s := by
   obtain ⟨q1, q2⟩ := List.getElem?_eq_some_iff.1 hs
   unfold allN
   rw [List.take_succ_eq_append_getElem q1, q2, List.flatMap_append]
   simp
  obtain ⟨DD, hDD⟩ : ∃ b, dupB (allN l i) (zbb s) = b := ⟨_, rfl⟩
  rw [hDD] at hst
  refine G [7] ?_
  generalize hG : zbb s = GV at *
  refine G [2] ?_
  refine jcI ?_
  refine cK hGv ?_
  refine G [4] ?_
  refine zag (fun m' st => ∃ j : Nat, m' + j = 4 ∧ ∃ D : List Int, (∀ n, n ∈ D ↔ n ∈ allN l i ++ GV.take j) ∧ DD = dupB (allN l i ++ GV.take j) (GV.drop j) ∧ st = St.of [(3, .mp 13), (4, .p (.v (.string s.key))), (14, .p (.sl l.length 41 L)), (15, .p (.v (.int .i64 l.length))), (16, .p (.v (.int .i64 i))), (32, .row 32), (33, .p (.v (.int .i64 4))), (34, .p (.v (.int .i64 j)))] [(13, .map (mpE D)), (32, .row 3 1 4 (is GV))]) 4 ?_ ?_
  ·refine ⟨_, zah id _ _ ?_ ?_ rfl, 0, by omega, D, by simpa using hD, by simpa using hDD.symm, rfl⟩
   ·exact jak
   ·exact ⟨⟨rfl, rfl⟩, ⟨rfl, rfl⟩, trivial⟩
  clear hD
  rintro m' st ⟨j, hj, D, hD, hdp, rfl⟩
  refine G [5] ?_
  refine cX (fun h => ?_) fun h => ?_
  ·have hlj : j < 4 := by simp at h; omega
   clear h
   obtain ⟨n, hn5⟩ : ∃ n, GV[j]? = some n := ⟨GV[j]'(by omega), List.getElem?_eq_getElem _⟩
   have hat : (is GV)[j]? = some (.v (.int .i64 n)) := by simp [is, hn5]
   have hil := is_len GV
   have hdr : GV.drop j = n :: GV.drop (j + 1) := by
    obtain ⟨q1, q2⟩ := List.getElem?_eq_some_iff.1 hn5
    rw [List.drop_eq_getElem_cons q1, q2]
   have htk : GV.take (j + 1) = GV.take j ++ [n] := by
    obtain ⟨q1, q2⟩ := List.getElem?_eq_some_iff.1 hn5
    exact jce
   have hnz := hnn n (List.mem_of_getElem? hn5)
   rw [hdr, dupB, List.append_assoc, ← htk] at hdp
   have hDk : n ∈ D → ∀ k, k ∈ D ↔ k ∈ allN l i ++ GV.take (j + 1) := fun hm k => by
    rw [htk, ← List.append_assoc, List.mem_append (t := [n]), ← hD k, List.mem_singleton]
    constructor
    ·exact .inl
    ·rintro (q | q)
     ·exact q
     ·rw [q]; exact hm
   have hDn : ∀ k, k ∈ D ++ [n] ↔ k ∈ allN l i ++ GV.take (j + 1) := fun k => by
    rw [htk, ← List.append_assoc, List.mem_append (t := [n]), List.mem_append (t := [n]), hD k]
   have hpush : mpE D ++ [(Value.int .i64 n, Value.bool true)] = mpE (D ++ [n]) := by simp [mpE]
   have hDm := hD n
   refine G [5] ?_
   refine zab (zan U115 sz3 (by omega) (by omega) (show _ = j by omega)) rfl rfl ⟨rfl, trivial⟩ ?_
   refine jdA (zaO U3 rfl hat) ?_
   refine G [2] ?_
   by_cases h0 : n = 0
   ·rw [show (decide (0 < n) && decide (n ∈ allN l i ++ List.take j GV) || dupB (allN l i ++ List.take (j + 1) GV) (List.drop (j + 1) GV)) = dupB (allN l i ++ List.take (j + 1) GV) (List.drop (j + 1) GV) by simp [h0]] at hdp
    refine G [4, 3, 7] ?_
    by_cases hm : n ∈ D
    ·obtain ⟨k0, hfd, hfi⟩ := zii 0 hm
     rw [Nat.zero_add] at hfd
     refine G [4] ?_
     refine zab (a_mapKeep underlying138 U3 rfl (by simp [MapKept.IsKey]) hfd hfi) rfl rfl ⟨rfl, trivial⟩ ?_
     refine jct ?_
     refine ⟨m' - 1, by omega, _, zah id _ _ ?_ ?_ rfl, j + 1, by omega, D, hDk hm, hdp, rfl⟩
     ·exact jak
     ·exact ⟨⟨rfl, rfl⟩, ⟨rfl, rfl⟩, trivial⟩
    ·refine G [4] ?_
     exact jaM
   ·by_cases hm : n ∈ D
    ·rw [show (decide (0 < n) && decide (n ∈ allN l i ++ List.take j GV) || dupB (allN l i ++ List.take (j + 1) GV) (List.drop (j + 1) GV)) = true by rw [decide_eq_true (show 0 < n by omega), decide_eq_true (hDm.1 hm)]; rfl] at hdp
     rw [if_pos hdp] at hst
     rw [hhit (by rw [hst]; decide), hst] at hE
     subst hE
     obtain ⟨k0, hfd, hfi⟩ := zii 0 hm
     rw [Nat.zero_add] at hfd
     refine G [4, 4, 3] ?_
     refine jdA (a_lookup underlying138 U3 rfl zr4 hfd rfl rfl) ?_
     refine G [7] ?_
     exact jaL
    ·rw [show (decide (0 < n) && decide (n ∈ allN l i ++ List.take j GV) || dupB (allN l i ++ List.take (j + 1) GV) (List.drop (j + 1) GV)) = dupB (allN l i ++ List.take (j + 1) GV) (List.drop (j + 1) GV) by rw [decide_eq_false (fun q => hm (hDm.2 q))]; simp] at hdp
     refine G [4, 4, 3] ?_
     refine jdA (a_lookup underlying138 U3 rfl zr4 (zgi 0 hm) rfl rfl) ?_
     refine G [7] ?_
     exact jaM
  have hge : j = 4 := by simp at h; omega
  clear h
  subst hge
  rw [List.take_of_length_le (by omega)] at hD hdp
  have hz : dupB (allN l i ++ GV) (GV.drop 4) = false := by rw [List.drop_of_length_le (by omega)]; rfl
  rw [hz] at hdp
  rw [if_neg (by rw [hdp]; decide)] at hst
  refine jct ?_
  refine ⟨m - 1, by omega, _, zah id _ _ ?_ ?_ rfl, i + 1, by omega, fun q hq => ?_, D, by rw [hnx]; exact hD, rfl⟩
  ·refine ⟨⟨rfl, rfl⟩, ⟨?_, rfl⟩, ⟨rfl, rfl⟩, ⟨rfl, rfl⟩, ⟨rfl, rfl⟩, trivial⟩
   rw [hlN]
   rfl
  ·exact ⟨⟨rfl, rfl⟩, trivial⟩
  ·exact jbL
 have hge : i = l.length := by simp at h; omega
 exact jb0
theorem bclone_s (n : Nat) (xs : List Int) (hx : xs.length = n) (hn : n ≤ 140737488355328) : Fn prog 64 [.p (.sl n 1 (bs xs))] (.row 0) [(0, .row 5 1 n (bs xs))] := by
 exact jav
theorem pq_push (l : List PQ) (i : Nat) (p : PQ) (h : l[i]? = some p) : (l.take i).flatMap PQ.pv ++ [.v (.int .u32 p.a), .v (.int .u32 p.b), .sl p.xs.length 1 (bs p.xs)] = (l.take (i + 1)).flatMap PQ.pv := by
 obtain ⟨h1, h2⟩ := List.getElem?_eq_some_iff.1 h
 rw [List.take_succ_eq_append_getElem h1, h2, List.flatMap_append]
 simp [PQ.pv]
theorem st_push (l : List ST) (i : Nat) (s : ST) (h : l[i]? = some s) : (l.take i).flatMap ST.pv ++ s.pv = (l.take (i + 1)).flatMap ST.pv := by
 obtain ⟨h1, h2⟩ := List.getElem?_eq_some_iff.1 h
 exact jbC
theorem tcopy_s (l : List ST) (ok : ∀ s ∈ l, s.OK) (hn : l.length ≤ 1048576) : Fn prog 33 [.p (.sl l.length 41 (l.flatMap ST.pv))] (.row 0) [(0, .row 56 41 l.length (l.flatMap ST.pv))] := by
 refine fnI fun w0 A => ?_
 refine G [8] ?_
 refine zab (zhn 11 U26 eo56 (by omega) (by omega) (by simp only [maxLen]; omega)) rfl rfl ⟨rfl, trivial⟩ ?_
 refine G [10] ?_
 refine zag (fun m st => ∃ i : Nat, m + i = l.length ∧ st = St.of [(3, .row 100), (12, .p (.sl l.length 41 (l.flatMap ST.pv))), (13, .p (.v (.int .i64 l.length))), (14, .p (.v (.int .i64 i)))] [(100, .row 56 41 i ((l.take i).flatMap ST.pv))]) l.length ?_ ?_
 ·refine ⟨_, zah (fun _ => 11) _ _ ?_ ?_ rfl, 0, by omega, rfl⟩
  ·exact jak
  ·exact ⟨⟨rfl, rfl⟩, trivial⟩
 rintro m st ⟨i, hi, rfl⟩
 refine G [5] ?_
 refine cX (fun h => ?_) fun h => ?_
 ·have hlt : i < l.length := by simp at h; omega
  clear h
  obtain ⟨s, hs⟩ : ∃ s, l[i]? = some s := ⟨l[i], List.getElem?_eq_getElem hlt⟩
  have hch := zar (f := ST.pv) (k := 41) (fun _ => rfl) hs
  have hle := zas (f := ST.pv) (k := 41) (fun _ => rfl) hlt
  obtain ⟨_, _, _, _, hq, hqx⟩ := ok s (List.mem_of_getElem? hs)
  have hpush := st_push l i s hs
  have hil : ((l.take i).flatMap ST.pv).length = i * 41 := by rw [zaZ (k := 41) (fun _ => rfl), List.length_take, Nat.min_eq_left (by omega)]
  generalize hL : l.flatMap ST.pv = L at *
  generalize (l.take i).flatMap ST.pv = T at *
  obtain ⟨key, ep, a, b, c, hh, q⟩ := s
  dsimp only at hq hqx
  refine G [8] ?_
  refine jc1 ?_
  refine G [6] ?_
  refine zab (zhn 21 U54 eo108 (by omega) (by omega) (by simp only [maxLen]; omega)) rfl rfl ⟨rfl, trivial⟩ ?_
  refine G [11] ?_
  refine zag (fun m' st => ∃ j : Nat, m' + j = q.length ∧ st = St.of [(3, .row 100), (5, .ref 5 0), (6, .row 101), (12, .p (.sl l.length 41 L)), (13, .p (.v (.int .i64 l.length))), (14, .p (.v (.int .i64 i))), (23, .p (.sl q.length 3 (q.flatMap PQ.pv))), (24, .p (.v (.int .i64 q.length))), (25, .p (.v (.int .i64 j)))] [(5, .box 56 (stC key ep a b c hh q.length (q.flatMap PQ.pv))), (100, .row 56 41 i T), (101, .row 108 3 j ((q.take j).flatMap PQ.pv))]) q.length ?_ ?_
  ·refine ⟨_, zah (fun o => bif Nat.beq o 101 then 21 else o) _ _ ?_ ?_ rfl, 0, by omega, rfl⟩
   ·exact jak
   ·exact jaC
  rintro m' st ⟨j, hj, rfl⟩
  refine G [5] ?_
  refine cX (fun h => ?_) fun h => ?_
  ·have hlj : j < q.length := by simp at h; omega
   clear h
   obtain ⟨p, hp⟩ : ∃ p, q[j]? = some p := ⟨q[j], List.getElem?_eq_getElem hlj⟩
   have hch2 := zar (f := PQ.pv) (k := 3) (fun _ => rfl) hp
   have hle2 := zas (f := PQ.pv) (k := 3) (fun _ => rfl) hlj
   have hC := bclone_s p.xs.length p.xs rfl (by have := hqx p (List.mem_of_getElem? hp); omega)
   have hpp := pq_push q j p hp
   have hjl : ((q.take j).flatMap PQ.pv).length = j * 3 := by rw [zaZ (k := 3) (fun _ => rfl), List.length_take, Nat.min_eq_left (by omega)]
   generalize hQ : q.flatMap PQ.pv = Q at *
   generalize (q.take j).flatMap PQ.pv = V at *
   obtain ⟨pa, pb, xs⟩ := p
   dsimp only at hC hpp
   refine G [8] ?_
   refine jdA (zaf (Y := .agg [.p (.v (.int .u32 pa)), .p (.v (.int .u32 pb)), .p (.sl xs.length 1 (bs xs))]) zd4 rfl rfl (Nat.eq_of_beq_eq_true rfl)) ?_
   refine G [5] ?_
   refine zbO (fun _ => 31) (hC) rfl rfl func64 rfl rfl (by first | rfl | simp [AV.okInL, AV.okIn, zay]) rfl rfl rfl (by first | exact trivial | exact ⟨rfl, trivial⟩ | exact ⟨rfl, rfl, trivial⟩ | exact ⟨rfl, rfl, rfl, rfl, rfl, trivial⟩) rfl rfl rfl ?_
   refine G [3] ?_
   refine zfA (zc7 (cs := bs xs) 31 rfl) ?_
   skip
   refine G [3] ?_
   refine jdA (zae 35 U54 zd4 zc108 (Nat.le_of_ble_eq_true rfl) (Nat.le_of_ble_eq_true rfl) rfl rfl rfl rfl (Nat.le_of_ble_eq_true rfl)) ?_
   refine zab (zal 36 U54 eo108 (zax) (by simp only [maxLen]; omega) (by omega) rfl rfl) rfl rfl ⟨rfl, rfl, rfl, trivial⟩ ?_
   refine jcs ?_
   refine ⟨m' - 1, by omega, _, zah (fun o => bif Nat.beq o 101 then 36 else o) _ _ ?_ ?_ rfl, j + 1, by omega, rfl⟩
   ·exact jak
   ·exact ⟨⟨rfl, rfl⟩, ⟨rfl, rfl⟩, ⟨by rw [← hpp]; rfl, rfl⟩, trivial⟩
  have hge : j = q.length := by simp at h; omega
  clear h
  subst hge
  rw [List.take_length]
  refine G [7] ?_
  refine zfA (zc7 (cs := q.flatMap PQ.pv) 101 rfl) ?_
  skip
  refine G [3] ?_
  refine jdA (zae 42 U26 sz56 zc56 (Nat.le_of_ble_eq_true rfl) (Nat.le_of_ble_eq_true rfl) rfl rfl rfl rfl (Nat.le_of_ble_eq_true rfl)) ?_
  refine zab (zal 43 U26 eo56 (zax) (by simp only [maxLen]; omega) (by omega) rfl rfl) rfl rfl ⟨rfl, rfl, rfl, trivial⟩ ?_
  refine jcs ?_
  refine ⟨m - 1, by omega, _, zah (fun o => 43) _ _ ?_ ?_ rfl, i + 1, by omega, rfl⟩
  ·exact jak
  ·exact ⟨⟨by rw [← hpush]; rfl, rfl⟩, trivial⟩
 exact jaV
end Go.Proofs.YtbjdjclkbjpebaaGreatDoor
namespace Go.Proofs.YtbjdjclkbjpebaaGreatDoor
open Go.RowKit Go.Sort
set_option linter.unusedVariables false
set_option linter.unusedSimpArgs false
set_option maxHeartbeats 16000000
set_option maxRecDepth 100000
theorem set_here {α : Type} {l : List α} {i : Nat} {x : α} (h : l[i]? = some x) : l.set i x = l := by
 exact jbP
theorem re_nilB {st : St} (q : Nat) {ty : TypeId} {cs : List AV} (k o e size : Nat) (hq : st.heap q = .live (.box ty cs)) (hk : cs[k]? = some (.p (.v (.slice none 0 0)))) (ho : st.heap o = .un) :
  Re st (st.upd [(q, .live (.box ty (cs.set k (.row o)))), (o, .live (.row e size 0 []))]) := by
 rintro w0 A nt a w ⟨⟨S, m, hm, hj, hr⟩, hsz, hd⟩
 have hmo := hm.un o ho
 have hqo : q ≠ o := fun e => by rw [e, ho] at hq; cases hq
 have g : Grow S m w S (fun x => if x = o then some (.slice none 0 0) else m x) w := ⟨fun _ h => h, fun _ _ => rfl, fun x v h => by
  by_cases hx : x = o
  ·subst hx; rw [hmo] at h; cases h
  ·simp only [if_neg hx]; exact h⟩
 refine ⟨⟨S, fun x => if x = o then some (.slice none 0 0) else m x, ?_, hj, fun t' => ?_⟩, hsz, hd⟩
 ·have key : ∀ x ob, (st.upd [(q, .live (.box ty (cs.set k (.row o)))), (o, .live (.row e size 0 []))]).heap x = .live ob → x ≠ o → ∃ ob', st.heap x = .live ob' := fun x ob hx e1 => by
   by_cases e2 : x = q
   ·subst e2; exact ⟨_, hq⟩
   ·exact ⟨ob, by simpa [St.upd, updL, nbeq e1, nbeq e2] using hx⟩
  refine ⟨hm.bel, hm.sA, hm.sW, fun x hx => ?_, fun x ob hx => ?_, fun x x' ob ob' v v' b hx hx' hv hv' hb hb' => ?_, hm.gl⟩
  ·by_cases e2 : x = q
   ·subst e2; simp [St.upd, updL] at hx
   by_cases e1 : x = o
   ·subst e1; simp [St.upd, updL, nbeq e2] at hx
   ·simp only [if_neg e1]
    refine hm.un x ?_
    simpa [St.upd, updL, nbeq e1, nbeq e2] using hx
  ·by_cases e2 : x = q
   ·subst e2
    have hob : ob = .box ty (cs.set k (.row o)) := by
     simp [St.upd, updL] at hx
     exact hx.symm
    subst hob
    obtain ⟨v, h1, ⟨b, us, q1, q2, q3, q4, q5⟩, h3⟩ := hm.live x _ hq
    refine ⟨v, by simp only [if_neg hqo]; exact h1, ⟨b, us, q1, q2, ?_, q4, q5⟩, h3⟩
    obtain ⟨u, hu1, hu2⟩ := q3.at_ hk
    simp only [Rep, PRep] at hu2
    have := (RepL.mono g _ _ q3).set k (c := .row o) (u := u) (by
     simp only [Rep]
     rw [hu2.1]
     exact ⟨by simp, _, _, _, rfl⟩)
    rwa [set_here hu1] at this
   by_cases e1 : x = o
   ·subst e1
    simp [St.upd, updL, nbeq e2] at hx
    subst hx
    refine ⟨.slice none 0 0, by simp, ⟨[], by simp [PRepL], by simp, .inl ⟨rfl, rfl⟩⟩, fun b hb => by simp [blk] at hb⟩
   ·have hx' : st.heap x = .live ob := by simpa [St.upd, updL, nbeq e1, nbeq e2] using hx
    obtain ⟨v, h1, h2, h3⟩ := hm.live x ob hx'
    exact ⟨v, by simp only [if_neg e1]; exact h1, h2.mono g fun _ _ => rfl, h3⟩
  ·by_cases e1 : x = o
   ·subst e1; simp at hv; subst hv; simp [blk] at hb
   ·by_cases e2 : x' = o
    ·subst e2; simp at hv'; subst hv'; simp [blk] at hb'
    ·simp only [if_neg e1] at hv
     simp only [if_neg e2] at hv'
     obtain ⟨o1, k1⟩ := key x ob hx e1
     obtain ⟨o2, k2⟩ := key x' ob' hx' e2
     exact hm.inj x x' o1 o2 v v' b k1 k2 hv hv' hb hb'
 ·exact Rep.mono g _ _ (hr t')
def stA (key ep : ByteArray) (a b c : KY) (h : HS) (Q : AV) : List AV := [.p (.v (.string key)), .p (.v (.string ep))] ++ zc4 a b c ++ h.cells ++ [Q]
theorem rcopy_s (l : List ST) (ok : ∀ s ∈ l, s.OK) (hn : l.length ≤ 1048576) : Fn Tryz.prog 43 [.p (.sl l.length 41 (l.flatMap ST.pv))] (.row 0) [(0, .row 56 41 l.length (l.flatMap ST.pv))] := by
 refine fnI fun w0 A => ?_
 refine G [16] ?_
 refine za8 (zco 3 100 56 41 rfl rfl) ?_
 refine zag (fun m st => ∃ i : Nat, m + i = l.length ∧ st = St.of [(3, .row 100), (9, .p (.sl l.length 41 (l.flatMap ST.pv))), (10, .p (.v (.int .i64 l.length))), (11, .p (.v (.int .i64 i)))] [(100, .row 56 41 i ((l.take i).flatMap ST.pv))]) l.length ?_ ?_
 ·exact jaO
 rintro m st ⟨i, hi, rfl⟩
 refine G [5] ?_
 refine cX (fun h => ?_) fun h => ?_
 ·have hlt : i < l.length := by simp at h; omega
  clear h
  obtain ⟨s, hs⟩ : ∃ s, l[i]? = some s := ⟨l[i], List.getElem?_eq_getElem hlt⟩
  have hch := zar (f := ST.pv) (k := 41) (fun _ => rfl) hs
  have hle := zas (f := ST.pv) (k := 41) (fun _ => rfl) hlt
  obtain ⟨_, _, _, _, hq, hqx⟩ := ok s (List.mem_of_getElem? hs)
  have hpush := st_push l i s hs
  have hil : ((l.take i).flatMap ST.pv).length = i * 41 := by rw [zaZ (k := 41) (fun _ => rfl), List.length_take, Nat.min_eq_left (by omega)]
  generalize hL : l.flatMap ST.pv = L at *
  generalize (l.take i).flatMap ST.pv = T at *
  obtain ⟨key, ep, a, b, c, hh, q⟩ := s
  dsimp only at hq hqx
  refine G [8] ?_
  refine jc1 ?_
  refine G [3] ?_
  refine jcZ ?_
  refine jdA (zaX 6 zr56 rfl) ?_
  refine jc1 ?_
  refine G [4] ?_
  refine jdA (zb3 (es := stA key ep a b c hh (.p (.v (.slice none 0 0)))) sz54 rfl rfl (Nat.le_of_ble_eq_true rfl) rfl) ?_
  refine zac (zaz (za8 (re_nilB 6 40 101 108 3 rfl rfl rfl) ?_))
  refine G [9] ?_
  refine zag (fun m' st => ∃ j : Nat, m' + j = q.length ∧ st = St.of [(3, .row 100), (6, .ref 6 0), (9, .p (.sl l.length 41 L)), (10, .p (.v (.int .i64 l.length))), (11, .p (.v (.int .i64 i))), (18, .p (.sl q.length 3 (q.flatMap PQ.pv))), (19, .p (.v (.int .i64 q.length))), (20, .p (.v (.int .i64 j)))] [(6, .box 56 (stA key ep a b c hh (.row 101))), (100, .row 56 41 i T), (101, .row 108 3 j ((q.take j).flatMap PQ.pv))]) q.length ?_ ?_
  ·exact jbd
  rintro m' st ⟨j, hj, rfl⟩
  refine G [5] ?_
  refine cX (fun h => ?_) fun h => ?_
  ·have hlj : j < q.length := by simp at h; omega
   clear h
   obtain ⟨p, hp⟩ : ∃ p, q[j]? = some p := ⟨q[j], List.getElem?_eq_getElem hlj⟩
   have hch2 := zar (f := PQ.pv) (k := 3) (fun _ => rfl) hp
   have hle2 := zas (f := PQ.pv) (k := 3) (fun _ => rfl) hlj
   have hxl := hqx p (List.mem_of_getElem? hp)
   have hpp := pq_push q j p hp
   have hjl : ((q.take j).flatMap PQ.pv).length = j * 3 := by rw [zaZ (k := 3) (fun _ => rfl), List.length_take, Nat.min_eq_left (by omega)]
   generalize hQ : q.flatMap PQ.pv = Q at *
   generalize (q.take j).flatMap PQ.pv = V at *
   obtain ⟨pa, pb, xs⟩ := p
   dsimp only at hpp hxl
   refine G [8] ?_
   refine jdA (zaf (Y := .agg [.p (.v (.int .u32 pa)), .p (.v (.int .u32 pb)), .p (.sl xs.length 1 (bs xs))]) zd4 rfl rfl (Nat.eq_of_beq_eq_true rfl)) ?_
   refine G [10] ?_
   refine zab (ziB (zbR 32 U62 eo5 (zbn) (by simp only [maxLen]; omega) (by omega))) rfl rfl ⟨rfl, trivial⟩ ?_
   refine jdz (zcB pl108 zr108 rfl rfl) ?_
   refine zab (xs := [.agg [.p (.v (.int .u32 pa)), .p (.v (.int .u32 pb)), .p (.sl xs.length 1 (bs xs))]]) (zae (es := [.p (.v (.int .u32 pa)), .p (.v (.int .u32 pb)), .p (.sl xs.length 1 (bs xs))]) (cs := [.v (.int .u32 pa), .v (.int .u32 pb), .sl xs.length 1 (bs xs)]) 34 U54 zd4 zc108 (Nat.le_of_ble_eq_true rfl) (Nat.le_of_ble_eq_true rfl) rfl (by kernel_rfl) (by kernel_rfl) (by kernel_rfl) (Nat.le_of_ble_eq_true rfl)) (by first | rfl | kernel_rfl) rfl ⟨rfl, trivial⟩ ?_
   refine zab (zal 35 U54 eo108 (zax) (by simp only [maxLen]; omega) (by omega) (show _ = j + 1 by omega) hpp) rfl rfl ⟨rfl, rfl, rfl, trivial⟩ ?_
   refine fA fi56_4 rfl rfl ?_
   refine jdA (zb3 (es := stA key ep a b c hh (.row 35)) sz54 rfl rfl (Nat.le_of_ble_eq_true rfl) rfl) ?_
   refine jct ?_
   refine ⟨m' - 1, by omega, _, zah (fun o => bif Nat.beq o 101 then 35 else o) _ _ ?_ ?_ rfl, j + 1, by omega, rfl⟩
   ·exact jak
   ·exact jaC
  have hge : j = q.length := by simp at h; omega
  clear h
  subst hge
  rw [List.take_length]
  refine zaN (zct (zct (zcR (zaz (za2 (zc7 (cs := q.flatMap PQ.pv) 101 rfl) ?_)))))
  skip
  refine G [2] ?_
  refine jcZ ?_
  refine zab (xs := [.agg (stC key ep a b c hh q.length (q.flatMap PQ.pv))]) (zae (es := (stC key ep a b c hh q.length (q.flatMap PQ.pv))) (cs := (ST.pv ⟨key, ep, a, b, c, hh, q⟩)) 40 U26 sz56 zc56 (Nat.le_of_ble_eq_true rfl) (Nat.le_of_ble_eq_true rfl) rfl (by kernel_rfl) (by kernel_rfl) (by kernel_rfl) (Nat.le_of_ble_eq_true rfl)) (by first | rfl | kernel_rfl) rfl ⟨rfl, trivial⟩ ?_
  refine zab (zal 41 U26 eo56 (zax) (by simp only [maxLen]; omega) (by omega) (show _ = i + 1 by omega) hpush) rfl rfl ⟨rfl, rfl, rfl, trivial⟩ ?_
  refine jcs ?_
  refine ⟨m - 1, by omega, _, zah (fun o => 41) _ _ ?_ ?_ rfl, i + 1, by omega, rfl⟩
  ·exact jak
  ·exact ⟨⟨rfl, rfl⟩, trivial⟩
 exact jaV
end Go.Proofs.YtbjdjclkbjpebaaGreatDoor
