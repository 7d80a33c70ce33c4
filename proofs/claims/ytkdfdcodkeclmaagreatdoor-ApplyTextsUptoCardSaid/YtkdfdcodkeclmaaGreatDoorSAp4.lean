/- apply.move, over data. -/
import Derived.Test.YtkdfdcodkeclmaaGreatDoorSAp3
namespace Go.Proofs.YtkdfdcodkeclmaaGreatDoor
open Tryz
open Go.RowKit Go.Sort
set_option linter.unusedVariables false
set_option linter.unusedSimpArgs false
set_option maxRecDepth 100000
def dnP (n : NtP) (p : PE) : PE := { p with nets := delN n p.nets }
def dnL (n : NtP) (l : List PE) : List PE := l.map (dnP n)
theorem zbc (n : NtP) (l : List PE) : (dnL n l).length = l.length := List.length_map _
theorem dnL_at (n : NtP) (l : List PE) (i : Nat) (h : i < l.length) : (dnL n l)[i]'(by rw [zbc]; exact h) = dnP n l[i] := List.getElem_map _
theorem dnL_peN (n : NtP) (k : ByteArray) : ∀ l : List PE, peN k (dnL n l) = peN k l
 | [] => rfl
 | p :: l => by
  show (if (dnP n p).key = k then 0 else peN k (dnL n l) + 1) = if p.key = k then 0 else peN k l + 1
  rw [dnL_peN n k l]
  rfl
theorem zbU {n : NtP} {l : List NtP} : (delN n l).length ≤ l.length ∧ ∀ m ∈ delN n l, m ∈ l := ⟨List.length_filter_le _ _, fun m hm => (List.mem_filter.1 hm).1⟩
theorem dnL_ok {key : ByteArray} {port : Int} {n : NtP} {l : List PE} (ok : CF.OK ⟨key, port, l⟩) : CF.OK ⟨key, port, dnL n l⟩ := by
 refine ⟨by have := ok.len; simpa [zbc] using this, fun p hp => ?_⟩
 obtain ⟨q, hq, rfl⟩ := List.mem_map.1 hp
 obtain ⟨h1, h2⟩ := ok.ps q hq
 have h3 := @zbU n q.nets
 exact ⟨⟨h1.ep, Nat.le_trans h3.1 h1.len, fun m hm => h1.nets m (h3.2 m hm)⟩, Nat.le_trans h3.1 h2⟩
theorem zew (nm : Nat → Nat) : ∀ (l : List PE) (k : Nat), (fams nm k l).map Prod.fst = (List.range l.length).map fun i => nm (k + i)
 | [], k => rfl
 | p :: l, k => by
  rw [fams, List.map_cons, zew nm l (k + 1), List.length_cons, List.range_succ_eq_map, List.map_cons, List.map_map]
  congr 1
  apply List.map_congr_left
  intro i _
  show nm (k + 1 + i) = nm (k + (i + 1))
  congr 1; omega
def mvC (n : NtP) (l : List PE) (k : Nat) : List AV := pcs (fun i => i + 1100) 0 ((dnL n l).take k) ++ pcs (fun i => i + 1000) k (l.drop k)
theorem mvC_len (n : NtP) (l : List PE) (k : Nat) (hk : k ≤ l.length) : (mvC n l k).length = l.length * 5 := by
 unfold mvC
 rw [List.length_append, zdr, zdr, List.length_take, List.length_drop, zbc]
 omega
theorem mvC_at (n : NtP) (l : List PE) (k : Nat) (hk : k < l.length) : (mvC n l k)[k * 5 + 4]? = some (.row (k + 1000)) := by
 unfold mvC
 have h1 : (pcs (fun i => i + 1100) 0 ((dnL n l).take k)).length = k * 5 := by rw [zdr, List.length_take, zbc]; omega
 rw [List.getElem?_append_right (by omega), h1, show k * 5 + 4 - k * 5 = 0 * 5 + 4 by omega, pcs_at _ _ _ 0 (by rw [List.length_drop]; omega)]
theorem pcA_set (p : PE) (o o' : Nat) (ns : List NtP) (A D : List AV) : setR (A ++ (pcA p o ++ D)) (A.length + 4) [.row o'] = A ++ (pcA { p with nets := ns } o' ++ D) := by
 unfold setR
 have h1 : (A ++ (pcA p o ++ D)).take (A.length + 4) = A ++ (pcA p o).take 4 := by
  rw [List.take_append, List.take_of_length_le (by omega), Nat.add_sub_cancel_left, List.take_append_of_le_length (by simp [pcA])]
 have h2 : (A ++ (pcA p o ++ D)).drop (A.length + 4 + [AV.row o'].length) = D := by
  rw [List.drop_append, List.drop_eq_nil_of_le (by omega), List.nil_append, show A.length + 4 + [AV.row o'].length - A.length = (pcA p o).length by simp [pcA]; omega, List.drop_left]
 rw [h1, h2]
 simp [pcA]
theorem mvC_step (n : NtP) (l : List PE) (k : Nat) (hk : k < l.length) : setR (mvC n l k) (k * 5 + 4) [.row (k + 1100)] = mvC n l (k + 1) := by
 have h1 : (pcs (fun i => i + 1100) 0 ((dnL n l).take k)).length = k * 5 := by rw [zdr, List.length_take, zbc]; omega
 unfold mvC
 rw [List.drop_eq_getElem_cons hk, pcs, ← h1, pcA_set l[k] _ _ (delN n l[k].nets)]
 have h2 : (dnL n l).take (k + 1) = (dnL n l).take k ++ [dnP n l[k]] := by
  rw [List.take_succ_eq_append_getElem (by rw [zbc]; exact hk), dnL_at n l k hk]
 have h3 : ((dnL n l).take k).length = k := by rw [List.length_take, zbc]; omega
 rw [h2, zfB, h3, Nat.zero_add, List.append_assoc]
 simp [pcs, dnP]
theorem pcs_set (nm : Nat → Nat) (l : List PE) (j o : Nat) (hj : j < l.length) (ns : List NtP) : setR (pcs nm 0 l) (j * 5 + 4) [.row o] = pcs (fun i => if i = j then o else nm i) 0 (l.set j { l[j] with nets := ns }) := by
 have h1 : l = l.take j ++ l[j] :: l.drop (j + 1) := by rw [List.getElem_cons_drop, List.take_append_drop]
 have h2 : l.set j { l[j] with nets := ns } = l.take j ++ { l[j] with nets := ns } :: l.drop (j + 1) := by rw [List.set_eq_take_append_cons_drop, if_pos hj]
 have h3 : (l.take j).length = j := by rw [List.length_take]; omega
 have h4 : (pcs nm 0 (l.take j)).length = j * 5 := by rw [zdr, h3]
 rw [h2]
 conv => lhs; rw [h1]
 rw [zfB, zfB, h3, Nat.zero_add, pcs, pcs, ← h4, pcA_set l[j] _ _ ns]
 rw [if_pos rfl, zds (nm := fun i => if i = j then o else nm i) (nm' := nm) (l.take j) 0 (fun i hi => by rw [List.length_take] at hi; exact if_neg (by omega)), zds (nm := fun i => if i = j then o else nm i) (nm' := nm) (l.drop (j + 1)) (j + 1) (fun i hi => if_neg (by omega))]
def mvU : List (Nat × Slot) := [(1100, .un), (1101, .un), (1102, .un), (1103, .un), (1104, .un), (1105, .un)]
def mvR (key : ByteArray) (port : Int) (l : List PE) : List (Nat × Slot) := (0, D0 key port) :: (1, .live (.rowA 60 5 l.length none (pcs (fun i => i + 1000) 0 l))) :: (64, .un) :: (65, .un) :: (66, .un) :: (fams (fun i => i + 1000) 0 l ++ mvU)
def mvW (key : ByteArray) (port : Int) (l l' : List PE) : List (Nat × Slot) := (0, D0 key port) :: (1, .live (.row 60 5 l.length (l'.flatMap PE.pv))) :: (64, .dead) :: (65, .dead) :: (66, .dead) :: ((fams (fun i => i + 1000) 0 l).map (fun p => (p.1, Slot.dead)) ++ mvU.map fun p => (p.1, Slot.dead))
def mvN (n : Nat) : List Nat := 0 :: 1 :: 64 :: 65 :: 66 :: ((List.range n).map (fun i => i + 1000) ++ [1100, 1101, 1102, 1103, 1104, 1105])
theorem mvN_nd : ∀ n, n < 7 → (mvN n).Nodup := by decide
theorem mvN_nd2 : ∀ n, n < 7 → (0 :: 1 :: (List.range n).map fun i => 0 + i + 1100).Nodup := by decide
theorem zeN (key : ByteArray) (port : Int) (l : List PE) : (mvR key port l).map Prod.fst = mvN l.length := by
 unfold mvR mvN
 rw [List.map_cons, List.map_cons, List.map_cons, List.map_cons, List.map_cons, List.map_append, zew]
 simp [mvU]
theorem zdT (key : ByteArray) (port : Int) (l l' : List PE) : (mvW key port l l').map Prod.fst = mvN l.length := by
 unfold mvW mvN
 rw [List.map_cons, List.map_cons, List.map_cons, List.map_cons, List.map_cons, List.map_append, List.map_map]
 have : (fams (fun i => i + 1000) 0 l).map (Prod.fst ∘ fun p => (p.1, Slot.dead)) = (fams (fun i => i + 1000) 0 l).map Prod.fst := rfl
 rw [this, zew]
 simp [mvU]
theorem zbE {n o : Nat} : o ∈ mvN n ↔ o = 0 ∨ o = 1 ∨ o = 64 ∨ o = 65 ∨ o = 66 ∨ (1000 ≤ o ∧ o < 1000 + n) ∨ (1100 ≤ o ∧ o ≤ 1105) := by
 unfold mvN
 simp only [List.mem_cons, List.mem_append, List.mem_map, List.mem_range, List.not_mem_nil, or_false]
 constructor
 ·rintro (h | h | h | h | h | ⟨i, h, rfl⟩ | h) <;> omega
 ·rintro (h | h | h | h | h | h | h)
  ·exact .inl h
  ·exact .inr (.inl h)
  ·exact .inr (.inr (.inl h))
  ·exact .inr (.inr (.inr (.inl h)))
  ·exact .inr (.inr (.inr (.inr (.inl h))))
  ·exact .inr (.inr (.inr (.inr (.inr (.inl ⟨o - 1000, by omega, by omega⟩)))))
  ·exact .inr (.inr (.inr (.inr (.inr (.inr (by omega))))))
theorem mv_end {key : ByteArray} {port : Int} {l l' : List PE} (h7 : l.length < 7) {heap H : Nat → Slot} (e0 : H 0 = D0 key port) (e1 : H 1 = .live (.row 60 5 l.length (l'.flatMap PE.pv))) (er : ∀ o, o ∉ mvN l.length → H o = heap o) (o : Nat) :
  H o = updL heap (mvW key port l l') o ∨ updL heap (mvW key port l l') o = .dead := by
 by_cases ho : o ∈ mvN l.length
 ·have hnd : ((mvW key port l l').map Prod.fst).Nodup := by rw [zdT]; exact mvN_nd _ h7
  rw [← zdT key port l l'] at ho
  obtain ⟨p, hp, rfl⟩ := List.mem_map.1 ho
  have hv := zbB (h := heap) hnd p hp
  rw [hv]
  unfold mvW at hp
  simp only [List.mem_cons, List.mem_append, List.mem_map] at hp
  rcases hp with rfl | rfl | rfl | rfl | rfl | ⟨q, _, rfl⟩ | ⟨q, _, rfl⟩
  ·exact .inl e0
  ·exact .inl e1
  all_goals exact .inr rfl
 ·left
  rw [er o ho, zar (by rw [zdT]; exact ho)]
theorem mv_fin {P : Program} {rs : List ResultVar} {res : AV} {key : ByteArray} {port : Int} {l l' : List PE} (h7 : l.length < 7) {heap : Nat → Slot} {tm : Nat → AV} {e : Exit} (he : e = .normal ∨ e = .ret) (vals : List AV) (hx : ∀ H, ResIs P ⟨tm, H⟩ rs vals) (hr : oneA vals = res) :
  FinO P rs res heap (mvW key port l l') e ⟨tm, updL heap (mvW key port l l')⟩ := by
 have hnd : ((mvW key port l l').map Prod.fst).Nodup := by rw [zdT]; exact mvN_nd _ h7
 refine ⟨he, ⟨vals, hx _, hr⟩, zcp fun p hp => zbB hnd p hp, fun o ho => zar fun hm => ?_⟩
 obtain ⟨p, hp, rfl⟩ := List.mem_map.1 hm
 have := List.any_eq_false.1 ho p hp
 simp at this
set_option maxHeartbeats 16000000 in
theorem moveX_s (key : ByteArray) (port : Int) (l : List PE) (ok : CF.OK ⟨key, port, l⟩) (pt : ByteArray) (n : NtP) (hpt : pt ≠ ⟨#[]⟩) (hJ : peN pt l < l.length) (h6 : l.length ≤ 6) (r : Int) (l' : List PE)
  (hr : (r = 7 ∧ (delN n l[peN pt l].nets).length = 8 ∧ l' = dnL n l) ∨ (r = 0 ∧ (delN n l[peN pt l].nets).length ≠ 8 ∧ ∃ p : Nat, p ≤ (delN n l[peN pt l].nets).length ∧ (∀ u, u < p → (hu : u < (delN n l[peN pt l].nets).length) → zbj (delN n l[peN pt l].nets)[u].1 (delN n l[peN pt l].nets)[u].2 n.1 n.2 < 0) ∧
   (∀ u, p ≤ u → (hu : u < (delN n l[peN pt l].nets).length) → ¬ zbj (delN n l[peN pt l].nets)[u].1 (delN n l[peN pt l].nets)[u].2 n.1 n.2 < 0) ∧
   l' = (dnL n l).set (peN pt l) { l[peN pt l] with nets := (delN n l[peN pt l].nets).take p ++ n :: (delN n l[peN pt l].nets).drop p })) :
  FnO prog 54 [.ref 0 0, .p (.v (.string pt)), .agg ((ntC n).map AV.p)] (mvR key port l) (mvW key port l l') (.p (.v (.int .i64 r))) := by
 have h7 : l.length < 7 := by omega
 have hnd : ((mvR key port l).map Prod.fst).Nodup := by rw [zeN]; exact mvN_nd _ h7
 refine zfS func54 rfl (Nat.le_of_ble_eq_true rfl) fun w0 A heap => ?_
 have hall := zbB (h := heap) hnd
 have e0 : updL heap (mvR key port l) 0 = D0 key port := hall (0, D0 key port) (by simp [mvR])
 have e1 : updL heap (mvR key port l) 1 = .live (.rowA 60 5 l.length none (pcs (fun i => i + 1000) 0 l)) := hall (1, _) (by simp [mvR])
 have e64 : updL heap (mvR key port l) 64 = .un := hall (64, .un) (by simp [mvR])
 have e65 : updL heap (mvR key port l) 65 = .un := hall (65, .un) (by simp [mvR])
 have e66 : updL heap (mvR key port l) 66 = .un := hall (66, .un) (by simp [mvR])
 have eF : ∀ u, (h : u < l.length) → updL heap (mvR key port l) (u + 1000) = nrow l[u] := fun u h => hall (u + 1000, nrow l[u]) (by
  unfold mvR
  simp only [List.mem_cons, List.mem_append]
  exact .inr (.inr (.inr (.inr (.inr (.inl (zb0.2 ⟨u, h, by rw [Nat.zero_add]⟩)))))))
 have eU : ∀ u, u < 6 → updL heap (mvR key port l) (u + 1100) = .un := fun u h => hall (u + 1100, .un) (by
  unfold mvR mvU
  have : u = 0 ∨ u = 1 ∨ u = 2 ∨ u = 3 ∨ u = 4 ∨ u = 5 := by omega
  rcases this with rfl | rfl | rfl | rfl | rfl | rfl <;> simp)
 have er : ∀ o, o ∉ mvN l.length → updL heap (mvR key port l) o = heap o := fun o ho => zar (by rw [zeN]; exact ho)
 obtain ⟨H, hH⟩ : ∃ H, updL heap (mvR key port l) = H := ⟨_, rfl⟩
 rw [hH] at hall e0 e1 e64 e65 e66 eF eU er ⊢
 clear hall hH hnd
 unfold D0 at e0
 refine zag ?_
 refine tx ?_
 refine zac (zeB (X := .agg ((ntC n).map AV.p)) 64 rfl) rfl rfl ⟨e64, trivial⟩ ?_
 refine aP rfl rfl ?_
 refine zaf ?_
 refine zag (zag ?_)
 refine zbr (zgf (cs := ntC n) 5 64 rfl rfl rfl) ?_
 skip
 refine tx ?_
 refine zaa (zaJ (r := .ref _ _)) rfl rfl ?_
 refine zaa zb1 rfl rfl ?_
 refine fA zfV rfl rfl ?_
 refine zac (zcM U22 rfl rfl) rfl rfl ⟨e0, trivial⟩ ?_
 refine zac (a_lenRA U22) rfl rfl ⟨e1, trivial⟩ ?_
 refine mP rfl rfl ?_
 refine zaf ?_
 refine zaS ?_
 refine awp_loopO (fun m st => ∃ k : Nat, ∃ G : Nat → Slot, m + k = l.length ∧ st = ⟨zcd [(0, .ref 0 0), (1, .p (.v (.string pt))), (5, .ptr (ntC n)), (17, .p (.v (.int .i64 l.length))), (18, .p (.v (.int .i64 k)))], G⟩ ∧ G 0 = D0 key port ∧ G 1 = .live (.rowA 60 5 l.length none (mvC n l k)) ∧ G 65 = .un ∧ G 66 = .un ∧
  (∀ u, (h : u < l.length) → u < k → G (u + 1100) = nrow (dnP n l[u])) ∧ (∀ u, (h : u < l.length) → k ≤ u → G (u + 1000) = nrow l[u]) ∧ (∀ u, k ≤ u → u < 6 → G (u + 1100) = .un) ∧ ∀ o, o ∉ mvN l.length → G o = heap o) l.length ?_ ?_
 ·have ne : ∀ o, o ≠ 64 → updL (updL H [(64, .live (.box 27 ((ntC n).map AV.p)))]) [(64, .dead)] o = H o := fun o ho => by rw [zbQ ho, zbQ ho]
  refine ⟨_, zcS [(0, .ref 0 0), (1, .p (.v (.string pt))), (5, .ptr (ntC n)), (17, .p (.v (.int .i64 l.length))), (18, .p (.v (.int .i64 (0 : Nat))))] (updL (updL H [(64, .live (.box 27 ((ntC n).map AV.p)))]) [(64, .dead)]) (by repeat (first | exact trivial | refine ⟨rfl, ?_⟩)) (fun o => .inl rfl), 0, _, by omega, rfl, (ne 0 (by decide)).trans e0, (ne 1 (by decide)).trans e1, (ne 65 (by decide)).trans e65, (ne 66 (by decide)).trans e66, fun u h hu => by omega, fun u h _ => (ne _ (by omega)).trans (eF u h), fun u _ hu => (ne _ (by omega)).trans (eU u hu), fun o ho => (ne o fun e => ho (by rw [zbE]; omega)).trans (er o ho)⟩
 clear e0 e1 e64 e65 e66 eF eU er
 rintro m st ⟨k, G, hm, rfl, e0, e1, e65, e66, eD, eF, eU, er⟩
 unfold D0 at e0
 refine zag ?_
 refine tx ?_
 refine zaa a_lss rfl rfl ?_
 refine zaf ?_
 refine zag ?_
 refine zab _ rfl (fun h => ?_) (fun h => ?_)
 ·have hlt : k < l.length := by simp at h; omega
  clear h
  have hcl := mvC_len n l k (by omega)
  have hat := mvC_at n l k hlt
  have hst := mvC_step n l k hlt
  have hoF := eF k hlt (Nat.le_refl k)
  have hoU := eU k (Nat.le_refl k) (by omega)
  have hC := rmN_c l[k].nets n (ok.ps l[k] (List.getElem_mem hlt)).2
  unfold nrow at hoF
  refine zaC (zag (zaS (zag ?_)))
  refine tx ?_
  refine mP rfl rfl ?_
  refine aP rfl rfl ?_
  refine zaf ?_
  refine zag ?_
  refine tx ?_
  refine zaa (zaJ (r := .ref _ _)) rfl rfl ?_
  refine zaa zb1 rfl rfl ?_
  refine fA zfV rfl rfl ?_
  refine zac (zcM U22 rfl rfl) rfl rfl ⟨e0, trivial⟩ ?_
  refine mP rfl rfl ?_
  refine zac (zay U22 sz60 (by omega) (by omega) (q := k * 5) (by rw [Int.toNat_natCast])) rfl rfl ⟨e1, trivial⟩ ?_
  refine zaa (zbg (r := .ref _ _)) rfl rfl ?_
  refine zaf ?_
  refine zaH ?_
  refine tx ?_
  refine zaa (zaJ (r := .ref _ _)) rfl rfl ?_
  refine zaa (zaJ (r := .ref _ _)) rfl rfl ?_
  refine zaa zb1 rfl rfl ?_
  refine fA zbo rfl rfl ?_
  refine zac (zbf U58 rfl hat) rfl rfl ⟨e1, trivial⟩ ?_
  refine zaa zdD rfl rfl ?_
  refine zac (a_callR (rds := []) (o := k + 1000) (o' := k + 1100) (n := l[k].nets.length) (n' := (delN n l[k].nets).length) (ps := l[k].nets.flatMap ntC) (qs := (delN n l[k].nets).flatMap ntC) (xs := [.fn 86 [.ptr (ntC n)]]) (cs := []) func85 rfl rfl (seen_data _ rfl (List.mem_cons_self ..)) hC) rfl rfl ⟨hoF, hoU, trivial⟩ ?_
  refine zaa zb1 rfl rfl ?_
  refine fA zbo rfl rfl ?_
  refine zac (zbW (Y := .row (k + 1100)) (cs := mvC n l k) sz58 rfl rfl (by rw [hcl]; omega) hst) rfl rfl ⟨(by show updL _ _ 1 = _; simp only [updL, nbeq (show 1 ≠ k + 1100 by omega), nbeq (show 1 ≠ k + 1000 by omega), cond_false]; exact e1), trivial⟩ ?_
  refine zaf ?_
  refine zf7 (zaH ?_)
  refine tx ?_
  refine zaa (zas (by first | exact IntWalk.i64_in _ (by omega) | rfl)) rfl rfl ?_
  refine mP rfl rfl ?_
  refine zaf ?_
  refine zaH ?_
  obtain ⟨G1, hG1⟩ : ∃ G1 : Nat → Slot, G1 = updL (updL G [(k + 1100, .live (.row 27 2 (delN n l[k].nets).length ((delN n l[k].nets).flatMap ntC))), (k + 1000, .dead)]) [(1, .live (.rowA 60 5 l.length none (mvC n l (k + 1))))] := ⟨_, rfl⟩
  have ne : ∀ o, o ≠ 1 → o ≠ k + 1100 → o ≠ k + 1000 → G1 o = G o := fun o a1 a2 a3 => by rw [hG1]; simp only [updL, nbeq a1, nbeq a2, nbeq a3, cond_false]
  refine ⟨m - 1, by omega, _, zcS [(0, .ref 0 0), (1, .p (.v (.string pt))), (5, .ptr (ntC n)), (17, .p (.v (.int .i64 l.length))), (18, .p (.v (.int .i64 (k + 1 : Nat))))] G1 (by repeat (first | exact trivial | refine ⟨rfl, ?_⟩)) (fun o => .inl (by rw [hG1]; rfl)), k + 1, G1, by omega, rfl, (ne 0 (by omega) (by omega) (by omega)).trans e0, by rw [hG1]; rfl, (ne 65 (by omega) (by omega) (by omega)).trans e65, (ne 66 (by omega) (by omega) (by omega)).trans e66, fun u h hu => ?_, fun u h hu => (ne _ (by omega) (by omega) (by omega)).trans (eF u h (by omega)), fun u hu h6 => (ne _ (by omega) (by omega) (by omega)).trans (eU u (by omega) h6), fun o ho => (ne o (fun e => ho (by rw [zbE]; omega)) (fun e => ho (by rw [zbE]; omega)) (fun e => ho (by rw [zbE]; omega))).trans (er o ho)⟩
  by_cases huk : u = k
  ·subst huk
   rw [hG1]
   simp only [updL, nbeq (show u + 1100 ≠ 1 by omega), Nat.beq_refl, cond_false, cond_true]
   rfl
  ·exact (ne _ (by omega) (by omega) (by omega)).trans (eD u h (by omega))
 have hge : k = l.length := by simp at h; omega
 clear h
 subst hge
 have hC1 : mvC n l l.length = pcs (fun i => i + 1100) 0 (dnL n l) := by
  unfold mvC
  rw [List.drop_length, List.take_of_length_le (by rw [zbc]; exact Nat.le_refl _)]
  exact List.append_nil _
 rw [hC1] at e1
 have eD' : ∀ p ∈ fams (fun i => i + 1100) 0 (dnL n l), G p.1 = p.2 := fun p hp => by
  obtain ⟨i, hi, rfl⟩ := zb0.1 hp
  rw [zbc] at hi
  show G (0 + i + 1100) = nrow ((dnL n l)[i]'(by rw [zbc]; exact hi))
  rw [Nat.zero_add, dnL_at n l i hi]
  exact eD i hi hi
 obtain ⟨J, hJe⟩ : ∃ J, peN pt l = J := ⟨_, rfl⟩
 have hP := peerT_s key port (dnL n l) (dnL_ok ok) pt _ _ (pcs_V (fun i => i + 1100) (dnL n l) 0) (zdv _ _ _) (by rw [zew, zbc]; exact mvN_nd2 _ h7) hpt (by rw [dnL_peN, zbc]; exact hJ)
 rw [dnL_peN, zbc] at hP
 have hall7 : ∀ p ∈ (0, D0 key port) :: (1, Slot.live (.rowA 60 5 l.length none (pcs (fun i => i + 1100) 0 (dnL n l)))) :: fams (fun i => i + 1100) 0 (dnL n l), G p.1 = p.2 := fun p hp => by
  rcases List.mem_cons.1 hp with rfl | hp
  ·exact e0
  rcases List.mem_cons.1 hp with rfl | hp
  ·exact e1
  ·exact eD' p hp
 have hself := zdj hall7
 simp only [hJe] at hr hP hJ
 have hatJ : (pcs (fun i => i + 1100) 0 (dnL n l))[J * 5 + 4]? = some (.row (J + 1100)) := by
  have := pcs_at (fun i => i + 1100) (dnL n l) 0 J (by rw [zbc]; exact hJ)
  rwa [Nat.zero_add] at this
 have hcl : (pcs (fun i => i + 1100) 0 (dnL n l)).length = l.length * 5 := by rw [zdr, zbc]
 have eJ := eD J hJ hJ
 unfold nrow dnP at eJ
 dsimp only at eJ
 have hnl : (delN n l[J].nets).length ≤ 1048576 := Nat.le_trans zbU.1 (ok.ps l[J] (List.getElem_mem hJ)).2
 refine zbs (zag ?_)
 refine tx ?_
 refine zaa (zaJ (r := .ref _ _)) rfl rfl ?_
 refine mP rfl rfl ?_
 refine zaB hP rfl rfl F51 rfl rfl (zcp hall7) rfl ?_
 refine zaa (zaJ (r := .tup _)) rfl rfl ?_
 refine zaa (zaU rfl) rfl rfl ?_
 refine zaa (zaU rfl) rfl rfl ?_
 refine zaa (zbg (r := .ref _ _)) rfl rfl ?_
 refine aP rfl rfl ?_
 refine zaf ?_
 refine zba (zcS [(0, .ref 0 0), (1, .p (.v (.string pt))), (5, .ptr (ntC n)), (9, .ref 1 (J * 5))] G (by repeat (first | exact trivial | refine ⟨rfl, ?_⟩)) (fun o => .inl (congrFun hself o))) ?_
 rcases hr with ⟨rfl, h8, rfl⟩ | ⟨rfl, h8, p, hp, hlo, hhi, rfl⟩
 ·refine zag (zag ?_)
  refine tx ?_
  refine zaa (zaJ (r := .ref _ _)) rfl rfl ?_
  refine zaa zb1 rfl rfl ?_
  refine fA zbo rfl rfl ?_
  refine zac (zbf U58 rfl hatJ) rfl rfl ⟨e1, trivial⟩ ?_
  refine zac (zaG U58) rfl rfl ⟨eJ, trivial⟩ ?_
  refine zaa (zaA (c := true) (by rw [h8]; rfl)) rfl rfl ?_
  refine zaf ?_
  refine zaH ?_
  refine awp_cT rfl ?_
  refine zag ?_
  refine tx ?_
  refine aP rfl rfl ?_
  refine zaf ?_
  refine zba (zc4 (o := 1) (pcs_V (fun i => i + 1100) (dnL n l) 0) eD' (zdv _ _ _) e1 (fun hm => ?_)) ?_
  ·obtain ⟨q, hq, hq1⟩ := List.mem_map.1 hm
   obtain ⟨i, hi, rfl⟩ := zb0.1 hq
   dsimp only at hq1
   omega
  have ne : ∀ o, o ≠ 1 → (∀ i, i < 6 → o ≠ i + 1100) → updL G ((1, .live (.row 60 5 l.length ((dnL n l).flatMap PE.pv))) :: (fams (fun i => i + 1100) 0 (dnL n l)).map fun p => (p.1, .dead)) o = G o := fun o a1 a2 => zar fun hm => by
   simp only [List.map_cons, List.mem_cons, List.map_map, List.mem_map] at hm
   rcases hm with hm | ⟨q, hq, hq1⟩
   ·exact a1 hm
   ·obtain ⟨i, hi, rfl⟩ := zb0.1 hq
    rw [zbc] at hi
    exact a2 i (by omega) (by rw [← hq1]; show 0 + i + 1100 = _; omega)
  refine zbr (zcS [(6, .p (.v (.int .i64 7)))] (updL heap (mvW key port l (dnL n l))) ⟨rfl, trivial⟩ (mv_end h7 ((ne 0 (by decide) (fun i _ => by omega)).trans e0) rfl (fun o ho => (ne o (fun e => ho (by rw [zbE]; omega)) (fun i hi e => ho (by rw [zbE]; omega))).trans (er o ho)))) ?_
  refine za2 (zcZ ?_)
  exact mv_fin h7 (by first | exact .inl rfl | exact .inr rfl) _ (fun H => .tmp _ _ _ _ rfl .nil) rfl
 ·refine zag (zag ?_)
  refine tx ?_
  refine zaa (zaJ (r := .ref _ _)) rfl rfl ?_
  refine zaa zb1 rfl rfl ?_
  refine fA zbo rfl rfl ?_
  refine zac (zbf U58 rfl hatJ) rfl rfl ⟨e1, trivial⟩ ?_
  refine zac (zaG U58) rfl rfl ⟨eJ, trivial⟩ ?_
  refine zaa (zaA (c := false) (by simp; omega)) rfl rfl ?_
  refine zaf ?_
  refine zaH ?_
  refine zbA rfl ?_
  obtain ⟨fb, hB⟩ := bsN_s (delN n l[J].nets) n p hnl hp hlo hhi
  have hI := inN_c (delN n l[J].nets) n p hp hnl
  have hset := pcs_set (fun i => i + 1100) (dnL n l) J 66 (by rw [zbc]; exact hJ) ((delN n l[J].nets).take p ++ n :: (delN n l[J].nets).drop p)
  rw [dnL_at n l J hJ] at hset
  change setR _ _ _ = pcs (fun i => if i = J then 66 else i + 1100) 0 ((dnL n l).set J { l[J] with nets := (delN n l[J].nets).take p ++ n :: (delN n l[J].nets).drop p }) at hset
  have hNl : ((delN n l[J].nets).take p ++ n :: (delN n l[J].nets).drop p).length = (delN n l[J].nets).length + 1 := by
   rw [List.length_append, List.length_cons, List.length_take, List.length_drop]; omega
  obtain ⟨ns, hns⟩ : ∃ ns, (delN n l[J].nets).take p ++ n :: (delN n l[J].nets).drop p = ns := ⟨_, rfl⟩
  rw [hns] at hset hNl hI
  rw [hns]
  clear hlo hhi
  obtain ⟨l', hl'⟩ : ∃ l' : List PE, (dnL n l).set J { l[J] with nets := ns } = l' := ⟨_, rfl⟩
  have hll : l'.length = l.length := by rw [← hl', List.length_set, zbc]
  obtain ⟨G2, hG2⟩ : ∃ G2 : Nat → Slot, G2 = updL (updL (updL G [(65, .live (.box 27 ((ntC n).map AV.p)))]) [(66, .live (.row 27 2 ((delN n l[J].nets).length + 1) (ns.flatMap ntC))), (J + 1100, .dead), (65, .dead)]) [(1, .live (.rowA 60 5 l.length none (pcs (fun i => if i = J then 66 else i + 1100) 0 l')))] := ⟨_, rfl⟩
  have ne : ∀ o, o ≠ 1 → o ≠ 65 → o ≠ 66 → o ≠ J + 1100 → G2 o = G o := fun o a1 a2 a3 a4 => by rw [hG2]; simp only [updL, nbeq a1, nbeq a2, nbeq a3, nbeq a4, cond_false]
  have f1 : G2 1 = .live (.rowA 60 5 l.length none (pcs (fun i => if i = J then 66 else i + 1100) 0 l')) := by rw [hG2]; rfl
  have f0 : G2 0 = D0 key port := (ne 0 (by decide) (by decide) (by decide) (by omega)).trans e0
  have fF : ∀ q ∈ fams (fun i => if i = J then 66 else i + 1100) 0 l', G2 q.1 = q.2 := fun q hq => by
   obtain ⟨i, hi, rfl⟩ := zb0.1 hq
   rw [hll] at hi
   show G2 (if 0 + i = J then 66 else 0 + i + 1100) = nrow _
   rw [Nat.zero_add]
   by_cases hiJ : i = J
   ·subst hiJ
    rw [if_pos rfl, hG2]
    simp only [← hl', List.getElem_set_self]
    unfold nrow
    dsimp only
    rw [hNl]
    rfl
   ·rw [if_neg hiJ, ne _ (by omega) (by omega) (by omega) (by omega), eD i hi hi]
    simp only [← hl', List.getElem_set_ne (Ne.symm hiJ)]
    rw [dnL_at n l i hi]
  have fr : ∀ o, o ∉ mvN l.length → G2 o = heap o := fun o ho => (ne o (fun e => ho (by rw [zbE]; omega)) (fun e => ho (by rw [zbE]; omega)) (fun e => ho (by rw [zbE]; omega)) (fun e => ho (by rw [zbE]; omega))).trans (er o ho)
  have ne2 : ∀ o, o ≠ 1 → o ≠ 66 → (∀ i, i < 6 → o ≠ i + 1100) → updL G2 ((1, .live (.row 60 5 l.length (l'.flatMap PE.pv))) :: (fams (fun i => if i = J then 66 else i + 1100) 0 l').map fun p => (p.1, .dead)) o = G2 o := fun o a1 a3 a2 => zar fun hm => by
   simp only [List.map_cons, List.mem_cons, List.map_map, List.mem_map] at hm
   rcases hm with hm | ⟨q, hq, hq1⟩
   ·exact a1 hm
   ·obtain ⟨i, hi, rfl⟩ := zb0.1 hq
    rw [hll] at hi
    change (if 0 + i = J then 66 else 0 + i + 1100) = o at hq1
    rw [Nat.zero_add] at hq1
    split at hq1
    ·exact a3 hq1.symm
    ·exact a2 i (by omega) hq1.symm
  have hno : 1 ∉ (fams (fun i => if i = J then 66 else i + 1100) 0 l').map Prod.fst := fun hm => by
   obtain ⟨q, hq, hq1⟩ := List.mem_map.1 hm
   obtain ⟨i, hi, rfl⟩ := zb0.1 hq
   dsimp only at hq1
   split at hq1 <;> omega
  rw [hl'] at hset ⊢
  have hE := mv_end (l := l) (l' := l') h7 ((ne2 0 (by decide) (by decide) (fun i _ => by omega)).trans f0) rfl (fun o ho => (ne2 o (fun e => ho (by rw [zbE]; omega)) (fun e => ho (by rw [zbE]; omega)) (fun i hi e => ho (by rw [zbE]; omega))).trans (fr o ho))
  have hF := mv_fin (P := prog) (rs := f54.results.toList) (res := .p (.v (.int .i64 0))) (key := key) (port := port) (l := l) (l' := l') h7 (heap := heap) (tm := zcd [(6, .p (.v (.int .i64 0)))]) (e := .ret) (.inr rfl) _ (fun H => .tmp _ _ _ _ rfl .nil) rfl
  have hV := pcs_V (fun i => if i = J then 66 else i + 1100) l' 0
  have hLv := zdv (fun i => if i = J then 66 else i + 1100) l' 0
  clear eD eF eU er ne ne2 f0 fr hall7 hself hP eD' hll hl' hNl
  generalize (delN n l[J].nets).length = N at *
  generalize (delN n l[J].nets).flatMap ntC = NC at *
  generalize ns.flatMap ntC = NC2 at *
  generalize hCC : pcs (fun i => i + 1100) 0 (dnL n l) = CC at *
  generalize hCD : pcs (fun i => if i = J then 66 else i + 1100) 0 l' = CD at *
  generalize hFF : fams (fun i => if i = J then 66 else i + 1100) 0 l' = FF at *
  have hJ6 : J = 0 ∨ J = 1 ∨ J = 2 ∨ J = 3 ∨ J = 4 ∨ J = 5 := by omega
  rcases hJ6 with rfl | rfl | rfl | rfl | rfl | rfl
  all_goals
   (repeat (first | refine zag ?_ | refine zaS ?_ | refine zaC ?_ | refine za2 ?_ | refine zbs ?_ | refine zaH ?_ | refine zcZ ?_ | refine zdl ?_ | refine zf7 ?_ | refine zfL ?_ | refine zer ?_ | refine zf6 rfl ?_))
   refine zfm 4 (by kernel_rfl) ?_
   refine zaa (zaJ (r := .ref _ _)) rfl rfl ?_
   refine zaa zb1 rfl rfl ?_
   refine fA zbo rfl rfl ?_
   refine zac (zbf U58 rfl hatJ) rfl rfl ⟨e1, trivial⟩ ?_
   refine zaa (zaq U27 rfl sz27 (Nat.le_of_ble_eq_true rfl) (rfl)) rfl rfl ?_
   refine zcq (fun n => 55 + 1000 * n) (hB) rfl (by show [zeI (G _), _, _] = _; rw [eJ]; rfl) func87 rfl rfl (by first | rfl | simp [AV.noSl, AV.noSlL, AObj.noSl, PV.isV, zcK]) (by first | rfl | simp [AV.noSl, AV.noSlL, AObj.noSl, PV.isV, zcK]) rfl rfl rfl (by first | exact trivial | exact ⟨rfl, trivial⟩ | exact ⟨rfl, rfl, trivial⟩ | exact ⟨rfl, rfl, rfl, rfl, rfl, trivial⟩) rfl rfl rfl ?_
   refine zaa (zaJ (r := .tup _)) rfl rfl ?_
   refine zaa (zaU rfl) rfl rfl ?_
   refine zaa (zaU rfl) rfl rfl ?_
   refine aP rfl rfl ?_
   refine aP rfl rfl ?_
   refine zaf ⟨by kernel_rfl, ?_⟩
   (repeat (first | refine zag ?_ | refine zaS ?_ | refine zaC ?_ | refine za2 ?_ | refine zbs ?_ | refine zaH ?_ | refine zcZ ?_ | refine zdl ?_ | refine zf7 ?_ | refine zfL ?_ | refine zer ?_ | refine zf6 rfl ?_))
   refine zfm 4 (by kernel_rfl) ?_
   refine zaa (zaJ (r := .ref _ _)) rfl rfl ?_
   refine zaa (zaJ (r := .ref _ _)) rfl rfl ?_
   refine zaa zb1 rfl rfl ?_
   refine fA zbo rfl rfl ?_
   refine zac (zbf U58 rfl hatJ) rfl rfl ⟨e1, trivial⟩ ?_
   refine mP rfl rfl ?_
   refine zaa (zaq U27 rfl sz27 (Nat.le_of_ble_eq_true rfl) (rfl)) rfl rfl ?_
   refine zac (zdg 65 U58 sz27 zc27 (Nat.le_of_ble_eq_true rfl) (Nat.le_of_ble_eq_true rfl) rfl rfl (Nat.le_of_ble_eq_true rfl)) rfl rfl ⟨e65, trivial⟩ ?_
   refine zac (a_callR2 (o' := 66) (n := N) (n' := N + 1) (ps := NC) (qs := NC2) func88 rfl rfl rfl rfl (by decide) hI) rfl rfl ⟨eJ, e66, rfl, trivial⟩ ?_
   refine zaa zb1 rfl rfl ?_
   refine fA zbo rfl rfl ?_
   refine zac (zbW (Y := .row 66) (cs := CC) sz58 rfl rfl (by rw [hcl]; omega) hset) rfl rfl ⟨e1, trivial⟩ ?_
   refine zaf ⟨by kernel_rfl, ?_⟩
   (repeat (first | refine zag ?_ | refine zaS ?_ | refine zaC ?_ | refine za2 ?_ | refine zbs ?_ | refine zaH ?_ | refine zcZ ?_ | refine zdl ?_ | refine zf7 ?_ | refine zfL ?_ | refine zer ?_ | refine zf6 rfl ?_))
   refine tx ?_
   refine aP rfl rfl ?_
   refine zaf ?_
   refine zba (zcS [(6, .p (.v (.int .i64 0)))] G2 ⟨rfl, trivial⟩ (fun o => .inl (by rw [hG2]; rfl))) ?_
   refine zbr (zc4 (o := 1) hV fF hLv f1 hno) ?_
   refine zbr (zcS [(6, .p (.v (.int .i64 0)))] (updL heap (mvW key port l l')) ⟨rfl, trivial⟩ hE) ?_
   (repeat (first | refine zag ?_ | refine zaS ?_ | refine zaC ?_ | refine za2 ?_ | refine zbs ?_ | refine zaH ?_ | refine zcZ ?_ | refine zdl ?_ | refine zf7 ?_ | refine zfL ?_ | refine zer ?_ | refine zf6 rfl ?_))
   exact hF
end Go.Proofs.YtkdfdcodkeclmaaGreatDoor
