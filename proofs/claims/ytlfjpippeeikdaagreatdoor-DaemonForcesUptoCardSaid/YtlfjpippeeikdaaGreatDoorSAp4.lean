/- apply.move, over data. -/
import Derived.Test.YtlfjpippeeikdaaGreatDoorSAp3
set_option linter.all false
namespace Go.Proofs.YtlfjpippeeikdaaGreatDoor
open Tryz
open Go.RowKit Go.Sort
set_option maxHeartbeats 16000000
set_option maxRecDepth 100000
def dnP (n : NtP) (p : PE) : PE := { p with nets := delN n p.nets }
def dnL (n : NtP) (l : List PE) : List PE := l.map (dnP n)
theorem zbo (n : NtP) (l : List PE) : (dnL n l).length = l.length := qaR _
theorem dnL_at (n : NtP) (l : List PE) (i : Nat) (h : i < l.length) : (dnL n l)[i]'(by rw [zbo]; exact h) = dnP n l[i] := List.getElem_map _
theorem dnL_peN (n : NtP) (k : ByteArray) : ∀ l : List PE, peN k (dnL n l) = peN k l
 | [] => rfl
 | p :: l => by
  show (if (dnP n p).key = k then 0 else peN k (dnL n l) + 1) = if p.key = k then 0 else peN k l + 1
  rw [dnL_peN n k l]
  rfl
theorem zcm {n : NtP} {l : List NtP} : (delN n l).length ≤ l.length ∧ ∀ m ∈ delN n l, m ∈ l := ⟨List.length_filter_le _ _, fun m hm => (qbM.1 hm).1⟩
theorem dnL_ok {key : ByteArray} {port : Int} {n : NtP} {l : List PE} (ok : CF.OK ⟨key, port, l⟩) : CF.OK ⟨key, port, dnL n l⟩ := by
 refine ⟨by have := ok.len; simpa [zbo] using this, fun p hp => ?_⟩
 obtain ⟨q, hq, rfl⟩ := qaJ.1 hp
 obtain ⟨h1, h2⟩ := ok.ps q hq
 have h3 := @zcm n q.nets
 exact ⟨⟨h1.ep, qby h3.1 h1.len, fun m hm => h1.nets m (h3.2 m hm)⟩, qby h3.1 h2⟩
theorem zfA (nm : Nat → Nat) : ∀ (l : List PE) (k : Nat), (fams nm k l).map Prod.fst = (List.range l.length).map fun i => nm (k + i)
 | [], k => rfl
 | p :: l, k => by
  rw [fams, qaF, zfA nm l (k + 1), qaO, List.range_succ_eq_map, qaF, qbg]
  congr 1
  apply qbw
  intro i _
  show nm (k + 1 + i) = nm (k + (i + 1))
  congr 1; omega
def mvC (n : NtP) (l : List PE) (k : Nat) : List AV := pcs (fun i => i + 1100) 0 ((dnL n l).take k) ++ pcs (fun i => i + 1000) k (l.drop k)
theorem mvC_len (n : NtP) (l : List PE) (k : Nat) (hk : k ≤ l.length) : (mvC n l k).length = l.length * 5 := by
 unfold mvC
 rw [qaC, zej, zej, List.length_take, qaP, zbo]
 omega
theorem mvC_at (n : NtP) (l : List PE) (k : Nat) (hk : k < l.length) : (mvC n l k)[k * 5 + 4]? = some (.row (k + 1000)) := by
 unfold mvC
 have h1 : (pcs (fun i => i + 1100) 0 ((dnL n l).take k)).length = k * 5 := by rw [zej, List.length_take, zbo]; omega
 rw [qbo (by omega), h1, show k * 5 + 4 - k * 5 = 0 * 5 + 4 by omega, pcs_at _ _ _ 0 (by rw [qaP]; omega)]
theorem pcA_set (p : PE) (o o' : Nat) (ns : List NtP) (A D : List AV) : setR (A ++ (pcA p o ++ D)) (A.length + 4) [.row o'] = A ++ (pcA { p with nets := ns } o' ++ D) := by
 unfold setR
 have h1 : (A ++ (pcA p o ++ D)).take (A.length + 4) = A ++ (pcA p o).take 4 := by
  rw [List.take_append, qaN (by omega), Nat.add_sub_cancel_left, qa3 (by simp [pcA])]
 have h2 : (A ++ (pcA p o ++ D)).drop (A.length + 4 + [AV.row o'].length) = D := by
  rw [List.drop_append, qbe (by omega), qbc, show A.length + 4 + [AV.row o'].length - A.length = (pcA p o).length by simp [pcA]; omega, qca]
 rw [h1, h2]
 simp [pcA]
theorem mvC_step (n : NtP) (l : List PE) (k : Nat) (hk : k < l.length) : setR (mvC n l k) (k * 5 + 4) [.row (k + 1100)] = mvC n l (k + 1) := by
 have h1 : (pcs (fun i => i + 1100) 0 ((dnL n l).take k)).length = k * 5 := by rw [zej, List.length_take, zbo]; omega
 unfold mvC
 rw [qbh hk, pcs, ← h1, pcA_set l[k] _ _ (delN n l[k].nets)]
 have h2 : (dnL n l).take (k + 1) = (dnL n l).take k ++ [dnP n l[k]] := by
  rw [qaM (by rw [zbo]; exact hk), dnL_at n l k hk]
 have h3 : ((dnL n l).take k).length = k := by rw [List.length_take, zbo]; omega
 rw [h2, zg5, h3, Nat.zero_add, qaY]
 simp [pcs, dnP]
theorem pcs_set (nm : Nat → Nat) (l : List PE) (j o : Nat) (hj : j < l.length) (ns : List NtP) : setR (pcs nm 0 l) (j * 5 + 4) [.row o] = pcs (fun i => if i = j then o else nm i) 0 (l.set j { l[j] with nets := ns }) := by
 have h1 : l = l.take j ++ l[j] :: l.drop (j + 1) := by rw [List.getElem_cons_drop, qa1]
 have h2 : l.set j { l[j] with nets := ns } = l.take j ++ { l[j] with nets := ns } :: l.drop (j + 1) := by rw [List.set_eq_take_append_cons_drop, if_pos hj]
 have h3 : (l.take j).length = j := by rw [List.length_take]; omega
 have h4 : (pcs nm 0 (l.take j)).length = j * 5 := by rw [zej, h3]
 rw [h2]
 conv => lhs; rw [h1]
 rw [zg5, zg5, h3, Nat.zero_add, pcs, pcs, ← h4, pcA_set l[j] _ _ ns]
 rw [if_pos rfl, zek (nm := fun i => if i = j then o else nm i) (nm' := nm) (l.take j) 0 (fun i hi => by rw [List.length_take] at hi; exact if_neg (by omega)), zek (nm := fun i => if i = j then o else nm i) (nm' := nm) (l.drop (j + 1)) (j + 1) (fun i hi => if_neg (by omega))]
def mvU : List (Nat × Slot) := [(1100, .un), (1101, .un), (1102, .un), (1103, .un), (1104, .un), (1105, .un)]
def mvR (key : ByteArray) (port : Int) (l : List PE) : List (Nat × Slot) := (0, D0 key port) :: (1, .live (.rowA 48 5 l.length none (pcs (fun i => i + 1000) 0 l))) :: (64, .un) :: (65, .un) :: (66, .un) :: (fams (fun i => i + 1000) 0 l ++ mvU)
def mvW (key : ByteArray) (port : Int) (l l' : List PE) : List (Nat × Slot) := (0, D0 key port) :: (1, .live (.row 48 5 l.length (l'.flatMap PE.pv))) :: (64, .dead) :: (65, .dead) :: (66, .dead) :: ((fams (fun i => i + 1000) 0 l).map (fun p => (p.1, Slot.dead)) ++ mvU.map fun p => (p.1, Slot.dead))
def mvN (n : Nat) : List Nat := 0 :: 1 :: 64 :: 65 :: 66 :: ((List.range n).map (fun i => i + 1000) ++ [1100, 1101, 1102, 1103, 1104, 1105])
theorem mvN_nd : ∀ n, n < 7 → (mvN n).Nodup := qw
theorem mvN_nd2 : ∀ n, n < 7 → (0 :: 1 :: (List.range n).map fun i => 0 + i + 1100).Nodup := qw
theorem zf2 (key : ByteArray) (port : Int) (l : List PE) : (mvR key port l).map Prod.fst = mvN l.length := by
 unfold mvR mvN
 rw [qaF, qaF, qaF, qaF, qaF, qa4, zfA]
 simp [mvU]
theorem zeY (key : ByteArray) (port : Int) (l l' : List PE) : (mvW key port l l').map Prod.fst = mvN l.length := by
 unfold mvW mvN
 rw [qaF, qaF, qaF, qaF, qaF, qa4, qbg]
 have : (fams (fun i => i + 1000) 0 l).map (Prod.fst ∘ fun p => (p.1, Slot.dead)) = (fams (fun i => i + 1000) 0 l).map Prod.fst := rfl
 rw [this, zfA]
 simp [mvU]
theorem zbZ {n o : Nat} : o ∈ mvN n ↔ o = 0 ∨ o = 1 ∨ o = 64 ∨ o = 65 ∨ o = 66 ∨ (1000 ≤ o ∧ o < 1000 + n) ∨ (1100 ≤ o ∧ o ≤ 1105) := by
 unfold mvN
 simp only [qaI, qaW, qaJ, qb1, qbr, or_false]
 constructor
 ·rintro (h | h | h | h | h | ⟨i, h, rfl⟩ | h) <;> omega
 ·rintro (h | h | h | h | h | h | h)
  ·exact .inl h
  ·exact .inr (.inl h)
  ·exact .inr (.inr (.inl h))
  ·exact .inr (.inr (.inr (.inl h)))
  ·exact .inr (.inr (.inr (.inr (.inl h))))
  ·exact .inr (.inr (.inr (.inr (.inr (.inl ⟨o - 1000, qk, qk⟩)))))
  ·exact .inr (.inr (.inr (.inr (.inr (.inr qk)))))
theorem mv_end {key : ByteArray} {port : Int} {l l' : List PE} (h7 : l.length < 7) {heap H : Nat → Slot} (e0 : H 0 = D0 key port) (e1 : H 1 = .live (.row 48 5 l.length (l'.flatMap PE.pv))) (er : ∀ o, o ∉ mvN l.length → H o = heap o) (o : Nat) :
 H o = updL heap (mvW key port l l') o ∨ updL heap (mvW key port l l') o = .dead := by
 by_cases ho : o ∈ mvN l.length
 ·have hnd : ((mvW key port l l').map Prod.fst).Nodup := by rw [zeY]; exact mvN_nd _ h7
  rw [← zeY key port l l'] at ho
  obtain ⟨p, hp, rfl⟩ := qaJ.1 ho
  have hv := zbU (h := heap) hnd p hp
  rw [hv]
  unfold mvW at hp
  simp only [qaI, qaW, qaJ] at hp
  rcases hp with rfl | rfl | rfl | rfl | rfl | ⟨q, _, rfl⟩ | ⟨q, _, rfl⟩
  ·exact .inl e0
  ·exact .inl e1
  all_goals exact .inr rfl
 ·left
  rw [er o ho, zaz (by rw [zeY]; exact ho)]
theorem mv_fin {P : Program} {rs : List ResultVar} {res : AV} {key : ByteArray} {port : Int} {l l' : List PE} (h7 : l.length < 7) {heap : Nat → Slot} {tm : Nat → AV} {e : Exit} (he : e = .normal ∨ e = .ret) (vals : List AV) (hx : ∀ H, ResIs P ⟨tm, H⟩ rs vals) (hr : oneA vals = res) :
 FinO P rs res heap (mvW key port l l') e ⟨tm, updL heap (mvW key port l l')⟩ := by
 have hnd : ((mvW key port l l').map Prod.fst).Nodup := by rw [zeY]; exact mvN_nd _ h7
 refine ⟨he, ⟨vals, hx _, hr⟩, zc1 fun p hp => zbU hnd p hp, fun o ho => zaz fun hm => ?_⟩
 obtain ⟨p, hp, rfl⟩ := qaJ.1 hm
 have := List.any_eq_false.1 ho p hp
 simp at this
theorem moveX_s (key : ByteArray) (port : Int) (l : List PE) (ok : CF.OK ⟨key, port, l⟩) (pt : ByteArray) (n : NtP) (hpt : pt ≠ ⟨#[]⟩) (hJ : peN pt l < l.length) (h6 : l.length ≤ 6) (r : Int) (l' : List PE)
 (hr : (r = 7 ∧ (delN n l[peN pt l].nets).length = 8 ∧ l' = dnL n l) ∨ (r = 0 ∧ (delN n l[peN pt l].nets).length ≠ 8 ∧ ∃ p : Nat, p ≤ (delN n l[peN pt l].nets).length ∧ (∀ u, u < p → (hu : u < (delN n l[peN pt l].nets).length) → zbD (delN n l[peN pt l].nets)[u].1 (delN n l[peN pt l].nets)[u].2 n.1 n.2 < 0) ∧
  (∀ u, p ≤ u → (hu : u < (delN n l[peN pt l].nets).length) → ¬ zbD (delN n l[peN pt l].nets)[u].1 (delN n l[peN pt l].nets)[u].2 n.1 n.2 < 0) ∧
  l' = (dnL n l).set (peN pt l) { l[peN pt l] with nets := (delN n l[peN pt l].nets).take p ++ n :: (delN n l[peN pt l].nets).drop p })) :
 FnO prog 133 [.ref 0 0, qc pt, .agg ((ntC n).map AV.p)] (mvR key port l) (mvW key port l l') (qd r) := by
 have h7 : l.length < 7 := qk
 have hnd : ((mvR key port l).map Prod.fst).Nodup := by rw [zf2]; exact mvN_nd _ h7
 refine fnIO fun w0 A heap => ?_
 have hall := zbU (h := heap) hnd
 have e0 : updL heap (mvR key port l) 0 = D0 key port := hall (0, D0 key port) qaz
 have e1 : updL heap (mvR key port l) 1 = .live (.rowA 48 5 l.length none (pcs (fun i => i + 1000) 0 l)) := hall (1, _) qaz
 have e64 : updL heap (mvR key port l) 64 = .un := hall (64, .un) qaz
 have e65 : updL heap (mvR key port l) 65 = .un := hall (65, .un) qaz
 have e66 : updL heap (mvR key port l) 66 = .un := hall (66, .un) qaz
 have eF : ∀ u, (h : u < l.length) → updL heap (mvR key port l) (u + 1000) = nrow l[u] := fun u h => hall (u + 1000, nrow l[u]) (by
  unfold mvR
  simp only [qaI, qaW]
  exact .inr (.inr (.inr (.inr (.inr (.inl (zcw.2 ⟨u, h, by rw [Nat.zero_add]⟩)))))))
 have eU : ∀ u, u < 6 → updL heap (mvR key port l) (u + 1100) = .un := fun u h => hall (u + 1100, .un) (by
  unfold mvR mvU
  have : u = 0 ∨ u = 1 ∨ u = 2 ∨ u = 3 ∨ u = 4 ∨ u = 5 := qk
  rcases this with rfl | rfl | rfl | rfl | rfl | rfl <;> simp)
 have er : ∀ o, o ∉ mvN l.length → updL heap (mvR key port l) o = heap o := fun o ho => zaz (by rw [zf2]; exact ho)
 obtain ⟨H, hH⟩ : ∃ H, updL heap (mvR key port l) = H := ⟨_, rfl⟩
 rw [hH] at hall e0 e1 e64 e65 e66 eF eU er ⊢
 clear hall hH hnd
 unfold D0 at e0
 refine G [2] ?_
 refine zab (a_box (X := .agg ((ntC n).map AV.p)) 64 rfl) rfl rfl ⟨e64, trivial⟩ ?_
 refine G [4] ?_
 refine zaZ (zhL (cs := ntC n) 5 64 rfl rfl rfl) ?_
 skip
 refine G [4] ?_
 refine zab (zbq U22 rfl rfl) rfl rfl ⟨e0, trivial⟩ ?_
 refine zab (a_lenRA U22) rfl rfl ⟨e1, trivial⟩ ?_
 refine G [2] ?_
 refine jcM ?_
 refine awp_loopO (fun m st => ∃ k : Nat, ∃ GV : Nat → Slot, m + k = l.length ∧ st = ⟨zcL [(0, .ref 0 0), (1, qc pt), (5, .ptr (ntC n)), (17, qd l.length), (18, qd k)], GV⟩ ∧ GV 0 = D0 key port ∧ GV 1 = .live (.rowA 48 5 l.length none (mvC n l k)) ∧ GV 65 = .un ∧ GV 66 = .un ∧
  (∀ u, (h : u < l.length) → u < k → GV (u + 1100) = nrow (dnP n l[u])) ∧ (∀ u, (h : u < l.length) → k ≤ u → GV (u + 1000) = nrow l[u]) ∧ (∀ u, k ≤ u → u < 6 → GV (u + 1100) = .un) ∧ ∀ o, o ∉ mvN l.length → GV o = heap o) l.length ?_ ?_
 ·have ne : ∀ o, o ≠ 64 → updL (updL H [(64, .live (.box 82 ((ntC n).map AV.p)))]) [(64, .dead)] o = H o := fun o ho => by rw [zch ho, zch ho]
  refine ⟨_, zdz [(0, .ref 0 0), (1, qc pt), (5, .ptr (ntC n)), (17, qd l.length), (18, qd (0 : Nat))] (updL (updL H [(64, .live (.box 82 ((ntC n).map AV.p)))]) [(64, .dead)]) qE (fun o => .inl rfl), 0, _, qk, rfl, (ne 0 qw).trans e0, (ne 1 qw).trans e1, (ne 65 qw).trans e65, (ne 66 qw).trans e66, fun u h hu => by omega, fun u h _ => (ne _ qk).trans (eF u h), fun u _ hu => (ne _ qk).trans (eU u hu), fun o ho => (ne o fun e => ho qR).trans (er o ho)⟩
 clear e0 e1 e64 e65 e66 eF eU er
 rintro m st ⟨k, GV, hm, rfl, e0, e1, e65, e66, eD, eF, eU, er⟩
 unfold D0 at e0
 refine G [5] ?_
 refine cX ?_ ?_ <;> intro h
 ·have hlt : k < l.length := by simp at h; omega
  clear h
  have hcl := mvC_len n l k qk
  have hat := mvC_at n l k hlt
  have hst := mvC_step n l k hlt
  have hoF := eF k hlt (Nat.le_refl k)
  have hoU := eU k (Nat.le_refl k) qk
  have hC := rmN_c l[k].nets n (ok.ps l[k] (qbz hlt)).2
  unfold nrow at hoF
  refine G [13] ?_
  refine zab (zbq U22 rfl rfl) rfl rfl ⟨e0, trivial⟩ ?_
  refine mP rfl rfl ?_
  refine zab (zaF U22 sz48 qk qk (q := k * 5) qaq) rfl rfl ⟨e1, trivial⟩ ?_
  refine G [7] ?_
  refine zab (zbv U46 rfl hat) rfl rfl ⟨e1, trivial⟩ ?_
  refine jdY zeF ?_
  refine zab (a_callR (rds := []) (o := k + 1000) (o' := k + 1100) (n := l[k].nets.length) (n' := (delN n l[k].nets).length) (ps := l[k].nets.flatMap ntC) (qs := (delN n l[k].nets).flatMap ntC) (xs := [.fn 170 [.ptr (ntC n)]]) (cs := []) func169 rfl rfl (seen_data _ rfl (qbQ ..)) hC) rfl rfl ⟨hoF, hoU, trivial⟩ ?_
  refine G [2] ?_
  refine zab (zco (Y := .row (k + 1100)) (cs := mvC n l k) sz46 rfl rfl qas hst) rfl rfl ⟨(by show updL _ _ 1 = _; simp only [updL, nbeq (show 1 ≠ k + 1100 by omega), nbeq (show 1 ≠ k + 1000 by omega), cond_false]; exact e1), trivial⟩ ?_
  refine G [5] ?_
  refine jcM ?_
  obtain ⟨G1, hG1⟩ : ∃ G1 : Nat → Slot, G1 = updL (updL GV [(k + 1100, .live (.row 82 2 (delN n l[k].nets).length ((delN n l[k].nets).flatMap ntC))), (k + 1000, .dead)]) [(1, .live (.rowA 48 5 l.length none (mvC n l (k + 1))))] := ⟨_, rfl⟩
  have ne : ∀ o, o ≠ 1 → o ≠ k + 1100 → o ≠ k + 1000 → G1 o = GV o := fun o a1 a2 a3 => by rw [hG1]; simp only [updL, nbeq a1, nbeq a2, nbeq a3, cond_false]
  refine ⟨m - 1, qk, _, zdz [(0, .ref 0 0), (1, qc pt), (5, .ptr (ntC n)), (17, qd l.length), (18, qd (k + 1 : Nat))] G1 qE (fun o => .inl (by rw [hG1]; rfl)), k + 1, G1, qk, rfl, (ne 0 qk qk qk).trans e0, by rw [hG1]; rfl, (ne 65 qk qk qk).trans e65, (ne 66 qk qk qk).trans e66, fun u h hu => ?_, fun u h hu => (ne _ qk qk qk).trans (eF u h qk), fun u hu h6 => (ne _ qk qk qk).trans (eU u qk h6), fun o ho => (ne o (fun e => ho qR) (fun e => ho qR) (fun e => ho qR)).trans (er o ho)⟩
  by_cases huk : u = k
  ·subst huk
   rw [hG1]
   simp only [updL, nbeq (show u + 1100 ≠ 1 by omega), qbv, cond_false, cond_true]
   rfl
  ·exact (ne _ qk qk qk).trans (eD u h qk)
 have hge : k = l.length := by simp at h; omega
 clear h
 subst hge
 have hC1 : mvC n l l.length = pcs (fun i => i + 1100) 0 (dnL n l) := by
  unfold mvC
  rw [List.drop_length, qaN (by rw [zbo]; exact Nat.le_refl _)]
  exact qaV _
 rw [hC1] at e1
 have eD' : ∀ p ∈ fams (fun i => i + 1100) 0 (dnL n l), GV p.1 = p.2 := fun p hp => by
  obtain ⟨i, hi, rfl⟩ := zcw.1 hp
  rw [zbo] at hi
  show GV (0 + i + 1100) = nrow ((dnL n l)[i]'(by rw [zbo]; exact hi))
  rw [Nat.zero_add, dnL_at n l i hi]
  exact eD i hi hi
 obtain ⟨J, hJe⟩ : ∃ J, peN pt l = J := ⟨_, rfl⟩
 have hP := peerT_s key port (dnL n l) (dnL_ok ok) pt _ _ (pcs_V (fun i => i + 1100) (dnL n l) 0) (zet _ _ _) (by rw [zfA, zbo]; exact mvN_nd2 _ h7) hpt (by rw [dnL_peN, zbo]; exact hJ)
 rw [dnL_peN, zbo] at hP
 have hall7 : ∀ p ∈ (0, D0 key port) :: (1, Slot.live (.rowA 48 5 l.length none (pcs (fun i => i + 1100) 0 (dnL n l)))) :: fams (fun i => i + 1100) 0 (dnL n l), GV p.1 = p.2 := fun p hp => by
  rcases qaI.1 hp with rfl | hp
  ·exact e0
  rcases qaI.1 hp with rfl | hp
  ·exact e1
  ·exact eD' p hp
 have hself := zd9 hall7
 simp only [hJe] at hr hP hJ
 have hatJ : (pcs (fun i => i + 1100) 0 (dnL n l))[J * 5 + 4]? = some (.row (J + 1100)) := by
  have := pcs_at (fun i => i + 1100) (dnL n l) 0 J (by rw [zbo]; exact hJ)
  rwa [Nat.zero_add] at this
 have hcl : (pcs (fun i => i + 1100) 0 (dnL n l)).length = l.length * 5 := by rw [zej, zbo]
 have eJ := eD J hJ hJ
 unfold nrow dnP at eJ
 dsimp only at eJ
 have hnl : (delN n l[J].nets).length ≤ 1048576 := qby zcm.1 (ok.ps l[J] (qbz hJ)).2
 refine G [5] ?_
 refine zaK hP rfl rfl F130 rfl rfl (zc1 hall7) rfl ?_
 refine G [6] ?_
 refine zbd (zdz [(0, .ref 0 0), (1, qc pt), (5, .ptr (ntC n)), (9, .ref 1 (J * 5))] GV qE (fun o => .inl (congrFun hself o))) ?_
 rcases hr with ⟨rfl, h8, rfl⟩ | ⟨rfl, h8, p, hp, hlo, hhi, rfl⟩
 ·refine G [6] ?_
  refine zab (zbv U46 rfl hatJ) rfl rfl ⟨e1, trivial⟩ ?_
  refine zab (a_lenR U46) rfl rfl ⟨eJ, trivial⟩ ?_
  refine zaa (a_eqlV (c := true) (by rw [h8]; rfl)) rfl rfl ?_
  refine G [6] ?_
  refine zbd (zdP (o := 1) (pcs_V (fun i => i + 1100) (dnL n l) 0) eD' (zet _ _ _) e1 (fun hm => ?_)) ?_
  ·obtain ⟨q, hq, hq1⟩ := qaJ.1 hm
   obtain ⟨i, hi, rfl⟩ := zcw.1 hq
   dsimp only at hq1
   omega
  have ne : ∀ o, o ≠ 1 → (∀ i, i < 6 → o ≠ i + 1100) → updL GV ((1, .live (.row 48 5 l.length ((dnL n l).flatMap PE.pv))) :: (fams (fun i => i + 1100) 0 (dnL n l)).map fun p => (p.1, .dead)) o = GV o := fun o a1 a2 => zaz fun hm => by
   simp only [qaF, qaI, qbg, qaJ] at hm
   rcases hm with hm | ⟨q, hq, hq1⟩
   ·exact a1 hm
   ·obtain ⟨i, hi, rfl⟩ := zcw.1 hq
    rw [zbo] at hi
    exact a2 i qk (by rw [← hq1]; show 0 + i + 1100 = _; omega)
  refine zaZ (zdz [(6, qd 7)] (updL heap (mvW key port l (dnL n l))) ⟨rfl, trivial⟩ (mv_end h7 ((ne 0 qw (fun i _ => by omega)).trans e0) rfl (fun o ho => (ne o (fun e => ho qR) (fun i hi e => ho qR)).trans (er o ho)))) ?_
  refine zaB (zbs ?_)
  exact mv_fin h7 qI _ (fun H => .tmp _ _ _ _ rfl .nil) rfl
 ·refine G [6] ?_
  refine zab (zbv U46 rfl hatJ) rfl rfl ⟨e1, trivial⟩ ?_
  refine zab (a_lenR U46) rfl rfl ⟨eJ, trivial⟩ ?_
  refine G [0, 3, 2] ?_
  obtain ⟨fb, hB⟩ := bsN_s (delN n l[J].nets) n p hnl hp hlo hhi
  have hI := inN_c (delN n l[J].nets) n p hp hnl
  have hset := pcs_set (fun i => i + 1100) (dnL n l) J 66 (by rw [zbo]; exact hJ) ((delN n l[J].nets).take p ++ n :: (delN n l[J].nets).drop p)
  rw [dnL_at n l J hJ] at hset
  change setR _ _ _ = pcs (fun i => if i = J then 66 else i + 1100) 0 ((dnL n l).set J { l[J] with nets := (delN n l[J].nets).take p ++ n :: (delN n l[J].nets).drop p }) at hset
  have hNl : ((delN n l[J].nets).take p ++ n :: (delN n l[J].nets).drop p).length = (delN n l[J].nets).length + 1 := by
   exact jb6
  obtain ⟨ns, hns⟩ : ∃ ns, (delN n l[J].nets).take p ++ n :: (delN n l[J].nets).drop p = ns := ⟨_, rfl⟩
  rw [hns] at hset hNl hI
  rw [hns]
  clear hlo hhi
  obtain ⟨l', hl'⟩ : ∃ l' : List PE, (dnL n l).set J { l[J] with nets := ns } = l' := ⟨_, rfl⟩
  have hll : l'.length = l.length := by rw [← hl', List.length_set, zbo]
  obtain ⟨G2, hG2⟩ : ∃ G2 : Nat → Slot, G2 = updL (updL (updL GV [(65, .live (.box 82 ((ntC n).map AV.p)))]) [(66, .live (.row 82 2 ((delN n l[J].nets).length + 1) (ns.flatMap ntC))), (J + 1100, .dead), (65, .dead)]) [(1, .live (.rowA 48 5 l.length none (pcs (fun i => if i = J then 66 else i + 1100) 0 l')))] := ⟨_, rfl⟩
  have ne : ∀ o, o ≠ 1 → o ≠ 65 → o ≠ 66 → o ≠ J + 1100 → G2 o = GV o := fun o a1 a2 a3 a4 => by rw [hG2]; simp only [updL, nbeq a1, nbeq a2, nbeq a3, nbeq a4, cond_false]
  have f1 : G2 1 = .live (.rowA 48 5 l.length none (pcs (fun i => if i = J then 66 else i + 1100) 0 l')) := by rw [hG2]; rfl
  have f0 : G2 0 = D0 key port := (ne 0 qw qw qw qk).trans e0
  have fF : ∀ q ∈ fams (fun i => if i = J then 66 else i + 1100) 0 l', G2 q.1 = q.2 := fun q hq => by
   obtain ⟨i, hi, rfl⟩ := zcw.1 hq
   rw [hll] at hi
   show G2 (if 0 + i = J then 66 else 0 + i + 1100) = nrow _
   rw [Nat.zero_add]
   by_cases hiJ : i = J
   ·subst hiJ
    rw [if_pos rfl, hG2]
    simp only [← hl', List.getElem_set_self]
    unfold nrow
    dsimp only
    rw [hNl]
    rfl
   ·rw [if_neg hiJ, ne _ (by omega) (by omega) (by omega) (by omega), eD i hi hi]
    simp only [← hl', List.getElem_set_ne (Ne.symm hiJ)]
    rw [dnL_at n l i hi]
  have fr : ∀ o, o ∉ mvN l.length → G2 o = heap o := fun o ho => (ne o (fun e => ho qR) (fun e => ho qR) (fun e => ho qR) (fun e => ho qR)).trans (er o ho)
  have ne2 : ∀ o, o ≠ 1 → o ≠ 66 → (∀ i, i < 6 → o ≠ i + 1100) → updL G2 ((1, .live (.row 48 5 l.length (l'.flatMap PE.pv))) :: (fams (fun i => if i = J then 66 else i + 1100) 0 l').map fun p => (p.1, .dead)) o = G2 o := fun o a1 a3 a2 => zaz fun hm => by
   simp only [qaF, qaI, qbg, qaJ] at hm
   rcases hm with hm | ⟨q, hq, hq1⟩
   ·exact a1 hm
   ·obtain ⟨i, hi, rfl⟩ := zcw.1 hq
    rw [hll] at hi
    change (if 0 + i = J then 66 else 0 + i + 1100) = o at hq1
    rw [Nat.zero_add] at hq1
    split at hq1
    ·exact a3 hq1.symm
    ·exact a2 i qk hq1.symm
  have hno : 1 ∉ (fams (fun i => if i = J then 66 else i + 1100) 0 l').map Prod.fst := fun hm => by
   obtain ⟨q, hq, hq1⟩ := qaJ.1 hm
   obtain ⟨i, hi, rfl⟩ := zcw.1 hq
   dsimp only at hq1
   split at hq1 <;> omega
  rw [hl'] at hset ⊢
  have hE := mv_end (l := l) (l' := l') h7 ((ne2 0 qw qw (fun i _ => by omega)).trans f0) rfl (fun o ho => (ne2 o (fun e => ho qR) (fun e => ho qR) (fun i hi e => ho qR)).trans (fr o ho))
  have hF := mv_fin (P := prog) (rs := f133.results.toList) (res := qd 0) (key := key) (port := port) (l := l) (l' := l') h7 (heap := heap) (tm := zcL [(6, qd 0)]) (e := .ret) (.inr rfl) _ (fun H => .tmp _ _ _ _ rfl .nil) rfl
  have hV := pcs_V (fun i => if i = J then 66 else i + 1100) l' 0
  have hLv := zet (fun i => if i = J then 66 else i + 1100) l' 0
  clear eD eF eU er ne ne2 f0 fr hall7 hself hP eD' hll hl' hNl
  generalize (delN n l[J].nets).length = N at *
  generalize (delN n l[J].nets).flatMap ntC = NC at *
  generalize ns.flatMap ntC = NC2 at *
  generalize hCC : pcs (fun i => i + 1100) 0 (dnL n l) = CC at *
  generalize hCD : pcs (fun i => if i = J then 66 else i + 1100) 0 l' = CD at *
  generalize hFF : fams (fun i => if i = J then 66 else i + 1100) 0 l' = FF at *
  have hJ6 : J = 0 ∨ J = 1 ∨ J = 2 ∨ J = 3 ∨ J = 4 ∨ J = 5 := qk
  rcases hJ6 with rfl | rfl | rfl | rfl | rfl | rfl
  all_goals
   (repeat (first | refine zan ?_ | refine zax ?_ | refine zay ?_ | refine zaB ?_ | refine zaG ?_ | refine zaE ?_ | refine zbs ?_ | refine zbA ?_ | refine zb6 ?_ | refine zb1 ?_ | refine zb0 ?_ | refine zcM rfl ?_))
   refine G [4] ?_
   refine zab (zbv U46 rfl hatJ) rfl rfl ⟨e1, trivial⟩ ?_
   refine jdY (zam U82 rfl sz82 (qaA rfl) (rfl)) ?_
   refine zbQ (fun n => 55 + 1000 * n) (hB) rfl (by show [zfS (GV _), _, _] = _; rw [eJ]; rfl) func171 rfl rfl qC qC rfl rfl rfl ql rfl rfl rfl ?_
   refine G [6] ?_
   (repeat (first | refine zan ?_ | refine zax ?_ | refine zay ?_ | refine zaB ?_ | refine zaG ?_ | refine zaE ?_ | refine zbs ?_ | refine zbA ?_ | refine zb6 ?_ | refine zb1 ?_ | refine zb0 ?_ | refine zcM rfl ?_))
   refine G [5] ?_
   refine zab (zbv U46 rfl hatJ) rfl rfl ⟨e1, trivial⟩ ?_
   refine mP rfl rfl ?_
   refine jdY (zam U82 rfl sz82 (qaA rfl) (rfl)) ?_
   refine zab (zd3 65 U46 sz82 zc82 (qaA rfl) (qaA rfl) rfl rfl (qaA rfl)) rfl rfl ⟨e65, trivial⟩ ?_
   refine zab (a_callR2 (o' := 66) (n := N) (n' := N + 1) (ps := NC) (qs := NC2) func172 rfl rfl rfl rfl qw hI) rfl rfl ⟨eJ, e66, rfl, trivial⟩ ?_
   refine G [2] ?_
   refine zab (zco (Y := .row 66) (cs := CC) sz46 rfl rfl qas hset) rfl rfl ⟨e1, trivial⟩ ?_
   refine zag ⟨qm, ?_⟩
   (repeat (first | refine zan ?_ | refine zax ?_ | refine zay ?_ | refine zaB ?_ | refine zaG ?_ | refine zaE ?_ | refine zbs ?_ | refine zbA ?_ | refine zb6 ?_ | refine zb1 ?_ | refine zb0 ?_ | refine zcM rfl ?_))
   refine G [3] ?_
   refine zbd (zdz [(6, qd 0)] G2 ⟨rfl, trivial⟩ (fun o => .inl (by rw [hG2]; rfl))) ?_
   refine zaZ (zdP (o := 1) hV fF hLv f1 hno) ?_
   refine zaZ (zdz [(6, qd 0)] (updL heap (mvW key port l l')) ⟨rfl, trivial⟩ hE) ?_
   (repeat (first | refine zan ?_ | refine zax ?_ | refine zay ?_ | refine zaB ?_ | refine zaG ?_ | refine zaE ?_ | refine zbs ?_ | refine zbA ?_ | refine zb6 ?_ | refine zb1 ?_ | refine zb0 ?_ | refine zcM rfl ?_))
   exact hF
end Go.Proofs.YtlfjpippeeikdaaGreatDoor
