/- apply.peer and apply.move, over data: a configuration of one's own, its nets too. -/
import Derived.Test.YtkdfdcodkeclmaaGreatDoorSAp2
import Derived.Test.YtkdfdcodkeclmaaGreatDoorSTh
namespace Go.Proofs.YtkdfdcodkeclmaaGreatDoor
open Go.RowKit Go.Sort
set_option linter.unusedVariables false
set_option linter.unusedSimpArgs false
set_option maxRecDepth 100000
def pcA (p : PE) (o : Nat) : List AV := [.p (.v (.string p.key)), .p (.v (.string p.sh)), .p (.v (.string p.ep)), .p (.v (.int .i64 p.al)), .row o]
def pcs (nm : Nat → Nat) : Nat → List PE → List AV
 | _, [] => []
 | k, p :: l => pcA p (nm k) ++ pcs nm (k + 1) l
def nrow (p : PE) : Slot := .live (.row 27 2 p.nets.length (p.nets.flatMap ntC))
def fams (nm : Nat → Nat) : Nat → List PE → List (Nat × Slot)
 | _, [] => []
 | k, p :: l => (nm k, nrow p) :: fams nm (k + 1) l
theorem pcs_V (nm : Nat → Nat) : ∀ (l : List PE) (k : Nat), CellV (fams nm k l) (pcs nm k l) (l.flatMap PE.pv)
 | [], k => .nil
 | p :: l, k => by
  rw [pcs, fams, List.flatMap_cons]
  refine CellV.append ?_ ((pcs_V nm l (k + 1)).mono fun x hx => List.mem_cons_of_mem _ hx)
  exact .p _ _ _ (.p _ _ _ (.p _ _ _ (.p _ _ _ (.row _ _ _ _ _ _ _ (List.mem_cons_self ..) .nil))))
theorem zdA (nm : Nat → Nat) : ∀ (l : List PE) (k : Nat), (pcs nm k l).length = l.length * 5
 | [], k => rfl
 | p :: l, k => by rw [pcs, List.length_append, zdA nm l (k + 1), List.length_cons]; simp [pcA]; omega
theorem zcm {nm : Nat → Nat} : ∀ {l : List PE} {k : Nat} {q : Nat × Slot}, q ∈ fams nm k l ↔ ∃ i, ∃ h : i < l.length, q = (nm (k + i), nrow l[i])
 | [], k, q => by simp [fams]
 | p :: l, k, q => by
  rw [fams, List.mem_cons, zcm (l := l)]
  constructor
  ·rintro (rfl | ⟨i, h, rfl⟩)
   ·exact ⟨0, qS, qS⟩
   ·exact ⟨i + 1, by simpa using h, by simp [Nat.add_assoc, Nat.add_comm 1 i]⟩
  ·rintro ⟨i, h, rfl⟩
   cases i with
   | zero => exact .inl (by simp)
   | succ i => exact .inr ⟨i, by simpa using h, by simp [Nat.add_assoc, Nat.add_comm 1 i]⟩
theorem zdD (nm : Nat → Nat) : ∀ (l : List PE) (k : Nat), (fams nm k l).all (fun p => match p.2 with | .live _ => true | _ => false) = true
 | [], k => rfl
 | p :: l, k => by rw [fams, List.all_cons, zdD nm l (k + 1)]; rfl
theorem pcs_at (nm : Nat → Nat) : ∀ (l : List PE) (k i : Nat), i < l.length → (pcs nm k l)[i * 5 + 4]? = some (.row (nm (k + i)))
 | p :: l, k, 0, _ => by rw [pcs]; simp [pcA]
 | p :: l, k, i + 1, h => by
  rw [pcs, List.getElem?_append_right (by simp [pcA]; omega)]
  rw [show (i + 1) * 5 + 4 - (pcA p (nm k)).length = i * 5 + 4 by simp [pcA]; omega]
  rw [pcs_at nm l (k + 1) i (by simpa using h), show k + 1 + i = k + (i + 1) by omega]
theorem zft (nm : Nat → Nat) : ∀ (l m : List PE) (k : Nat), pcs nm k (l ++ m) = pcs nm k l ++ pcs nm (k + l.length) m
 | [], m, k => rfl
 | p :: l, m, k => by
  rw [List.cons_append, pcs, pcs, zft nm l m (k + 1), List.append_assoc, List.length_cons]
  congr 3
  omega
theorem zdB {nm nm' : Nat → Nat} : ∀ (l : List PE) (k : Nat), (∀ i, i < l.length → nm (k + i) = nm' (k + i)) → pcs nm k l = pcs nm' k l
 | [], k, _ => rfl
 | p :: l, k, h => by
  have h0 := h 0 qS
  rw [Nat.add_zero] at h0
  have ih := zdB (nm := nm) (nm' := nm') l (k + 1) fun i hi => by
   have := h (i + 1) (by simpa using hi)
   rwa [show k + (i + 1) = k + 1 + i by omega] at this
  show pcA p (nm k) ++ pcs nm (k + 1) l = pcA p (nm' k) ++ pcs nm' (k + 1) l
  rw [ih, h0]
theorem zcJ {st : St} : ∀ {L : List (Nat × Slot)}, (∀ p ∈ L, st.heap p.1 = p.2) → Rds st L
 | [], _ => trivial
 | p :: L, h => ⟨h p (by simp), zcJ fun q hq => h q (by simp [hq])⟩
theorem zcc {h : Nat → Slot} {o q : Nat} {s : Slot} (hne : o ≠ q) : updL h [(q, s)] o = h o := by simp only [updL, nbeq hne, cond_false]
/-- no two of one name -/
theorem zbY {h : Nat → Slot} : ∀ {L : List (Nat × Slot)}, (L.map Prod.fst).Nodup → ∀ p ∈ L, updL h L p.1 = p.2
 | [], _, p, hp => by cases hp
 | (n, s) :: L, hn, p, hp => by
  simp only [List.map_cons, List.nodup_cons] at hn
  rcases List.mem_cons.1 hp with rfl | hp
  ·simp [updL]
  ·have hne : p.1 ≠ n := fun e => hn.1 (e ▸ List.mem_map.2 ⟨p, hp, rfl⟩)
   simp only [updL, nbeq hne, cond_false]
   exact zbY hn.2 p hp
def D0 (key : ByteArray) (port : Int) : Slot := .live (.box 24 [.p (.v (.string key)), .p (.v (.int .i64 port)), .row 1])
set_option maxHeartbeats 4000000 in
theorem peerT_s (key : ByteArray) (port : Int) (l : List PE) (ok : CF.OK ⟨key, port, l⟩) (pt : ByteArray) (cs : List AV) (fam : List (Nat × Slot)) (hV : CellV fam cs (l.flatMap PE.pv)) (hl : fam.all (fun p => match p.2 with | .live _ => true | _ => false) = true)
  (hnd : ((0 :: 1 :: fam.map Prod.fst)).Nodup) (h0 : pt ≠ ⟨#[]⟩) (h1 : peN pt l < l.length) :
  FnO Tryz.prog 51 [.ref 0 0, .p (.v (.string pt))] ((0, D0 key port) :: (1, .live (.rowA 60 5 l.length none cs)) :: fam) ((0, D0 key port) :: (1, .live (.rowA 60 5 l.length none cs)) :: fam) (.tup [.ref 1 (peN pt l * 5), .p (.v (.int .i64 0))]) := by
 have hF := ze5 ⟨key, port, l⟩ ok pt
 change Fn Tryz.prog _ [.agg [.p (.v (.string key)), .p (.v (.int .i64 port)), .p (.sl l.length 5 (l.flatMap PE.pv))], _] (if peN pt l < l.length then _ else _) _ at hF
 rw [if_pos h1] at hF
 have hn := ok.len
 dsimp only at hn
 clear ok
 generalize l.flatMap PE.pv = L at *
 generalize peN pt l = N at *
 obtain ⟨fam', hfam'⟩ : ∃ f : List (Nat × Slot), (0, D0 key port) :: (1, .live (.rowA 60 5 l.length none cs)) :: fam = f := ⟨_, rfl⟩
 have hnd' : (fam'.map Prod.fst).Nodup := by rw [← hfam']; exact hnd
 rw [hfam']
 refine za1 F51 rfl (qE rfl) fun w0 A heap => ?_
 have hall := zbY (h := heap) hnd'
 have e0 : updL heap fam' 0 = D0 key port := hall (0, D0 key port) (by rw [← hfam']; exact List.mem_cons_self ..)
 have e1 : updL heap fam' 1 = .live (.rowA 60 5 l.length none cs) := hall (1, .live (.rowA 60 5 l.length none cs)) (by rw [← hfam']; exact List.mem_cons_of_mem _ (List.mem_cons_self ..))
 have e12 : ∀ p ∈ (1, Slot.live (.rowA 60 5 l.length none cs)) :: fam, updL heap fam' p.1 = p.2 := fun p hp => hall p (by rw [← hfam']; exact List.mem_cons_of_mem _ hp)
 obtain ⟨H, hH⟩ : ∃ H, updL heap fam' = H := ⟨_, rfl⟩
 rw [hH] at hall e0 e1 e12 ⊢
 unfold D0 at e0
 refine zaa ?_
 refine tx ?_
 refine aP rfl rfl ?_
 refine aP rfl rfl ?_
 refine zab ?_
 refine zaa ?_
 refine tx ?_
 refine zac (zam (r := .ref _ _)) rfl rfl ?_
 refine zac zaY rfl rfl ?_
 refine zah (zb8 (es := [.p (.v (.string key)), .p (.v (.int .i64 port)), .row 1]) U24 rfl sz24 (qE rfl) rfl) rfl rfl ⟨e0, trivial⟩ ?_
 refine mP rfl rfl ?_
 refine zah (a_callD (fam := fam) (ps := L) F79 rfl rfl hV hl hF rfl rfl) rfl rfl (zcJ e12) ?_
 refine zac (zam (r := .tup _)) rfl rfl ?_
 refine zac (zal rfl) rfl rfl ?_
 refine zac (zal rfl) rfl rfl ?_
 refine aP rfl rfl ?_
 refine aP rfl rfl ?_
 refine zab ?_
 refine zaa (zaa ?_)
 refine tx ?_
 refine mP rfl rfl ?_
 refine zac (zaE (c := false) (by simp [h0])) rfl rfl ?_
 refine mP rfl rfl ?_
 (first | refine mP rfl rfl ?_ | refine zad rfl ?_)
 (first | refine zac zbR rfl rfl ?_ | refine zad rfl ?_)
 (first | refine zac zaj rfl rfl ?_ | refine zac zao rfl rfl ?_)
 refine zab ?_
 refine zaf ?_
 refine zag rfl ?_
 refine zae (zaa ?_)
 refine tx ?_
 refine zac (zam (r := .ref _ _)) rfl rfl ?_
 refine zac zaY rfl rfl ?_
 refine fA zaH rfl rfl ?_
 refine zah (zb2 U22 rfl rfl) rfl rfl ⟨e0, trivial⟩ ?_
 refine mP rfl rfl ?_
 refine zah (za0 U22 sz60 (by omega) (by omega) (q := N * 5) (by rw [Int.toNat_natCast])) rfl rfl ⟨e1, trivial⟩ ?_
 refine zac (zas (r := .ref _ _)) rfl rfl ?_
 refine aP rfl rfl ?_
 refine zab ?_
 refine zai ?_
 refine ⟨(by first | exact .inl rfl | exact .inr rfl), ⟨_, (.tmp _ _ _ _ rfl (.tmp _ _ _ _ rfl .nil)), ?_⟩, ?_, ?_⟩
 ·exact rfl
 ·exact zcJ fun p hp => hall p hp
 ·intro o ho
  show H o = heap o
  rw [← hH]
  refine zaR fun hm => ?_
  obtain ⟨p, hp, rfl⟩ := List.mem_map.1 hm
  have := List.any_eq_false.1 ho p hp
  simp at this
end Go.Proofs.YtkdfdcodkeclmaaGreatDoor
