/- apply.One and the reference's ApplyOne give what apO says; the law ApplyOnes. -/
import Derived.Test.YtlfjpippeeikdaaGreatDoorSAl2
set_option linter.all false
namespace Go.Proofs.YtlfjpippeeikdaaGreatDoor
open Tryz
open Go.RowKit Go.Sort
set_option maxRecDepth 100000
theorem zeG {f : FuncId} {args : List AV} {c : CF} {nx : ByteArray} {n : Nat} (hn : c.ps.length = n) (h : Fn prog f args (.tup [.agg [qc c.key, qd c.port, .row 0], qc nx, qd 0]) [(0, .row 48 5 n (c.ps.flatMap PE.pv))]) : Fn prog f args (apR (c, nx, 0)) [] := by
 subst hn
 exact fn_data h
theorem u3 : ∀ p ∈ [(3, Slot.un), (4, .un), (5, .un)], p.2 = .un ∧ 1 < p.1 ∧ p.1 < 100 := qz
theorem u5 : ∀ p ∈ [(3, Slot.un), (4, .un), (5, .un), (48, .un), (49, .un)], p.2 = .un ∧ 1 < p.1 ∧ p.1 < 100 := qz
theorem u4 : ∀ p ∈ [(3, Slot.un), (4, .un), (5, .un), (48, .un)], p.2 = .un ∧ 1 < p.1 ∧ p.1 < 100 := qz
theorem oW_no (key : ByteArray) (port : Int) (l l' : List PE) (pt t : ByteArray) (n a b : Int) : 39 ∉ (oN pt t n a b ++ mvW key port l l').map Prod.fst ∧ 106 ∉ (oN pt t n a b ++ mvW key port l l').map Prod.fst := by
 rw [qa4, zeY]
 simp only [oN, qaF, qbY, qaW, zbZ, qaI, qbr, or_false]
 omega
theorem aone_s (c : CF) (ok : c.OK) (pt : ByteArray) (s : SE) (sok : s.OK) : Fn prog 60 [.agg c.cells, qc pt, .agg s.cells] (apR (apO c pt s)) [] := by
 unfold apO
 by_cases hc : cfE c ≠ 0
 ·rw [if_pos hc]; exact zbO (aone_bad c ok pt s sok hc)
 rw [if_neg hc]
 have hc0 : cfE c = 0 := qa7.1 hc
 by_cases hs : seE s ≠ 0
 ·rw [if_pos hs]; exact zbO (aone_bad2 c ok pt s sok hc0 hs)
 rw [if_neg hs]
 have hs0 : seE s = 0 := qa7.1 hs
 clear hc hs
 obtain ⟨h6, hpe, hsrt⟩ := zhs hc0
 have hk := seE_k hs0
 obtain ⟨key, port, l⟩ := c
 obtain ⟨k, t, n, a, b⟩ := s
 dsimp only at hk h6 hpe hsrt ⊢
 rcases hk with rfl | rfl | rfl | rfl | rfl | rfl | rfl | rfl | rfl | rfl
 ·rw [if_pos rfl]
  by_cases h : peN t l < l.length
  ·rw [if_pos h]; exact zbO (zcQ ⟨key, port, l⟩ ok pt _ sok hc0 hs0 _ u3 _ _ 14 qz (one1a_s key port l ok pt t n a b h) qw)
  ·rw [if_neg h]; exact zhn (zcP ⟨key, port, l⟩ ok pt _ sok hc0 hs0 _ u3 _ ⟨#[]⟩ 0 qz (one1b_s key port l ok pt t n a b h) rfl ⟨t, port, l⟩ (zfZ ok.len ok.ps) 1 qw (fun _ => rfl) (fun _ => rfl))
 ·rw [if_neg (show ¬ (2 : Int) = 1 by decide)]
  rw [if_pos rfl]
  exact zhn (zcP ⟨key, port, l⟩ ok pt _ sok hc0 hs0 _ u3 _ ⟨#[]⟩ 0 qz (one2_s key port l ok pt t n a b) rfl ⟨key, n, l⟩ (zfZ ok.len ok.ps) 1 qw (fun _ => rfl) (fun _ => rfl))
 ·rw [if_neg (show ¬ (3 : Int) = 1 by decide)]
  rw [if_neg (show ¬ (3 : Int) = 2 by decide)]
  rw [if_pos rfl]
  exact zhn (c := ⟨key, port, []⟩) (aone_nil ⟨key, port, l⟩ ok pt _ sok hc0 hs0 _ u3 _ ⟨#[]⟩ 0 qz (one3_s key port l ok pt t n a b) rfl ⟨key, port, []⟩ (zfZ (qbk _) (fun p hp => by cases hp)) (fun _ => rfl))
 ·rw [if_neg (show ¬ (4 : Int) = 1 by decide)]
  rw [if_neg (show ¬ (4 : Int) = 2 by decide)]
  rw [if_neg (show ¬ (4 : Int) = 3 by decide)]
  rw [if_pos rfl]
  by_cases h0 : t = key
  ·rw [if_pos h0]; exact zbO (zcQ ⟨key, port, l⟩ ok pt _ sok hc0 hs0 _ u3 _ _ 14 qz (one4own_s key port l ok pt t n a b h0) qw)
  rw [if_neg h0]
  by_cases h : peN t l < l.length
  ·rw [if_pos h]; exact zhn (zcP ⟨key, port, l⟩ ok pt _ sok hc0 hs0 _ u3 _ t 0 qz (one4old_s key port l ok pt t n a b h0 h) rfl ⟨key, port, l⟩ ok 1 qw (fun _ => rfl) (fun _ => rfl))
  rw [if_neg h]
  by_cases h7 : l.length = 6
  ·rw [if_pos h7]; exact zbO (zcQ ⟨key, port, l⟩ ok pt _ sok hc0 hs0 _ u3 _ _ 7 qz (one4full_s key port l ok pt t n a b h0 h h7) qw)
  rw [if_neg h7]
  exact zhn (zcP ⟨key, port, l⟩ ok pt _ sok hc0 hs0 _ u5 _ t 0 qz (one4new_s key port l ok pt t n a b h0 h h7 _ (zfW _ _) (fun u hu hl => zim (lt := fun p : PE => sLt p.key t) u hu hl) (fun u hu hl => posP_hi hsrt t u hu hl)) rfl ⟨key, port, putP t l⟩ (putP_ok ok h6) 49 qw (fun _ => rfl) (fun _ => (by show _ = Slot.live (.row _ 5 (CF.mk key port (putP t l)).ps.length _); rw [show (CF.mk key port (putP t l)).ps.length = l.length + 1 from zik t l]; rfl)))
 ·rw [if_neg (show ¬ (5 : Int) = 1 by decide)]
  rw [if_neg (show ¬ (5 : Int) = 2 by decide)]
  rw [if_neg (show ¬ (5 : Int) = 3 by decide)]
  rw [if_neg (show ¬ (5 : Int) = 4 by decide)]
  by_cases hno : pt = ⟨#[]⟩ ∨ ¬ peN pt l < l.length
  ·rw [if_pos hno]; exact zbO (zcQ ⟨key, port, l⟩ ok pt _ sok hc0 hs0 _ u3 _ _ 13 qz (zfY 5 key port l ok pt t n a b qw qw qw qw hno) qw)
  rw [if_neg hno]
  have h0 : pt ≠ ⟨#[]⟩ := fun e => hno (.inl e)
  have h : peN pt l < l.length := qa7.1 fun e => hno (.inr e)
  rw [if_pos rfl]
  exact zhn (zcP ⟨key, port, l⟩ ok pt _ sok hc0 hs0 _ u4 _ ⟨#[]⟩ 0 qz (one5_s key port l ok pt t n a b h0 h) rfl ⟨key, port, delK pt l⟩ (delK_ok ok) 48 qw (fun _ => rfl) (fun _ => rfl))
 ·rw [if_neg (show ¬ (6 : Int) = 1 by decide)]
  rw [if_neg (show ¬ (6 : Int) = 2 by decide)]
  rw [if_neg (show ¬ (6 : Int) = 3 by decide)]
  rw [if_neg (show ¬ (6 : Int) = 4 by decide)]
  by_cases hno : pt = ⟨#[]⟩ ∨ ¬ peN pt l < l.length
  ·rw [if_pos hno]; exact zbO (zcQ ⟨key, port, l⟩ ok pt _ sok hc0 hs0 _ u3 _ _ 13 qz (zfY 6 key port l ok pt t n a b qw qw qw qw hno) qw)
  rw [if_neg hno]
  have h0 : pt ≠ ⟨#[]⟩ := fun e => hno (.inl e)
  have h : peN pt l < l.length := qa7.1 fun e => hno (.inr e)
  rw [if_neg (show ¬ (6 : Int) = 5 by decide)]
  rw [if_pos rfl]
  have e : upP l (peN pt l) (fun p => { p with sh := t }) = l.set (peN pt l) { l[peN pt l] with sh := t } := by unfold upP; rw [zcd (List.getElem?_eq_getElem h)]
  have ok2 := zd5 (j := peN pt l) (f := fun p => { p with sh := t }) ok h (fun p hp => ⟨⟨hp.1.ep, hp.1.len, hp.1.nets⟩, hp.2⟩)
  rw [e] at ok2 ⊢
  exact zhn (zcP ⟨key, port, l⟩ ok pt _ sok hc0 hs0 _ u3 _ pt 0 qz (one6_s key port l ok pt t n a b h0 h) rfl ⟨key, port, l.set (peN pt l) { l[peN pt l] with sh := t }⟩ ok2 1 qw (fun _ => rfl) (fun _ => (by show _ = Slot.live (.row _ 5 (CF.mk key port (l.set (peN pt l) { l[peN pt l] with sh := t })).ps.length _); rw [show (CF.mk key port (l.set (peN pt l) { l[peN pt l] with sh := t })).ps.length = l.length from List.length_set]; rfl)))
 ·rw [if_neg (show ¬ (7 : Int) = 1 by decide)]
  rw [if_neg (show ¬ (7 : Int) = 2 by decide)]
  rw [if_neg (show ¬ (7 : Int) = 3 by decide)]
  rw [if_neg (show ¬ (7 : Int) = 4 by decide)]
  by_cases hno : pt = ⟨#[]⟩ ∨ ¬ peN pt l < l.length
  ·rw [if_pos hno]; exact zbO (zcQ ⟨key, port, l⟩ ok pt _ sok hc0 hs0 _ u3 _ _ 13 qz (zfY 7 key port l ok pt t n a b qw qw qw qw hno) qw)
  rw [if_neg hno]
  have h0 : pt ≠ ⟨#[]⟩ := fun e => hno (.inl e)
  have h : peN pt l < l.length := qa7.1 fun e => hno (.inr e)
  rw [if_neg (show ¬ (7 : Int) = 5 by decide)]
  rw [if_neg (show ¬ (7 : Int) = 6 by decide)]
  rw [if_pos rfl]
  have e : upP l (peN pt l) (fun p => { p with ep := t }) = l.set (peN pt l) { l[peN pt l] with ep := t } := by unfold upP; rw [zcd (List.getElem?_eq_getElem h)]
  have ok2 := zd5 (j := peN pt l) (f := fun p => { p with ep := t }) ok h (fun p hp => ⟨⟨sok.t, hp.1.len, hp.1.nets⟩, hp.2⟩)
  rw [e] at ok2 ⊢
  exact zhn (zcP ⟨key, port, l⟩ ok pt _ sok hc0 hs0 _ u3 _ pt 0 qz (one7_s key port l ok pt t n a b h0 h) rfl ⟨key, port, l.set (peN pt l) { l[peN pt l] with ep := t }⟩ ok2 1 qw (fun _ => rfl) (fun _ => (by show _ = Slot.live (.row _ 5 (CF.mk key port (l.set (peN pt l) { l[peN pt l] with ep := t })).ps.length _); rw [show (CF.mk key port (l.set (peN pt l) { l[peN pt l] with ep := t })).ps.length = l.length from List.length_set]; rfl)))
 ·rw [if_neg (show ¬ (8 : Int) = 1 by decide)]
  rw [if_neg (show ¬ (8 : Int) = 2 by decide)]
  rw [if_neg (show ¬ (8 : Int) = 3 by decide)]
  rw [if_neg (show ¬ (8 : Int) = 4 by decide)]
  by_cases hno : pt = ⟨#[]⟩ ∨ ¬ peN pt l < l.length
  ·rw [if_pos hno]; exact zbO (zcQ ⟨key, port, l⟩ ok pt _ sok hc0 hs0 _ u3 _ _ 13 qz (zfY 8 key port l ok pt t n a b qw qw qw qw hno) qw)
  rw [if_neg hno]
  have h0 : pt ≠ ⟨#[]⟩ := fun e => hno (.inl e)
  have h : peN pt l < l.length := qa7.1 fun e => hno (.inr e)
  rw [if_neg (show ¬ (8 : Int) = 5 by decide)]
  rw [if_neg (show ¬ (8 : Int) = 6 by decide)]
  rw [if_neg (show ¬ (8 : Int) = 7 by decide)]
  rw [if_pos rfl]
  have e : upP l (peN pt l) (fun p => { p with al := n }) = l.set (peN pt l) { l[peN pt l] with al := n } := by unfold upP; rw [zcd (List.getElem?_eq_getElem h)]
  have ok2 := zd5 (j := peN pt l) (f := fun p => { p with al := n }) ok h (fun p hp => ⟨⟨hp.1.ep, hp.1.len, hp.1.nets⟩, hp.2⟩)
  rw [e] at ok2 ⊢
  exact zhn (zcP ⟨key, port, l⟩ ok pt _ sok hc0 hs0 _ u3 _ pt 0 qz (one8_s key port l ok pt t n a b h0 h) rfl ⟨key, port, l.set (peN pt l) { l[peN pt l] with al := n }⟩ ok2 1 qw (fun _ => rfl) (fun _ => (by show _ = Slot.live (.row _ 5 (CF.mk key port (l.set (peN pt l) { l[peN pt l] with al := n })).ps.length _); rw [show (CF.mk key port (l.set (peN pt l) { l[peN pt l] with al := n })).ps.length = l.length from List.length_set]; rfl)))
 ·rw [if_neg (show ¬ (9 : Int) = 1 by decide)]
  rw [if_neg (show ¬ (9 : Int) = 2 by decide)]
  rw [if_neg (show ¬ (9 : Int) = 3 by decide)]
  rw [if_neg (show ¬ (9 : Int) = 4 by decide)]
  by_cases hno : pt = ⟨#[]⟩ ∨ ¬ peN pt l < l.length
  ·rw [if_pos hno]; exact zbO (zcQ ⟨key, port, l⟩ ok pt _ sok hc0 hs0 _ u3 _ _ 13 qz (zfY 9 key port l ok pt t n a b qw qw qw qw hno) qw)
  rw [if_neg hno]
  have h0 : pt ≠ ⟨#[]⟩ := fun e => hno (.inl e)
  have h : peN pt l < l.length := qa7.1 fun e => hno (.inr e)
  rw [if_neg (show ¬ (9 : Int) = 5 by decide)]
  rw [if_neg (show ¬ (9 : Int) = 6 by decide)]
  rw [if_neg (show ¬ (9 : Int) = 7 by decide)]
  rw [if_neg (show ¬ (9 : Int) = 8 by decide)]
  rw [if_pos rfl]
  have e : upP l (peN pt l) (fun p => { p with nets := [] }) = l.set (peN pt l) { l[peN pt l] with nets := [] } := by unfold upP; rw [zcd (List.getElem?_eq_getElem h)]
  have ok2 := zd5 (j := peN pt l) (f := fun p => { p with nets := [] }) ok h (fun p hp => ⟨⟨hp.1.ep, qz, fun n hn => by simp at hn⟩, qz⟩)
  rw [e] at ok2 ⊢
  exact zhn (zcP ⟨key, port, l⟩ ok pt _ sok hc0 hs0 _ u3 _ pt 0 qz (one9_s key port l ok pt t n a b h0 h) rfl ⟨key, port, l.set (peN pt l) { l[peN pt l] with nets := [] }⟩ ok2 1 qw (fun _ => rfl) (fun _ => (by show _ = Slot.live (.row _ 5 (CF.mk key port (l.set (peN pt l) { l[peN pt l] with nets := [] })).ps.length _); rw [show (CF.mk key port (l.set (peN pt l) { l[peN pt l] with nets := [] })).ps.length = l.length from List.length_set]; rfl)))
 ·rw [if_neg (show ¬ (10 : Int) = 1 by decide)]
  rw [if_neg (show ¬ (10 : Int) = 2 by decide)]
  rw [if_neg (show ¬ (10 : Int) = 3 by decide)]
  rw [if_neg (show ¬ (10 : Int) = 4 by decide)]
  by_cases hno : pt = ⟨#[]⟩ ∨ ¬ peN pt l < l.length
  ·rw [if_pos hno]; exact zbO (zcQ ⟨key, port, l⟩ ok pt _ sok hc0 hs0 _ u3 _ _ 13 qz (zfY 10 key port l ok pt t n a b qw qw qw qw hno) qw)
  rw [if_neg hno]
  have h0 : pt ≠ ⟨#[]⟩ := fun e => hno (.inl e)
  have h : peN pt l < l.length := qa7.1 fun e => hno (.inr e)
  rw [if_neg (show ¬ (10 : Int) = 5 by decide)]
  rw [if_neg (show ¬ (10 : Int) = 6 by decide)]
  rw [if_neg (show ¬ (10 : Int) = 7 by decide)]
  rw [if_neg (show ¬ (10 : Int) = 8 by decide)]
  rw [if_neg (show ¬ (10 : Int) = 9 by decide)]
  have hg : peG l (peN pt l) = l[peN pt l] := zcd (List.getElem?_eq_getElem h)
  rw [hg]
  have h8l := (zfl (hpe (peN pt l) h)).1
  have hdl := (@zcm (a, b) l[peN pt l].nets).1
  by_cases h8 : (delN (a, b) l[peN pt l].nets).length = 8
  ·rw [if_pos h8]
   exact zbO (aoneS_err ⟨key, port, l⟩ ok pt _ sok hc0 hs0 h6 _ pt 7 (oW_no ..) (one10_s key port l ok pt t n a b h0 h h6 7 _ (moveX_s key port l ok pt (a, b) h0 h h6 7 _ (.inl ⟨rfl, h8, rfl⟩))) qw)
  ·rw [if_neg h8]
   have ok2 := mvL_ok (j := peN pt l) (n := (a, b)) ok h ⟨sok.a0, sok.a1⟩ h8l
   exact zhn (aoneS_row ⟨key, port, l⟩ ok pt _ sok hc0 hs0 h6 _ pt 0 (oW_no ..) (one10_s key port l ok pt t n a b h0 h h6 0 _ (moveX_s key port l ok pt (a, b) h0 h h6 0 _ (.inr ⟨rfl, h8, _, zfW (fun m => decide (nLt m (a, b))) _, fun u hu hl => (of_decide_eq_true (zim (lt := fun m : NtP => decide (nLt m (a, b))) u hu hl)), fun u hu hl => posN_hi (delN_srt (hpe _ h)) (a, b) u hu hl, rfl⟩))) rfl _ ok2 1 qw (fun _ => rfl) (fun _ => (by show _ = Slot.live (.row _ 5 (((dnL (a, b) l).set (peN pt l) _).length) _); rw [List.length_set, zbo]; rfl)))
theorem refOne_s (c : CF) (ok : c.OK) (pt : ByteArray) (s : SE) (sok : s.OK) : Fn prog 65 [.agg c.cells, qc pt, .agg s.cells] (apR (apO c pt s)) [] := by
 unfold apO
 by_cases hc : cfE c ≠ 0
 ·rw [if_pos hc]; exact zbO (refOne_bad c ok pt s sok hc)
 rw [if_neg hc]
 have hc0 : cfE c = 0 := qa7.1 hc
 by_cases hs : seE s ≠ 0
 ·rw [if_pos hs]; exact zbO (refOne_bad2 c ok pt s sok hc0 hs)
 rw [if_neg hs]
 have hs0 : seE s = 0 := qa7.1 hs
 clear hc hs
 obtain ⟨h6, hpe, hsrt⟩ := zhs hc0
 have hk := seE_k hs0
 obtain ⟨key, port, l⟩ := c
 obtain ⟨k, t, n, a, b⟩ := s
 dsimp only at hk h6 hpe hsrt ⊢
 rcases hk with rfl | rfl | rfl | rfl | rfl | rfl | rfl | rfl | rfl | rfl
 ·rw [if_pos rfl]
  by_cases h : peN t l < l.length
  ·rw [if_pos h]; exact zbO (ref1a_s key port l ok pt t n a b sok hc0 hs0 h)
  ·rw [if_neg h]; exact zeG (c := ⟨t, port, l⟩) (rfl) (ref1b_s key port l ok pt t n a b sok hc0 hs0 h)
 ·rw [if_neg (show ¬ (2 : Int) = 1 by decide)]
  rw [if_pos rfl]
  exact zeG (c := ⟨key, n, l⟩) (rfl) (ref2_s key port l ok pt t n a b sok hc0 hs0)
 ·rw [if_neg (show ¬ (3 : Int) = 1 by decide)]
  rw [if_neg (show ¬ (3 : Int) = 2 by decide)]
  rw [if_pos rfl]
  exact ref3_s key port l ok pt t n a b sok hc0 hs0
 ·rw [if_neg (show ¬ (4 : Int) = 1 by decide)]
  rw [if_neg (show ¬ (4 : Int) = 2 by decide)]
  rw [if_neg (show ¬ (4 : Int) = 3 by decide)]
  rw [if_pos rfl]
  by_cases h0 : t = key
  ·rw [if_pos h0]; exact zbO (ref4own_s key port l ok pt t n a b sok hc0 hs0 h0)
  rw [if_neg h0]
  by_cases h : peN t l < l.length
  ·rw [if_pos h]; exact zeG (c := ⟨key, port, l⟩) (rfl) (ref4old_s key port l ok pt t n a b sok hc0 hs0 h0 h)
  rw [if_neg h]
  by_cases h7 : l.length = 6
  ·rw [if_pos h7]; exact zbO (ref4full_s key port l ok pt t n a b sok hc0 hs0 h0 h h7)
  rw [if_neg h7]
  have hr := ref4new_s key port l ok pt t n a b sok hc0 hs0 h0 h qk
  rw [sortP_put hsrt h] at hr
  exact zeG (c := ⟨key, port, putP t l⟩) (zik t l) hr
 ·rw [if_neg (show ¬ (5 : Int) = 1 by decide)]
  rw [if_neg (show ¬ (5 : Int) = 2 by decide)]
  rw [if_neg (show ¬ (5 : Int) = 3 by decide)]
  rw [if_neg (show ¬ (5 : Int) = 4 by decide)]
  by_cases hno : pt = ⟨#[]⟩ ∨ ¬ peN pt l < l.length
  ·rw [if_pos hno]; exact zbO (zdA 5 key port l ok pt t n a b sok hc0 hs0 qw qw qw qw hno)
  rw [if_neg hno]
  have h0 : pt ≠ ⟨#[]⟩ := fun e => hno (.inl e)
  have h : peN pt l < l.length := qa7.1 fun e => hno (.inr e)
  rw [if_pos rfl]
  have hr := ref5_s key port l ok pt t n a b sok hc0 hs0 h0 h
  rw [← zhY hsrt h] at hr
  exact zeG (c := ⟨key, port, delK pt l⟩) (by show (delK pt l).length = _; rw [zhY hsrt h, qaC, List.length_take, qaP]; omega) hr
 ·rw [if_neg (show ¬ (6 : Int) = 1 by decide)]
  rw [if_neg (show ¬ (6 : Int) = 2 by decide)]
  rw [if_neg (show ¬ (6 : Int) = 3 by decide)]
  rw [if_neg (show ¬ (6 : Int) = 4 by decide)]
  by_cases hno : pt = ⟨#[]⟩ ∨ ¬ peN pt l < l.length
  ·rw [if_pos hno]; exact zbO (zdA 6 key port l ok pt t n a b sok hc0 hs0 qw qw qw qw hno)
  rw [if_neg hno]
  have h0 : pt ≠ ⟨#[]⟩ := fun e => hno (.inl e)
  have h : peN pt l < l.length := qa7.1 fun e => hno (.inr e)
  rw [if_neg (show ¬ (6 : Int) = 5 by decide)]
  rw [if_pos rfl]
  have e : upP l (peN pt l) (fun p => { p with sh := t }) = l.set (peN pt l) { l[peN pt l] with sh := t } := by unfold upP; rw [zcd (List.getElem?_eq_getElem h)]
  have ok2 := zd5 (j := peN pt l) (f := fun p => { p with sh := t }) ok h (fun p hp => ⟨⟨hp.1.ep, hp.1.len, hp.1.nets⟩, hp.2⟩)
  rw [e] at ok2 ⊢
  exact zeG (c := ⟨key, port, l.set (peN pt l) { l[peN pt l] with sh := t }⟩) (List.length_set ..) (ref6_s key port l ok pt t n a b sok hc0 hs0 h0 h)
 ·rw [if_neg (show ¬ (7 : Int) = 1 by decide)]
  rw [if_neg (show ¬ (7 : Int) = 2 by decide)]
  rw [if_neg (show ¬ (7 : Int) = 3 by decide)]
  rw [if_neg (show ¬ (7 : Int) = 4 by decide)]
  by_cases hno : pt = ⟨#[]⟩ ∨ ¬ peN pt l < l.length
  ·rw [if_pos hno]; exact zbO (zdA 7 key port l ok pt t n a b sok hc0 hs0 qw qw qw qw hno)
  rw [if_neg hno]
  have h0 : pt ≠ ⟨#[]⟩ := fun e => hno (.inl e)
  have h : peN pt l < l.length := qa7.1 fun e => hno (.inr e)
  rw [if_neg (show ¬ (7 : Int) = 5 by decide)]
  rw [if_neg (show ¬ (7 : Int) = 6 by decide)]
  rw [if_pos rfl]
  have e : upP l (peN pt l) (fun p => { p with ep := t }) = l.set (peN pt l) { l[peN pt l] with ep := t } := by unfold upP; rw [zcd (List.getElem?_eq_getElem h)]
  have ok2 := zd5 (j := peN pt l) (f := fun p => { p with ep := t }) ok h (fun p hp => ⟨⟨sok.t, hp.1.len, hp.1.nets⟩, hp.2⟩)
  rw [e] at ok2 ⊢
  exact zeG (c := ⟨key, port, l.set (peN pt l) { l[peN pt l] with ep := t }⟩) (List.length_set ..) (ref7_s key port l ok pt t n a b sok hc0 hs0 h0 h)
 ·rw [if_neg (show ¬ (8 : Int) = 1 by decide)]
  rw [if_neg (show ¬ (8 : Int) = 2 by decide)]
  rw [if_neg (show ¬ (8 : Int) = 3 by decide)]
  rw [if_neg (show ¬ (8 : Int) = 4 by decide)]
  by_cases hno : pt = ⟨#[]⟩ ∨ ¬ peN pt l < l.length
  ·rw [if_pos hno]; exact zbO (zdA 8 key port l ok pt t n a b sok hc0 hs0 qw qw qw qw hno)
  rw [if_neg hno]
  have h0 : pt ≠ ⟨#[]⟩ := fun e => hno (.inl e)
  have h : peN pt l < l.length := qa7.1 fun e => hno (.inr e)
  rw [if_neg (show ¬ (8 : Int) = 5 by decide)]
  rw [if_neg (show ¬ (8 : Int) = 6 by decide)]
  rw [if_neg (show ¬ (8 : Int) = 7 by decide)]
  rw [if_pos rfl]
  have e : upP l (peN pt l) (fun p => { p with al := n }) = l.set (peN pt l) { l[peN pt l] with al := n } := by unfold upP; rw [zcd (List.getElem?_eq_getElem h)]
  have ok2 := zd5 (j := peN pt l) (f := fun p => { p with al := n }) ok h (fun p hp => ⟨⟨hp.1.ep, hp.1.len, hp.1.nets⟩, hp.2⟩)
  rw [e] at ok2 ⊢
  exact zeG (c := ⟨key, port, l.set (peN pt l) { l[peN pt l] with al := n }⟩) (List.length_set ..) (ref8_s key port l ok pt t n a b sok hc0 hs0 h0 h)
 ·rw [if_neg (show ¬ (9 : Int) = 1 by decide)]
  rw [if_neg (show ¬ (9 : Int) = 2 by decide)]
  rw [if_neg (show ¬ (9 : Int) = 3 by decide)]
  rw [if_neg (show ¬ (9 : Int) = 4 by decide)]
  by_cases hno : pt = ⟨#[]⟩ ∨ ¬ peN pt l < l.length
  ·rw [if_pos hno]; exact zbO (zdA 9 key port l ok pt t n a b sok hc0 hs0 qw qw qw qw hno)
  rw [if_neg hno]
  have h0 : pt ≠ ⟨#[]⟩ := fun e => hno (.inl e)
  have h : peN pt l < l.length := qa7.1 fun e => hno (.inr e)
  rw [if_neg (show ¬ (9 : Int) = 5 by decide)]
  rw [if_neg (show ¬ (9 : Int) = 6 by decide)]
  rw [if_neg (show ¬ (9 : Int) = 7 by decide)]
  rw [if_neg (show ¬ (9 : Int) = 8 by decide)]
  rw [if_pos rfl]
  have e : upP l (peN pt l) (fun p => { p with nets := [] }) = l.set (peN pt l) { l[peN pt l] with nets := [] } := by unfold upP; rw [zcd (List.getElem?_eq_getElem h)]
  have ok2 := zd5 (j := peN pt l) (f := fun p => { p with nets := [] }) ok h (fun p hp => ⟨⟨hp.1.ep, qz, fun n hn => by simp at hn⟩, qz⟩)
  rw [e] at ok2 ⊢
  exact zeG (c := ⟨key, port, l.set (peN pt l) { l[peN pt l] with nets := [] }⟩) (List.length_set ..) (ref9_s key port l ok pt t n a b sok hc0 hs0 h0 h)
 ·rw [if_neg (show ¬ (10 : Int) = 1 by decide)]
  rw [if_neg (show ¬ (10 : Int) = 2 by decide)]
  rw [if_neg (show ¬ (10 : Int) = 3 by decide)]
  rw [if_neg (show ¬ (10 : Int) = 4 by decide)]
  by_cases hno : pt = ⟨#[]⟩ ∨ ¬ peN pt l < l.length
  ·rw [if_pos hno]; exact zbO (zdA 10 key port l ok pt t n a b sok hc0 hs0 qw qw qw qw hno)
  rw [if_neg hno]
  have h0 : pt ≠ ⟨#[]⟩ := fun e => hno (.inl e)
  have h : peN pt l < l.length := qa7.1 fun e => hno (.inr e)
  rw [if_neg (show ¬ (10 : Int) = 5 by decide)]
  rw [if_neg (show ¬ (10 : Int) = 6 by decide)]
  rw [if_neg (show ¬ (10 : Int) = 7 by decide)]
  rw [if_neg (show ¬ (10 : Int) = 8 by decide)]
  rw [if_neg (show ¬ (10 : Int) = 9 by decide)]
  have hg : peG l (peN pt l) = l[peN pt l] := zcd (List.getElem?_eq_getElem h)
  rw [hg]
  have h8l := (zfl (hpe (peN pt l) h)).1
  have hdl := (@zcm (a, b) l[peN pt l].nets).1
  by_cases h8 : (delN (a, b) l[peN pt l].nets).length = 8
  ·rw [if_pos h8]; exact zbO (ref10full_s key port l ok pt t n a b sok hc0 hs0 h0 h qk)
  ·rw [if_neg h8]
   have hr := ref10_s key port l ok pt t n a b sok hc0 hs0 h0 h qk
   rw [sortN_put (delN_srt (hpe _ h)) (fun u hu => delN_ne u hu)] at hr
   exact zeG (c := ⟨key, port, (dnL (a, b) l).set (peN pt l) { l[peN pt l] with nets := putN (a, b) (delN (a, b) l[peN pt l].nets) }⟩) (by show ((dnL (a, b) l).set (peN pt l) _).length = _; rw [List.length_set, zbo]) hr
theorem zcC {P : Prop} [Decidable P] {a b : CF × ByteArray × Int} (ha : P → a.1.OK) (hb : ¬ P → b.1.OK) : (if P then a else b).1.OK := by
 by_cases h : P
 ·rw [if_pos h]; exact ha h
 ·rw [if_neg h]; exact hb h
theorem apO_ok (c : CF) (ok : c.OK) (pt : ByteArray) (s : SE) (sok : s.OK) : (apO c pt s).1.OK := by
 have hz : zcf.OK := zfZ (qbk _) (fun p hp => by cases hp)
 unfold apO
 by_cases hc : cfE c ≠ 0
 ·rw [if_pos hc]; exact hz
 rw [if_neg hc]
 have hc0 : cfE c = 0 := qa7.1 hc
 obtain ⟨h6, hpe, hsrt⟩ := zhs hc0
 obtain ⟨key, port, l⟩ := c
 obtain ⟨k, t, n, a, b⟩ := s
 dsimp only at h6 hpe hsrt ⊢
 refine zcC (fun _ => ?_) (fun hno => ?_)
 ·exact hz
 refine zcC (fun _ => ?_) (fun hno => ?_)
 ·refine zcC (fun _ => ?_) (fun hno => ?_)
  ·exact hz
  ·exact zfZ ok.len ok.ps
 refine zcC (fun _ => ?_) (fun hno => ?_)
 ·exact zfZ ok.len ok.ps
 refine zcC (fun _ => ?_) (fun hno => ?_)
 ·exact zfZ (qbk _) (fun p hp => by cases hp)
 refine zcC (fun _ => ?_) (fun hno => ?_)
 ·refine zcC (fun _ => ?_) (fun hno => ?_)
  ·exact hz
  refine zcC (fun _ => ?_) (fun hno => ?_)
  ·exact ok
  refine zcC (fun _ => ?_) (fun hno => ?_)
  ·exact hz
  ·exact putP_ok ok h6
 refine zcC (fun _ => ?_) (fun hno => ?_)
 ·exact hz
 have h : peN pt l < l.length := qa7.1 fun e => hno (.inr e)
 refine zcC (fun _ => ?_) (fun hno => ?_)
 ·exact delK_ok ok
 refine zcC (fun _ => ?_) (fun hno => ?_)
 ·exact zd5 ok h (fun p hp => ⟨⟨hp.1.ep, hp.1.len, hp.1.nets⟩, hp.2⟩)
 refine zcC (fun _ => ?_) (fun hno => ?_)
 ·exact zd5 ok h (fun p hp => ⟨⟨sok.t, hp.1.len, hp.1.nets⟩, hp.2⟩)
 refine zcC (fun _ => ?_) (fun hno => ?_)
 ·exact zd5 ok h (fun p hp => ⟨⟨hp.1.ep, hp.1.len, hp.1.nets⟩, hp.2⟩)
 refine zcC (fun _ => ?_) (fun hno => ?_)
 ·exact zd5 ok h (fun p hp => ⟨⟨hp.1.ep, qz, fun n hn => by simp at hn⟩, qz⟩)
 refine zcC (fun _ => ?_) (fun hno => ?_)
 ·exact hz
 ·rw [zcd (List.getElem?_eq_getElem h)]
  exact mvL_ok (j := peN pt l) (n := (a, b)) ok h ⟨sok.a0, sok.a1⟩ (zfl (hpe (peN pt l) h)).1
end Go.Proofs.YtlfjpippeeikdaaGreatDoor
