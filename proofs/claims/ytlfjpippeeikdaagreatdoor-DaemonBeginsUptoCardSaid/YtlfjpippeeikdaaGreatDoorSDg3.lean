/- Used. -/
import Derived.Test.YtlfjpippeeikdaaGreatDoorSAr1
set_option maxRecDepth 100000
set_option maxHeartbeats 16000000
set_option linter.all false
namespace Go.Proofs.YtlfjpippeeikdaaGreatDoor
open Tryz
open Go.RowKit
open Go.Sort
def gC (f : Nat → PE → List AV) : Nat → List PE → List AV
 | _, [] => []
 | k, p :: l => f k p ++ gC f (k + 1) l
theorem zfQ {f : Nat → PE → List AV} (hf : ∀ k p, (f k p).length = 5) : ∀ (l : List PE) (k : Nat), (gC f k l).length = l.length * 5
 | [], k => rfl
 | p :: l, k => by rw [gC, qbg, hf, zfQ hf l, qbs]; omega
theorem zi6 {f : Nat → PE → List AV} (hf : ∀ k p, (f k p).length = 5) (q : Nat) (hq : q < 5) : ∀ (l : List PE) (k j : Nat), (h : j < l.length) → (gC f k l)[j * 5 + q]? = (f (k + j) l[j])[q]?
 | p :: l, k, 0, _ => by rw [gC, List.getElem?_append_left (by rw [hf]; omega)]; simp
 | p :: l, k, j + 1, h => by
  rw [gC, qb1 (by rw [hf]; omega), hf, show (j + 1) * 5 + q - 5 = j * 5 + q by omega, zi6 hf q hq l (k + 1) j (by simpa using h), show k + 1 + j = k + (j + 1) by omega]
  simp
theorem gC_congr {f f' : Nat → PE → List AV} : ∀ (l : List PE) (k : Nat), (∀ i, (h : i < l.length) → f (k + i) l[i] = f' (k + i) l[i]) → gC f k l = gC f' k l
 | [], k, _ => rfl
 | p :: l, k, h => by
  have h0 := h 0 qC
  have ih := gC_congr (f := f) (f' := f') l (k + 1) fun i hi => by
   have := h (i + 1) qX
   rw [show k + (i + 1) = k + 1 + i by omega] at this
   simpa using this
  show f k p ++ gC f (k + 1) l = f' k p ++ gC f' (k + 1) l
  rw [ih]
  congr 1
theorem zgN {f f' : Nat → PE → List AV} (hf : ∀ k p, (f k p).length = 5) (q : Nat) (hq : q < 5) (x : AV) : ∀ (l : List PE) (k j : Nat), (h : j < l.length) → f' (k + j) l[j] = setR (f (k + j) l[j]) q [x] → (∀ i, (hi : i < l.length) → i ≠ j → f' (k + i) l[i] = f (k + i) l[i]) → setR (gC f k l) (j * 5 + q) [x] = gC f' k l
 | p :: l, k, 0, _, h1, h2 => by
  have e1 : f' k p = setR (f k p) q [x] := h1
  have e2 : gC f' (k + 1) l = gC f (k + 1) l := gC_congr l (k + 1) fun i hi => by
   have := h2 (i + 1) qX qp
   rw [show k + (i + 1) = k + 1 + i by omega] at this
   simpa using this
  rw [gC, gC, e1, e2]
  have h5 := hf k p
  generalize f k p = X at *
  generalize gC f (k + 1) l = Y at *
  unfold setR
  rw [qbH (by omega), List.drop_append_of_le_length (by simp; omega)]
  simp [qbB]
 | p :: l, k, j + 1, h, h1, h2 => by
  have e1 : f' k p = f k p := h2 0 qC qp
  have ih := zgN (f := f) (f' := f') hf q hq x l (k + 1) j qz (by
   rw [show k + (j + 1) = k + 1 + j by omega] at h1
   simpa using h1) fun i hi hne => by
   have := h2 (i + 1) qX qp
   rw [show k + (i + 1) = k + 1 + i by omega] at this
   simpa using this
  rw [gC, gC, e1, ← ih]
  have h5 := hf k p
  generalize f k p = X at *
  generalize gC f (k + 1) l = Y at *
  unfold setR
  rw [List.take_append, qbr (by omega), List.drop_append, qbS (by simp; omega), qbK, h5, show (j + 1) * 5 + q - 5 = j * 5 + q by omega, show (j + 1) * 5 + q + [x].length - 5 = j * 5 + q + [x].length by simp; omega]
  simp [qbB]
theorem gC_pv : ∀ (l : List PE) (k : Nat), gC (fun _ p => p.pv.map AV.p) k l = (l.flatMap PE.pv).map AV.p
 | [], k => rfl
 | p :: l, k => by rw [gC, gC_pv l, qbR, qbF]
def fK (J : Nat) (n : NtP) (k u : Nat) (p : PE) : List AV := if u < k then (if u = J then pcA p 88 else (dnP n p).pv.map AV.p) else p.pv.map AV.p
theorem zbY (J : Nat) (n : NtP) (k u : Nat) (p : PE) : (fK J n k u p).length = 5 := by
 unfold fK; split
 ·split <;> rfl
 ·rfl
theorem zeF {st : St} (t o : Nat) {e size n : Nat} {cs : List PV} (ht : st.tmps t = .row o) (h : st.heap o = qk e size n cs) :
 ReO st ⟨fun k => bif Nat.beq k t then ql n size cs else st.tmps k, updL st.heap [(o, .dead)]⟩ := by
 rintro w0 A nt a w ⟨⟨S, m, hm, hj, hr⟩, hsz, hd⟩
 obtain ⟨v, h1, h2, h3⟩ := hm.live o _ h
 have g : Grow S m w (fun x => S x ∨ blk v = some x) m w := ⟨fun _ h => .inl h, fun _ _ => rfl, fun _ _ h => h⟩
 have hm1 := zi0 hm o
 refine ⟨⟨fun x => S x ∨ blk v = some x, m, ⟨hm.bel, ?_, ?_, hm1.un, fun o' ob ho => ?_, hm1.inj, hm.gl⟩, A.up _ _ _ _ _ _ g hj, fun k => ?_⟩, hsz, hd⟩
 ·rintro x (hx | hx)
  ·exact hm.sA x hx
  ·exact .inr (h2.lt hx).1
 ·rintro x (hx | hx)
  ·exact hm.sW x hx
  ·exact (h2.lt hx).2
 ·obtain ⟨u, j1, j2, j3⟩ := hm1.live o' ob ho
  have hoo : o' ≠ o ∧ st.heap o' = .live ob := by
   exact jc8
  refine ⟨u, j1, j2.mono g fun _ _ => rfl, ?_⟩
  rintro x hx (hS | hS)
  ·exact j3 x hx hS
  ·exact hoo.1 (hm.inj _ _ _ _ _ _ _ hoo.2 h j1 h1 hx hS)
 ·by_cases e : k = t
  ·subst e
   have := hr k
   rw [ht] at this
   simp only [Rep] at this
   simp only [qca, cond_true, Rep]
   exact zel hm (fun _ h => .inl h) h (fun v' b hv hb => by rw [h1] at hv; cases hv; exact .inr hb) this.1
  ·simp only [nbeq e, cond_false]
   exact Rep.mono g _ _ (hr k)
theorem zdT (n : NtP) (l : List NtP) (i : Nat) (h : i < l.length) : delN n (l.take (i + 1)) = delN n (l.take i) ++ (if l[i] = n then [] else [l[i]]) := by
 unfold delN
 rw [zfV _ h]
 congr 1
 by_cases e : l[i] = n <;> simp [e]
def fK2 (J : Nat) (n : NtP) (k u : Nat) (p : PE) : List AV := if u = k then pcA p 77 else fK J n k u p
theorem zgu {ρ : Nat → Nat} : ∀ (x y : List AV), AV.renL ρ (x ++ y) = AV.renL ρ x ++ AV.renL ρ y
 | [], y => rfl
 | a :: x, y => by simp only [qbG, AV.renL, zgu x y]
theorem pv_ren (ρ : Nat → Nat) (p : PE) : AV.renL ρ (p.pv.map AV.p) = p.pv.map AV.p := rfl
theorem gC_ren (J : Nat) (n : NtP) : ∀ (l : List PE) (u k : Nat), k = J → AV.renL (fun o => bif Nat.beq o 88 then 77 else o) (gC (fK J n (k + 1)) u l) = gC (fK2 J n k) u l
 | [], u, k, _ => rfl
 | p :: l, u, k, hk => by
  rw [gC, gC, zgu, gC_ren J n l (u + 1) k hk]
  congr 1
  unfold fK2 fK
  by_cases h1 : u = k
  ·rw [if_pos h1, if_pos (by omega), if_pos (by omega)]; rfl
  ·rw [if_neg h1, if_neg (show ¬ u = J by omega)]
   by_cases h2 : u < k
   ·rw [if_pos h2, if_pos (by omega)]; exact pv_ren _ _
   ·rw [if_neg h2, if_neg (by omega)]; exact pv_ren _ _
theorem zby {J : Nat} {n : NtP} {k : Nat} {ρ : Nat → Nat} (h : ρ 88 = 88) : ∀ (l : List PE) (u : Nat), AV.renL ρ (gC (fK J n k) u l) = gC (fK J n k) u l
 | [], u => rfl
 | p :: l, u => by
  rw [gC, zgu, zby h l (u + 1)]
  congr 1
  unfold fK
  split
  ·split
   ·simp only [pcA, AV.renL, AV.ren, h]
   ·exact pv_ren _ _
  ·exact pv_ren _ _
theorem ziT {K : List Nat} : ∀ (x y : List AV), AV.okInL K (x ++ y) = (AV.okInL K x && AV.okInL K y)
 | [], y => rfl
 | a :: x, y => by simp only [qbG, AV.okInL, ziT x y, Bool.and_assoc]
theorem zdj {J : Nat} {n : NtP} {k : Nat} {K : List Nat} : ∀ (l : List PE) (u : Nat), AV.okInL (5 :: 6 :: 12 :: 40 :: 88 :: K) (gC (fK J n k) u l) = true
 | [], u => rfl
 | p :: l, u => by
  rw [gC, ziT, zdj l (u + 1), Bool.and_true]
  unfold fK
  split
  ·split <;> rfl
  ·rfl
theorem zbt {J : Nat} {n : NtP} {k : Nat} {K : List Nat} : ∀ (l : List PE) (u : Nat), (∀ i, i < k → i ≠ J) → AV.okInL K (gC (fK J n k) u l) = true
 | [], u, _ => rfl
 | p :: l, u, h => by
  rw [gC, ziT, zbt l (u + 1) h, Bool.and_true]
  unfold fK
  split
  ·rename_i h1; rw [if_neg (h u h1)]; rfl
  ·rfl
def fK3 (J : Nat) (n : NtP) (k u : Nat) (p : PE) : List AV := if u = J then pcA p 243 else fK J n k u p
theorem pvV (fam : List (Nat × Slot)) (p : PE) : CellV fam (p.pv.map AV.p) p.pv := .p _ _ _ (.p _ _ _ (.p _ _ _ (.p _ _ _ (.p _ _ _ .nil))))
theorem gC_V0 {J m : Nat} {n : NtP} {fam : List (Nat × Slot)} {ns : List NtP} (hf : (243, Slot.live (.row 82 2 ns.length (ns.flatMap ntC))) ∈ fam) : ∀ (l l2 : List PE) (u : Nat), l2.length = l.length → u + l.length ≤ m → (∀ i, (h : i < l.length) → (h2 : i < l2.length) → l2[i] = if u + i = J then { l[i] with nets := ns } else dnP n l[i]) → CellV fam (gC (fK3 J n m) u l) (l2.flatMap PE.pv)
 | [], [], u, _, _, _ => .nil
 | [], p :: l2, u, h, _, _ => by simp at h
 | p :: l, [], u, h, _, _ => by simp at h
 | p :: l, p2 :: l2, u, h, hm, hi => by
  have h0 := hi 0 qC qC
  simp only [List.getElem_cons_zero, qb0] at h0
  rw [gC, qbR, h0]
  refine CellV.append ?_ (gC_V0 hf l l2 (u + 1) qz (by simp at hm; omega) fun i h1 h2 => by
   have := hi (i + 1) qbb (by simpa using h2)
   simp only [List.getElem_cons_succ] at this
   rw [show u + 1 + i = u + (i + 1) by omega]
   exact this)
  unfold fK3 fK
  by_cases e : u = J
  ·rw [if_pos e, if_pos e]
   exact .p _ _ _ (.p _ _ _ (.p _ _ _ (.p _ _ _ (.row _ _ _ _ _ _ _ hf .nil))))
  ·rw [if_neg e, if_neg e, if_pos (by simp at hm; omega), if_neg e]
   exact pvV _ _
theorem gC_V (J : Nat) (n : NtP) (l : List PE) (ns : List NtP) (hJ : J < l.length) : CellV [(243, Slot.live (.row 82 2 ns.length (ns.flatMap ntC)))] (gC (fK3 J n l.length) 0 l) (((dnL n l).set J { l[J] with nets := ns }).flatMap PE.pv) :=
 gC_V0 (ns := ns) (qcv ..) l _ 0 (by rw [List.length_set, zbo]) qp fun i h1 h2 => by
  rw [Nat.zero_add, List.getElem_set]
  by_cases e : J = i
  ·subst e; rw [if_pos rfl, if_pos rfl]
  ·rw [if_neg e, if_neg (Ne.symm e), dnL_at n l i h1]
theorem ref10full_s (key : ByteArray) (port : Int) (l : List PE) (ok : CF.OK ⟨key, port, l⟩) (pt : ByteArray) (t : ByteArray) (n a b : Int) (sok : SE.OK ⟨10, t, n, a, b⟩) (hc0 : cfE ⟨key, port, l⟩ = 0) (hs0 : seE ⟨10, t, n, a, b⟩ = 0) (h0 : pt ≠ ⟨#[]⟩) (h : peN pt l < l.length) (h8 : 7 < (delN (a, b) l[peN pt l].nets).length) : Fn prog 65 [.agg (CF.cells ⟨key, port, l⟩), qc pt, .agg (SE.cells ⟨10, t, n, a, b⟩)] (.tup [.agg [qc ⟨#[]⟩, qd 0, qm], qc ⟨#[]⟩, qd 7]) [] := by
 have hC := zaP ⟨key, port, l⟩ ok
 rw [hc0] at hC
 have hS := zaT ⟨10, t, n, a, b⟩ sok
 rw [hs0] at hS
 have hK := za9 ⟨key, port, l⟩ ok
 have hA := zaM ⟨key, port, l⟩ ok t
 have hA2 := zaM ⟨key, port, l⟩ ok pt
 have hn := ok.len
 dsimp only at hn
 change Fn prog _ [.agg (cfC key port l.length (l.flatMap PE.pv))] _ _ at hC hK
 change Fn prog _ [.agg (cfC key port l.length (l.flatMap PE.pv)), _] (qd (peN t l : Nat)) _ at hA
 change Fn prog _ [.agg (cfC key port l.length (l.flatMap PE.pv)), _] (qd (peN pt l : Nat)) _ at hA2
 change Fn prog _ [.agg [qd 10, qc t, qd n, qe a, qd b]] _ _ at hS
 refine jeo ?_
 have hok := ok.ps
 dsimp only at hok
 have hN := ze7 (7)
 change Fn prog _ _ (.tup [.agg [qc ⟨#[]⟩, qd 0, qm], qc ⟨#[]⟩, qd 7]) _ at hN
 generalize peN pt l = U at *
 clear ok sok hc0 hs0
 generalize peN t l = T at *
 refine fnI fun w0 A => ?_
 refine jeL ?_
 refine zay (fun _ => 40) (hK) rfl rfl F63 rfl rfl qw rfl rfl rfl qq rfl rfl rfl ?_
 refine G [3] ?_
 refine jdw ?_
 refine jeM ?_
 refine G [11] ?_
 (first | refine zaa zbH rfl rfl ?_ | refine zaa za4 rfl rfl ?_)
 refine G [5] ?_
 (first | refine zaa zbH rfl rfl ?_ | refine zaa za4 rfl rfl ?_)
 refine G [5] ?_
 (first | refine zaa zbH rfl rfl ?_ | refine zaa za4 rfl rfl ?_)
 refine G [5] ?_
 (first | refine zaa zbH rfl rfl ?_ | refine zaa za4 rfl rfl ?_)
 refine G [8] ?_
 refine cV hA2 ?_
 refine G [6, 3, 5, 3, 13] ?_
 (first | refine zaa zbH rfl rfl ?_ | refine zaa za4 rfl rfl ?_)
 refine G [5] ?_
 (first | refine zaa zbH rfl rfl ?_ | refine zaa za4 rfl rfl ?_)
 refine G [5] ?_
 (first | refine zaa zbH rfl rfl ?_ | refine zaa za4 rfl rfl ?_)
 refine G [5] ?_
 (first | refine zaa zbH rfl rfl ?_ | refine zaa za4 rfl rfl ?_)
 refine G [5] ?_
 (first | refine zaa zbH rfl rfl ?_ | refine zaa za4 rfl rfl ?_)
 refine G [5, 1, 5] ?_
 refine zaX (zen 40 rfl) ?_
 skip
 refine G [3] ?_
 refine jfc (a_lenRA U22) ?_
 refine G [3] ?_
 have e00 : (l.flatMap PE.pv).map AV.p = gC (fK U (a, b) 0) 0 l := by rw [← gC_pv l 0]; rfl
 refine zac (fun m st => ∃ k : Nat, m + k = l.length ∧ ((k ≤ U ∧ st = St.of [(1, qc pt), (5, .ref 5 0), (6, .ref 6 0), (9, .fn 96 []), (12, .ref 12 0), (13, qd U), (186, qd l.length), (187, qd k)] [(5, .box 107 [qd 10, qc t, qd n, qe a, qd b]), (6, .box 24 [qc ⟨#[]⟩, qd 0, qm]), (12, .box 24 [qc key, qd port, .row 40]), (40, .rowA 48 5 l.length none (gC (fK U (a, b) k) 0 l))]) ∨ (U < k ∧ st = St.of [(1, qc pt), (5, .ref 5 0), (6, .ref 6 0), (9, .fn 96 []), (12, .ref 12 0), (13, qd U), (186, qd l.length), (187, qd k)] [(5, .box 107 [qd 10, qc t, qd n, qe a, qd b]), (6, .box 24 [qc ⟨#[]⟩, qd 0, qm]), (12, .box 24 [qc key, qd port, .row 40]), (40, .rowA 48 5 l.length none (gC (fK U (a, b) k) 0 l)), (88, .row 82 2 (delN (a, b) l[U].nets).length ((delN (a, b) l[U].nets).flatMap ntC))]))) l.length ?_ ?_
 ·exact jaQ
 ·rintro m st ⟨k, hm, hcase⟩
  rcases hcase with ⟨hkU, rfl⟩ | ⟨hkU, rfl⟩
  ·exact jaq
  ·refine G [5] ?_
   refine cX ?_ ?_ <;> intro h
   ·exact jar
   have hge : k = l.length := qu
   clear h
   subst hge
   have hcl := zfQ (zbY U (a, b) l.length) l 0
   have hat0 := zi6 (zbY U (a, b) l.length) 4 qE l 0 U hkU
   have hat : (gC (fK U (a, b) l.length) 0 l)[U * 5 + 4]? = some (.row 88) := by
    rw [hat0, Nat.zero_add]
    unfold fK
    rw [if_pos hkU, if_pos rfl]
    rfl
   refine G [7] ?_
   refine jdu ?_
   refine fA zcQ rfl rfl ?_
   refine jeE ?_
   refine G [1, 4, 5] ?_
   refine cK hN ?_
   exact jbh
theorem ref10_s (key : ByteArray) (port : Int) (l : List PE) (ok : CF.OK ⟨key, port, l⟩) (pt : ByteArray) (t : ByteArray) (n a b : Int) (sok : SE.OK ⟨10, t, n, a, b⟩) (hc0 : cfE ⟨key, port, l⟩ = 0) (hs0 : seE ⟨10, t, n, a, b⟩ = 0) (h0 : pt ≠ ⟨#[]⟩) (h : peN pt l < l.length) (h8 : ¬ 7 < (delN (a, b) l[peN pt l].nets).length) : Fn prog 65 [.agg (CF.cells ⟨key, port, l⟩), qc pt, .agg (SE.cells ⟨10, t, n, a, b⟩)] (.tup [.agg [qc key, qd port, .row 0], qc pt, qd 0]) [(0, .row 48 5 l.length (((dnL (a, b) l).set (peN pt l) { l[peN pt l] with nets := zcK gtN (delN (a, b) l[peN pt l].nets ++ [(a, b)]) }).flatMap PE.pv))] := by
 have hC := zaP ⟨key, port, l⟩ ok
 rw [hc0] at hC
 have hS := zaT ⟨10, t, n, a, b⟩ sok
 rw [hs0] at hS
 have hK := za9 ⟨key, port, l⟩ ok
 have hA := zaM ⟨key, port, l⟩ ok t
 have hA2 := zaM ⟨key, port, l⟩ ok pt
 have hn := ok.len
 dsimp only at hn
 change Fn prog _ [.agg (cfC key port l.length (l.flatMap PE.pv))] _ _ at hC hK
 change Fn prog _ [.agg (cfC key port l.length (l.flatMap PE.pv)), _] (qd (peN t l : Nat)) _ at hA
 change Fn prog _ [.agg (cfC key port l.length (l.flatMap PE.pv)), _] (qd (peN pt l : Nat)) _ at hA2
 change Fn prog _ [.agg [qd 10, qc t, qd n, qe a, qd b]] _ _ at hS
 refine jeo ?_
 have hok := ok.ps
 dsimp only at hok
 generalize peN pt l = U at *
 clear ok sok hc0 hs0
 generalize peN t l = T at *
 refine fnI fun w0 A => ?_
 refine jeL ?_
 refine zay (fun _ => 40) (hK) rfl rfl F63 rfl rfl qw rfl rfl rfl qq rfl rfl rfl ?_
 refine G [3] ?_
 refine jdw ?_
 refine jeM ?_
 refine G [11] ?_
 (first | refine zaa zbH rfl rfl ?_ | refine zaa za4 rfl rfl ?_)
 refine G [17] ?_
 (first | refine zaa zbH rfl rfl ?_ | refine zaa za4 rfl rfl ?_)
 refine G [8] ?_
 refine cV hA2 ?_
 refine G [6, 3, 5, 3, 43, 1, 5] ?_
 refine zaX (zen 40 rfl) ?_
 skip
 refine G [3] ?_
 refine jfc (a_lenRA U22) ?_
 refine G [3] ?_
 have e00 : (l.flatMap PE.pv).map AV.p = gC (fK U (a, b) 0) 0 l := by rw [← gC_pv l 0]; rfl
 refine zac (fun m st => ∃ k : Nat, m + k = l.length ∧ ((k ≤ U ∧ st = St.of [(1, qc pt), (5, .ref 5 0), (6, .ref 6 0), (9, .fn 96 []), (12, .ref 12 0), (13, qd U), (186, qd l.length), (187, qd k)] [(5, .box 107 [qd 10, qc t, qd n, qe a, qd b]), (6, .box 24 [qc ⟨#[]⟩, qd 0, qm]), (12, .box 24 [qc key, qd port, .row 40]), (40, .rowA 48 5 l.length none (gC (fK U (a, b) k) 0 l))]) ∨ (U < k ∧ st = St.of [(1, qc pt), (5, .ref 5 0), (6, .ref 6 0), (9, .fn 96 []), (12, .ref 12 0), (13, qd U), (186, qd l.length), (187, qd k)] [(5, .box 107 [qd 10, qc t, qd n, qe a, qd b]), (6, .box 24 [qc ⟨#[]⟩, qd 0, qm]), (12, .box 24 [qc key, qd port, .row 40]), (40, .rowA 48 5 l.length none (gC (fK U (a, b) k) 0 l)), (88, .row 82 2 (delN (a, b) l[U].nets).length ((delN (a, b) l[U].nets).flatMap ntC))]))) l.length ?_ ?_
 ·exact jaQ
 ·rintro m st ⟨k, hm, hcase⟩
  rcases hcase with ⟨hkU, rfl⟩ | ⟨hkU, rfl⟩
  ·exact jaq
  ·refine G [5] ?_
   refine cX ?_ ?_ <;> intro h
   ·exact jar
   have hge : k = l.length := qu
   clear h
   subst hge
   have hcl := zfQ (zbY U (a, b) l.length) l 0
   have hat0 := zi6 (zbY U (a, b) l.length) 4 qE l 0 U hkU
   have hat : (gC (fK U (a, b) l.length) 0 l)[U * 5 + 4]? = some (.row 88) := by
    rw [hat0, Nat.zero_add]
    unfold fK
    rw [if_pos hkU, if_pos rfl]
    rfl
   have hDl : (delN (a, b) l[U].nets).length ≤ 1048576 := qp
   refine G [7] ?_
   refine jdu ?_
   refine fA zcQ rfl rfl ?_
   refine jeE ?_
   refine G [1, 3, 2] ?_
   have hSo := sortedN_s (delN (a, b) l[U].nets ++ [(a, b)]) (by rw [qbg]; simp; omega)
   have hap : (delN (a, b) l[U].nets).flatMap ntC ++ [qi a, qh b] = (delN (a, b) l[U].nets ++ [(a, b)]).flatMap ntC := by rw [qbD]; rfl
   have hSl : (zcK gtN (delN (a, b) l[U].nets ++ [(a, b)])).length = (delN (a, b) l[U].nets).length + 1 := by rw [zhn]; simp
   rw [show (delN (a, b) l[U].nets ++ [(a, b)]).length = (delN (a, b) l[U].nets).length + 1 by simp] at hSo
   obtain ⟨ns, hns⟩ : ∃ ns, zcK gtN (delN (a, b) l[U].nets ++ [(a, b)]) = ns := ⟨_, rfl⟩
   rw [hns] at hSo hSl
   rw [hns]
   have hst : setR (gC (fK U (a, b) l.length) 0 l) (U * 5 + 4) [.row 243] = gC (fK3 U (a, b) l.length) 0 l := zgN (zbY U (a, b) l.length) 4 qE (.row 243) l 0 U hkU (by
    rw [Nat.zero_add]; unfold fK fK3; rw [if_pos hkU, if_pos rfl, if_pos rfl]; rfl) (fun i hi hne => by rw [Nat.zero_add]; unfold fK3; rw [if_neg hne])
   have hV := gC_V U (a, b) l ns hkU
   obtain ⟨FV, hFV⟩ : ∃ FV, ((dnL (a, b) l).set U { l[U] with nets := ns }).flatMap PE.pv = FV := ⟨_, rfl⟩
   rw [hFV] at hV ⊢
   rw [hSl] at hV
   generalize (delN (a, b) l[U].nets).length = N at *
   generalize (delN (a, b) l[U].nets).flatMap ntC = NC at *
   generalize (delN (a, b) l[U].nets ++ [(a, b)]).flatMap ntC = NC2 at *
   generalize ns.flatMap ntC = NC3 at *
   refine G [8] ?_
   refine jdu ?_
   refine fA zcQ rfl rfl ?_
   refine jeE ?_
   refine G [2] ?_
   refine jfc (zag 241 U46 sz82 zc82 (qbe rfl) (qbe rfl) rfl rfl rfl rfl (qbe rfl)) ?_
   refine zab (zaq 242 U46 eo82 (zaS) qB qp rfl hap) rfl rfl ⟨rfl, rfl, rfl, trivial⟩ ?_
   refine r_callW (fun n => 243 + 1000 * n) (hSo) rfl rfl func98 rfl rfl rfl rfl rfl rfl rfl qq rfl rfl rfl ?_
   refine jdu ?_
   refine fA zcQ rfl rfl ?_
   refine zab (zcx (Y := .row 243) (es := gC (fK3 U (a, b) l.length) 0 l) sz46 rfl rfl qa1 hst) rfl rfl ⟨rfl, trivial⟩ ?_
   refine zaf ⟨qr, ?_⟩
   refine za7 (zd1 (o := 40) (fam := [(243, qk 82 2 (N + 1) NC3)]) hV (by intro p hp; simp only [qbm, qb4, or_false] at hp; subst hp; rfl) rfl rfl qC) ?_
   refine G [9, 9, 0] ?_
   refine yT (fun _ => 40) ?_ ?_
   ·exact rfl
   ·exact ja3
theorem fn_data {P : Program} {f : FuncId} {args : List AV} {a b x y : PV} {e size n : Nat} {cs : List PV} (h : Fn P f args (.tup [.agg [.p a, .p b, .row 0], .p x, .p y]) [(0, .row e size n cs)]) : Fn P f args (.tup [.agg [.p a, .p b, ql n size cs], .p x, .p y]) [] := by
 intro w A us hA hG hr
 refine (h w A us hA hG hr).mono fun en w' ⟨v, he, S', m', h1, h2⟩ => ⟨v, he, fun b => S' b ∨ ∃ v0, m' 0 = some v0 ∧ blk v0 = some b, fun _ => none, ?_, ?_⟩
 ·simp only [Rep, RepL] at h1 ⊢
  obtain ⟨ts, rfl, t0, _, rfl, ⟨us, rfl, ⟨u0, _, rfl, k0, u1, _, rfl, k1, u2, _, rfl, k2, rfl⟩, k3⟩, t1, _, rfl, k4, t2, _, rfl, k5, rfl⟩ := h1
  have hs : ∀ b, S' b → (fun b => S' b ∨ ∃ v0, m' 0 = some v0 ∧ blk v0 = some b) b := fun b hb => .inl hb
  exact ⟨_, rfl, _, _, rfl, ⟨_, rfl, ⟨u0, _, rfl, PRep.mono hs (fun _ _ => rfl) _ _ k0, u1, _, rfl, PRep.mono hs (fun _ _ => rfl) _ _ k1, u2, _, rfl, zel h2 hs rfl (fun v b hv hb => .inr ⟨v, hv, hb⟩) k2.1, rfl⟩, k3⟩, t1, _, rfl, PRep.mono hs (fun _ _ => rfl) _ _ k4, t2, _, rfl, PRep.mono hs (fun _ _ => rfl) _ _ k5, rfl⟩
 ·exact jaV
theorem fn_nil {P : Program} {f : FuncId} {args : List AV} {a b x y : PV} {size : Nat} (h : Fn P f args (.tup [.agg [.p a, .p b, qm], .p x, .p y]) []) : Fn P f args (.tup [.agg [.p a, .p b, ql 0 size []], .p x, .p y]) [] := by
 intro w A us hA hG hr
 refine (h w A us hA hG hr).mono fun en w' ⟨v, he, S', m', h1, h2⟩ => ⟨v, he, S', m', ?_, h2⟩
 simp only [Rep, RepL] at h1 ⊢
 obtain ⟨ts, rfl, t0, _, rfl, ⟨us, rfl, ⟨u0, _, rfl, k0, u1, _, rfl, k1, u2, _, rfl, k2, rfl⟩, k3⟩, t1, _, rfl, k4, t2, _, rfl, k5, rfl⟩ := h1
 simp only [PRep] at k2
 obtain ⟨rfl, _⟩ := k2
 refine ⟨_, rfl, _, _, rfl, ⟨_, rfl, ⟨u0, _, rfl, k0, u1, _, rfl, k1, _, _, rfl, ?_, rfl⟩, k3⟩, t1, _, rfl, k4, t2, _, rfl, k5, rfl⟩
 simp only [PRep, PRepL]
 exact jc0
def zcf : CF := ⟨⟨#[]⟩, 0, []⟩
def apR (r : CF × ByteArray × Int) : AV := .tup [.agg r.1.cells, qc r.2.1, qd r.2.2]
theorem zbV {f : FuncId} {args : List AV} {e : Int} (h : Fn prog f args (oErr e) []) : Fn prog f args (apR (zcf, ⟨#[]⟩, e)) [] := fn_nil (size := 5) h
theorem zhO {f : FuncId} {args : List AV} {c : CF} {nx : ByteArray} (h : Fn prog f args (.tup [.agg [qc c.key, qd c.port, .row 0], qc nx, qd 0]) [(0, .row 48 5 c.ps.length (c.ps.flatMap PE.pv))]) : Fn prog f args (apR (c, nx, 0)) [] := fn_data h
def putP (t : ByteArray) (l : List PE) : List PE := l.take (posL (fun p => sLt p.key t) l) ++ newP t :: l.drop (posL (fun p => sLt p.key t) l)
instance nLt_dec (m n : NtP) : Decidable (nLt m n) := by unfold nLt; infer_instance
def putN (n : NtP) (l : List NtP) : List NtP := l.take (posL (fun m => decide (nLt m n)) l) ++ n :: l.drop (posL (fun m => decide (nLt m n)) l)
def upP (l : List PE) (j : Nat) (f : PE → PE) : List PE := l.set j (f (peG l j))
def apO (c : CF) (pt : ByteArray) (s : SE) : CF × ByteArray × Int :=
 if cfE c ≠ 0 then (zcf, ⟨#[]⟩, cfE c) else if seE s ≠ 0 then (zcf, ⟨#[]⟩, seE s)
 else if s.k = 1 then (if peN s.t c.ps < c.ps.length then (zcf, ⟨#[]⟩, 14) else (⟨s.t, c.port, c.ps⟩, ⟨#[]⟩, 0))
 else if s.k = 2 then (⟨c.key, s.n, c.ps⟩, ⟨#[]⟩, 0)
 else if s.k = 3 then (⟨c.key, c.port, []⟩, ⟨#[]⟩, 0)
 else if s.k = 4 then (if s.t = c.key then (zcf, ⟨#[]⟩, 14) else if peN s.t c.ps < c.ps.length then (c, s.t, 0) else if c.ps.length = 6 then (zcf, ⟨#[]⟩, 7) else (⟨c.key, c.port, putP s.t c.ps⟩, s.t, 0))
 else if pt = ⟨#[]⟩ ∨ ¬ peN pt c.ps < c.ps.length then (zcf, ⟨#[]⟩, 13)
 else if s.k = 5 then (⟨c.key, c.port, delK pt c.ps⟩, ⟨#[]⟩, 0)
 else if s.k = 6 then (⟨c.key, c.port, upP c.ps (peN pt c.ps) fun p => { p with sh := s.t }⟩, pt, 0)
 else if s.k = 7 then (⟨c.key, c.port, upP c.ps (peN pt c.ps) fun p => { p with ep := s.t }⟩, pt, 0)
 else if s.k = 8 then (⟨c.key, c.port, upP c.ps (peN pt c.ps) fun p => { p with al := s.n }⟩, pt, 0)
 else if s.k = 9 then (⟨c.key, c.port, upP c.ps (peN pt c.ps) fun p => { p with nets := [] }⟩, pt, 0)
 else if (delN (s.a, s.b) (peG c.ps (peN pt c.ps)).nets).length = 8 then (zcf, ⟨#[]⟩, 7)
 else (⟨c.key, c.port, (dnL (s.a, s.b) c.ps).set (peN pt c.ps) { peG c.ps (peN pt c.ps) with nets := putN (s.a, s.b) (delN (s.a, s.b) (peG c.ps (peN pt c.ps)).nets) }⟩, pt, 0)
theorem seE_k {s : SE} (h : seE s = 0) : s.k = 1 ∨ s.k = 2 ∨ s.k = 3 ∨ s.k = 4 ∨ s.k = 5 ∨ s.k = 6 ∨ s.k = 7 ∨ s.k = 8 ∨ s.k = 9 ∨ s.k = 10 := by
 unfold seE at h
 split at h
 ·cases h
 ·omega
theorem ziQ (t : ByteArray) (l : List PE) : (putP t l).length = l.length + 1 := by
 have := zgj (fun p : PE => sLt p.key t) l
 unfold putP
 exact jcy
theorem newP_ok (t : ByteArray) : (newP t).OK ∧ (newP t).nets.length ≤ 1048576 := ⟨⟨(show (0 : Nat) < 4294967281 by decide), by simp [newP], fun n hn => by simp [newP] at hn⟩, by simp [newP]⟩
theorem zgW {key : ByteArray} {port : Int} {l : List PE} (hl : l.length ≤ 1048576) (h : ∀ p ∈ l, p.OK ∧ p.nets.length ≤ 1048576) : CF.OK ⟨key, port, l⟩ := ⟨hl, h⟩
theorem putP_ok {key : ByteArray} {port : Int} {l : List PE} {t : ByteArray} (ok : CF.OK ⟨key, port, l⟩) (h6 : l.length ≤ 6) : CF.OK ⟨key, port, putP t l⟩ := by
 refine zgW (by rw [ziQ]; omega) fun p hp => ?_
 unfold putP at hp
 rcases qbz.1 hp with hp | hp
 ·exact ok.ps p (qbT hp)
 ·rcases qbm.1 hp with rfl | hp
  ·exact newP_ok t
  ·exact ok.ps p (qcI hp)
theorem delK_ok {key : ByteArray} {port : Int} {l : List PE} {t : ByteArray} (ok : CF.OK ⟨key, port, l⟩) : CF.OK ⟨key, port, delK t l⟩ :=
 zgW (qcd (List.length_filter_le _ _) ok.len) fun p hp => ok.ps p (qcq.1 hp).1
theorem zee {key : ByteArray} {port : Int} {l : List PE} {j : Nat} {f : PE → PE} (ok : CF.OK ⟨key, port, l⟩) (hj : j < l.length) (h : ∀ p : PE, p.OK ∧ p.nets.length ≤ 1048576 → (f p).OK ∧ (f p).nets.length ≤ 1048576) : CF.OK ⟨key, port, upP l j f⟩ := by
 refine zgW (by unfold upP; rw [List.length_set]; exact ok.len) fun p hp => ?_
 unfold upP at hp
 rcases List.mem_or_eq_of_mem_set hp with hp | rfl
 ·exact ok.ps p hp
 ·rw [zch (List.getElem?_eq_getElem hj)]
  exact h _ (ok.ps _ (qce hj))
theorem putN_len (n : NtP) (l : List NtP) : (putN n l).length = l.length + 1 := by
 have := zgj (fun m : NtP => decide (nLt m n)) l
 unfold putN
 exact jcy
theorem putN_mem {n m : NtP} {l : List NtP} (h : m ∈ putN n l) : m = n ∨ m ∈ l := by
 unfold putN at h
 rcases qbz.1 h with h | h
 ·exact .inr (qbT h)
 ·rcases qbm.1 h with h | h
  ·exact .inl h
  ·exact .inr (qcI h)
theorem mvL_ok {key : ByteArray} {port : Int} {l : List PE} {j : Nat} {n : NtP} (ok : CF.OK ⟨key, port, l⟩) (hj : j < l.length) (hn : ntOK n) (h8 : l[j].nets.length ≤ 8) : CF.OK ⟨key, port, (dnL n l).set j { l[j] with nets := putN n (delN n l[j].nets) }⟩ := by
 have okd := dnL_ok (n := n) ok
 have hd := @zcu n l[j].nets
 refine zgW (by rw [List.length_set, zbo]; exact ok.len) fun p hp => ?_
 rcases List.mem_or_eq_of_mem_set hp with hp | rfl
 ·exact okd.ps p hp
 ·obtain ⟨h1, h2⟩ := ok.ps l[j] (qce hj)
  refine ⟨⟨h1.ep, by show (putN n (delN n l[j].nets)).length ≤ _; rw [putN_len]; omega, fun m hm => ?_⟩, by show (putN n (delN n l[j].nets)).length ≤ _; rw [putN_len]; omega⟩
  rcases putN_mem hm with rfl | hm
  ·exact hn
  ·exact h1.nets m (hd.2 m hm)
theorem posP_hi {l : List PE} (hs : ∀ i, (hi : i + 1 < l.length) → sLt (l[i]'qp).key l[i + 1].key = true) (t : ByteArray) (u : Nat) (h : posL (fun p => sLt p.key t) l ≤ u) (hu : u < l.length) : ¬ sLt l[u].key t = true := by
 have hS : Srt (fun p q : PE => sLt p.key q.key = true) l := srt_of (lt := fun p q : PE => sLt p.key q.key = true) (fun a b c h1 h2 => zfz h1 h2) hs
 have := posL_hi (lt := fun p : PE => sLt p.key t) (l := l) (fun i j hij hj hlt => zfz (hS i j hij hj) hlt) u h hu
 rw [this]; decide
theorem posN_hi {l : List NtP} (hS : Srt nLt l) (n : NtP) (u : Nat) (h : posL (fun m => decide (nLt m n)) l ≤ u) (hu : u < l.length) : ¬ nLt l[u] n := by
 have := posL_hi (lt := fun m : NtP => decide (nLt m n)) (l := l) (fun i j hij hj hlt => by
  rw [decide_eq_true_eq] at hlt ⊢
  exact nLt_trans _ _ _ (hS i j hij hj) hlt) u h hu
 simpa using this
theorem peN_key {t : ByteArray} : ∀ {l : List PE}, ¬ peN t l < l.length → ∀ u, (hu : u < l.length) → l[u].key ≠ t
 | p :: l, h, u, hu => by
  have h0 : p.key ≠ t := fun e => h (by simp [peN, e])
  have ih : ¬ peN t l < l.length := fun h2 => h (by simp [peN, h0]; omega)
  cases u with
  | zero => exact h0
  | succ u => simpa using peN_key ih u (by simpa using hu)
theorem peN_at2 {t : ByteArray} : ∀ {l : List PE}, (h : peN t l < l.length) → l[peN t l].key = t
 | [], h => by simp at h
 | p :: l, h => by
  by_cases e : p.key = t
  ·have : peN t (p :: l) = 0 := by simp [peN, e]
   simp only [this]; exact e
  ·have h2 : peN t (p :: l) = peN t l + 1 := by simp [peN, e]
   simp only [h2, List.getElem_cons_succ]
   exact peN_at2 (by rw [h2] at h; simpa using h)
theorem zix {t : ByteArray} {l : List PE} (hs : ∀ i, (hi : i + 1 < l.length) → sLt (l[i]'qp).key l[i + 1].key = true) (h : peN t l < l.length) : delK t l = l.take (peN t l) ++ l.drop (peN t l + 1) := by
 have hS : Srt (fun p q : PE => sLt p.key q.key = true) l := srt_of (lt := fun p q : PE => sLt p.key q.key = true) (fun a b c h1 h2 => zfz h1 h2) hs
 have hne : ∀ u, (hu : u < l.length) → u ≠ peN t l → l[u].key ≠ t := fun u hu hun e => by
  have hk := peN_at2 h
  rcases qcl u (peN t l) with h1 | h1
  ·have := hS u _ h1 h
   simp only at this
   rw [e, hk, zie] at this; cases this
  ·have := hS _ u (show peN t l < u by omega) hu
   simp only at this
   rw [e, hk, zie] at this; cases this
 have h1 : l = l.take (peN t l) ++ l[peN t l] :: l.drop (peN t l + 1) := qas
 unfold delK
 conv => lhs; rw [h1]
 rw [qcA, List.filter_cons, peN_at2 h]
 simp only [decide_true, Bool.not_true, qbE, if_false]
 congr 1
 ·refine qci.2 fun p hp => ?_
  obtain ⟨u, hu, rfl⟩ := qb5.1 hp
  rw [List.length_take] at hu
  rw [qcJ]
  simp [hne u (by omega) (by omega)]
 ·refine qci.2 fun p hp => ?_
  obtain ⟨u, hu, rfl⟩ := qb5.1 hp
  rw [qby] at hu
  rw [List.getElem_drop]
  simp [hne (peN t l + 1 + u) (by omega) (by omega)]
theorem sortP_put {t : ByteArray} {l : List PE} (hs : ∀ i, (hi : i + 1 < l.length) → sLt (l[i]'qp).key l[i + 1].key = true) (h : ¬ peN t l < l.length) : zcK gtP (l ++ [newP t]) = putP t l := by
 have hS : Srt (fun p q : PE => sLt p.key q.key = true) l := srt_of (lt := fun p q : PE => sLt p.key q.key = true) (fun a b c h1 h2 => zfz h1 h2) hs
 refine sortE_put (fun i j hij hj => ?_) (zgj _ _) (fun u hu hl => ?_) (fun u hu hl => ?_)
 ·have : sLt l[i].key l[j].key = true := hS i j hij hj
  simp [gtP, this]
 ·have : sLt l[u].key t = true := ziR (lt := fun p : PE => sLt p.key t) u hu hl
  simp [gtP, newP, this]
 ·have h1 := posP_hi hs t u hu hl
  have h2 := peN_key h u hl
  rw [Bool.not_eq_true] at h1
  simp [gtP, newP, h1, h2]
theorem sortN_put {n : NtP} {l : List NtP} (hS : Srt nLt l) (hne : ∀ u, (hu : u < l.length) → l[u] ≠ n) : zcK gtN (l ++ [n]) = putN n l := by
 refine sortE_put (fun i j hij hj => ?_) (zgj _ _) (fun u hu hl => ?_) (fun u hu hl => ?_)
 ·have h1 := hS i j hij hj
  unfold gtN
  rw [decide_eq_false_iff_not, nGt_iff]
  rw [zhz] at h1 ⊢
  omega
 ·have h1 := ziR (lt := fun m : NtP => decide (nLt m n)) u hu hl
  simp only [decide_eq_true_eq] at h1
  unfold gtN
  rw [decide_eq_false_iff_not, nGt_iff]
  rw [zhz] at h1 ⊢
  omega
 ·have h1 := posN_hi hS n u hu hl
  unfold gtN
  rw [decide_eq_true_eq, nGt_iff]
  rcases Classical.em (nLt n l[u]) with h2 | h2
  ·exact h2
  ·exact absurd (nLt_total h1 h2) (hne u hl)
theorem delN_srt {n : NtP} {p : PE} (h : peE p = 0) : Srt nLt (delN n p.nets) := srt_filter _ (srt_of nLt_trans (zfF h).2)
theorem delN_ne {n : NtP} {l : List NtP} (u : Nat) (hu : u < (delN n l).length) : (delN n l)[u] ≠ n := fun e => by
 have := (qcq.1 (qce hu)).2
 rw [e] at this
 simp at this
theorem zeT {f : FuncId} {args : List AV} {c : CF} {nx : ByteArray} {n : Nat} (hn : c.ps.length = n) (h : Fn prog f args (.tup [.agg [qc c.key, qd c.port, .row 0], qc nx, qd 0]) [(0, .row 48 5 n (c.ps.flatMap PE.pv))]) : Fn prog f args (apR (c, nx, 0)) [] := by
 subst hn
 exact fn_data h
theorem u3 : ∀ p ∈ [(3, Slot.un), (4, .un), (5, .un)], p.2 = .un ∧ 1 < p.1 ∧ p.1 < 100 := qC
theorem u5 : ∀ p ∈ [(3, Slot.un), (4, .un), (5, .un), (48, .un), (49, .un)], p.2 = .un ∧ 1 < p.1 ∧ p.1 < 100 := qC
theorem u4 : ∀ p ∈ [(3, Slot.un), (4, .un), (5, .un), (48, .un)], p.2 = .un ∧ 1 < p.1 ∧ p.1 < 100 := qC
theorem oW_no (key : ByteArray) (port : Int) (l l' : List PE) (pt t : ByteArray) (n a b : Int) : 39 ∉ (oN pt t n a b ++ mvW key port l l').map Prod.fst ∧ 106 ∉ (oN pt t n a b ++ mvW key port l l').map Prod.fst := by
 rw [qbF, zfe]
 simp only [oN, qbj, qcB, qbz, zb5, qbm, qb4, or_false]
 omega
theorem aone_s (c : CF) (ok : c.OK) (pt : ByteArray) (s : SE) (sok : s.OK) : Fn prog 60 [.agg c.cells, qc pt, .agg s.cells] (apR (apO c pt s)) [] := by
 unfold apO
 by_cases hc : cfE c ≠ 0
 ·rw [if_pos hc]; exact zbV (aone_bad c ok pt s sok hc)
 rw [if_neg hc]
 have hc0 : cfE c = 0 := qbJ.1 hc
 by_cases hs : seE s ≠ 0
 ·rw [if_pos hs]; exact zbV (aone_bad2 c ok pt s sok hc0 hs)
 rw [if_neg hs]
 have hs0 : seE s = 0 := qbJ.1 hs
 clear hc hs
 obtain ⟨h6, hpe, hsrt⟩ := zhU hc0
 have hk := seE_k hs0
 obtain ⟨key, port, l⟩ := c
 obtain ⟨k, t, n, a, b⟩ := s
 dsimp only at hk h6 hpe hsrt ⊢
 rcases hk with rfl | rfl | rfl | rfl | rfl | rfl | rfl | rfl | rfl | rfl
 ·rw [if_pos rfl]
  by_cases h : peN t l < l.length
  ·rw [if_pos h]; exact zbV (zcY ⟨key, port, l⟩ ok pt _ sok hc0 hs0 _ u3 _ _ 14 qC (one1a_s key port l ok pt t n a b h) qE)
  ·rw [if_neg h]; exact zhO (zcX ⟨key, port, l⟩ ok pt _ sok hc0 hs0 _ u3 _ ⟨#[]⟩ 0 qC (one1b_s key port l ok pt t n a b h) rfl ⟨t, port, l⟩ (zgW ok.len ok.ps) 1 qE (fun _ => rfl) (fun _ => rfl))
 ·rw [if_neg (show ¬ (2 : Int) = 1 by decide)]
  rw [if_pos rfl]
  exact zhO (zcX ⟨key, port, l⟩ ok pt _ sok hc0 hs0 _ u3 _ ⟨#[]⟩ 0 qC (one2_s key port l ok pt t n a b) rfl ⟨key, n, l⟩ (zgW ok.len ok.ps) 1 qE (fun _ => rfl) (fun _ => rfl))
 ·rw [if_neg (show ¬ (3 : Int) = 1 by decide)]
  rw [if_neg (show ¬ (3 : Int) = 2 by decide)]
  rw [if_pos rfl]
  exact zhO (c := ⟨key, port, []⟩) (aone_nil ⟨key, port, l⟩ ok pt _ sok hc0 hs0 _ u3 _ ⟨#[]⟩ 0 qC (one3_s key port l ok pt t n a b) rfl ⟨key, port, []⟩ (zgW (qb6 _) (fun p hp => by cases hp)) (fun _ => rfl))
 ·rw [if_neg (show ¬ (4 : Int) = 1 by decide)]
  rw [if_neg (show ¬ (4 : Int) = 2 by decide)]
  rw [if_neg (show ¬ (4 : Int) = 3 by decide)]
  rw [if_pos rfl]
  by_cases h0 : t = key
  ·rw [if_pos h0]; exact zbV (zcY ⟨key, port, l⟩ ok pt _ sok hc0 hs0 _ u3 _ _ 14 qC (one4own_s key port l ok pt t n a b h0) qE)
  rw [if_neg h0]
  by_cases h : peN t l < l.length
  ·rw [if_pos h]; exact zhO (zcX ⟨key, port, l⟩ ok pt _ sok hc0 hs0 _ u3 _ t 0 qC (one4old_s key port l ok pt t n a b h0 h) rfl ⟨key, port, l⟩ ok 1 qE (fun _ => rfl) (fun _ => rfl))
  rw [if_neg h]
  by_cases h7 : l.length = 6
  ·rw [if_pos h7]; exact zbV (zcY ⟨key, port, l⟩ ok pt _ sok hc0 hs0 _ u3 _ _ 7 qC (one4full_s key port l ok pt t n a b h0 h h7) qE)
  rw [if_neg h7]
  exact zhO (zcX ⟨key, port, l⟩ ok pt _ sok hc0 hs0 _ u5 _ t 0 qC (one4new_s key port l ok pt t n a b h0 h h7 _ (zgj _ _) (fun u hu hl => ziR (lt := fun p : PE => sLt p.key t) u hu hl) (fun u hu hl => posP_hi hsrt t u hu hl)) rfl ⟨key, port, putP t l⟩ (putP_ok ok h6) 49 qE (fun _ => rfl) (fun _ => (by show _ = Slot.live (.row _ 5 (CF.mk key port (putP t l)).ps.length _); rw [show (CF.mk key port (putP t l)).ps.length = l.length + 1 from ziQ t l]; rfl)))
 ·rw [if_neg (show ¬ (5 : Int) = 1 by decide)]
  rw [if_neg (show ¬ (5 : Int) = 2 by decide)]
  rw [if_neg (show ¬ (5 : Int) = 3 by decide)]
  rw [if_neg (show ¬ (5 : Int) = 4 by decide)]
  by_cases hno : pt = ⟨#[]⟩ ∨ ¬ peN pt l < l.length
  ·rw [if_pos hno]; exact zbV (zcY ⟨key, port, l⟩ ok pt _ sok hc0 hs0 _ u3 _ _ 13 qC (zgl 5 key port l ok pt t n a b qE qE qE qE hno) qE)
  rw [if_neg hno]
  have h0 : pt ≠ ⟨#[]⟩ := fun e => hno (.inl e)
  have h : peN pt l < l.length := qbJ.1 fun e => hno (.inr e)
  rw [if_pos rfl]
  exact zhO (zcX ⟨key, port, l⟩ ok pt _ sok hc0 hs0 _ u4 _ ⟨#[]⟩ 0 qC (one5_s key port l ok pt t n a b h0 h) rfl ⟨key, port, delK pt l⟩ (delK_ok ok) 48 qE (fun _ => rfl) (fun _ => rfl))
 ·rw [if_neg (show ¬ (6 : Int) = 1 by decide)]
  rw [if_neg (show ¬ (6 : Int) = 2 by decide)]
  rw [if_neg (show ¬ (6 : Int) = 3 by decide)]
  rw [if_neg (show ¬ (6 : Int) = 4 by decide)]
  by_cases hno : pt = ⟨#[]⟩ ∨ ¬ peN pt l < l.length
  ·rw [if_pos hno]; exact zbV (zcY ⟨key, port, l⟩ ok pt _ sok hc0 hs0 _ u3 _ _ 13 qC (zgl 6 key port l ok pt t n a b qE qE qE qE hno) qE)
  rw [if_neg hno]
  have h0 : pt ≠ ⟨#[]⟩ := fun e => hno (.inl e)
  have h : peN pt l < l.length := qbJ.1 fun e => hno (.inr e)
  rw [if_neg (show ¬ (6 : Int) = 5 by decide)]
  rw [if_pos rfl]
  have e : upP l (peN pt l) (fun p => { p with sh := t }) = l.set (peN pt l) { l[peN pt l] with sh := t } := qR
  have ok2 := zee (j := peN pt l) (f := fun p => { p with sh := t }) ok h (fun p hp => ⟨⟨hp.1.ep, hp.1.len, hp.1.nets⟩, hp.2⟩)
  rw [e] at ok2 ⊢
  exact zhO (zcX ⟨key, port, l⟩ ok pt _ sok hc0 hs0 _ u3 _ pt 0 qC (one6_s key port l ok pt t n a b h0 h) rfl ⟨key, port, l.set (peN pt l) { l[peN pt l] with sh := t }⟩ ok2 1 qE (fun _ => rfl) (fun _ => (by show _ = Slot.live (.row _ 5 (CF.mk key port (l.set (peN pt l) { l[peN pt l] with sh := t })).ps.length _); rw [show (CF.mk key port (l.set (peN pt l) { l[peN pt l] with sh := t })).ps.length = l.length from List.length_set]; rfl)))
 ·rw [if_neg (show ¬ (7 : Int) = 1 by decide)]
  rw [if_neg (show ¬ (7 : Int) = 2 by decide)]
  rw [if_neg (show ¬ (7 : Int) = 3 by decide)]
  rw [if_neg (show ¬ (7 : Int) = 4 by decide)]
  by_cases hno : pt = ⟨#[]⟩ ∨ ¬ peN pt l < l.length
  ·rw [if_pos hno]; exact zbV (zcY ⟨key, port, l⟩ ok pt _ sok hc0 hs0 _ u3 _ _ 13 qC (zgl 7 key port l ok pt t n a b qE qE qE qE hno) qE)
  rw [if_neg hno]
  have h0 : pt ≠ ⟨#[]⟩ := fun e => hno (.inl e)
  have h : peN pt l < l.length := qbJ.1 fun e => hno (.inr e)
  rw [if_neg (show ¬ (7 : Int) = 5 by decide)]
  rw [if_neg (show ¬ (7 : Int) = 6 by decide)]
  rw [if_pos rfl]
  have e : upP l (peN pt l) (fun p => { p with ep := t }) = l.set (peN pt l) { l[peN pt l] with ep := t } := qR
  have ok2 := zee (j := peN pt l) (f := fun p => { p with ep := t }) ok h (fun p hp => ⟨⟨sok.t, hp.1.len, hp.1.nets⟩, hp.2⟩)
  rw [e] at ok2 ⊢
  exact zhO (zcX ⟨key, port, l⟩ ok pt _ sok hc0 hs0 _ u3 _ pt 0 qC (one7_s key port l ok pt t n a b h0 h) rfl ⟨key, port, l.set (peN pt l) { l[peN pt l] with ep := t }⟩ ok2 1 qE (fun _ => rfl) (fun _ => (by show _ = Slot.live (.row _ 5 (CF.mk key port (l.set (peN pt l) { l[peN pt l] with ep := t })).ps.length _); rw [show (CF.mk key port (l.set (peN pt l) { l[peN pt l] with ep := t })).ps.length = l.length from List.length_set]; rfl)))
 ·rw [if_neg (show ¬ (8 : Int) = 1 by decide)]
  rw [if_neg (show ¬ (8 : Int) = 2 by decide)]
  rw [if_neg (show ¬ (8 : Int) = 3 by decide)]
  rw [if_neg (show ¬ (8 : Int) = 4 by decide)]
  by_cases hno : pt = ⟨#[]⟩ ∨ ¬ peN pt l < l.length
  ·rw [if_pos hno]; exact zbV (zcY ⟨key, port, l⟩ ok pt _ sok hc0 hs0 _ u3 _ _ 13 qC (zgl 8 key port l ok pt t n a b qE qE qE qE hno) qE)
  rw [if_neg hno]
  have h0 : pt ≠ ⟨#[]⟩ := fun e => hno (.inl e)
  have h : peN pt l < l.length := qbJ.1 fun e => hno (.inr e)
  rw [if_neg (show ¬ (8 : Int) = 5 by decide)]
  rw [if_neg (show ¬ (8 : Int) = 6 by decide)]
  rw [if_neg (show ¬ (8 : Int) = 7 by decide)]
  rw [if_pos rfl]
  have e : upP l (peN pt l) (fun p => { p with al := n }) = l.set (peN pt l) { l[peN pt l] with al := n } := qR
  have ok2 := zee (j := peN pt l) (f := fun p => { p with al := n }) ok h (fun p hp => ⟨⟨hp.1.ep, hp.1.len, hp.1.nets⟩, hp.2⟩)
  rw [e] at ok2 ⊢
  exact zhO (zcX ⟨key, port, l⟩ ok pt _ sok hc0 hs0 _ u3 _ pt 0 qC (one8_s key port l ok pt t n a b h0 h) rfl ⟨key, port, l.set (peN pt l) { l[peN pt l] with al := n }⟩ ok2 1 qE (fun _ => rfl) (fun _ => (by show _ = Slot.live (.row _ 5 (CF.mk key port (l.set (peN pt l) { l[peN pt l] with al := n })).ps.length _); rw [show (CF.mk key port (l.set (peN pt l) { l[peN pt l] with al := n })).ps.length = l.length from List.length_set]; rfl)))
 ·rw [if_neg (show ¬ (9 : Int) = 1 by decide)]
  rw [if_neg (show ¬ (9 : Int) = 2 by decide)]
  rw [if_neg (show ¬ (9 : Int) = 3 by decide)]
  rw [if_neg (show ¬ (9 : Int) = 4 by decide)]
  by_cases hno : pt = ⟨#[]⟩ ∨ ¬ peN pt l < l.length
  ·rw [if_pos hno]; exact zbV (zcY ⟨key, port, l⟩ ok pt _ sok hc0 hs0 _ u3 _ _ 13 qC (zgl 9 key port l ok pt t n a b qE qE qE qE hno) qE)
  rw [if_neg hno]
  have h0 : pt ≠ ⟨#[]⟩ := fun e => hno (.inl e)
  have h : peN pt l < l.length := qbJ.1 fun e => hno (.inr e)
  rw [if_neg (show ¬ (9 : Int) = 5 by decide)]
  rw [if_neg (show ¬ (9 : Int) = 6 by decide)]
  rw [if_neg (show ¬ (9 : Int) = 7 by decide)]
  rw [if_neg (show ¬ (9 : Int) = 8 by decide)]
  rw [if_pos rfl]
  have e : upP l (peN pt l) (fun p => { p with nets := [] }) = l.set (peN pt l) { l[peN pt l] with nets := [] } := qR
  have ok2 := zee (j := peN pt l) (f := fun p => { p with nets := [] }) ok h (fun p hp => ⟨⟨hp.1.ep, qC, fun n hn => by simp at hn⟩, qC⟩)
  rw [e] at ok2 ⊢
  exact zhO (zcX ⟨key, port, l⟩ ok pt _ sok hc0 hs0 _ u3 _ pt 0 qC (one9_s key port l ok pt t n a b h0 h) rfl ⟨key, port, l.set (peN pt l) { l[peN pt l] with nets := [] }⟩ ok2 1 qE (fun _ => rfl) (fun _ => (by show _ = Slot.live (.row _ 5 (CF.mk key port (l.set (peN pt l) { l[peN pt l] with nets := [] })).ps.length _); rw [show (CF.mk key port (l.set (peN pt l) { l[peN pt l] with nets := [] })).ps.length = l.length from List.length_set]; rfl)))
 ·rw [if_neg (show ¬ (10 : Int) = 1 by decide)]
  rw [if_neg (show ¬ (10 : Int) = 2 by decide)]
  rw [if_neg (show ¬ (10 : Int) = 3 by decide)]
  rw [if_neg (show ¬ (10 : Int) = 4 by decide)]
  by_cases hno : pt = ⟨#[]⟩ ∨ ¬ peN pt l < l.length
  ·rw [if_pos hno]; exact zbV (zcY ⟨key, port, l⟩ ok pt _ sok hc0 hs0 _ u3 _ _ 13 qC (zgl 10 key port l ok pt t n a b qE qE qE qE hno) qE)
  rw [if_neg hno]
  have h0 : pt ≠ ⟨#[]⟩ := fun e => hno (.inl e)
  have h : peN pt l < l.length := qbJ.1 fun e => hno (.inr e)
  rw [if_neg (show ¬ (10 : Int) = 5 by decide)]
  rw [if_neg (show ¬ (10 : Int) = 6 by decide)]
  rw [if_neg (show ¬ (10 : Int) = 7 by decide)]
  rw [if_neg (show ¬ (10 : Int) = 8 by decide)]
  rw [if_neg (show ¬ (10 : Int) = 9 by decide)]
  have hg : peG l (peN pt l) = l[peN pt l] := zch (List.getElem?_eq_getElem h)
  rw [hg]
  have h8l := (zfF (hpe (peN pt l) h)).1
  have hdl := (@zcu (a, b) l[peN pt l].nets).1
  by_cases h8 : (delN (a, b) l[peN pt l].nets).length = 8
  ·rw [if_pos h8]
   exact zbV (aoneS_err ⟨key, port, l⟩ ok pt _ sok hc0 hs0 h6 _ pt 7 (oW_no ..) (one10_s key port l ok pt t n a b h0 h h6 7 _ (moveX_s key port l ok pt (a, b) h0 h h6 7 _ (.inl ⟨rfl, h8, rfl⟩))) qE)
  ·rw [if_neg h8]
   have ok2 := mvL_ok (j := peN pt l) (n := (a, b)) ok h ⟨sok.a0, sok.a1⟩ h8l
   exact zhO (aoneS_row ⟨key, port, l⟩ ok pt _ sok hc0 hs0 h6 _ pt 0 (oW_no ..) (one10_s key port l ok pt t n a b h0 h h6 0 _ (moveX_s key port l ok pt (a, b) h0 h h6 0 _ (.inr ⟨rfl, h8, _, zgj (fun m => decide (nLt m (a, b))) _, fun u hu hl => (of_decide_eq_true (ziR (lt := fun m : NtP => decide (nLt m (a, b))) u hu hl)), fun u hu hl => posN_hi (delN_srt (hpe _ h)) (a, b) u hu hl, rfl⟩))) rfl _ ok2 1 qE (fun _ => rfl) (fun _ => (by show _ = Slot.live (.row _ 5 (((dnL (a, b) l).set (peN pt l) _).length) _); rw [List.length_set, zbo]; rfl)))
theorem refOne_s (c : CF) (ok : c.OK) (pt : ByteArray) (s : SE) (sok : s.OK) : Fn prog 65 [.agg c.cells, qc pt, .agg s.cells] (apR (apO c pt s)) [] := by
 unfold apO
 by_cases hc : cfE c ≠ 0
 ·rw [if_pos hc]; exact zbV (refOne_bad c ok pt s sok hc)
 rw [if_neg hc]
 have hc0 : cfE c = 0 := qbJ.1 hc
 by_cases hs : seE s ≠ 0
 ·rw [if_pos hs]; exact zbV (refOne_bad2 c ok pt s sok hc0 hs)
 rw [if_neg hs]
 have hs0 : seE s = 0 := qbJ.1 hs
 clear hc hs
 obtain ⟨h6, hpe, hsrt⟩ := zhU hc0
 have hk := seE_k hs0
 obtain ⟨key, port, l⟩ := c
 obtain ⟨k, t, n, a, b⟩ := s
 dsimp only at hk h6 hpe hsrt ⊢
 rcases hk with rfl | rfl | rfl | rfl | rfl | rfl | rfl | rfl | rfl | rfl
 ·rw [if_pos rfl]
  by_cases h : peN t l < l.length
  ·rw [if_pos h]; exact zbV (ref1a_s key port l ok pt t n a b sok hc0 hs0 h)
  ·rw [if_neg h]; exact zeT (c := ⟨t, port, l⟩) (rfl) (ref1b_s key port l ok pt t n a b sok hc0 hs0 h)
 ·rw [if_neg (show ¬ (2 : Int) = 1 by decide)]
  rw [if_pos rfl]
  exact zeT (c := ⟨key, n, l⟩) (rfl) (ref2_s key port l ok pt t n a b sok hc0 hs0)
 ·rw [if_neg (show ¬ (3 : Int) = 1 by decide)]
  rw [if_neg (show ¬ (3 : Int) = 2 by decide)]
  rw [if_pos rfl]
  exact ref3_s key port l ok pt t n a b sok hc0 hs0
 ·rw [if_neg (show ¬ (4 : Int) = 1 by decide)]
  rw [if_neg (show ¬ (4 : Int) = 2 by decide)]
  rw [if_neg (show ¬ (4 : Int) = 3 by decide)]
  rw [if_pos rfl]
  by_cases h0 : t = key
  ·rw [if_pos h0]; exact zbV (ref4own_s key port l ok pt t n a b sok hc0 hs0 h0)
  rw [if_neg h0]
  by_cases h : peN t l < l.length
  ·rw [if_pos h]; exact zeT (c := ⟨key, port, l⟩) (rfl) (ref4old_s key port l ok pt t n a b sok hc0 hs0 h0 h)
  rw [if_neg h]
  by_cases h7 : l.length = 6
  ·rw [if_pos h7]; exact zbV (ref4full_s key port l ok pt t n a b sok hc0 hs0 h0 h h7)
  rw [if_neg h7]
  have hr := ref4new_s key port l ok pt t n a b sok hc0 hs0 h0 h qp
  rw [sortP_put hsrt h] at hr
  exact zeT (c := ⟨key, port, putP t l⟩) (ziQ t l) hr
 ·rw [if_neg (show ¬ (5 : Int) = 1 by decide)]
  rw [if_neg (show ¬ (5 : Int) = 2 by decide)]
  rw [if_neg (show ¬ (5 : Int) = 3 by decide)]
  rw [if_neg (show ¬ (5 : Int) = 4 by decide)]
  by_cases hno : pt = ⟨#[]⟩ ∨ ¬ peN pt l < l.length
  ·rw [if_pos hno]; exact zbV (zdN 5 key port l ok pt t n a b sok hc0 hs0 qE qE qE qE hno)
  rw [if_neg hno]
  have h0 : pt ≠ ⟨#[]⟩ := fun e => hno (.inl e)
  have h : peN pt l < l.length := qbJ.1 fun e => hno (.inr e)
  rw [if_pos rfl]
  have hr := ref5_s key port l ok pt t n a b sok hc0 hs0 h0 h
  rw [← zix hsrt h] at hr
  exact zeT (c := ⟨key, port, delK pt l⟩) (by show (delK pt l).length = _; rw [zix hsrt h, qbg, List.length_take, qby]; omega) hr
 ·rw [if_neg (show ¬ (6 : Int) = 1 by decide)]
  rw [if_neg (show ¬ (6 : Int) = 2 by decide)]
  rw [if_neg (show ¬ (6 : Int) = 3 by decide)]
  rw [if_neg (show ¬ (6 : Int) = 4 by decide)]
  by_cases hno : pt = ⟨#[]⟩ ∨ ¬ peN pt l < l.length
  ·rw [if_pos hno]; exact zbV (zdN 6 key port l ok pt t n a b sok hc0 hs0 qE qE qE qE hno)
  rw [if_neg hno]
  have h0 : pt ≠ ⟨#[]⟩ := fun e => hno (.inl e)
  have h : peN pt l < l.length := qbJ.1 fun e => hno (.inr e)
  rw [if_neg (show ¬ (6 : Int) = 5 by decide)]
  rw [if_pos rfl]
  have e : upP l (peN pt l) (fun p => { p with sh := t }) = l.set (peN pt l) { l[peN pt l] with sh := t } := qR
  have ok2 := zee (j := peN pt l) (f := fun p => { p with sh := t }) ok h (fun p hp => ⟨⟨hp.1.ep, hp.1.len, hp.1.nets⟩, hp.2⟩)
  rw [e] at ok2 ⊢
  exact zeT (c := ⟨key, port, l.set (peN pt l) { l[peN pt l] with sh := t }⟩) (List.length_set ..) (ref6_s key port l ok pt t n a b sok hc0 hs0 h0 h)
 ·rw [if_neg (show ¬ (7 : Int) = 1 by decide)]
  rw [if_neg (show ¬ (7 : Int) = 2 by decide)]
  rw [if_neg (show ¬ (7 : Int) = 3 by decide)]
  rw [if_neg (show ¬ (7 : Int) = 4 by decide)]
  by_cases hno : pt = ⟨#[]⟩ ∨ ¬ peN pt l < l.length
  ·rw [if_pos hno]; exact zbV (zdN 7 key port l ok pt t n a b sok hc0 hs0 qE qE qE qE hno)
  rw [if_neg hno]
  have h0 : pt ≠ ⟨#[]⟩ := fun e => hno (.inl e)
  have h : peN pt l < l.length := qbJ.1 fun e => hno (.inr e)
  rw [if_neg (show ¬ (7 : Int) = 5 by decide)]
  rw [if_neg (show ¬ (7 : Int) = 6 by decide)]
  rw [if_pos rfl]
  have e : upP l (peN pt l) (fun p => { p with ep := t }) = l.set (peN pt l) { l[peN pt l] with ep := t } := qR
  have ok2 := zee (j := peN pt l) (f := fun p => { p with ep := t }) ok h (fun p hp => ⟨⟨sok.t, hp.1.len, hp.1.nets⟩, hp.2⟩)
  rw [e] at ok2 ⊢
  exact zeT (c := ⟨key, port, l.set (peN pt l) { l[peN pt l] with ep := t }⟩) (List.length_set ..) (ref7_s key port l ok pt t n a b sok hc0 hs0 h0 h)
 ·rw [if_neg (show ¬ (8 : Int) = 1 by decide)]
  rw [if_neg (show ¬ (8 : Int) = 2 by decide)]
  rw [if_neg (show ¬ (8 : Int) = 3 by decide)]
  rw [if_neg (show ¬ (8 : Int) = 4 by decide)]
  by_cases hno : pt = ⟨#[]⟩ ∨ ¬ peN pt l < l.length
  ·rw [if_pos hno]; exact zbV (zdN 8 key port l ok pt t n a b sok hc0 hs0 qE qE qE qE hno)
  rw [if_neg hno]
  have h0 : pt ≠ ⟨#[]⟩ := fun e => hno (.inl e)
  have h : peN pt l < l.length := qbJ.1 fun e => hno (.inr e)
  rw [if_neg (show ¬ (8 : Int) = 5 by decide)]
  rw [if_neg (show ¬ (8 : Int) = 6 by decide)]
  rw [if_neg (show ¬ (8 : Int) = 7 by decide)]
  rw [if_pos rfl]
  have e : upP l (peN pt l) (fun p => { p with al := n }) = l.set (peN pt l) { l[peN pt l] with al := n } := qR
  have ok2 := zee (j := peN pt l) (f := fun p => { p with al := n }) ok h (fun p hp => ⟨⟨hp.1.ep, hp.1.len, hp.1.nets⟩, hp.2⟩)
  rw [e] at ok2 ⊢
  exact zeT (c := ⟨key, port, l.set (peN pt l) { l[peN pt l] with al := n }⟩) (List.length_set ..) (ref8_s key port l ok pt t n a b sok hc0 hs0 h0 h)
 ·rw [if_neg (show ¬ (9 : Int) = 1 by decide)]
  rw [if_neg (show ¬ (9 : Int) = 2 by decide)]
  rw [if_neg (show ¬ (9 : Int) = 3 by decide)]
  rw [if_neg (show ¬ (9 : Int) = 4 by decide)]
  by_cases hno : pt = ⟨#[]⟩ ∨ ¬ peN pt l < l.length
  ·rw [if_pos hno]; exact zbV (zdN 9 key port l ok pt t n a b sok hc0 hs0 qE qE qE qE hno)
  rw [if_neg hno]
  have h0 : pt ≠ ⟨#[]⟩ := fun e => hno (.inl e)
  have h : peN pt l < l.length := qbJ.1 fun e => hno (.inr e)
  rw [if_neg (show ¬ (9 : Int) = 5 by decide)]
  rw [if_neg (show ¬ (9 : Int) = 6 by decide)]
  rw [if_neg (show ¬ (9 : Int) = 7 by decide)]
  rw [if_neg (show ¬ (9 : Int) = 8 by decide)]
  rw [if_pos rfl]
  have e : upP l (peN pt l) (fun p => { p with nets := [] }) = l.set (peN pt l) { l[peN pt l] with nets := [] } := qR
  have ok2 := zee (j := peN pt l) (f := fun p => { p with nets := [] }) ok h (fun p hp => ⟨⟨hp.1.ep, qC, fun n hn => by simp at hn⟩, qC⟩)
  rw [e] at ok2 ⊢
  exact zeT (c := ⟨key, port, l.set (peN pt l) { l[peN pt l] with nets := [] }⟩) (List.length_set ..) (ref9_s key port l ok pt t n a b sok hc0 hs0 h0 h)
 ·rw [if_neg (show ¬ (10 : Int) = 1 by decide)]
  rw [if_neg (show ¬ (10 : Int) = 2 by decide)]
  rw [if_neg (show ¬ (10 : Int) = 3 by decide)]
  rw [if_neg (show ¬ (10 : Int) = 4 by decide)]
  by_cases hno : pt = ⟨#[]⟩ ∨ ¬ peN pt l < l.length
  ·rw [if_pos hno]; exact zbV (zdN 10 key port l ok pt t n a b sok hc0 hs0 qE qE qE qE hno)
  rw [if_neg hno]
  have h0 : pt ≠ ⟨#[]⟩ := fun e => hno (.inl e)
  have h : peN pt l < l.length := qbJ.1 fun e => hno (.inr e)
  rw [if_neg (show ¬ (10 : Int) = 5 by decide)]
  rw [if_neg (show ¬ (10 : Int) = 6 by decide)]
  rw [if_neg (show ¬ (10 : Int) = 7 by decide)]
  rw [if_neg (show ¬ (10 : Int) = 8 by decide)]
  rw [if_neg (show ¬ (10 : Int) = 9 by decide)]
  have hg : peG l (peN pt l) = l[peN pt l] := zch (List.getElem?_eq_getElem h)
  rw [hg]
  have h8l := (zfF (hpe (peN pt l) h)).1
  have hdl := (@zcu (a, b) l[peN pt l].nets).1
  by_cases h8 : (delN (a, b) l[peN pt l].nets).length = 8
  ·rw [if_pos h8]; exact zbV (ref10full_s key port l ok pt t n a b sok hc0 hs0 h0 h qp)
  ·rw [if_neg h8]
   have hr := ref10_s key port l ok pt t n a b sok hc0 hs0 h0 h qp
   rw [sortN_put (delN_srt (hpe _ h)) (fun u hu => delN_ne u hu)] at hr
   exact zeT (c := ⟨key, port, (dnL (a, b) l).set (peN pt l) { l[peN pt l] with nets := putN (a, b) (delN (a, b) l[peN pt l].nets) }⟩) (by show ((dnL (a, b) l).set (peN pt l) _).length = _; rw [List.length_set, zbo]) hr
theorem zcO {P : Prop} [Decidable P] {a b : CF × ByteArray × Int} (ha : P → a.1.OK) (hb : ¬ P → b.1.OK) : (if P then a else b).1.OK := by
 by_cases h : P
 ·rw [if_pos h]; exact ha h
 ·rw [if_neg h]; exact hb h
theorem apO_ok (c : CF) (ok : c.OK) (pt : ByteArray) (s : SE) (sok : s.OK) : (apO c pt s).1.OK := by
 have hz : zcf.OK := zgW (qb6 _) (fun p hp => by cases hp)
 unfold apO
 by_cases hc : cfE c ≠ 0
 ·rw [if_pos hc]; exact hz
 rw [if_neg hc]
 have hc0 : cfE c = 0 := qbJ.1 hc
 obtain ⟨h6, hpe, hsrt⟩ := zhU hc0
 obtain ⟨key, port, l⟩ := c
 obtain ⟨k, t, n, a, b⟩ := s
 dsimp only at h6 hpe hsrt ⊢
 refine zcO (fun _ => ?_) (fun hno => ?_)
 ·exact hz
 refine zcO (fun _ => ?_) (fun hno => ?_)
 ·refine zcO (fun _ => ?_) (fun hno => ?_)
  ·exact hz
  ·exact zgW ok.len ok.ps
 refine zcO (fun _ => ?_) (fun hno => ?_)
 ·exact zgW ok.len ok.ps
 refine zcO (fun _ => ?_) (fun hno => ?_)
 ·exact zgW (qb6 _) (fun p hp => by cases hp)
 refine zcO (fun _ => ?_) (fun hno => ?_)
 ·refine zcO (fun _ => ?_) (fun hno => ?_)
  ·exact hz
  refine zcO (fun _ => ?_) (fun hno => ?_)
  ·exact ok
  refine zcO (fun _ => ?_) (fun hno => ?_)
  ·exact hz
  ·exact putP_ok ok h6
 refine zcO (fun _ => ?_) (fun hno => ?_)
 ·exact hz
 have h : peN pt l < l.length := qbJ.1 fun e => hno (.inr e)
 refine zcO (fun _ => ?_) (fun hno => ?_)
 ·exact delK_ok ok
 refine zcO (fun _ => ?_) (fun hno => ?_)
 ·exact zee ok h (fun p hp => ⟨⟨hp.1.ep, hp.1.len, hp.1.nets⟩, hp.2⟩)
 refine zcO (fun _ => ?_) (fun hno => ?_)
 ·exact zee ok h (fun p hp => ⟨⟨sok.t, hp.1.len, hp.1.nets⟩, hp.2⟩)
 refine zcO (fun _ => ?_) (fun hno => ?_)
 ·exact zee ok h (fun p hp => ⟨⟨hp.1.ep, hp.1.len, hp.1.nets⟩, hp.2⟩)
 refine zcO (fun _ => ?_) (fun hno => ?_)
 ·exact zee ok h (fun p hp => ⟨⟨hp.1.ep, qC, fun n hn => by simp at hn⟩, qC⟩)
 refine zcO (fun _ => ?_) (fun hno => ?_)
 ·exact hz
 ·rw [zch (List.getElem?_eq_getElem h)]
  exact mvL_ok (j := peN pt l) (n := (a, b)) ok h ⟨sok.a0, sok.a1⟩ (zfF (hpe (peN pt l) h)).1
theorem fn_dataC {P : Program} {f : FuncId} {args : List AV} {a b : PV} {e size n : Nat} {cs : List PV} (h : Fn P f args (.agg [.p a, .p b, .row 0]) [(0, .row e size n cs)]) : Fn P f args (.agg [.p a, .p b, ql n size cs]) [] := by
 intro w A us hA hG hr
 refine (h w A us hA hG hr).mono fun en w' ⟨v, he, S', m', h1, h2⟩ => ⟨v, he, fun b => S' b ∨ ∃ v0, m' 0 = some v0 ∧ blk v0 = some b, fun _ => none, ?_, ?_⟩
 ·simp only [Rep, RepL] at h1 ⊢
  obtain ⟨us, rfl, ⟨u0, _, rfl, k0, u1, _, rfl, k1, u2, _, rfl, k2, rfl⟩, k3⟩ := h1
  have hs : ∀ b, S' b → (fun b => S' b ∨ ∃ v0, m' 0 = some v0 ∧ blk v0 = some b) b := fun b hb => .inl hb
  exact ⟨_, rfl, ⟨u0, _, rfl, PRep.mono hs (fun _ _ => rfl) _ _ k0, u1, _, rfl, PRep.mono hs (fun _ _ => rfl) _ _ k1, u2, _, rfl, zel h2 hs rfl (fun v b hv hb => .inr ⟨v, hv, hb⟩) k2.1, rfl⟩, k3⟩
 ·exact jaV
theorem cfCopyD_s (c : CF) (ok : c.OK) : Fn Tryz.prog 40 [.agg c.cells] (.agg c.cells) [] := fn_dataC (zcv c ok)
theorem refCopyD_s (c : CF) (ok : c.OK) : Fn Tryz.prog 63 [.agg c.cells] (.agg c.cells) [] := fn_dataC (za9 c ok)
theorem fn_dataS {P : Program} {f : FuncId} {args : List AV} {e size n : Nat} {cs : List PV} (h : Fn P f args (.row 0) [(0, .row e size n cs)]) : Fn P f args (ql n size cs) [] := by
 intro w A us hA hG hr
 refine (h w A us hA hG hr).mono fun en w' ⟨v, he, S', m', h1, h2⟩ => ⟨v, he, fun b => S' b ∨ ∃ v0, m' 0 = some v0 ∧ blk v0 = some b, fun _ => none, ?_, ?_⟩
 ·simp only [Rep] at h1 ⊢
  have hs : ∀ b, S' b → (fun b => S' b ∨ ∃ v0, m' 0 = some v0 ∧ blk v0 = some b) b := fun b hb => .inl hb
  exact zel h2 hs rfl (fun v b hv hb => .inr ⟨v, hv, hb⟩) h1.1
 ·exact jaV
theorem fn_res {P : Program} {f : FuncId} {args : List AV} {res res' : AV} {news : List (Nat × AObj)} (hm : ∀ S m w v, Rep S m w res v → Rep S m w res' v) (h : Fn P f args res news) : Fn P f args res' news := by
 intro w A us hA hG hr
 exact (h w A us hA hG hr).mono fun en w' ⟨v, he, S', m', h1, h2⟩ => ⟨v, he, S', m', hm _ _ _ _ h1, h2⟩
theorem prep_nil {S : Nat → Prop} {w : World} {size : Nat} {u : Value} (h : PRep S w (.v (.slice none 0 0)) u) : PRep S w (.sl 0 size []) u := by
 simp only [PRep] at h
 obtain ⟨rfl, _⟩ := h
 simp only [PRep, PRepL]
 exact jc0
theorem scloneD_s (l : List SE) (hn : l.length ≤ 1048576) : Fn prog 61 [ql l.length 5 (l.flatMap SE.pv)] (ql l.length 5 (l.flatMap SE.pv)) [] := fn_dataS (sclone_s l hn)
def zsg : SG := ⟨false, [], zcf, ⟨#[]⟩, 0⟩
def zsgV : List AV := [qf false, qm, qc ⟨#[]⟩, qd 0, qm, qc ⟨#[]⟩, qd 0]
def svG : Nat → SG → SG
 | 0, d => d
 | n + 1, ⟨lv, [], c, p, e⟩ => ⟨lv, [], c, p, e⟩
 | n + 1, ⟨lv, x :: r, c, p, e⟩ => if e ≠ 0 then ⟨lv, x :: r, c, p, e⟩ else if (apO c p x).2.2 ≠ 0 then ⟨lv, x :: r, c, p, (apO c p x).2.2⟩ else svG n ⟨lv, r, (apO c p x).1, (apO c p x).2.1, e⟩
theorem stG_nil (n : Nat) (lv : Bool) (c : CF) (p : ByteArray) (e : Int) : svG n ⟨lv, [], c, p, e⟩ = ⟨lv, [], c, p, e⟩ := by cases n <;> rfl
theorem stG_err (n : Nat) {lv : Bool} {r : List SE} {c : CF} {p : ByteArray} {e : Int} (h : e ≠ 0) : svG n ⟨lv, r, c, p, e⟩ = ⟨lv, r, c, p, e⟩ := by
 cases n with
 | zero => rfl
 | succ n =>
  cases r with
  | nil => rfl
  | cons x r => unfold svG; rw [if_pos h]
theorem stG_bad {n : Nat} {lv : Bool} {x : SE} {r : List SE} {c : CF} {p : ByteArray} (h : (apO c p x).2.2 ≠ 0) : svG (n + 1) ⟨lv, x :: r, c, p, 0⟩ = ⟨lv, x :: r, c, p, (apO c p x).2.2⟩ := by
 unfold svG; rw [if_neg (by simp), if_pos h]
theorem stG_go {n : Nat} {lv : Bool} {x : SE} {r : List SE} {c : CF} {p : ByteArray} (h : ¬ (apO c p x).2.2 ≠ 0) : svG (n + 1) ⟨lv, x :: r, c, p, 0⟩ = svG n ⟨lv, r, (apO c p x).1, (apO c p x).2.1, 0⟩ := by
 rw [svG, if_neg (by simp), if_neg h]
theorem stG_ok : ∀ (r : List SE) (n : Nat) (lv : Bool) (c : CF) (p : ByteArray) (e : Int), (∀ x ∈ r, x.OK) → c.OK → (svG n ⟨lv, r, c, p, e⟩).rest.length ≤ r.length ∧ (svG n ⟨lv, r, c, p, e⟩).c.OK
 | [], n, lv, c, p, e, h, ok => by rw [stG_nil]; exact ⟨Nat.le_refl _, ok⟩
 | x :: r, 0, lv, c, p, e, h, ok => ⟨Nat.le_refl _, ok⟩
 | x :: r, n + 1, lv, c, p, e, h, ok => by
  have ih := stG_ok r n lv (apO c p x).1 (apO c p x).2.1 e (fun y hy => h y qa7) (apO_ok c ok p x (h x qC))
  unfold svG
  by_cases h0 : e ≠ 0
  ·rw [if_pos h0]; exact ⟨Nat.le_refl _, ok⟩
  rw [if_neg h0]
  by_cases h1 : (apO c p x).2.2 ≠ 0
  ·rw [if_pos h1]; exact ⟨Nat.le_refl _, ok⟩
  rw [if_neg h1]
  exact ⟨qcd ih.1 qC, ih.2⟩
def svE (s : SG) (n : Int) : SG × Int := if sgE s ≠ 0 then (zsg, sgE s) else if s.lv = false then (zsg, 13) else if n < 0 then (zsg, 4) else (svG n.toNat s, 0)
def stR (E : SG × Int) : AV := .tup [.agg E.1.cells, qd E.2]
def stV (E : SG × Int) : AV := if E.2 ≠ 0 then .tup [.agg zsgV, qd E.2] else stR E
theorem stV_e {e : Int} (h : e ≠ 0) : stV (zsg, e) = .tup [.agg zsgV, qd e] := by unfold stV; rw [if_pos h]
theorem stV_o {d : SG} : stV (d, 0) = .tup [.agg (sgC d.lv d.rest.length (d.rest.flatMap SE.pv) d.c.key d.c.port d.c.ps.length (d.c.ps.flatMap PE.pv) d.at_ d.err), qd 0] := by unfold stV; rw [if_neg (by simp)]; rfl
theorem stE_e {s : SG} {n : Int} (h : (svE s n).2 ≠ 0) : (svE s n).1 = zsg := by
 unfold svE at h ⊢
 by_cases h0 : sgE s ≠ 0
 ·rw [if_pos h0]
 rw [if_neg h0] at h ⊢
 by_cases h1 : s.lv = false
 ·rw [if_pos h1]
 rw [if_neg h1] at h ⊢
 by_cases h2 : n < 0
 ·rw [if_pos h2]
 rw [if_neg h2] at h
 exact absurd rfl h
theorem zsg_rep (S : Nat → Prop) (m : Nat → Option Value) (w : World) (e : Int) (v : Value) (h : Rep S m w (.tup [.agg zsgV, qd e]) v) : Rep S m w (.tup [.agg zsg.cells, qd e]) v := by
 simp only [zsgV, zsg, zcf, SG.cells, sgC, qcy, List.flatMap_nil, Rep, RepL] at h ⊢
 obtain ⟨ts, rfl, t0, _, rfl, ⟨us, rfl, ⟨u0, _, rfl, k0, u1, _, rfl, k1, u2, _, rfl, k2, u3, _, rfl, k3, u4, _, rfl, k4, u5, _, rfl, k5, u6, _, rfl, k6, rfl⟩, k⟩, t1, _, rfl, q, rfl⟩ := h
 exact ⟨_, rfl, _, _, rfl, ⟨_, rfl, ⟨u0, _, rfl, k0, u1, _, rfl, prep_nil k1, u2, _, rfl, k2, u3, _, rfl, k3, u4, _, rfl, prep_nil k4, u5, _, rfl, k5, u6, _, rfl, k6, rfl⟩, k⟩, t1, _, rfl, q, rfl⟩
theorem fn_st {f : FuncId} {args : List AV} {E : SG × Int} (hz : E.2 ≠ 0 → E.1 = zsg) (h : Fn prog f args (stV E) []) : Fn prog f args (stR E) [] := by
 obtain ⟨d, e⟩ := E
 dsimp only at hz
 by_cases h0 : e ≠ 0
 ·obtain rfl := hz h0
  rw [stV_e h0] at h
  exact fn_res (fun S m w v hv => zsg_rep S m w e v hv) h
 ·unfold stV at h; rw [if_neg h0] at h; exact h
theorem stE_ok {s : SG} (ok : s.OK) (n : Int) : (svE s n).1.rest.length ≤ 1048576 ∧ (svE s n).1.c.OK := by
 have hz : zsg.rest.length ≤ 1048576 ∧ zsg.c.OK := ⟨qb6 _, zgW (qb6 _) (fun p hp => by cases hp)⟩
 unfold svE
 by_cases h0 : sgE s ≠ 0
 ·rw [if_pos h0]; exact hz
 rw [if_neg h0]
 by_cases h1 : s.lv = false
 ·rw [if_pos h1]; exact hz
 rw [if_neg h1]
 by_cases h2 : n < 0
 ·rw [if_pos h2]; exact hz
 rw [if_neg h2]
 obtain ⟨lv, r, c, p, e⟩ := s
 have := stG_ok r n.toNat lv c p e ok.rest ok.c
 exact ⟨qcd this.1 ok.len, this.2⟩
theorem sgCopyD_s (s : SG) (ok : s.OK) : Fn prog 45 [.agg s.cells] (.agg s.cells) [] := by
 obtain ⟨lv, rest, c, at_, err⟩ := s
 obtain ⟨okr, hl, okc, haz, hkz⟩ := ok
 dsimp only at hl okc
 have hC := cfCopyD_s c okc
 have hS := scloneD_s rest hl
 obtain ⟨key, port, ps⟩ := c
 change Fn prog _ [.agg (cfC key port ps.length (ps.flatMap PE.pv))] (.agg (cfC key port ps.length (ps.flatMap PE.pv))) _ at hC
 refine jeh ?_
 clear okc okr haz hkz hl
 generalize ps.flatMap PE.pv = L at *
 generalize ps.length = M at *
 generalize rest.flatMap SE.pv = R at *
 generalize rest.length = N at *
 refine fnI fun w0 A => ?_
 refine G [9] ?_
 refine cK hS ?_
 refine G [2] ?_
 refine cK hC ?_
 refine G [11, 9, 0] ?_
 exact yE
theorem refSgCopyD_s (s : SG) (ok : s.OK) : Fn prog 64 [.agg s.cells] (.agg s.cells) [] := by
 obtain ⟨lv, rest, c, at_, err⟩ := s
 obtain ⟨okr, hl, okc, haz, hkz⟩ := ok
 dsimp only at hl okc
 have hC := refCopyD_s c okc
 obtain ⟨key, port, ps⟩ := c
 change Fn prog _ [.agg (cfC key port ps.length (ps.flatMap PE.pv))] (.agg (cfC key port ps.length (ps.flatMap PE.pv))) _ at hC
 refine jeh ?_
 clear okc okr haz hkz
 generalize ps.flatMap PE.pv = L at *
 generalize ps.length = M at *
 generalize rest.flatMap SE.pv = R at *
 generalize rest.length = N at *
 refine zcr func64 rfl (qbe rfl) fun w0 A => ?_
 refine zal (tx (jfc (a_box (X := .agg _) 1 rfl) ?_))
 refine jfc (zaW 2 zr30 rfl) ?_
 refine zaf (zal (zf1 4 qr ?_))
 refine fA fi30_0 rfl rfl ?_
 refine l1 U4 rfl rfl rfl ⟨rfl, trivial⟩ ?_
 refine fA fi30_1 rfl rfl ?_
 refine l1 U27 rfl rfl rfl ⟨rfl, trivial⟩ ?_
 refine zab (zcb 7 U27 eo107 (zcF) qB qp) rfl rfl ⟨rfl, trivial⟩ ?_
 refine fA fi30_2 rfl rfl ?_
 refine lN U24 rfl sz24 rfl rfl ⟨rfl, trivial⟩ ?_
 refine zay (fun n => 10 + 1000 * n) (hC) rfl rfl F63 rfl rfl qw rfl rfl rfl qq rfl rfl rfl ?_
 refine fA fi30_3 rfl rfl ?_
 refine l1 U9 rfl rfl rfl ⟨rfl, trivial⟩ ?_
 refine fA fi30_4 rfl rfl ?_
 refine l1 underlying28 rfl rfl rfl ⟨rfl, trivial⟩ ?_
 refine jfb (zbT pl30 zr30 rfl rfl) ?_
 refine zab (zad (Y := .agg _) sz30 rfl qI (qbf rfl)) rfl rfl ⟨rfl, trivial⟩ ?_
 refine zaf ⟨qr, ?_⟩
 refine za7 (zcL (cs := R) 7 rfl) ?_
 refine zaA (fT (fun o => o) (.cellN _ _ _ _ _ _ _ _ _ rfl rfl underlying30 rfl sz30 qax .nil) ?_ ?_)
 ·exact rfl
 ·exact trivial
theorem step_s (s : SG) (ok : s.OK) (n : Int) (hn0 : -9223372036854775808 ≤ n) (hn1 : n ≤ 9223372036854775807) : Fn prog 29 [.agg s.cells, qd n] (stV (svE s n)) [] := by
 obtain ⟨E, hE⟩ : ∃ E, svE s n = E := ⟨_, rfl⟩
 rw [hE]
 unfold svE at hE
 have hCf := sgCheck_s s ok
 have hCp := sgCopyD_s s ok
 obtain ⟨ce, hce⟩ : ∃ e, sgE s = e := ⟨_, rfl⟩
 rw [hce] at hE hCf
 clear hce
 have okr := ok.rest
 have okl := ok.len
 have okc := ok.c
 clear ok
 obtain ⟨lv, rest, ⟨key, port, l⟩, p, err⟩ := s
 dsimp only at hE okr okl okc
 change Fn prog _ [.agg (sgC lv rest.length (rest.flatMap SE.pv) key port l.length (l.flatMap PE.pv) p err)] _ _ at hCf
 change Fn prog _ [.agg (sgC lv rest.length (rest.flatMap SE.pv) key port l.length (l.flatMap PE.pv) p err)] (.agg (sgC lv rest.length (rest.flatMap SE.pv) key port l.length (l.flatMap PE.pv) p err)) _ at hCp
 show Fn prog _ [.agg (sgC lv rest.length (rest.flatMap SE.pv) key port l.length (l.flatMap PE.pv) p err), _] _ _
 refine fnI fun w0 A => ?_
 refine G [10] ?_
 refine cK hCf ?_
 refine jdv ?_
 refine cX ?_ ?_ <;> intro h
 ·have h0 : ce ≠ 0 := qz
  rw [if_pos h0] at hE
  subst hE
  rw [stV_e h0]
  exact jbh
 have h0 : ¬ ce ≠ 0 := qz
 clear h
 rw [if_neg h0] at hE
 refine jdQ ?_
 refine cX ?_ ?_ <;> intro h
 ·exact jdk
 have h1 : ¬ lv = false := qz
 clear h
 rw [if_neg h1] at hE
 refine jdv ?_
 refine cX ?_ ?_ <;> intro h
 ·have h2 : n < 0 := qz
  rw [if_pos h2] at hE
  subst hE
  rw [stV_e (by decide)]
  exact jb3
 have h2 : ¬ n < 0 := qz
 clear h
 rw [if_neg h2] at hE
 refine G [4] ?_
 refine cK hCp ?_
 refine G [3] ?_
 clear hCf hCp
 refine jdt ?_
 refine zac (fun m st => ∃ (n : Int) (d : SG), d.rest.length = m ∧ 0 ≤ n ∧ n ≤ 9223372036854775807 ∧ (∀ x ∈ d.rest, x.OK) ∧ d.rest.length ≤ 1048576 ∧ d.c.OK ∧ (svG n.toNat d, (0 : Int)) = E ∧ st = St.of [(1, qd n), (4, .ref 4 0), (7, .ref 7 0)] [(4, .box 30 [qf false, qm, qc ⟨#[]⟩, qd 0, qm, qc ⟨#[]⟩, qd 0]), (7, .box 30 (sgC d.lv d.rest.length (d.rest.flatMap SE.pv) d.c.key d.c.port d.c.ps.length (d.c.ps.flatMap PE.pv) d.at_ d.err))]) rest.length ?_ ?_
 ·refine ⟨_, zae id _ _ ?_ ?_ rfl, n, ⟨lv, rest, ⟨key, port, l⟩, p, err⟩, rfl, qp, hn1, okr, okl, okc, hE, rfl⟩
  ·exact jap
  ·exact ja5
 clear hE okr okl okc h0 h1 h2 hn0 hn1
 clear lv rest key port l p err n ce
 rintro m st ⟨n, ⟨lv, rest, ⟨key, port, l⟩, p, err⟩, hm, hn0, hn1, okr, okl, okc, hE, rfl⟩
 dsimp only at hm okr okl okc ⊢
 subst hm
 refine G [8] ?_
 refine mb2 _ rfl rfl (fun hb => (zeg U27)) (fun _ => trivial) ?_
 refine G [1, 2, 4, 2, 1, 9, 0] ?_
 refine cX ?_ ?_ <;> intro h
 ·have h3 : 0 < n ∧ 0 < rest.length ∧ err = 0 := by
   simp at h
   obtain ⟨⟨q1, q2⟩, q3⟩ := h
   exact ⟨q1, by first | omega | exact List.length_pos_iff.2 q2, q3⟩
  clear h
  obtain ⟨g1, g2, rfl⟩ := h3
  obtain ⟨x, r, rfl⟩ : ∃ x r, rest = x :: r := by
   cases rest with
   | nil => simp at g2
   | cons x r => exact ⟨x, r, rfl⟩
  have okx := okr x qC
  have hC := aone_s ⟨key, port, l⟩ okc p x okx
  have hO := apO_ok ⟨key, port, l⟩ okc p x okx
  have hcl := scloneD_s r (by rw [qbs] at okl; omega)
  have hch : (((x :: r).flatMap SE.pv).drop (0 * 5)).take 5 = SE.pv x := zaj (f := SE.pv) (k := 5) (l := x :: r) (i := 0) (fun _ => rfl) rfl
  have hle : 5 ≤ ((x :: r).flatMap SE.pv).length := by
   have := zai (f := SE.pv) (k := 5) (l := x :: r) (i := 0) (fun _ => rfl) qC
   omega
  have hsub : (((x :: r).flatMap SE.pv).drop (1 * 5)).take (r.length * 5) = r.flatMap SE.pv := by
   rw [zgA (f := SE.pv) (k := 5) (fun _ => rfl), List.drop_one, List.tail_cons, qbr (by rw [zap (f := SE.pv) (k := 5) (fun _ => rfl)]; omega)]
  have hns : n.toNat = (n - 1).toNat + 1 := qp
  rw [hns] at hE
  have hbad := @stG_bad (n - 1).toNat lv x r ⟨key, port, l⟩ p
  have hgo := @stG_go (n - 1).toNat lv x r ⟨key, port, l⟩ p
  obtain ⟨⟨c3, nx, e⟩, hr⟩ : ∃ y, apO ⟨key, port, l⟩ p x = y := ⟨_, rfl⟩
  rw [hr] at hC hO hbad hgo
  have okr2 : ∀ y ∈ r, y.OK := fun y hy => okr y qa7
  have okl2 : r.length ≤ 1048576 := by rw [qbs] at okl; omega
  clear hr okx okc okr
  unfold apR at hC
  obtain ⟨key3, port3, l3⟩ := c3
  obtain ⟨xk, xt, xn, xa, xb⟩ := x
  dsimp only at hC hO hbad hgo
  change Fn prog _ [.agg (cfC key port l.length (l.flatMap PE.pv)), _, .agg [qd xk, qc xt, qd xn, qe xa, qd xb]] (.tup [.agg (cfC key3 port3 l3.length (l3.flatMap PE.pv)), _, _]) _ at hC
  have hN : ((⟨xk, xt, xn, xa, xb⟩ : SE) :: r).length = r.length + 1 := rfl
  generalize hRR : ((⟨xk, xt, xn, xa, xb⟩ : SE) :: r).flatMap SE.pv = RR at *
  generalize hNN : ((⟨xk, xt, xn, xa, xb⟩ : SE) :: r).length = NN at *
  refine G [12] ?_
  refine jfb (zas U107 rfl zdJ hle (hch)) ?_
  refine cK hC ?_
  refine G [15, 9, 0] ?_
  refine cX ?_ ?_ <;> intro h
  ·have h7 : e ≠ 0 := qz
   rw [hbad h7] at hE
   subst hE
   refine G [6] ?_
   rw [stV_o]
   dsimp only
   rw [hNN, hRR]
   exact jbh
  have h7 : ¬ e ≠ 0 := qz
  clear h
  rw [hgo h7] at hE
  refine G [6] ?_
  refine zaa (zhc (L := (some (_, _))) (H := none) U27 zdJ ⟨qp, rfl⟩ rfl qp qp (show NN - 1 = r.length by omega) hsub) rfl rfl ?_
  refine cK hcl ?_
  refine G [9] ?_
  refine zaa (zgD (show IntKind.i64.wrap (n - 1) = n - 1 by rw [qbM _ (by omega)])) rfl rfl ?_
  refine G [2, 9, 0] ?_
  refine ⟨r.length, qp, _, zae id _ _ ?_ ?_ rfl, n - 1, ⟨lv, r, ⟨key3, port3, l3⟩, nx, 0⟩, rfl, qp, qp, okr2, okl2, hO, hE, rfl⟩
  ·exact jap
  ·exact ja5
 have h3 : svG n.toNat ⟨lv, rest, ⟨key, port, l⟩, p, err⟩ = ⟨lv, rest, ⟨key, port, l⟩, p, err⟩ := by
  by_cases q3 : err = 0
  ·by_cases q2 : rest = []
   ·subst q2; exact stG_nil ..
   ·have q1 : n = 0 := by
     simp at h
     have : 0 < rest.length := List.length_pos_iff.2 q2
     by_cases q : 0 < n
     ·exact absurd q3 (h q (by first | exact q2 | omega))
     ·omega
    subst q1; rfl
  ·exact stG_err _ q3
 clear h
 rw [h3] at hE
 subst hE
 rw [stV_o]
 dsimp only
 refine jdQ ?_
 exact yE
theorem refStep_s (s : SG) (ok : s.OK) (n : Int) (hn0 : -9223372036854775808 ≤ n) (hn1 : n ≤ 9223372036854775807) : Fn prog 32 [.agg s.cells, qd n] (stV (svE s n)) [] := by
 obtain ⟨E, hE⟩ : ∃ E, svE s n = E := ⟨_, rfl⟩
 rw [hE]
 unfold svE at hE
 have hCf := zik s ok
 have hCp := refSgCopyD_s s ok
 obtain ⟨ce, hce⟩ : ∃ e, sgE s = e := ⟨_, rfl⟩
 rw [hce] at hE hCf
 clear hce
 have okr := ok.rest
 have okl := ok.len
 have okc := ok.c
 clear ok
 obtain ⟨lv, rest, ⟨key, port, l⟩, p, err⟩ := s
 dsimp only at hE okr okl okc
 change Fn prog _ [.agg (sgC lv rest.length (rest.flatMap SE.pv) key port l.length (l.flatMap PE.pv) p err)] _ _ at hCf
 change Fn prog _ [.agg (sgC lv rest.length (rest.flatMap SE.pv) key port l.length (l.flatMap PE.pv) p err)] (.agg (sgC lv rest.length (rest.flatMap SE.pv) key port l.length (l.flatMap PE.pv) p err)) _ at hCp
 show Fn prog _ [.agg (sgC lv rest.length (rest.flatMap SE.pv) key port l.length (l.flatMap PE.pv) p err), _] _ _
 refine fnI fun w0 A => ?_
 refine G [10] ?_
 refine cK hCf ?_
 refine jdv ?_
 refine cX ?_ ?_ <;> intro h
 ·have h0 : ce ≠ 0 := qz
  rw [if_pos h0] at hE
  subst hE
  rw [stV_e h0]
  exact jbh
 have h0 : ¬ ce ≠ 0 := qz
 clear h
 rw [if_neg h0] at hE
 refine jdQ ?_
 refine cX ?_ ?_ <;> intro h
 ·exact jdk
 have h1 : ¬ lv = false := qz
 clear h
 rw [if_neg h1] at hE
 refine jdv ?_
 refine cX ?_ ?_ <;> intro h
 ·have h2 : n < 0 := qz
  rw [if_pos h2] at hE
  subst hE
  rw [stV_e (by decide)]
  exact jb3
 have h2 : ¬ n < 0 := qz
 clear h
 rw [if_neg h2] at hE
 refine G [4] ?_
 refine cK hCp ?_
 refine G [8] ?_
 clear hCf hCp
 obtain ⟨O, hO⟩ : ∃ O, sgC lv rest.length (rest.flatMap SE.pv) key port l.length (l.flatMap PE.pv) p err = O := ⟨_, rfl⟩
 refine jdt ?_
 refine zac (fun m st => ∃ (i : Nat) (d : SG), m + i = rest.length ∧ (d.err = 0 → d.rest = rest.drop i) ∧ d.c.OK ∧ (svG (n.toNat - i) d, (0 : Int)) = E ∧ st = St.of [(1, qd n), (2, .ref 2 0), (4, .ref 4 0), (7, .ref 7 0), (8, qd i)] [(2, .box 30 (sgC lv rest.length (rest.flatMap SE.pv) key port l.length (l.flatMap PE.pv) p err)), (4, .box 30 [qf false, qm, qc ⟨#[]⟩, qd 0, qm, qc ⟨#[]⟩, qd 0]), (7, .box 30 (sgC d.lv d.rest.length (d.rest.flatMap SE.pv) d.c.key d.c.port d.c.ps.length (d.c.ps.flatMap PE.pv) d.at_ d.err))]) rest.length ?_ ?_
 ·refine ⟨_, zae id _ _ ?_ ?_ rfl, 0, ⟨lv, rest, ⟨key, port, l⟩, p, err⟩, rfl, fun _ => rfl, okc, hE, rfl⟩
  ·exact jap
  ·exact jaR
 clear hE okc h0 h1 hO
 rintro m st ⟨i, ⟨lv2, rest2, ⟨key2, port2, l2⟩, p2, err2⟩, hm, hrs, okc, hE, rfl⟩
 dsimp only at hrs okc ⊢
 refine G [10] ?_
 refine mb2 _ rfl rfl (fun hb => (zeg U27)) (fun _ => trivial) ?_
 refine G [1, 2, 4, 2, 1, 9, 0] ?_
 refine cX ?_ ?_ <;> intro h
 ·have h3 : (i : Int) < n ∧ i < rest.length ∧ err2 = 0 := by
   simp at h
   obtain ⟨⟨q1, q2⟩, q3⟩ := h
   exact ⟨q1, qp, q3⟩
  clear h
  obtain ⟨g1, g2, rfl⟩ := h3
  obtain rfl := hrs rfl
  obtain ⟨x, hx⟩ := qo g2
  have hdx : rest.drop i = x :: rest.drop (i + 1) := by
   obtain ⟨_, rfl⟩ := qbl.1 hx
   exact qbY g2
  have hch := zaj (f := SE.pv) (k := 5) (fun _ => rfl) hx
  have hle := zai (f := SE.pv) (k := 5) (fun _ => rfl) g2
  have okx := okr x (qbh hx)
  have hC := refOne_s ⟨key2, port2, l2⟩ okc p2 x okx
  have hO := apO_ok ⟨key2, port2, l2⟩ okc p2 x okx
  have hns : n.toNat - i = (n.toNat - (i + 1)) + 1 := qp
  have hbad := @stG_bad (n.toNat - (i + 1)) lv2 x (rest.drop (i + 1)) ⟨key2, port2, l2⟩ p2
  have hgo := @stG_go (n.toNat - (i + 1)) lv2 x (rest.drop (i + 1)) ⟨key2, port2, l2⟩ p2
  rw [hns] at hE
  rw [← hdx] at hbad hgo
  obtain ⟨⟨c3, nx, e⟩, hr⟩ : ∃ y, apO ⟨key2, port2, l2⟩ p2 x = y := ⟨_, rfl⟩
  rw [hr] at hC hO hbad hgo
  clear hr okx hdx
  unfold apR at hC
  obtain ⟨key3, port3, l3⟩ := c3
  obtain ⟨xk, xt, xn, xa, xb⟩ := x
  dsimp only at hC hO hbad hgo
  change Fn prog _ [.agg (cfC key2 port2 l2.length (l2.flatMap PE.pv)), _, .agg [qd xk, qc xt, qd xn, qe xa, qd xb]] (.tup [.agg (cfC key3 port3 l3.length (l3.flatMap PE.pv)), _, _]) _ at hC
  have hle2 : 5 ≤ ((rest.flatMap SE.pv).drop (i * 5)).length := qW
  have hsub : ((rest.flatMap SE.pv).drop (Int.toNat ((i + 1 : Nat) : Int) * 5)).take ((rest.drop (i + 1)).length * 5) = (rest.drop (i + 1)).flatMap SE.pv := by
   rw [qbx, zgA (f := SE.pv) (k := 5) (fun _ => rfl), qbr (by rw [zap (f := SE.pv) (k := 5) (fun _ => rfl)]; omega)]
  have hND : (rest.drop (i + 1)).length = rest.length - (i + 1) := qby ..
  generalize hRR : rest.flatMap SE.pv = RR at *
  generalize hR1 : (rest.drop i).flatMap SE.pv = R1 at *
  generalize hN1 : (rest.drop i).length = N1 at *
  generalize hR2 : (rest.drop (i + 1)).flatMap SE.pv = R2 at *
  generalize hN2 : (rest.drop (i + 1)).length = N2 at *
  generalize hNN : rest.length = NN at *
  refine G [13] ?_
  refine jfb (zas U107 rfl zdJ hle2 (hch)) ?_
  refine cK hC ?_
  refine G [14, 9, 0] ?_
  refine cX ?_ ?_ <;> intro h
  ·have h7 : e ≠ 0 := qz
   clear h
   rw [hbad h7] at hE
   skip
   refine G [10, 9, 0] ?_
   refine ⟨m - 1, qp, _, zae id _ _ ?_ ?_ rfl, i + 1, ⟨lv2, rest.drop i, ⟨key2, port2, l2⟩, p2, e⟩, qp, fun q => absurd q h7, okc, ?_, rfl⟩
   ·subst hR1 hN1
    exact jap
   ·subst hR1 hN1
    exact jaR
   ·rw [stG_err _ h7]; exact hE
  have h7 : ¬ e ≠ 0 := qz
  clear h
  rw [hgo h7] at hE
  refine G [16] ?_
  refine zaa (zgF (show IntKind.i64.wrap ((i : Int) + 1) = ((i + 1 : Nat) : Int) by rw [qbM _ (by omega)]; omega)) rfl rfl ?_
  refine zaa (zhc (L := (some (_, _))) (H := none) U27 zdJ ⟨qp, rfl⟩ rfl qp qp (show NN - Int.toNat ((i + 1 : Nat) : Int) = N2 by rw [qbx]; omega) hsub) rfl rfl ?_
  refine zab (zcb 71 U27 eo107 (zcF) qB qp) rfl rfl ⟨rfl, trivial⟩ ?_
  refine G [3] ?_
  refine za7 (zcL (cs := R2) 71 rfl) ?_
  skip
  refine jdD ?_
  refine ⟨m - 1, qp, _, zae id _ _ ?_ ?_ rfl, i + 1, ⟨lv2, rest.drop (i + 1), ⟨key3, port3, l3⟩, nx, 0⟩, qp, fun _ => rfl, hO, hE, rfl⟩
  ·subst hR2 hN2
   exact jap
  ·subst hR2 hN2
   exact jaR
 have h3 : svG (n.toNat - i) ⟨lv2, rest2, ⟨key2, port2, l2⟩, p2, err2⟩ = ⟨lv2, rest2, ⟨key2, port2, l2⟩, p2, err2⟩ := by
  by_cases q3 : err2 = 0
  ·obtain rfl := hrs q3
   by_cases q2 : i < rest.length
   ·have q1 : n.toNat - i = 0 := by
     simp at h
     by_cases q : (i : Int) < n
     ·exact absurd q3 (h q qp)
     ·omega
    rw [q1]; rfl
   ·rw [List.drop_of_length_le (by omega)]; exact stG_nil ..
  ·exact stG_err _ q3
 clear h
 rw [h3] at hE
 subst hE
 rw [stV_o]
 dsimp only
 refine jdQ ?_
 exact yE
theorem stepD_s (s : SG) (ok : s.OK) (n : Int) (hn0 : -9223372036854775808 ≤ n) (hn1 : n ≤ 9223372036854775807) : Fn Tryz.prog 29 [.agg s.cells, qd n] (stR (svE s n)) [] := fn_st stE_e (step_s s ok n hn0 hn1)
theorem refStepD_s (s : SG) (ok : s.OK) (n : Int) (hn0 : -9223372036854775808 ≤ n) (hn1 : n ≤ 9223372036854775807) : Fn Tryz.prog 32 [.agg s.cells, qd n] (stR (svE s n)) [] := fn_st stE_e (refStep_s s ok n hn0 hn1)
theorem zhR (d : DM) (ok : d.OK) : Fn prog 18 [.agg d.cells] (.agg d.cells) [] := zi7 (dmCopyR_s d ok) rfl rfl
theorem zgi (d : DM) (ok : d.OK) : Fn prog 31 [.agg d.cells] (.agg d.cells) [] := zi7 (rdmCopy_s d ok) rfl rfl
theorem zsg_nz : nzL zsgV zsg.cells := ⟨.inl rfl, .inr ⟨5, rfl, rfl⟩, .inl rfl, .inl rfl, .inr ⟨5, rfl, rfl⟩, .inl rfl, .inl rfl, trivial⟩
noncomputable def bgE (c : CF) (s : ByteArray) : SG × Int × Int :=
 if cfE c ≠ 0 then (zsg, 0, cfE c) else match bpO s with
  | some (n, e) => if e ≠ 0 then (zsg, n, e) else (⟨true, [], c, ⟨#[]⟩, 0⟩, 0, 0)
  | none => (⟨true, ((spl s 10).map lnOf).map rdS, c, ⟨#[]⟩, 0⟩, 0, 0)
def bgV (b : SG × Int × Int) : AV := .tup [.agg b.1.cells, qd b.2.1, qd b.2.2]
theorem bg_bad {f : FuncId} {args : List AV} {n e : Int} (h : Fn prog f args (.tup [.agg zsgV, qd n, qd e]) []) : Fn prog f args (bgV (zsg, n, e)) [] :=
 zit h ⟨.inr ⟨_, _, rfl, rfl, zsg_nz⟩, .inl (.inl rfl), .inl (.inl rfl), trivial⟩
theorem bg_nil {f : FuncId} {args : List AV} {c : CF} (h : Fn prog f args (.tup [.agg [qf true, qm, qc c.key, qd c.port, .row 0, qc ⟨#[]⟩, qd 0], qd 0, qd 0]) [(0, .row 48 5 c.ps.length (c.ps.flatMap PE.pv))]) :
 Fn prog f args (bgV (⟨true, [], c, ⟨#[]⟩, 0⟩, 0, 0)) [] :=
 zit (l := [.agg [qf true, qm, qc c.key, qd c.port, ql c.ps.length 5 (c.ps.flatMap PE.pv), qc ⟨#[]⟩, qd 0], qd 0, qd 0]) (zi7 h rfl rfl)
  ⟨.inr ⟨_, _, rfl, rfl, .inl rfl, .inr ⟨5, rfl, rfl⟩, .inl rfl, .inl rfl, .inl rfl, .inl rfl, .inl rfl, trivial⟩, .inl (.inl rfl), .inl (.inl rfl), trivial⟩
theorem bg_ok {f : FuncId} {args : List AV} {c : CF} {l : List SE} (h : Fn prog f args (.tup [.agg [qf true, .row 1, qc c.key, qd c.port, .row 0, qc ⟨#[]⟩, qd 0], qd 0, qd 0]) [(0, .row 48 5 c.ps.length (c.ps.flatMap PE.pv)), (1, .row 107 5 l.length (l.flatMap SE.pv))]) :
 Fn prog f args (bgV (⟨true, l, c, ⟨#[]⟩, 0⟩, 0, 0)) [] := zi7 h rfl rfl
theorem beginD_s (c : CF) (ok : c.OK) (s : ByteArray) : Fn prog 28 [.agg c.cells, qc s] (bgV (bgE c s)) [] := by
 unfold bgE
 by_cases h0 : cfE c ≠ 0
 ·rw [if_pos h0]; exact bg_bad (begin_bad c ok s h0)
 rw [if_neg h0]
 have h0 : cfE c = 0 := qbk.1 h0
 cases hs : bpO s with
 | none => exact bg_ok (begin_ok c ok s h0 hs)
 | some q =>
  obtain ⟨n, e⟩ := q
  dsimp only
  by_cases he : e ≠ 0
  ·rw [if_pos he]; exact bg_bad (begin_bad2 c ok s h0 n e hs he)
  ·rw [if_neg he]
   obtain ⟨rfl, rfl⟩ := (bpO_some hs).resolve_left he
   exact bg_nil (begin_nil c ok s h0 hs)
theorem refBeginD_s (c : CF) (ok : c.OK) (s : ByteArray) : Fn prog 30 [.agg c.cells, qc s] (bgV (bgE c s)) [] := by
 unfold bgE
 by_cases h0 : cfE c ≠ 0
 ·rw [if_pos h0]; exact bg_bad (refBegin_bad c ok s h0)
 rw [if_neg h0]
 have h0 : cfE c = 0 := qbk.1 h0
 cases hs : bpO s with
 | none => exact bg_ok (refBegin_ok c ok s h0 hs)
 | some q =>
  obtain ⟨n, e⟩ := q
  dsimp only
  by_cases he : e ≠ 0
  ·rw [if_pos he]; exact bg_bad (refBegin_bad2 c ok s h0 n e hs he)
  ·rw [if_neg he]
   obtain ⟨rfl, rfl⟩ := (bpO_some hs).resolve_left he
   exact bg_nil (refBegin_nil c ok s h0 hs)
theorem bg_q {c : CF} (ok : c.OK) (s : ByteArray) : (bgE c s).1.rest.length ≤ 1048576 ∧ (bgE c s).1.c.OK := by
 have hz : zsg.rest.length ≤ 1048576 ∧ zsg.c.OK := ⟨qb6 _, cf0_ok⟩
 unfold bgE
 by_cases h0 : cfE c ≠ 0
 ·rw [if_pos h0]; exact hz
 rw [if_neg h0]
 cases hs : bpO s with
 | none =>
  refine ⟨?_, ok⟩
  have hn : spO s = none := by
   unfold bpO at hs
   cases hq : spO s with
   | none => rfl
   | some q => rw [hq] at hs; cases hs
  have h1 := (ziK hn).2
  show (((spl s 10).map lnOf).map rdS).length ≤ 1048576
  rw [qbu, qbu, zcJ]
  omega
 | some q =>
  obtain ⟨n, e⟩ := q
  dsimp only
  by_cases he : e ≠ 0
  ·rw [if_pos he]; exact hz
  ·rw [if_neg he]; exact ⟨qb6 _, ok⟩
noncomputable def dgE (d : DM) (s : ByteArray) : DM × Int × Int := if dmE d ≠ 0 then (dm0, 0, dmE d) else if d.sg.lv = true then (dm0, 0, 6) else if (bgE d.c s).2.2 ≠ 0 then (dm0, (bgE d.c s).2.1, (bgE d.c s).2.2) else ({ d with sg := (bgE d.c s).1 }, 0, 0)
noncomputable def dsE (d : DM) (n : Int) : DM × Int := if dmE d ≠ 0 then (dm0, dmE d) else if (svE d.sg n).2 ≠ 0 then (dm0, (svE d.sg n).2) else ({ d with sg := (svE d.sg n).1 }, 0)
noncomputable def ddE (d : DM) : DM × Int := if dmE d ≠ 0 then (dm0, dmE d) else if d.sg.lv = false then (dm0, 13) else ({ d with sg := dm0.sg }, 0)
theorem q_with {d : DM} (ok : d.OK) {s : SG} (h : s.rest.length ≤ 1048576 ∧ s.c.OK) : DM.Q { d with sg := s } := ⟨ok.c, ok.treeN, fun s hs => (ok.ps s hs).2, ok.psN, h.1, h.2⟩
theorem dgE_q {d : DM} (ok : d.OK) (s : ByteArray) : (dgE d s).1.Q := by
 unfold dgE
 split
 ·exact zhT.q
 ·split
  ·exact zhT.q
  ·split
   ·exact zhT.q
   ·exact q_with ok (bg_q ok.c s)
theorem dsE_q {d : DM} (ok : d.OK) (n : Int) : (dsE d n).1.Q := by
 unfold dsE
 split
 ·exact zhT.q
 ·split
  ·exact zhT.q
  ·exact q_with ok (stE_ok ok.sg n)
theorem ddE_q {d : DM} (ok : d.OK) : (ddE d).1.Q := by
 unfold ddE
 split
 ·exact zhT.q
 ·split
  ·exact zhT.q
  ·exact q_with ok ⟨qb6 _, cf0_ok⟩
def dgV (b : DM × Int × Int) : AV := .tup [.agg b.1.cells, qd b.2.1, qd b.2.2]
def dsV (b : DM × Int) : AV := .tup [.agg b.1.cells, qd b.2]
theorem dg_of {f : FuncId} {args : List AV} {d : DM} {s : ByteArray} (h : Fn prog f args (if dmE d ≠ 0 then .tup [.agg zdmC, qd 0, qd (dmE d)] else if d.sg.lv = true then .tup [.agg zdmC, qd 0, qd 6] else if (bgE d.c s).2.2 ≠ 0 then .tup [.agg zdmC, qd (bgE d.c s).2.1, qd (bgE d.c s).2.2] else .tup [.agg (DM.cells { d with sg := (bgE d.c s).1 }), qd 0, qd 0]) []) : Fn prog f args (dgV (dgE d s)) [] := by
 have hz : ∀ {n e : Int}, Fn prog f args (.tup [.agg zdmC, qd n, qd e]) [] → Fn prog f args (dgV (dm0, n, e)) [] := fun k => zit k ⟨.inr ⟨_, _, rfl, rfl, zdm_nz⟩, .inl (.inl rfl), .inl (.inl rfl), trivial⟩
 unfold dgE
 by_cases h0 : dmE d ≠ 0
 ·rw [if_pos h0] at h ⊢; exact hz h
 rw [if_neg h0] at h ⊢
 by_cases h1 : d.sg.lv = true
 ·rw [if_pos h1] at h ⊢; exact hz h
 rw [if_neg h1] at h ⊢
 by_cases h2 : (bgE d.c s).2.2 ≠ 0
 ·rw [if_pos h2] at h ⊢; exact hz h
 rw [if_neg h2] at h ⊢
 exact h
theorem ds_of {f : FuncId} {args : List AV} {d : DM} {n : Int} (h : Fn prog f args (if dmE d ≠ 0 then .tup [.agg zdmC, qd (dmE d)] else if (svE d.sg n).2 ≠ 0 then .tup [.agg zdmC, qd (svE d.sg n).2] else .tup [.agg (DM.cells { d with sg := (svE d.sg n).1 }), qd 0]) []) : Fn prog f args (dsV (dsE d n)) [] := by
 have hz : ∀ {e : Int}, Fn prog f args (.tup [.agg zdmC, qd e]) [] → Fn prog f args (dsV (dm0, e)) [] := fun k => zit k ⟨.inr ⟨_, _, rfl, rfl, zdm_nz⟩, .inl (.inl rfl), trivial⟩
 unfold dsE
 by_cases h0 : dmE d ≠ 0
 ·rw [if_pos h0] at h ⊢; exact hz h
 rw [if_neg h0] at h ⊢
 by_cases h2 : (svE d.sg n).2 ≠ 0
 ·rw [if_pos h2] at h ⊢; exact hz h
 rw [if_neg h2] at h ⊢
 exact h
theorem dd_of {f : FuncId} {args : List AV} {d : DM} (h : Fn prog f args (if dmE d ≠ 0 then .tup [.agg zdmC, qd (dmE d)] else if d.sg.lv = false then .tup [.agg zdmC, qd 13] else .tup [.agg (dmC d.c.key d.c.port d.c.row (ndsV d.tree) (stsV d.ps) false (.v (.slice none 0 0)) ⟨#[]⟩ 0 (.v (.slice none 0 0)) ⟨#[]⟩ 0 d.gen d.now d.last), qd 0]) []) : Fn prog f args (dsV (ddE d)) [] := by
 have hz : ∀ {e : Int}, Fn prog f args (.tup [.agg zdmC, qd e]) [] → Fn prog f args (dsV (dm0, e)) [] := fun k => zit k ⟨.inr ⟨_, _, rfl, rfl, zdm_nz⟩, .inl (.inl rfl), trivial⟩
 unfold ddE
 by_cases h0 : dmE d ≠ 0
 ·rw [if_pos h0] at h ⊢; exact hz h
 rw [if_neg h0] at h ⊢
 by_cases h2 : d.sg.lv = false
 ·rw [if_pos h2] at h ⊢; exact hz h
 rw [if_neg h2] at h ⊢
 exact zit h ⟨.inr ⟨_, _, rfl, rfl, .inl rfl, .inl rfl, .inl rfl, .inl rfl, .inl rfl, .inl rfl, .inr ⟨5, rfl, rfl⟩, .inl rfl, .inl rfl, .inr ⟨5, rfl, rfl⟩, .inl rfl, .inl rfl, .inl rfl, .inl rfl, .inl rfl, trivial⟩, .inl (.inl rfl), trivial⟩
theorem dbegin_s (d : DM) (ok : d.OK) (s : ByteArray) : Fn prog 8 [.agg d.cells, qc s] (dgV (dgE d s)) [] :=
 dg_of (begin_w _ _ _ _ _ _ _ _ _ _ _ _ _ _ _ s (dmE d) (zhS d ok) (zhR d ok) _ _ _ _ _ _ _ _ _ (beginD_s d.c ok.c s))
theorem rdbegin_s (d : DM) (ok : d.OK) (s : ByteArray) : Fn prog 11 [.agg d.cells, qc s] (dgV (dgE d s)) [] :=
 dg_of (rbegin_w _ _ _ _ _ _ _ _ _ _ _ _ _ _ _ s (dmE d) (refDm_s d ok) (zgi d ok) _ _ _ _ _ _ _ _ _ (refBeginD_s d.c ok.c s))
theorem dstep_s (d : DM) (ok : d.OK) (n : Int) (n0 : -9223372036854775808 ≤ n) (n1 : n ≤ 9223372036854775807) : Fn prog 9 [.agg d.cells, qd n] (dsV (dsE d n)) [] :=
 ds_of (step_w _ _ _ _ _ _ _ _ _ _ _ _ _ _ _ n (dmE d) (zhS d ok) (zhR d ok) _ _ _ _ _ _ _ _ (stepD_s d.sg ok.sg n n0 n1))
theorem rdstep_s (d : DM) (ok : d.OK) (n : Int) (n0 : -9223372036854775808 ≤ n) (n1 : n ≤ 9223372036854775807) : Fn prog 12 [.agg d.cells, qd n] (dsV (dsE d n)) [] :=
 ds_of (rstep_w _ _ _ _ _ _ _ _ _ _ _ _ _ _ _ n (dmE d) (refDm_s d ok) (zgi d ok) _ _ _ _ _ _ _ _ (refStepD_s d.sg ok.sg n n0 n1))
theorem ddisc_s (d : DM) (ok : d.OK) : Fn prog 10 [.agg d.cells] (dsV (ddE d)) [] :=
 dd_of (disc_w _ _ _ _ _ _ _ _ _ _ _ _ _ _ _ (dmE d) (zhS d ok) (zhR d ok))
theorem rddisc_s (d : DM) (ok : d.OK) : Fn prog 13 [.agg d.cells] (dsV (ddE d)) [] :=
 dd_of (rdisc_w _ _ _ _ _ _ _ _ _ _ _ _ _ _ _ (dmE d) (refDm_s d ok) (zgi d ok))
theorem zha (d : DM) : ∃ k p P T S lv R sk sp Q a e g w l, d.cells = dmC k p P T S lv R sk sp Q a e g w l := ⟨_, _, _, _, _, _, _, _, _, _, _, _, _, _, _, rfl⟩
theorem law_DaemonBegins (x0 : List PV) (ty0 : Ty prog 10 32 x0) (hb0 : PV.bdL 1048576 x0) (x1 : List PV) (ty1 : Ty prog 10 9 x1) (hb1 : PV.bdL 1048576 x1) (x2 : List PV) (ty2 : Ty prog 10 3 x2) (hb2 : PV.bdL 1048576 x2) :
 Fn prog 4 [argAV true x0, argAV false x1, argAV false x2] (qf true) [] := by
 obtain ⟨d, od, rfl⟩ := DM.of_ty ty0 hb0
 obtain ⟨s, rfl, _⟩ := zbD U9 ty1
 obtain ⟨n, rfl, hn⟩ := zbz U3 ty2
 obtain ⟨n0, n1⟩ := zeS hn
 change Fn prog _ [.agg d.cells, qc s, qd n] _ _
 have p1 := dbegin_s d od s
 have q1 := rdbegin_s d od s
 have p2 := dstep_s d od n n0 n1
 have q2 := rdstep_s d od n n0 n1
 have p3 := ddisc_s d od
 have q3 := rddisc_s d od
 have s1 := zej _ _ (dgE_q od s) (dgE_q od s)
 have s2 := zej _ _ (dsE_q od n) (dsE_q od n)
 have s3 := zej _ _ (ddE_q od) (ddE_q od)
 rw [dmB_self] at s1 s2 s3
 generalize dgE d s = x at *
 generalize dsE d n = y at *
 generalize ddE d = z at *
 obtain ⟨x, n3, e3⟩ := x
 obtain ⟨y, e4⟩ := y
 obtain ⟨z, e5⟩ := z
 dsimp only [dgV, dsV] at p1 p2 p3 q1 q2 q3 s1 s2 s3
 obtain ⟨k0, p0, P0, T0, S0, v0, R0, sk0, sp0, Q0, a0, r0, g0, w0, l0, hx0⟩ := zha d
 obtain ⟨k1, p1', P1, T1, S1, v1, R1, sk1, sp1, Q1, a1, r1, g1, w1, l1, hx1⟩ := zha x
 obtain ⟨k2, p2', P2, T2, S2, v2, R2, sk2, sp2, Q2, a2, r2, g2, w2, l2, hx2⟩ := zha y
 obtain ⟨k3, p3', P3, T3, S3, v3, R3, sk3, sp3, Q3, a3, r3, g3, w3, l3, hx3⟩ := zha z
 rw [hx0] at p1 p2 p3 q1 q2 q3 ⊢
 rw [hx1] at p1 q1 s1
 rw [hx2] at p2 q2 s2
 rw [hx3] at p3 q3 s3
 clear hx0 hx1 hx2 hx3 od hb0 ty0 hb1 ty1 hb2 ty2 hn
 refine zcr func4 rfl (qbe rfl) fun w0 A => ?_
 refine zal (tx (jfc (a_box (X := .agg _) 3 rfl) ?_))
 refine jeN ?_
 refine jdJ ?_
 refine zay (fun n => 24 + 1000 * n) (p1) rfl rfl func8 rfl rfl qw rfl rfl rfl qq rfl rfl rfl ?_
 refine jeR ?_
 refine jee ?_
 refine jfc (zaW 7 zr32 rfl) ?_
 refine jdA ?_
 refine aP rfl rfl ?_
 refine jeN ?_
 refine jdJ ?_
 refine zay (fun n => 31 + 1000 * n) (p2) rfl rfl func9 rfl rfl qw rfl rfl rfl qq rfl rfl rfl ?_
 refine jeR ?_
 refine jfc (zaW 10 zr32 rfl) ?_
 refine jdA ?_
 refine jeN ?_
 refine zay (fun n => 36 + 1000 * n) (p3) rfl rfl func10 rfl rfl qw rfl rfl rfl qq rfl rfl rfl ?_
 refine jeR ?_
 refine jfc (zaW 12 zr32 rfl) ?_
 refine jdA ?_
 refine jeN ?_
 refine jdJ ?_
 refine zay (fun n => 42 + 1000 * n) (q1) rfl rfl func11 rfl rfl qw rfl rfl rfl qq rfl rfl rfl ?_
 refine jeR ?_
 refine jee ?_
 refine jfc (zaW 14 zr32 rfl) ?_
 refine jdA ?_
 refine aP rfl rfl ?_
 refine jeN ?_
 refine jdJ ?_
 refine zay (fun n => 49 + 1000 * n) (q2) rfl rfl func12 rfl rfl qw rfl rfl rfl qq rfl rfl rfl ?_
 refine jeR ?_
 refine jfc (zaW 17 zr32 rfl) ?_
 refine jdA ?_
 refine jeN ?_
 refine zay (fun n => 54 + 1000 * n) (q3) rfl rfl func13 rfl rfl qw rfl rfl rfl qq rfl rfl rfl ?_
 refine jeR ?_
 refine jfc (zaW 19 zr32 rfl) ?_
 refine jdA ?_
 refine jeN ?_
 refine jdY ?_
 refine zay (fun n => 59 + 1000 * n) (s1) rfl rfl func7 rfl rfl qw rfl rfl rfl qq rfl rfl rfl ?_
 refine jeV ?_
 refine jeV ?_
 refine jdJ ?_
 refine jdY ?_
 refine jdY ?_
 refine zay (fun n => 73 + 1000 * n) (s2) rfl rfl func7 rfl rfl qw rfl rfl rfl qq rfl rfl rfl ?_
 refine jfb zfn ?_
 refine jeV ?_
 refine jdJ ?_
 refine jdY ?_
 refine jdY ?_
 refine zay (fun n => 83 + 1000 * n) (s3) rfl rfl func7 rfl rfl qw rfl rfl rfl qq rfl rfl rfl ?_
 refine jfb zfn ?_
 refine jeV ?_
 refine aP rfl rfl ?_
 refine zaf (zaA ?_)
 exact jcC
end Go.Proofs.YtlfjpippeeikdaaGreatDoor
