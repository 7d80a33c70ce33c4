/- The reference's ApplyOne, over data: a net is moved. -/
import Derived.Test.YtlfjpippeeikdaaGreatDoorSAr1
set_option linter.all false
namespace Go.Proofs.YtlfjpippeeikdaaGreatDoor
open Tryz
open Go.RowKit Go.Sort
set_option maxHeartbeats 16000000
set_option maxRecDepth 100000
def gC (f : Nat → PE → List AV) : Nat → List PE → List AV
 | _, [] => []
 | k, p :: l => f k p ++ gC f (k + 1) l
theorem zfu {f : Nat → PE → List AV} (hf : ∀ k p, (f k p).length = 5) : ∀ (l : List PE) (k : Nat), (gC f k l).length = l.length * 5
 | [], k => rfl
 | p :: l, k => by rw [gC, qaC, hf, zfu hf l, qaO]; omega
theorem zix {f : Nat → PE → List AV} (hf : ∀ k p, (f k p).length = 5) (q : Nat) (hq : q < 5) : ∀ (l : List PE) (k j : Nat), (h : j < l.length) → (gC f k l)[j * 5 + q]? = (f (k + j) l[j])[q]?
 | p :: l, k, 0, _ => by rw [gC, List.getElem?_append_left (by rw [hf]; omega)]; simp
 | p :: l, k, j + 1, h => by
  rw [gC, qbo (by rw [hf]; omega), hf, show (j + 1) * 5 + q - 5 = j * 5 + q by omega, zix hf q hq l (k + 1) j (by simpa using h), show k + 1 + j = k + (j + 1) by omega]
  simp
theorem gC_congr {f f' : Nat → PE → List AV} : ∀ (l : List PE) (k : Nat), (∀ i, (h : i < l.length) → f (k + i) l[i] = f' (k + i) l[i]) → gC f k l = gC f' k l
 | [], k, _ => rfl
 | p :: l, k, h => by
  have h0 := h 0 qz
  have ih := gC_congr (f := f) (f' := f') l (k + 1) fun i hi => by
   have := h (i + 1) qaj
   rw [show k + (i + 1) = k + 1 + i by omega] at this
   simpa using this
  show f k p ++ gC f (k + 1) l = f' k p ++ gC f' (k + 1) l
  rw [ih]
  congr 1
theorem zgp {f f' : Nat → PE → List AV} (hf : ∀ k p, (f k p).length = 5) (q : Nat) (hq : q < 5) (x : AV) : ∀ (l : List PE) (k j : Nat), (h : j < l.length) → f' (k + j) l[j] = setR (f (k + j) l[j]) q [x] → (∀ i, (hi : i < l.length) → i ≠ j → f' (k + i) l[i] = f (k + i) l[i]) → setR (gC f k l) (j * 5 + q) [x] = gC f' k l
 | p :: l, k, 0, _, h1, h2 => by
  have e1 : f' k p = setR (f k p) q [x] := h1
  have e2 : gC f' (k + 1) l = gC f (k + 1) l := gC_congr l (k + 1) fun i hi => by
   have := h2 (i + 1) qaj qk
   rw [show k + (i + 1) = k + 1 + i by omega] at this
   simpa using this
  rw [gC, gC, e1, e2]
  have h5 := hf k p
  generalize f k p = X at *
  generalize gC f (k + 1) l = Y at *
  unfold setR
  rw [qa3 (by omega), List.drop_append_of_le_length (by simp; omega)]
  simp [qaY]
 | p :: l, k, j + 1, h, h1, h2 => by
  have e1 : f' k p = f k p := h2 0 qz qk
  have ih := zgp (f := f) (f' := f') hf q hq x l (k + 1) j qG (by
   rw [show k + (j + 1) = k + 1 + j by omega] at h1
   simpa using h1) fun i hi hne => by
   have := h2 (i + 1) qaj qk
   rw [show k + (i + 1) = k + 1 + i by omega] at this
   simpa using this
  rw [gC, gC, e1, ← ih]
  have h5 := hf k p
  generalize f k p = X at *
  generalize gC f (k + 1) l = Y at *
  unfold setR
  rw [List.take_append, qaN (by omega), List.drop_append, qbe (by simp; omega), qbc, h5, show (j + 1) * 5 + q - 5 = j * 5 + q by omega, show (j + 1) * 5 + q + [x].length - 5 = j * 5 + q + [x].length by simp; omega]
  simp [qaY]
theorem gC_pv : ∀ (l : List PE) (k : Nat), gC (fun _ p => p.pv.map AV.p) k l = (l.flatMap PE.pv).map AV.p
 | [], k => rfl
 | p :: l, k => by rw [gC, gC_pv l, qbb, qa4]
def fK (J : Nat) (n : NtP) (k u : Nat) (p : PE) : List AV := if u < k then (if u = J then pcA p 88 else (dnP n p).pv.map AV.p) else p.pv.map AV.p
theorem zbR (J : Nat) (n : NtP) (k u : Nat) (p : PE) : (fK J n k u p).length = 5 := by
 unfold fK; split
 ·split <;> rfl
 ·rfl
theorem zex {st : St} (t o : Nat) {e size n : Nat} {cs : List PV} (ht : st.tmps t = .row o) (h : st.heap o = .live (.row e size n cs)) :
 ReO st ⟨fun k => bif Nat.beq k t then .p (.sl n size cs) else st.tmps k, updL st.heap [(o, .dead)]⟩ := by
 rintro w0 A nt a w ⟨⟨S, m, hm, hj, hr⟩, hsz, hd⟩
 obtain ⟨v, h1, h2, h3⟩ := hm.live o _ h
 have g : Grow S m w (fun x => S x ∨ blk v = some x) m w := ⟨fun _ h => .inl h, fun _ _ => rfl, fun _ _ h => h⟩
 have hm1 := ziu hm o
 refine ⟨⟨fun x => S x ∨ blk v = some x, m, ⟨hm.bel, ?_, ?_, hm1.un, fun o' ob ho => ?_, hm1.inj, hm.gl⟩, A.up _ _ _ _ _ _ g hj, fun k => ?_⟩, hsz, hd⟩
 ·rintro x (hx | hx)
  ·exact hm.sA x hx
  ·exact .inr (h2.lt hx).1
 ·rintro x (hx | hx)
  ·exact hm.sW x hx
  ·exact (h2.lt hx).2
 ·obtain ⟨u, j1, j2, j3⟩ := hm1.live o' ob ho
  have hoo : o' ≠ o ∧ st.heap o' = .live ob := by
   exact jcv
  refine ⟨u, j1, j2.mono g fun _ _ => rfl, ?_⟩
  rintro x hx (hS | hS)
  ·exact j3 x hx hS
  ·exact hoo.1 (hm.inj _ _ _ _ _ _ _ hoo.2 h j1 h1 hx hS)
 ·by_cases e : k = t
  ·subst e
   have := hr k
   rw [ht] at this
   simp only [Rep] at this
   simp only [qbv, cond_true, Rep]
   exact zed hm (fun _ h => .inl h) h (fun v' b hv hb => by rw [h1] at hv; cases hv; exact .inr hb) this.1
  ·simp only [nbeq e, cond_false]
   exact Rep.mono g _ _ (hr k)
theorem zdI (n : NtP) (l : List NtP) (i : Nat) (h : i < l.length) : delN n (l.take (i + 1)) = delN n (l.take i) ++ (if l[i] = n then [] else [l[i]]) := by
 unfold delN
 rw [zfy _ h]
 congr 1
 by_cases e : l[i] = n <;> simp [e]
def fK2 (J : Nat) (n : NtP) (k u : Nat) (p : PE) : List AV := if u = k then pcA p 77 else fK J n k u p
theorem zf6 {ρ : Nat → Nat} : ∀ (x y : List AV), AV.renL ρ (x ++ y) = AV.renL ρ x ++ AV.renL ρ y
 | [], y => rfl
 | a :: x, y => by simp only [qa2, AV.renL, zf6 x y]
theorem pv_ren (ρ : Nat → Nat) (p : PE) : AV.renL ρ (p.pv.map AV.p) = p.pv.map AV.p := rfl
theorem gC_ren (J : Nat) (n : NtP) : ∀ (l : List PE) (u k : Nat), k = J → AV.renL (fun o => bif Nat.beq o 88 then 77 else o) (gC (fK J n (k + 1)) u l) = gC (fK2 J n k) u l
 | [], u, k, _ => rfl
 | p :: l, u, k, hk => by
  rw [gC, gC, zf6, gC_ren J n l (u + 1) k hk]
  congr 1
  unfold fK2 fK
  by_cases h1 : u = k
  ·rw [if_pos h1, if_pos (by omega), if_pos (by omega)]; rfl
  ·rw [if_neg h1, if_neg (show ¬ u = J by omega)]
   by_cases h2 : u < k
   ·rw [if_pos h2, if_pos (by omega)]; exact pv_ren _ _
   ·rw [if_neg h2, if_neg (by omega)]; exact pv_ren _ _
theorem zbx {J : Nat} {n : NtP} {k : Nat} {ρ : Nat → Nat} (h : ρ 88 = 88) : ∀ (l : List PE) (u : Nat), AV.renL ρ (gC (fK J n k) u l) = gC (fK J n k) u l
 | [], u => rfl
 | p :: l, u => by
  rw [gC, zf6, zbx h l (u + 1)]
  congr 1
  unfold fK
  split
  ·split
   ·simp only [pcA, AV.renL, AV.ren, h]
   ·exact pv_ren _ _
  ·exact pv_ren _ _
theorem zio {K : List Nat} : ∀ (x y : List AV), AV.okInL K (x ++ y) = (AV.okInL K x && AV.okInL K y)
 | [], y => rfl
 | a :: x, y => by simp only [qa2, AV.okInL, zio x y, Bool.and_assoc]
theorem zc8 {J : Nat} {n : NtP} {k : Nat} {K : List Nat} : ∀ (l : List PE) (u : Nat), AV.okInL (5 :: 6 :: 12 :: 40 :: 88 :: K) (gC (fK J n k) u l) = true
 | [], u => rfl
 | p :: l, u => by
  rw [gC, zio, zc8 l (u + 1), Bool.and_true]
  unfold fK
  split
  ·split <;> rfl
  ·rfl
theorem zbt {J : Nat} {n : NtP} {k : Nat} {K : List Nat} : ∀ (l : List PE) (u : Nat), (∀ i, i < k → i ≠ J) → AV.okInL K (gC (fK J n k) u l) = true
 | [], u, _ => rfl
 | p :: l, u, h => by
  rw [gC, zio, zbt l (u + 1) h, Bool.and_true]
  unfold fK
  split
  ·rename_i h1; rw [if_neg (h u h1)]; rfl
  ·rfl
def fK3 (J : Nat) (n : NtP) (k u : Nat) (p : PE) : List AV := if u = J then pcA p 243 else fK J n k u p
theorem pvV (fam : List (Nat × Slot)) (p : PE) : CellV fam (p.pv.map AV.p) p.pv := .p _ _ _ (.p _ _ _ (.p _ _ _ (.p _ _ _ (.p _ _ _ .nil))))
theorem gC_V0 {J m : Nat} {n : NtP} {fam : List (Nat × Slot)} {ns : List NtP} (hf : (243, Slot.live (.row 82 2 ns.length (ns.flatMap ntC))) ∈ fam) : ∀ (l l2 : List PE) (u : Nat), l2.length = l.length → u + l.length ≤ m → (∀ i, (h : i < l.length) → (h2 : i < l2.length) → l2[i] = if u + i = J then { l[i] with nets := ns } else dnP n l[i]) → CellV fam (gC (fK3 J n m) u l) (l2.flatMap PE.pv)
 | [], [], u, _, _, _ => .nil
 | [], p :: l2, u, h, _, _ => by simp at h
 | p :: l, [], u, h, _, _ => by simp at h
 | p :: l, p2 :: l2, u, h, hm, hi => by
  have h0 := hi 0 qz qz
  simp only [List.getElem_cons_zero, qbi] at h0
  rw [gC, qbb, h0]
  refine CellV.append ?_ (gC_V0 hf l l2 (u + 1) qG (by simp at hm; omega) fun i h1 h2 => by
   have := hi (i + 1) (by simpa using h1) (by simpa using h2)
   simp only [List.getElem_cons_succ] at this
   rw [show u + 1 + i = u + (i + 1) by omega]
   exact this)
  unfold fK3 fK
  by_cases e : u = J
  ·rw [if_pos e, if_pos e]
   exact .p _ _ _ (.p _ _ _ (.p _ _ _ (.p _ _ _ (.row _ _ _ _ _ _ _ hf .nil))))
  ·rw [if_neg e, if_neg e, if_pos (by simp at hm; omega), if_neg e]
   exact pvV _ _
theorem gC_V (J : Nat) (n : NtP) (l : List PE) (ns : List NtP) (hJ : J < l.length) : CellV [(243, Slot.live (.row 82 2 ns.length (ns.flatMap ntC)))] (gC (fK3 J n l.length) 0 l) (((dnL n l).set J { l[J] with nets := ns }).flatMap PE.pv) :=
 gC_V0 (ns := ns) (qbQ ..) l _ 0 (by rw [List.length_set, zbo]) qk fun i h1 h2 => by
  rw [Nat.zero_add, List.getElem_set]
  by_cases e : J = i
  ·subst e; rw [if_pos rfl, if_pos rfl]
  ·rw [if_neg e, if_neg (Ne.symm e), dnL_at n l i h1]
theorem ref10full_s (key : ByteArray) (port : Int) (l : List PE) (ok : CF.OK ⟨key, port, l⟩) (pt : ByteArray) (t : ByteArray) (n a b : Int) (sok : SE.OK ⟨10, t, n, a, b⟩) (hc0 : cfE ⟨key, port, l⟩ = 0) (hs0 : seE ⟨10, t, n, a, b⟩ = 0) (h0 : pt ≠ ⟨#[]⟩) (h : peN pt l < l.length) (h8 : 7 < (delN (a, b) l[peN pt l].nets).length) : Fn prog 65 [.agg (CF.cells ⟨key, port, l⟩), qc pt, .agg (SE.cells ⟨10, t, n, a, b⟩)] (.tup [.agg [qc ⟨#[]⟩, qd 0, qj], qc ⟨#[]⟩, qd 7]) [] := by
 have hC := zaX ⟨key, port, l⟩ ok
 rw [hc0] at hC
 have hS := zaY ⟨10, t, n, a, b⟩ sok
 rw [hs0] at hS
 have hK := za8 ⟨key, port, l⟩ ok
 have hA := zaL ⟨key, port, l⟩ ok t
 have hA2 := zaL ⟨key, port, l⟩ ok pt
 have hn := ok.len
 dsimp only at hn
 change Fn prog _ [.agg (cfC key port l.length (l.flatMap PE.pv))] _ _ at hC hK
 change Fn prog _ [.agg (cfC key port l.length (l.flatMap PE.pv)), _] (qd (peN t l : Nat)) _ at hA
 change Fn prog _ [.agg (cfC key port l.length (l.flatMap PE.pv)), _] (qd (peN pt l : Nat)) _ at hA2
 change Fn prog _ [.agg [qd 10, qc t, qd n, qe a, qd b]] _ _ at hS
 refine jdD ?_
 have hok := ok.ps
 dsimp only at hok
 have hN := zeR (7)
 change Fn prog _ _ (.tup [.agg [qc ⟨#[]⟩, qd 0, qj], qc ⟨#[]⟩, qd 7]) _ at hN
 generalize peN pt l = U at *
 clear ok sok hc0 hs0
 generalize peN t l = T at *
 refine fnI fun w0 A => ?_
 refine G [16] ?_
 refine cK hC ?_
 refine G [5, 1, 7] ?_
 refine cK hS ?_
 refine G [5, 1, 6] ?_
 refine zaM (fun _ => 40) (hK) rfl rfl F63 rfl rfl qr rfl rfl rfl ql rfl rfl rfl ?_
 refine G [3] ?_
 refine jcR ?_
 refine G [5] ?_
 refine cV hA ?_
 refine G [8] ?_
 refine jcX ?_
 refine G [11] ?_
 (first | refine zaa zbC rfl rfl ?_ | refine zaa za9 rfl rfl ?_)
 refine G [5] ?_
 (first | refine zaa zbC rfl rfl ?_ | refine zaa za9 rfl rfl ?_)
 refine G [5] ?_
 (first | refine zaa zbC rfl rfl ?_ | refine zaa za9 rfl rfl ?_)
 refine G [5] ?_
 (first | refine zaa zbC rfl rfl ?_ | refine zaa za9 rfl rfl ?_)
 refine G [8] ?_
 refine cV hA2 ?_
 refine G [6, 3, 5, 3, 13] ?_
 (first | refine zaa zbC rfl rfl ?_ | refine zaa za9 rfl rfl ?_)
 refine G [5] ?_
 (first | refine zaa zbC rfl rfl ?_ | refine zaa za9 rfl rfl ?_)
 refine G [5] ?_
 (first | refine zaa zbC rfl rfl ?_ | refine zaa za9 rfl rfl ?_)
 refine G [5] ?_
 (first | refine zaa zbC rfl rfl ?_ | refine zaa za9 rfl rfl ?_)
 refine G [5] ?_
 (first | refine zaa zbC rfl rfl ?_ | refine zaa za9 rfl rfl ?_)
 refine G [5, 1, 5] ?_
 refine zaZ (zef 40 rfl) ?_
 skip
 refine G [3] ?_
 refine jdZ (a_lenRA U22) ?_
 refine G [3] ?_
 have e00 : (l.flatMap PE.pv).map AV.p = gC (fK U (a, b) 0) 0 l := by rw [← gC_pv l 0]; rfl
 refine zae (fun m st => ∃ k : Nat, m + k = l.length ∧ ((k ≤ U ∧ st = St.of [(1, qc pt), (5, .ref 5 0), (6, .ref 6 0), (9, .fn 96 []), (12, .ref 12 0), (13, qd U), (186, qd l.length), (187, qd k)] [(5, .box 107 [qd 10, qc t, qd n, qe a, qd b]), (6, .box 24 [qc ⟨#[]⟩, qd 0, qj]), (12, .box 24 [qc key, qd port, .row 40]), (40, .rowA 48 5 l.length none (gC (fK U (a, b) k) 0 l))]) ∨ (U < k ∧ st = St.of [(1, qc pt), (5, .ref 5 0), (6, .ref 6 0), (9, .fn 96 []), (12, .ref 12 0), (13, qd U), (186, qd l.length), (187, qd k)] [(5, .box 107 [qd 10, qc t, qd n, qe a, qd b]), (6, .box 24 [qc ⟨#[]⟩, qd 0, qj]), (12, .box 24 [qc key, qd port, .row 40]), (40, .rowA 48 5 l.length none (gC (fK U (a, b) k) 0 l)), (88, .row 82 2 (delN (a, b) l[U].nets).length ((delN (a, b) l[U].nets).flatMap ntC))]))) l.length ?_ ?_
 ·exact jaB
 ·rintro m st ⟨k, hm, hcase⟩
  rcases hcase with ⟨hkU, rfl⟩ | ⟨hkU, rfl⟩
  ·exact jal
  ·refine G [5] ?_
   refine cX ?_ ?_ <;> intro h
   ·exact jam
   have hge : k = l.length := by simp at h; omega
   clear h
   subst hge
   have hcl := zfu (zbR U (a, b) l.length) l 0
   have hat0 := zix (zbR U (a, b) l.length) 4 qw l 0 U hkU
   have hat : (gC (fK U (a, b) l.length) 0 l)[U * 5 + 4]? = some (.row 88) := by
    rw [hat0, Nat.zero_add]
    unfold fK
    rw [if_pos hkU, if_pos rfl]
    rfl
   refine G [7] ?_
   refine jcP ?_
   refine fA zcF rfl rfl ?_
   refine jdS ?_
   refine G [1, 4, 5] ?_
   exact jbQ
theorem ref10_s (key : ByteArray) (port : Int) (l : List PE) (ok : CF.OK ⟨key, port, l⟩) (pt : ByteArray) (t : ByteArray) (n a b : Int) (sok : SE.OK ⟨10, t, n, a, b⟩) (hc0 : cfE ⟨key, port, l⟩ = 0) (hs0 : seE ⟨10, t, n, a, b⟩ = 0) (h0 : pt ≠ ⟨#[]⟩) (h : peN pt l < l.length) (h8 : ¬ 7 < (delN (a, b) l[peN pt l].nets).length) : Fn prog 65 [.agg (CF.cells ⟨key, port, l⟩), qc pt, .agg (SE.cells ⟨10, t, n, a, b⟩)] (.tup [.agg [qc key, qd port, .row 0], qc pt, qd 0]) [(0, .row 48 5 l.length (((dnL (a, b) l).set (peN pt l) { l[peN pt l] with nets := zcz gtN (delN (a, b) l[peN pt l].nets ++ [(a, b)]) }).flatMap PE.pv))] := by
 have hC := zaX ⟨key, port, l⟩ ok
 rw [hc0] at hC
 have hS := zaY ⟨10, t, n, a, b⟩ sok
 rw [hs0] at hS
 have hK := za8 ⟨key, port, l⟩ ok
 have hA := zaL ⟨key, port, l⟩ ok t
 have hA2 := zaL ⟨key, port, l⟩ ok pt
 have hn := ok.len
 dsimp only at hn
 change Fn prog _ [.agg (cfC key port l.length (l.flatMap PE.pv))] _ _ at hC hK
 change Fn prog _ [.agg (cfC key port l.length (l.flatMap PE.pv)), _] (qd (peN t l : Nat)) _ at hA
 change Fn prog _ [.agg (cfC key port l.length (l.flatMap PE.pv)), _] (qd (peN pt l : Nat)) _ at hA2
 change Fn prog _ [.agg [qd 10, qc t, qd n, qe a, qd b]] _ _ at hS
 refine jdD ?_
 have hok := ok.ps
 dsimp only at hok
 generalize peN pt l = U at *
 clear ok sok hc0 hs0
 generalize peN t l = T at *
 refine fnI fun w0 A => ?_
 refine G [16] ?_
 refine cK hC ?_
 refine G [5, 1, 7] ?_
 refine cK hS ?_
 refine G [5, 1, 6] ?_
 refine zaM (fun _ => 40) (hK) rfl rfl F63 rfl rfl qr rfl rfl rfl ql rfl rfl rfl ?_
 refine G [3] ?_
 refine jcR ?_
 refine G [5] ?_
 refine cV hA ?_
 refine G [8] ?_
 refine jcX ?_
 refine G [11] ?_
 (first | refine zaa zbC rfl rfl ?_ | refine zaa za9 rfl rfl ?_)
 refine G [17] ?_
 (first | refine zaa zbC rfl rfl ?_ | refine zaa za9 rfl rfl ?_)
 refine G [8] ?_
 refine cV hA2 ?_
 refine G [6, 3, 5, 3, 43, 1, 5] ?_
 refine zaZ (zef 40 rfl) ?_
 skip
 refine G [3] ?_
 refine jdZ (a_lenRA U22) ?_
 refine G [3] ?_
 have e00 : (l.flatMap PE.pv).map AV.p = gC (fK U (a, b) 0) 0 l := by rw [← gC_pv l 0]; rfl
 refine zae (fun m st => ∃ k : Nat, m + k = l.length ∧ ((k ≤ U ∧ st = St.of [(1, qc pt), (5, .ref 5 0), (6, .ref 6 0), (9, .fn 96 []), (12, .ref 12 0), (13, qd U), (186, qd l.length), (187, qd k)] [(5, .box 107 [qd 10, qc t, qd n, qe a, qd b]), (6, .box 24 [qc ⟨#[]⟩, qd 0, qj]), (12, .box 24 [qc key, qd port, .row 40]), (40, .rowA 48 5 l.length none (gC (fK U (a, b) k) 0 l))]) ∨ (U < k ∧ st = St.of [(1, qc pt), (5, .ref 5 0), (6, .ref 6 0), (9, .fn 96 []), (12, .ref 12 0), (13, qd U), (186, qd l.length), (187, qd k)] [(5, .box 107 [qd 10, qc t, qd n, qe a, qd b]), (6, .box 24 [qc ⟨#[]⟩, qd 0, qj]), (12, .box 24 [qc key, qd port, .row 40]), (40, .rowA 48 5 l.length none (gC (fK U (a, b) k) 0 l)), (88, .row 82 2 (delN (a, b) l[U].nets).length ((delN (a, b) l[U].nets).flatMap ntC))]))) l.length ?_ ?_
 ·exact jaB
 ·rintro m st ⟨k, hm, hcase⟩
  rcases hcase with ⟨hkU, rfl⟩ | ⟨hkU, rfl⟩
  ·exact jal
  ·refine G [5] ?_
   refine cX ?_ ?_ <;> intro h
   ·exact jam
   have hge : k = l.length := by simp at h; omega
   clear h
   subst hge
   have hcl := zfu (zbR U (a, b) l.length) l 0
   have hat0 := zix (zbR U (a, b) l.length) 4 qw l 0 U hkU
   have hat : (gC (fK U (a, b) l.length) 0 l)[U * 5 + 4]? = some (.row 88) := by
    rw [hat0, Nat.zero_add]
    unfold fK
    rw [if_pos hkU, if_pos rfl]
    rfl
   have hDl : (delN (a, b) l[U].nets).length ≤ 1048576 := qk
   refine G [7] ?_
   refine jcP ?_
   refine fA zcF rfl rfl ?_
   refine jdS ?_
   refine G [1, 3, 2] ?_
   have hSo := sortedN_s (delN (a, b) l[U].nets ++ [(a, b)]) (by rw [qaC]; simp; omega)
   have hap : (delN (a, b) l[U].nets).flatMap ntC ++ [qi a, qh b] = (delN (a, b) l[U].nets ++ [(a, b)]).flatMap ntC := by rw [qaX]; rfl
   have hSl : (zcz gtN (delN (a, b) l[U].nets ++ [(a, b)])).length = (delN (a, b) l[U].nets).length + 1 := by rw [zgW]; simp
   rw [show (delN (a, b) l[U].nets ++ [(a, b)]).length = (delN (a, b) l[U].nets).length + 1 by simp] at hSo
   obtain ⟨ns, hns⟩ : ∃ ns, zcz gtN (delN (a, b) l[U].nets ++ [(a, b)]) = ns := ⟨_, rfl⟩
   rw [hns] at hSo hSl
   rw [hns]
   have hst : setR (gC (fK U (a, b) l.length) 0 l) (U * 5 + 4) [.row 243] = gC (fK3 U (a, b) l.length) 0 l := zgp (zbR U (a, b) l.length) 4 qw (.row 243) l 0 U hkU (by
    rw [Nat.zero_add]; unfold fK fK3; rw [if_pos hkU, if_pos rfl, if_pos rfl]; rfl) (fun i hi hne => by rw [Nat.zero_add]; unfold fK3; rw [if_neg hne])
   have hV := gC_V U (a, b) l ns hkU
   obtain ⟨FV, hFV⟩ : ∃ FV, ((dnL (a, b) l).set U { l[U] with nets := ns }).flatMap PE.pv = FV := ⟨_, rfl⟩
   rw [hFV] at hV ⊢
   rw [hSl] at hV
   generalize (delN (a, b) l[U].nets).length = N at *
   generalize (delN (a, b) l[U].nets).flatMap ntC = NC at *
   generalize (delN (a, b) l[U].nets ++ [(a, b)]).flatMap ntC = NC2 at *
   generalize ns.flatMap ntC = NC3 at *
   refine G [8] ?_
   refine jcP ?_
   refine fA zcF rfl rfl ?_
   refine jdS ?_
   refine G [2] ?_
   refine jdZ (zai 241 U46 sz82 zc82 (qaA rfl) (qaA rfl) rfl rfl rfl rfl (qaA rfl)) ?_
   refine zab (zaq 242 U46 eo82 (zaU) qy qk rfl hap) rfl rfl ⟨rfl, rfl, rfl, trivial⟩ ?_
   refine r_callW (fun n => 243 + 1000 * n) (hSo) rfl rfl func98 rfl rfl rfl rfl rfl rfl rfl ql rfl rfl rfl ?_
   refine jcP ?_
   refine fA zcF rfl rfl ?_
   refine zab (zco (Y := .row 243) (es := gC (fK3 U (a, b) l.length) 0 l) sz46 rfl rfl qas hst) rfl rfl ⟨rfl, trivial⟩ ?_
   refine zag ⟨qm, ?_⟩
   refine zbd (zdP (o := 40) (fam := [(243, .live (.row 82 2 (N + 1) NC3))]) hV (by intro p hp; simp only [qaI, qbr, or_false] at hp; subst hp; rfl) rfl rfl qz) ?_
   refine G [9, 9, 0] ?_
   refine yT (fun _ => 40) ?_ ?_
   ·exact rfl
   ·exact ⟨⟨rfl, rfl⟩, trivial⟩
end Go.Proofs.YtlfjpippeeikdaaGreatDoor
