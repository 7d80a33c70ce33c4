/- The reference's ApplyOne, over data: a net is moved. -/
import Derived.Test.YtkdfdcodkeclmaaGreatDoorSAr1
namespace Go.Proofs.YtkdfdcodkeclmaaGreatDoor
open Tryz
open Go.RowKit Go.Sort
set_option linter.unusedVariables false
set_option linter.unusedSimpArgs false
set_option maxRecDepth 100000
def gC (f : Nat → PE → List AV) : Nat → List PE → List AV
 | _, [] => []
 | k, p :: l => f k p ++ gC f (k + 1) l
theorem zes {f : Nat → PE → List AV} (hf : ∀ k p, (f k p).length = 5) : ∀ (l : List PE) (k : Nat), (gC f k l).length = l.length * 5
 | [], k => rfl
 | p :: l, k => by rw [gC, List.length_append, hf, zes hf l, List.length_cons]; omega
theorem zgM {f : Nat → PE → List AV} (hf : ∀ k p, (f k p).length = 5) (q : Nat) (hq : q < 5) : ∀ (l : List PE) (k j : Nat), (h : j < l.length) → (gC f k l)[j * 5 + q]? = (f (k + j) l[j])[q]?
 | p :: l, k, 0, _ => by rw [gC, List.getElem?_append_left (by rw [hf]; omega)]; simp
 | p :: l, k, j + 1, h => by
  rw [gC, List.getElem?_append_right (by rw [hf]; omega), hf, show (j + 1) * 5 + q - 5 = j * 5 + q by omega, zgM hf q hq l (k + 1) j (by simpa using h), show k + 1 + j = k + (j + 1) by omega]
  simp
theorem gC_congr {f f' : Nat → PE → List AV} : ∀ (l : List PE) (k : Nat), (∀ i, (h : i < l.length) → f (k + i) l[i] = f' (k + i) l[i]) → gC f k l = gC f' k l
 | [], k, _ => rfl
 | p :: l, k, h => by
  have h0 := h 0 (by simp)
  have ih := gC_congr (f := f) (f' := f') l (k + 1) fun i hi => by
   have := h (i + 1) (by simpa using hi)
   rw [show k + (i + 1) = k + 1 + i by omega] at this
   simpa using this
  show f k p ++ gC f (k + 1) l = f' k p ++ gC f' (k + 1) l
  rw [ih]
  congr 1
theorem ze5 {f f' : Nat → PE → List AV} (hf : ∀ k p, (f k p).length = 5) (q : Nat) (hq : q < 5) (x : AV) : ∀ (l : List PE) (k j : Nat), (h : j < l.length) → f' (k + j) l[j] = setR (f (k + j) l[j]) q [x] → (∀ i, (hi : i < l.length) → i ≠ j → f' (k + i) l[i] = f (k + i) l[i]) → setR (gC f k l) (j * 5 + q) [x] = gC f' k l
 | p :: l, k, 0, _, h1, h2 => by
  have e1 : f' k p = setR (f k p) q [x] := h1
  have e2 : gC f' (k + 1) l = gC f (k + 1) l := gC_congr l (k + 1) fun i hi => by
   have := h2 (i + 1) (by simpa using hi) (by omega)
   rw [show k + (i + 1) = k + 1 + i by omega] at this
   simpa using this
  rw [gC, gC, e1, e2]
  have h5 := hf k p
  generalize f k p = X at *
  generalize gC f (k + 1) l = Y at *
  unfold setR
  rw [List.take_append_of_le_length (by omega), List.drop_append_of_le_length (by simp; omega)]
  simp [List.append_assoc]
 | p :: l, k, j + 1, h, h1, h2 => by
  have e1 : f' k p = f k p := h2 0 (by simp) (by omega)
  have ih := ze5 (f := f) (f' := f') hf q hq x l (k + 1) j (by simpa using h) (by
   rw [show k + (j + 1) = k + 1 + j by omega] at h1
   simpa using h1) fun i hi hne => by
   have := h2 (i + 1) (by simpa using hi) (by omega)
   rw [show k + (i + 1) = k + 1 + i by omega] at this
   simpa using this
  rw [gC, gC, e1, ← ih]
  have h5 := hf k p
  generalize f k p = X at *
  generalize gC f (k + 1) l = Y at *
  unfold setR
  rw [List.take_append, List.take_of_length_le (by omega), List.drop_append, List.drop_eq_nil_of_le (by simp; omega), List.nil_append, h5, show (j + 1) * 5 + q - 5 = j * 5 + q by omega, show (j + 1) * 5 + q + [x].length - 5 = j * 5 + q + [x].length by simp; omega]
  simp [List.append_assoc]
theorem gC_pv : ∀ (l : List PE) (k : Nat), gC (fun _ p => p.pv.map AV.p) k l = (l.flatMap PE.pv).map AV.p
 | [], k => rfl
 | p :: l, k => by rw [gC, gC_pv l, List.flatMap_cons, List.map_append]
def fK (J : Nat) (n : NtP) (k u : Nat) (p : PE) : List AV := if u < k then (if u = J then pcA p 88 else (dnP n p).pv.map AV.p) else p.pv.map AV.p
theorem zby (J : Nat) (n : NtP) (k u : Nat) (p : PE) : (fK J n k u p).length = 5 := by
 unfold fK; split
 ·split <;> rfl
 ·rfl
theorem zdx {st : St} (t o : Nat) {e size n : Nat} {cs : List PV} (ht : st.tmps t = .row o) (h : st.heap o = .live (.row e size n cs)) :
  ReO st ⟨fun k => bif Nat.beq k t then .p (.sl n size cs) else st.tmps k, updL st.heap [(o, .dead)]⟩ := by
 rintro w0 A nt a w ⟨⟨S, m, hm, hj, hr⟩, hsz, hd⟩
 obtain ⟨v, h1, h2, h3⟩ := hm.live o _ h
 have g : Grow S m w (fun x => S x ∨ blk v = some x) m w := ⟨fun _ h => .inl h, fun _ _ => rfl, fun _ _ h => h⟩
 have hm1 := zgH hm o
 refine ⟨⟨fun x => S x ∨ blk v = some x, m, ⟨hm.bel, ?_, ?_, hm1.un, fun o' ob ho => ?_, hm1.inj, hm.gl⟩, A.up _ _ _ _ _ _ g hj, fun k => ?_⟩, hsz, hd⟩
 ·rintro x (hx | hx)
  ·exact hm.sA x hx
  ·exact .inr (h2.lt hx).1
 ·rintro x (hx | hx)
  ·exact hm.sW x hx
  ·exact (h2.lt hx).2
 ·obtain ⟨u, j1, j2, j3⟩ := hm1.live o' ob ho
  have hoo : o' ≠ o ∧ st.heap o' = .live ob := by
   by_cases e : o' = o
   ·subst e; simp [updL] at ho
   ·simp only [updL, nbeq e, cond_false] at ho; exact ⟨e, ho⟩
  refine ⟨u, j1, j2.mono g fun _ _ => rfl, ?_⟩
  rintro x hx (hS | hS)
  ·exact j3 x hx hS
  ·exact hoo.1 (hm.inj _ _ _ _ _ _ _ hoo.2 h j1 h1 hx hS)
 ·by_cases e : k = t
  ·subst e
   have := hr k
   rw [ht] at this
   simp only [Rep] at this
   simp only [Nat.beq_refl, cond_true, Rep]
   exact zeH hm (fun _ h => .inl h) h (fun v' b hv hb => by rw [h1] at hv; cases hv; exact .inr hb) this.1
  ·simp only [nbeq e, cond_false]
   exact Rep.mono g _ _ (hr k)
theorem zcW (n : NtP) (l : List NtP) (i : Nat) (h : i < l.length) : delN n (l.take (i + 1)) = delN n (l.take i) ++ (if l[i] = n then [] else [l[i]]) := by
 unfold delN
 rw [zeu _ h]
 congr 1
 by_cases e : l[i] = n <;> simp [e]
def fK2 (J : Nat) (n : NtP) (k u : Nat) (p : PE) : List AV := if u = k then pcA p 77 else fK J n k u p
theorem zeQ {ρ : Nat → Nat} : ∀ (x y : List AV), AV.renL ρ (x ++ y) = AV.renL ρ x ++ AV.renL ρ y
 | [], y => rfl
 | a :: x, y => by simp only [List.cons_append, AV.renL, zeQ x y]
theorem pv_ren (ρ : Nat → Nat) (p : PE) : AV.renL ρ (p.pv.map AV.p) = p.pv.map AV.p := rfl
theorem gC_ren (J : Nat) (n : NtP) : ∀ (l : List PE) (u k : Nat), k = J → AV.renL (fun o => bif Nat.beq o 88 then 77 else o) (gC (fK J n (k + 1)) u l) = gC (fK2 J n k) u l
 | [], u, k, _ => rfl
 | p :: l, u, k, hk => by
  rw [gC, gC, zeQ, gC_ren J n l (u + 1) k hk]
  congr 1
  unfold fK2 fK
  by_cases h1 : u = k
  ·rw [if_pos h1, if_pos (by omega), if_pos (by omega)]; rfl
  ·rw [if_neg h1, if_neg (show ¬ u = J by omega)]
   by_cases h2 : u < k
   ·rw [if_pos h2, if_pos (by omega)]; exact pv_ren _ _
   ·rw [if_neg h2, if_neg (by omega)]; exact pv_ren _ _
theorem zbi {J : Nat} {n : NtP} {k : Nat} {ρ : Nat → Nat} (h : ρ 88 = 88) : ∀ (l : List PE) (u : Nat), AV.renL ρ (gC (fK J n k) u l) = gC (fK J n k) u l
 | [], u => rfl
 | p :: l, u => by
  rw [gC, zeQ, zbi h l (u + 1)]
  congr 1
  unfold fK
  split
  ·split
   ·simp only [pcA, AV.renL, AV.ren, h]
   ·exact pv_ren _ _
  ·exact pv_ren _ _
theorem zgF {K : List Nat} : ∀ (x y : List AV), AV.okInL K (x ++ y) = (AV.okInL K x && AV.okInL K y)
 | [], y => rfl
 | a :: x, y => by simp only [List.cons_append, AV.okInL, zgF x y, Bool.and_assoc]
theorem zct {J : Nat} {n : NtP} {k : Nat} {K : List Nat} : ∀ (l : List PE) (u : Nat), AV.okInL (5 :: 6 :: 12 :: 40 :: 88 :: K) (gC (fK J n k) u l) = true
 | [], u => rfl
 | p :: l, u => by
  rw [gC, zgF, zct l (u + 1), Bool.and_true]
  unfold fK
  split
  ·split <;> rfl
  ·rfl
theorem zbd {J : Nat} {n : NtP} {k : Nat} {K : List Nat} : ∀ (l : List PE) (u : Nat), (∀ i, i < k → i ≠ J) → AV.okInL K (gC (fK J n k) u l) = true
 | [], u, _ => rfl
 | p :: l, u, h => by
  rw [gC, zgF, zbd l (u + 1) h, Bool.and_true]
  unfold fK
  split
  ·rename_i h1; rw [if_neg (h u h1)]; rfl
  ·rfl
def fK3 (J : Nat) (n : NtP) (k u : Nat) (p : PE) : List AV := if u = J then pcA p 243 else fK J n k u p
theorem pvV (fam : List (Nat × Slot)) (p : PE) : CellV fam (p.pv.map AV.p) p.pv := .p _ _ _ (.p _ _ _ (.p _ _ _ (.p _ _ _ (.p _ _ _ .nil))))
theorem gC_V0 {J m : Nat} {n : NtP} {fam : List (Nat × Slot)} {ns : List NtP} (hf : (243, Slot.live (.row 27 2 ns.length (ns.flatMap ntC))) ∈ fam) : ∀ (l l2 : List PE) (u : Nat), l2.length = l.length → u + l.length ≤ m → (∀ i, (h : i < l.length) → (h2 : i < l2.length) → l2[i] = if u + i = J then { l[i] with nets := ns } else dnP n l[i]) → CellV fam (gC (fK3 J n m) u l) (l2.flatMap PE.pv)
 | [], [], u, _, _, _ => .nil
 | [], p :: l2, u, h, _, _ => by simp at h
 | p :: l, [], u, h, _, _ => by simp at h
 | p :: l, p2 :: l2, u, h, hm, hi => by
  have h0 := hi 0 (by simp) (by simp)
  simp only [List.getElem_cons_zero, Nat.add_zero] at h0
  rw [gC, List.flatMap_cons, h0]
  refine CellV.append ?_ (gC_V0 hf l l2 (u + 1) (by simpa using h) (by simp at hm; omega) fun i h1 h2 => by
   have := hi (i + 1) (by simpa using h1) (by simpa using h2)
   simp only [List.getElem_cons_succ] at this
   rw [show u + 1 + i = u + (i + 1) by omega]
   exact this)
  unfold fK3 fK
  by_cases e : u = J
  ·rw [if_pos e, if_pos e]
   exact .p _ _ _ (.p _ _ _ (.p _ _ _ (.p _ _ _ (.row _ _ _ _ _ _ _ hf .nil))))
  ·rw [if_neg e, if_neg e, if_pos (by simp at hm; omega), if_neg e]
   exact pvV _ _
theorem gC_V (J : Nat) (n : NtP) (l : List PE) (ns : List NtP) (hJ : J < l.length) : CellV [(243, Slot.live (.row 27 2 ns.length (ns.flatMap ntC)))] (gC (fK3 J n l.length) 0 l) (((dnL n l).set J { l[J] with nets := ns }).flatMap PE.pv) :=
 gC_V0 (ns := ns) (List.mem_cons_self ..) l _ 0 (by rw [List.length_set, zbc]) (by omega) fun i h1 h2 => by
  rw [Nat.zero_add, List.getElem_set]
  by_cases e : J = i
  ·subst e; rw [if_pos rfl, if_pos rfl]
  ·rw [if_neg e, if_neg (Ne.symm e), dnL_at n l i h1]
set_option maxHeartbeats 16000000 in
theorem ref10full_s (key : ByteArray) (port : Int) (l : List PE) (ok : CF.OK ⟨key, port, l⟩) (pt : ByteArray) (t : ByteArray) (n a b : Int) (sok : SE.OK ⟨10, t, n, a, b⟩) (hc0 : cfE ⟨key, port, l⟩ = 0) (hs0 : seE ⟨10, t, n, a, b⟩ = 0) (h0 : pt ≠ ⟨#[]⟩) (h : peN pt l < l.length) (h8 : 7 < (delN (a, b) l[peN pt l].nets).length) : Fn prog 8 [.agg (CF.cells ⟨key, port, l⟩), .p (.v (.string pt)), .agg (SE.cells ⟨10, t, n, a, b⟩)] (.tup [.agg [.p (.v (.string ⟨#[]⟩)), .p (.v (.int .i64 0)), .p (.v (.slice none 0 0))], .p (.v (.string ⟨#[]⟩)), .p (.v (.int .i64 7))]) [] := by
 have hC := zaO ⟨key, port, l⟩ ok
 rw [hc0] at hC
 have hS := zaK ⟨10, t, n, a, b⟩ sok
 rw [hs0] at hS
 have hK := za0 ⟨key, port, l⟩ ok
 have hA := zaD ⟨key, port, l⟩ ok t
 have hA2 := zaD ⟨key, port, l⟩ ok pt
 have hn := ok.len
 dsimp only at hn
 change Fn prog _ [.agg (cfC key port l.length (l.flatMap PE.pv))] _ _ at hC hK
 change Fn prog _ [.agg (cfC key port l.length (l.flatMap PE.pv)), _] (.p (.v (.int .i64 (peN t l : Nat)))) _ at hA
 change Fn prog _ [.agg (cfC key port l.length (l.flatMap PE.pv)), _] (.p (.v (.int .i64 (peN pt l : Nat)))) _ at hA2
 change Fn prog _ [.agg [.p (.v (.int .i64 10)), .p (.v (.string t)), .p (.v (.int .i64 n)), .p (.v (.int .u32 a)), .p (.v (.int .i64 b))]] _ _ at hS
 show Fn prog _ [.agg (cfC key port l.length (l.flatMap PE.pv)), _, .agg [.p (.v (.int .i64 10)), .p (.v (.string t)), .p (.v (.int .i64 n)), .p (.v (.int .u32 a)), .p (.v (.int .i64 b))]] _ _
 have hok := ok.ps
 dsimp only at hok
 have hN := zdR (7)
 change Fn prog _ _ (.tup [.agg [.p (.v (.string ⟨#[]⟩)), .p (.v (.int .i64 0)), .p (.v (.slice none 0 0))], .p (.v (.string ⟨#[]⟩)), .p (.v (.int .i64 7))]) _ at hN
 generalize peN pt l = U at *
 clear ok sok hc0 hs0
 generalize peN t l = T at *
 refine fnI fun w0 A => ?_
 refine G [16] ?_
 refine cK hC ?_
 refine G [5, 1, 7] ?_
 refine cK hS ?_
 refine G [5, 1, 6] ?_
 refine zaw (fun _ => 40) (hK) rfl rfl F26 rfl rfl (by first | rfl | simp [AV.okInL, AV.okIn, zaj]) rfl rfl rfl (by first | exact trivial | exact ⟨rfl, trivial⟩ | exact ⟨rfl, rfl, trivial⟩ | exact ⟨rfl, rfl, rfl, rfl, rfl, trivial⟩) rfl rfl rfl ?_
 refine G [3] ?_
 refine zaH (zaM (zak id [(1, .p (.v (.string pt))), (3, .ref 3 0), (5, .ref 5 0), (6, .ref 6 0), (9, .fn 23 []), (12, .ref 12 0)] [(3, .box 24 (cfC key port l.length (l.flatMap PE.pv))), (5, .box 29 [.p (.v (.int .i64 10)), .p (.v (.string t)), .p (.v (.int .i64 n)), .p (.v (.int .u32 a)), .p (.v (.int .i64 b))]), (6, .box 24 [.p (.v (.string ⟨#[]⟩)), .p (.v (.int .i64 0)), .p (.v (.slice none 0 0))]), (12, .box 24 [.p (.v (.string key)), .p (.v (.int .i64 port)), .row 40]), (40, .row 60 5 l.length (l.flatMap PE.pv))] (by repeat (first | exact trivial | refine ⟨⟨rfl, rfl⟩, ?_⟩)) (by repeat (first | exact trivial | refine ⟨⟨rfl, rfl⟩, ?_⟩)) rfl) ?_)
 refine G [5] ?_
 refine cV hA ?_
 refine G [7] ?_
 refine zac (zaG U22) rfl rfl ⟨rfl, trivial⟩ ?_
 refine zaa (zaN (c := decide (T < l.length)) (by first | (simp; done) | (simp; omega))) rfl rfl ?_
 refine G [11] ?_
 (first | refine zaa zbp rfl rfl ?_ | refine zaa zaY rfl rfl ?_)
 refine G [5] ?_
 (first | refine zaa zbp rfl rfl ?_ | refine zaa zaY rfl rfl ?_)
 refine G [5] ?_
 (first | refine zaa zbp rfl rfl ?_ | refine zaa zaY rfl rfl ?_)
 refine G [5] ?_
 (first | refine zaa zbp rfl rfl ?_ | refine zaa zaY rfl rfl ?_)
 refine G [8] ?_
 refine cV hA2 ?_
 refine G [6] ?_
 refine zaa (zah (c := false) (by simp [h0])) rfl rfl ?_
 refine mP rfl rfl ?_
 (first | refine mP rfl rfl ?_ | refine za1 rfl ?_)
 (first | refine fA zfV rfl rfl ?_ | refine za1 rfl ?_)
 (first | refine l1 U22 rfl rfl rfl ⟨rfl, trivial⟩ ?_ | refine za1 rfl ?_)
 (first | refine zac (zaG U22) rfl rfl ⟨rfl, trivial⟩ ?_ | refine za1 rfl ?_)
 refine zaa (zaA (c := false) (by simp; omega)) rfl rfl ?_
 (first | refine zaa zf5 rfl rfl ?_ | refine zaa zf4 rfl rfl ?_)
 refine G [12] ?_
 (first | refine zaa zbp rfl rfl ?_ | refine zaa zaY rfl rfl ?_)
 refine G [5] ?_
 (first | refine zaa zbp rfl rfl ?_ | refine zaa zaY rfl rfl ?_)
 refine G [5] ?_
 (first | refine zaa zbp rfl rfl ?_ | refine zaa zaY rfl rfl ?_)
 refine G [5] ?_
 (first | refine zaa zbp rfl rfl ?_ | refine zaa zaY rfl rfl ?_)
 refine G [5] ?_
 (first | refine zaa zbp rfl rfl ?_ | refine zaa zaY rfl rfl ?_)
 refine G [5, 1, 5] ?_
 refine zbr (zdo 40 rfl) ?_
 skip
 refine G [3] ?_
 refine zac (a_lenRA U22) rfl rfl ⟨rfl, trivial⟩ ?_
 refine G [3] ?_
 have e00 : (l.flatMap PE.pv).map AV.p = gC (fK U (a, b) 0) 0 l := by rw [← gC_pv l 0]; rfl
 refine zal (fun m st => ∃ k : Nat, m + k = l.length ∧ ((k ≤ U ∧ st = St.of [(1, .p (.v (.string pt))), (5, .ref 5 0), (6, .ref 6 0), (9, .fn 23 []), (12, .ref 12 0), (13, .p (.v (.int .i64 U))), (186, .p (.v (.int .i64 l.length))), (187, .p (.v (.int .i64 k)))] [(5, .box 29 [.p (.v (.int .i64 10)), .p (.v (.string t)), .p (.v (.int .i64 n)), .p (.v (.int .u32 a)), .p (.v (.int .i64 b))]), (6, .box 24 [.p (.v (.string ⟨#[]⟩)), .p (.v (.int .i64 0)), .p (.v (.slice none 0 0))]), (12, .box 24 [.p (.v (.string key)), .p (.v (.int .i64 port)), .row 40]), (40, .rowA 60 5 l.length none (gC (fK U (a, b) k) 0 l))]) ∨ (U < k ∧ st = St.of [(1, .p (.v (.string pt))), (5, .ref 5 0), (6, .ref 6 0), (9, .fn 23 []), (12, .ref 12 0), (13, .p (.v (.int .i64 U))), (186, .p (.v (.int .i64 l.length))), (187, .p (.v (.int .i64 k)))] [(5, .box 29 [.p (.v (.int .i64 10)), .p (.v (.string t)), .p (.v (.int .i64 n)), .p (.v (.int .u32 a)), .p (.v (.int .i64 b))]), (6, .box 24 [.p (.v (.string ⟨#[]⟩)), .p (.v (.int .i64 0)), .p (.v (.slice none 0 0))]), (12, .box 24 [.p (.v (.string key)), .p (.v (.int .i64 port)), .row 40]), (40, .rowA 60 5 l.length none (gC (fK U (a, b) k) 0 l)), (88, .row 27 2 (delN (a, b) l[U].nets).length ((delN (a, b) l[U].nets).flatMap ntC))]))) l.length ?_ ?_
 ·refine ⟨_, zak id [(1, .p (.v (.string pt))), (5, .ref 5 0), (6, .ref 6 0), (9, .fn 23 []), (12, .ref 12 0), (13, .p (.v (.int .i64 U))), (186, .p (.v (.int .i64 l.length))), (187, .p (.v (.int .i64 (0 : Nat))))] [(5, .box 29 [.p (.v (.int .i64 10)), .p (.v (.string t)), .p (.v (.int .i64 n)), .p (.v (.int .u32 a)), .p (.v (.int .i64 b))]), (6, .box 24 [.p (.v (.string ⟨#[]⟩)), .p (.v (.int .i64 0)), .p (.v (.slice none 0 0))]), (12, .box 24 [.p (.v (.string key)), .p (.v (.int .i64 port)), .row 40]), (40, .rowA 60 5 l.length none (gC (fK U (a, b) (0 : Nat)) 0 l))] ?_ ?_ rfl, 0, by omega, .inl ⟨Nat.zero_le _, ?_⟩⟩
  ·(repeat (first | exact trivial | (refine ⟨⟨(by first | rfl | (simp; done) | (simp; omega)), rfl⟩, ?_⟩)))
  ·exact ⟨⟨rfl, rfl⟩, ⟨rfl, rfl⟩, ⟨rfl, rfl⟩, ⟨(by show _ = Slot.live (.rowA _ 5 l.length none (AV.renL _ (gC (fK U (a, b) 0) 0 l))); rw [zbi rfl, ← e00]; rfl), zbd l 0 (fun i hi => by omega)⟩, trivial⟩
  ·rfl
 ·rintro m st ⟨k, hm, hcase⟩
  rcases hcase with ⟨hkU, rfl⟩ | ⟨hkU, rfl⟩
  ·refine G [5] ?_
   refine zab _ rfl (fun h => ?_) (fun h => ?_)
   ·have hlt : k < l.length := by simp at h; omega
    clear h
    by_cases hkU2 : k = U
    ·have hcl := zes (zby U (a, b) k) l 0
     have hat0 := zgM (zby U (a, b) k) 4 (by decide) l 0 k hlt
     have hat : (gC (fK U (a, b) k) 0 l)[k * 5 + 4]? = some (.p (.sl l[k].nets.length 2 (l[k].nets.flatMap ntC))) := by
      rw [hat0, Nat.zero_add]
      unfold fK
      rw [if_neg (Nat.lt_irrefl k)]
      rfl
     have hpn := (hok l[k] (List.getElem_mem hlt)).2
     have hst : setR (gC (fK U (a, b) k) 0 l) (k * 5 + 4) [.row 77] = gC (fK2 U (a, b) k) 0 l := ze5 (zby U (a, b) k) 4 (by decide) (.row 77) l 0 k hlt (by
       rw [Nat.zero_add]; unfold fK fK2; rw [if_neg (Nat.lt_irrefl k), if_pos rfl]; rfl) (fun i hi hne => by rw [Nat.zero_add]; unfold fK2; rw [if_neg hne])
     refine G [18] ?_
     refine zac (zay U22 sz60 (by omega) (by omega) (by first | (simp only [Int.toNat_natCast, Nat.mul_one, Nat.zero_add]; rfl) | rfl)) rfl rfl ⟨rfl, trivial⟩ ?_
     refine fA zbo rfl rfl ?_
     refine zac (zbf U58 rfl hat) rfl rfl ⟨rfl, trivial⟩ ?_
     refine zaa (zaL U58) rfl rfl ?_
     refine G [3] ?_
     refine zaM (zb8 16 77 27 2 rfl rfl) ?_
     refine zal (fun m2 st => ∃ i : Nat, m2 + i = l[k].nets.length ∧ st = St.of [(1, .p (.v (.string pt))), (5, .ref 5 0), (6, .ref 6 0), (9, .fn 23 []), (12, .ref 12 0), (13, .p (.v (.int .i64 U))), (186, .p (.v (.int .i64 l.length))), (187, .p (.v (.int .i64 k))), (15, .p (.v (.int .i64 k))), (16, .row 77), (195, .p (.sl l[k].nets.length 2 (l[k].nets.flatMap ntC))), (196, .p (.v (.int .i64 l[k].nets.length))), (197, .p (.v (.int .i64 i)))] [(5, .box 29 [.p (.v (.int .i64 10)), .p (.v (.string t)), .p (.v (.int .i64 n)), .p (.v (.int .u32 a)), .p (.v (.int .i64 b))]), (6, .box 24 [.p (.v (.string ⟨#[]⟩)), .p (.v (.int .i64 0)), .p (.v (.slice none 0 0))]), (12, .box 24 [.p (.v (.string key)), .p (.v (.int .i64 port)), .row 40]), (40, .rowA 60 5 l.length none (gC (fK U (a, b) k) 0 l)), (77, .row 27 2 (delN (a, b) (l[k].nets.take i)).length ((delN (a, b) (l[k].nets.take i)).flatMap ntC))]) l[k].nets.length ?_ ?_
     ·refine ⟨_, zak id _ _ ?_ ?_ rfl, 0, by omega, rfl⟩
      ·(repeat (first | exact trivial | (refine ⟨⟨(by first | rfl | (simp; done) | (simp; omega)), rfl⟩, ?_⟩)))
      ·exact ⟨⟨rfl, rfl⟩, ⟨rfl, rfl⟩, ⟨rfl, rfl⟩, ⟨(by show _ = Slot.live (.rowA _ 5 l.length none (AV.renL _ (gC (fK U (a, b) k) 0 l))); rw [zbi rfl]; rfl), zbd l 0 (fun i hi => by omega)⟩, ⟨rfl, rfl⟩, trivial⟩
     ·rintro m2 st ⟨i, hi, rfl⟩
      refine G [5] ?_
      refine zab _ rfl (fun h => ?_) (fun h => ?_)
      ·have hlt : i < l[k].nets.length := by simp at h; omega
       clear h
       have hx : l[k].nets[i]? = some (l[k].nets[i]'hlt) := List.getElem?_eq_getElem hlt
       have hch := zav (f := ntC) (k := 2) (fun _ => rfl) hx
       have hle := zau (f := ntC) (k := 2) (fun _ => rfl) hlt
       have hnx := zcW (a, b) l[k].nets i hlt
       have hdl : (delN (a, b) (l[k].nets.take i)).length ≤ 1048576 := Nat.le_trans zbU.1 (by rw [List.length_take]; omega)
       generalize hD : delN (a, b) (l[k].nets.take i) = D at *
       obtain ⟨⟨xa, xb⟩, hxx⟩ : ∃ x, l[k].nets[i]'hlt = x := ⟨_, rfl⟩
       rw [hxx] at hch hnx
       obtain ⟨D2, hD2⟩ : ∃ D2, delN (a, b) (l[k].nets.take (i + 1)) = D2 := ⟨_, rfl⟩
       rw [hD2] at hnx
       refine G [5] ?_
       refine zaa (zad U58 sz27 (by omega) (by omega) rfl) rfl rfl ?_
       refine zaa (zaq U27 rfl sz27 (by rw [List.length_drop]; omega) (hch)) rfl rfl ?_
       refine zac (zaV 18 zr27 rfl) rfl rfl ⟨rfl, trivial⟩ ?_
       refine zac (zap (Y := .agg [.p (.v (.int .u32 xa)), .p (.v (.int .i64 xb))]) sz27 rfl rfl (Nat.eq_of_beq_eq_true rfl)) rfl rfl ⟨rfl, trivial⟩ ?_
       refine zaf ?_
       by_cases he : (xa, xb) = (a, b)
       ·rw [if_pos he, List.append_nil] at hnx
        refine G [5] ?_
        refine zaa (zam U27 rfl rfl (by kernel_rfl) (by kernel_rfl) (by kernel_rfl) (c := false) (by rw [zcv, decide_eq_true he]; rfl)) rfl rfl ?_
        refine G [4] ?_
        refine zaa (zas (by first | exact IntWalk.i64_in _ (by omega) | rfl)) rfl rfl ?_
        refine G [2, 9, 0] ?_
        refine ⟨m2 - 1, by omega, _, zak id _ _ ?_ ?_ rfl, i + 1, by omega, by rw [hD2, hnx]⟩
        ·(repeat (first | exact trivial | (refine ⟨⟨(by first | rfl | (simp; done) | (simp; omega)), rfl⟩, ?_⟩)))
        ·exact ⟨⟨rfl, rfl⟩, ⟨rfl, rfl⟩, ⟨rfl, rfl⟩, ⟨(by show _ = Slot.live (.rowA _ 5 l.length none (AV.renL _ (gC (fK U (a, b) k) 0 l))); rw [zbi rfl]; rfl), zbd l 0 (fun i hi => by omega)⟩, ⟨rfl, rfl⟩, trivial⟩
       ·rw [if_neg he] at hnx
        have hfm : D2.flatMap ntC = D.flatMap ntC ++ [.v (.int .u32 xa), .v (.int .i64 xb)] := by rw [hnx, List.flatMap_append]; rfl
        have hln : D2.length = D.length + 1 := by rw [hnx]; simp
        refine G [5] ?_
        refine zaa (zam U27 rfl rfl (by kernel_rfl) (by kernel_rfl) (by kernel_rfl) (c := true) (by rw [zcv, decide_eq_false he]; rfl)) rfl rfl ?_
        refine G [2] ?_
        skip
        refine G [3] ?_
        refine zac (zan 207 U58 sz27 zc27 (Nat.le_of_ble_eq_true rfl) (Nat.le_of_ble_eq_true rfl) rfl rfl rfl rfl (Nat.le_of_ble_eq_true rfl)) rfl rfl ⟨rfl, trivial⟩ ?_
        refine zac (zaF 208 U58 eo27 (zbl) (by simp only [maxLen]; omega) (by omega) rfl rfl) rfl rfl ⟨rfl, rfl, rfl, trivial⟩ ?_
        refine G [3] ?_
        refine zaa (zas (by first | exact IntWalk.i64_in _ (by omega) | rfl)) rfl rfl ?_
        refine G [2, 9, 0] ?_
        refine ⟨m2 - 1, by omega, _, zak (fun o => bif Nat.beq o 77 then 208 else o) [(1, .p (.v (.string pt))), (5, .ref 5 0), (6, .ref 6 0), (9, .fn 23 []), (12, .ref 12 0), (13, .p (.v (.int .i64 U))), (186, .p (.v (.int .i64 l.length))), (187, .p (.v (.int .i64 k))), (15, .p (.v (.int .i64 k))), (16, .row 77), (195, .p (.sl l[k].nets.length 2 (l[k].nets.flatMap ntC))), (196, .p (.v (.int .i64 l[k].nets.length))), (197, .p (.v (.int .i64 (i + 1 : Nat))))] [(5, .box 29 [.p (.v (.int .i64 10)), .p (.v (.string t)), .p (.v (.int .i64 n)), .p (.v (.int .u32 a)), .p (.v (.int .i64 b))]), (6, .box 24 [.p (.v (.string ⟨#[]⟩)), .p (.v (.int .i64 0)), .p (.v (.slice none 0 0))]), (12, .box 24 [.p (.v (.string key)), .p (.v (.int .i64 port)), .row 40]), (40, .rowA 60 5 l.length none (gC (fK U (a, b) k) 0 l)), (77, .row 27 2 (D.length + 1) (D.flatMap ntC ++ [.v (.int .u32 xa), .v (.int .i64 xb)]))] ?_ ?_ rfl, i + 1, by omega, by rw [hD2, hfm, hln]⟩
        ·(repeat (first | exact trivial | (refine ⟨⟨(by first | rfl | (simp; done) | (simp; omega)), rfl⟩, ?_⟩)))
        ·exact ⟨⟨rfl, rfl⟩, ⟨rfl, rfl⟩, ⟨rfl, rfl⟩, ⟨(by show _ = Slot.live (.rowA _ 5 l.length none (AV.renL _ (gC (fK U (a, b) k) 0 l))); rw [zbi rfl]; rfl), zbd l 0 (fun i hi => by omega)⟩, ⟨rfl, rfl⟩, trivial⟩
      have hge : i = l[k].nets.length := by simp at h; omega
      clear h
      subst hge
      rw [List.take_length]
      refine G [6] ?_
      refine zac (zay U22 sz60 (by omega) (by omega) (by first | (simp only [Int.toNat_natCast, Nat.mul_one, Nat.zero_add]; rfl) | rfl)) rfl rfl ⟨rfl, trivial⟩ ?_
      refine fA zbo rfl rfl ?_
      refine zac (zbW (Y := .row 77) (es := gC (fK2 U (a, b) k) 0 l) sz58 rfl rfl (by rw [hcl]; omega) hst) rfl rfl ⟨rfl, trivial⟩ ?_
      refine G [2] ?_
      refine zaa (zas (by first | exact IntWalk.i64_in _ (by omega) | rfl)) rfl rfl ?_
      refine G [2, 9, 0] ?_
      have hfin : AV.renL (fun o => bif Nat.beq o 88 then 77 else o) (gC (fK U (a, b) (k + 1)) 0 l) = gC (fK2 U (a, b) k) 0 l := gC_ren U (a, b) l 0 k hkU2
      refine ⟨m - 1, by omega, _, zak (fun o => bif Nat.beq o 88 then 77 else o) [(1, .p (.v (.string pt))), (5, .ref 5 0), (6, .ref 6 0), (9, .fn 23 []), (12, .ref 12 0), (13, .p (.v (.int .i64 U))), (186, .p (.v (.int .i64 l.length))), (187, .p (.v (.int .i64 (k + 1 : Nat))))] [(5, .box 29 [.p (.v (.int .i64 10)), .p (.v (.string t)), .p (.v (.int .i64 n)), .p (.v (.int .u32 a)), .p (.v (.int .i64 b))]), (6, .box 24 [.p (.v (.string ⟨#[]⟩)), .p (.v (.int .i64 0)), .p (.v (.slice none 0 0))]), (12, .box 24 [.p (.v (.string key)), .p (.v (.int .i64 port)), .row 40]), (40, .rowA 60 5 l.length none (gC (fK U (a, b) (k + 1)) 0 l)), (88, .row 27 2 (delN (a, b) l[k].nets).length ((delN (a, b) l[k].nets).flatMap ntC))] ?_ ?_ rfl, k + 1, by omega, .inr ⟨by omega, ?_⟩⟩
      ·(repeat (first | exact trivial | (refine ⟨⟨(by first | rfl | (simp; done) | (simp; omega)), rfl⟩, ?_⟩)))
      ·refine ⟨⟨rfl, rfl⟩, ⟨rfl, rfl⟩, ⟨rfl, rfl⟩, ⟨by show _ = Slot.live (.rowA _ 5 l.length none (AV.renL _ (gC (fK U (a, b) (k + 1)) 0 l))); rw [hfin]; rfl, zct l 0⟩, ⟨rfl, rfl⟩, trivial⟩
      ·subst hkU2; rfl
    ·have hne : k ≠ U := hkU2
     have hcl := zes (zby U (a, b) k) l 0
     have hat0 := zgM (zby U (a, b) k) 4 (by decide) l 0 k hlt
     have hat : (gC (fK U (a, b) k) 0 l)[k * 5 + 4]? = some (.p (.sl l[k].nets.length 2 (l[k].nets.flatMap ntC))) := by
      rw [hat0, Nat.zero_add]
      unfold fK
      rw [if_neg (Nat.lt_irrefl k)]
      rfl
     have hpn := (hok l[k] (List.getElem_mem hlt)).2
     have hst : setR (gC (fK U (a, b) k) 0 l) (k * 5 + 4) [.p (.sl (delN (a, b) l[k].nets).length 2 ((delN (a, b) l[k].nets).flatMap ntC))] = gC (fK U (a, b) (k + 1)) 0 l := ze5 (zby U (a, b) k) 4 (by decide) _ l 0 k hlt (by
       rw [Nat.zero_add]; unfold fK; rw [if_neg (Nat.lt_irrefl k), if_pos (Nat.lt_succ_self k), if_neg hne]; rfl) (fun i hi hik => by
       rw [Nat.zero_add]; unfold fK
       by_cases h1 : i < k
       ·rw [if_pos h1, if_pos (by omega)]
       ·rw [if_neg h1, if_neg (by omega)])
     refine G [18] ?_
     refine zac (zay U22 sz60 (by omega) (by omega) (by first | (simp only [Int.toNat_natCast, Nat.mul_one, Nat.zero_add]; rfl) | rfl)) rfl rfl ⟨rfl, trivial⟩ ?_
     refine fA zbo rfl rfl ?_
     refine zac (zbf U58 rfl hat) rfl rfl ⟨rfl, trivial⟩ ?_
     refine zaa (zaL U58) rfl rfl ?_
     refine G [3] ?_
     refine zaM (zb8 16 77 27 2 rfl rfl) ?_
     refine zal (fun m2 st => ∃ i : Nat, m2 + i = l[k].nets.length ∧ st = St.of [(1, .p (.v (.string pt))), (5, .ref 5 0), (6, .ref 6 0), (9, .fn 23 []), (12, .ref 12 0), (13, .p (.v (.int .i64 U))), (186, .p (.v (.int .i64 l.length))), (187, .p (.v (.int .i64 k))), (15, .p (.v (.int .i64 k))), (16, .row 77), (195, .p (.sl l[k].nets.length 2 (l[k].nets.flatMap ntC))), (196, .p (.v (.int .i64 l[k].nets.length))), (197, .p (.v (.int .i64 i)))] [(5, .box 29 [.p (.v (.int .i64 10)), .p (.v (.string t)), .p (.v (.int .i64 n)), .p (.v (.int .u32 a)), .p (.v (.int .i64 b))]), (6, .box 24 [.p (.v (.string ⟨#[]⟩)), .p (.v (.int .i64 0)), .p (.v (.slice none 0 0))]), (12, .box 24 [.p (.v (.string key)), .p (.v (.int .i64 port)), .row 40]), (40, .rowA 60 5 l.length none (gC (fK U (a, b) k) 0 l)), (77, .row 27 2 (delN (a, b) (l[k].nets.take i)).length ((delN (a, b) (l[k].nets.take i)).flatMap ntC))]) l[k].nets.length ?_ ?_
     ·refine ⟨_, zak id _ _ ?_ ?_ rfl, 0, by omega, rfl⟩
      ·(repeat (first | exact trivial | (refine ⟨⟨(by first | rfl | (simp; done) | (simp; omega)), rfl⟩, ?_⟩)))
      ·exact ⟨⟨rfl, rfl⟩, ⟨rfl, rfl⟩, ⟨rfl, rfl⟩, ⟨(by show _ = Slot.live (.rowA _ 5 l.length none (AV.renL _ (gC (fK U (a, b) k) 0 l))); rw [zbi rfl]; rfl), zbd l 0 (fun i hi => by omega)⟩, ⟨rfl, rfl⟩, trivial⟩
     ·rintro m2 st ⟨i, hi, rfl⟩
      refine G [5] ?_
      refine zab _ rfl (fun h => ?_) (fun h => ?_)
      ·have hlt : i < l[k].nets.length := by simp at h; omega
       clear h
       have hx : l[k].nets[i]? = some (l[k].nets[i]'hlt) := List.getElem?_eq_getElem hlt
       have hch := zav (f := ntC) (k := 2) (fun _ => rfl) hx
       have hle := zau (f := ntC) (k := 2) (fun _ => rfl) hlt
       have hnx := zcW (a, b) l[k].nets i hlt
       have hdl : (delN (a, b) (l[k].nets.take i)).length ≤ 1048576 := Nat.le_trans zbU.1 (by rw [List.length_take]; omega)
       generalize hD : delN (a, b) (l[k].nets.take i) = D at *
       obtain ⟨⟨xa, xb⟩, hxx⟩ : ∃ x, l[k].nets[i]'hlt = x := ⟨_, rfl⟩
       rw [hxx] at hch hnx
       obtain ⟨D2, hD2⟩ : ∃ D2, delN (a, b) (l[k].nets.take (i + 1)) = D2 := ⟨_, rfl⟩
       rw [hD2] at hnx
       refine G [5] ?_
       refine zaa (zad U58 sz27 (by omega) (by omega) rfl) rfl rfl ?_
       refine zaa (zaq U27 rfl sz27 (by rw [List.length_drop]; omega) (hch)) rfl rfl ?_
       refine zac (zaV 18 zr27 rfl) rfl rfl ⟨rfl, trivial⟩ ?_
       refine zac (zap (Y := .agg [.p (.v (.int .u32 xa)), .p (.v (.int .i64 xb))]) sz27 rfl rfl (Nat.eq_of_beq_eq_true rfl)) rfl rfl ⟨rfl, trivial⟩ ?_
       refine zaf ?_
       by_cases he : (xa, xb) = (a, b)
       ·rw [if_pos he, List.append_nil] at hnx
        refine G [5] ?_
        refine zaa (zam U27 rfl rfl (by kernel_rfl) (by kernel_rfl) (by kernel_rfl) (c := false) (by rw [zcv, decide_eq_true he]; rfl)) rfl rfl ?_
        refine G [4] ?_
        refine zaa (zas (by first | exact IntWalk.i64_in _ (by omega) | rfl)) rfl rfl ?_
        refine G [2, 9, 0] ?_
        refine ⟨m2 - 1, by omega, _, zak id _ _ ?_ ?_ rfl, i + 1, by omega, by rw [hD2, hnx]⟩
        ·(repeat (first | exact trivial | (refine ⟨⟨(by first | rfl | (simp; done) | (simp; omega)), rfl⟩, ?_⟩)))
        ·exact ⟨⟨rfl, rfl⟩, ⟨rfl, rfl⟩, ⟨rfl, rfl⟩, ⟨(by show _ = Slot.live (.rowA _ 5 l.length none (AV.renL _ (gC (fK U (a, b) k) 0 l))); rw [zbi rfl]; rfl), zbd l 0 (fun i hi => by omega)⟩, ⟨rfl, rfl⟩, trivial⟩
       ·rw [if_neg he] at hnx
        have hfm : D2.flatMap ntC = D.flatMap ntC ++ [.v (.int .u32 xa), .v (.int .i64 xb)] := by rw [hnx, List.flatMap_append]; rfl
        have hln : D2.length = D.length + 1 := by rw [hnx]; simp
        refine G [5] ?_
        refine zaa (zam U27 rfl rfl (by kernel_rfl) (by kernel_rfl) (by kernel_rfl) (c := true) (by rw [zcv, decide_eq_false he]; rfl)) rfl rfl ?_
        refine G [2] ?_
        skip
        refine G [3] ?_
        refine zac (zan 207 U58 sz27 zc27 (Nat.le_of_ble_eq_true rfl) (Nat.le_of_ble_eq_true rfl) rfl rfl rfl rfl (Nat.le_of_ble_eq_true rfl)) rfl rfl ⟨rfl, trivial⟩ ?_
        refine zac (zaF 208 U58 eo27 (zbl) (by simp only [maxLen]; omega) (by omega) rfl rfl) rfl rfl ⟨rfl, rfl, rfl, trivial⟩ ?_
        refine G [3] ?_
        refine zaa (zas (by first | exact IntWalk.i64_in _ (by omega) | rfl)) rfl rfl ?_
        refine G [2, 9, 0] ?_
        refine ⟨m2 - 1, by omega, _, zak (fun o => bif Nat.beq o 77 then 208 else o) [(1, .p (.v (.string pt))), (5, .ref 5 0), (6, .ref 6 0), (9, .fn 23 []), (12, .ref 12 0), (13, .p (.v (.int .i64 U))), (186, .p (.v (.int .i64 l.length))), (187, .p (.v (.int .i64 k))), (15, .p (.v (.int .i64 k))), (16, .row 77), (195, .p (.sl l[k].nets.length 2 (l[k].nets.flatMap ntC))), (196, .p (.v (.int .i64 l[k].nets.length))), (197, .p (.v (.int .i64 (i + 1 : Nat))))] [(5, .box 29 [.p (.v (.int .i64 10)), .p (.v (.string t)), .p (.v (.int .i64 n)), .p (.v (.int .u32 a)), .p (.v (.int .i64 b))]), (6, .box 24 [.p (.v (.string ⟨#[]⟩)), .p (.v (.int .i64 0)), .p (.v (.slice none 0 0))]), (12, .box 24 [.p (.v (.string key)), .p (.v (.int .i64 port)), .row 40]), (40, .rowA 60 5 l.length none (gC (fK U (a, b) k) 0 l)), (77, .row 27 2 (D.length + 1) (D.flatMap ntC ++ [.v (.int .u32 xa), .v (.int .i64 xb)]))] ?_ ?_ rfl, i + 1, by omega, by rw [hD2, hfm, hln]⟩
        ·(repeat (first | exact trivial | (refine ⟨⟨(by first | rfl | (simp; done) | (simp; omega)), rfl⟩, ?_⟩)))
        ·exact ⟨⟨rfl, rfl⟩, ⟨rfl, rfl⟩, ⟨rfl, rfl⟩, ⟨(by show _ = Slot.live (.rowA _ 5 l.length none (AV.renL _ (gC (fK U (a, b) k) 0 l))); rw [zbi rfl]; rfl), zbd l 0 (fun i hi => by omega)⟩, ⟨rfl, rfl⟩, trivial⟩
      have hge : i = l[k].nets.length := by simp at h; omega
      clear h
      subst hge
      rw [List.take_length]
      refine zbs ?_
      refine zdl ?_
      refine zdl ?_
      refine zer ?_
      refine zaH ?_
      refine zbr (zdx 16 77 rfl rfl) ?_
      skip
      refine G [5] ?_
      refine zac (zay U22 sz60 (by omega) (by omega) (by first | (simp only [Int.toNat_natCast, Nat.mul_one, Nat.zero_add]; rfl) | rfl)) rfl rfl ⟨rfl, trivial⟩ ?_
      refine fA zbo rfl rfl ?_
      refine zac (zbW (Y := .p (.sl (delN (a, b) l[k].nets).length 2 ((delN (a, b) l[k].nets).flatMap ntC))) (es := gC (fK U (a, b) (k + 1)) 0 l) sz58 rfl rfl (by rw [hcl]; omega) hst) rfl rfl ⟨rfl, trivial⟩ ?_
      refine G [2] ?_
      refine zaa (zas (by first | exact IntWalk.i64_in _ (by omega) | rfl)) rfl rfl ?_
      refine G [2, 9, 0] ?_
      refine ⟨m - 1, by omega, _, zak id [(1, .p (.v (.string pt))), (5, .ref 5 0), (6, .ref 6 0), (9, .fn 23 []), (12, .ref 12 0), (13, .p (.v (.int .i64 U))), (186, .p (.v (.int .i64 l.length))), (187, .p (.v (.int .i64 (k + 1 : Nat))))] [(5, .box 29 [.p (.v (.int .i64 10)), .p (.v (.string t)), .p (.v (.int .i64 n)), .p (.v (.int .u32 a)), .p (.v (.int .i64 b))]), (6, .box 24 [.p (.v (.string ⟨#[]⟩)), .p (.v (.int .i64 0)), .p (.v (.slice none 0 0))]), (12, .box 24 [.p (.v (.string key)), .p (.v (.int .i64 port)), .row 40]), (40, .rowA 60 5 l.length none (gC (fK U (a, b) (k + 1)) 0 l))] ?_ ?_ rfl, k + 1, by omega, .inl ⟨by omega, rfl⟩⟩
      ·(repeat (first | exact trivial | (refine ⟨⟨(by first | rfl | (simp; done) | (simp; omega)), rfl⟩, ?_⟩)))
      ·refine ⟨⟨rfl, rfl⟩, ⟨rfl, rfl⟩, ⟨rfl, rfl⟩, ⟨by show _ = Slot.live (.rowA _ 5 l.length none (AV.renL (fun o => o) _)); rw [zco]; rfl, zbd l 0 (fun i hi => by omega)⟩, trivial⟩
   ·exfalso
    simp at h
    omega
  ·refine G [5] ?_
   refine zab _ rfl (fun h => ?_) (fun h => ?_)
   ·have hlt : k < l.length := by simp at h; omega
    clear h
    have hne : k ≠ U := by omega
    have hcl := zes (zby U (a, b) k) l 0
    have hat0 := zgM (zby U (a, b) k) 4 (by decide) l 0 k hlt
    have hat : (gC (fK U (a, b) k) 0 l)[k * 5 + 4]? = some (.p (.sl l[k].nets.length 2 (l[k].nets.flatMap ntC))) := by
     rw [hat0, Nat.zero_add]
     unfold fK
     rw [if_neg (Nat.lt_irrefl k)]
     rfl
    have hpn := (hok l[k] (List.getElem_mem hlt)).2
    have hst : setR (gC (fK U (a, b) k) 0 l) (k * 5 + 4) [.p (.sl (delN (a, b) l[k].nets).length 2 ((delN (a, b) l[k].nets).flatMap ntC))] = gC (fK U (a, b) (k + 1)) 0 l := ze5 (zby U (a, b) k) 4 (by decide) _ l 0 k hlt (by
      rw [Nat.zero_add]; unfold fK; rw [if_neg (Nat.lt_irrefl k), if_pos (Nat.lt_succ_self k), if_neg hne]; rfl) (fun i hi hik => by
      rw [Nat.zero_add]; unfold fK
      by_cases h1 : i < k
      ·rw [if_pos h1, if_pos (by omega)]
      ·rw [if_neg h1, if_neg (by omega)])
    refine G [18] ?_
    refine zac (zay U22 sz60 (by omega) (by omega) (by first | (simp only [Int.toNat_natCast, Nat.mul_one, Nat.zero_add]; rfl) | rfl)) rfl rfl ⟨rfl, trivial⟩ ?_
    refine fA zbo rfl rfl ?_
    refine zac (zbf U58 rfl hat) rfl rfl ⟨rfl, trivial⟩ ?_
    refine zaa (zaL U58) rfl rfl ?_
    refine G [3] ?_
    refine zaM (zb8 16 77 27 2 rfl rfl) ?_
    refine zal (fun m2 st => ∃ i : Nat, m2 + i = l[k].nets.length ∧ st = St.of [(1, .p (.v (.string pt))), (5, .ref 5 0), (6, .ref 6 0), (9, .fn 23 []), (12, .ref 12 0), (13, .p (.v (.int .i64 U))), (186, .p (.v (.int .i64 l.length))), (187, .p (.v (.int .i64 k))), (15, .p (.v (.int .i64 k))), (16, .row 77), (195, .p (.sl l[k].nets.length 2 (l[k].nets.flatMap ntC))), (196, .p (.v (.int .i64 l[k].nets.length))), (197, .p (.v (.int .i64 i)))] [(5, .box 29 [.p (.v (.int .i64 10)), .p (.v (.string t)), .p (.v (.int .i64 n)), .p (.v (.int .u32 a)), .p (.v (.int .i64 b))]), (6, .box 24 [.p (.v (.string ⟨#[]⟩)), .p (.v (.int .i64 0)), .p (.v (.slice none 0 0))]), (12, .box 24 [.p (.v (.string key)), .p (.v (.int .i64 port)), .row 40]), (40, .rowA 60 5 l.length none (gC (fK U (a, b) k) 0 l)), (88, .row 27 2 (delN (a, b) l[U].nets).length ((delN (a, b) l[U].nets).flatMap ntC)), (77, .row 27 2 (delN (a, b) (l[k].nets.take i)).length ((delN (a, b) (l[k].nets.take i)).flatMap ntC))]) l[k].nets.length ?_ ?_
    ·refine ⟨_, zak id _ _ ?_ ?_ rfl, 0, by omega, rfl⟩
     ·(repeat (first | exact trivial | (refine ⟨⟨(by first | rfl | (simp; done) | (simp; omega)), rfl⟩, ?_⟩)))
     ·exact ⟨⟨rfl, rfl⟩, ⟨rfl, rfl⟩, ⟨rfl, rfl⟩, ⟨(by show _ = Slot.live (.rowA _ 5 l.length none (AV.renL _ (gC (fK U (a, b) k) 0 l))); rw [zbi rfl]; rfl), zct l 0⟩, ⟨rfl, rfl⟩, ⟨rfl, rfl⟩, trivial⟩
    ·rintro m2 st ⟨i, hi, rfl⟩
     refine G [5] ?_
     refine zab _ rfl (fun h => ?_) (fun h => ?_)
     ·have hlt : i < l[k].nets.length := by simp at h; omega
      clear h
      have hx : l[k].nets[i]? = some (l[k].nets[i]'hlt) := List.getElem?_eq_getElem hlt
      have hch := zav (f := ntC) (k := 2) (fun _ => rfl) hx
      have hle := zau (f := ntC) (k := 2) (fun _ => rfl) hlt
      have hnx := zcW (a, b) l[k].nets i hlt
      have hdl : (delN (a, b) (l[k].nets.take i)).length ≤ 1048576 := Nat.le_trans zbU.1 (by rw [List.length_take]; omega)
      generalize hD : delN (a, b) (l[k].nets.take i) = D at *
      obtain ⟨⟨xa, xb⟩, hxx⟩ : ∃ x, l[k].nets[i]'hlt = x := ⟨_, rfl⟩
      rw [hxx] at hch hnx
      obtain ⟨D2, hD2⟩ : ∃ D2, delN (a, b) (l[k].nets.take (i + 1)) = D2 := ⟨_, rfl⟩
      rw [hD2] at hnx
      refine G [5] ?_
      refine zaa (zad U58 sz27 (by omega) (by omega) rfl) rfl rfl ?_
      refine zaa (zaq U27 rfl sz27 (by rw [List.length_drop]; omega) (hch)) rfl rfl ?_
      refine zac (zaV 18 zr27 rfl) rfl rfl ⟨rfl, trivial⟩ ?_
      refine zac (zap (Y := .agg [.p (.v (.int .u32 xa)), .p (.v (.int .i64 xb))]) sz27 rfl rfl (Nat.eq_of_beq_eq_true rfl)) rfl rfl ⟨rfl, trivial⟩ ?_
      refine zaf ?_
      by_cases he : (xa, xb) = (a, b)
      ·rw [if_pos he, List.append_nil] at hnx
       refine G [5] ?_
       refine zaa (zam U27 rfl rfl (by kernel_rfl) (by kernel_rfl) (by kernel_rfl) (c := false) (by rw [zcv, decide_eq_true he]; rfl)) rfl rfl ?_
       refine G [4] ?_
       refine zaa (zas (by first | exact IntWalk.i64_in _ (by omega) | rfl)) rfl rfl ?_
       refine G [2, 9, 0] ?_
       refine ⟨m2 - 1, by omega, _, zak id _ _ ?_ ?_ rfl, i + 1, by omega, by rw [hD2, hnx]⟩
       ·(repeat (first | exact trivial | (refine ⟨⟨(by first | rfl | (simp; done) | (simp; omega)), rfl⟩, ?_⟩)))
       ·exact ⟨⟨rfl, rfl⟩, ⟨rfl, rfl⟩, ⟨rfl, rfl⟩, ⟨(by show _ = Slot.live (.rowA _ 5 l.length none (AV.renL _ (gC (fK U (a, b) k) 0 l))); rw [zbi rfl]; rfl), zct l 0⟩, ⟨rfl, rfl⟩, ⟨rfl, rfl⟩, trivial⟩
      ·rw [if_neg he] at hnx
       have hfm : D2.flatMap ntC = D.flatMap ntC ++ [.v (.int .u32 xa), .v (.int .i64 xb)] := by rw [hnx, List.flatMap_append]; rfl
       have hln : D2.length = D.length + 1 := by rw [hnx]; simp
       refine G [5] ?_
       refine zaa (zam U27 rfl rfl (by kernel_rfl) (by kernel_rfl) (by kernel_rfl) (c := true) (by rw [zcv, decide_eq_false he]; rfl)) rfl rfl ?_
       refine G [2] ?_
       skip
       refine G [3] ?_
       refine zac (zan 207 U58 sz27 zc27 (Nat.le_of_ble_eq_true rfl) (Nat.le_of_ble_eq_true rfl) rfl rfl rfl rfl (Nat.le_of_ble_eq_true rfl)) rfl rfl ⟨rfl, trivial⟩ ?_
       refine zac (zaF 208 U58 eo27 (zbl) (by simp only [maxLen]; omega) (by omega) rfl rfl) rfl rfl ⟨rfl, rfl, rfl, trivial⟩ ?_
       refine G [3] ?_
       refine zaa (zas (by first | exact IntWalk.i64_in _ (by omega) | rfl)) rfl rfl ?_
       refine G [2, 9, 0] ?_
       refine ⟨m2 - 1, by omega, _, zak (fun o => bif Nat.beq o 77 then 208 else o) [(1, .p (.v (.string pt))), (5, .ref 5 0), (6, .ref 6 0), (9, .fn 23 []), (12, .ref 12 0), (13, .p (.v (.int .i64 U))), (186, .p (.v (.int .i64 l.length))), (187, .p (.v (.int .i64 k))), (15, .p (.v (.int .i64 k))), (16, .row 77), (195, .p (.sl l[k].nets.length 2 (l[k].nets.flatMap ntC))), (196, .p (.v (.int .i64 l[k].nets.length))), (197, .p (.v (.int .i64 (i + 1 : Nat))))] [(5, .box 29 [.p (.v (.int .i64 10)), .p (.v (.string t)), .p (.v (.int .i64 n)), .p (.v (.int .u32 a)), .p (.v (.int .i64 b))]), (6, .box 24 [.p (.v (.string ⟨#[]⟩)), .p (.v (.int .i64 0)), .p (.v (.slice none 0 0))]), (12, .box 24 [.p (.v (.string key)), .p (.v (.int .i64 port)), .row 40]), (40, .rowA 60 5 l.length none (gC (fK U (a, b) k) 0 l)), (88, .row 27 2 (delN (a, b) l[U].nets).length ((delN (a, b) l[U].nets).flatMap ntC)), (77, .row 27 2 (D.length + 1) (D.flatMap ntC ++ [.v (.int .u32 xa), .v (.int .i64 xb)]))] ?_ ?_ rfl, i + 1, by omega, by rw [hD2, hfm, hln]⟩
       ·(repeat (first | exact trivial | (refine ⟨⟨(by first | rfl | (simp; done) | (simp; omega)), rfl⟩, ?_⟩)))
       ·exact ⟨⟨rfl, rfl⟩, ⟨rfl, rfl⟩, ⟨rfl, rfl⟩, ⟨(by show _ = Slot.live (.rowA _ 5 l.length none (AV.renL _ (gC (fK U (a, b) k) 0 l))); rw [zbi rfl]; rfl), zct l 0⟩, ⟨rfl, rfl⟩, ⟨rfl, rfl⟩, trivial⟩
     have hge : i = l[k].nets.length := by simp at h; omega
     clear h
     subst hge
     rw [List.take_length]
     refine zbs ?_
     refine zdl ?_
     refine zdl ?_
     refine zer ?_
     refine zaH ?_
     refine zbr (zdx 16 77 rfl rfl) ?_
     skip
     refine G [5] ?_
     refine zac (zay U22 sz60 (by omega) (by omega) (by first | (simp only [Int.toNat_natCast, Nat.mul_one, Nat.zero_add]; rfl) | rfl)) rfl rfl ⟨rfl, trivial⟩ ?_
     refine fA zbo rfl rfl ?_
     refine zac (zbW (Y := .p (.sl (delN (a, b) l[k].nets).length 2 ((delN (a, b) l[k].nets).flatMap ntC))) (es := gC (fK U (a, b) (k + 1)) 0 l) sz58 rfl rfl (by rw [hcl]; omega) hst) rfl rfl ⟨rfl, trivial⟩ ?_
     refine G [2] ?_
     refine zaa (zas (by first | exact IntWalk.i64_in _ (by omega) | rfl)) rfl rfl ?_
     refine G [2, 9, 0] ?_
     refine ⟨m - 1, by omega, _, zak id [(1, .p (.v (.string pt))), (5, .ref 5 0), (6, .ref 6 0), (9, .fn 23 []), (12, .ref 12 0), (13, .p (.v (.int .i64 U))), (186, .p (.v (.int .i64 l.length))), (187, .p (.v (.int .i64 (k + 1 : Nat))))] [(5, .box 29 [.p (.v (.int .i64 10)), .p (.v (.string t)), .p (.v (.int .i64 n)), .p (.v (.int .u32 a)), .p (.v (.int .i64 b))]), (6, .box 24 [.p (.v (.string ⟨#[]⟩)), .p (.v (.int .i64 0)), .p (.v (.slice none 0 0))]), (12, .box 24 [.p (.v (.string key)), .p (.v (.int .i64 port)), .row 40]), (40, .rowA 60 5 l.length none (gC (fK U (a, b) (k + 1)) 0 l)), (88, .row 27 2 (delN (a, b) l[U].nets).length ((delN (a, b) l[U].nets).flatMap ntC))] ?_ ?_ rfl, k + 1, by omega, .inr ⟨by omega, rfl⟩⟩
     ·(repeat (first | exact trivial | (refine ⟨⟨(by first | rfl | (simp; done) | (simp; omega)), rfl⟩, ?_⟩)))
     ·refine ⟨⟨rfl, rfl⟩, ⟨rfl, rfl⟩, ⟨rfl, rfl⟩, ⟨by show _ = Slot.live (.rowA _ 5 l.length none (AV.renL (fun o => o) _)); rw [zco]; rfl, zct l 0⟩, ⟨rfl, rfl⟩, trivial⟩
   have hge : k = l.length := by simp at h; omega
   clear h
   subst hge
   have hcl := zes (zby U (a, b) l.length) l 0
   have hat0 := zgM (zby U (a, b) l.length) 4 (by decide) l 0 U hkU
   have hat : (gC (fK U (a, b) l.length) 0 l)[U * 5 + 4]? = some (.row 88) := by
    rw [hat0, Nat.zero_add]
    unfold fK
    rw [if_pos hkU, if_pos rfl]
    rfl
   refine G [7] ?_
   refine zac (zay U22 sz60 (by omega) (by omega) (by first | (simp only [Int.toNat_natCast, Nat.mul_one, Nat.zero_add]; rfl) | rfl)) rfl rfl ⟨rfl, trivial⟩ ?_
   refine fA zbo rfl rfl ?_
   refine zac (zbf U58 rfl hat) rfl rfl ⟨rfl, trivial⟩ ?_
   refine zac (zaG U58) rfl rfl ⟨rfl, trivial⟩ ?_
   refine zaa (zbk (c := true) (by simp; omega)) rfl rfl ?_
   refine G [5] ?_
   refine cK hN ?_
   refine G [8, 9, 0] ?_
   exact yE
set_option maxHeartbeats 16000000 in
theorem ref10_s (key : ByteArray) (port : Int) (l : List PE) (ok : CF.OK ⟨key, port, l⟩) (pt : ByteArray) (t : ByteArray) (n a b : Int) (sok : SE.OK ⟨10, t, n, a, b⟩) (hc0 : cfE ⟨key, port, l⟩ = 0) (hs0 : seE ⟨10, t, n, a, b⟩ = 0) (h0 : pt ≠ ⟨#[]⟩) (h : peN pt l < l.length) (h8 : ¬ 7 < (delN (a, b) l[peN pt l].nets).length) : Fn prog 8 [.agg (CF.cells ⟨key, port, l⟩), .p (.v (.string pt)), .agg (SE.cells ⟨10, t, n, a, b⟩)] (.tup [.agg [.p (.v (.string key)), .p (.v (.int .i64 port)), .row 0], .p (.v (.string pt)), .p (.v (.int .i64 0))]) [(0, .row 60 5 l.length (((dnL (a, b) l).set (peN pt l) { l[peN pt l] with nets := zb6 gtN (delN (a, b) l[peN pt l].nets ++ [(a, b)]) }).flatMap PE.pv))] := by
 have hC := zaO ⟨key, port, l⟩ ok
 rw [hc0] at hC
 have hS := zaK ⟨10, t, n, a, b⟩ sok
 rw [hs0] at hS
 have hK := za0 ⟨key, port, l⟩ ok
 have hA := zaD ⟨key, port, l⟩ ok t
 have hA2 := zaD ⟨key, port, l⟩ ok pt
 have hn := ok.len
 dsimp only at hn
 change Fn prog _ [.agg (cfC key port l.length (l.flatMap PE.pv))] _ _ at hC hK
 change Fn prog _ [.agg (cfC key port l.length (l.flatMap PE.pv)), _] (.p (.v (.int .i64 (peN t l : Nat)))) _ at hA
 change Fn prog _ [.agg (cfC key port l.length (l.flatMap PE.pv)), _] (.p (.v (.int .i64 (peN pt l : Nat)))) _ at hA2
 change Fn prog _ [.agg [.p (.v (.int .i64 10)), .p (.v (.string t)), .p (.v (.int .i64 n)), .p (.v (.int .u32 a)), .p (.v (.int .i64 b))]] _ _ at hS
 show Fn prog _ [.agg (cfC key port l.length (l.flatMap PE.pv)), _, .agg [.p (.v (.int .i64 10)), .p (.v (.string t)), .p (.v (.int .i64 n)), .p (.v (.int .u32 a)), .p (.v (.int .i64 b))]] _ _
 have hok := ok.ps
 dsimp only at hok
 generalize peN pt l = U at *
 clear ok sok hc0 hs0
 generalize peN t l = T at *
 refine fnI fun w0 A => ?_
 refine G [16] ?_
 refine cK hC ?_
 refine G [5, 1, 7] ?_
 refine cK hS ?_
 refine G [5, 1, 6] ?_
 refine zaw (fun _ => 40) (hK) rfl rfl F26 rfl rfl (by first | rfl | simp [AV.okInL, AV.okIn, zaj]) rfl rfl rfl (by first | exact trivial | exact ⟨rfl, trivial⟩ | exact ⟨rfl, rfl, trivial⟩ | exact ⟨rfl, rfl, rfl, rfl, rfl, trivial⟩) rfl rfl rfl ?_
 refine G [3] ?_
 refine zaH (zaM (zak id [(1, .p (.v (.string pt))), (3, .ref 3 0), (5, .ref 5 0), (6, .ref 6 0), (9, .fn 23 []), (12, .ref 12 0)] [(3, .box 24 (cfC key port l.length (l.flatMap PE.pv))), (5, .box 29 [.p (.v (.int .i64 10)), .p (.v (.string t)), .p (.v (.int .i64 n)), .p (.v (.int .u32 a)), .p (.v (.int .i64 b))]), (6, .box 24 [.p (.v (.string ⟨#[]⟩)), .p (.v (.int .i64 0)), .p (.v (.slice none 0 0))]), (12, .box 24 [.p (.v (.string key)), .p (.v (.int .i64 port)), .row 40]), (40, .row 60 5 l.length (l.flatMap PE.pv))] (by repeat (first | exact trivial | refine ⟨⟨rfl, rfl⟩, ?_⟩)) (by repeat (first | exact trivial | refine ⟨⟨rfl, rfl⟩, ?_⟩)) rfl) ?_)
 refine G [5] ?_
 refine cV hA ?_
 refine G [7] ?_
 refine zac (zaG U22) rfl rfl ⟨rfl, trivial⟩ ?_
 refine zaa (zaN (c := decide (T < l.length)) (by first | (simp; done) | (simp; omega))) rfl rfl ?_
 refine G [11] ?_
 (first | refine zaa zbp rfl rfl ?_ | refine zaa zaY rfl rfl ?_)
 refine G [17] ?_
 (first | refine zaa zbp rfl rfl ?_ | refine zaa zaY rfl rfl ?_)
 refine G [8] ?_
 refine cV hA2 ?_
 refine G [6] ?_
 refine zaa (zah (c := false) (by simp [h0])) rfl rfl ?_
 refine G [4] ?_
 refine zac (zaG U22) rfl rfl ⟨rfl, trivial⟩ ?_
 refine zaa (zaA (c := false) (by simp; omega)) rfl rfl ?_
 refine G [43, 1, 5] ?_
 refine zbr (zdo 40 rfl) ?_
 skip
 refine G [3] ?_
 refine zac (a_lenRA U22) rfl rfl ⟨rfl, trivial⟩ ?_
 refine G [3] ?_
 have e00 : (l.flatMap PE.pv).map AV.p = gC (fK U (a, b) 0) 0 l := by rw [← gC_pv l 0]; rfl
 refine zal (fun m st => ∃ k : Nat, m + k = l.length ∧ ((k ≤ U ∧ st = St.of [(1, .p (.v (.string pt))), (5, .ref 5 0), (6, .ref 6 0), (9, .fn 23 []), (12, .ref 12 0), (13, .p (.v (.int .i64 U))), (186, .p (.v (.int .i64 l.length))), (187, .p (.v (.int .i64 k)))] [(5, .box 29 [.p (.v (.int .i64 10)), .p (.v (.string t)), .p (.v (.int .i64 n)), .p (.v (.int .u32 a)), .p (.v (.int .i64 b))]), (6, .box 24 [.p (.v (.string ⟨#[]⟩)), .p (.v (.int .i64 0)), .p (.v (.slice none 0 0))]), (12, .box 24 [.p (.v (.string key)), .p (.v (.int .i64 port)), .row 40]), (40, .rowA 60 5 l.length none (gC (fK U (a, b) k) 0 l))]) ∨ (U < k ∧ st = St.of [(1, .p (.v (.string pt))), (5, .ref 5 0), (6, .ref 6 0), (9, .fn 23 []), (12, .ref 12 0), (13, .p (.v (.int .i64 U))), (186, .p (.v (.int .i64 l.length))), (187, .p (.v (.int .i64 k)))] [(5, .box 29 [.p (.v (.int .i64 10)), .p (.v (.string t)), .p (.v (.int .i64 n)), .p (.v (.int .u32 a)), .p (.v (.int .i64 b))]), (6, .box 24 [.p (.v (.string ⟨#[]⟩)), .p (.v (.int .i64 0)), .p (.v (.slice none 0 0))]), (12, .box 24 [.p (.v (.string key)), .p (.v (.int .i64 port)), .row 40]), (40, .rowA 60 5 l.length none (gC (fK U (a, b) k) 0 l)), (88, .row 27 2 (delN (a, b) l[U].nets).length ((delN (a, b) l[U].nets).flatMap ntC))]))) l.length ?_ ?_
 ·refine ⟨_, zak id [(1, .p (.v (.string pt))), (5, .ref 5 0), (6, .ref 6 0), (9, .fn 23 []), (12, .ref 12 0), (13, .p (.v (.int .i64 U))), (186, .p (.v (.int .i64 l.length))), (187, .p (.v (.int .i64 (0 : Nat))))] [(5, .box 29 [.p (.v (.int .i64 10)), .p (.v (.string t)), .p (.v (.int .i64 n)), .p (.v (.int .u32 a)), .p (.v (.int .i64 b))]), (6, .box 24 [.p (.v (.string ⟨#[]⟩)), .p (.v (.int .i64 0)), .p (.v (.slice none 0 0))]), (12, .box 24 [.p (.v (.string key)), .p (.v (.int .i64 port)), .row 40]), (40, .rowA 60 5 l.length none (gC (fK U (a, b) (0 : Nat)) 0 l))] ?_ ?_ rfl, 0, by omega, .inl ⟨Nat.zero_le _, ?_⟩⟩
  ·(repeat (first | exact trivial | (refine ⟨⟨(by first | rfl | (simp; done) | (simp; omega)), rfl⟩, ?_⟩)))
  ·exact ⟨⟨rfl, rfl⟩, ⟨rfl, rfl⟩, ⟨rfl, rfl⟩, ⟨(by show _ = Slot.live (.rowA _ 5 l.length none (AV.renL _ (gC (fK U (a, b) 0) 0 l))); rw [zbi rfl, ← e00]; rfl), zbd l 0 (fun i hi => by omega)⟩, trivial⟩
  ·rfl
 ·rintro m st ⟨k, hm, hcase⟩
  rcases hcase with ⟨hkU, rfl⟩ | ⟨hkU, rfl⟩
  ·refine G [5] ?_
   refine zab _ rfl (fun h => ?_) (fun h => ?_)
   ·have hlt : k < l.length := by simp at h; omega
    clear h
    by_cases hkU2 : k = U
    ·have hcl := zes (zby U (a, b) k) l 0
     have hat0 := zgM (zby U (a, b) k) 4 (by decide) l 0 k hlt
     have hat : (gC (fK U (a, b) k) 0 l)[k * 5 + 4]? = some (.p (.sl l[k].nets.length 2 (l[k].nets.flatMap ntC))) := by
      rw [hat0, Nat.zero_add]
      unfold fK
      rw [if_neg (Nat.lt_irrefl k)]
      rfl
     have hpn := (hok l[k] (List.getElem_mem hlt)).2
     have hst : setR (gC (fK U (a, b) k) 0 l) (k * 5 + 4) [.row 77] = gC (fK2 U (a, b) k) 0 l := ze5 (zby U (a, b) k) 4 (by decide) (.row 77) l 0 k hlt (by
       rw [Nat.zero_add]; unfold fK fK2; rw [if_neg (Nat.lt_irrefl k), if_pos rfl]; rfl) (fun i hi hne => by rw [Nat.zero_add]; unfold fK2; rw [if_neg hne])
     refine G [18] ?_
     refine zac (zay U22 sz60 (by omega) (by omega) (by first | (simp only [Int.toNat_natCast, Nat.mul_one, Nat.zero_add]; rfl) | rfl)) rfl rfl ⟨rfl, trivial⟩ ?_
     refine fA zbo rfl rfl ?_
     refine zac (zbf U58 rfl hat) rfl rfl ⟨rfl, trivial⟩ ?_
     refine zaa (zaL U58) rfl rfl ?_
     refine G [3] ?_
     refine zaM (zb8 16 77 27 2 rfl rfl) ?_
     refine zal (fun m2 st => ∃ i : Nat, m2 + i = l[k].nets.length ∧ st = St.of [(1, .p (.v (.string pt))), (5, .ref 5 0), (6, .ref 6 0), (9, .fn 23 []), (12, .ref 12 0), (13, .p (.v (.int .i64 U))), (186, .p (.v (.int .i64 l.length))), (187, .p (.v (.int .i64 k))), (15, .p (.v (.int .i64 k))), (16, .row 77), (195, .p (.sl l[k].nets.length 2 (l[k].nets.flatMap ntC))), (196, .p (.v (.int .i64 l[k].nets.length))), (197, .p (.v (.int .i64 i)))] [(5, .box 29 [.p (.v (.int .i64 10)), .p (.v (.string t)), .p (.v (.int .i64 n)), .p (.v (.int .u32 a)), .p (.v (.int .i64 b))]), (6, .box 24 [.p (.v (.string ⟨#[]⟩)), .p (.v (.int .i64 0)), .p (.v (.slice none 0 0))]), (12, .box 24 [.p (.v (.string key)), .p (.v (.int .i64 port)), .row 40]), (40, .rowA 60 5 l.length none (gC (fK U (a, b) k) 0 l)), (77, .row 27 2 (delN (a, b) (l[k].nets.take i)).length ((delN (a, b) (l[k].nets.take i)).flatMap ntC))]) l[k].nets.length ?_ ?_
     ·refine ⟨_, zak id _ _ ?_ ?_ rfl, 0, by omega, rfl⟩
      ·(repeat (first | exact trivial | (refine ⟨⟨(by first | rfl | (simp; done) | (simp; omega)), rfl⟩, ?_⟩)))
      ·exact ⟨⟨rfl, rfl⟩, ⟨rfl, rfl⟩, ⟨rfl, rfl⟩, ⟨(by show _ = Slot.live (.rowA _ 5 l.length none (AV.renL _ (gC (fK U (a, b) k) 0 l))); rw [zbi rfl]; rfl), zbd l 0 (fun i hi => by omega)⟩, ⟨rfl, rfl⟩, trivial⟩
     ·rintro m2 st ⟨i, hi, rfl⟩
      refine G [5] ?_
      refine zab _ rfl (fun h => ?_) (fun h => ?_)
      ·have hlt : i < l[k].nets.length := by simp at h; omega
       clear h
       have hx : l[k].nets[i]? = some (l[k].nets[i]'hlt) := List.getElem?_eq_getElem hlt
       have hch := zav (f := ntC) (k := 2) (fun _ => rfl) hx
       have hle := zau (f := ntC) (k := 2) (fun _ => rfl) hlt
       have hnx := zcW (a, b) l[k].nets i hlt
       have hdl : (delN (a, b) (l[k].nets.take i)).length ≤ 1048576 := Nat.le_trans zbU.1 (by rw [List.length_take]; omega)
       generalize hD : delN (a, b) (l[k].nets.take i) = D at *
       obtain ⟨⟨xa, xb⟩, hxx⟩ : ∃ x, l[k].nets[i]'hlt = x := ⟨_, rfl⟩
       rw [hxx] at hch hnx
       obtain ⟨D2, hD2⟩ : ∃ D2, delN (a, b) (l[k].nets.take (i + 1)) = D2 := ⟨_, rfl⟩
       rw [hD2] at hnx
       refine G [5] ?_
       refine zaa (zad U58 sz27 (by omega) (by omega) rfl) rfl rfl ?_
       refine zaa (zaq U27 rfl sz27 (by rw [List.length_drop]; omega) (hch)) rfl rfl ?_
       refine zac (zaV 18 zr27 rfl) rfl rfl ⟨rfl, trivial⟩ ?_
       refine zac (zap (Y := .agg [.p (.v (.int .u32 xa)), .p (.v (.int .i64 xb))]) sz27 rfl rfl (Nat.eq_of_beq_eq_true rfl)) rfl rfl ⟨rfl, trivial⟩ ?_
       refine zaf ?_
       by_cases he : (xa, xb) = (a, b)
       ·rw [if_pos he, List.append_nil] at hnx
        refine G [5] ?_
        refine zaa (zam U27 rfl rfl (by kernel_rfl) (by kernel_rfl) (by kernel_rfl) (c := false) (by rw [zcv, decide_eq_true he]; rfl)) rfl rfl ?_
        refine G [4] ?_
        refine zaa (zas (by first | exact IntWalk.i64_in _ (by omega) | rfl)) rfl rfl ?_
        refine G [2, 9, 0] ?_
        refine ⟨m2 - 1, by omega, _, zak id _ _ ?_ ?_ rfl, i + 1, by omega, by rw [hD2, hnx]⟩
        ·(repeat (first | exact trivial | (refine ⟨⟨(by first | rfl | (simp; done) | (simp; omega)), rfl⟩, ?_⟩)))
        ·exact ⟨⟨rfl, rfl⟩, ⟨rfl, rfl⟩, ⟨rfl, rfl⟩, ⟨(by show _ = Slot.live (.rowA _ 5 l.length none (AV.renL _ (gC (fK U (a, b) k) 0 l))); rw [zbi rfl]; rfl), zbd l 0 (fun i hi => by omega)⟩, ⟨rfl, rfl⟩, trivial⟩
       ·rw [if_neg he] at hnx
        have hfm : D2.flatMap ntC = D.flatMap ntC ++ [.v (.int .u32 xa), .v (.int .i64 xb)] := by rw [hnx, List.flatMap_append]; rfl
        have hln : D2.length = D.length + 1 := by rw [hnx]; simp
        refine G [5] ?_
        refine zaa (zam U27 rfl rfl (by kernel_rfl) (by kernel_rfl) (by kernel_rfl) (c := true) (by rw [zcv, decide_eq_false he]; rfl)) rfl rfl ?_
        refine G [2] ?_
        skip
        refine G [3] ?_
        refine zac (zan 207 U58 sz27 zc27 (Nat.le_of_ble_eq_true rfl) (Nat.le_of_ble_eq_true rfl) rfl rfl rfl rfl (Nat.le_of_ble_eq_true rfl)) rfl rfl ⟨rfl, trivial⟩ ?_
        refine zac (zaF 208 U58 eo27 (zbl) (by simp only [maxLen]; omega) (by omega) rfl rfl) rfl rfl ⟨rfl, rfl, rfl, trivial⟩ ?_
        refine G [3] ?_
        refine zaa (zas (by first | exact IntWalk.i64_in _ (by omega) | rfl)) rfl rfl ?_
        refine G [2, 9, 0] ?_
        refine ⟨m2 - 1, by omega, _, zak (fun o => bif Nat.beq o 77 then 208 else o) [(1, .p (.v (.string pt))), (5, .ref 5 0), (6, .ref 6 0), (9, .fn 23 []), (12, .ref 12 0), (13, .p (.v (.int .i64 U))), (186, .p (.v (.int .i64 l.length))), (187, .p (.v (.int .i64 k))), (15, .p (.v (.int .i64 k))), (16, .row 77), (195, .p (.sl l[k].nets.length 2 (l[k].nets.flatMap ntC))), (196, .p (.v (.int .i64 l[k].nets.length))), (197, .p (.v (.int .i64 (i + 1 : Nat))))] [(5, .box 29 [.p (.v (.int .i64 10)), .p (.v (.string t)), .p (.v (.int .i64 n)), .p (.v (.int .u32 a)), .p (.v (.int .i64 b))]), (6, .box 24 [.p (.v (.string ⟨#[]⟩)), .p (.v (.int .i64 0)), .p (.v (.slice none 0 0))]), (12, .box 24 [.p (.v (.string key)), .p (.v (.int .i64 port)), .row 40]), (40, .rowA 60 5 l.length none (gC (fK U (a, b) k) 0 l)), (77, .row 27 2 (D.length + 1) (D.flatMap ntC ++ [.v (.int .u32 xa), .v (.int .i64 xb)]))] ?_ ?_ rfl, i + 1, by omega, by rw [hD2, hfm, hln]⟩
        ·(repeat (first | exact trivial | (refine ⟨⟨(by first | rfl | (simp; done) | (simp; omega)), rfl⟩, ?_⟩)))
        ·exact ⟨⟨rfl, rfl⟩, ⟨rfl, rfl⟩, ⟨rfl, rfl⟩, ⟨(by show _ = Slot.live (.rowA _ 5 l.length none (AV.renL _ (gC (fK U (a, b) k) 0 l))); rw [zbi rfl]; rfl), zbd l 0 (fun i hi => by omega)⟩, ⟨rfl, rfl⟩, trivial⟩
      have hge : i = l[k].nets.length := by simp at h; omega
      clear h
      subst hge
      rw [List.take_length]
      refine G [6] ?_
      refine zac (zay U22 sz60 (by omega) (by omega) (by first | (simp only [Int.toNat_natCast, Nat.mul_one, Nat.zero_add]; rfl) | rfl)) rfl rfl ⟨rfl, trivial⟩ ?_
      refine fA zbo rfl rfl ?_
      refine zac (zbW (Y := .row 77) (es := gC (fK2 U (a, b) k) 0 l) sz58 rfl rfl (by rw [hcl]; omega) hst) rfl rfl ⟨rfl, trivial⟩ ?_
      refine G [2] ?_
      refine zaa (zas (by first | exact IntWalk.i64_in _ (by omega) | rfl)) rfl rfl ?_
      refine G [2, 9, 0] ?_
      have hfin : AV.renL (fun o => bif Nat.beq o 88 then 77 else o) (gC (fK U (a, b) (k + 1)) 0 l) = gC (fK2 U (a, b) k) 0 l := gC_ren U (a, b) l 0 k hkU2
      refine ⟨m - 1, by omega, _, zak (fun o => bif Nat.beq o 88 then 77 else o) [(1, .p (.v (.string pt))), (5, .ref 5 0), (6, .ref 6 0), (9, .fn 23 []), (12, .ref 12 0), (13, .p (.v (.int .i64 U))), (186, .p (.v (.int .i64 l.length))), (187, .p (.v (.int .i64 (k + 1 : Nat))))] [(5, .box 29 [.p (.v (.int .i64 10)), .p (.v (.string t)), .p (.v (.int .i64 n)), .p (.v (.int .u32 a)), .p (.v (.int .i64 b))]), (6, .box 24 [.p (.v (.string ⟨#[]⟩)), .p (.v (.int .i64 0)), .p (.v (.slice none 0 0))]), (12, .box 24 [.p (.v (.string key)), .p (.v (.int .i64 port)), .row 40]), (40, .rowA 60 5 l.length none (gC (fK U (a, b) (k + 1)) 0 l)), (88, .row 27 2 (delN (a, b) l[k].nets).length ((delN (a, b) l[k].nets).flatMap ntC))] ?_ ?_ rfl, k + 1, by omega, .inr ⟨by omega, ?_⟩⟩
      ·(repeat (first | exact trivial | (refine ⟨⟨(by first | rfl | (simp; done) | (simp; omega)), rfl⟩, ?_⟩)))
      ·refine ⟨⟨rfl, rfl⟩, ⟨rfl, rfl⟩, ⟨rfl, rfl⟩, ⟨by show _ = Slot.live (.rowA _ 5 l.length none (AV.renL _ (gC (fK U (a, b) (k + 1)) 0 l))); rw [hfin]; rfl, zct l 0⟩, ⟨rfl, rfl⟩, trivial⟩
      ·subst hkU2; rfl
    ·have hne : k ≠ U := hkU2
     have hcl := zes (zby U (a, b) k) l 0
     have hat0 := zgM (zby U (a, b) k) 4 (by decide) l 0 k hlt
     have hat : (gC (fK U (a, b) k) 0 l)[k * 5 + 4]? = some (.p (.sl l[k].nets.length 2 (l[k].nets.flatMap ntC))) := by
      rw [hat0, Nat.zero_add]
      unfold fK
      rw [if_neg (Nat.lt_irrefl k)]
      rfl
     have hpn := (hok l[k] (List.getElem_mem hlt)).2
     have hst : setR (gC (fK U (a, b) k) 0 l) (k * 5 + 4) [.p (.sl (delN (a, b) l[k].nets).length 2 ((delN (a, b) l[k].nets).flatMap ntC))] = gC (fK U (a, b) (k + 1)) 0 l := ze5 (zby U (a, b) k) 4 (by decide) _ l 0 k hlt (by
       rw [Nat.zero_add]; unfold fK; rw [if_neg (Nat.lt_irrefl k), if_pos (Nat.lt_succ_self k), if_neg hne]; rfl) (fun i hi hik => by
       rw [Nat.zero_add]; unfold fK
       by_cases h1 : i < k
       ·rw [if_pos h1, if_pos (by omega)]
       ·rw [if_neg h1, if_neg (by omega)])
     refine G [18] ?_
     refine zac (zay U22 sz60 (by omega) (by omega) (by first | (simp only [Int.toNat_natCast, Nat.mul_one, Nat.zero_add]; rfl) | rfl)) rfl rfl ⟨rfl, trivial⟩ ?_
     refine fA zbo rfl rfl ?_
     refine zac (zbf U58 rfl hat) rfl rfl ⟨rfl, trivial⟩ ?_
     refine zaa (zaL U58) rfl rfl ?_
     refine G [3] ?_
     refine zaM (zb8 16 77 27 2 rfl rfl) ?_
     refine zal (fun m2 st => ∃ i : Nat, m2 + i = l[k].nets.length ∧ st = St.of [(1, .p (.v (.string pt))), (5, .ref 5 0), (6, .ref 6 0), (9, .fn 23 []), (12, .ref 12 0), (13, .p (.v (.int .i64 U))), (186, .p (.v (.int .i64 l.length))), (187, .p (.v (.int .i64 k))), (15, .p (.v (.int .i64 k))), (16, .row 77), (195, .p (.sl l[k].nets.length 2 (l[k].nets.flatMap ntC))), (196, .p (.v (.int .i64 l[k].nets.length))), (197, .p (.v (.int .i64 i)))] [(5, .box 29 [.p (.v (.int .i64 10)), .p (.v (.string t)), .p (.v (.int .i64 n)), .p (.v (.int .u32 a)), .p (.v (.int .i64 b))]), (6, .box 24 [.p (.v (.string ⟨#[]⟩)), .p (.v (.int .i64 0)), .p (.v (.slice none 0 0))]), (12, .box 24 [.p (.v (.string key)), .p (.v (.int .i64 port)), .row 40]), (40, .rowA 60 5 l.length none (gC (fK U (a, b) k) 0 l)), (77, .row 27 2 (delN (a, b) (l[k].nets.take i)).length ((delN (a, b) (l[k].nets.take i)).flatMap ntC))]) l[k].nets.length ?_ ?_
     ·refine ⟨_, zak id _ _ ?_ ?_ rfl, 0, by omega, rfl⟩
      ·(repeat (first | exact trivial | (refine ⟨⟨(by first | rfl | (simp; done) | (simp; omega)), rfl⟩, ?_⟩)))
      ·exact ⟨⟨rfl, rfl⟩, ⟨rfl, rfl⟩, ⟨rfl, rfl⟩, ⟨(by show _ = Slot.live (.rowA _ 5 l.length none (AV.renL _ (gC (fK U (a, b) k) 0 l))); rw [zbi rfl]; rfl), zbd l 0 (fun i hi => by omega)⟩, ⟨rfl, rfl⟩, trivial⟩
     ·rintro m2 st ⟨i, hi, rfl⟩
      refine G [5] ?_
      refine zab _ rfl (fun h => ?_) (fun h => ?_)
      ·have hlt : i < l[k].nets.length := by simp at h; omega
       clear h
       have hx : l[k].nets[i]? = some (l[k].nets[i]'hlt) := List.getElem?_eq_getElem hlt
       have hch := zav (f := ntC) (k := 2) (fun _ => rfl) hx
       have hle := zau (f := ntC) (k := 2) (fun _ => rfl) hlt
       have hnx := zcW (a, b) l[k].nets i hlt
       have hdl : (delN (a, b) (l[k].nets.take i)).length ≤ 1048576 := Nat.le_trans zbU.1 (by rw [List.length_take]; omega)
       generalize hD : delN (a, b) (l[k].nets.take i) = D at *
       obtain ⟨⟨xa, xb⟩, hxx⟩ : ∃ x, l[k].nets[i]'hlt = x := ⟨_, rfl⟩
       rw [hxx] at hch hnx
       obtain ⟨D2, hD2⟩ : ∃ D2, delN (a, b) (l[k].nets.take (i + 1)) = D2 := ⟨_, rfl⟩
       rw [hD2] at hnx
       refine G [5] ?_
       refine zaa (zad U58 sz27 (by omega) (by omega) rfl) rfl rfl ?_
       refine zaa (zaq U27 rfl sz27 (by rw [List.length_drop]; omega) (hch)) rfl rfl ?_
       refine zac (zaV 18 zr27 rfl) rfl rfl ⟨rfl, trivial⟩ ?_
       refine zac (zap (Y := .agg [.p (.v (.int .u32 xa)), .p (.v (.int .i64 xb))]) sz27 rfl rfl (Nat.eq_of_beq_eq_true rfl)) rfl rfl ⟨rfl, trivial⟩ ?_
       refine zaf ?_
       by_cases he : (xa, xb) = (a, b)
       ·rw [if_pos he, List.append_nil] at hnx
        refine G [5] ?_
        refine zaa (zam U27 rfl rfl (by kernel_rfl) (by kernel_rfl) (by kernel_rfl) (c := false) (by rw [zcv, decide_eq_true he]; rfl)) rfl rfl ?_
        refine G [4] ?_
        refine zaa (zas (by first | exact IntWalk.i64_in _ (by omega) | rfl)) rfl rfl ?_
        refine G [2, 9, 0] ?_
        refine ⟨m2 - 1, by omega, _, zak id _ _ ?_ ?_ rfl, i + 1, by omega, by rw [hD2, hnx]⟩
        ·(repeat (first | exact trivial | (refine ⟨⟨(by first | rfl | (simp; done) | (simp; omega)), rfl⟩, ?_⟩)))
        ·exact ⟨⟨rfl, rfl⟩, ⟨rfl, rfl⟩, ⟨rfl, rfl⟩, ⟨(by show _ = Slot.live (.rowA _ 5 l.length none (AV.renL _ (gC (fK U (a, b) k) 0 l))); rw [zbi rfl]; rfl), zbd l 0 (fun i hi => by omega)⟩, ⟨rfl, rfl⟩, trivial⟩
       ·rw [if_neg he] at hnx
        have hfm : D2.flatMap ntC = D.flatMap ntC ++ [.v (.int .u32 xa), .v (.int .i64 xb)] := by rw [hnx, List.flatMap_append]; rfl
        have hln : D2.length = D.length + 1 := by rw [hnx]; simp
        refine G [5] ?_
        refine zaa (zam U27 rfl rfl (by kernel_rfl) (by kernel_rfl) (by kernel_rfl) (c := true) (by rw [zcv, decide_eq_false he]; rfl)) rfl rfl ?_
        refine G [2] ?_
        skip
        refine G [3] ?_
        refine zac (zan 207 U58 sz27 zc27 (Nat.le_of_ble_eq_true rfl) (Nat.le_of_ble_eq_true rfl) rfl rfl rfl rfl (Nat.le_of_ble_eq_true rfl)) rfl rfl ⟨rfl, trivial⟩ ?_
        refine zac (zaF 208 U58 eo27 (zbl) (by simp only [maxLen]; omega) (by omega) rfl rfl) rfl rfl ⟨rfl, rfl, rfl, trivial⟩ ?_
        refine G [3] ?_
        refine zaa (zas (by first | exact IntWalk.i64_in _ (by omega) | rfl)) rfl rfl ?_
        refine G [2, 9, 0] ?_
        refine ⟨m2 - 1, by omega, _, zak (fun o => bif Nat.beq o 77 then 208 else o) [(1, .p (.v (.string pt))), (5, .ref 5 0), (6, .ref 6 0), (9, .fn 23 []), (12, .ref 12 0), (13, .p (.v (.int .i64 U))), (186, .p (.v (.int .i64 l.length))), (187, .p (.v (.int .i64 k))), (15, .p (.v (.int .i64 k))), (16, .row 77), (195, .p (.sl l[k].nets.length 2 (l[k].nets.flatMap ntC))), (196, .p (.v (.int .i64 l[k].nets.length))), (197, .p (.v (.int .i64 (i + 1 : Nat))))] [(5, .box 29 [.p (.v (.int .i64 10)), .p (.v (.string t)), .p (.v (.int .i64 n)), .p (.v (.int .u32 a)), .p (.v (.int .i64 b))]), (6, .box 24 [.p (.v (.string ⟨#[]⟩)), .p (.v (.int .i64 0)), .p (.v (.slice none 0 0))]), (12, .box 24 [.p (.v (.string key)), .p (.v (.int .i64 port)), .row 40]), (40, .rowA 60 5 l.length none (gC (fK U (a, b) k) 0 l)), (77, .row 27 2 (D.length + 1) (D.flatMap ntC ++ [.v (.int .u32 xa), .v (.int .i64 xb)]))] ?_ ?_ rfl, i + 1, by omega, by rw [hD2, hfm, hln]⟩
        ·(repeat (first | exact trivial | (refine ⟨⟨(by first | rfl | (simp; done) | (simp; omega)), rfl⟩, ?_⟩)))
        ·exact ⟨⟨rfl, rfl⟩, ⟨rfl, rfl⟩, ⟨rfl, rfl⟩, ⟨(by show _ = Slot.live (.rowA _ 5 l.length none (AV.renL _ (gC (fK U (a, b) k) 0 l))); rw [zbi rfl]; rfl), zbd l 0 (fun i hi => by omega)⟩, ⟨rfl, rfl⟩, trivial⟩
      have hge : i = l[k].nets.length := by simp at h; omega
      clear h
      subst hge
      rw [List.take_length]
      refine zbs ?_
      refine zdl ?_
      refine zdl ?_
      refine zer ?_
      refine zaH ?_
      refine zbr (zdx 16 77 rfl rfl) ?_
      skip
      refine G [5] ?_
      refine zac (zay U22 sz60 (by omega) (by omega) (by first | (simp only [Int.toNat_natCast, Nat.mul_one, Nat.zero_add]; rfl) | rfl)) rfl rfl ⟨rfl, trivial⟩ ?_
      refine fA zbo rfl rfl ?_
      refine zac (zbW (Y := .p (.sl (delN (a, b) l[k].nets).length 2 ((delN (a, b) l[k].nets).flatMap ntC))) (es := gC (fK U (a, b) (k + 1)) 0 l) sz58 rfl rfl (by rw [hcl]; omega) hst) rfl rfl ⟨rfl, trivial⟩ ?_
      refine G [2] ?_
      refine zaa (zas (by first | exact IntWalk.i64_in _ (by omega) | rfl)) rfl rfl ?_
      refine G [2, 9, 0] ?_
      refine ⟨m - 1, by omega, _, zak id [(1, .p (.v (.string pt))), (5, .ref 5 0), (6, .ref 6 0), (9, .fn 23 []), (12, .ref 12 0), (13, .p (.v (.int .i64 U))), (186, .p (.v (.int .i64 l.length))), (187, .p (.v (.int .i64 (k + 1 : Nat))))] [(5, .box 29 [.p (.v (.int .i64 10)), .p (.v (.string t)), .p (.v (.int .i64 n)), .p (.v (.int .u32 a)), .p (.v (.int .i64 b))]), (6, .box 24 [.p (.v (.string ⟨#[]⟩)), .p (.v (.int .i64 0)), .p (.v (.slice none 0 0))]), (12, .box 24 [.p (.v (.string key)), .p (.v (.int .i64 port)), .row 40]), (40, .rowA 60 5 l.length none (gC (fK U (a, b) (k + 1)) 0 l))] ?_ ?_ rfl, k + 1, by omega, .inl ⟨by omega, rfl⟩⟩
      ·(repeat (first | exact trivial | (refine ⟨⟨(by first | rfl | (simp; done) | (simp; omega)), rfl⟩, ?_⟩)))
      ·refine ⟨⟨rfl, rfl⟩, ⟨rfl, rfl⟩, ⟨rfl, rfl⟩, ⟨by show _ = Slot.live (.rowA _ 5 l.length none (AV.renL (fun o => o) _)); rw [zco]; rfl, zbd l 0 (fun i hi => by omega)⟩, trivial⟩
   ·exfalso
    simp at h
    omega
  ·refine G [5] ?_
   refine zab _ rfl (fun h => ?_) (fun h => ?_)
   ·have hlt : k < l.length := by simp at h; omega
    clear h
    have hne : k ≠ U := by omega
    have hcl := zes (zby U (a, b) k) l 0
    have hat0 := zgM (zby U (a, b) k) 4 (by decide) l 0 k hlt
    have hat : (gC (fK U (a, b) k) 0 l)[k * 5 + 4]? = some (.p (.sl l[k].nets.length 2 (l[k].nets.flatMap ntC))) := by
     rw [hat0, Nat.zero_add]
     unfold fK
     rw [if_neg (Nat.lt_irrefl k)]
     rfl
    have hpn := (hok l[k] (List.getElem_mem hlt)).2
    have hst : setR (gC (fK U (a, b) k) 0 l) (k * 5 + 4) [.p (.sl (delN (a, b) l[k].nets).length 2 ((delN (a, b) l[k].nets).flatMap ntC))] = gC (fK U (a, b) (k + 1)) 0 l := ze5 (zby U (a, b) k) 4 (by decide) _ l 0 k hlt (by
      rw [Nat.zero_add]; unfold fK; rw [if_neg (Nat.lt_irrefl k), if_pos (Nat.lt_succ_self k), if_neg hne]; rfl) (fun i hi hik => by
      rw [Nat.zero_add]; unfold fK
      by_cases h1 : i < k
      ·rw [if_pos h1, if_pos (by omega)]
      ·rw [if_neg h1, if_neg (by omega)])
    refine G [18] ?_
    refine zac (zay U22 sz60 (by omega) (by omega) (by first | (simp only [Int.toNat_natCast, Nat.mul_one, Nat.zero_add]; rfl) | rfl)) rfl rfl ⟨rfl, trivial⟩ ?_
    refine fA zbo rfl rfl ?_
    refine zac (zbf U58 rfl hat) rfl rfl ⟨rfl, trivial⟩ ?_
    refine zaa (zaL U58) rfl rfl ?_
    refine G [3] ?_
    refine zaM (zb8 16 77 27 2 rfl rfl) ?_
    refine zal (fun m2 st => ∃ i : Nat, m2 + i = l[k].nets.length ∧ st = St.of [(1, .p (.v (.string pt))), (5, .ref 5 0), (6, .ref 6 0), (9, .fn 23 []), (12, .ref 12 0), (13, .p (.v (.int .i64 U))), (186, .p (.v (.int .i64 l.length))), (187, .p (.v (.int .i64 k))), (15, .p (.v (.int .i64 k))), (16, .row 77), (195, .p (.sl l[k].nets.length 2 (l[k].nets.flatMap ntC))), (196, .p (.v (.int .i64 l[k].nets.length))), (197, .p (.v (.int .i64 i)))] [(5, .box 29 [.p (.v (.int .i64 10)), .p (.v (.string t)), .p (.v (.int .i64 n)), .p (.v (.int .u32 a)), .p (.v (.int .i64 b))]), (6, .box 24 [.p (.v (.string ⟨#[]⟩)), .p (.v (.int .i64 0)), .p (.v (.slice none 0 0))]), (12, .box 24 [.p (.v (.string key)), .p (.v (.int .i64 port)), .row 40]), (40, .rowA 60 5 l.length none (gC (fK U (a, b) k) 0 l)), (88, .row 27 2 (delN (a, b) l[U].nets).length ((delN (a, b) l[U].nets).flatMap ntC)), (77, .row 27 2 (delN (a, b) (l[k].nets.take i)).length ((delN (a, b) (l[k].nets.take i)).flatMap ntC))]) l[k].nets.length ?_ ?_
    ·refine ⟨_, zak id _ _ ?_ ?_ rfl, 0, by omega, rfl⟩
     ·(repeat (first | exact trivial | (refine ⟨⟨(by first | rfl | (simp; done) | (simp; omega)), rfl⟩, ?_⟩)))
     ·exact ⟨⟨rfl, rfl⟩, ⟨rfl, rfl⟩, ⟨rfl, rfl⟩, ⟨(by show _ = Slot.live (.rowA _ 5 l.length none (AV.renL _ (gC (fK U (a, b) k) 0 l))); rw [zbi rfl]; rfl), zct l 0⟩, ⟨rfl, rfl⟩, ⟨rfl, rfl⟩, trivial⟩
    ·rintro m2 st ⟨i, hi, rfl⟩
     refine G [5] ?_
     refine zab _ rfl (fun h => ?_) (fun h => ?_)
     ·have hlt : i < l[k].nets.length := by simp at h; omega
      clear h
      have hx : l[k].nets[i]? = some (l[k].nets[i]'hlt) := List.getElem?_eq_getElem hlt
      have hch := zav (f := ntC) (k := 2) (fun _ => rfl) hx
      have hle := zau (f := ntC) (k := 2) (fun _ => rfl) hlt
      have hnx := zcW (a, b) l[k].nets i hlt
      have hdl : (delN (a, b) (l[k].nets.take i)).length ≤ 1048576 := Nat.le_trans zbU.1 (by rw [List.length_take]; omega)
      generalize hD : delN (a, b) (l[k].nets.take i) = D at *
      obtain ⟨⟨xa, xb⟩, hxx⟩ : ∃ x, l[k].nets[i]'hlt = x := ⟨_, rfl⟩
      rw [hxx] at hch hnx
      obtain ⟨D2, hD2⟩ : ∃ D2, delN (a, b) (l[k].nets.take (i + 1)) = D2 := ⟨_, rfl⟩
      rw [hD2] at hnx
      refine G [5] ?_
      refine zaa (zad U58 sz27 (by omega) (by omega) rfl) rfl rfl ?_
      refine zaa (zaq U27 rfl sz27 (by rw [List.length_drop]; omega) (hch)) rfl rfl ?_
      refine zac (zaV 18 zr27 rfl) rfl rfl ⟨rfl, trivial⟩ ?_
      refine zac (zap (Y := .agg [.p (.v (.int .u32 xa)), .p (.v (.int .i64 xb))]) sz27 rfl rfl (Nat.eq_of_beq_eq_true rfl)) rfl rfl ⟨rfl, trivial⟩ ?_
      refine zaf ?_
      by_cases he : (xa, xb) = (a, b)
      ·rw [if_pos he, List.append_nil] at hnx
       refine G [5] ?_
       refine zaa (zam U27 rfl rfl (by kernel_rfl) (by kernel_rfl) (by kernel_rfl) (c := false) (by rw [zcv, decide_eq_true he]; rfl)) rfl rfl ?_
       refine G [4] ?_
       refine zaa (zas (by first | exact IntWalk.i64_in _ (by omega) | rfl)) rfl rfl ?_
       refine G [2, 9, 0] ?_
       refine ⟨m2 - 1, by omega, _, zak id _ _ ?_ ?_ rfl, i + 1, by omega, by rw [hD2, hnx]⟩
       ·(repeat (first | exact trivial | (refine ⟨⟨(by first | rfl | (simp; done) | (simp; omega)), rfl⟩, ?_⟩)))
       ·exact ⟨⟨rfl, rfl⟩, ⟨rfl, rfl⟩, ⟨rfl, rfl⟩, ⟨(by show _ = Slot.live (.rowA _ 5 l.length none (AV.renL _ (gC (fK U (a, b) k) 0 l))); rw [zbi rfl]; rfl), zct l 0⟩, ⟨rfl, rfl⟩, ⟨rfl, rfl⟩, trivial⟩
      ·rw [if_neg he] at hnx
       have hfm : D2.flatMap ntC = D.flatMap ntC ++ [.v (.int .u32 xa), .v (.int .i64 xb)] := by rw [hnx, List.flatMap_append]; rfl
       have hln : D2.length = D.length + 1 := by rw [hnx]; simp
       refine G [5] ?_
       refine zaa (zam U27 rfl rfl (by kernel_rfl) (by kernel_rfl) (by kernel_rfl) (c := true) (by rw [zcv, decide_eq_false he]; rfl)) rfl rfl ?_
       refine G [2] ?_
       skip
       refine G [3] ?_
       refine zac (zan 207 U58 sz27 zc27 (Nat.le_of_ble_eq_true rfl) (Nat.le_of_ble_eq_true rfl) rfl rfl rfl rfl (Nat.le_of_ble_eq_true rfl)) rfl rfl ⟨rfl, trivial⟩ ?_
       refine zac (zaF 208 U58 eo27 (zbl) (by simp only [maxLen]; omega) (by omega) rfl rfl) rfl rfl ⟨rfl, rfl, rfl, trivial⟩ ?_
       refine G [3] ?_
       refine zaa (zas (by first | exact IntWalk.i64_in _ (by omega) | rfl)) rfl rfl ?_
       refine G [2, 9, 0] ?_
       refine ⟨m2 - 1, by omega, _, zak (fun o => bif Nat.beq o 77 then 208 else o) [(1, .p (.v (.string pt))), (5, .ref 5 0), (6, .ref 6 0), (9, .fn 23 []), (12, .ref 12 0), (13, .p (.v (.int .i64 U))), (186, .p (.v (.int .i64 l.length))), (187, .p (.v (.int .i64 k))), (15, .p (.v (.int .i64 k))), (16, .row 77), (195, .p (.sl l[k].nets.length 2 (l[k].nets.flatMap ntC))), (196, .p (.v (.int .i64 l[k].nets.length))), (197, .p (.v (.int .i64 (i + 1 : Nat))))] [(5, .box 29 [.p (.v (.int .i64 10)), .p (.v (.string t)), .p (.v (.int .i64 n)), .p (.v (.int .u32 a)), .p (.v (.int .i64 b))]), (6, .box 24 [.p (.v (.string ⟨#[]⟩)), .p (.v (.int .i64 0)), .p (.v (.slice none 0 0))]), (12, .box 24 [.p (.v (.string key)), .p (.v (.int .i64 port)), .row 40]), (40, .rowA 60 5 l.length none (gC (fK U (a, b) k) 0 l)), (88, .row 27 2 (delN (a, b) l[U].nets).length ((delN (a, b) l[U].nets).flatMap ntC)), (77, .row 27 2 (D.length + 1) (D.flatMap ntC ++ [.v (.int .u32 xa), .v (.int .i64 xb)]))] ?_ ?_ rfl, i + 1, by omega, by rw [hD2, hfm, hln]⟩
       ·(repeat (first | exact trivial | (refine ⟨⟨(by first | rfl | (simp; done) | (simp; omega)), rfl⟩, ?_⟩)))
       ·exact ⟨⟨rfl, rfl⟩, ⟨rfl, rfl⟩, ⟨rfl, rfl⟩, ⟨(by show _ = Slot.live (.rowA _ 5 l.length none (AV.renL _ (gC (fK U (a, b) k) 0 l))); rw [zbi rfl]; rfl), zct l 0⟩, ⟨rfl, rfl⟩, ⟨rfl, rfl⟩, trivial⟩
     have hge : i = l[k].nets.length := by simp at h; omega
     clear h
     subst hge
     rw [List.take_length]
     refine zbs ?_
     refine zdl ?_
     refine zdl ?_
     refine zer ?_
     refine zaH ?_
     refine zbr (zdx 16 77 rfl rfl) ?_
     skip
     refine G [5] ?_
     refine zac (zay U22 sz60 (by omega) (by omega) (by first | (simp only [Int.toNat_natCast, Nat.mul_one, Nat.zero_add]; rfl) | rfl)) rfl rfl ⟨rfl, trivial⟩ ?_
     refine fA zbo rfl rfl ?_
     refine zac (zbW (Y := .p (.sl (delN (a, b) l[k].nets).length 2 ((delN (a, b) l[k].nets).flatMap ntC))) (es := gC (fK U (a, b) (k + 1)) 0 l) sz58 rfl rfl (by rw [hcl]; omega) hst) rfl rfl ⟨rfl, trivial⟩ ?_
     refine G [2] ?_
     refine zaa (zas (by first | exact IntWalk.i64_in _ (by omega) | rfl)) rfl rfl ?_
     refine G [2, 9, 0] ?_
     refine ⟨m - 1, by omega, _, zak id [(1, .p (.v (.string pt))), (5, .ref 5 0), (6, .ref 6 0), (9, .fn 23 []), (12, .ref 12 0), (13, .p (.v (.int .i64 U))), (186, .p (.v (.int .i64 l.length))), (187, .p (.v (.int .i64 (k + 1 : Nat))))] [(5, .box 29 [.p (.v (.int .i64 10)), .p (.v (.string t)), .p (.v (.int .i64 n)), .p (.v (.int .u32 a)), .p (.v (.int .i64 b))]), (6, .box 24 [.p (.v (.string ⟨#[]⟩)), .p (.v (.int .i64 0)), .p (.v (.slice none 0 0))]), (12, .box 24 [.p (.v (.string key)), .p (.v (.int .i64 port)), .row 40]), (40, .rowA 60 5 l.length none (gC (fK U (a, b) (k + 1)) 0 l)), (88, .row 27 2 (delN (a, b) l[U].nets).length ((delN (a, b) l[U].nets).flatMap ntC))] ?_ ?_ rfl, k + 1, by omega, .inr ⟨by omega, rfl⟩⟩
     ·(repeat (first | exact trivial | (refine ⟨⟨(by first | rfl | (simp; done) | (simp; omega)), rfl⟩, ?_⟩)))
     ·refine ⟨⟨rfl, rfl⟩, ⟨rfl, rfl⟩, ⟨rfl, rfl⟩, ⟨by show _ = Slot.live (.rowA _ 5 l.length none (AV.renL (fun o => o) _)); rw [zco]; rfl, zct l 0⟩, ⟨rfl, rfl⟩, trivial⟩
   have hge : k = l.length := by simp at h; omega
   clear h
   subst hge
   have hcl := zes (zby U (a, b) l.length) l 0
   have hat0 := zgM (zby U (a, b) l.length) 4 (by decide) l 0 U hkU
   have hat : (gC (fK U (a, b) l.length) 0 l)[U * 5 + 4]? = some (.row 88) := by
    rw [hat0, Nat.zero_add]
    unfold fK
    rw [if_pos hkU, if_pos rfl]
    rfl
   have hDl : (delN (a, b) l[U].nets).length ≤ 1048576 := by omega
   refine G [7] ?_
   refine zac (zay U22 sz60 (by omega) (by omega) (by first | (simp only [Int.toNat_natCast, Nat.mul_one, Nat.zero_add]; rfl) | rfl)) rfl rfl ⟨rfl, trivial⟩ ?_
   refine fA zbo rfl rfl ?_
   refine zac (zbf U58 rfl hat) rfl rfl ⟨rfl, trivial⟩ ?_
   refine zac (zaG U58) rfl rfl ⟨rfl, trivial⟩ ?_
   refine zaa (zbk (c := false) (by simp; omega)) rfl rfl ?_
   refine G [2] ?_
   have hSo := sortedN_s (delN (a, b) l[U].nets ++ [(a, b)]) (by rw [List.length_append]; simp; omega)
   have hap : (delN (a, b) l[U].nets).flatMap ntC ++ [.v (.int .u32 a), .v (.int .i64 b)] = (delN (a, b) l[U].nets ++ [(a, b)]).flatMap ntC := by rw [List.flatMap_append]; rfl
   have hSl : (zb6 gtN (delN (a, b) l[U].nets ++ [(a, b)])).length = (delN (a, b) l[U].nets).length + 1 := by rw [zfx]; simp
   rw [show (delN (a, b) l[U].nets ++ [(a, b)]).length = (delN (a, b) l[U].nets).length + 1 by simp] at hSo
   obtain ⟨ns, hns⟩ : ∃ ns, zb6 gtN (delN (a, b) l[U].nets ++ [(a, b)]) = ns := ⟨_, rfl⟩
   rw [hns] at hSo hSl
   rw [hns]
   have hst : setR (gC (fK U (a, b) l.length) 0 l) (U * 5 + 4) [.row 243] = gC (fK3 U (a, b) l.length) 0 l := ze5 (zby U (a, b) l.length) 4 (by decide) (.row 243) l 0 U hkU (by
     rw [Nat.zero_add]; unfold fK fK3; rw [if_pos hkU, if_pos rfl, if_pos rfl]; rfl) (fun i hi hne => by rw [Nat.zero_add]; unfold fK3; rw [if_neg hne])
   have hV := gC_V U (a, b) l ns hkU
   obtain ⟨FV, hFV⟩ : ∃ FV, ((dnL (a, b) l).set U { l[U] with nets := ns }).flatMap PE.pv = FV := ⟨_, rfl⟩
   rw [hFV] at hV ⊢
   rw [hSl] at hV
   generalize (delN (a, b) l[U].nets).length = N at *
   generalize (delN (a, b) l[U].nets).flatMap ntC = NC at *
   generalize (delN (a, b) l[U].nets ++ [(a, b)]).flatMap ntC = NC2 at *
   generalize ns.flatMap ntC = NC3 at *
   refine G [8] ?_
   refine zac (zay U22 sz60 (by omega) (by omega) (by first | (simp only [Int.toNat_natCast, Nat.mul_one, Nat.zero_add]; rfl) | rfl)) rfl rfl ⟨rfl, trivial⟩ ?_
   refine fA zbo rfl rfl ?_
   refine zac (zbf U58 rfl hat) rfl rfl ⟨rfl, trivial⟩ ?_
   refine G [2] ?_
   refine zac (zan 241 U58 sz27 zc27 (Nat.le_of_ble_eq_true rfl) (Nat.le_of_ble_eq_true rfl) rfl rfl rfl rfl (Nat.le_of_ble_eq_true rfl)) rfl rfl ⟨rfl, trivial⟩ ?_
   refine zac (zaF 242 U58 eo27 (zbl) (by simp only [maxLen]; omega) (by omega) rfl hap) rfl rfl ⟨rfl, rfl, rfl, trivial⟩ ?_
   refine r_callW (fun n => 243 + 1000 * n) (hSo) rfl rfl func29 rfl rfl rfl rfl rfl rfl rfl (by first | exact trivial | exact ⟨rfl, trivial⟩ | exact ⟨rfl, rfl, trivial⟩ | exact ⟨rfl, rfl, rfl, rfl, rfl, trivial⟩) rfl rfl rfl ?_
   refine zac (zay U22 sz60 (by omega) (by omega) (by first | (simp only [Int.toNat_natCast, Nat.mul_one, Nat.zero_add]; rfl) | rfl)) rfl rfl ⟨rfl, trivial⟩ ?_
   refine fA zbo rfl rfl ?_
   refine zac (zbW (Y := .row 243) (es := gC (fK3 U (a, b) l.length) 0 l) sz58 rfl rfl (by rw [hcl]; omega) hst) rfl rfl ⟨rfl, trivial⟩ ?_
   refine zaf ⟨by kernel_rfl, ?_⟩
   refine zba (zc4 (o := 40) (fam := [(243, .live (.row 27 2 (N + 1) NC3))]) hV (by intro p hp; simp only [List.mem_cons, List.not_mem_nil, or_false] at hp; subst hp; rfl) rfl rfl (by simp)) ?_
   refine G [9, 9, 0] ?_
   refine yT (fun _ => 40) ?_ ?_
   ·exact rfl
   ·exact ⟨⟨rfl, rfl⟩, trivial⟩
end Go.Proofs.YtkdfdcodkeclmaaGreatDoor
