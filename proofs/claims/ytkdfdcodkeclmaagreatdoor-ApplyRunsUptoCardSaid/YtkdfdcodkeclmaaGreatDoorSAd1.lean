/- strconv.Itoa, strconv.Atoi, addr.small, addr.Number, the reference's NumberOf, over data. -/
import Derived.Test.YtkdfdcodkeclmaaGreatDoorSNuZ
import Derived.Test.YtkdfdcodkeclmaaGreatDoorSUtZ
import Derived.Test.YtkdfdcodkeclmaaGreatDoorSShelf
import Derived.WalkSmall
namespace Go.Proofs.YtkdfdcodkeclmaaGreatDoor
open Tryz
open Go.RowKit Go.Sort
set_option linter.unusedVariables false
set_option linter.unusedSimpArgs false
set_option maxRecDepth 100000
theorem GI.tab {w : World} (h : GI w) : Lib.TabIs prog w "internal/strconv.uint64pow10" .u64 Lib.pow10Tab := by
 obtain ⟨t, fz, h1⟩ := h.2 _ (List.mem_cons_self ..)
 exact var_of_heap qK h1
theorem GI.err {w : World} (h : GI w) {g : Nat} (hg : g ∈ gErr) : ∃ ev, w.cell? ⟨g, 0, none⟩ = some ev ∧ (ev = .nilIface ∨ ∃ te pe, ev = .iface te pe) := by
 obtain ⟨ev, t, fz, h1, h2⟩ := h.1 g hg
 exact ⟨ev, cell_of_row w g 0 #[ev] t fz h1, h2⟩
/-- a call that answers a value and turns nothing -/
theorem zeu {P : Program} {f : FuncId} {args : List AV} {vs : List Value} {res : AV} (ha : zeU args = some vs) (h : ∀ w : World, GI w → Calls P f vs.toArray w fun e w' => ∃ r, e = .returned r ∧ (∀ S m w, Rep S m w res r) ∧ Below w.heap.size w w') : Fn P f args res [] := by
 intro w A us hA hG hus
 rw [zdF ha hus]
 refine (h w hG).mono ?_
 rintro e w' ⟨r, rfl, hr, hb⟩
 exact ⟨r, rfl, A, fun _ => none, hr _ _ _, hb, fun b hb => .inl hb, fun b h => Nat.lt_of_lt_of_le (hA b h) hb.size, fun o _ => rfl, fun o ob ho => (by cases ho), fun o o' ob ob' v v' b ho => (by cases ho), hG⟩
theorem grow_below (w : World) (k : Nat) (os : Array Obj) : Below w.heap.size w (grow (w.drewN k) os) :=
 (zdm (Below.refl _ w) k).trans ⟨rfl, rfl, rfl, by simp [grow], fun b hb => by
  show (w.heap ++ os)[b]? = w.heap[b]?
  rw [Array.getElem?_append_left hb]⟩
theorem itoa_s (n : Int) (h0 : -9223372036854775808 ≤ n) (h1 : n ≤ 9223372036854775807) : Fn prog 124 [.p (.v (.int .i64 n))] (.p (.v (.string (itoS n)))) [] :=
 zeu (vs := [.int .i64 n]) rfl fun w hG => (strconv_Itoa n h0 h1 w hG.tab).mono fun e w' ⟨he, k, os, hw⟩ => ⟨_, he, fun S m w => zbw rfl, by rw [hw]; exact grow_below w k os⟩
theorem zgf {S : Nat → Prop} {m : Nat → Option Value} {w : World} {x y : AV} {u v : Value} (h1 : Rep S m w x u) (h2 : Rep S m w y v) : Rep S m w (.tup [x, y]) (.tuple #[u, v]) := by
 simp only [Rep, RepL]
 exact ⟨[u, v], rfl, u, [v], rfl, h1, v, [], rfl, h2, rfl⟩
theorem atoi_ok (s : ByteArray) (v : Int) (hs : s.size ≤ 140737488351232) (h : Lib.atoiAll s.data.toList = .ok v) : Fn prog 123 [.p (.v (.string s))] (.tup [.p (.v (.int .i64 v)), .p (.v .nilIface)]) [] :=
 zeu (vs := [.string s]) rfl fun w hG => (strconv_Atoi_ok s (by omega) v h w).mono fun e w' ⟨he, hw⟩ => ⟨_, he, fun S m w => zgf (zbw rfl) (zbw rfl), by
  rcases hw with rfl | ⟨t, rfl⟩
  ·exact Below.refl _ _
  ·exact Lib.bytesWorld_below _ _ _⟩
theorem atoi_bad (s : ByteArray) (hs : s.size ≤ 140737488351232) (h : ∀ v, Lib.atoiAll s.data.toList ≠ .ok v) : ∃ n : Int, Fn prog 123 [.p (.v (.string s))] (.tup [.p (.v (.int .i64 n)), .sat isIfc]) [] := by
 cases hr : Lib.atoiAll s.data.toList
 ·exact absurd hr (h _)
 ·refine ⟨0, zeu (vs := [.string s]) rfl fun w hG => ?_⟩
  obtain ⟨ev, h1, h2⟩ := hG.err (g := 1) qD
  exact (Any.strconv_Atoi_syntax Tryz.laysC172 s (by omega) hr ev w h1 h2).mono fun e w' ⟨N, he, _, _, hb⟩ => ⟨_, he, fun S m w => zgf (zbw rfl) (by simp only [Rep]; exact ⟨rfl, rfl⟩), hb⟩
 ·refine ⟨Lib.atoiSat s.data.toList, zeu (vs := [.string s]) rfl fun w hG => ?_⟩
  obtain ⟨ev, h1, h2⟩ := hG.err (g := 2) qD
  exact (Any.strconv_Atoi_range Tryz.laysC172 s (by omega) hr ev w h1 h2).mono fun e w' ⟨N, he, _, _, hb⟩ => ⟨_, he, fun S m w => zgf (zbw rfl) (by simp only [Rep]; exact ⟨rfl, rfl⟩), hb⟩
def smV (s : ByteArray) : Int := if canS s = true then (valS s : Int) else 0
set_option maxHeartbeats 1000000 in
theorem small_s (s : ByteArray) (most : Int) (hs : s.size ≤ 140737488351232) : Fn prog 114 [.p (.v (.string s)), .p (.v (.int .i64 most))] (.tup [.p (.v (.int .i64 (smV s))), .p (.v (.bool (numB s most)))]) [] := by
 obtain ⟨V, hV⟩ : ∃ V, smV s = V := ⟨_, rfl⟩
 obtain ⟨B, hB⟩ : ∃ B, numB s most = B := ⟨_, rfl⟩
 rw [hV, hB]
 unfold smV at hV
 unfold numB at hB
 refine zaw func114 rfl (qE rfl) fun w0 A => zaa<| tx<| wA rfl<| wA rfl<| zab<| zaa<| zaa<| tx<| wM rfl<| wP (zbM U9) rfl<| wP za8 rfl<| wM rfl<| mb2 _ rfl rfl (fun hb => (zam (r := .p _))) (fun _ => trivial) ?_
 refine mb2 _ rfl rfl (fun hb => (zbM U9)) (fun _ => trivial) ?_
 refine mb2 _ rfl rfl (fun hb => zbA) (fun _ => trivial) ?_
 refine wP (a_or (by first | exact id | (simp; done) | grind)) rfl ?_
 refine wM rfl<| mb2 _ rfl rfl (fun hb => (zam (r := .p _))) (fun _ => trivial) ?_
 refine mb2 _ rfl rfl (fun hb => (zbM U9)) (fun _ => trivial) ?_
 refine mb2 _ rfl rfl (fun hb => zbA) (fun _ => trivial) ?_
 refine mb2 _ rfl rfl (fun hb => (zam (r := .p _))) (fun _ => trivial) ?_
 refine mb2 _ rfl rfl (fun hb => (zam (r := .p _))) (fun _ => trivial) ?_
 refine mb2 _ rfl rfl (fun hb => (zcl U9 qO (zgd (s := s) (i := 0) (by simp at hb; omega)))) (fun _ => trivial) ?_
 refine mb2 _ rfl rfl (fun hb => zaz) (fun _ => trivial) ?_
 refine r_mb3 _ rfl rfl (.mb _ _ _ _ (by first | exact id | simp_all) (.keep _ _ _ (.keep _ _ _ .nil))) (fun hb => (a_and (by first | exact id | (simp_all; done) | grind))) (fun _ => trivial)<| wP (a_or (by first | exact id | (simp; done) | grind)) rfl ?_
 refine zab<| zaf<| zaq _ rfl (fun h => ?_) (fun h => ?_)
 ·have hc : canS s = false := by
   simp only [Bool.or_eq_true, Bool.and_eq_true, decide_eq_true_eq, beq_iff_eq] at h
   refine canS_not ?_
   rcases h with (h | h) | ⟨h1, h2⟩
   ·exact .inl qO
   ·exact .inr (.inl qO)
   ·exact .inr (.inr (.inl ⟨qO, h2⟩))
  rw [hc] at hV hB
  subst hV
  subst hB
  refine zaa<| tx<| wA rfl<| wA rfl<| zab<| zai<| zau<| fT (fun o => o) (.tmp _ _ _ _ rfl (.tmp _ _ _ _ rfl .nil)) ?_ ?_
  ·exact rfl
  ·exact trivial
 have h0 : s.size ≠ 0 ∧ s.size ≤ 5 ∧ (1 < s.size → sAt s 0 ≠ 48) := by
  simp only [Bool.or_eq_false_iff, Bool.and_eq_false_iff, decide_eq_false_iff_not, beq_eq_false_iff_ne] at h
  obtain ⟨⟨h1, h2⟩, h3⟩ := h
  exact ⟨by omega, by omega, fun h4 => by rcases h3 with h3 | h3 <;> first | omega | exact h3⟩
 clear h
 obtain ⟨z0, z5, zz⟩ := h0
 refine zae<| zaa<| tx<| wA rfl<| zab<| zaa<| zaa<| tx<| wM rfl<| wP (zbM U9) rfl<| wM rfl<| zab<| zak<| zaN (fun m st => ∃ i : Nat, m + i = s.size ∧ (∀ j, j < i → digS (sAt s j) = true) ∧ st = St.of [(0, .p (.v (.string s))), (1, .p (.v (.int .i64 most))), (6, .p (.v (.int .i64 (valT s i)))), (27, .p (.v (.int .i64 s.size))), (28, .p (.v (.int .i64 i)))] []) s.size ?_ ?_
 ·refine ⟨_, zaJ id _ _ ?_ ?_ rfl, 0, qO, qO, rfl⟩
  ·refine ⟨⟨rfl, rfl⟩, ⟨rfl, rfl⟩, ⟨?_, rfl⟩, ⟨rfl, rfl⟩, ⟨rfl, rfl⟩, trivial⟩
   rw [valT_zero]; rfl
  ·trivial
 rintro m st ⟨i, hi, hf, rfl⟩
 refine zaa<| tx<| wP za8 rfl<| zab<| zaa<| zaq _ rfl (fun h => ?_) (fun h => ?_)
 ·have hlt : i < s.size := by simp at h; omega
  clear h
  have g1 := zgd hlt
  have hsu := @valT_succ s i hlt
  have hn := @canS_not s
  have hb := sAt_B hlt
  have hv0 := valT_in (Nat.le_of_lt hlt) qO hf
  generalize hc : sAt s i = c at *
  generalize valT s i = v at *
  refine zae<| zaa<| zak<| zaa<| tx<| wM rfl<| wA rfl<| zab<| zaa<| zaa<| tx<| wM rfl<| wM rfl<| wP (zcl U9 (by omega) (by rw [Int.toNat_natCast]; exact g1)) rfl ?_
  refine wP za8 rfl<| wM rfl<| mb2 _ rfl rfl (fun hb => (zam (r := .p _))) (fun _ => trivial) ?_
  refine mb2 _ rfl rfl (fun hb => (zam (r := .p _))) (fun _ => trivial) ?_
  refine mb2 _ rfl rfl (fun hb => (zcl U9 (by omega) (by rw [Int.toNat_natCast]; exact g1))) (fun _ => trivial) ?_
  refine mb2 _ rfl rfl (fun hb => zbA) (fun _ => trivial) ?_
  refine wP (a_or (by first | exact id | (simp; done) | grind)) rfl ?_
  refine zab<| zaf<| zaq _ rfl (fun h => ?_) (fun h => ?_)
  ·have hd : digS c = false := by
    unfold digS
    simp at h ⊢
    omega
   rw [hn (.inr (.inr (.inr ⟨i, hlt, by rw [hc]; exact hd⟩)))] at hV hB
   subst hV
   subst hB
   refine zaa<| tx<| wA rfl<| wA rfl<| zab<| zai<| zau<| zaU<| zau<| zau<| zaU<| zau<| fT (fun o => o) (.tmp _ _ _ _ rfl (.tmp _ _ _ _ rfl .nil)) ?_ ?_
   ·exact rfl
   ·exact trivial
  have hd : digS c = true := by
   unfold digS
   simp at h ⊢
   omega
  clear h
  have hs1 := hsu hd
  have hd' := hd
  unfold digS at hd'
  simp only [Bool.and_eq_true, decide_eq_true_eq] at hd'
  refine zae<| zaf<| tx<| wM rfl<| wP (a_mul (by first | exact IntWalk.i64_in _ (by omega) | rfl)) rfl ?_
  refine wM rfl<| wM rfl<| wP (zcl U9 (by omega) (by rw [Int.toNat_natCast]; exact g1)) rfl ?_
  refine wP (zeA (by first | exact IntWalk.u8_in _ (by omega) | rfl)) rfl ?_
  refine wP (zdR underlying5 U3 (by first | exact IntWalk.i64_in _ (by omega) | rfl)) rfl ?_
  refine wP (za5 (by first | exact IntWalk.i64_in _ (by omega) | rfl)) rfl ?_
  refine wA rfl<| zab<| zbb<| zaf<| tx<| wP (za5 (by first | exact IntWalk.i64_in _ (by omega) | rfl)) rfl ?_
  refine wM rfl<| zab<| zaf<| ⟨m - 1, qO, _, zaJ id _ _ ?_ ?_ rfl, i + 1, qO, ?_, rfl⟩
  ·refine ⟨⟨rfl, rfl⟩, ⟨rfl, rfl⟩, ⟨?_, rfl⟩, ⟨rfl, rfl⟩, ⟨rfl, rfl⟩, trivial⟩
   rw [hs1]; rfl
  ·trivial
  ·intro j hj
   by_cases e : j = i
   ·subst e; rw [hc]; exact hd
   ·exact hf j qO
 have hge : i = s.size := by simp at h; omega
 clear h
 subst hge
 have hcan := canS_dig z0 z5 zz hf
 rw [hcan] at hV hB
 rw [if_pos rfl] at hV
 rw [valT_all, hV]
 rw [hV, Bool.true_and] at hB
 subst hB
 refine zaI<| zaa<| tx<| wM rfl<| wM rfl<| wM rfl<| wP a_leq rfl<| wA rfl<| wA rfl<| zab<| zai<| fT (fun o => o) (.tmp _ _ _ _ rfl (.tmp _ _ _ _ rfl .nil)) ?_ ?_
 ·exact rfl
 ·exact trivial
def numR (s : ByteArray) (most : Int) : AV := .tup [.p (.v (.int .i64 (numV s most))), .p (.v (.int .i64 (numE s most)))]
theorem zfu {s : ByteArray} {most : Int} (h : numB s most = true) : numR s most = .tup [.p (.v (.int .i64 (valS s : Nat))), .p (.v (.int .i64 0))] := by unfold numR numV numE; rw [h]; rfl
theorem zfd {s : ByteArray} {most : Int} (h : numB s most = false) : numR s most = .tup [.p (.v (.int .i64 0)), .p (.v (.int .i64 3))] := by unfold numR numV numE; rw [h]; rfl
theorem zeq {s : ByteArray} {most : Int} (h : numB s most = true) : canS s = true ∧ (valS s : Int) ≤ most := by
 unfold numB at h
 simpa using h
theorem number_s (s : ByteArray) (most : Int) (hs : s.size ≤ 140737488351232) : Fn prog 77 [.p (.v (.string s)), .p (.v (.int .i64 most))] (numR s most) [] := by
 have hC := small_s s most hs
 cases hB : numB s most with
 | true =>
  rw [zfu hB]
  rw [hB, show smV s = (valS s : Nat) by unfold smV; rw [if_pos (zeq hB).1]] at hC
  refine zaw func77 rfl (qE rfl) fun w0 A => zaa<| tx<| wA rfl<| wA rfl<| zab<| zaa<| tx<| wM rfl<| wM rfl<| yV (fun n => 11 + 1000 * n) (hC) func114 ?_
  refine wP (zam (r := .tup _)) rfl<| wP (zal rfl) rfl<| wP (zal rfl) rfl<| wA rfl<| wA rfl<| zab<| zaa<| zaa<| tx<| wM rfl<| wP zba rfl<| zab<| zaf<| zaq _ rfl (fun h => ?_) (fun h => ?_)
  ·cases h
  refine zae<| zaa<| tx<| wM rfl<| wA rfl<| wA rfl<| zab<| zai<| fT (fun o => o) (.tmp _ _ _ _ rfl (.tmp _ _ _ _ rfl .nil)) ?_ ?_
  ·exact rfl
  ·exact trivial
 | false =>
  rw [zfd hB]
  rw [hB] at hC
  refine zaw func77 rfl (qE rfl) fun w0 A => zaa<| tx<| wA rfl<| wA rfl<| zab<| zaa<| tx<| wM rfl<| wM rfl<| yV (fun n => 11 + 1000 * n) (hC) func114 ?_
  refine wP (zam (r := .tup _)) rfl<| wP (zal rfl) rfl<| wP (zal rfl) rfl<| wA rfl<| wA rfl<| zab<| zaa<| zaa<| tx<| wM rfl<| wP zba rfl<| zab<| zaf<| zaq _ rfl (fun h => ?_) (fun h => ?_)
  ·refine zaa<| tx<| wA rfl<| wA rfl<| zab<| zai<| zau<| fT (fun o => o) (.tmp _ _ _ _ rfl (.tmp _ _ _ _ rfl .nil)) ?_ ?_
   ·exact rfl
   ·exact trivial
  ·cases h
set_option maxHeartbeats 1000000 in
theorem refNum_s (s : ByteArray) (most : Int) (hs : s.size ≤ 140737488351232) : Fn prog 93 [.p (.v (.string s)), .p (.v (.int .i64 most))] (numR s most) [] := by
 by_cases hA : ∃ v, Lib.atoiAll s.data.toList = .ok v
 rotate_left
 ·obtain ⟨n, hC⟩ := atoi_bad s hs fun v h => hA ⟨v, h⟩
  have hB : numB s most = false := by
   cases h : numB s most with
   | false => rfl
   | true => exact absurd ⟨_, (zgr (zeq h).1).1⟩ hA
  rw [zfd hB]
  refine zaw func93 rfl (qE rfl) fun w0 A => zaa<| tx<| wA rfl<| wA rfl<| zab<| zaa<| tx<| wM rfl<| yV (fun n => 10 + 1000 * n) (hC) func123 ?_
  refine wP (zam (r := .tup _)) rfl<| wP (zal rfl) rfl<| wP (zal rfl) rfl<| wA rfl<| wP (zas (r := .sat _)) rfl<| zab<| zaa<| zaa<| tx<| wP (zam (r := .sat _)) rfl<| wP (a_ifneqI underlying112) rfl<| wM rfl<| wS rfl<| wS rfl<| wS rfl<| wP zao rfl<| wM rfl<| wS rfl<| wS rfl<| wP zao rfl<| wM rfl<| wS rfl<| wS rfl<| wS rfl ?_
  refine wP zao rfl<| wM rfl<| wS rfl<| wS rfl<| wS rfl<| wS rfl<| wP zao rfl<| zab<| zaf<| zaq _ rfl (fun h => ?_) (fun h => ?_)
  ·refine zaa<| tx<| wA rfl<| wA rfl<| zab<| zai<| zau<| fT (fun o => o) (.tmp _ _ _ _ rfl (.tmp _ _ _ _ rfl .nil)) ?_ ?_
   ·exact rfl
   ·exact trivial
  ·cases h
 obtain ⟨v, hv⟩ := hA
 have hC := atoi_ok s v hs hv
 obtain ⟨v0, v1⟩ := Lib.atoiAll_bounds hv
 have hI := itoa_s v v0 v1
 have hk := @canS_num s v
 have hk2 := @zgr s
 obtain ⟨R, hR⟩ : ∃ R, numR s most = R := ⟨_, rfl⟩
 rw [hR]
 obtain ⟨w, hW⟩ : ∃ w, itoS v = w := ⟨_, rfl⟩
 rw [hW] at hI
 refine zaw func93 rfl (qE rfl) fun w0 A => zaa<| tx<| wA rfl<| wA rfl<| zab<| zaa<| tx<| wM rfl<| yV (fun n => 10 + 1000 * n) (hC) func123 ?_
 refine wP (zam (r := .tup _)) rfl<| wP (zal rfl) rfl<| wP (zal rfl) rfl<| wA rfl<| wA rfl<| zab<| zaa<| zaa<| tx<| wM rfl<| wP (a_ifneqN underlying112) rfl<| wM rfl<| wM rfl<| wP (zbM U9) rfl<| wP zbA rfl<| wP zaj rfl<| wM rfl<| mb2 _ rfl rfl (fun hb => (zam (r := .p _))) (fun _ => trivial) ?_
 refine mb2 _ rfl rfl (fun hb => za8) (fun _ => trivial) ?_
 refine wP (a_or (by first | exact id | (simp; done) | grind)) rfl ?_
 refine wM rfl<| mb2 _ rfl rfl (fun hb => (zam (r := .p _))) (fun _ => trivial) ?_
 refine mb2 _ rfl rfl (fun hb => (zam (r := .p _))) (fun _ => trivial) ?_
 refine mb2 _ rfl rfl (fun hb => zbA) (fun _ => trivial) ?_
 refine wP (a_or (by first | exact id | (simp; done) | grind)) rfl ?_
 refine wM rfl<| mb2 _ rfl rfl (fun hb => (zam (r := .p _))) (fun _ => trivial) ?_
 refine mb2 _ rfl rfl (fun _ => a_callS0 func124 rfl rfl (hI) (by first | rfl | simp [AV.okInL, AV.okIn, zan]) rfl) (fun _ => trivial) ?_
 refine mb2 _ rfl rfl (fun hb => (zam (r := .p _))) (fun _ => trivial) ?_
 refine mb2 _ rfl rfl (fun hb => zdQ) (fun _ => trivial) ?_
 refine wP (a_or (by first | exact id | (simp; done) | grind)) rfl ?_
 refine zab<| zaf<| zaq _ rfl (fun h => ?_) (fun h => ?_)
 ·have hB : numB s most = false := by
   cases hb : numB s most with
   | false => rfl
   | true =>
    exfalso
    obtain ⟨h1, h2⟩ := zeq hb
    obtain ⟨h3, h4, h5⟩ := hk2 h1
    have h6 : v = (valS s : Nat) := by rw [hv] at h3; exact Lib.NumEnd.ok.inj h3
    have h7 : s.size ≤ 5 := (canS_size h1).2
    subst h6
    rw [hW] at h4
    subst h4
    simp at h
    omega
  rw [zfd hB] at hR
  subst hR
  refine zaa<| tx<| wA rfl<| wA rfl<| zab<| zai<| zau<| fT (fun o => o) (.tmp _ _ _ _ rfl (.tmp _ _ _ _ rfl .nil)) ?_ ?_
  ·exact rfl
  ·exact trivial
 ·simp at h
  obtain ⟨⟨⟨h1, h2⟩, h3⟩, h4⟩ := h
  have hk1 := hk (by omega) h2 (by rw [hW]; exact h4) hv
  have hB : numB s most = true := by
   unfold numB
   rw [hk1.1, ← hk1.2]
   simpa using h3
  rw [zfu hB] at hR
  subst hR
  have hvv := hk1.2
  subst hvv
  refine zae<| zaa<| tx<| wM rfl<| wA rfl<| wA rfl<| zab<| zai<| fT (fun o => o) (.tmp _ _ _ _ rfl (.tmp _ _ _ _ rfl .nil)) ?_ ?_
  ·exact rfl
  ·exact trivial
end Go.Proofs.YtkdfdcodkeclmaaGreatDoor
