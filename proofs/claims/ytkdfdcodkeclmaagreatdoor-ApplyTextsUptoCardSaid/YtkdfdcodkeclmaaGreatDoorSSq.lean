/- strconv.Itoa, strconv.Atoi, addr.small, addr.Number, the reference's NumberOf, over data. -/
import Derived.Test.YtkdfdcodkeclmaaGreatDoorSUtZ
import Derived.Test.YtkdfdcodkeclmaaGreatDoorSShelf
import Derived.WalkSmall
import Derived.Test.YtkdfdcodkeclmaaGreatDoorSMa4
namespace Go.Proofs.YtkdfdcodkeclmaaGreatDoor
open Tryz
open Go.RowKit Go.Sort
set_option linter.unusedVariables false
set_option linter.unusedSimpArgs false
set_option maxRecDepth 100000
theorem GI.tab {w : World} (h : GI w) : Lib.TabIs prog w "internal/strconv.uint64pow10" .u64 Lib.pow10Tab := by
 obtain ⟨t, fz, h1⟩ := h.2 _ (List.mem_cons_self ..)
 exact var_of_heap (by kernel_rfl) h1
theorem GI.err {w : World} (h : GI w) {g : Nat} (hg : g ∈ gErr) : ∃ ev, w.cell? ⟨g, 0, none⟩ = some ev ∧ (ev = .nilIface ∨ ∃ te pe, ev = .iface te pe) := by
 obtain ⟨ev, t, fz, h1, h2⟩ := h.1 g hg
 exact ⟨ev, cell_of_row w g 0 #[ev] t fz h1, h2⟩
theorem zet {P : Program} {f : FuncId} {args : List AV} {vs : List Value} {res : AV} (ha : zeW args = some vs) (h : ∀ w : World, GI w → Calls P f vs.toArray w fun e w' => ∃ r, e = .returned r ∧ (∀ S m w, Rep S m w res r) ∧ Below w.heap.size w w') : Fn P f args res [] := by
 intro w A us hA hG hus
 rw [zdw ha hus]
 refine (h w hG).mono ?_
 rintro e w' ⟨r, rfl, hr, hb⟩
 exact ⟨r, rfl, A, fun _ => none, hr _ _ _, hb, fun b hb => .inl hb, fun b h => Nat.lt_of_lt_of_le (hA b h) hb.size, fun o _ => rfl, fun o ob ho => (by cases ho), fun o o' ob ob' v v' b ho => (by cases ho), hG⟩
theorem grow_below (w : World) (k : Nat) (os : Array Obj) : Below w.heap.size w (grow (w.drewN k) os) :=
 (zde (Below.refl _ w) k).trans ⟨rfl, rfl, rfl, by simp [grow], fun b hb => by
  show (w.heap ++ os)[b]? = w.heap[b]?
  rw [Array.getElem?_append_left hb]⟩
theorem zeo (n : Int) (h0 : -9223372036854775808 ≤ n) (h1 : n ≤ 9223372036854775807) : Fn prog 124 [.p (.v (.int .i64 n))] (.p (.v (.string (itoS n)))) [] :=
 zet (vs := [.int .i64 n]) rfl fun w hG => (strconv_Itoa n h0 h1 w hG.tab).mono fun e w' ⟨he, k, os, hw⟩ => ⟨_, he, fun S m w => za5 rfl, by rw [hw]; exact grow_below w k os⟩
theorem zgz {S : Nat → Prop} {m : Nat → Option Value} {w : World} {x y : AV} {u v : Value} (h1 : Rep S m w x u) (h2 : Rep S m w y v) : Rep S m w (.tup [x, y]) (.tuple #[u, v]) := by
 simp only [Rep, RepL]
 exact ⟨[u, v], rfl, u, [v], rfl, h1, v, [], rfl, h2, rfl⟩
theorem atoi_ok (s : ByteArray) (v : Int) (hs : s.size ≤ 140737488351232) (h : Lib.atoiAll s.data.toList = .ok v) : Fn prog 123 [.p (.v (.string s))] (.tup [.p (.v (.int .i64 v)), .p (.v .nilIface)]) [] :=
 zet (vs := [.string s]) rfl fun w hG => (strconv_Atoi_ok s (by omega) v h w).mono fun e w' ⟨he, hw⟩ => ⟨_, he, fun S m w => zgz (za5 rfl) (za5 rfl), by
  rcases hw with rfl | ⟨t, rfl⟩
  ·exact Below.refl _ _
  ·exact Lib.bytesWorld_below _ _ _⟩
theorem atoi_bad (s : ByteArray) (hs : s.size ≤ 140737488351232) (h : ∀ v, Lib.atoiAll s.data.toList ≠ .ok v) : ∃ n : Int, Fn prog 123 [.p (.v (.string s))] (.tup [.p (.v (.int .i64 n)), .sat isIfc]) [] := by
 cases hr : Lib.atoiAll s.data.toList
 ·exact absurd hr (h _)
 ·refine ⟨0, zet (vs := [.string s]) rfl fun w hG => ?_⟩
  obtain ⟨ev, h1, h2⟩ := hG.err (g := 1) (by decide)
  exact (Any.strconv_Atoi_syntax Tryz.laysC172 s (by omega) hr ev w h1 h2).mono fun e w' ⟨N, he, _, _, hb⟩ => ⟨_, he, fun S m w => zgz (za5 rfl) (by simp only [Rep]; exact ⟨rfl, rfl⟩), hb⟩
 ·refine ⟨Lib.atoiSat s.data.toList, zet (vs := [.string s]) rfl fun w hG => ?_⟩
  obtain ⟨ev, h1, h2⟩ := hG.err (g := 2) (by decide)
  exact (Any.strconv_Atoi_range Tryz.laysC172 s (by omega) hr ev w h1 h2).mono fun e w' ⟨N, he, _, _, hb⟩ => ⟨_, he, fun S m w => zgz (za5 rfl) (by simp only [Rep]; exact ⟨rfl, rfl⟩), hb⟩
def smV (s : ByteArray) : Int := if canS s = true then (valS s : Int) else 0
set_option maxHeartbeats 1000000 in
theorem small_s (s : ByteArray) (most : Int) (hs : s.size ≤ 140737488351232) : Fn prog 114 [.p (.v (.string s)), .p (.v (.int .i64 most))] (.tup [.p (.v (.int .i64 (smV s))), .p (.v (.bool (numB s most)))]) [] := by
 obtain ⟨V, hV⟩ : ∃ V, smV s = V := ⟨_, rfl⟩
 obtain ⟨B, hB⟩ : ∃ B, numB s most = B := ⟨_, rfl⟩
 rw [hV, hB]
 unfold smV at hV
 unfold numB at hB
 refine fnI fun w0 A => ?_
 refine G [9] ?_
 refine zaa (zaQ U9) rfl rfl ?_
 refine G [3] ?_
 refine mb2 _ rfl rfl (fun hb => (zaQ U9)) (fun _ => trivial) ?_
 refine G [1, 2, 2] ?_
 refine mb2 _ rfl rfl (fun hb => (zaQ U9)) (fun _ => trivial) ?_
 refine G [3] ?_
 refine mb2 _ rfl rfl (fun hb => (zbD U9 (by omega) (zeG (s := s) (i := 0) (by simp at hb; omega)))) (fun _ => trivial) ?_
 refine mb2 _ rfl rfl (fun hb => zbp) (fun _ => trivial) ?_
 refine r_mb3 _ rfl rfl (.mb _ _ _ _ (by first | exact id | simp_all) (.keep _ _ _ (.keep _ _ _ .nil))) (fun hb => (a_and (by first | exact id | (simp_all; done) | grind))) (fun _ => trivial) ?_
 refine G [0, 2, 1, 9, 0] ?_
 refine zab _ rfl (fun h => ?_) (fun h => ?_)
 ·have hc : canS s = false := by
   simp only [Bool.or_eq_true, Bool.and_eq_true, decide_eq_true_eq, beq_iff_eq] at h
   refine canS_not ?_
   rcases h with (h | h) | ⟨h1, h2⟩
   ·exact .inl (by omega)
   ·exact .inr (.inl (by omega))
   ·exact .inr (.inr (.inl ⟨by omega, h2⟩))
  rw [hc] at hV hB
  subst hV
  subst hB
  refine G [6, 9, 0] ?_
  exact yE
 have h0 : s.size ≠ 0 ∧ s.size ≤ 5 ∧ (1 < s.size → sAt s 0 ≠ 48) := by
  simp only [Bool.or_eq_false_iff, Bool.and_eq_false_iff, decide_eq_false_iff_not, beq_eq_false_iff_ne] at h
  obtain ⟨⟨h1, h2⟩, h3⟩ := h
  exact ⟨by omega, by omega, fun h4 => by rcases h3 with h3 | h3 <;> first | omega | exact h3⟩
 clear h
 obtain ⟨z0, z5, zz⟩ := h0
 refine G [9] ?_
 refine zaa (zaQ U9) rfl rfl ?_
 refine G [3] ?_
 refine zal (fun m st => ∃ i : Nat, m + i = s.size ∧ (∀ j, j < i → digS (sAt s j) = true) ∧ st = St.of [(0, .p (.v (.string s))), (1, .p (.v (.int .i64 most))), (6, .p (.v (.int .i64 (valT s i)))), (27, .p (.v (.int .i64 s.size))), (28, .p (.v (.int .i64 i)))] []) s.size ?_ ?_
 ·refine ⟨_, zak id _ _ ?_ ?_ rfl, 0, by omega, by omega, rfl⟩
  ·refine ⟨⟨rfl, rfl⟩, ⟨rfl, rfl⟩, ⟨?_, rfl⟩, ⟨rfl, rfl⟩, ⟨rfl, rfl⟩, trivial⟩
   rw [valT_zero]; rfl
  ·trivial
 rintro m st ⟨i, hi, hf, rfl⟩
 refine G [5] ?_
 refine zab _ rfl (fun h => ?_) (fun h => ?_)
 ·have hlt : i < s.size := by simp at h; omega
  clear h
  have g1 := zeG hlt
  have hsu := @valT_succ s i hlt
  have hn := @canS_not s
  have hb := sAt_B hlt
  have hv0 := valT_in (Nat.le_of_lt hlt) (by omega) hf
  generalize hc : sAt s i = c at *
  generalize valT s i = v at *
  refine G [13] ?_
  refine zaa (zbD U9 (by omega) (by rw [Int.toNat_natCast]; exact g1)) rfl rfl ?_
  refine G [4] ?_
  refine mb2 _ rfl rfl (fun hb => (zbD U9 (by omega) (by rw [Int.toNat_natCast]; exact g1))) (fun _ => trivial) ?_
  refine G [1, 2, 1, 9, 0] ?_
  refine zab _ rfl (fun h => ?_) (fun h => ?_)
  ·have hd : digS c = false := by
    unfold digS
    simp at h ⊢
    omega
   rw [hn (.inr (.inr (.inr ⟨i, hlt, by rw [hc]; exact hd⟩)))] at hV hB
   subst hV
   subst hB
   refine G [6, 9, 0] ?_
   exact yE
  have hd : digS c = true := by
   unfold digS
   simp at h ⊢
   omega
  clear h
  have hs1 := hsu hd
  have hd' := hd
  unfold digS at hd'
  simp only [Bool.and_eq_true, decide_eq_true_eq] at hd'
  refine G [3] ?_
  refine zaa (a_mul (by first | exact IntWalk.i64_in _ (by omega) | rfl)) rfl rfl ?_
  refine G [2] ?_
  refine zaa (zbD U9 (by omega) (by rw [Int.toNat_natCast]; exact g1)) rfl rfl ?_
  refine zaa (zdZ (by first | exact IntWalk.u8_in _ (by omega) | rfl)) rfl rfl ?_
  refine zaa (zcy U5 U3 (by first | exact IntWalk.i64_in _ (by omega) | rfl)) rfl rfl ?_
  refine zaa (zas (by first | exact IntWalk.i64_in _ (by omega) | rfl)) rfl rfl ?_
  refine G [3] ?_
  refine zaa (zas (by first | exact IntWalk.i64_in _ (by omega) | rfl)) rfl rfl ?_
  refine G [2, 9, 0] ?_
  refine ⟨m - 1, by omega, _, zak id _ _ ?_ ?_ rfl, i + 1, by omega, ?_, rfl⟩
  ·refine ⟨⟨rfl, rfl⟩, ⟨rfl, rfl⟩, ⟨?_, rfl⟩, ⟨rfl, rfl⟩, ⟨rfl, rfl⟩, trivial⟩
   rw [hs1]; rfl
  ·trivial
  ·intro j hj
   by_cases e : j = i
   ·subst e; rw [hc]; exact hd
   ·exact hf j (by omega)
 have hge : i = s.size := by simp at h; omega
 clear h
 subst hge
 have hcan := canS_dig z0 z5 zz hf
 rw [hcan] at hV hB
 rw [if_pos rfl] at hV
 rw [valT_all, hV]
 rw [hV, Bool.true_and] at hB
 subst hB
 refine G [11, 9, 0] ?_
 exact yE
def numR (s : ByteArray) (most : Int) : AV := .tup [.p (.v (.int .i64 (numV s most))), .p (.v (.int .i64 (numE s most)))]
theorem zfC {s : ByteArray} {most : Int} (h : numB s most = true) : numR s most = .tup [.p (.v (.int .i64 (valS s : Nat))), .p (.v (.int .i64 0))] := by unfold numR numV numE; rw [h]; rfl
theorem zfi {s : ByteArray} {most : Int} (h : numB s most = false) : numR s most = .tup [.p (.v (.int .i64 0)), .p (.v (.int .i64 3))] := by unfold numR numV numE; rw [h]; rfl
theorem zdA {s : ByteArray} {most : Int} (h : numB s most = true) : canS s = true ∧ (valS s : Int) ≤ most := by
 unfold numB at h
 simpa using h
theorem zgG (s : ByteArray) (most : Int) (hs : s.size ≤ 140737488351232) : Fn prog 77 [.p (.v (.string s)), .p (.v (.int .i64 most))] (numR s most) [] := by
 have hC := small_s s most hs
 cases hB : numB s most with
 | true =>
  rw [zfC hB]
  rw [hB, show smV s = (valS s : Nat) by unfold smV; rw [if_pos (zdA hB).1]] at hC
  refine fnI fun w0 A => ?_
  refine G [9] ?_
  refine cV hC ?_
  refine G [12, 9, 0] ?_
  refine zab _ rfl (fun h => ?_) (fun h => ?_)
  ·cases h
  refine G [8, 9, 0] ?_
  exact yE
 | false =>
  rw [zfi hB]
  rw [hB] at hC
  refine fnI fun w0 A => ?_
  refine G [9] ?_
  refine cV hC ?_
  refine G [12, 9, 0] ?_
  refine zab _ rfl (fun h => ?_) (fun h => ?_)
  ·refine G [6, 9, 0] ?_
   exact yE
  ·cases h
set_option maxHeartbeats 1000000 in
theorem zfe (s : ByteArray) (most : Int) (hs : s.size ≤ 140737488351232) : Fn prog 93 [.p (.v (.string s)), .p (.v (.int .i64 most))] (numR s most) [] := by
 by_cases hA : ∃ v, Lib.atoiAll s.data.toList = .ok v
 rotate_left
 ·obtain ⟨n, hC⟩ := atoi_bad s hs fun v h => hA ⟨v, h⟩
  have hB : numB s most = false := by
   cases h : numB s most with
   | false => rfl
   | true => exact absurd ⟨_, (zgS (zdA h).1).1⟩ hA
  rw [zfi hB]
  refine fnI fun w0 A => ?_
  refine G [8] ?_
  refine cV hC ?_
  refine G [10] ?_
  refine zaa (a_ifneqI underlying112) rfl rfl ?_
  refine G [21, 9, 0] ?_
  refine zab _ rfl (fun h => ?_) (fun h => ?_)
  ·refine G [6, 9, 0] ?_
   exact yE
  ·cases h
 obtain ⟨v, hv⟩ := hA
 have hC := atoi_ok s v hs hv
 obtain ⟨v0, v1⟩ := Lib.atoiAll_bounds hv
 have hI := zeo v v0 v1
 have hk := @canS_num s v
 have hk2 := @zgS s
 obtain ⟨R, hR⟩ : ∃ R, numR s most = R := ⟨_, rfl⟩
 rw [hR]
 obtain ⟨w, hW⟩ : ∃ w, itoS v = w := ⟨_, rfl⟩
 rw [hW] at hI
 refine fnI fun w0 A => ?_
 refine G [8] ?_
 refine cV hC ?_
 refine G [10] ?_
 refine zaa (a_ifneqN underlying112) rfl rfl ?_
 refine G [2] ?_
 refine zaa (zaQ U9) rfl rfl ?_
 refine G [5, 2, 4, 2, 2] ?_
 refine mb2 _ rfl rfl (fun _ => zfo func124 rfl rfl (hI) (by first | rfl | simp [AV.okInL, AV.okIn, zaj]) rfl) (fun _ => trivial) ?_
 refine G [2, 2, 1, 9, 0] ?_
 refine zab _ rfl (fun h => ?_) (fun h => ?_)
 ·have hB : numB s most = false := by
   cases hb : numB s most with
   | false => rfl
   | true =>
    exfalso
    obtain ⟨h1, h2⟩ := zdA hb
    obtain ⟨h3, h4, h5⟩ := hk2 h1
    have h6 : v = (valS s : Nat) := by rw [hv] at h3; exact Lib.NumEnd.ok.inj h3
    have h7 : s.size ≤ 5 := (canS_size h1).2
    subst h6
    rw [hW] at h4
    subst h4
    simp at h
    omega
  rw [zfi hB] at hR
  subst hR
  refine G [6, 9, 0] ?_
  exact yE
 ·simp at h
  obtain ⟨⟨⟨h1, h2⟩, h3⟩, h4⟩ := h
  have hk1 := hk (by omega) h2 (by rw [hW]; exact h4) hv
  have hB : numB s most = true := by
   unfold numB
   rw [hk1.1, ← hk1.2]
   simpa using h3
  rw [zfC hB] at hR
  subst hR
  have hvv := hk1.2
  subst hvv
  refine G [8, 9, 0] ?_
  exact yE
end Go.Proofs.YtkdfdcodkeclmaaGreatDoor
/- bytes.Clone, bytes.Equal, over data; a number as so many bytes. -/
namespace Go.Proofs.YtkdfdcodkeclmaaGreatDoor
open Go.RowKit Go.Sort
set_option linter.unusedVariables false
set_option linter.unusedSimpArgs false
set_option maxRecDepth 100000
theorem or_add (a b i : Nat) (hb : b < 2 ^ i) : (a * 2 ^ i) ||| b = a * 2 ^ i + b := by
 have := Nat.two_pow_add_eq_or_of_lt (i := i) (b := b) hb a
 rw [Nat.mul_comm] at this
 exact this.symm
theorem u32_or (a b i : Nat) (hb : b < 2 ^ i) (h : a * 2 ^ i + b < 4294967296) : bits .or .u32 ((a * 2 ^ i : Nat) : Int) (b : Int) = ((a * 2 ^ i + b : Nat) : Int) := by
 have h1 : (BitVec.ofInt 32 ((a * 2 ^ i : Nat) : Int)).toNat = a * 2 ^ i := by
  rw [BitVec.ofInt_natCast, BitVec.toNat_ofNat]; exact Nat.mod_eq_of_lt (by omega)
 have h2 : (BitVec.ofInt 32 (b : Int)).toNat = b := by
  rw [BitVec.ofInt_natCast, BitVec.toNat_ofNat]; exact Nat.mod_eq_of_lt (by omega)
 show IntKind.u32.wrap ((BitVec.ofInt 32 ((a * 2 ^ i : Nat) : Int) ||| BitVec.ofInt 32 (b : Int)).toNat : Int) = _
 rw [BitVec.toNat_or, h1, h2, or_add a b i hb, IntWalk.u32_in _ (by omega)]
end Go.Proofs.YtkdfdcodkeclmaaGreatDoor
/- strings.Index and strings.Contains of one letter, over data. -/
namespace Go.Proofs.YtkdfdcodkeclmaaGreatDoor
open Tryz
open Go.RowKit Go.Sort
set_option linter.unusedVariables false
set_option linter.unusedSimpArgs false
set_option maxRecDepth 100000
def ixB (s : ByteArray) (c : UInt8) : Int := Lib.indexByte s.data.toList c
theorem ze2 (c : UInt8) : ∀ l : List UInt8, -1 ≤ Lib.indexByte l c
 | [] => by simp [Lib.indexByte]
 | b :: l => by
  have := ze2 c l
  simp only [Lib.indexByte]
  split
  ·omega
  ·split
   ·omega
   ·omega
theorem ixB_ge (s : ByteArray) (c : UInt8) : -1 ≤ ixB s c := ze2 c _
theorem ze1 (c : UInt8) : ∀ l : List UInt8, Lib.indexByte l c < l.length
 | [] => by simp [Lib.indexByte]
 | b :: l => by
  have := ze1 c l
  simp only [Lib.indexByte, List.length_cons]
  split
  ·omega
  ·split
   ·omega
   ·omega
theorem sliteIB_s (s : ByteArray) (c : UInt8) : Fn prog 130 [.p (.v (.string s)), .p (.v (.int .u8 (c.toNat : Nat)))] (.p (.v (.int .i64 (ixB s c)))) [] := by
 have h := zgN (P := prog) (f := 130) [.string s, .int .u8 (c.toNat : Nat)] (r := .int .i64 (ixB s c)) rfl fun w => by
  have := stringslite_IndexByte s (c.toNat : Nat) w
  rw [show ((c.toNat : Nat) : Int).toNat.toUInt8 = c by simp] at this
  exact this
 exact h
set_option maxHeartbeats 1000000 in
theorem zd6 (s : ByteArray) (c : UInt8) : Fn prog 122 [.p (.v (.string s)), .p (.v (.string ⟨#[c]⟩))] (.p (.v (.int .i64 (ixB s c)))) [] := by
 have hz : (⟨#[c]⟩ : ByteArray).size = 1 := rfl
 have hI := sliteIB_s s c
 refine zda func122 rfl (Nat.le_of_ble_eq_true rfl) fun w0 A => ?_
 refine zag ?_
 refine tx ?_
 refine aP rfl rfl ?_
 refine zaf ?_
 refine zag ?_
 refine tx ?_
 refine mP rfl rfl ?_
 refine zaa (zaQ U9) rfl rfl ?_
 refine aP rfl rfl ?_
 refine zaf ?_
 refine zag (zaS (zag ?_))
 refine tx ?_
 refine mP rfl rfl ?_
 refine zaa zbp rfl rfl ?_
 refine mP rfl rfl ?_
 refine mb2 _ rfl rfl (fun hb => (zaJ (r := .p _))) (fun _ => trivial) ?_
 refine mb2 _ rfl rfl (fun hb => (zaJ (r := .p _))) (fun _ => trivial) ?_
 refine mb2 _ rfl rfl (fun hb => a_seql) (fun _ => trivial) ?_
 refine zaa (a_or (by first | exact id | (simp; done) | grind)) rfl rfl ?_
 refine aP rfl rfl ?_
 refine zaf ?_
 refine zaH ?_
 refine zab _ rfl (fun h => ?_) (fun h => ?_)
 ·have hs : s = ⟨#[c]⟩ := by
   rw [hz] at h
   simp at h
   exact h.symm
  have h0 : ixB s c = 0 := by rw [hs]; simp [ixB, Lib.indexByte]
  rw [h0]
  refine zag ?_
  refine tx ?_
  refine aP rfl rfl ?_
  refine zaf ?_
  refine za2 (zfL (zcZ ?_))
  refine fT (fun o => o) (.tmp _ _ _ _ rfl .nil) ?_ ?_
  ·exact rfl
  ·exact trivial
 clear h
 refine zag ?_
 refine tx ?_
 refine mP rfl rfl ?_
 refine zaa zbp rfl rfl ?_
 refine aP rfl rfl ?_
 refine zaf ?_
 refine zaH ?_
 refine zab _ rfl (fun h => ?_) (fun h => ?_)
 ·refine zag ?_
  refine tx ?_
  refine mP rfl rfl ?_
  refine mP rfl rfl ?_
  refine zaa (zbD U9 (by omega) (show _ = some ((c.toNat : Nat) : Int) from rfl)) rfl rfl ?_
  refine zcq (fun n => 30 + 1000 * n) (hI) rfl rfl func130 rfl rfl (by first | rfl | simp [AV.noSl, AV.noSlL, AObj.noSl, PV.isV, zcK]) (by first | rfl | simp [AV.noSl, AV.noSlL, AObj.noSl, PV.isV, zcK]) rfl rfl rfl (by first | exact trivial | exact ⟨rfl, trivial⟩ | exact ⟨rfl, rfl, trivial⟩ | exact ⟨rfl, rfl, rfl, rfl, rfl, trivial⟩) rfl rfl rfl ?_
  refine aP rfl rfl ?_
  refine zaf ?_
  refine za2 (zfL (zcZ ?_))
  refine fT (fun o => o) (.tmp _ _ _ _ rfl .nil) ?_ ?_
  ·exact rfl
  ·exact trivial
 ·rw [hz] at h; simp at h
theorem zgL (s : ByteArray) (c : UInt8) : Fn prog 91 [.p (.v (.string s)), .p (.v (.string ⟨#[c]⟩))] (.p (.v (.int .i64 (ixB s c)))) [] := by
 have hI := zd6 s c
 refine fnI fun w0 A => ?_
 refine G [8] ?_
 refine cV hI ?_
 refine G [3, 9, 0] ?_
 exact yE
end Go.Proofs.YtkdfdcodkeclmaaGreatDoor
/- strings.Count, strings.Split, strings.Cut at one byte, over data. -/
namespace Go.Proofs.YtkdfdcodkeclmaaGreatDoor
open Tryz
open Go.RowKit Go.Sort
set_option linter.unusedVariables false
set_option linter.unusedSimpArgs false
set_option maxRecDepth 100000
def cutA (s : ByteArray) (c : UInt8) : ByteArray := if 0 ≤ ixB s c then s.extract 0 (ixB s c).toNat else s
def cutZ (s : ByteArray) (c : UInt8) : ByteArray := if 0 ≤ ixB s c then s.extract ((ixB s c).toNat + 1) s.size else ⟨#[]⟩
theorem ixB_lt (s : ByteArray) (c : UInt8) : ixB s c < s.size := by
 have := ze1 c s.data.toList
 show Lib.indexByte s.data.toList c < ((s.data.size : Nat) : Int)
 rw [← Array.length_toList]
 exact this
theorem zcA (s : ByteArray) (i j : Nat) : (s.extract i j).size = min j s.size - i := by rw [ByteArray.size_extract]
theorem zcX (s : ByteArray) (c : UInt8) : (cutA s c).size ≤ s.size := by
 unfold cutA; split
 ·rw [zcA]; omega
 ·exact Nat.le_refl _
theorem zcx (s : ByteArray) (c : UInt8) : (cutZ s c).size ≤ s.size := by
 unfold cutZ; split
 ·rw [zcA]; omega
 ·exact Nat.zero_le _
theorem sliteCut1_s (s : ByteArray) (c : UInt8) (hs : s.size ≤ 9223372036854775807) : Fn prog 113 [.p (.v (.string s)), .p (.v (.string ⟨#[c]⟩))] (.tup [.p (.v (.string (cutA s c))), .p (.v (.string (cutZ s c))), .p (.v (.bool (decide (0 ≤ ixB s c))))]) [] := by
 have hI := zd6 s c
 have h1 := ixB_ge s c
 have h2 := ixB_lt s c
 have hz : (⟨#[c]⟩ : ByteArray).size = 1 := rfl
 unfold cutA cutZ
 generalize ixB s c = k at *
 by_cases hk : 0 ≤ k
 ·rw [if_pos hk, if_pos hk, decide_eq_true hk]
  obtain ⟨n, rfl⟩ := Int.eq_ofNat_of_zero_le hk
  rw [Int.toNat_natCast]
  refine fnI fun w0 A => ?_
  refine G [11] ?_
  refine cV hI ?_
  refine G [7, 9, 0] ?_
  refine zab _ rfl (fun h => ?_) (fun h => ?_)
  ·refine G [4] ?_
   refine zaa (zbO (L := none) (H := (some (_, _))) U9 rfl ⟨by omega, (show _ = n by omega)⟩ (by omega) (by omega) rfl) rfl rfl ?_
   refine G [3] ?_
   refine zaa (zaQ U9) rfl rfl ?_
   refine zaa (zas (show _ = ((n + 1 : Nat) : Int) by rw [hz, IntKind.wrap_i64]; omega)) rfl rfl ?_
   refine zaa (zbO (L := (some (_, _))) (H := none) U9 ⟨by omega, (show _ = n + 1 by omega)⟩ rfl (by omega) (by omega) rfl) rfl rfl ?_
   refine G [5, 9, 0] ?_
   exact yE
  ·exact absurd h (by simp [hk])
 ·rw [if_neg hk, if_neg hk, decide_eq_false hk]
  refine fnI fun w0 A => ?_
  refine G [11] ?_
  refine cV hI ?_
  refine G [7, 9, 0] ?_
  refine zab _ rfl (fun h => ?_) (fun h => ?_)
  ·simp at h; omega
  ·refine G [9, 9, 0] ?_
   exact yE
theorem cut1_s (s : ByteArray) (c : UInt8) (hs : s.size ≤ 9223372036854775807) : Fn prog 75 [.p (.v (.string s)), .p (.v (.string ⟨#[c]⟩))] (.tup [.p (.v (.string (cutA s c))), .p (.v (.string (cutZ s c))), .p (.v (.bool (decide (0 ≤ ixB s c))))]) [] := by
 have hI := sliteCut1_s s c hs
 refine fnI fun w0 A => ?_
 refine G [10] ?_
 refine cV hI ?_
 refine G [8, 9, 0] ?_
 exact yE
def cntB (s : ByteArray) (c : UInt8) : Nat := Lib.countB s ⟨#[c]⟩
def spl (s : ByteArray) (c : UInt8) : List ByteArray := Lib.splitB ⟨#[c]⟩ 0 (cntB s c) s
theorem zb5 (s : ByteArray) (c : UInt8) : (spl s c).length = cntB s c + 1 := Lib.splitB_all ⟨#[c]⟩ (Nat.le_refl 1) 0 _ s rfl
theorem zgR (s : ByteArray) (c : UInt8) : cntB s c ≤ s.size := Lib.countB_le ⟨#[c]⟩ (Nat.le_refl 1) s.size s (Nat.le_refl _)
theorem zfw (sep : ByteArray) : ∀ (k : Nat) (s : ByteArray), ∀ t ∈ Lib.splitB sep 0 k s, t.size ≤ s.size
 | 0, s, t, h => by
  simp only [Lib.splitB, List.mem_singleton] at h
  rw [h]; exact Nat.le_refl _
 | k + 1, s, t, h => by
  unfold Lib.splitB at h
  split at h
  ·simp only [List.mem_singleton] at h
   rw [h]; exact Nat.le_refl _
  ·rcases List.mem_cons.1 h with h | h
   ·rw [h, zcA]; omega
   ·have := zfw sep k _ t h
    rw [zcA] at this; omega
theorem zd5 (s : ByteArray) (c : UInt8) : ∀ t ∈ spl s c, t.size ≤ s.size := zfw _ _ _
theorem kitCount (s : ByteArray) (c : UInt8) (w : World) : Calls prog 99 #[.string s, .string ⟨#[c]⟩] w fun e w' => e = .returned (.int .i64 (cntB s c : Nat)) ∧ w' = w := by
 refine (strings_Count_one s c w).mono fun e w' ⟨he, hw⟩ => ⟨?_, hw⟩
 rw [he]
 show _ = Ending.returned (Value.int .i64 ((Lib.count s.data.toList [c] : Nat) : Int))
 rw [Lib.count_one]
 rfl
theorem kitIndex (s : ByteArray) (c : UInt8) (w : World) : Calls prog 91 #[.string s, .string ⟨#[c]⟩] w fun e w' => e = .returned (.int .i64 (Lib.indexB s ⟨#[c]⟩)) ∧ w' = w := by
 refine (strings_Index_one s c w).mono fun e w' ⟨he, hw⟩ => ⟨?_, hw⟩
 rw [he]
 show _ = Ending.returned (Value.int .i64 (Lib.index s.data.toList [c]))
 rw [Lib.index_one]
theorem count1_s (s : ByteArray) (c : UInt8) : Fn prog 99 [.p (.v (.string s)), .p (.v (.string ⟨#[c]⟩))] (.p (.v (.int .i64 (cntB s c : Nat)))) [] :=
 zgN [.string s, .string ⟨#[c]⟩] rfl fun w => kitCount s c w
theorem genSplit1_s (s : ByteArray) (c : UInt8) (hs : s.size < 4294967281) : Fn prog 125 [.p (.v (.string s)), .p (.v (.string ⟨#[c]⟩)), .p (.v (.int .i64 0)), .p (.v (.int .i64 (-1)))] (.row 0) [(0, .row 9 1 (cntB s c + 1) (strs (spl s c)))] := by
 have hle := zgR s c
 refine fn_alloc (vs := [.string s, .string ⟨#[c]⟩, .int .i64 0, .int .i64 (-1)]) (us := (spl s c).map .string) rfl (by rw [List.length_map, zb5]) (by simp only [maxLen]; omega) (fun _ _ => strs_rep _) fun w => ?_
 have h := Any.strings_genSplit_core lays221 (by kernel_rfl) s ⟨#[c]⟩ 0 (-1) (cntB s c + 1) w hs (Nat.le_refl 1) (Nat.zero_le _) (fun x cc _ => kitIndex x c _) (kitCount s c w) (by decide) (by decide) (by
  rw [if_pos (by decide)]
  show _ = min ((cntB s c : Int) + 1) _
  omega)
 rw [Nat.add_sub_cancel] at h
 change Calls prog 125 _ w (fun e w' => e = .returned (.slice (some ⟨w.heap.size, 0, none⟩) (spl s c).length (cntB s c + 1)) ∧ w' = w.alloc (.cells (Lib.cellsOf (spl s c) (cntB s c + 1)) 9)) at h
 rw [zb5, ← zb5 s c, Lib.cellsOf_full, zb5] at h
 exact h
theorem zfd (s : ByteArray) (c : UInt8) (hs : s.size < 4294967281) : Fn prog 94 [.p (.v (.string s)), .p (.v (.string ⟨#[c]⟩))] (.row 0) [(0, .row 9 1 (cntB s c + 1) (strs (spl s c)))] := by
 have hG := genSplit1_s s c hs
 refine fnI fun w0 A => ?_
 refine G [8] ?_
 refine zcq (fun n => 7 + 1000 * n) (hG) rfl rfl func125 rfl rfl (by first | rfl | simp [AV.noSl, AV.noSlL, AObj.noSl, PV.isV, strs]) (by first | rfl | simp [AV.noSl, AV.noSlL, AObj.noSl, PV.isV, strs]) rfl rfl rfl (by first | exact trivial | exact ⟨rfl, trivial⟩ | exact ⟨rfl, rfl, trivial⟩ | exact ⟨rfl, rfl, rfl, rfl, rfl, trivial⟩) rfl rfl rfl ?_
 refine G [3, 9, 0] ?_
 refine yT (fun _ => 7) ?_ ?_
 ·exact rfl
 ·exact ⟨⟨rfl, rfl⟩, trivial⟩
end Go.Proofs.YtkdfdcodkeclmaaGreatDoor
