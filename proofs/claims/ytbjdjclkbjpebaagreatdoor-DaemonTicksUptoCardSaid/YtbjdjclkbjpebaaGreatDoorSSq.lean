/- strconv.Itoa, strconv.Atoi, addr.small, addr.Number, the reference's NumberOf, over data. -/
import Derived.Test.YtbjdjclkbjpebaaGreatDoorSUtZ
import Derived.Test.YtbjdjclkbjpebaaGreatDoorSShelf
import Derived.WalkSmall
import Derived.Test.YtbjdjclkbjpebaaGreatDoorSMa4
namespace Go.Proofs.YtbjdjclkbjpebaaGreatDoor
open Tryz
open Go.RowKit Go.Sort
set_option maxHeartbeats 16000000
set_option linter.unusedVariables false
set_option linter.unusedSimpArgs false
set_option maxRecDepth 100000
theorem GI.tab {w : World} (h : GI w) : Lib.TabIs prog w "internal/strconv.uint64pow10" .u64 Lib.pow10Tab := by
 obtain ⟨t, fz, h1⟩ := h.2 _ (List.mem_cons_self ..)
 exact var_of_heap (by kernel_rfl) h1
theorem GI.err {w : World} (h : GI w) {g : Nat} (hg : g ∈ gErr) : ∃ ev, w.cell? ⟨g, 0, none⟩ = some ev ∧ (ev = .nilIface ∨ ∃ te pe, ev = .iface te pe) := by
 obtain ⟨ev, t, fz, h1, h2⟩ := h.1 g hg
 exact ⟨ev, cell_of_row w g 0 #[ev] t fz h1, h2⟩
theorem zft {P : Program} {f : FuncId} {args : List AV} {vs : List Value} {res : AV} (ha : zfQ args = some vs) (h : ∀ w : World, GI w → Calls P f vs.toArray w fun e w' => ∃ r, e = .returned r ∧ (∀ S m w, Rep S m w res r) ∧ Below w.heap.size w w') : Fn P f args res [] := by
 intro w A us hA hG hus
 rw [zen ha hus]
 refine (h w hG).mono ?_
 rintro e w' ⟨r, rfl, hr, hb⟩
 exact ⟨r, rfl, A, fun _ => none, hr _ _ _, hb, fun b hb => .inl hb, fun b h => Nat.lt_of_lt_of_le (hA b h) hb.size, fun o _ => rfl, fun o ob ho => (by cases ho), fun o o' ob ob' v v' b ho => (by cases ho), hG⟩
theorem grow_below (w : World) (k : Nat) (os : Array Obj) : Below w.heap.size w (grow (w.drewN k) os) :=
 (zd1 (Below.refl _ w) k).trans ⟨rfl, rfl, rfl, by simp [grow], fun b hb => by
  show (w.heap ++ os)[b]? = w.heap[b]?
  rw [Array.getElem?_append_left hb]⟩
theorem itoa_s (n : Int) (h0 : -9223372036854775808 ≤ n) (h1 : n ≤ 9223372036854775807) : Fn prog 175 [.p (.v (.int .i64 n))] (.p (.v (.string (itoS n)))) [] :=
 zft (vs := [.int .i64 n]) rfl fun w hG => (strconv_Itoa n h0 h1 w hG.tab).mono fun e w' ⟨he, k, os, hw⟩ => ⟨_, he, fun S m w => zaV rfl, by rw [hw]; exact grow_below w k os⟩
theorem zh9 {S : Nat → Prop} {m : Nat → Option Value} {w : World} {x y : AV} {u v : Value} (h1 : Rep S m w x u) (h2 : Rep S m w y v) : Rep S m w (.tup [x, y]) (.tuple #[u, v]) := by
 simp only [Rep, RepL]
 exact ⟨[u, v], rfl, u, [v], rfl, h1, v, [], rfl, h2, rfl⟩
theorem atoi_ok (s : ByteArray) (v : Int) (hs : s.size ≤ 140737488351232) (h : Lib.atoiAll s.data.toList = .ok v) : Fn prog 174 [.p (.v (.string s))] (.tup [.p (.v (.int .i64 v)), .p (.v .nilIface)]) [] :=
 zft (vs := [.string s]) rfl fun w hG => (strconv_Atoi_ok s (by omega) v h w).mono fun e w' ⟨he, hw⟩ => ⟨_, he, fun S m w => zh9 (zaV rfl) (zaV rfl), by
  rcases hw with rfl | ⟨t, rfl⟩
  ·exact Below.refl _ _
  ·exact Lib.bytesWorld_below _ _ _⟩
theorem atoi_bad (s : ByteArray) (hs : s.size ≤ 140737488351232) (h : ∀ v, Lib.atoiAll s.data.toList ≠ .ok v) : ∃ n : Int, Fn prog 174 [.p (.v (.string s))] (.tup [.p (.v (.int .i64 n)), .sat isIfc]) [] := by
 cases hr : Lib.atoiAll s.data.toList
 ·exact absurd hr (h _)
 ·refine ⟨0, zft (vs := [.string s]) rfl fun w hG => ?_⟩
  obtain ⟨ev, h1, h2⟩ := hG.err (g := 1) (by decide)
  exact (Any.strconv_Atoi_syntax Tryz.laysC172 s (by omega) hr ev w h1 h2).mono fun e w' ⟨N, he, _, _, hb⟩ => ⟨_, he, fun S m w => zh9 (zaV rfl) (by simp only [Rep]; exact ⟨rfl, rfl⟩), hb⟩
 ·refine ⟨Lib.atoiSat s.data.toList, zft (vs := [.string s]) rfl fun w hG => ?_⟩
  obtain ⟨ev, h1, h2⟩ := hG.err (g := 2) (by decide)
  exact (Any.strconv_Atoi_range Tryz.laysC172 s (by omega) hr ev w h1 h2).mono fun e w' ⟨N, he, _, _, hb⟩ => ⟨_, he, fun S m w => zh9 (zaV rfl) (by simp only [Rep]; exact ⟨rfl, rfl⟩), hb⟩
def smV (s : ByteArray) : Int := if canS s = true then (valS s : Int) else 0
theorem small_s (s : ByteArray) (most : Int) (hs : s.size ≤ 140737488351232) : Fn prog 163 [.p (.v (.string s)), .p (.v (.int .i64 most))] (.tup [.p (.v (.int .i64 (smV s))), .p (.v (.bool (numB s most)))]) [] := by
 obtain ⟨V, hV⟩ : ∃ V, smV s = V := ⟨_, rfl⟩
 obtain ⟨B, hB⟩ : ∃ B, numB s most = B := ⟨_, rfl⟩
 rw [hV, hB]
 unfold smV at hV
 unfold numB at hB
 refine fnI fun w0 A => ?_
 refine G [13] ?_
 refine mb2 _ rfl rfl (fun hb => (zgp U9)) (fun _ => trivial) ?_
 refine G [1, 2, 2] ?_
 refine mb2 _ rfl rfl (fun hb => (zgp U9)) (fun _ => trivial) ?_
 refine G [3] ?_
 refine mb2 _ rfl rfl (fun hb => (zbE U9 (by omega) (zh7 (s := s) (i := 0) (by simp at hb; omega)))) (fun _ => trivial) ?_
 refine mb2 _ rfl rfl (fun hb => a_eql) (fun _ => trivial) ?_
 refine r_mb3 _ rfl rfl (.mb _ _ _ _ (by first | exact id | simp_all) (.keep _ _ _ (.keep _ _ _ .nil))) (fun hb => (a_and (by first | exact id | (simp_all; done) | grind))) (fun _ => trivial) ?_
 refine G [0, 2, 1, 9, 0] ?_
 refine cX (fun h => ?_) fun h => ?_
 ·have hc : canS s = false := by
   simp only [Bool.or_eq_true, Bool.and_eq_true, decide_eq_true_eq, beq_iff_eq] at h
   refine canS_not ?_
   rcases h with (h | h) | ⟨h1, h2⟩
   ·exact .inl (by omega)
   ·exact .inr (.inl (by omega))
   ·exact .inr (.inr (.inl ⟨by omega, h2⟩))
  rw [hc] at hV hB
  subst hV
  subst hB
  refine jcs ?_
  exact yE
 have h0 : s.size ≠ 0 ∧ s.size ≤ 5 ∧ (1 < s.size → sAt s 0 ≠ 48) := by
  simp only [Bool.or_eq_false_iff, Bool.and_eq_false_iff, decide_eq_false_iff_not, beq_eq_false_iff_ne] at h
  obtain ⟨⟨h1, h2⟩, h3⟩ := h
  exact ⟨by omega, by omega, fun h4 => by rcases h3 with h3 | h3 <;> first | omega | exact h3⟩
 clear h
 obtain ⟨z0, z5, zz⟩ := h0
 refine G [13] ?_
 refine zag (fun m st => ∃ i : Nat, m + i = s.size ∧ (∀ j, j < i → digS (sAt s j) = true) ∧ st = St.of [(0, .p (.v (.string s))), (1, .p (.v (.int .i64 most))), (6, .p (.v (.int .i64 (valT s i)))), (27, .p (.v (.int .i64 s.size))), (28, .p (.v (.int .i64 i)))] []) s.size ?_ ?_
 ·refine ⟨_, zah id _ _ ?_ ?_ rfl, 0, by omega, by omega, rfl⟩
  ·refine ⟨⟨rfl, rfl⟩, ⟨rfl, rfl⟩, ⟨?_, rfl⟩, ⟨rfl, rfl⟩, ⟨rfl, rfl⟩, trivial⟩
   rw [valT_zero]; rfl
  ·trivial
 rintro m st ⟨i, hi, hf, rfl⟩
 refine G [5] ?_
 refine cX (fun h => ?_) fun h => ?_
 ·have hlt : i < s.size := by simp at h; omega
  clear h
  have g1 := zh7 hlt
  have hsu := @valT_succ s i hlt
  have hn := @canS_not s
  have hb := sAt_B hlt
  have hv0 := valT_in (Nat.le_of_lt hlt) (by omega) hf
  generalize hc : sAt s i = c at *
  generalize valT s i = v at *
  refine G [13] ?_
  refine zaa (zbE U9 (by omega) (by rw [Int.toNat_natCast]; exact g1)) rfl rfl ?_
  refine G [4] ?_
  refine mb2 _ rfl rfl (fun hb => (zbE U9 (by omega) (by rw [Int.toNat_natCast]; exact g1))) (fun _ => trivial) ?_
  refine G [1, 2, 1, 9, 0] ?_
  refine cX (fun h => ?_) fun h => ?_
  ·have hd : digS c = false := by
    unfold digS
    simp at h ⊢
    omega
   rw [hn (.inr (.inr (.inr ⟨i, hlt, by rw [hc]; exact hd⟩)))] at hV hB
   subst hV
   subst hB
   refine jcs ?_
   exact yE
  have hd : digS c = true := by
   unfold digS
   simp at h ⊢
   omega
  clear h
  have hs1 := hsu hd
  have hd' := hd
  unfold digS at hd'
  simp only [Bool.and_eq_true, decide_eq_true_eq] at hd'
  refine G [6] ?_
  refine zaa (zbE U9 (by omega) (by rw [Int.toNat_natCast]; exact g1)) rfl rfl ?_
  refine G [9, 9, 0] ?_
  refine ⟨m - 1, by omega, _, zah id _ _ ?_ ?_ rfl, i + 1, by omega, ?_, rfl⟩
  ·refine ⟨⟨rfl, rfl⟩, ⟨rfl, rfl⟩, ⟨?_, rfl⟩, ⟨rfl, rfl⟩, ⟨rfl, rfl⟩, trivial⟩
   rw [hs1]; rfl
  ·trivial
  ·intro j hj
   by_cases e : j = i
   ·subst e; rw [hc]; exact hd
   ·exact hf j (by omega)
 have hge : i = s.size := by simp at h; omega
 clear h
 subst hge
 have hcan := canS_dig z0 z5 zz hf
 rw [hcan] at hV hB
 rw [if_pos rfl] at hV
 rw [valT_all, hV]
 rw [hV, Bool.true_and] at hB
 subst hB
 refine G [11, 9, 0] ?_
 exact yE
def numR (s : ByteArray) (most : Int) : AV := .tup [.p (.v (.int .i64 (numV s most))), .p (.v (.int .i64 (numE s most)))]
theorem zgQ {s : ByteArray} {most : Int} (h : numB s most = true) : numR s most = .tup [.p (.v (.int .i64 (valS s : Nat))), .p (.v (.int .i64 0))] := by unfold numR numV numE; rw [h]; rfl
theorem zgh {s : ByteArray} {most : Int} (h : numB s most = false) : numR s most = .tup [.p (.v (.int .i64 0)), .p (.v (.int .i64 3))] := by unfold numR numV numE; rw [h]; rfl
theorem zfo {s : ByteArray} {most : Int} (h : numB s most = true) : canS s = true ∧ (valS s : Int) ≤ most := by
 unfold numB at h
 simpa using h
theorem number_s (s : ByteArray) (most : Int) (hs : s.size ≤ 140737488351232) : Fn prog 131 [.p (.v (.string s)), .p (.v (.int .i64 most))] (numR s most) [] := by
 have hC := small_s s most hs
 cases hB : numB s most with
 | true =>
  rw [zgQ hB]
  rw [hB, show smV s = (valS s : Nat) by unfold smV; rw [if_pos (zfo hB).1]] at hC
  refine fnI fun w0 A => ?_
  refine G [9] ?_
  refine cV hC ?_
  refine G [12, 9, 0] ?_
  refine cX (fun h => ?_) fun h => ?_
  ·cases h
  refine G [8, 9, 0] ?_
  exact yE
 | false =>
  rw [zgh hB]
  rw [hB] at hC
  refine fnI fun w0 A => ?_
  refine G [9] ?_
  refine cV hC ?_
  refine G [12, 9, 0] ?_
  refine cX (fun h => ?_) fun h => ?_
  ·refine G [6, 9, 0] ?_
   exact yE
  ·cases h
theorem refNum_s (s : ByteArray) (most : Int) (hs : s.size ≤ 140737488351232) : Fn prog 147 [.p (.v (.string s)), .p (.v (.int .i64 most))] (numR s most) [] := by
 by_cases hA : ∃ v, Lib.atoiAll s.data.toList = .ok v
 rotate_left
 ·obtain ⟨n, hC⟩ := atoi_bad s hs fun v h => hA ⟨v, h⟩
  have hB : numB s most = false := by
   cases h : numB s most with
   | false => rfl
   | true => exact absurd ⟨_, (zix (zfo h).1).1⟩ hA
  rw [zgh hB]
  refine fnI fun w0 A => ?_
  refine G [8] ?_
  refine cV hC ?_
  refine G [10] ?_
  refine jdz (a_ifneqI underlying185) ?_
  refine G [21, 9, 0] ?_
  refine cX (fun h => ?_) fun h => ?_
  ·refine jcs ?_
   exact yE
  ·cases h
 obtain ⟨v, hv⟩ := hA
 have hC := atoi_ok s v hs hv
 obtain ⟨v0, v1⟩ := Lib.atoiAll_bounds hv
 have hI := itoa_s v v0 v1
 have hk := @canS_num s v
 have hk2 := @zix s
 obtain ⟨R, hR⟩ : ∃ R, numR s most = R := ⟨_, rfl⟩
 rw [hR]
 obtain ⟨w, hW⟩ : ∃ w, itoS v = w := ⟨_, rfl⟩
 rw [hW] at hI
 refine fnI fun w0 A => ?_
 refine G [8] ?_
 refine cV hC ?_
 refine G [10] ?_
 refine jdz (a_ifneqN underlying185) ?_
 refine G [8, 2, 4, 2, 2] ?_
 refine mb2 _ rfl rfl (fun _ => zbc func175 rfl rfl (hI) (by first | rfl | simp [AV.okInL, AV.okIn, zay]) rfl) (fun _ => trivial) ?_
 refine G [2, 2, 1, 9, 0] ?_
 refine cX (fun h => ?_) fun h => ?_
 ·have hB : numB s most = false := by
   cases hb : numB s most with
   | false => rfl
   | true =>
    exfalso
    obtain ⟨h1, h2⟩ := zfo hb
    obtain ⟨h3, h4, h5⟩ := hk2 h1
    have h6 : v = (valS s : Nat) := by rw [hv] at h3; exact Lib.NumEnd.ok.inj h3
    have h7 : s.size ≤ 5 := (canS_size h1).2
    subst h6
    rw [hW] at h4
    subst h4
    simp at h
    omega
  rw [zgh hB] at hR
  subst hR
  refine jcs ?_
  exact yE
 ·simp at h
  obtain ⟨⟨⟨h1, h2⟩, h3⟩, h4⟩ := h
  have hk1 := hk (by omega) h2 (by rw [hW]; exact h4) hv
  have hB : numB s most = true := by
   unfold numB
   rw [hk1.1, ← hk1.2]
   simpa using h3
  rw [zgQ hB] at hR
  subst hR
  have hvv := hk1.2
  subst hvv
  refine jcM ?_
  exact yE
end Go.Proofs.YtbjdjclkbjpebaaGreatDoor
namespace Go.Proofs.YtbjdjclkbjpebaaGreatDoor
open Go.RowKit Go.Sort
set_option maxHeartbeats 16000000
set_option linter.unusedVariables false
set_option linter.unusedSimpArgs false
set_option maxRecDepth 100000
theorem i64_and_mask (n k : Nat) (hn : n < 9223372036854775808) (hk : k ≤ 62) : bits .and .i64 (n : Int) ((2 ^ k - 1 : Nat) : Int) = ((n % 2 ^ k : Nat) : Int) := by
 have hp : 2 ^ k ≤ 2 ^ 62 := Nat.pow_le_pow_right (by decide) hk
 have hp' : n % 2 ^ k ≤ n := Nat.mod_le _ _
 have h1 : (BitVec.ofInt 64 (n : Int)).toNat = n := by
  exact ja6
 have h2 : (BitVec.ofInt 64 ((2 ^ k - 1 : Nat) : Int)).toNat = 2 ^ k - 1 := by
  exact ja6
 show IntKind.i64.wrap ((BitVec.ofInt 64 (n : Int) &&& BitVec.ofInt 64 ((2 ^ k - 1 : Nat) : Int)).toNat : Int) = _
 rw [BitVec.toNat_and, h1, h2, Nat.and_two_pow_sub_one_eq_mod, IntKind.wrap_i64]
 omega
theorem i64_and_255 (n : Nat) (hn : n < 9223372036854775808) : bits .and .i64 (n : Int) 255 = ((n % 256 : Nat) : Int) := i64_and_mask n 8 hn (by omega)
theorem or_add (a b i : Nat) (hb : b < 2 ^ i) : (a * 2 ^ i) ||| b = a * 2 ^ i + b := by
 have := Nat.two_pow_add_eq_or_of_lt (i := i) (b := b) hb a
 rw [Nat.mul_comm] at this
 exact this.symm
theorem u32_or (a b i : Nat) (hb : b < 2 ^ i) (h : a * 2 ^ i + b < 4294967296) : bits .or .u32 ((a * 2 ^ i : Nat) : Int) (b : Int) = ((a * 2 ^ i + b : Nat) : Int) := by
 have h1 : (BitVec.ofInt 32 ((a * 2 ^ i : Nat) : Int)).toNat = a * 2 ^ i := by
  exact ja6
 have h2 : (BitVec.ofInt 32 (b : Int)).toNat = b := by
  exact ja6
 show IntKind.u32.wrap ((BitVec.ofInt 32 ((a * 2 ^ i : Nat) : Int) ||| BitVec.ofInt 32 (b : Int)).toNat : Int) = _
 rw [BitVec.toNat_or, h1, h2, or_add a b i hb, IntWalk.u32_in _ (by omega)]
theorem clone_s (n : Nat) (xs : List Int) (hx : xs.length = n) (hn : n ≤ 140737488355328) : Fn Tryz.prog 109 [.p (.sl n 1 (bs xs))] (.row 0) [(0, .row 5 1 n (bs xs))] := by
 exact jav
def beN (m n : Nat) : List Int := (List.range m).map fun i => ((n / 2 ^ (8 * (m - 1 - i)) % 256 : Nat) : Int)
theorem zhe (m n : Nat) : (beN m n).length = m := by simp [beN]
def bgK (m n k : Nat) : List Int := List.replicate (m - k) 0 ++ (beN m n).drop (m - k)
theorem bgK_len (m n k : Nat) (hk : k ≤ m) : (bgK m n k).length = m := by
 rw [bgK, List.length_append, List.length_replicate, List.length_drop, zhe]; omega
theorem bgK_set (m n k : Nat) (hk : k < m) : (bgK m n k).set (m - 1 - k) ((n / 256 ^ k % 256 : Nat) : Int) = bgK m n (k + 1) := by
 have e : m - k = (m - 1 - k) + 1 := by omega
 have hl : m - 1 - k < (beN m n).length := by rw [zhe]; omega
 have hb : (beN m n)[m - 1 - k] = ((n / 256 ^ k % 256 : Nat) : Int) := by
  simp only [beN, List.getElem_map, List.getElem_range]
  rw [show 8 * (m - 1 - (m - 1 - k)) = 8 * k by omega, Nat.pow_mul]
 rw [bgK, bgK, show m - (k + 1) = m - 1 - k by omega, e, List.replicate_succ', List.append_assoc, List.set_append_right _ _ (by simp), List.length_replicate, Nat.sub_self, List.singleton_append, List.set_cons_zero, List.drop_eq_getElem_cons hl, hb]
theorem bigN_s (w n : Nat) (hw : w ≤ 8) (hn : n < 9223372036854775808) : Fn Tryz.prog 84 [.p (.v (.int .i64 n)), .p (.v (.int .i64 w))] (.row 0) [(0, .row 5 1 w (bs (beN w n)))] := by
 refine fnI fun w0 A => ?_
 refine G [7] ?_
 refine zab (zhm 8 U62 eo5 zr5 rfl (by omega) (by omega) (by omega) (by simp only [maxLen]; omega) rfl) rfl rfl ⟨rfl, trivial⟩ ?_
 refine G [10] ?_
 refine zag (fun m st => ∃ k : Nat, m + k = w ∧ st = St.of [(0, .p (.v (.int .i64 (n / 256 ^ k : Nat)))), (5, .row 5), (6, .p (.v (.int .i64 ((w : Int) - 1 - k))))] [(5, .row 5 1 w (bs (bgK w n k)))]) w ?_ ?_
 ·refine ⟨_, zah (fun _ => 8) _ _ ?_ ?_ rfl, 0, by omega, rfl⟩
  ·rw [Nat.pow_zero, Nat.div_one]
   exact jbF
  ·rw [show bgK w n 0 = List.replicate w 0 by rw [bgK, List.drop_of_length_le (by rw [zhe]; omega), List.append_nil]; rfl]
   rw [show bs (List.replicate w 0) = List.replicate w (PV.v (.int .u8 0)) by simp [bs]]
   exact ⟨⟨rfl, rfl⟩, trivial⟩
 rintro m st ⟨k, hk, rfl⟩
 refine jcs ?_
 refine cX (fun h => ?_) fun h => ?_
 ·have hlt : k < w := by simp at h; omega
  clear h
  have hq : n / 256 ^ k < 9223372036854775808 := Nat.lt_of_le_of_lt (Nat.div_le_self _ _) hn
  have hset := bgK_set w n k hlt
  have hnx : n / 256 ^ (k + 1) = n / 256 ^ k / 256 := by rw [Nat.pow_succ, Nat.div_div_eq_div_mul]
  have hlen := bgK_len w n k (by omega)
  generalize n / 256 ^ k = q at hq hset hnx ⊢
  have g4 : setR (bs (bgK w n k)) (w - 1 - k) [.v (.int .u8 ((q % 256 : Nat) : Int))] = bs (bgK w n (k + 1)) := by rw [zhd (by omega), hset]
  have g5 : (bs (bgK w n k)).length = w := by rw [bs_length]; exact hlen
  have g6 : (q : Int).fdiv (2 ^ min (8 : Int).toNat IntKind.i64.bits) = ((q / 256 : Nat) : Int) := by
   rw [show (2 : Int) ^ min (8 : Int).toNat IntKind.i64.bits = 256 from rfl, Int.fdiv_eq_ediv_of_nonneg _ (by omega)]; omega
  refine G [8] ?_
  refine zaa (zaU (by simp) (i64_and_255 q hq)) rfl rfl ?_
  refine zaa (zbL U3 U5 (by first | exact IntWalk.u8_in _ (by omega) | rfl)) rfl rfl ?_
  refine zab (zan U62 sz5 (by omega) (by omega) (show _ = w - 1 - k by omega)) rfl rfl ⟨rfl, trivial⟩ ?_
  refine jc0 ?_
  refine G [3] ?_
  refine zaa (zce (by omega) g6) rfl rfl ?_
  refine jcq ?_
  refine jcG ?_ ?_
  ·refine ⟨⟨?_, rfl⟩, ⟨rfl, rfl⟩, ⟨?_, rfl⟩, trivial⟩
   ·show AV.p (.v (.int .i64 ((q / 256 : Nat) : Int))) = AV.p (.v (.int .i64 ((n / 256 ^ (k + 1) : Nat) : Int)))
    rw [hnx]
   ·exact jb2
  ·exact ⟨⟨rfl, rfl⟩, trivial⟩
 have hge : k = w := by simp at h; omega
 clear h
 subst hge
 rw [show bgK k n k = beN k n by simp [bgK]]
 exact jbB
end Go.Proofs.YtbjdjclkbjpebaaGreatDoor
namespace Go.Proofs.YtbjdjclkbjpebaaGreatDoor
open Tryz
open Go.RowKit Go.Sort
set_option maxHeartbeats 16000000
set_option linter.unusedVariables false
set_option linter.unusedSimpArgs false
set_option maxRecDepth 100000
def ixB (s : ByteArray) (c : UInt8) : Int := Lib.indexByte s.data.toList c
theorem zfZ (c : UInt8) : ∀ l : List UInt8, -1 ≤ Lib.indexByte l c
 | [] => by simp [Lib.indexByte]
 | b :: l => by
  have := zfZ c l
  simp only [Lib.indexByte]
  split
  ·omega
  ·split
   ·omega
   ·omega
theorem ixB_ge (s : ByteArray) (c : UInt8) : -1 ≤ ixB s c := zfZ c _
theorem zfY (c : UInt8) : ∀ l : List UInt8, Lib.indexByte l c < l.length
 | [] => by simp [Lib.indexByte]
 | b :: l => by
  have := zfY c l
  simp only [Lib.indexByte, List.length_cons]
  split
  ·omega
  ·split
   ·omega
   ·omega
theorem sliteIB_s (s : ByteArray) (c : UInt8) : Fn prog 155 [.p (.v (.string s)), .p (.v (.int .u8 (c.toNat : Nat)))] (.p (.v (.int .i64 (ixB s c)))) [] := by
 have h := zis (P := prog) (f := 155) [.string s, .int .u8 (c.toNat : Nat)] (r := .int .i64 (ixB s c)) rfl fun w => by
  have := stringslite_IndexByte s (c.toNat : Nat) w
  rw [show ((c.toNat : Nat) : Int).toNat.toUInt8 = c by simp] at this
  exact this
 exact h
theorem zff (s : ByteArray) (c : UInt8) : Fn prog 173 [.p (.v (.string s)), .p (.v (.string ⟨#[c]⟩))] (.p (.v (.int .i64 (ixB s c)))) [] := by
 have hz : (⟨#[c]⟩ : ByteArray).size = 1 := rfl
 have hI := sliteIB_s s c
 refine zb7 func173 rfl (Nat.le_of_ble_eq_true rfl) fun w0 A => ?_
 refine zad (tx (jcA ?_))
 refine zac (zad (tx (jco ?_)))
 refine jdz (zgp U9) ?_
 refine jcA ?_
 refine zac (zad (zao (zad (tx (jco ?_)))))
 refine jdz a_eql ?_
 refine jco ?_
 refine mb2 _ rfl rfl (fun hb => (zav (r := .p _))) (fun _ => trivial) ?_
 refine mb2 _ rfl rfl (fun hb => (zav (r := .p _))) (fun _ => trivial) ?_
 refine mb2 _ rfl rfl (fun hb => zhY) (fun _ => trivial) ?_
 refine zaa (a_or (by first | exact id | (simp; done) | grind)) rfl rfl ?_
 refine jcA ?_
 refine zac (zaz (zaJ _ rfl (fun h => ?_) (fun h => ?_)))
 ·have hs : s = ⟨#[c]⟩ := by
   rw [hz] at h
   simp at h
   exact h.symm
  have h0 : ixB s c = 0 := by rw [hs]; simp [ixB, Lib.indexByte]
  rw [h0]
  refine zad (tx (jcA ?_))
  refine zac (zaE (zcz (zbG ?_)))
  exact jbW
 clear h
 refine zad (tx (jco ?_))
 refine jdz a_eql ?_
 refine jcA ?_
 refine zac (zaz (zaJ _ rfl (fun h => ?_) (fun h => ?_)))
 ·refine zad (tx (jco ?_))
  refine jco ?_
  refine zaa (zbE U9 (by omega) (show _ = some ((c.toNat : Nat) : Int) from rfl)) rfl rfl ?_
  refine zaR (fun n => 30 + 1000 * n) (hI) rfl rfl func155 rfl rfl (by first | rfl | simp [AV.noSl, AV.noSlL, AObj.noSl, PV.isV, zaH]) (by first | rfl | simp [AV.noSl, AV.noSlL, AObj.noSl, PV.isV, zaH]) rfl rfl rfl (by first | exact trivial | exact ⟨rfl, trivial⟩ | exact ⟨rfl, rfl, trivial⟩ | exact ⟨rfl, rfl, rfl, rfl, rfl, trivial⟩) rfl rfl rfl ?_
  refine jcA ?_
  refine zac (zaE (zcz (zbG ?_)))
  exact jbW
 ·rw [hz] at h; simp at h
theorem index1_s (s : ByteArray) (c : UInt8) : Fn prog 145 [.p (.v (.string s)), .p (.v (.string ⟨#[c]⟩))] (.p (.v (.int .i64 (ixB s c)))) [] := by
 have hI := zff s c
 refine fnI fun w0 A => ?_
 refine G [8] ?_
 refine cV hI ?_
 refine jcJ ?_
 exact yE
theorem contains1_s (s : ByteArray) (c : UInt8) : Fn prog 121 [.p (.v (.string s)), .p (.v (.string ⟨#[c]⟩))] (.p (.v (.bool (decide (0 ≤ ixB s c))))) [] := by
 have hI := index1_s s c
 refine fnI fun w0 A => ?_
 refine G [8] ?_
 refine cV hI ?_
 refine G [4, 9, 0] ?_
 exact yE
def cutA (s : ByteArray) (c : UInt8) : ByteArray := if 0 ≤ ixB s c then s.extract 0 (ixB s c).toNat else s
def cutZ (s : ByteArray) (c : UInt8) : ByteArray := if 0 ≤ ixB s c then s.extract ((ixB s c).toNat + 1) s.size else ⟨#[]⟩
theorem ixB_lt (s : ByteArray) (c : UInt8) : ixB s c < s.size := by
 have := zfY c s.data.toList
 show Lib.indexByte s.data.toList c < ((s.data.size : Nat) : Int)
 rw [← Array.length_toList]
 exact this
theorem zdr (s : ByteArray) (i j : Nat) : (s.extract i j).size = min j s.size - i := by rw [ByteArray.size_extract]
theorem cutA_size (s : ByteArray) (c : UInt8) : (cutA s c).size ≤ s.size := by
 unfold cutA; split
 ·rw [zdr]; omega
 ·exact Nat.le_refl _
theorem cutZ_size (s : ByteArray) (c : UInt8) : (cutZ s c).size ≤ s.size := by
 unfold cutZ; split
 ·rw [zdr]; omega
 ·exact Nat.zero_le _
theorem sliteCut1_s (s : ByteArray) (c : UInt8) (hs : s.size ≤ 9223372036854775807) : Fn prog 161 [.p (.v (.string s)), .p (.v (.string ⟨#[c]⟩))] (.tup [.p (.v (.string (cutA s c))), .p (.v (.string (cutZ s c))), .p (.v (.bool (decide (0 ≤ ixB s c))))]) [] := by
 have hI := zff s c
 have h1 := ixB_ge s c
 have h2 := ixB_lt s c
 have hz : (⟨#[c]⟩ : ByteArray).size = 1 := rfl
 unfold cutA cutZ
 generalize ixB s c = k at *
 by_cases hk : 0 ≤ k
 ·rw [if_pos hk, if_pos hk, decide_eq_true hk]
  obtain ⟨n, rfl⟩ := Int.eq_ofNat_of_zero_le hk
  rw [Int.toNat_natCast]
  refine fnI fun w0 A => ?_
  refine G [11] ?_
  refine cV hI ?_
  refine jcq ?_
  refine cX (fun h => ?_) fun h => ?_
  ·refine G [4] ?_
   refine zaa (zeB (L := none) (H := (some (_, _))) U9 rfl ⟨by omega, (show _ = n by omega)⟩ (by omega) (by omega) rfl) rfl rfl ?_
   refine G [4] ?_
   refine zaa (za3 (show _ = ((n + 1 : Nat) : Int) by rw [hz, IntKind.wrap_i64]; omega)) rfl rfl ?_
   refine zaa (zeB (L := (some (_, _))) (H := none) U9 ⟨by omega, (show _ = n + 1 by omega)⟩ rfl (by omega) (by omega) rfl) rfl rfl ?_
   refine jct ?_
   exact yE
  ·exact absurd h (by simp [hk])
 ·rw [if_neg hk, if_neg hk, decide_eq_false hk]
  refine fnI fun w0 A => ?_
  refine G [11] ?_
  refine cV hI ?_
  refine jcq ?_
  refine cX (fun h => ?_) fun h => ?_
  ·simp at h; omega
  ·refine G [9, 9, 0] ?_
   exact yE
theorem cut1_s (s : ByteArray) (c : UInt8) (hs : s.size ≤ 9223372036854775807) : Fn prog 129 [.p (.v (.string s)), .p (.v (.string ⟨#[c]⟩))] (.tup [.p (.v (.string (cutA s c))), .p (.v (.string (cutZ s c))), .p (.v (.bool (decide (0 ≤ ixB s c))))]) [] := by
 have hI := sliteCut1_s s c hs
 refine fnI fun w0 A => ?_
 refine G [10] ?_
 refine cV hI ?_
 refine jcM ?_
 exact yE
def cntB (s : ByteArray) (c : UInt8) : Nat := Lib.countB s ⟨#[c]⟩
def spl (s : ByteArray) (c : UInt8) : List ByteArray := Lib.splitB ⟨#[c]⟩ 0 (cntB s c) s
theorem zfB (s : ByteArray) (c : UInt8) : (spl s c).length = cntB s c + 1 := Lib.splitB_all ⟨#[c]⟩ (Nat.le_refl 1) 0 _ s rfl
theorem cntB_le (s : ByteArray) (c : UInt8) : cntB s c ≤ s.size := Lib.countB_le ⟨#[c]⟩ (Nat.le_refl 1) s.size s (Nat.le_refl _)
theorem zgC (sep : ByteArray) : ∀ (k : Nat) (s : ByteArray), ∀ t ∈ Lib.splitB sep 0 k s, t.size ≤ s.size
 | 0, s, t, h => by
  simp only [Lib.splitB, List.mem_singleton] at h
  rw [h]; exact Nat.le_refl _
 | k + 1, s, t, h => by
  unfold Lib.splitB at h
  split at h
  ·simp only [List.mem_singleton] at h
   rw [h]; exact Nat.le_refl _
  ·rcases List.mem_cons.1 h with h | h
   ·rw [h, zdr]; omega
   ·have := zgC sep k _ t h
    rw [zdr] at this; omega
theorem spl_size (s : ByteArray) (c : UInt8) : ∀ t ∈ spl s c, t.size ≤ s.size := zgC _ _ _
theorem kitCount (s : ByteArray) (c : UInt8) (w : World) : Calls prog 190 #[.string s, .string ⟨#[c]⟩] w fun e w' => e = .returned (.int .i64 (cntB s c : Nat)) ∧ w' = w := by
 refine (strings_Count_one s c w).mono fun e w' ⟨he, hw⟩ => ⟨?_, hw⟩
 rw [he]
 show _ = Ending.returned (Value.int .i64 ((Lib.count s.data.toList [c] : Nat) : Int))
 rw [Lib.count_one]
 rfl
theorem kitIndex (s : ByteArray) (c : UInt8) (w : World) : Calls prog 145 #[.string s, .string ⟨#[c]⟩] w fun e w' => e = .returned (.int .i64 (Lib.indexB s ⟨#[c]⟩)) ∧ w' = w := by
 refine (strings_Index_one s c w).mono fun e w' ⟨he, hw⟩ => ⟨?_, hw⟩
 rw [he]
 show _ = Ending.returned (Value.int .i64 (Lib.index s.data.toList [c]))
 rw [Lib.index_one]
theorem genSplit1_s (s : ByteArray) (c : UInt8) (hs : s.size < 4294967281) : Fn prog 180 [.p (.v (.string s)), .p (.v (.string ⟨#[c]⟩)), .p (.v (.int .i64 0)), .p (.v (.int .i64 (-1)))] (.row 0) [(0, .row 9 1 (cntB s c + 1) (strs (spl s c)))] := by
 have hle := cntB_le s c
 refine fn_alloc (vs := [.string s, .string ⟨#[c]⟩, .int .i64 0, .int .i64 (-1)]) (us := (spl s c).map .string) rfl (by rw [List.length_map, zfB]) (by simp only [maxLen]; omega) (fun _ _ => strs_rep _) fun w => ?_
 have h := Any.strings_genSplit_core lays221 (by kernel_rfl) s ⟨#[c]⟩ 0 (-1) (cntB s c + 1) w hs (Nat.le_refl 1) (Nat.zero_le _) (fun x cc _ => kitIndex x c _) (kitCount s c w) (by decide) (by decide) (by
  rw [if_pos (by decide)]
  show _ = min ((cntB s c : Int) + 1) _
  omega)
 rw [Nat.add_sub_cancel] at h
 change Calls prog 180 _ w (fun e w' => e = .returned (.slice (some ⟨w.heap.size, 0, none⟩) (spl s c).length (cntB s c + 1)) ∧ w' = w.alloc (.cells (Lib.cellsOf (spl s c) (cntB s c + 1)) 9)) at h
 rw [zfB, ← zfB s c, Lib.cellsOf_full, zfB] at h
 exact h
theorem split1_s (s : ByteArray) (c : UInt8) (hs : s.size < 4294967281) : Fn prog 162 [.p (.v (.string s)), .p (.v (.string ⟨#[c]⟩))] (.row 0) [(0, .row 9 1 (cntB s c + 1) (strs (spl s c)))] := by
 have hG := genSplit1_s s c hs
 refine fnI fun w0 A => ?_
 refine G [8] ?_
 refine zaR (fun n => 7 + 1000 * n) (hG) rfl rfl func180 rfl rfl (by first | rfl | simp [AV.noSl, AV.noSlL, AObj.noSl, PV.isV, strs]) (by first | rfl | simp [AV.noSl, AV.noSlL, AObj.noSl, PV.isV, strs]) rfl rfl rfl (by first | exact trivial | exact ⟨rfl, trivial⟩ | exact ⟨rfl, rfl, trivial⟩ | exact ⟨rfl, rfl, rfl, rfl, rfl, trivial⟩) rfl rfl rfl ?_
 exact jbi
end Go.Proofs.YtbjdjclkbjpebaaGreatDoor
