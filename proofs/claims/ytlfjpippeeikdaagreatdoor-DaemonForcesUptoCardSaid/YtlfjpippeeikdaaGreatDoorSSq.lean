/- strconv.Itoa, strconv.Atoi, addr.small, addr.Number, the reference's NumberOf, over data. -/
import Derived.Test.YtlfjpippeeikdaaGreatDoorSUtZ
import Derived.Test.YtlfjpippeeikdaaGreatDoorSShelf
import Derived.WalkSmall
set_option linter.all false
namespace Go.Proofs.YtlfjpippeeikdaaGreatDoor
open Tryz
open Go.RowKit Go.Sort
set_option maxHeartbeats 16000000
set_option maxRecDepth 100000
theorem GI.tab {w : World} (h : GI w) : Lib.TabIs prog w "internal/strconv.uint64pow10" .u64 Lib.pow10Tab := by
 obtain ⟨t, fz, h1⟩ := h.2 _ (qbQ ..)
 exact var_of_heap qm h1
theorem GI.err {w : World} (h : GI w) {g : Nat} (hg : g ∈ gErr) : ∃ ev, w.cell? ⟨g, 0, none⟩ = some ev ∧ (ev = .nilIface ∨ ∃ te pe, ev = .iface te pe) := by
 obtain ⟨ev, t, fz, h1, h2⟩ := h.1 g hg
 exact ⟨ev, cell_of_row w g 0 #[ev] t fz h1, h2⟩
theorem zfw {P : Program} {f : FuncId} {args : List AV} {vs : List Value} {res : AV} (ha : zge args = some vs) (h : ∀ w : World, GI w → Calls P f vs.toArray w fun e w' => ∃ r, e = .returned r ∧ (∀ S m w, Rep S m w res r) ∧ Below w.heap.size w w') : Fn P f args res [] := by
 intro w A us hA hG hus
 rw [zev ha hus]
 refine (h w hG).mono ?_
 rintro e w' ⟨r, rfl, hr, hb⟩
 exact ⟨r, rfl, A, fun _ => none, hr _ _ _, hb, fun b hb => .inl hb, fun b h => qbP (hA b h) hb.size, fun o _ => rfl, fun o ob ho => qae, fun o o' ob ob' v v' b ho => qae, hG⟩
theorem grow_below (w : World) (k : Nat) (os : Array Obj) : Below w.heap.size w (grow (w.drewN k) os) :=
 (zht (Below.refl _ w) k).trans ⟨rfl, rfl, rfl, by simp [grow], fun b hb => by
  show (w.heap ++ os)[b]? = w.heap[b]?
  rw [Array.getElem?_append_left hb]⟩
theorem itoa_s (n : Int) (h0 : -9223372036854775808 ≤ n) (h1 : n ≤ 9223372036854775807) : Fn prog 177 [qd n] (qc (itoS n)) [] :=
 zfw (vs := [.int .i64 n]) rfl fun w hG => (strconv_Itoa n h0 h1 w hG.tab).mono fun e w' ⟨he, k, os, hw⟩ => ⟨_, he, fun S m w => za3 rfl, by rw [hw]; exact grow_below w k os⟩
theorem zif {S : Nat → Prop} {m : Nat → Option Value} {w : World} {x y : AV} {u v : Value} (h1 : Rep S m w x u) (h2 : Rep S m w y v) : Rep S m w (.tup [x, y]) (.tuple #[u, v]) := by
 simp only [Rep, RepL]
 exact ⟨[u, v], rfl, u, [v], rfl, h1, v, [], rfl, h2, rfl⟩
theorem atoi_ok (s : ByteArray) (v : Int) (hs : s.size ≤ 140737488351232) (h : Lib.atoiAll s.data.toList = .ok v) : Fn prog 176 [qc s] (.tup [qd v, .p (.v .nilIface)]) [] :=
 zfw (vs := [.string s]) rfl fun w hG => (strconv_Atoi_ok s qk v h w).mono fun e w' ⟨he, hw⟩ => ⟨_, he, fun S m w => zif (za3 rfl) (za3 rfl), by
  rcases hw with rfl | ⟨t, rfl⟩
  ·exact Below.refl _ _
  ·exact Lib.bytesWorld_below _ _ _⟩
theorem atoi_bad (s : ByteArray) (hs : s.size ≤ 140737488351232) (h : ∀ v, Lib.atoiAll s.data.toList ≠ .ok v) : ∃ n : Int, Fn prog 176 [qc s] (.tup [qd n, .sat isIfc]) [] := by
 cases hr : Lib.atoiAll s.data.toList
 ·exact absurd hr (h _)
 ·refine ⟨0, zfw (vs := [.string s]) rfl fun w hG => ?_⟩
  obtain ⟨ev, h1, h2⟩ := hG.err (g := 1) qw
  exact (Any.strconv_Atoi_syntax Tryz.laysC172 s qk hr ev w h1 h2).mono fun e w' ⟨N, he, _, _, hb⟩ => ⟨_, he, fun S m w => zif (za3 rfl) (by simp only [Rep]; exact ⟨rfl, rfl⟩), hb⟩
 ·refine ⟨Lib.atoiSat s.data.toList, zfw (vs := [.string s]) rfl fun w hG => ?_⟩
  obtain ⟨ev, h1, h2⟩ := hG.err (g := 2) qw
  exact (Any.strconv_Atoi_range Tryz.laysC172 s qk hr ev w h1 h2).mono fun e w' ⟨N, he, _, _, hb⟩ => ⟨_, he, fun S m w => zif (za3 rfl) (by simp only [Rep]; exact ⟨rfl, rfl⟩), hb⟩
def smV (s : ByteArray) : Int := if canS s = true then (valS s : Int) else 0
theorem small_s (s : ByteArray) (most : Int) (hs : s.size ≤ 140737488351232) : Fn prog 163 [qc s, qd most] (.tup [qd (smV s), qf (numB s most)]) [] := by
 obtain ⟨V, hV⟩ : ∃ V, smV s = V := ⟨_, rfl⟩
 obtain ⟨B, hB⟩ : ∃ B, numB s most = B := ⟨_, rfl⟩
 rw [hV, hB]
 unfold smV at hV
 unfold numB at hB
 refine fnI fun w0 A => ?_
 refine G [13] ?_
 refine mb2 _ rfl rfl (fun hb => (zgJ U9)) (fun _ => trivial) ?_
 refine G [1, 2, 2] ?_
 refine mb2 _ rfl rfl (fun hb => (zgJ U9)) (fun _ => trivial) ?_
 refine G [3] ?_
 refine mb2 _ rfl rfl (fun hb => (zct U9 qk (zid (s := s) (i := 0) (by simp at hb; omega)))) (fun _ => trivial) ?_
 refine mb2 _ rfl rfl (fun hb => zbC) (fun _ => trivial) ?_
 refine r_mb3 _ rfl rfl (.mb _ _ _ _ (by first | exact id | simp_all) (.keep _ _ _ (.keep _ _ _ .nil))) (fun hb => (a_and (by first | exact id | (simp_all; done) | grind))) (fun _ => trivial) ?_
 refine G [0, 2, 1, 9, 0] ?_
 refine cX ?_ ?_ <;> intro h
 ·have hc : canS s = false := by
   simp only [Bool.or_eq_true, qaT, decide_eq_true_eq, beq_iff_eq] at h
   refine canS_not ?_
   rcases h with (h | h) | ⟨h1, h2⟩
   ·exact .inl qk
   ·exact .inr (.inl qk)
   ·exact .inr (.inr (.inl ⟨qk, h2⟩))
  rw [hc] at hV hB
  subst hV
  subst hB
  refine jcV ?_
  exact yE
 have h0 : s.size ≠ 0 ∧ s.size ≤ 5 ∧ (1 < s.size → sAt s 0 ≠ 48) := by
  simp only [qbB, Bool.and_eq_false_iff, decide_eq_false_iff_not, beq_eq_false_iff_ne] at h
  obtain ⟨⟨h1, h2⟩, h3⟩ := h
  exact ⟨qk, qk, fun h4 => by rcases h3 with h3 | h3 <;> first | omega | exact h3⟩
 clear h
 obtain ⟨z0, z5, zz⟩ := h0
 refine G [13] ?_
 refine zae (fun m st => ∃ i : Nat, m + i = s.size ∧ (∀ j, j < i → digS (sAt s j) = true) ∧ st = St.of [(0, qc s), (1, qd most), (6, qd (valT s i)), (27, qd s.size), (28, qd i)] []) s.size ?_ ?_
 ·refine ⟨_, zad id _ _ ?_ ?_ rfl, 0, qk, qk, rfl⟩
  ·refine ⟨⟨rfl, rfl⟩, ⟨rfl, rfl⟩, ⟨?_, rfl⟩, ⟨rfl, rfl⟩, ⟨rfl, rfl⟩, trivial⟩
   rw [valT_zero]; rfl
  ·trivial
 rintro m st ⟨i, hi, hf, rfl⟩
 refine G [5] ?_
 refine cX ?_ ?_ <;> intro h
 ·have hlt : i < s.size := by simp at h; omega
  clear h
  have g1 := zid hlt
  have hsu := @valT_succ s i hlt
  have hn := @canS_not s
  have hb := sAt_B hlt
  have hv0 := valT_in (Nat.le_of_lt hlt) qk hf
  generalize hc : sAt s i = c at *
  generalize valT s i = v at *
  refine G [13] ?_
  refine zaa (zct U9 qk qao) rfl rfl ?_
  refine G [4] ?_
  refine mb2 _ rfl rfl (fun hb => (zct U9 qk qao)) (fun _ => trivial) ?_
  refine G [1, 2, 1, 9, 0] ?_
  refine cX ?_ ?_ <;> intro h
  ·have hd : digS c = false := by
    unfold digS
    simp at h ⊢
    omega
   rw [hn (.inr (.inr (.inr ⟨i, hlt, by rw [hc]; exact hd⟩)))] at hV hB
   subst hV
   subst hB
   refine jcV ?_
   exact yE
  have hd : digS c = true := by
   unfold digS
   simp at h ⊢
   omega
  clear h
  have hs1 := hsu hd
  have hd' := hd
  unfold digS at hd'
  simp only [qaT, decide_eq_true_eq] at hd'
  refine G [6] ?_
  refine zaa (zct U9 qk qao) rfl rfl ?_
  refine G [9, 9, 0] ?_
  refine ⟨m - 1, qk, _, zad id _ _ ?_ ?_ rfl, i + 1, qk, ?_, rfl⟩
  ·refine ⟨⟨rfl, rfl⟩, ⟨rfl, rfl⟩, ⟨?_, rfl⟩, ⟨rfl, rfl⟩, ⟨rfl, rfl⟩, trivial⟩
   rw [hs1]; rfl
  ·trivial
  ·intro j hj
   by_cases e : j = i
   ·subst e; rw [hc]; exact hd
   ·exact hf j qk
 have hge : i = s.size := by simp at h; omega
 clear h
 subst hge
 have hcan := canS_dig z0 z5 zz hf
 rw [hcan] at hV hB
 rw [if_pos rfl] at hV
 rw [valT_all, hV]
 rw [hV, Bool.true_and] at hB
 subst hB
 refine G [11, 9, 0] ?_
 exact yE
def numR (s : ByteArray) (most : Int) : AV := .tup [qd (numV s most), qd (numE s most)]
theorem zg6 {s : ByteArray} {most : Int} (h : numB s most = true) : numR s most = .tup [qd (valS s : Nat), qd 0] := by unfold numR numV numE; rw [h]; rfl
theorem zgD {s : ByteArray} {most : Int} (h : numB s most = false) : numR s most = .tup [qd 0, qd 3] := by unfold numR numV numE; rw [h]; rfl
theorem zfn {s : ByteArray} {most : Int} (h : numB s most = true) : canS s = true ∧ (valS s : Int) ≤ most := by
 unfold numB at h
 simpa using h
theorem number_s (s : ByteArray) (most : Int) (hs : s.size ≤ 140737488351232) : Fn prog 125 [qc s, qd most] (numR s most) [] := by
 have hC := small_s s most hs
 cases hB : numB s most with
 | true =>
  rw [zg6 hB]
  rw [hB, show smV s = (valS s : Nat) by unfold smV; rw [if_pos (zfn hB).1]] at hC
  refine fnI fun w0 A => ?_
  refine G [9] ?_
  refine cV hC ?_
  refine G [12, 9, 0] ?_
  refine cX ?_ ?_ <;> intro h
  ·cases h
  refine G [8, 9, 0] ?_
  exact yE
 | false =>
  rw [zgD hB]
  rw [hB] at hC
  refine fnI fun w0 A => ?_
  refine G [9] ?_
  refine cV hC ?_
  refine G [12, 9, 0] ?_
  refine cX ?_ ?_ <;> intro h
  ·refine G [6, 9, 0] ?_
   exact yE
  ·cases h
theorem refNum_s (s : ByteArray) (most : Int) (hs : s.size ≤ 140737488351232) : Fn prog 138 [qc s, qd most] (numR s most) [] := by
 by_cases hA : ∃ v, Lib.atoiAll s.data.toList = .ok v
 rotate_left
 ·obtain ⟨n, hC⟩ := atoi_bad s hs fun v h => hA ⟨v, h⟩
  have hB : numB s most = false := by
   cases h : numB s most with
   | false => rfl
   | true => exact absurd ⟨_, (ziC (zfn h).1).1⟩ hA
  rw [zgD hB]
  refine fnI fun w0 A => ?_
  refine G [8] ?_
  refine cV hC ?_
  refine G [10] ?_
  refine jdY (a_ifneqI underlying200) ?_
  refine G [21, 9, 0] ?_
  exact jca
 obtain ⟨v, hv⟩ := hA
 have hC := atoi_ok s v hs hv
 obtain ⟨v0, v1⟩ := Lib.atoiAll_bounds hv
 have hI := itoa_s v v0 v1
 have hk := @canS_num s v
 have hk2 := @ziC s
 obtain ⟨R, hR⟩ : ∃ R, numR s most = R := ⟨_, rfl⟩
 rw [hR]
 obtain ⟨w, hW⟩ : ∃ w, itoS v = w := ⟨_, rfl⟩
 rw [hW] at hI
 refine fnI fun w0 A => ?_
 refine G [8] ?_
 refine cV hC ?_
 refine G [10] ?_
 refine jdY (a_ifneqN underlying200) ?_
 refine G [8, 2, 4, 2, 2] ?_
 refine mb2 _ rfl rfl (fun _ => zbl func177 rfl rfl (hI) qr rfl) (fun _ => trivial) ?_
 refine G [2, 2, 1, 9, 0] ?_
 refine cX ?_ ?_ <;> intro h
 ·have hB : numB s most = false := by
   cases hb : numB s most with
   | false => rfl
   | true =>
    exfalso
    obtain ⟨h1, h2⟩ := zfn hb
    obtain ⟨h3, h4, h5⟩ := hk2 h1
    have h6 : v = (valS s : Nat) := by rw [hv] at h3; exact Lib.NumEnd.ok.inj h3
    have h7 : s.size ≤ 5 := (canS_size h1).2
    subst h6
    rw [hW] at h4
    subst h4
    simp at h
    omega
  rw [zgD hB] at hR
  subst hR
  refine jcV ?_
  exact yE
 ·simp at h
  obtain ⟨⟨⟨h1, h2⟩, h3⟩, h4⟩ := h
  have hk1 := hk qk h2 (by rw [hW]; exact h4) hv
  have hB : numB s most = true := by
   unfold numB
   rw [hk1.1, ← hk1.2]
   simpa using h3
  rw [zg6 hB] at hR
  subst hR
  have hvv := hk1.2
  subst hvv
  refine jdh ?_
  exact yE
end Go.Proofs.YtlfjpippeeikdaaGreatDoor
namespace Go.Proofs.YtlfjpippeeikdaaGreatDoor
open Go.RowKit Go.Sort
set_option maxRecDepth 100000
theorem or_add (a b i : Nat) (hb : b < 2 ^ i) : (a * 2 ^ i) ||| b = a * 2 ^ i + b := by
 have := Nat.two_pow_add_eq_or_of_lt (i := i) (b := b) hb a
 rw [qb6] at this
 exact this.symm
theorem u32_or (a b i : Nat) (hb : b < 2 ^ i) (h : a * 2 ^ i + b < 4294967296) : bits .or .u32 ((a * 2 ^ i : Nat) : Int) (b : Int) = ((a * 2 ^ i + b : Nat) : Int) := by
 have h1 : (BitVec.ofInt 32 ((a * 2 ^ i : Nat) : Int)).toNat = a * 2 ^ i := by
  rw [BitVec.ofInt_natCast, BitVec.toNat_ofNat]; exact Nat.mod_eq_of_lt qk
 have h2 : (BitVec.ofInt 32 (b : Int)).toNat = b := by
  rw [BitVec.ofInt_natCast, BitVec.toNat_ofNat]; exact Nat.mod_eq_of_lt qk
 show IntKind.u32.wrap ((BitVec.ofInt 32 ((a * 2 ^ i : Nat) : Int) ||| BitVec.ofInt 32 (b : Int)).toNat : Int) = _
 rw [BitVec.toNat_or, h1, h2, or_add a b i hb, qcg _ (by omega)]
end Go.Proofs.YtlfjpippeeikdaaGreatDoor
namespace Go.Proofs.YtlfjpippeeikdaaGreatDoor
open Tryz
open Go.RowKit Go.Sort
set_option maxHeartbeats 16000000
set_option maxRecDepth 100000
def ixB (s : ByteArray) (c : UInt8) : Int := Lib.indexByte s.data.toList c
theorem zgm (c : UInt8) : ∀ l : List UInt8, -1 ≤ Lib.indexByte l c
 | [] => by simp [Lib.indexByte]
 | b :: l => by
  have := zgm c l
  simp only [Lib.indexByte]
  split
  ·omega
  ·split
   ·omega
   ·omega
theorem ixB_ge (s : ByteArray) (c : UInt8) : -1 ≤ ixB s c := zgm c _
theorem zgl (c : UInt8) : ∀ l : List UInt8, Lib.indexByte l c < l.length
 | [] => by simp [Lib.indexByte]
 | b :: l => by
  have := zgl c l
  simp only [Lib.indexByte, qaO]
  split
  ·omega
  ·split
   ·omega
   ·omega
theorem sliteIB_s (s : ByteArray) (c : UInt8) : Fn prog 179 [qc s, .p (.v (.int .u8 (c.toNat : Nat)))] (qd (ixB s c)) [] := by
 have h := zgH (P := prog) (f := 179) [.string s, .int .u8 (c.toNat : Nat)] (r := .int .i64 (ixB s c)) rfl fun w => by
  have := stringslite_IndexByte s (c.toNat : Nat) w
  rw [show ((c.toNat : Nat) : Int).toNat.toUInt8 = c by simp] at this
  exact this
 exact h
theorem zff (s : ByteArray) (c : UInt8) : Fn prog 175 [qc s, qc ⟨#[c]⟩] (qd (ixB s c)) [] := by
 have hz : (⟨#[c]⟩ : ByteArray).size = 1 := rfl
 have hI := sliteIB_s s c
 refine zcN func175 rfl (qaA rfl) fun w0 A => ?_
 refine zan (tx (aP rfl rfl ?_))
 refine zag (zan (tx (mP rfl rfl ?_)))
 refine jdY (zgJ U9) ?_
 refine aP rfl rfl ?_
 refine zag (zan (zax (zan (tx (mP rfl rfl ?_)))))
 refine jdY zbC ?_
 refine mP rfl rfl ?_
 refine mb2 _ rfl rfl (fun hb => (zaI (r := .p _))) (fun _ => trivial) ?_
 refine mb2 _ rfl rfl (fun hb => (zaI (r := .p _))) (fun _ => trivial) ?_
 refine mb2 _ rfl rfl (fun hb => a_seql) (fun _ => trivial) ?_
 refine zaa (a_or (by first | exact id | (simp; done) | grind)) rfl rfl ?_
 refine aP rfl rfl ?_
 refine zag (zaE (zb2 _ rfl (fun h => ?_) (fun h => ?_)))
 ·have hs : s = ⟨#[c]⟩ := by
   rw [hz] at h
   simp at h
   exact h.symm
  have h0 : ixB s c = 0 := by rw [hs]; simp [ixB, Lib.indexByte]
  rw [h0]
  refine zan (tx ?_)
  exact jcb
 clear h
 refine zan (tx (mP rfl rfl ?_))
 refine jdY zbC ?_
 refine aP rfl rfl ?_
 refine zag (zaE (zb2 _ rfl (fun h => ?_) (fun h => ?_)))
 ·refine zan (tx (mP rfl rfl ?_))
  refine mP rfl rfl ?_
  refine zaa (zct U9 qk (show _ = some ((c.toNat : Nat) : Int) from rfl)) rfl rfl ?_
  refine zbQ (fun n => 30 + 1000 * n) (hI) rfl rfl func179 rfl rfl qC qC rfl rfl rfl ql rfl rfl rfl ?_
  exact jcb
 ·rw [hz] at h; simp at h
theorem index1_s (s : ByteArray) (c : UInt8) : Fn prog 135 [qc s, qc ⟨#[c]⟩] (qd (ixB s c)) [] := by
 have hI := zff s c
 refine fnI fun w0 A => ?_
 refine G [8] ?_
 refine cV hI ?_
 refine jdc ?_
 exact yE
def cutA (s : ByteArray) (c : UInt8) : ByteArray := if 0 ≤ ixB s c then s.extract 0 (ixB s c).toNat else s
def cutZ (s : ByteArray) (c : UInt8) : ByteArray := if 0 ≤ ixB s c then s.extract ((ixB s c).toNat + 1) s.size else ⟨#[]⟩
theorem ixB_lt (s : ByteArray) (c : UInt8) : ixB s c < s.size := by
 have := zgl c s.data.toList
 show Lib.indexByte s.data.toList c < ((s.data.size : Nat) : Int)
 rw [← qbp]
 exact this
theorem zdm (s : ByteArray) (i j : Nat) : (s.extract i j).size = min j s.size - i := by rw [ByteArray.size_extract]
theorem cutA_size (s : ByteArray) (c : UInt8) : (cutA s c).size ≤ s.size := by
 unfold cutA; split
 ·rw [zdm]; omega
 ·exact Nat.le_refl _
theorem cutZ_size (s : ByteArray) (c : UInt8) : (cutZ s c).size ≤ s.size := by
 unfold cutZ; split
 ·rw [zdm]; omega
 ·exact qbk _
theorem sliteCut1_s (s : ByteArray) (c : UInt8) (hs : s.size ≤ 9223372036854775807) : Fn prog 162 [qc s, qc ⟨#[c]⟩] (.tup [qc (cutA s c), qc (cutZ s c), qf (decide (0 ≤ ixB s c))]) [] := by
 have hI := zff s c
 have h1 := ixB_ge s c
 have h2 := ixB_lt s c
 have hz : (⟨#[c]⟩ : ByteArray).size = 1 := rfl
 unfold cutA cutZ
 generalize ixB s c = k at *
 by_cases hk : 0 ≤ k
 ·rw [if_pos hk, if_pos hk, decide_eq_true hk]
  obtain ⟨n, rfl⟩ := qaU hk
  rw [qaS]
  refine fnI fun w0 A => ?_
  refine G [11] ?_
  refine cV hI ?_
  refine jcS ?_
  refine cX ?_ ?_ <;> intro h
  ·refine G [4] ?_
   refine zaa (zeE (L := none) (H := (some (_, _))) U9 rfl ⟨qk, (show _ = n by omega)⟩ qk qk rfl) rfl rfl ?_
   refine G [4] ?_
   refine zaa (zd8 (show _ = ((n + 1 : Nat) : Int) by rw [hz, IntKind.wrap_i64]; omega)) rfl rfl ?_
   refine zaa (zeE (L := (some (_, _))) (H := none) U9 ⟨qk, (show _ = n + 1 by omega)⟩ rfl qk qk rfl) rfl rfl ?_
   refine jcQ ?_
   exact yE
  ·exact absurd h (by simp [hk])
 ·rw [if_neg hk, if_neg hk, decide_eq_false hk]
  refine fnI fun w0 A => ?_
  refine G [11] ?_
  refine cV hI ?_
  refine jcS ?_
  refine cX ?_ ?_ <;> intro h
  ·simp at h; omega
  ·refine G [9, 9, 0] ?_
   exact yE
theorem cut1_s (s : ByteArray) (c : UInt8) (hs : s.size ≤ 9223372036854775807) : Fn prog 122 [qc s, qc ⟨#[c]⟩] (.tup [qc (cutA s c), qc (cutZ s c), qf (decide (0 ≤ ixB s c))]) [] := by
 have hI := sliteCut1_s s c hs
 refine fnI fun w0 A => ?_
 refine G [10] ?_
 refine cV hI ?_
 refine jdh ?_
 exact yE
def cntB (s : ByteArray) (c : UInt8) : Nat := Lib.countB s ⟨#[c]⟩
def spl (s : ByteArray) (c : UInt8) : List ByteArray := Lib.splitB ⟨#[c]⟩ 0 (cntB s c) s
theorem zfP (s : ByteArray) (c : UInt8) : (spl s c).length = cntB s c + 1 := Lib.splitB_all ⟨#[c]⟩ (Nat.le_refl 1) 0 _ s rfl
theorem cntB_le (s : ByteArray) (c : UInt8) : cntB s c ≤ s.size := Lib.countB_le ⟨#[c]⟩ (Nat.le_refl 1) s.size s (Nat.le_refl _)
theorem zgV (sep : ByteArray) : ∀ (k : Nat) (s : ByteArray), ∀ t ∈ Lib.splitB sep 0 k s, t.size ≤ s.size
 | 0, s, t, h => by
  simp only [Lib.splitB, qbC] at h
  rw [h]; exact Nat.le_refl _
 | k + 1, s, t, h => by
  unfold Lib.splitB at h
  split at h
  ·simp only [qbC] at h
   rw [h]; exact Nat.le_refl _
  ·rcases qaI.1 h with h | h
   ·rw [h, zdm]; omega
   ·have := zgV sep k _ t h
    rw [zdm] at this; omega
theorem spl_size (s : ByteArray) (c : UInt8) : ∀ t ∈ spl s c, t.size ≤ s.size := zgV _ _ _
theorem kitCount (s : ByteArray) (c : UInt8) (w : World) : Calls prog 134 #[.string s, .string ⟨#[c]⟩] w fun e w' => e = .returned (.int .i64 (cntB s c : Nat)) ∧ w' = w := by
 refine (strings_Count_one s c w).mono fun e w' ⟨he, hw⟩ => ⟨?_, hw⟩
 rw [he]
 show _ = Ending.returned (Value.int .i64 ((Lib.count s.data.toList [c] : Nat) : Int))
 rw [Lib.count_one]
 rfl
theorem kitIndex (s : ByteArray) (c : UInt8) (w : World) : Calls prog 135 #[.string s, .string ⟨#[c]⟩] w fun e w' => e = .returned (.int .i64 (Lib.indexB s ⟨#[c]⟩)) ∧ w' = w := by
 refine (strings_Index_one s c w).mono fun e w' ⟨he, hw⟩ => ⟨?_, hw⟩
 rw [he]
 show _ = Ending.returned (Value.int .i64 (Lib.index s.data.toList [c]))
 rw [Lib.index_one]
theorem genSplit1_s (s : ByteArray) (c : UInt8) (hs : s.size < 4294967281) : Fn prog 161 [qc s, qc ⟨#[c]⟩, qd 0, qd (-1)] (.row 0) [(0, .row 9 1 (cntB s c + 1) (strs (spl s c)))] := by
 have hle := cntB_le s c
 refine fn_alloc (vs := [.string s, .string ⟨#[c]⟩, .int .i64 0, .int .i64 (-1)]) (us := (spl s c).map .string) rfl (by rw [qaR, zfP]) qy (fun _ _ => strs_rep _) fun w => ?_
 have h := Any.strings_genSplit_core lays221 qm s ⟨#[c]⟩ 0 (-1) (cntB s c + 1) w hs (Nat.le_refl 1) (qbk _) (fun x cc _ => kitIndex x c _) (kitCount s c w) qw qw (by
  rw [if_pos (by decide)]
  show _ = min ((cntB s c : Int) + 1) _
  omega)
 rw [Nat.add_sub_cancel] at h
 change Calls prog 161 _ w (fun e w' => e = .returned (.slice (some ⟨w.heap.size, 0, none⟩) (spl s c).length (cntB s c + 1)) ∧ w' = w.alloc (.cells (Lib.cellsOf (spl s c) (cntB s c + 1)) 9)) at h
 rw [zfP, ← zfP s c, Lib.cellsOf_full, zfP] at h
 exact h
theorem split1_s (s : ByteArray) (c : UInt8) (hs : s.size < 4294967281) : Fn prog 121 [qc s, qc ⟨#[c]⟩] (.row 0) [(0, .row 9 1 (cntB s c + 1) (strs (spl s c)))] := by
 have hG := genSplit1_s s c hs
 refine fnI fun w0 A => ?_
 refine G [8] ?_
 refine zbQ (fun n => 7 + 1000 * n) (hG) rfl rfl func161 rfl rfl qJ qJ rfl rfl rfl ql rfl rfl rfl ?_
 exact jaZ
end Go.Proofs.YtlfjpippeeikdaaGreatDoor
