/- Small lemmas on worlds and on numbers that the contracts share; no program is named here. -/
import Derived.WalkKit
import Derived.Lib.Hide
import Derived.OpenShut
import Derived.Deep.Draws
import Derived.Lib.QuietBelow
import Derived.Laws.OwnMore
import Derived.Deep.AppendLies
import Derived.Laws.Rows
set_option linter.all false
namespace Go.Proofs.YtlfjpippeeikdaaGreatDoor
open Go.RowKit Go.Sort
theorem qaA : type_of% @Nat.le_of_ble_eq_true := @Nat.le_of_ble_eq_true
theorem qaB : type_of% @Nat.eq_of_beq_eq_true := @Nat.eq_of_beq_eq_true
theorem qaC : type_of% @List.length_append := @List.length_append
theorem qaD : type_of% @Result.andThen_ok := @Result.andThen_ok
theorem qaE : type_of% @List.mem_of_getElem? := @List.mem_of_getElem?
theorem qaF : type_of% @List.map_cons := @List.map_cons
theorem qaG : type_of% @List.getElem?_eq_some_iff := @List.getElem?_eq_some_iff
theorem qaH : type_of% @Decidable.not_not := @Decidable.not_not
theorem qaI : type_of% @List.mem_cons := @List.mem_cons
theorem qaJ : type_of% @List.mem_map := @List.mem_map
theorem qaK : type_of% @Sem.run_bind := @Sem.run_bind
theorem qaL : type_of% @Sem.run_pure := @Sem.run_pure
theorem qaM : type_of% @List.take_succ_eq_append_getElem := @List.take_succ_eq_append_getElem
theorem qaN : type_of% @List.take_of_length_le := @List.take_of_length_le
theorem qaO : type_of% @List.length_cons := @List.length_cons
theorem qaP : type_of% @List.length_drop := @List.length_drop
theorem qaQ : type_of% @List.eq_nil_of_length_eq_zero := @List.eq_nil_of_length_eq_zero
theorem qaR : type_of% @List.length_map := @List.length_map
theorem qaS : type_of% @Int.toNat_natCast := @Int.toNat_natCast
theorem qaT : type_of% @Bool.and_eq_true := @Bool.and_eq_true
theorem qaU : type_of% @Int.eq_ofNat_of_zero_le := @Int.eq_ofNat_of_zero_le
theorem qaV : type_of% @List.append_nil := @List.append_nil
theorem qaW : type_of% @List.mem_append := @List.mem_append
theorem qaX : type_of% @List.flatMap_append := @List.flatMap_append
theorem qaY : type_of% @List.append_assoc := @List.append_assoc
theorem qaZ : type_of% @Array.getElem?_eq_some_iff := @Array.getElem?_eq_some_iff
theorem qa0 : type_of% @Bool.false_eq_true := @Bool.false_eq_true
theorem qa1 : type_of% @List.take_append_drop := @List.take_append_drop
theorem qa2 : type_of% @List.cons_append := @List.cons_append
theorem qa3 : type_of% @List.take_append_of_le_length := @List.take_append_of_le_length
theorem qa4 : type_of% @List.map_append := @List.map_append
theorem qa5 : type_of% @List.take_length := @List.take_length
theorem qa6 : type_of% @IntWalk.i64_in := @IntWalk.i64_in
theorem qa7 : type_of% @Classical.not_not := @Classical.not_not
theorem qa8 : type_of% @List.getElem?_drop := @List.getElem?_drop
theorem qa9 : type_of% @List.getElem?_take := @List.getElem?_take
theorem qba : type_of% @Nat.mul_le_mul_right := @Nat.mul_le_mul_right
theorem qbb : type_of% @List.flatMap_cons := @List.flatMap_cons
theorem qbc : type_of% @List.nil_append := @List.nil_append
theorem qbd : type_of% @List.all_eq_true := @List.all_eq_true
theorem qbe : type_of% @List.drop_eq_nil_of_le := @List.drop_eq_nil_of_le
theorem qbf : type_of% @List.getElem?_map := @List.getElem?_map
theorem qbg : type_of% @List.map_map := @List.map_map
theorem qbh : type_of% @List.drop_eq_getElem_cons := @List.drop_eq_getElem_cons
theorem qbi : type_of% @Nat.add_zero := @Nat.add_zero
theorem qbj : type_of% @List.mem_of_mem_take := @List.mem_of_mem_take
theorem qbk : type_of% @Nat.zero_le := @Nat.zero_le
theorem qbl : type_of% @Array.getD_eq_getD_getElem? := @Array.getD_eq_getD_getElem?
theorem qbm : type_of% @Bool.eq_iff_iff := @Bool.eq_iff_iff
theorem qbn : type_of% @List.flatten_cons := @List.flatten_cons
theorem qbo : type_of% @List.getElem?_append_right := @List.getElem?_append_right
theorem qbp : type_of% @Array.length_toList := @Array.length_toList
theorem qbq : type_of% @Nat.two_pow_pos := @Nat.two_pow_pos
theorem qbr : type_of% @List.not_mem_nil := @List.not_mem_nil
theorem qbs : type_of% @List.mem_iff_getElem := @List.mem_iff_getElem
theorem qbt : type_of% @List.take_succ_cons := @List.take_succ_cons
theorem qbu : type_of% @List.drop_succ_cons := @List.drop_succ_cons
theorem qbv : type_of% @Nat.beq_refl := @Nat.beq_refl
theorem qbw : type_of% @List.map_congr_left := @List.map_congr_left
theorem qbx : type_of% @Nat.add_mul := @Nat.add_mul
theorem qby : type_of% @Nat.le_trans := @Nat.le_trans
theorem qbz : type_of% @List.getElem_mem := @List.getElem_mem
theorem qbA : type_of% @Nat.pow_le_pow_right := @Nat.pow_le_pow_right
theorem qbB : type_of% @Bool.or_eq_false_iff := @Bool.or_eq_false_iff
theorem qbC : type_of% @List.mem_singleton := @List.mem_singleton
theorem qbD : type_of% @List.drop_zero := @List.drop_zero
theorem qbE : type_of% @List.filter_eq_self := @List.filter_eq_self
theorem qbF : type_of% @List.size_toArray := @List.size_toArray
theorem qbG : type_of% @Option.map_none := @Option.map_none
theorem qbH : type_of% @Nat.lt_or_ge := @Nat.lt_or_ge
theorem qbI : type_of% @Array.getElem?_setIfInBounds_ne := @Array.getElem?_setIfInBounds_ne
theorem qbJ : type_of% @List.foldl_append := @List.foldl_append
theorem qbK : type_of% @List.drop_drop := @List.drop_drop
theorem qbL : type_of% @List.take_left := @List.take_left
theorem qbM : type_of% @List.mem_filter := @List.mem_filter
theorem qbN : type_of% @List.singleton_append := @List.singleton_append
theorem qbO : type_of% @List.getElem?_eq_none := @List.getElem?_eq_none
theorem qbP : type_of% @Nat.lt_of_lt_of_le := @Nat.lt_of_lt_of_le
theorem qbQ : type_of% @List.mem_cons_self := @List.mem_cons_self
theorem qbR : type_of% @Array.toList_map := @Array.toList_map
theorem qbS : type_of% @List.mem_cons_of_mem := @List.mem_cons_of_mem
theorem qbT : type_of% @List.take_take := @List.take_take
theorem qbU : type_of% @Bool.not_eq_true' := @Bool.not_eq_true'
theorem qbV : type_of% @List.length_nil := @List.length_nil
theorem qbW : type_of% @Option.map_eq_some_iff := @Option.map_eq_some_iff
theorem qbX : type_of% @List.filter_append := @List.filter_append
theorem qbY : type_of% @List.map_nil := @List.map_nil
theorem qbZ : type_of% @List.cons_prefix_cons := @List.cons_prefix_cons
theorem qb0 : type_of% @Nat.mul_one := @Nat.mul_one
theorem qb1 : type_of% @List.mem_range := @List.mem_range
theorem qb2 : type_of% @Array.getElem?_eq_getElem := @Array.getElem?_eq_getElem
theorem qb3 : type_of% @List.mem_of_mem_drop := @List.mem_of_mem_drop
theorem qb4 : type_of% @List.getElem_take := @List.getElem_take
theorem qb5 : type_of% @Nat.pow_succ := @Nat.pow_succ
theorem qb6 : type_of% @Nat.mul_comm := @Nat.mul_comm
theorem qb7 : type_of% @Nat.add_assoc := @Nat.add_assoc
theorem qb8 : type_of% @Option.bind_some := @Option.bind_some
theorem qb9 : type_of% @List.flatMap_nil := @List.flatMap_nil
theorem qca : type_of% @List.drop_left := @List.drop_left
theorem qcb : type_of% @Nat.sub_zero := @Nat.sub_zero
theorem qcc : type_of% @Option.map_some := @Option.map_some
theorem qcd : type_of% @Array.size_append := @Array.size_append
theorem qce : type_of% @List.ext_getElem? := @List.ext_getElem?
theorem qcf : type_of% @List.take_zero := @List.take_zero
theorem qcg : type_of% @IntWalk.u32_in := @IntWalk.u32_in
theorem qk {p : Prop} (h : p := by omega) : p := h
theorem ql {p : Prop} (h : p := by first | exact trivial | exact ⟨rfl, trivial⟩ | exact ⟨rfl, rfl, trivial⟩ | exact ⟨rfl, rfl, rfl, rfl, rfl, trivial⟩) : p := h
theorem qm {p : Prop} (h : p := by kernel_rfl) : p := h
theorem qo {p : Prop} (h : p := by first | exact qaA rfl | omega | (simp only [AV.cells, qaR]; omega)) : p := h
theorem qp {p : Prop} (h : p := by repeat (first | exact trivial | refine ⟨⟨rfl, rfl⟩, ?_⟩)) : p := h
theorem qq {p : Prop} (h : p := by first | rfl | assumption | ((try simp only [qa8, qa9, qaS, qb0, qbi, Nat.zero_add]); first | assumption | rfl)) : p := h
theorem qr {p : Prop} (h : p := by first | rfl | simp [AV.okInL, AV.okIn, zal]) : p := h
theorem qt {p : Prop} (h : p := by first | exact zcu (by first | assumption | exact qaB rfl | (simp only [AV.cells, qaR]; first | assumption | omega)) | (simp only [qbt, qcf, qbu, qbD]; rfl) | rfl) : p := h
theorem qu {p : Prop} (h : p := by first | rfl | (simp; done) | (simp; omega)) : p := h
theorem qv {p : Prop} (h : p := by first | (simp only [qaS, qb0, Nat.zero_add]; rfl) | rfl) : p := h
theorem qw {p : Prop} (h : p := by decide) : p := h
theorem qy {p : Prop} (h : p := by simp only [maxLen]; omega) : p := h
theorem qz {p : Prop} (h : p := by simp) : p := h
theorem qA {p : Prop} (h : p := by first | assumption | exact qaB rfl | (simp only [AV.cells, qaR]; first | assumption | omega)) : p := h
theorem qB {p : Prop} (h : p := by first | omega | (simp; done) | (simp; omega)) : p := h
theorem qC {p : Prop} (h : p := by first | rfl | simp [AV.noSl, AV.noSlL, AObj.noSl, PV.isV, zbM]) : p := h
theorem qD {p : Prop} (h : p := by first | exact qaB rfl | (simp only [AV.cells, qaR]; first | assumption | omega)) : p := h
theorem qE {p : Prop} (h : p := by repeat (first | exact trivial | refine ⟨rfl, ?_⟩)) : p := h
theorem qF {p : Prop} (h : p := by first | (simp only [setR, AV.cells, qbt, qcf, qbu, qbD, List.drop_nil, List.take_nil, qbc, qa2, qaV, qaO, qbV, Nat.reduceAdd, Nat.zero_add, qbi]; rfl) | rfl) : p := h
theorem qG {p : Prop} (h : p := by simpa using h) : p := h
theorem qH {p : Prop} (h : p := by first | rfl | kernel_rfl) : p := h
theorem qI {p : Prop} (h : p := by first | exact .inl rfl | exact .inr rfl) : p := h
theorem qJ {p : Prop} (h : p := by first | rfl | simp [AV.noSl, AV.noSlL, AObj.noSl, PV.isV, strs]) : p := h
theorem qK {p : Prop} (h : p := by rw [qaP, hlen]; first | omega | (simp only [qaS]; omega)) : p := h
theorem qL {p : Prop} (h : p := by rw [qaP]; omega) : p := h
theorem qM {p : Prop} (h : p := by first | rfl | assumption) : p := h
theorem qN {p : Prop} (h : p := by first | exact qa6 _ (by omega) | rfl) : p := h
theorem qO {p : Prop} (h : p := by first | rfl | assumption | ((try simp only [qaS, qb0, qbi, Nat.zero_add]); first | assumption | rfl)) : p := h
theorem qP {p : Prop} (h : p := by assumption) : p := h
theorem qQ {p : Prop} (h : p := by show (27 :: (zbb 0 l).map fun p => bif Nat.beq p.1 0 then 27 else p.1).Nodup; rw [zfB]; exact cpN_nd5 _ (by omega)) : p := h
theorem qR {p : Prop} (h : p := by rw [zbZ]; omega) : p := h
theorem qS {p : Prop} (h : p := by first | rfl | simp [AV.noSl, AV.noSlL, AObj.noSl, hv]) : p := h
theorem qT {p : Prop} (h : p := by show _ = Slot.live (.rowA _ 5 l.length none (AV.renL _ (gC (fK U (a, b) k) 0 l))); rw [zbx rfl]; rfl) : p := h
theorem qU {p : Prop} (h : p := by rw [List.map_drop]; exact qaN (by rw [qaP, qaR]; omega)) : p := h
theorem qV {p : Prop} (h : p := by rw [qaS, setR_head (by rw [qaR]; omega), ← List.map_take, hhead]) : p := h
theorem qW {p : Prop} (h : p := by rw [List.length_take]; omega) : p := h
theorem qX {p : Prop} (h : p := by rw [zdH.2 (fun e => he (by simp at e; simp [e]))]; rfl) : p := h
theorem qY {p : Prop} (h : p := by simp only [qaP]; omega) : p := h
theorem qZ {p : Prop} (h : p := by rw [zaP.2 (by simp at he; simp [he])]; rfl) : p := h
theorem qaa {p : Prop} (h : p := by rw [qaP, hcl, ← Nat.sub_mul]; exact Nat.le_refl _) : p := h
theorem qab {p : Prop} (h : p := by simpa only [AV.okIn] using hk) : p := h
theorem qac {p : Prop} (h : p := by simpa only [AV.noSl] using hn) : p := h
theorem qad {p : Prop} (h : p := by rw [hi, List.length_take, qaP]; congr 1; omega) : p := h
theorem qae {p : Prop} (h : p := by cases ho) : p := h
theorem qaf {p : Prop} (h : p := by unfold hexE; rw [if_neg (by omega), if_pos hev, if_pos hb]) : p := h
theorem qag {p : Prop} (h : p := by rw [qaR]; omega) : p := h
theorem qah {p : Prop} (h : p := by simp only [qbK, qaS]; exact hso) : p := h
theorem qai {p : Prop} (h : p := by simp only [qbK, qaS]; exact hhd) : p := h
theorem qaj {p : Prop} (h : p := by simpa using hi) : p := h
theorem qak {p : Prop} (h : p := by rw [HE.out]; (repeat' split) <;> simp_all <;> omega) : p := h
theorem qal {p : Prop} (h : p := by simp [TR.pairs, hx]) : p := h
theorem qam {p : Prop} (h : p := by congr 1; rw [hXl]; omega) : p := h
theorem qan {p : Prop} (h : p := by rw [qaF, hFf]; exact cpN_nd _ (by omega)) : p := h
theorem qao {p : Prop} (h : p := by rw [qaS]; exact g1) : p := h
theorem qap {p : Prop} (h : p := by first | assumption | kernel_rfl) : p := h
theorem qaq {p : Prop} (h : p := by rw [qaS]) : p := h
theorem qar {p : Prop} (h : p := by simp [hp]) : p := h
theorem qas {p : Prop} (h : p := by rw [hcl]; omega) : p := h
theorem qat {p : Prop} (h : p := by rw [zaP.2 (zcq.2 hz)]; rfl) : p := h
theorem qau {p : Prop} (h : p := by simpa using hl) : p := h
theorem qav {p : Prop} (h : p := by rw [← hset]; rfl) : p := h
theorem qaw {p : Prop} (h : p := by simp [hy]) : p := h
theorem qax {p : Prop} (h : p := by simpa using hlk) : p := h
theorem qay {p : Prop} (h : p := by simp [hx]) : p := h
theorem qaz {p : Prop} (h : p := by simp [mvR]) : p := h
theorem zht {B : Nat} {a w : World} (h : Below B a w) (n : Nat) : Below B a (w.drewN n) := ⟨h.os, h.tape, h.output, h.size, h.block⟩
theorem zcZ {k : IntKind} {a b : Int} (h : a = b) : Ending.returned (.int k a) = .returned (.int k b) := by rw [h]
theorem zbV (n : Nat) : ((2 : Int) ^ n) = ((2 ^ n : Nat) : Int) := qz
theorem zcI (n : Nat) : (0 : Int) < 2 ^ n := by rw [zbV]; exact_mod_cast qbq n
theorem zgO (a : Int) (k : Nat) (h0 : 0 ≤ a) (h1 : a < 4294967296) (hk : k ≤ 32) :
 bits .and .u32 a (2 ^ k - 1) = a % 2 ^ k := by
 have hp : (2 : Int) ^ k ≤ 4294967296 := by
  rw [zbV]; have := qbA (show 0 < 2 by decide) hk; omega
 have hq := zcI k
 rw [u32_and a (2 ^ k - 1) h0 h1 (by omega) (by omega)]
 have e : ((2 : Int) ^ k - 1).toNat = 2 ^ k - 1 := by
  rw [zbV]; have := qbq k; omega
 rw [e, Nat.and_two_pow_sub_one_eq_mod]
 rw [zbV]
 obtain ⟨b, rfl⟩ := qaU h0
 simp
theorem ziD {w w1 w2 : World} (h : Below w.heap.size w w1) (k : Below w1.heap.size w1 w2) : Below w.heap.size w w2 := h.trans (k.mono h.size)
theorem zfD {w w1 : World} (h : Below w.heap.size w w1) (o : Obj) : Below w.heap.size w (w1.alloc o) := h.alloc h.size o
theorem bset {w w1 : World} (h : Below w.heap.size w w1) {p : Addr} (hp : w.heap.size ≤ p.block) (u : Value) : Below w.heap.size w (w1.setCell p u) := h.setCell hp u
theorem ziE {w w1 : World} (h : Below w.heap.size w w1) : Below w.heap.size w w1.drew := h.drew
theorem zfC {w w1 : World} (h : Below w.heap.size w w1) (n : Nat) : Below w.heap.size w (w1.drewN n) := zht h n
def Gives (P : Program) (f : FuncId) (args : Array Value) (v : Value) : Prop :=
 ∀ w, Calls P f args w fun e w' => e = .returned v ∧ Below w.heap.size w w'
theorem Gives.q {P : Program} {f : FuncId} {args : Array Value} {w : World} {d : Nat} {os : Array Obj} {v : Value} (h : Gives P f args v) :
 Calls P f args (grow (redrawn w d) os) fun e w'' => e = .returned v ∧ ∃ p : Regrown, w'' = grow (redrawn w p.d) p.os := Calls.regrown_of (h _)
theorem block_of_add (a : Addr) (n : Nat) : (a.add n).block = a.block := by unfold Addr.add; split <;> rfl
def Reads (w : World) (B size : Nat) (A : Option Addr) (n : Nat) (xs : List Value) : Prop :=
 xs.length = n * size ∧ (0 < n → ∃ ad, A = some ad ∧ ad.block < B ∧ ∀ j u, xs[j]? = some u → w.cell? (ad.add j) = some u)
section
variable {w w' : World} {B B' size n : Nat} {A : Option Addr} {xs : List Value}
theorem Reads.at_ {k : Nat} (h : Reads w B 1 A n xs) (hk : k < n) : ∃ ad u, A = some ad ∧ ad.block < B ∧ xs[k]? = some u ∧ w.cell? (ad.add k) = some u := by
 obtain ⟨ad, e, hb, hc⟩ := h.2 qk
 have hl : k < xs.length := by have := h.1; omega
 exact ⟨ad, xs[k], e, hb, List.getElem?_eq_getElem hl, hc k _ (List.getElem?_eq_getElem hl)⟩
theorem Reads.keep (h : Reads w B size A n xs) (hk : ∀ p : Addr, p.block < B → w'.cell? p = w.cell? p) : Reads w' B size A n xs :=
 ⟨h.1, fun hn => by
  obtain ⟨ad, e, hb, hc⟩ := h.2 hn
  exact ⟨ad, e, hb, fun j u hu => (hk _ (by rw [block_of_add]; exact hb)).trans (hc j u hu)⟩⟩
theorem Reads.more (h : Reads w B size A n xs) (hB : B ≤ B') : Reads w B' size A n xs :=
 ⟨h.1, fun hn => by
  obtain ⟨ad, e, hb, hc⟩ := h.2 hn
  exact ⟨ad, e, qk, hc⟩⟩
theorem Reads.below (h : Reads w B size A n xs) (hb : Below B w w') : Reads w' B size A n xs := h.keep fun _ hp => hb.cell hp
theorem Reads.drew (h : Reads w B size A n xs) : Reads w.drew B size A n xs := h
theorem Reads.drewN (h : Reads w B size A n xs) (k : Nat) : Reads (w.drewN k) B size A n xs := h
theorem Reads.alloc (h : Reads w B size A n xs) (hB : B ≤ w.heap.size) (o : Obj) : Reads (w.alloc o) B size A n xs := h.keep fun p hp => World.cell?_alloc_lt w o p qk
theorem Reads.setCell (h : Reads w B size A n xs) {p : Addr} (hB : B ≤ p.block) (u : Value) : Reads (w.setCell p u) B size A n xs :=
 h.keep fun q hq => World.cell?_setCell_other w p q u (fun e => by subst e; omega)
theorem Reads.grown (h : Reads w B size A n xs) {row : Option Nat} (hg : w.grownBy w' row) (hB : B ≤ w.heap.size) (hr : ∀ g, row = some g → B ≤ g) : Reads w' B size A n xs :=
 h.keep fun p hp => World.cell?_of_block (hg.block p.block qk (fun e => by have := hr _ e.symm; omega))
end
def Blk (w : World) (g : Nat) (t : TypeId) (cs : Array Value) : Prop := w.heap[g]? = some (.cells cs t (0, 0))
section
variable {w w' : World} {g : Nat} {t : TypeId} {cs : Array Value}
theorem Blk.lt (h : Blk w g t cs) : g < w.heap.size := by
 rcases qbH g w.heap.size with hlt | hge
 ·exact hlt
 ·unfold Blk at h; rw [Array.getElem?_eq_none hge] at h; cases h
theorem Blk.cell (h : Blk w g t cs) (i : Nat) : w.cell? ⟨g, i, none⟩ = cs[i]? := cell_of_row w g i cs t (0, 0) h
theorem Blk.new (w : World) (t : TypeId) (cs : Array Value) : Blk (w.alloc (.cells cs t)) w.heap.size t cs := heap_alloc_new w _
theorem Blk.drew (h : Blk w g t cs) : Blk w.drew g t cs := h
theorem Blk.drewN (h : Blk w g t cs) (n : Nat) : Blk (w.drewN n) g t cs := h
theorem Blk.alloc (h : Blk w g t cs) (o : Obj) : Blk (w.alloc o) g t cs := (Below.heap_alloc w o g h.lt).trans h
theorem Blk.below {B : Nat} (h : Blk w g t cs) (hb : Below B w w') (hg : g < B) : Blk w' g t cs := (hb.block g hg).trans h
theorem Blk.grown {row : Option Nat} (h : Blk w g t cs) (hb : w.grownBy w' row) (hg : some g ≠ row) : Blk w' g t cs := (hb.block g h.lt hg).trans h
end
structure Bx (q : Prop) : Prop where
 o : q
theorem jaa {p : Prop} (h : p := by
 rw [zfs]
 simp only [qbk, if_true, qcb]
 by_cases ht : t < args.length
 ·have e : args.getD t .any = args[t] := by simp [List.getD_eq_getElem?_getD, ht]
  rw [e]
  obtain ⟨u, h1, h2⟩ := hr.at_ (List.getElem?_eq_getElem ht)
  have hu : t < us.length := qk
  have e2 : (us.toArray ++ Array.replicate (fn.ntmps - us.toArray.size) undef).getD t undef = u := by
   simp only [qbl]
   rw [Array.getElem?_append_left (by simpa using hu)]
   simp [h1]
  rw [e2]; exact h2
 ·have e : args.getD t .any = .any := by simp [List.getD_eq_getElem?_getD, Nat.le_of_not_lt ht]
  rw [e]; simp only [Rep]) : p := h
theorem jab {p : Prop} (h : p := by
 have key : ∀ {x : Nat} {obx : AObj}, updL heap [(o, .live ob')] x = .live obx → ∃ oby, heap x = .live oby := by
  intro x obx hx
  by_cases e : x = o
  ·subst e; exact ⟨ob, hl⟩
  ·simp only [updL, nbeq e, cond_false] at hx; exact ⟨obx, hx⟩
 obtain ⟨_, g1⟩ := key h1
 obtain ⟨_, g2⟩ := key h2
 exact hm.inj _ _ _ _ _ _ _ g1 g2 h3 h4 h5 h6) : p := h
theorem jac {p : Prop} (h : p := by
 exact ⟨S, _, by simp only [Rep]; exact ⟨by simp [setM], _, _, _, rfl⟩, f1, f2⟩) : p := h
theorem jad {p : Prop} (h : p := by
 simp [Lit.wf, IntKind.min, IntKind.max, IntKind.signed, IntKind.bits] at h
 omega) : p := h
theorem jae {p : Prop} (h : p := by
 refine ⟨S, _, ?_, f1, f2⟩
 simp only [Rep]
 refine ⟨by simp [setM], ?_⟩
 rcases hrow.2 with ⟨rfl, _⟩ | ⟨g', cap, cur, fz, rfl, _⟩
 ·exact ⟨none, 0, 0, rfl⟩
 ·exact ⟨_, _, _, rfl⟩) : p := h
theorem jaf {p : Prop} (h : p := by
 exact ⟨S, _, by simp only [Rep]; exact ⟨w.heap.size, .pointer (some ⟨w.heap.size, 0, none⟩), by simp [setM], rfl, rfl⟩, k1, k2⟩) : p := h
theorem jag {p : Prop} (h : p := by
 have e2 : (za4 ρ news).map Prod.fst = news.map fun p => ρ p.1 := by simp [za4, qbg, Function.comp_def]
 rw [e1, e2]
 exact k) : p := h
theorem jah {p : Prop} (h : p := by
 subst h3
 have : (us.drop off).take (0 * size) = [] := qaQ (by rw [hlen]; simp)
 rw [this] at hj; simp at hj) : p := h
theorem jai {p : Prop} (h : p := by
 by_cases e : o' = o
 ·subst e; simp [updL] at ho'
 ·simp only [updL, nbeq e, cond_false] at ho'
  exact hm.un o' ho') : p := h
theorem jaj {p : Prop} (h : p := by
 subst e
 simp only [updL, qbv, cond_true, Slot.live.injEq] at ho'
 subst ho'
 exact ⟨v, hv, ho, k3⟩) : p := h
theorem jak {p : Prop} (h : p := by
 unfold Proofs.YtlfjpippeeikdaaGreatDoor.setR
 rw [k.length]
 exact ((h.take off).append k).append (h.drop _)) : p := h
end Go.Proofs.YtlfjpippeeikdaaGreatDoor
