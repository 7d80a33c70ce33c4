/- Small lemmas on worlds and on numbers that the contracts share; no program is named here. -/
import Derived.WalkKit
import Derived.Lib.Hide
import Derived.OpenShut
import Derived.Deep.Draws
import Derived.Lib.QuietBelow
import Derived.Laws.OwnMore
import Derived.Deep.AppendLies
import Derived.Laws.Rows
namespace Go.Proofs.YtbjdjclkbjpebaaGreatDoor
open Go.RowKit Go.Sort
theorem zb2 {W w1 : World} (hb : Below W.heap.size W w1) : (∀ b o, b < W.heap.size → w1.cell? ⟨b, o, none⟩ = W.cell? ⟨b, o, none⟩) ∧ (∀ b o, b < W.heap.size → w1.frozen? ⟨b, o, none⟩ = W.frozen? ⟨b, o, none⟩) :=
 ⟨fun b o h => hb.cell (p := ⟨b, o, none⟩) h, fun b o h => hb.frozen (p := ⟨b, o, none⟩) h⟩
theorem zd1 {B : Nat} {a w : World} (h : Below B a w) (n : Nat) : Below B a (w.drewN n) := ⟨h.os, h.tape, h.output, h.size, h.block⟩
theorem zbs {k : IntKind} {a b : Int} (h : a = b) : Ending.returned (.int k a) = .returned (.int k b) := by rw [h]
theorem zcn {a b : Bool} (h : a = b) : Ending.returned (.bool a) = .returned (.bool b) := by rw [h]
theorem zbU (n : Nat) : ((2 : Int) ^ n) = ((2 ^ n : Nat) : Int) := by simp
theorem zdl (n : Nat) : (0 : Int) < 2 ^ n := by rw [zbU]; exact_mod_cast Nat.two_pow_pos n
theorem zgt (a : Int) (k : Nat) (h0 : 0 ≤ a) (h1 : a < 4294967296) (hk : k ≤ 32) :
  bits .and .u32 a (2 ^ k - 1) = a % 2 ^ k := by
 have hp : (2 : Int) ^ k ≤ 4294967296 := by
  rw [zbU]; have := Nat.pow_le_pow_right (show 0 < 2 by decide) hk; omega
 have hq := zdl k
 rw [u32_and a (2 ^ k - 1) h0 h1 (by omega) (by omega)]
 have e : ((2 : Int) ^ k - 1).toNat = 2 ^ k - 1 := by
  rw [zbU]; have := Nat.two_pow_pos k; omega
 rw [e, Nat.and_two_pow_sub_one_eq_mod]
 rw [zbU]
 obtain ⟨b, rfl⟩ := Int.eq_ofNat_of_zero_le h0
 simp
theorem zbC {w w1 w2 : World} (h : Below w.heap.size w w1) (k : Below w1.heap.size w1 w2) : Below w.heap.size w w2 := h.trans (k.mono h.size)
theorem za7 {w w1 : World} (h : Below w.heap.size w w1) (o : Obj) : Below w.heap.size w (w1.alloc o) := h.alloc h.size o
theorem bset {w w1 : World} (h : Below w.heap.size w w1) {p : Addr} (hp : w.heap.size ≤ p.block) (u : Value) : Below w.heap.size w (w1.setCell p u) := h.setCell hp u
theorem zbI {w w1 : World} (h : Below w.heap.size w w1) : Below w.heap.size w w1.drew := h.drew
theorem za6 {w w1 : World} (h : Below w.heap.size w w1) (n : Nat) : Below w.heap.size w (w1.drewN n) := zd1 h n
def Gives (P : Program) (f : FuncId) (args : Array Value) (v : Value) : Prop :=
 ∀ w, Calls P f args w fun e w' => e = .returned v ∧ Below w.heap.size w w'
theorem Gives.use {P : Program} {f : FuncId} {args : Array Value} {w : World} {v : Value} {Q : Ending → World → Prop} (h : Gives P f args v)
  (k : ∀ w1, Below w.heap.size w w1 → Q (.returned v) w1) : Calls P f args w Q := (h w).mono fun _ w' ⟨he, hb⟩ => he ▸ k w' hb
theorem Gives.q {P : Program} {f : FuncId} {args : Array Value} {w : World} {d : Nat} {os : Array Obj} {v : Value} (h : Gives P f args v) :
  Calls P f args (grow (redrawn w d) os) fun e w'' => e = .returned v ∧ ∃ p : Regrown, w'' = grow (redrawn w p.d) p.os := Calls.regrown_of (h _)
theorem zee (W : World) (d : Nat) (os : Array Obj) (b o : Nat) (h : b < W.heap.size) : (grow (redrawn W d) os).cell? ⟨b, o, none⟩ = W.cell? ⟨b, o, none⟩ :=
 (below_regrown W d os).cell (p := ⟨b, o, none⟩) h
theorem wp_quietb {P : Program} {id : Nat} {Q : Exit → Act → World → Prop} {a : Act} {w : World} {l : List Oper} (hm : P.follows .mixedOrders = true) (hB : Region.lexB .any l.toArray = true)
  (h : wpQuiet P l.toArray (fun w' => ∃ p : Regrown, w' = grow (redrawn w p.d) p.os) (fun a' => ∀ w1, Below w.heap.size w w1 → Q .normal a' w1) l a) : (Code.region id l.toArray true).wp P Q a w := by
 refine wp_region_quiet_below hm hB ?_
 have e : (fun a' : Act => ∀ w1, Below w.heap.size w w1 → Q .normal a' w1) = (fun a' => ∀ w', (∃ p : Regrown, w' = grow (redrawn w p.d) p.os) → Q .normal a' w') := by
  funext a'
  apply propext
  constructor
  ·rintro h w' ⟨p, rfl⟩
   exact h _ (below_regrown w p.d p.os)
  ·intro h w1 hb
   exact h _ (regrown_of_below hb)
 rw [e] at h
 exact h
theorem block_of_add (a : Addr) (n : Nat) : (a.add n).block = a.block := by unfold Addr.add; split <;> rfl
def Reads (w : World) (B size : Nat) (A : Option Addr) (n : Nat) (xs : List Value) : Prop :=
 xs.length = n * size ∧ (0 < n → ∃ ad, A = some ad ∧ ad.block < B ∧ ∀ j u, xs[j]? = some u → w.cell? (ad.add j) = some u)
section
variable {w w' : World} {B B' size n : Nat} {A : Option Addr} {xs : List Value}
theorem Reads.at_ {k : Nat} (h : Reads w B 1 A n xs) (hk : k < n) : ∃ ad u, A = some ad ∧ ad.block < B ∧ xs[k]? = some u ∧ w.cell? (ad.add k) = some u := by
 obtain ⟨ad, e, hb, hc⟩ := h.2 (by omega)
 have hl : k < xs.length := by have := h.1; omega
 exact ⟨ad, xs[k], e, hb, List.getElem?_eq_getElem hl, hc k _ (List.getElem?_eq_getElem hl)⟩
theorem Reads.keep (h : Reads w B size A n xs) (hk : ∀ p : Addr, p.block < B → w'.cell? p = w.cell? p) : Reads w' B size A n xs :=
 ⟨h.1, fun hn => by
  obtain ⟨ad, e, hb, hc⟩ := h.2 hn
  exact ⟨ad, e, hb, fun j u hu => (hk _ (by rw [block_of_add]; exact hb)).trans (hc j u hu)⟩⟩
theorem Reads.more (h : Reads w B size A n xs) (hB : B ≤ B') : Reads w B' size A n xs :=
 ⟨h.1, fun hn => by
  obtain ⟨ad, e, hb, hc⟩ := h.2 hn
  exact ⟨ad, e, by omega, hc⟩⟩
theorem Reads.below (h : Reads w B size A n xs) (hb : Below B w w') : Reads w' B size A n xs := h.keep fun _ hp => hb.cell hp
theorem Reads.drew (h : Reads w B size A n xs) : Reads w.drew B size A n xs := h
theorem Reads.drewN (h : Reads w B size A n xs) (k : Nat) : Reads (w.drewN k) B size A n xs := h
theorem Reads.alloc (h : Reads w B size A n xs) (hB : B ≤ w.heap.size) (o : Obj) : Reads (w.alloc o) B size A n xs := h.keep fun p hp => World.cell?_alloc_lt w o p (by omega)
theorem Reads.setCell (h : Reads w B size A n xs) {p : Addr} (hB : B ≤ p.block) (u : Value) : Reads (w.setCell p u) B size A n xs :=
 h.keep fun q hq => World.cell?_setCell_other w p q u (fun e => by subst e; omega)
theorem Reads.grown (h : Reads w B size A n xs) {row : Option Nat} (hg : w.grownBy w' row) (hB : B ≤ w.heap.size) (hr : ∀ g, row = some g → B ≤ g) : Reads w' B size A n xs :=
 h.keep fun p hp => World.cell?_of_block (hg.block p.block (by omega) (fun e => by have := hr _ e.symm; omega))
end
def Blk (w : World) (g : Nat) (t : TypeId) (cs : Array Value) : Prop := w.heap[g]? = some (.cells cs t (0, 0))
section
variable {w w' : World} {g : Nat} {t : TypeId} {cs : Array Value}
theorem Blk.lt (h : Blk w g t cs) : g < w.heap.size := by
 rcases Nat.lt_or_ge g w.heap.size with hlt | hge
 ·exact hlt
 ·unfold Blk at h; rw [Array.getElem?_eq_none hge] at h; cases h
theorem Blk.cell (h : Blk w g t cs) (i : Nat) : w.cell? ⟨g, i, none⟩ = cs[i]? := cell_of_row w g i cs t (0, 0) h
theorem Blk.frozen (h : Blk w g t cs) (i : Nat) : w.frozen? ⟨g, i, none⟩ = false := by
 unfold Blk at h
 simp [World.frozen?, h]
theorem Blk.new (w : World) (t : TypeId) (cs : Array Value) : Blk (w.alloc (.cells cs t)) w.heap.size t cs := heap_alloc_new w _
theorem Blk.drew (h : Blk w g t cs) : Blk w.drew g t cs := h
theorem Blk.drewN (h : Blk w g t cs) (n : Nat) : Blk (w.drewN n) g t cs := h
theorem Blk.alloc (h : Blk w g t cs) (o : Obj) : Blk (w.alloc o) g t cs := (Below.heap_alloc w o g h.lt).trans h
theorem Blk.set_ (h : Blk w g t cs) (i : Nat) (u : Value) : Blk (w.setCell ⟨g, i, none⟩ u) g t (cs.setIfInBounds i u) := by
 unfold Blk at h ⊢
 simp [World.setCell, Array.getElem?_modify, h]
theorem Blk.far (h : Blk w g t cs) {p : Addr} (hp : g ≠ p.block) (u : Value) : Blk (w.setCell p u) g t cs := (Below.heap_setCell w p u g hp).trans h
theorem Blk.below {B : Nat} (h : Blk w g t cs) (hb : Below B w w') (hg : g < B) : Blk w' g t cs := (hb.block g hg).trans h
theorem Blk.grown {row : Option Nat} (h : Blk w g t cs) (hb : w.grownBy w' row) (hg : some g ≠ row) : Blk w' g t cs := (hb.block g h.lt hg).trans h
end
structure Bx (q : Prop) : Prop where
 o : q
theorem jaa {p : Prop} (h : p := by
 rw [zg2]
 simp only [Nat.zero_le, if_true, Nat.sub_zero]
 by_cases ht : t < args.length
 ·have e : args.getD t .any = args[t] := by simp [List.getD_eq_getElem?_getD, ht]
  rw [e]
  obtain ⟨u, h1, h2⟩ := hr.at_ (List.getElem?_eq_getElem ht)
  have hu : t < us.length := by omega
  have e2 : (us.toArray ++ Array.replicate (fn.ntmps - us.toArray.size) undef).getD t undef = u := by
   simp only [Array.getD_eq_getD_getElem?]
   rw [Array.getElem?_append_left (by simpa using hu)]
   simp [h1]
  rw [e2]; exact h2
 ·have e : args.getD t .any = .any := by simp [List.getD_eq_getElem?_getD, Nat.le_of_not_lt ht]
  rw [e]; simp only [Rep]) : p := h
theorem jab {p : Prop} (h : p := by
 have key : ∀ {x : Nat} {obx : AObj}, updL heap [(o, .live ob')] x = .live obx → ∃ oby, heap x = .live oby := by
  intro x obx hx
  by_cases e : x = o
  ·subst e; exact ⟨ob, hl⟩
  ·simp only [updL, nbeq e, cond_false] at hx; exact ⟨obx, hx⟩
 obtain ⟨_, g1⟩ := key h1
 obtain ⟨_, g2⟩ := key h2
 exact hm.inj _ _ _ _ _ _ _ g1 g2 h3 h4 h5 h6) : p := h
theorem jac {p : Prop} (h : p := by
 exact ⟨S, _, by simp only [Rep]; exact ⟨by simp [setM], _, _, _, rfl⟩, f1, f2⟩) : p := h
theorem jad {p : Prop} (h : p := by
 simp [Lit.wf, IntKind.min, IntKind.max, IntKind.signed, IntKind.bits] at h
 omega) : p := h
theorem jae {p : Prop} (h : p := by
 refine ⟨S, _, ?_, f1, f2⟩
 simp only [Rep]
 refine ⟨by simp [setM], ?_⟩
 rcases hrow.2 with ⟨rfl, _⟩ | ⟨g', cap, cur, fz, rfl, _⟩
 ·exact ⟨none, 0, 0, rfl⟩
 ·exact ⟨_, _, _, rfl⟩) : p := h
theorem jaf {p : Prop} (h : p := by
 exact ⟨S, _, by simp only [Rep]; exact ⟨w.heap.size, .pointer (some ⟨w.heap.size, 0, none⟩), by simp [setM], rfl, rfl⟩, k1, k2⟩) : p := h
theorem jag {p : Prop} (h : p := by
 have e2 : (zbN ρ news).map Prod.fst = news.map fun p => ρ p.1 := by simp [zbN, List.map_map, Function.comp_def]
 rw [e1, e2]
 exact k) : p := h
theorem jah {p : Prop} (h : p := by
 by_cases e : o' = o
 ·subst e; simp [updL] at ho'
 ·simp only [updL, nbeq e, cond_false] at ho'
  exact hm.un o' ho') : p := h
theorem jai {p : Prop} (h : p := by
 subst e
 simp only [updL, Nat.beq_refl, cond_true, Slot.live.injEq] at ho'
 subst ho'
 exact ⟨v, hv, ho, k3⟩) : p := h
theorem jaj {p : Prop} (h : p := by
 unfold Proofs.YtbjdjclkbjpebaaGreatDoor.setR
 rw [k.length]
 exact ((h.take off).append k).append (h.drop _)) : p := h
end Go.Proofs.YtbjdjclkbjpebaaGreatDoor
