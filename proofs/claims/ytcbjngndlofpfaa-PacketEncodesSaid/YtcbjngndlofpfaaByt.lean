/- Slices of bytes: how they read, a row of the call's own that grows, and append at it (the general append law is adapted from the kit page extra-words). -/
import Derived.Test.YtcbjngndlofpfaaProg
import Derived.Test.YtcbjngndlofpfaaLib
import Derived.WalkKit
import Derived.Maps.AppendAt
import Derived.Deep.AppendLies
import Derived.RegionTactic
import Derived.OwnWalk
import Derived.Shelf.Bytes.SlClone
import Derived.Shelf.Bytes.SlEqualAll
namespace Go.Proofs.Ytcbjngndlofpfaa
open Go.RowKit Go.Sort
set_option linter.unusedVariables false

section
variable {P : Program} (w : World)

theorem run_append_of_nil (base : Nat) (t ty e : TypeId) (i : TypeInfo) (size : Nat) (ht : P.underlying t = some (.slice e)) (hi : P.info? e = some i)
    (v : Value) (n : Nat) (xs : List Value) (hown : w.ownsRow base e size v n xs) (c : Nat) : (Builtin.append_ #[t, t] ty #[v, .slice none 0 c]).run P w = .ok v w := by
  rcases hown.2 with ⟨rfl, rfl⟩ | ⟨g, cap, cur, rfl, _, _, hnc, _⟩
  · simp [Builtin.append_, run_underlying ht, sizeOf, typeInfo, hi, Builtin.lenOf, Builtin.firstCells]
  · simp [Builtin.append_, run_underlying ht, sizeOf, typeInfo, hi, Builtin.lenOf, Builtin.firstCells, hnc, storeCells]

theorem run_append_any (base : Nat) (t ty e : TypeId) (i : TypeInfo) (z : Value) (size bytes : Nat) (ht : P.underlying t = some (.slice e)) (hi : P.info? e = some i) (hz : i.zero = some z)
    (hsize : i.size = size) (hby : i.bytes = bytes) (hzs : z.cells.size = size) (hsz : 0 < size)
    (v : Value) (n : Nat) (xs : List Value) (hown : w.ownsRow base e size v n xs)
    (B : Nat) (A : Option Addr) (m c : Nat) (news : List Value) (hr : Reads w B size A m news) (h1 : ∀ u ∈ news, u.oneCell' = true)
    (h63 : n + m ≤ maxLen) (hbytes : (n + m) * bytes ≤ 140737488355328) (hbase : base ≤ w.heap.size) :
    ∃ v' w', (Builtin.append_ #[t, t] ty #[v, .slice A m c]).run P w = .ok v' w' ∧ w'.ownsRow base e size v' (n + m) (xs ++ news) ∧ w.grownBy w' v.ownBlock ∧
      (v'.ownBlock = v.ownBlock ∨ v'.ownBlock = some w.heap.size) := by
  rcases A with _ | ad
  · have hm : m = 0 := by
      rcases Nat.eq_zero_or_pos m with h0 | h0
      · exact h0
      · obtain ⟨ad, h, _⟩ := hr.2 h0
        cases h
    subst hm
    have hn : news = [] := List.eq_nil_of_length_eq_zero (by simpa using hr.1)
    subst hn
    exact ⟨v, w, run_append_of_nil w base t ty e i size ht hi v n xs hown c, by simpa using hown, World.grownBy.refl w _, .inl rfl⟩
  · have hcells : ∀ j u, news[j]? = some u → w.cell? (ad.add j) = some u := by
      intro j u hu
      rcases Nat.eq_zero_or_pos m with h0 | h0
      · subst h0
        have hn : news = [] := List.eq_nil_of_length_eq_zero (by simpa using hr.1)
        subst hn
        simp at hu
      · obtain ⟨ad', h, _, hc⟩ := hr.2 h0
        injection h with h
        subst h
        exact hc j u hu
    obtain ⟨v', w', hrun, h2, h3, _, h5⟩ := run_append_own_at (P := P) w base t ty e i z size bytes ht hi hz hsize hby hzs hsz v n xs hown ad m c news hr.1 hcells h1 h63 hbytes hbase
    exact ⟨v', w', hrun, h2, h3, h5⟩

theorem wp_append_any {o : Oper} {a : Act} {K : Act → World → Prop} {Q : Exit → Act → World → Prop} (s x : Operand) (t : TypeId)
    (ho : o.op = .call { callee := .builtin .append, args := #[s, x], argTypes := #[t, t] })
    (base : Nat) (e : TypeId) (i : TypeInfo) (z : Value) (size bytes : Nat) (ht : P.underlying t = some (.slice e)) (hi : P.info? e = some i) (hz : i.zero = some z)
    (hsize : i.size = size) (hby : i.bytes = bytes) (hzs : z.cells.size = size) (hsz : 0 < size)
    (v : Value) (n : Nat) (xs : List Value) (hs : a.eval s = v) (hown : w.ownsRow base e size v n xs)
    (B : Nat) (A : Option Addr) (m c : Nat) (news : List Value) (hx : a.eval x = .slice A m c) (hr : Reads w B size A m news) (h1 : ∀ u ∈ news, u.oneCell' = true)
    (h63 : n + m ≤ maxLen) (hbytes : (n + m) * bytes ≤ 140737488355328) (hbase : base ≤ w.heap.size)
    (h : ∀ v' w', w'.ownsRow base e size v' (n + m) (xs ++ news) → w.grownBy w' v.ownBlock → (v'.ownBlock = v.ownBlock ∨ v'.ownBlock = some w.heap.size) → K (a.put o.dst v') w') : o.wp P a w K Q := by
  obtain ⟨v', w', hrun, h2, h3, h4⟩ := run_append_any (P := P) w base t o.type e i z size bytes ht hi hz hsize hby hzs hsz v n xs hown B A m c news hr h1 h63 hbytes hbase
  unfold Oper.wp execOp
  simp only [ho, resolve, invoke, builtin, Sem.run_bind, Sem.run_pure, Result.andThen_ok, List.map_toArray, List.map_cons, List.map_nil, hs, hx, hrun]
  exact h v' w' h2 h3 h4

theorem wpList_append_any {ops : Array Oper} {rest : List Oper} {o : Oper} {a : Act} {Q : Exit → Act → World → Prop} (hgd : o.guard = none) (s x : Operand) (t : TypeId)
    (ho : o.op = .call { callee := .builtin .append, args := #[s, x], argTypes := #[t, t] })
    (base : Nat) (e : TypeId) (i : TypeInfo) (z : Value) (size bytes : Nat) (ht : P.underlying t = some (.slice e)) (hi : P.info? e = some i) (hz : i.zero = some z)
    (hsize : i.size = size) (hby : i.bytes = bytes) (hzs : z.cells.size = size) (hsz : 0 < size)
    (v : Value) (n : Nat) (xs : List Value) (hs : a.eval s = v) (hown : w.ownsRow base e size v n xs)
    (B : Nat) (A : Option Addr) (m c : Nat) (news : List Value) (hx : a.eval x = .slice A m c) (hr : Reads w B size A m news) (h1 : ∀ u ∈ news, u.oneCell' = true)
    (h63 : n + m ≤ maxLen) (hbytes : (n + m) * bytes ≤ 140737488355328) (hbase : base ≤ w.heap.size)
    (h : ∀ v' w', w'.ownsRow base e size v' (n + m) (xs ++ news) → w.grownBy w' v.ownBlock → (v'.ownBlock = v.ownBlock ∨ v'.ownBlock = some w.heap.size) → wpList P ops Q rest (a.put o.dst v') w') : wpList P ops Q (o :: rest) a w :=
  wpList_plain hgd fun _ hK => wp_append_any w s x t ho base e i z size bytes ht hi hz hsize hby hzs hsz v n xs hs hown B A m c news hx hr h1 h63 hbytes hbase fun v' w' h2 h3 h4 => hK _ _ (h v' w' h2 h3 h4)

end

/-- bytes as values -/
def bv (xs : List Int) : List Value := xs.map (Value.int .u8)
def isB (xs : List Int) : Prop := ∀ x ∈ xs, 0 ≤ x ∧ x < 256
theorem bv_len (xs : List Int) : (bv xs).length = xs.length := by simp [bv]
theorem bv_one (xs : List Int) : ∀ u ∈ bv xs, u.oneCell' = true := by intro u hu; simp [bv] at hu; obtain ⟨x, _, rfl⟩ := hu; rfl
theorem isB_nil : isB [] := by intro x hx; simp at hx
theorem isB_app {xs ys : List Int} (h : isB xs) (k : isB ys) : isB (xs ++ ys) := by
  intro x hx; rcases List.mem_append.1 hx with h1 | h1; exact h x h1; exact k x h1
theorem isB_one {x : Int} (h0 : 0 ≤ x) (h1 : x < 256) : isB [x] := by intro y hy; simp at hy; subst hy; exact ⟨h0, h1⟩
theorem isB_take {xs : List Int} (h : isB xs) (n : Nat) : isB (xs.take n) := fun x hx => h x (List.mem_of_mem_take hx)
theorem isB_drop {xs : List Int} (h : isB xs) (n : Nat) : isB (xs.drop n) := fun x hx => h x (List.mem_of_mem_drop hx)

/-- the slice value '.slice p n c' holds the bytes xs -/
def Byt (w : World) (p : Option Addr) (n : Nat) (xs : List Int) : Prop := Reads w w.heap.size 1 p n (bv xs)
section
variable {w w1 : World} {p : Option Addr} {n c : Nat} {xs ys : List Int}
theorem Byt.len (h : Byt w p n xs) : xs.length = n := by have := h.1; rw [bv_len] at this; omega
theorem Byt.below (h : Byt w p n xs) (hb : Below w.heap.size w w1) : Byt w1 p n xs := (Reads.below h hb).more hb.size
theorem Byt.alloc (h : Byt w p n xs) (o : Obj) : Byt (w.alloc o) p n xs := (Reads.alloc h (Nat.le_refl _) o).more (by simp)
theorem Byt.nil (w : World) (p : Option Addr) : Byt w p 0 [] := ⟨by simp [bv], fun h => absurd h (by omega)⟩
theorem Byt.drew (h : Byt w p n xs) : Byt w.drew p n xs := h
theorem Byt.drewN (h : Byt w p n xs) (k : Nat) : Byt (w.drewN k) p n xs := h
theorem Byt.cut (h : Byt w p n xs) {k cap : Nat} (hk : k ≤ n) (hc : n ≤ cap) : Byt w (if cap = k then p else p.map (·.add k)) (n - k) (xs.drop k) := by
  have := Reads.cut h hk hc
  simpa [Byt, bv, List.map_drop] using this
theorem Byt.take (h : Byt w p n xs) {k : Nat} (hk : k ≤ n) : Byt w p k (xs.take k) := by
  refine ⟨by rw [bv_len, List.length_take, h.len]; omega, fun h0 => ?_⟩
  obtain ⟨ad, e, hb, hc⟩ := h.2 (by omega)
  refine ⟨ad, e, hb, fun j u hu => hc j u ?_⟩
  simp only [bv, List.map_take, List.getElem?_take] at hu ⊢
  split at hu
  · exact hu
  · simp at hu
theorem Byt.at_ (h : Byt w p n xs) {k : Nat} (hk : k < n) : ∃ b o, p = some ⟨b, o, none⟩ ∧ b < w.heap.size ∧ w.cell? ⟨b, o + k, none⟩ = some (.int .u8 (xs.getD k 0)) := by
  obtain ⟨ad, e, hb, hc⟩ := h.2 (by omega)
  have hl := h.len
  obtain ⟨b, o, s⟩ := ad
  have g0 : (bv xs)[0]? = some (.int .u8 (xs.getD 0 0)) := by
    rw [bv, List.getElem?_map, List.getD_eq_getElem?_getD, List.getElem?_eq_getElem (show 0 < xs.length by omega)]; rfl
  have gk : (bv xs)[k]? = some (.int .u8 (xs.getD k 0)) := by
    rw [bv, List.getElem?_map, List.getD_eq_getElem?_getD, List.getElem?_eq_getElem (show k < xs.length by omega)]; rfl
  obtain rfl : s = none := by simpa [Addr.add] using World.cell?_spot (hc 0 _ g0)
  refine ⟨b, o, e, hb, ?_⟩
  have := hc k _ gk
  rw [Go.WideShapes.add_plain] at this
  exact this
/-- all bytes at once, where there is one -/
theorem Byt.cells (h : Byt w p n xs) (hn : 0 < n) : ∃ b o, p = some ⟨b, o, none⟩ ∧ b < w.heap.size ∧ ∀ k, k < n → w.cell? ⟨b, o + k, none⟩ = some (.int .u8 (xs.getD k 0)) := by
  obtain ⟨b, o, e, hb, _⟩ := h.at_ hn
  refine ⟨b, o, e, hb, fun k hk => ?_⟩
  obtain ⟨b', o', e', _, hc⟩ := h.at_ hk
  rw [e] at e'
  simp at e'
  obtain ⟨rfl, rfl⟩ := e'
  exact hc
theorem Byt.new (w : World) (xs : List Int) (t : TypeId) : Byt (w.alloc (.cells (bv xs).toArray t)) (some ⟨w.heap.size, 0, none⟩) xs.length xs := by
  refine ⟨by simp [bv], fun _ => ⟨_, rfl, by simp, fun j u hu => ?_⟩⟩
  have e : (⟨w.heap.size, 0, none⟩ : Addr).add j = ⟨w.heap.size, j, none⟩ := by rw [Go.WideShapes.add_plain]; simp
  rw [e, World.cell?_alloc_at (hn := rfl)]
  simpa using hu
theorem Byt.of_row {z : List Int} {len : Nat} (h : p = none ∧ len = 0 ∨ ∃ x, p = some x ∧ x.block < w.heap.size ∧ len ≤ z.length ∧ ∀ i, i < z.length → w.cell? (x.add i) = some (.int .u8 (z.getD i 0))) : Byt w p len (z.take len) := by
  rcases h with ⟨rfl, rfl⟩ | ⟨x, rfl, hb, hl, hc⟩
  · simpa using Byt.nil w none
  · refine ⟨by rw [bv_len, List.length_take]; omega, fun _ => ⟨x, rfl, hb, fun j u hu => ?_⟩⟩
    rw [bv, List.getElem?_map, Option.map_eq_some_iff] at hu
    obtain ⟨y, hy, rfl⟩ := hu
    have hj := (List.getElem?_eq_some_iff.1 hy).1
    rw [List.length_take] at hj
    rw [hc j (by omega)]
    rw [List.getElem?_take] at hy
    split at hy
    · rw [List.getD_eq_getElem?_getD, hy]; rfl
    · simp at hy
end

/-- a row of the call's own, from block B on, that holds the bytes xs -/
structure Own (w : World) (B : Nat) (p : Option Addr) (n c : Nat) (xs : List Int) : Prop where
  len : xs.length = n
  le : n ≤ c
  row : w.ownsRow B 5 1 (.slice p n c) n (bv xs)
  base : B ≤ w.heap.size
section
variable {w w1 : World} {B : Nat} {p : Option Addr} {n c : Nat} {xs ys : List Int}
theorem Own.nil (w : World) (B : Nat) (h : B ≤ w.heap.size) : Own w B none 0 0 [] := ⟨rfl, Nat.le_refl _, World.ownsRow_nil _ _ _ _, h⟩
theorem Own.alloc (h : Own w B p n c xs) (o : Obj) : Own (w.alloc o) B p n c xs := ⟨h.len, h.le, h.row.alloc o, by simp; exact Nat.le_succ_of_le h.base⟩
theorem Own.byt (h : Own w B p n c xs) : Byt w p n xs := Reads.of_own h.row
theorem Own.drew (h : Own w B p n c xs) : Own w.drew B p n c xs := ⟨h.len, h.le, h.row.drew, h.base⟩
theorem Own.blk (h : Own w B p n c xs) : ∀ k, (Value.slice p n c).ownBlock = some k → B ≤ k := by
  intro k hk
  rcases h.row.2 with ⟨e, _⟩ | ⟨g, cap, cur, e, hg, _⟩
  · rw [e] at hk; simp [Value.ownBlock] at hk
  · rw [e] at hk; simp [Value.ownBlock] at hk; omega
theorem Own.cast (h : Own w B p n c xs) (e : xs = ys) : Own w B p n c ys := e ▸ h
theorem Own.mk_new (w : World) (xs : List Int) (h : xs.length ≤ 1000000) : Own (w.alloc (.cells (bv xs).toArray 5)) w.heap.size (some ⟨w.heap.size, 0, none⟩) xs.length xs.length xs :=
  ⟨rfl, Nat.le_refl _, ⟨by simp [bv], .inr ⟨w.heap.size, xs.length, (bv xs).toArray, rfl, Nat.le_refl _, heap_alloc_new w _, Nat.le_refl _, by simp only [maxLen]; omega, by simp [bv], by simp [bv, List.take_of_length_le]⟩⟩, by simp⟩
theorem Own.ofs (h : Own w B p n c xs) {B' : Nat} (hB : B' ≤ B) : Own w B' p n c xs := by
  refine ⟨h.len, h.le, ⟨h.row.1, ?_⟩, Nat.le_trans hB h.base⟩
  rcases h.row.2 with e | ⟨g, cap, cur, e, hg, r⟩
  · exact .inl e
  · exact .inr ⟨g, cap, cur, e, Nat.le_trans hB hg, r⟩
end

theorem info_u8 : (Try.prog.info? 5).map (fun i => (i.zero, i.size, i.bytes)) = some (some (.int .u8 0), 1, 1) := by kernel_rfl

/-- 'out = append(out, ys...)', out a row of the call's own -/
theorem wp_app {w : World} {ops : Array Oper} {rest : List Oper} {o : Oper} {a : Act} {Q : Exit → Act → World → Prop} (hgd : o.guard = none) (s x : Operand)
    (ho : o.op = .call { callee := .builtin .append, args := #[s, x], argTypes := #[25, 25] })
    {B : Nat} {p : Option Addr} {n c : Nat} {xs : List Int} {q : Option Addr} {m d : Nat} {ys : List Int}
    (hs : a.eval s = .slice p n c) (hown : Own w B p n c xs) (hx : a.eval x = .slice q m d) (hr : Byt w q m ys) (h47 : n + m ≤ 1000000000)
    (h : ∀ p' c' w', Own w' B p' (n + m) c' (xs ++ ys) → Below B w w' → wpList Try.prog ops Q rest (a.put o.dst (.slice p' (n + m) c')) w') : wpList Try.prog ops Q (o :: rest) a w := by
  obtain ⟨i0, hi, hz0, hz1, hz2⟩ := info_parts info_u8
  refine wpList_append_any w hgd s x 25 ho B 5 i0 (.int .u8 0) 1 1 Try.underlying25 hi hz0 hz1 hz2 rfl (by decide) (.slice p n c) n (bv xs) hs hown.row w.heap.size q m d (bv ys) hx hr (bv_one ys) (by simp only [maxLen]; omega) (by omega) hown.base ?_
  intro v' w' hown' hg hat
  have hbl : Below B w w' := (Below.refl _ _).grown hg hown.base hown.blk
  have hb2 : B ≤ w'.heap.size := Nat.le_trans hown.base hg.size
  have hlen : (xs ++ ys).length = n + m := by rw [List.length_append, hown.len, hr.len]
  have hbv : bv xs ++ bv ys = bv (xs ++ ys) := by simp [bv]
  rw [hbv] at hown'
  rcases hown'.2 with ⟨e, e2⟩ | ⟨g, cap, cur, e, hg', hh, hle, r⟩
  · have e3 : v' = .slice none (n + m) 0 := by rw [e, e2]
    rw [e3]
    exact h none 0 w' ⟨hlen, by omega, e3 ▸ hown', hb2⟩ hbl
  · rw [e]
    exact h _ cap w' ⟨hlen, hle, e ▸ hown', hb2⟩ hbl

/-- what a function that answers bytes and an error leaves -/
def RetB (w : World) (E : Int) (xs : List Int) (e : Ending) (w' : World) : Prop :=
  ∃ p n c, e = .returned (.tuple #[.slice p n c, .int .i64 E]) ∧ Byt w' p n xs ∧ n ≤ c ∧ Below w.heap.size w w'
theorem RetB.mk {w w' : World} {E : Int} {p : Option Addr} {n c : Nat} {xs : List Int} (h : Byt w' p n xs) (hc : n ≤ c) (hb : Below w.heap.size w w') :
    RetB w E xs (.returned (.tuple #[.slice p n c, .int .i64 E])) w' := ⟨p, n, c, rfl, h, hc, hb⟩
theorem RetB.own {w w' : World} {B : Nat} {E : Int} {p : Option Addr} {n c : Nat} {xs : List Int} (h : Own w' B p n c xs) (hb : Below w.heap.size w w') :
    RetB w E xs (.returned (.tuple #[.slice p n c, .int .i64 E])) w' := ⟨p, n, c, rfl, h.byt, h.le, hb⟩
theorem RetB.no (w : World) {w' : World} {E : Int} (hb : Below w.heap.size w w') : RetB w E [] (.returned (.tuple #[.slice none 0 0, .int .i64 E])) w' :=
  ⟨none, 0, 0, rfl, Byt.nil _ _, Nat.le_refl _, hb⟩

theorem Byt.in_ {w : World} {p : Option Addr} {n : Nat} {xs : List Int} (h : Byt w p n xs) : Lib.BytesIn w p n xs := fun hn => by
  obtain ⟨b, o, e, _, hc⟩ := h.cells hn
  exact ⟨b, o, e, hc⟩

/-- sameBytes of equal bytes -/
theorem same_c (p q : Option Addr) (n c d : Nat) (xs : List Int) (w : World) (h : Byt w p n xs) (k : Byt w q n xs) :
    Calls Try.prog 17 #[.slice p n c, .slice q n d] w fun e w' => e = .returned (.bool true) ∧ w = w' := by
  have c1 := (h.in_).convert (P := Try.prog) h.len c 25 5 9 Try.underlying25 Try.underlying5 Try.underlying9
  have c2 := (k.in_).convert (P := Try.prog) k.len d 25 5 9 Try.underlying25 Try.underlying5 Try.underlying9
  go_enter Try.func17, Try.ntmps17
  go_wp2
  go_ret
  exact ⟨by simp, rfl⟩

/-- WHAT A LAW'S FRAME TELLS OF A SLICE OF INTEGERS THAT CAME IN: nil; or a row of 'cap' cells, the numbers 'zs'. -/
def IsRow (k : IntKind) (w : World) (a : Option Addr) (len cap : Nat) (zs : List Int) : Prop :=
  (a = none ∧ len = 0 ∧ cap = 0 ∧ zs = []) ∨
  ∃ x, a = some x ∧ len ≤ cap ∧ cap ≤ maxLen ∧ zs.length = cap ∧ (∀ i, i < zs.length → w.cell? (x.add i) = some (.int k (zs.getD i 0))) ∧ ∀ n ∈ zs, (Lit.int k n).wf = true

theorem Byt.of_isRow {w : World} {a : Option Addr} {len cap : Nat} {zs : List Int} (h : IsRow .u8 w a len cap zs) : Byt w a len (zs.take len) ∧ isB (zs.take len) ∧ len ≤ cap := by
  rcases h with ⟨rfl, rfl, rfl, rfl⟩ | ⟨x, rfl, hl, _, hz, hc, hw⟩
  · exact ⟨Byt.nil _ _, by intro x hx; simp at hx, Nat.le_refl _⟩
  · refine ⟨?_, fun y hy => wfb_u8 (hw y (List.mem_of_mem_take hy)), hl⟩
    rcases Nat.eq_zero_or_pos len with h0 | h0
    · subst h0; simpa using Byt.nil w (some x)
    · refine Byt.of_row (.inr ⟨x, rfl, ?_, by omega, hc⟩)
      have := block_lt_of_cell (hc 0 (by omega))
      simpa [block_of_add] using this

end Go.Proofs.Ytcbjngndlofpfaa
