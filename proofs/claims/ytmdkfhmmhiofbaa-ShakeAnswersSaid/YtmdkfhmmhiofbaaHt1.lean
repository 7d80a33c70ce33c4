/- hex.Text and its reference, over data. -/
import Derived.Test.YtmdkfhmmhiofbaaBd1
import Derived.Test.YtmdkfhmmhiofbaaHx
import Derived.Test.YtmdkfhmmhiofbaaStb
namespace Go.Proofs.Ytmdkfhmmhiofbaa
open Go.RowKit Go.Sort
set_option linter.unusedVariables false
set_option linter.unusedSimpArgs false
set_option maxRecDepth 100000

/-- a digit -/
def dg (d : Int) : Int := if 9 < d then 87 + d else 48 + d
theorem dg_B {d : Int} (h0 : 0 ≤ d) (h1 : d < 16) : 0 ≤ dg d ∧ dg d < 256 := by unfold dg; split <;> omega
theorem dg_fin : ∀ d : _root_.Fin 16, (DIG.data.toList[d.val]?).map (fun b : UInt8 => ((b.toNat : Nat) : Int)) = some (dg d.val) := by decide
theorem dg_at {d : Int} (h0 : 0 ≤ d) (h1 : d < 16) : (DIG.data.toList[d.toNat]?).map (fun b : UInt8 => ((b.toNat : Nat) : Int)) = some (dg d) := by
  have h := dg_fin ⟨d.toNat, by omega⟩
  simp only at h
  rw [h, Int.toNat_of_nonneg h0]
/-- the digits of bytes -/
def hexT (xs : List Int) : List Int := xs.flatMap fun x => [dg (x / 16), dg (x % 16)]
def hexS (xs : List Int) : ByteArray := strOfNums (hexT xs)
theorem hexT_next {xs : List Int} {k : Nat} {x : Int} (h : xs[k]? = some x) : hexT (xs.take (k + 1)) = hexT (xs.take k) ++ [dg (x / 16)] ++ [dg (x % 16)] := by
  obtain ⟨hk, e⟩ := List.getElem?_eq_some_iff.1 h
  rw [List.take_succ_eq_append_getElem hk, hexT, List.flatMap_append, e]
  simp [hexT]
theorem hexT_len (xs : List Int) : (hexT xs).length = 2 * xs.length := by
  induction xs with
  | nil => rfl
  | cons x xs ih => simp only [hexT, List.flatMap_cons, List.length_append, List.length_cons, List.length_nil] at ih ⊢; omega
theorem hexT_B {xs : List Int} (h : isB xs) : isB (hexT xs) := by
  intro y hy
  simp only [hexT, List.mem_flatMap] at hy
  obtain ⟨x, hx, hy⟩ := hy
  have := h x hx
  simp only [List.mem_cons, List.not_mem_nil, or_false] at hy
  rcases hy with rfl | rfl
  · exact dg_B (by omega) (by omega)
  · exact dg_B (by omega) (by omega)
/-- what the builder is behind k bytes -/
def bdK (xs : List Int) : Nat → List (Nat × AObj)
  | 0 => [(3, bdNew)]
  | k + 1 => [(3, bdAt 3 4), (4, .row 5 1 (2 * (k + 1)) (bs (hexT (xs.take (k + 1)))))]

theorem bdK_zero (xs : List Int) : bdK xs 0 = [(3, bdNew)] := rfl
theorem bdK_succ (xs : List Int) (k : Nat) : bdK xs (k + 1) = [(3, bdAt 3 4), (4, .row 5 1 (2 * (k + 1)) (bs (hexT (xs.take (k + 1)))))] := rfl
set_option maxHeartbeats 1000000 in
theorem text_s (n : Nat) (xs : List Int) (hx : xs.length = n) (hB : isB xs) (hn : n ≤ 1048576) : Fn Try.prog 11 [.p (.sl n 1 (bs xs))] (.p (.v (.string (hexS xs)))) [] := by
  refine fn_intro Try.func11 rfl (Nat.le_of_ble_eq_true rfl) fun w0 A => ?_
  refine awp_seq ?_
  refine awp_text (by kernel_rfl) ?_
  (refine r_pure (a_assign (r := .p _)) rfl rfl ?_)
  refine arun_nil ?_
  refine awp_seq ?_
  refine awp_text (by kernel_rfl) ?_
  (refine r_run (a_alloc 3 zr59 rfl) rfl rfl ⟨rfl, trivial⟩ ?_)
  refine arun_nil ?_
  refine awp_seq (awp_seq ?_)
  refine awp_text (by kernel_rfl) ?_
  (refine r_pure (a_move (r := .p _)) rfl rfl ?_)
  (refine r_pure (a_lenS Try.underlying22) rfl rfl ?_)
  (refine r_pure (a_move (r := .p _)) rfl rfl ?_)
  refine arun_nil ?_
  refine awp_block ?_
  refine awp_loopR (fun m st => ∃ k : Nat, m + k = n ∧ st = St.of [(3, .ref 3 0), (6, .p (.sl n 1 (bs xs))), (7, .p (.v (.int .i64 n))), (8, .p (.v (.int .i64 k)))] (bdK xs k)) n ?_ ?_
  · refine ⟨_, re_of id _ _ ?_ ?_ rfl, 0, by omega, rfl⟩
    · (repeat (first | exact trivial | (refine ⟨⟨(by first | rfl | (simp; done) | (simp; omega)), rfl⟩, ?_⟩)))
    · exact ⟨⟨rfl, rfl⟩, trivial⟩
  rintro m st ⟨k, hk, rfl⟩
  by_cases hlt : k < n
  · obtain ⟨x, hxk⟩ : ∃ x, xs[k]? = some x := ⟨xs[k]'(by omega), List.getElem?_eq_getElem (by omega)⟩
    have hxB := hB x (List.mem_of_getElem? hxk)
    have g1 := bs_at hxk
    have d1 : (DIG.data.toList[(x / 16).toNat]?).map (fun b : UInt8 => ((b.toNat : Nat) : Int)) = some (dg (x / 16)) := dg_at (by omega) (by omega)
    have d2 : (DIG.data.toList[(x % 16).toNat]?).map (fun b : UInt8 => ((b.toNat : Nat) : Int)) = some (dg (x % 16)) := dg_at (by omega) (by omega)
    have hnext := hexT_next hxk
    generalize dg (x / 16) = y1 at d1 hnext
    generalize dg (x % 16) = y2 at d2 hnext
    cases k with
    | zero =>
      rw [bdK_zero]
      rw [List.take_zero, show hexT [] = [] from rfl, List.nil_append] at hnext
      have w1 : FnO Try.prog 30 [.ref 3 0, .p (.v (.int .u8 y1))] [(3, .live bdNew), (15013, .un), (15014, .un)] [(3, .live (bdAt 3 15014)), (15013, .dead), (15014, .live (.row 5 1 1 (bs [y1])))] (.p (.v .nilIface)) :=
        (writeByte_new y1).renamed [(1, 3), (13, 15013), (14, 15014)] rfl
      have w2 : FnO Try.prog 30 [.ref 3 0, .p (.v (.int .u8 y2))] [(3, .live (bdAt 3 15014)), (15014, .live (.row 5 1 1 (bs [y1]))), (19013, .un), (19014, .un)] [(3, .live (bdAt 3 19014)), (15014, .dead), (19013, .dead), (19014, .live (.row 5 1 (1 + 1) (bs ([y1] ++ [y2]))))] (.p (.v .nilIface)) :=
        (writeByte_used 1 [y1] y2 (by omega)).renamed [(1, 3), (2, 15014), (13, 19013), (14, 19014)] rfl
      refine awp_seq ?_
      refine awp_text (by kernel_rfl) ?_
      (refine r_pure a_lss rfl rfl ?_)
      refine arun_nil ?_
      refine awp_seq ?_
      refine awp_cond _ rfl (fun h => ?_) (fun h => ?_)
      · refine awp_skip (awp_seq (awp_block (awp_seq ?_)))
        refine awp_text (by kernel_rfl) ?_
        (refine r_pure (a_indexAddrS Try.underlying22 sz5 (by omega) (by omega) (by rw [Int.toNat_natCast, Nat.mul_one])) rfl rfl ?_)
        (refine r_pure (a_load1p Try.underlying5 rfl (by rw [List.getElem?_drop]; exact g1)) rfl rfl ?_)
        (refine r_pure (a_assign (r := .p _)) rfl rfl ?_)
        refine arun_nil ?_
        refine awp_seq ?_
        refine awp_text (by kernel_rfl) ?_
        (refine r_pure (a_move (r := .p _)) rfl rfl ?_)
        (refine r_pure (a_quo (by omega) (by first | exact IntWalk.u8_quo _ _ (by omega) | rfl)) rfl rfl ?_)
        (refine r_pure (a_indexStr Try.underlying9 (by omega) (by exact d1)) rfl rfl ?_)
        (refine r_callO0 (w1) rfl rfl Try.func30 rfl rfl (by repeat (first | exact trivial | refine ⟨rfl, ?_⟩)) rfl ?_)
        refine arun_nil ?_
        refine thn_n ?_
        refine awp_text (by kernel_rfl) ?_
        (refine r_pure (a_move (r := .p _)) rfl rfl ?_)
        (refine r_pure (a_rem (by omega) (by first | exact IntWalk.rem_in _ _ (by omega) | rfl)) rfl rfl ?_)
        (refine r_pure (a_indexStr Try.underlying9 (by omega) (by exact d2)) rfl rfl ?_)
        (refine r_callO0 (w2) rfl rfl Try.func30 rfl rfl (by repeat (first | exact trivial | refine ⟨rfl, ?_⟩)) rfl ?_)
        refine arun_nil ?_
        refine inb_n (thn_n ?_)
        refine awp_text (by kernel_rfl) ?_
        (refine r_pure (a_add (by first | exact IntWalk.i64_in _ (by omega) | rfl)) rfl rfl ?_)
        (refine r_pure (a_move (r := .p _)) rfl rfl ?_)
        refine arun_nil ?_
        refine thn_n ?_
        refine ⟨m - 1, by omega, _, re_of (fun o => bif Nat.beq o 4 then 19014 else o) _ _ ?_ ?_ rfl, 0 + 1, by omega, rfl⟩
        · (repeat (first | exact trivial | (refine ⟨⟨(by first | rfl | (simp; done) | (simp; omega)), rfl⟩, ?_⟩)))
        · rw [bdK_succ, hnext]
          exact ⟨⟨rfl, rfl⟩, ⟨rfl, rfl⟩, trivial⟩
      · simp at h; omega
    | succ k =>
      rw [bdK_succ]
      have w1 : FnO Try.prog 30 [.ref 3 0, .p (.v (.int .u8 y1))] [(3, .live (bdAt 3 4)), (4, .live (.row 5 1 (2 * (k + 1)) (bs (hexT (xs.take (k + 1)))))), (15013, .un), (15014, .un)] [(3, .live (bdAt 3 15014)), (4, .dead), (15013, .dead), (15014, .live (.row 5 1 (2 * (k + 1) + 1) (bs (hexT (xs.take (k + 1)) ++ [y1]))))] (.p (.v .nilIface)) :=
        (writeByte_used (2 * (k + 1)) _ y1 (by omega)).renamed [(1, 3), (2, 4), (13, 15013), (14, 15014)] rfl
      have w2 : FnO Try.prog 30 [.ref 3 0, .p (.v (.int .u8 y2))] [(3, .live (bdAt 3 15014)), (15014, .live (.row 5 1 (2 * (k + 1) + 1) (bs (hexT (xs.take (k + 1)) ++ [y1])))), (19013, .un), (19014, .un)] [(3, .live (bdAt 3 19014)), (15014, .dead), (19013, .dead), (19014, .live (.row 5 1 (2 * (k + 1) + 1 + 1) (bs (hexT (xs.take (k + 1)) ++ [y1] ++ [y2]))))] (.p (.v .nilIface)) :=
        (writeByte_used (2 * (k + 1) + 1) _ y2 (by omega)).renamed [(1, 3), (2, 15014), (13, 19013), (14, 19014)] rfl
      generalize hexT (xs.take (k + 1)) = T at w1 w2 hnext ⊢
      refine awp_seq ?_
      refine awp_text (by kernel_rfl) ?_
      (refine r_pure a_lss rfl rfl ?_)
      refine arun_nil ?_
      refine awp_seq ?_
      refine awp_cond _ rfl (fun h => ?_) (fun h => ?_)
      · refine awp_skip (awp_seq (awp_block (awp_seq ?_)))
        refine awp_text (by kernel_rfl) ?_
        (refine r_pure (a_indexAddrS Try.underlying22 sz5 (by omega) (by omega) (by rw [Int.toNat_natCast, Nat.mul_one])) rfl rfl ?_)
        (refine r_pure (a_load1p Try.underlying5 rfl (by rw [List.getElem?_drop]; exact g1)) rfl rfl ?_)
        (refine r_pure (a_assign (r := .p _)) rfl rfl ?_)
        refine arun_nil ?_
        refine awp_seq ?_
        refine awp_text (by kernel_rfl) ?_
        (refine r_pure (a_move (r := .p _)) rfl rfl ?_)
        (refine r_pure (a_quo (by omega) (by first | exact IntWalk.u8_quo _ _ (by omega) | rfl)) rfl rfl ?_)
        (refine r_pure (a_indexStr Try.underlying9 (by omega) (by exact d1)) rfl rfl ?_)
        (refine r_callO0 (w1) rfl rfl Try.func30 rfl rfl (by repeat (first | exact trivial | refine ⟨rfl, ?_⟩)) rfl ?_)
        refine arun_nil ?_
        refine thn_n ?_
        refine awp_text (by kernel_rfl) ?_
        (refine r_pure (a_move (r := .p _)) rfl rfl ?_)
        (refine r_pure (a_rem (by omega) (by first | exact IntWalk.rem_in _ _ (by omega) | rfl)) rfl rfl ?_)
        (refine r_pure (a_indexStr Try.underlying9 (by omega) (by exact d2)) rfl rfl ?_)
        (refine r_callO0 (w2) rfl rfl Try.func30 rfl rfl (by repeat (first | exact trivial | refine ⟨rfl, ?_⟩)) rfl ?_)
        refine arun_nil ?_
        refine inb_n (thn_n ?_)
        refine awp_text (by kernel_rfl) ?_
        (refine r_pure (a_add (by first | exact IntWalk.i64_in _ (by omega) | rfl)) rfl rfl ?_)
        (refine r_pure (a_move (r := .p _)) rfl rfl ?_)
        refine arun_nil ?_
        refine thn_n ?_
        refine ⟨m - 1, by omega, _, re_of (fun o => bif Nat.beq o 4 then 19014 else o) _ _ ?_ ?_ rfl, k + 1 + 1, by omega, rfl⟩
        · (repeat (first | exact trivial | (refine ⟨⟨(by first | rfl | (simp; done) | (simp; omega)), rfl⟩, ?_⟩)))
        · rw [bdK_succ, hnext]
          exact ⟨⟨rfl, rfl⟩, ⟨rfl, rfl⟩, trivial⟩
      · simp at h; omega
  have hge : k = n := by omega
  have hT := hexT_B hB
  unfold hexS
  subst hge
  cases k with
  | zero =>
    rw [bdK_zero]
    obtain rfl : xs = [] := List.eq_nil_of_length_eq_zero hx
    have w3 : FnO Try.prog 31 [.ref 3 0] [(3, .live bdNew)] [(3, .live bdNew)] (.p (.v (.string ⟨#[]⟩))) := string_new.renamed [(1, 3)] rfl
    refine awp_seq ?_
    refine awp_text (by kernel_rfl) ?_
    (refine r_pure a_lss rfl rfl ?_)
    refine arun_nil ?_
    refine awp_seq ?_
    refine awp_cond _ rfl (fun h => ?_) (fun h => ?_)
    · simp at h
    · refine awp_exit (awp_seq ?_)
      refine awp_text (by kernel_rfl) ?_
      (refine r_callO0 (w3) rfl rfl Try.func31 rfl rfl (by repeat (first | exact trivial | refine ⟨rfl, ?_⟩)) rfl ?_)
      (refine r_pure (a_assign (r := .p _)) rfl rfl ?_)
      refine arun_nil ?_
      refine awp_ret ?_
      refine ⟨(by first | exact .inl rfl | exact .inr rfl), _, (fun o => o), (.tmp _ _ _ _ rfl .nil), ?_, rfl, ?_, rfl⟩
      · exact rfl
      · exact trivial
  | succ k =>
    rw [bdK_succ]
    rw [← hx, List.take_length, hx]
    have w3 : FnO Try.prog 31 [.ref 3 0] [(3, .live (bdAt 3 4)), (4, .live (.row 5 1 (2 * (k + 1)) (bs (hexT xs))))] [(3, .live (bdAt 3 4)), (4, .dead)] (.p (.v (.string (strOfNums (hexT xs))))) := (string_used (2 * (k + 1)) _ (by omega) hT).renamed [(1, 3), (2, 4)] rfl
    refine awp_seq ?_
    refine awp_text (by kernel_rfl) ?_
    (refine r_pure a_lss rfl rfl ?_)
    refine arun_nil ?_
    refine awp_seq ?_
    refine awp_cond _ rfl (fun h => ?_) (fun h => ?_)
    · simp at h
    · refine awp_exit (awp_seq ?_)
      refine awp_text (by kernel_rfl) ?_
      (refine r_callO0 (w3) rfl rfl Try.func31 rfl rfl (by repeat (first | exact trivial | refine ⟨rfl, ?_⟩)) rfl ?_)
      (refine r_pure (a_assign (r := .p _)) rfl rfl ?_)
      refine arun_nil ?_
      refine awp_ret ?_
      refine ⟨(by first | exact .inl rfl | exact .inr rfl), _, (fun o => o), (.tmp _ _ _ _ rfl .nil), ?_, rfl, ?_, rfl⟩
      · exact rfl
      · exact trivial

/-- the first i of T, behind them what was there -/
def fillK {α : Type} (T z : List α) (i : Nat) : List α := T.take i ++ z.drop i
theorem fillK_len {α : Type} {T z : List α} {N i : Nat} (hT : T.length = N) (hz : z.length = N) (hi : i ≤ N) : (fillK T z i).length = N := by
  simp only [fillK, List.length_append, List.length_take, List.length_drop]; omega
theorem fillK_step {α : Type} {T z : List α} {N i : Nat} {t : α} (hT : T.length = N) (hz : z.length = N) (h : T[i]? = some t) : (fillK T z i).set i t = fillK T z (i + 1) := by
  obtain ⟨hi, e⟩ := List.getElem?_eq_some_iff.1 h
  have h2 : (T.take i).length = i := by rw [List.length_take]; omega
  rw [fillK, fillK, List.set_append_right _ _ (by omega), h2, Nat.sub_self, List.drop_eq_getElem_cons (by omega), List.set_cons_zero, List.take_succ_eq_append_getElem hi, e, List.append_assoc]
  rfl
theorem fillK_full {α : Type} {T z : List α} {N : Nat} (hT : T.length = N) (hz : z.length = N) : fillK T z N = T := by
  rw [fillK, List.take_of_length_le (by omega), List.drop_of_length_le (by omega), List.append_nil]
theorem hexT_at {xs : List Int} {i : Nat} {x : Int} (h : xs[i / 2]? = some x) : (hexT xs)[i]? = some (if i % 2 = 1 then dg (x % 16) else dg (x / 16)) := by
  induction xs generalizing i with
  | nil => simp at h
  | cons y ys ih =>
    rw [hexT, List.flatMap_cons]
    match i with
    | 0 => simp at h; subst h; rfl
    | 1 => simp at h; subst h; rfl
    | j + 2 =>
      have h2 : ys[j / 2]? = some x := by rw [show (j + 2) / 2 = j / 2 + 1 by omega] at h; simpa using h
      have := ih h2
      rw [show (j + 2) % 2 = j % 2 by omega]
      simpa [hexT] using this
theorem u8_and15 (x : Int) (h0 : 0 ≤ x) (h1 : x < 256) : bits .and .u8 x 15 = x % 16 := by
  have key : ∀ n : _root_.Fin 256, bits .and .u8 (n.val : Int) 15 = ((n.val : Nat) : Int) % 16 := by decide +kernel
  have := key ⟨x.toNat, by omega⟩
  simp only [Int.toNat_of_nonneg h0] at this
  exact this

set_option maxHeartbeats 1000000 in
theorem refText_s (n : Nat) (xs : List Int) (hx : xs.length = n) (hB : isB xs) (hn : n ≤ 1048576) : Fn Try.prog 20 [.p (.sl n 1 (bs xs))] (.p (.v (.string (hexS xs)))) [] := by
  refine fn_intro Try.func20 rfl (Nat.le_of_ble_eq_true rfl) fun w0 A => ?_
  refine awp_seq ?_
  refine awp_text (by kernel_rfl) ?_
  (refine r_pure (a_assign (r := .p _)) rfl rfl ?_)
  refine arun_nil ?_
  refine awp_seq ?_
  refine awp_text (by kernel_rfl) ?_
  (refine r_pure (a_move (r := .p _)) rfl rfl ?_)
  (refine r_pure (a_lenS Try.underlying22) rfl rfl ?_)
  (refine r_pure (a_mul (by first | exact IntWalk.i64_in _ (by omega) | rfl)) rfl rfl ?_)
  (refine r_run (a_make1 9 Try.underlying22 eo5 zr5 rfl (by omega) (by omega) (by omega) (by simp only [maxLen]; omega) (show _ = 2 * n by omega)) rfl rfl ⟨rfl, trivial⟩ ?_)
  (refine r_pure (a_assign (r := .row _)) rfl rfl ?_)
  refine arun_nil ?_
  refine awp_seq (awp_seq ?_)
  refine awp_text (by kernel_rfl) ?_
  (refine r_pure (a_move (r := .row _)) rfl rfl ?_)
  (refine r_run (a_lenR Try.underlying22) rfl rfl ⟨rfl, trivial⟩ ?_)
  (refine r_pure (a_move (r := .p _)) rfl rfl ?_)
  refine arun_nil ?_
  refine awp_block ?_
  have hTl := hexT_len xs
  rw [hx] at hTl
  obtain ⟨z, hz, hz0⟩ : ∃ z : List Int, z.length = 2 * n ∧ bs (fillK (hexT xs) z 0) = List.replicate (2 * n) (PV.v (.int .u8 0)) := ⟨List.replicate (2 * n) 0, by simp, by simp [fillK, bs]⟩
  refine awp_loopR (fun m st => ∃ i : Nat, m + i = 2 * n ∧ st = St.of [(0, .p (.sl n 1 (bs xs))), (3, .row 3), (11, .p (.v (.int .i64 (2 * n : Nat)))), (12, .p (.v (.int .i64 i)))] [(3, .row 5 1 (2 * n) (bs (fillK (hexT xs) z i)))]) (2 * n) ?_ ?_
  · refine ⟨_, re_of (fun _ => 9) _ _ ?_ ?_ rfl, 0, by omega, rfl⟩
    · (repeat (first | exact trivial | (refine ⟨⟨(by first | rfl | (simp; done) | (simp; omega)), rfl⟩, ?_⟩)))
    · rw [hz0]
      exact ⟨⟨rfl, rfl⟩, trivial⟩
  rintro m st ⟨i, hi, rfl⟩
  refine awp_seq ?_
  refine awp_text (by kernel_rfl) ?_
  (refine r_pure a_lss rfl rfl ?_)
  refine arun_nil ?_
  refine awp_seq ?_
  refine awp_cond _ rfl (fun h => ?_) (fun h => ?_)
  · have hlt : i < 2 * n := by simp at h; omega
    clear h
    obtain ⟨x, hxk⟩ : ∃ x, xs[i / 2]? = some x := ⟨xs[i / 2]'(by omega), List.getElem?_eq_getElem (by omega)⟩
    have hxB := hB x (List.mem_of_getElem? hxk)
    have g1 := bs_at hxk
    have hT := hexT_at hxk
    have hlen : (bs (fillK (hexT xs) z i)).length = 2 * n := by rw [bs_length]; exact fillK_len hTl hz (by omega)
    have hlen' : i < (fillK (hexT xs) z i).length := by rw [bs_length] at hlen; omega
    have hq : ((i : Int) / 2) = ((i / 2 : Nat) : Int) := by omega
    obtain ⟨v, hv, hv0, hv1⟩ : ∃ v : Int, v = (if i % 2 = 1 then x % 16 else x / 16) ∧ 0 ≤ v ∧ v < 16 := ⟨_, rfl, by split <;> omega, by split <;> omega⟩
    have hT2 : (hexT xs)[i]? = some (dg v) := by rw [hT, hv]; split <;> rfl
    have hstep := fillK_step hTl hz hT2
    generalize hexT xs = T at *
    refine awp_skip (awp_seq (awp_block (awp_seq ?_)))
    refine awp_text (by kernel_rfl) ?_
    (refine r_pure (a_move (r := .p _)) rfl rfl ?_)
    (refine r_pure (a_assign (r := .p _)) rfl rfl ?_)
    refine arun_nil ?_
    refine awp_seq ?_
    refine awp_text (by kernel_rfl) ?_
    (refine r_pure (a_move (r := .p _)) rfl rfl ?_)
    (refine r_pure (a_move (r := .p _)) rfl rfl ?_)
    (refine r_pure (a_quo (by omega) (by first | exact IntWalk.i64_quo _ _ (by omega) | rfl)) rfl rfl ?_)
    (refine r_pure (a_indexAddrS Try.underlying22 sz5 (by omega) (by omega) (by rw [hq, Int.toNat_natCast, Nat.mul_one])) rfl rfl ?_)
    (refine r_pure (a_load1p Try.underlying5 rfl (by rw [List.getElem?_drop]; exact g1)) rfl rfl ?_)
    (refine r_pure (a_shr (by omega) (show _ = x / 16 from Int.fdiv_eq_ediv_of_nonneg _ (by decide))) rfl rfl ?_)
    (refine r_pure (a_assign (r := .p _)) rfl rfl ?_)
    refine arun_nil ?_
    refine awp_seq (awp_seq ?_)
    refine awp_text (by kernel_rfl) ?_
    (refine r_pure (a_move (r := .p _)) rfl rfl ?_)
    (refine r_pure (a_bits (by simp) (i64_and_one _ (by omega))) rfl rfl ?_)
    (refine r_pure a_eql rfl rfl ?_)
    refine arun_nil ?_
    refine thn_n ?_
    refine awp_join (St.of [(0, .p (.sl n 1 (bs xs))), (3, .row 3), (4, .p (.v (.int .i64 i))), (5, .p (.v (.int .u8 v))), (11, .p (.v (.int .i64 (2 * n : Nat)))), (12, .p (.v (.int .i64 i)))] [(3, .row 5 1 (2 * n) (bs (fillK T z i)))]) ?_ ?_
    · refine awp_cond _ rfl (fun h => ?_) (fun h => ?_)
      · have h1 : i % 2 = 1 := by simp at h; omega
        rw [if_pos h1] at hv
        skip
        refine awp_text (by kernel_rfl) ?_
        (refine r_pure (a_move (r := .p _)) rfl rfl ?_)
        (refine r_pure (a_move (r := .p _)) rfl rfl ?_)
        (refine r_pure (a_quo (by omega) (by first | exact IntWalk.i64_quo _ _ (by omega) | rfl)) rfl rfl ?_)
        (refine r_pure (a_indexAddrS Try.underlying22 sz5 (by omega) (by omega) (by rw [hq, Int.toNat_natCast, Nat.mul_one])) rfl rfl ?_)
        (refine r_pure (a_load1p Try.underlying5 rfl (by rw [List.getElem?_drop]; exact g1)) rfl rfl ?_)
        (refine r_pure (a_bits (by simp) (u8_and15 x hxB.1 hxB.2)) rfl rfl ?_)
        (refine r_pure (a_assign (r := .p _)) rfl rfl ?_)
        refine arun_nil ?_
        refine ⟨rfl, re_of id _ _ ?_ ⟨⟨rfl, rfl⟩, trivial⟩ rfl⟩
        rw [hv]
        (repeat (first | exact trivial | (refine ⟨⟨(by first | rfl | (simp; done) | (simp; omega)), rfl⟩, ?_⟩)))
      · have h1 : ¬ i % 2 = 1 := by simp at h; omega
        rw [if_neg h1] at hv
        refine awp_skip ?_
        refine ⟨rfl, re_of id _ _ ?_ ⟨⟨rfl, rfl⟩, trivial⟩ rfl⟩
        rw [hv]
        (repeat (first | exact trivial | (refine ⟨⟨(by first | rfl | (simp; done) | (simp; omega)), rfl⟩, ?_⟩)))
    clear hv
    have hs1 : setR (bs (fillK T z i)) i [.v (.int .u8 (48 + v))] = bs ((fillK T z i).set i (48 + v)) := bs_set hlen'
    refine awp_seq ?_
    refine awp_text (by kernel_rfl) ?_
    (refine r_pure (a_move (r := .row _)) rfl rfl ?_)
    (refine r_pure (a_move (r := .p _)) rfl rfl ?_)
    (refine r_pure (a_move (r := .p _)) rfl rfl ?_)
    (refine r_pure (a_add (by first | exact IntWalk.u8_in _ (by omega) | rfl)) rfl rfl ?_)
    (refine r_run (a_indexAddrR Try.underlying22 sz5 (by omega) (by omega) (show _ = i by omega)) rfl rfl ⟨rfl, trivial⟩ ?_)
    (refine r_run (a_storeR (Y := .p _) sz5 rfl rfl (by first | rfl | omega) (by first | omega | (simp; done) | (simp; omega)) hs1) rfl rfl ⟨rfl, trivial⟩ ?_)
    refine arun_nil ?_
    refine awp_seq ?_
    refine awp_text (by kernel_rfl) ?_
    (refine r_pure (a_move (r := .p _)) rfl rfl ?_)
    (refine r_pure a_gtr rfl rfl ?_)
    refine arun_nil ?_
    refine thn_n ?_
    refine awp_joinK (St.of [(0, .p (.sl n 1 (bs xs))), (3, .row 3), (11, .p (.v (.int .i64 (2 * n : Nat)))), (12, .p (.v (.int .i64 i)))] [(3, .row 5 1 (2 * n) (bs (fillK T z (i + 1))))]) ?_ (fun st' r => awp_re r ?_)
    · refine awp_cond _ rfl (fun h => ?_) (fun h => ?_)
      · have h1 : 9 < v := by simpa using h
        have hdv : dg v = 97 + v - 10 := by unfold dg; rw [if_pos h1]; omega
        rw [hdv] at hstep
        have hs2 : setR (bs ((fillK T z i).set i (48 + v))) i [.v (.int .u8 (97 + v - 10))] = bs (fillK T z (i + 1)) := by
          rw [bs_set (by rw [List.length_set]; exact hlen'), List.set_set, hstep]
        have hlen2 : (bs ((fillK T z i).set i (48 + v))).length = 2 * n := by rw [bs_length, List.length_set, ← bs_length]; exact hlen
        skip
        refine awp_text (by kernel_rfl) ?_
        (refine r_pure (a_move (r := .row _)) rfl rfl ?_)
        (refine r_pure (a_move (r := .p _)) rfl rfl ?_)
        (refine r_pure (a_move (r := .p _)) rfl rfl ?_)
        (refine r_pure (a_add (by first | exact IntWalk.u8_in _ (by omega) | rfl)) rfl rfl ?_)
        (refine r_pure (a_sub (by first | exact IntWalk.u8_in _ (by omega) | rfl)) rfl rfl ?_)
        (refine r_run (a_indexAddrR Try.underlying22 sz5 (by omega) (by omega) (show _ = i by omega)) rfl rfl ⟨rfl, trivial⟩ ?_)
        (refine r_run (a_storeR (Y := .p _) sz5 rfl rfl (by first | rfl | omega) (by first | omega | (simp; done) | (simp; omega)) hs2) rfl rfl ⟨rfl, trivial⟩ ?_)
        refine arun_nil ?_
        exact ⟨rfl, re_of id _ _ (by (repeat (first | exact trivial | (refine ⟨⟨(by first | rfl | (simp; done) | (simp; omega)), rfl⟩, ?_⟩)))) ⟨⟨rfl, rfl⟩, trivial⟩ rfl⟩
      · have h1 : ¬ 9 < v := by simp at h; omega
        have hdv : dg v = 48 + v := by unfold dg; rw [if_neg h1]
        rw [hdv] at hstep
        rw [← hstep]
        refine awp_skip ?_
        exact ⟨rfl, re_of id _ _ (by (repeat (first | exact trivial | (refine ⟨⟨(by first | rfl | (simp; done) | (simp; omega)), rfl⟩, ?_⟩)))) ⟨⟨rfl, rfl⟩, trivial⟩ rfl⟩
    skip
    refine awp_text (by kernel_rfl) ?_
    (refine r_pure (a_add (by first | exact IntWalk.i64_in _ (by omega) | rfl)) rfl rfl ?_)
    (refine r_pure (a_move (r := .p _)) rfl rfl ?_)
    refine arun_nil ?_
    refine thn_n ?_
    refine ⟨m - 1, by omega, _, re_of id _ _ ?_ ?_ rfl, i + 1, by omega, rfl⟩
    · (repeat (first | exact trivial | (refine ⟨⟨(by first | rfl | (simp; done) | (simp; omega)), rfl⟩, ?_⟩)))
    · exact ⟨⟨rfl, rfl⟩, trivial⟩
  have hge : i = 2 * n := by simp at h; omega
  clear h
  subst hge
  rw [fillK_full hTl hz]
  unfold hexS
  generalize hexT xs = T
  refine awp_exit (awp_seq ?_)
  refine awp_text (by kernel_rfl) ?_
  (refine r_pure (a_move (r := .row _)) rfl rfl ?_)
  (refine r_run (a_b2s Try.underlying22 Try.underlying5 Try.underlying9 (src_row) rfl rfl) rfl rfl ⟨rfl, trivial⟩ ?_)
  (refine r_pure (a_assign (r := .p _)) rfl rfl ?_)
  refine arun_nil ?_
  refine awp_ret ?_
  refine ⟨(by first | exact .inl rfl | exact .inr rfl), _, (fun o => o), (.tmp _ _ _ _ rfl .nil), ?_, rfl, ?_, rfl⟩
  · exact rfl
  · exact trivial
end Go.Proofs.Ytmdkfhmmhiofbaa
