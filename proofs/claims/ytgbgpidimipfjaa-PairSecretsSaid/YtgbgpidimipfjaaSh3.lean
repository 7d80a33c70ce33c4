/- The constants of the rounds, over data. -/
import Derived.Test.YtgbgpidimipfjaaSh2
namespace Go.Proofs.Ytgbgpidimipfjaa
open Go.RowKit Go.Sort
set_option linter.unusedVariables false
set_option linter.unusedSimpArgs false
set_option maxRecDepth 100000

def iu (xs : List Int) : List AV := xs.map fun x => .p (.v (.int .u32 x))
def pu (xs : List Int) : List PV := xs.map fun x => .v (.int .u32 x)
@[simp] theorem iu_len (xs : List Int) : (iu xs).length = xs.length := by simp [iu]
@[simp] theorem pu_len (xs : List Int) : (pu xs).length = xs.length := by simp [pu]
theorem iu_at {xs : List Int} {i : Nat} {x : Int} (h : xs[i]? = some x) : (iu xs)[i]? = some (.p (.v (.int .u32 x))) := by simp [iu, h]
theorem pu_at {xs : List Int} {i : Nat} {x : Int} (h : xs[i]? = some x) : (pu xs)[i]? = some (.v (.int .u32 x)) := by simp [pu, h]
theorem iu_set {xs : List Int} {i : Nat} {x : Int} (h : i < xs.length) : setR (iu xs) i [.p (.v (.int .u32 x))] = iu (xs.set i x) := by
  rw [setR_one (by simpa using h), iu, iu, List.map_set]
theorem pu_set {xs : List Int} {i : Nat} {x : Int} (h : i < xs.length) : setR (pu xs) i [.v (.int .u32 x)] = pu (xs.set i x) := by
  rw [setR_one (by simpa using h), pu, pu, List.map_set]
theorem pu_push {xs : List Int} {x : Int} : pu xs ++ [.v (.int .u32 x)] = pu (xs ++ [x]) := by simp [pu]
def RK : List Int := 1116352408 :: 1899447441 :: 3049323471 :: 3921009573 :: 961987163 :: 1508970993 :: 2453635748 :: 2870763221 :: 3624381080 :: 310598401 :: 607225278 :: 1426881987 :: 1925078388 :: 2162078206 :: 2614888103 :: 3248222580 :: 3835390401 :: 4022224774 :: 264347078 :: 604807628 :: 770255983 :: 1249150122 :: 1555081692 :: 1996064986 :: 2554220882 :: 2821834349 :: 2952996808 :: 3210313671 :: 3336571891 :: 3584528711 :: 113926993 :: 338241895 :: 666307205 :: 773529912 :: 1294757372 :: 1396182291 :: 1695183700 :: 1986661051 :: 2177026350 :: 2456956037 :: 2730485921 :: 2820302411 :: 3259730800 :: 3345764771 :: 3516065817 :: 3600352804 :: 4094571909 :: 275423344 :: 430227734 :: 506948616 :: 659060556 :: 883997877 :: 958139571 :: 1322822218 :: 1537002063 :: 1747873779 :: 1955562222 :: 2024104815 :: 2227730452 :: 2361852424 :: 2428436474 :: 2756734187 :: 3204031479 :: 3329325298 :: []
theorem rounds_s : Fn Try.prog 80 [] (.agg (iu RK)) [] := by
  refine fn_intro Try.func80 rfl (Nat.le_of_ble_eq_true rfl) fun w0 A => ?_
  refine awp_seq ?_
  refine awp_text (by kernel_rfl) ?_
  (refine r_run (a_alloc 0 zr96 rfl) rfl rfl ⟨rfl, trivial⟩ ?_)
  refine arun_nil ?_
  refine awp_seq ?_
  refine awp_text (by kernel_rfl) ?_
  refine r_pure (xs := iu RK) (a_buildA (es := iu RK) Try.underlying96 zr96 rfl sz23 (by kernel_rfl)) (by kernel_rfl) rfl ?_
  (refine r_run (a_storeAll (Y := .agg _) sz96 rfl (by first | exact Nat.eq_of_beq_eq_true rfl | (simp only [AV.cells, List.length_map]; first | assumption | omega)) (Nat.eq_of_beq_eq_true rfl)) rfl rfl ⟨rfl, trivial⟩ ?_)
  refine arun_nil ?_
  refine awp_ret ?_
  refine ⟨(by first | exact .inl rfl | exact .inr rfl), _, (fun o => o), (.cellN _ _ _ _ _ _ _ _ _ rfl rfl Try.underlying96 rfl sz96 (by first | assumption | kernel_rfl) .nil), ?_, rfl, ?_, rfl⟩
  · exact rfl
  · exact trivial
theorem refRounds_s : Fn Try.prog 58 [] (.row 0) [(0, .row 23 1 64 (pu RK))] := by
  refine fn_intro Try.func58 rfl (Nat.le_of_ble_eq_true rfl) fun w0 A => ?_
  refine awp_seq ?_
  refine awp_text (by kernel_rfl) ?_
  (refine r_pure (a_assign (r := .p _)) rfl rfl ?_)
  refine arun_nil ?_
  refine awp_seq ?_
  refine awp_text (by kernel_rfl) ?_
  refine r_run (xs := iu RK) (a_buildSlice (es := iu RK) (cs := pu RK) 1 Try.underlying72 sz23 zc23 (Nat.le_of_ble_eq_true rfl) (Nat.le_of_ble_eq_true rfl) rfl (by kernel_rfl) (by kernel_rfl) (by kernel_rfl) (Nat.le_of_ble_eq_true rfl)) (by kernel_rfl) rfl ⟨rfl, trivial⟩ ?_
  (refine r_pure (a_assign (r := .row _)) rfl rfl ?_)
  refine arun_nil ?_
  refine awp_ret ?_
  refine ⟨(by first | exact .inl rfl | exact .inr rfl), _, (fun _ => 1), (.tmp _ _ _ _ rfl .nil), ?_, rfl, ?_, rfl⟩
  · exact rfl
  · exact ⟨⟨rfl, rfl⟩, trivial⟩
end Go.Proofs.Ytgbgpidimipfjaa
