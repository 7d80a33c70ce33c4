/- strings.Join over data. -/
import Derived.Test.YtgpleldhddpcgaaGreatDoorSUtZ
import Derived.Test.YtgpleldhddpcgaaGreatDoorSShelf
import Derived.Test.YtgpleldhddpcgaaGreatDoorSNuZ
namespace Go.Proofs.YtgpleldhddpcgaaGreatDoor
open Go.RowKit Go.Sort
set_option linter.unusedVariables false
set_option linter.unusedSimpArgs false
def joinS (ts : List ByteArray) (sep : ByteArray) : ByteArray := ⟨(Lib.join (ts.map (·.data.toList)) sep.data.toList).toArray⟩
theorem join_s (ts : List ByteArray) (sep : ByteArray) (hn : ts.length ≤ 140737488355328) (hl : (joinS ts sep).size ≤ 140737488355328) : Fn Tryz.prog 111 [.p (.sl ts.length 1 (strs ts)), .p (.v (.string sep))] (.p (.v (.string (joinS ts sep)))) [] := by
  refine fn_below rfl fun w A us hA hr => ?_
  have hlen := hr.length
  match us, hlen with
  | [u, v], _ =>
    obtain ⟨h1, h2⟩ := repL2 hr
    have hv := rep_v h2
    subst hv
    simp only [Rep, PRep] at h1
    obtain ⟨a, cap, vs, rfl, hc, _, hp, hb⟩ := h1
    have hvs := prep_strs hp
    subst hvs
    rcases hb with h0 | ⟨b, off, rfl, hAb, hrange⟩
    · obtain rfl : ts = [] := List.eq_nil_of_length_eq_zero h0
      refine (Tryz.strings_Join_none a cap sep w).mono ?_
      rintro e w' ⟨rfl, rfl⟩
      exact ⟨rfl, Below.refl _ _⟩
    · refine (Tryz.strings_Join b off cap ts sep w (fun j x hj => ?_) (hA b hAb) hn hc (by simpa [joinS, ByteArray.size] using hl)).mono ?_
      · exact hrange j (.string x) (by simp [hj])
      · rintro e w' ⟨rfl, hbel⟩
        exact ⟨rfl, hbel⟩
theorem joinS_one (t sep : ByteArray) : joinS [t] sep = t := by
  apply ByteArray.ext
  simp [joinS, Lib.join_cons, Lib.joinTail]
theorem joinS_push (ts : List ByteArray) (sep t : ByteArray) (h : ts ≠ []) : joinS (ts ++ [t]) sep = joinS ts sep ++ sep ++ t := by
  match ts, h with
  | x :: r, _ =>
    apply ByteArray.ext
    apply Array.ext'
    simp [joinS, Lib.join_cons, Lib.joinTail, ByteArray.data_append]
end Go.Proofs.YtgpleldhddpcgaaGreatDoor
