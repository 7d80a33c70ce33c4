/- trie: nets, sides, growing a tree of a list. -/
import Derived.Test.YtgpleldhddpcgaaGreatDoorSFz
import Derived.Test.YtgpleldhddpcgaaGreatDoorSTrY
import Derived.Test.YtgpleldhddpcgaaGreatDoorSNetZ
namespace Go.Proofs.YtgpleldhddpcgaaGreatDoor
open Go.RowKit Go.Sort
set_option linter.unusedVariables false
set_option linter.unusedSimpArgs false
set_option maxRecDepth 100000
theorem nHolds_s (a n b m : Int) (h2 : 0 ≤ a) (h3 : a < 4294967296) (h4 : 0 ≤ b) (h5 : b < 4294967296) : Fn Tryz.prog 98 [.agg (netA a n), .agg (netA b m)] (.p (.v (.bool (zbb a n b m)))) [] :=
 zcG rfl (fun _ _ _ => zbn rfl) (holds_g a n b m h2 h3 h4 h5)
theorem zhj (p q : Key) (hp : p.length ≤ 32) (hq : q.length ≤ 32) : Fn Tryz.prog 98 [.agg (netA (zaT p) p.length), .agg (netA (zaT q) q.length)] (.p (.v (.bool (decide (p <+: q))))) [] := by
 have h := nHolds_s (zaT p) p.length (zaT q) q.length (zbw p hp).1 (zbw p hp).2 (zbw q hq).1 (zbw q hq).2
 rw [holds_pre p q hp hq] at h
 exact h
def bitN (q : Key) (i : Nat) : Nat := if zbV q i = true then 1 else 0
theorem bitN_le (q : Key) (i : Nat) : bitN q i ≤ 1 := by unfold bitN; split <;> omega
theorem side_bits (p q : Key) (h : p.length < q.length) (hq : q.length ≤ 32) : bits .and .u32 ((zaT q).fdiv (2 ^ min (31 - (p.length : Int)).toNat IntKind.u32.bits)) 1 = (bitN q p.length : Nat) := by
 have hm : min (31 - (p.length : Int)).toNat IntKind.u32.bits = (31 - (p.length : Int)).toNat := Nat.min_eq_left (by simp only [IntKind.bits]; omega)
 obtain ⟨b0, b1⟩ := zbw q hq
 obtain ⟨s0, s1⟩ := shr_bd (zaT q) (31 - (p.length : Int)).toNat b0 b1
 rw [hm, Int.fdiv_eq_ediv_of_nonneg _ (Int.le_of_lt (zcY _)), zfC _ s0 s1, bit_key q p.length hq h]
 unfold bitN; split <;> rfl
theorem side_s (p q : Key) (h : p.length < q.length) (hq : q.length ≤ 32) : Fn Tryz.prog 99 [.agg (netA (zaT p) p.length), .agg (netA (zaT q) q.length)] (.p (.v (.int .i64 (bitN q p.length : Nat)))) [] := by
 have hsb := side_bits p q h hq
 have hl := bitN_le q p.length
 generalize bitN q p.length = b at *
 refine zap Tryz.func99 rfl (Nat.le_of_ble_eq_true rfl) fun w0 A => ?_
 refine zaa ?_
 refine tx ?_
 refine zal (za2 (X := .agg _) 2 rfl) rfl rfl ⟨rfl, trivial⟩ ?_
 refine zal (za2 (X := .agg _) 3 rfl) rfl rfl ⟨rfl, trivial⟩ ?_
 refine yA ?_
 refine zab ?_
 refine zaa ?_
 refine tx ?_
 refine yF fi52_0 ?_
 refine yL Tryz.underlying50 ?_
 refine yF fi52_1 ?_
 refine yL Tryz.underlying3 ?_
 refine zac (zgC (by first | exact IntWalk.i64_in _ (by omega) | rfl)) rfl rfl ?_
 refine zac (a_shr (by omega) rfl) rfl rfl ?_
 refine zac (a_bits (by simp) hsb) rfl rfl ?_
 refine zac (zgz Tryz.underlying50 Tryz.underlying3 (by first | exact IntWalk.i64_in _ (by omega) | rfl)) rfl rfl ?_
 refine yA ?_
 refine zab ?_
 refine zaf ?_
 refine yT ?_ ?_
 ·exact rfl
 ·exact trivial
theorem below_s (p q : Key) (hp : p.length ≤ 32) (hq : q.length ≤ 32) : Fn Tryz.prog 142 [.agg (netA (zaT p) p.length), .agg (netA (zaT q) q.length)] (.p (.v (.bool (zet p q)))) [] := by
 have hH := zhj p q hp hq
 have e : zet p q = (decide ((p.length : Int) < (q.length : Int)) && decide (p <+: q)) := by unfold zet; congr 1; exact decide_eq_decide.2 (by omega)
 rw [e]
 generalize decide (p <+: q) = c at *
 refine zap Tryz.func142 rfl (Nat.le_of_ble_eq_true rfl) fun w0 A => ?_
 refine zaa ?_
 refine tx ?_
 refine zal (za2 (X := .agg _) 2 rfl) rfl rfl ⟨rfl, trivial⟩ ?_
 refine zal (za2 (X := .agg _) 3 rfl) rfl rfl ⟨rfl, trivial⟩ ?_
 refine yA ?_
 refine zab ?_
 refine zaa ?_
 refine tx ?_
 refine yF fi52_1 ?_
 refine yL Tryz.underlying3 ?_
 refine yF fi52_1 ?_
 refine yL Tryz.underlying3 ?_
 refine yP za5 ?_
 refine yM ?_
 refine mb2 _ rfl rfl (fun hb => (zaL Tryz.underlying52 rfl sz52 (by first | exact Nat.le_of_ble_eq_true rfl | omega | (simp only [AV.cells, List.length_map]; omega)) (by first | exact zce (by first | assumption | exact Nat.eq_of_beq_eq_true rfl | (simp only [AV.cells, List.length_map]; first | assumption | omega)) | (simp only [List.take_succ_cons, List.take_zero, List.drop_succ_cons, List.drop_zero]; rfl) | rfl))) (fun _ => ⟨rfl, trivial⟩) ?_
 refine mb2 _ rfl rfl (fun hb => (zaL Tryz.underlying52 rfl sz52 (by first | exact Nat.le_of_ble_eq_true rfl | omega | (simp only [AV.cells, List.length_map]; omega)) (by first | exact zce (by first | assumption | exact Nat.eq_of_beq_eq_true rfl | (simp only [AV.cells, List.length_map]; first | assumption | omega)) | (simp only [List.take_succ_cons, List.take_zero, List.drop_succ_cons, List.drop_zero]; rfl) | rfl))) (fun _ => ⟨rfl, trivial⟩) ?_
 refine mb2 _ rfl rfl (fun _ => zbd Tryz.func98 rfl rfl (hH) (by first | rfl | simp [AV.okInL, AV.okIn, zaZ]) rfl) (fun _ => trivial) ?_
 refine zac (zbl (by first | exact id | (simp; done) | grind)) rfl rfl ?_
 refine yA ?_
 refine zab ?_
 refine zaf ?_
 refine yT ?_ ?_
 ·exact rfl
 ·exact trivial
end Go.Proofs.YtgpleldhddpcgaaGreatDoor
