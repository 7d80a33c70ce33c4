/- strings.Join over data. -/
import Derived.Test.YtkdfdcodkeclmaaGreatDoorSUtZ
import Derived.Test.YtkdfdcodkeclmaaGreatDoorSShelf
import Derived.Test.YtkdfdcodkeclmaaGreatDoorSNuZ
import Derived.Test.YtkdfdcodkeclmaaGreatDoorSAd2
import Derived.Test.YtkdfdcodkeclmaaGreatDoorSNetZ
namespace Go.Proofs.YtkdfdcodkeclmaaGreatDoor
open Go.RowKit Go.Sort
set_option linter.unusedVariables false
set_option linter.unusedSimpArgs false
end Go.Proofs.YtkdfdcodkeclmaaGreatDoor
/- addr.End, addr.Text, their references, the laws AddrEnds, AddrTells, over data. -/
namespace Go.Proofs.YtkdfdcodkeclmaaGreatDoor
open Tryz
open Go.RowKit Go.Sort
set_option linter.unusedVariables false
set_option linter.unusedSimpArgs false
set_option maxRecDepth 100000
def adA (s : ByteArray) : Int := if adOk s = true then (adN (spl s 46) : Nat) else 0
def adE (s : ByteArray) : Int := if adOk s = true then 0 else 3
theorem adR_eq (s : ByteArray) : adR s = .tup [.p (.v (.int .u32 (adA s))), .p (.v (.int .i64 (adE s)))] := by
 unfold adR adA adE
 split <;> rfl
theorem numV_nn (s : ByteArray) (most : Int) : 0 ≤ numV s most := by
 unfold numV
 split <;> omega
/-- the address and the port of an endpoint -/
def enOk (s : ByteArray) : Prop := 0 ≤ ixB s 58 ∧ adE (cutA s 58) = 0 ∧ numE (cutZ s 58) 65535 = 0 ∧ numV (cutZ s 58) 65535 ≠ 0
instance enOk_dec (s : ByteArray) : Decidable (enOk s) := by unfold enOk; infer_instance
def enE (s : ByteArray) : Int := if enOk s then 0 else 3
def enR (s : ByteArray) : AV := if enOk s then .tup [.p (.v (.int .u32 (adA (cutA s 58)))), .p (.v (.int .i64 (numV (cutZ s 58) 65535))), .p (.v (.int .i64 0))] else .tup [.p (.v (.int .u32 0)), .p (.v (.int .i64 0)), .p (.v (.int .i64 3))]
set_option maxHeartbeats 1000000 in
theorem end_s (s : ByteArray) (hs : s.size < 4294967281) : Fn prog 46 [.p (.v (.string s))] (enR s) [] := by
 have hK := cut1_s s 58 qO
 have zA := cutA_size s 58
 have zZ := cutZ_size s 58
 have hP := parse_s (cutA s 58) qO
 have hN := number_s (cutZ s 58) 65535 qO
 have hE : enOk s ↔ 0 ≤ ixB s 58 ∧ adE (cutA s 58) = 0 ∧ numE (cutZ s 58) 65535 = 0 ∧ numV (cutZ s 58) 65535 ≠ 0 := Iff.rfl
 have hR1 : enOk s → enR s = .tup [.p (.v (.int .u32 (adA (cutA s 58)))), .p (.v (.int .i64 (numV (cutZ s 58) 65535))), .p (.v (.int .i64 0))] := fun h => if_pos h
 have hR2 : ¬ enOk s → enR s = .tup [.p (.v (.int .u32 0)), .p (.v (.int .i64 0)), .p (.v (.int .i64 3))] := fun h => if_neg h
 rw [adR_eq] at hP
 unfold numR at hN
 generalize enR s = R at *
 generalize ixB s 58 = ix at *
 generalize adE (cutA s 58) = e1 at *
 generalize adA (cutA s 58) = a1 at *
 generalize numE (cutZ s 58) 65535 = e2 at *
 generalize numV (cutZ s 58) 65535 = v2 at *
 generalize cutA s 58 = A at *
 generalize cutZ s 58 = Z at *
 refine zaw func46 rfl (qE rfl) fun w0 A => zaa<| tx<| wA rfl<| wA rfl<| wA rfl<| zab<| zaa<| tx<| wM rfl<| yV (fun n => 14 + 1000 * n) (hK) func75 ?_
 refine wP (zam (r := .tup _)) rfl<| wP (zal rfl) rfl<| wP (zal rfl) rfl<| wP (zal rfl) rfl<| wA rfl<| wA rfl<| wA rfl<| zab<| zaa<| tx<| wM rfl<| yV (fun n => 20 + 1000 * n) (hP) func76 ?_
 refine wP (zam (r := .tup _)) rfl<| wP (zal rfl) rfl<| wP (zal rfl) rfl<| wA rfl<| wA rfl<| zab<| zaa<| tx<| wM rfl<| yV (fun n => 25 + 1000 * n) (hN) func77 ?_
 refine wP (zam (r := .tup _)) rfl<| wP (zal rfl) rfl<| wP (zal rfl) rfl<| wA rfl<| wA rfl<| zab<| zaa<| zaa<| tx<| wM rfl<| wP zba rfl<| wM rfl<| mb2 _ rfl rfl (fun hb => (zam (r := .p _))) (fun _ => trivial) ?_
 refine mb2 _ rfl rfl (fun hb => zbR) (fun _ => trivial) ?_
 refine wP (a_or (by first | exact id | (simp; done) | grind)) rfl ?_
 refine wM rfl<| mb2 _ rfl rfl (fun hb => (zam (r := .p _))) (fun _ => trivial) ?_
 refine mb2 _ rfl rfl (fun hb => zbR) (fun _ => trivial) ?_
 refine wP (a_or (by first | exact id | (simp; done) | grind)) rfl ?_
 refine wM rfl<| mb2 _ rfl rfl (fun hb => (zam (r := .p _))) (fun _ => trivial) ?_
 refine mb2 _ rfl rfl (fun hb => zaz) (fun _ => trivial) ?_
 refine wP (a_or (by first | exact id | (simp; done) | grind)) rfl ?_
 refine zab<| zaf<| zaq _ rfl (fun h => ?_) (fun h => ?_)
 ·rw [hR2 (by rw [hE]; intro ⟨q1, q2, q3, q4⟩; simp at h; omega)]
  refine zaa<| tx<| wA rfl<| wA rfl<| wA rfl<| zab<| zai<| zau<| fT (fun o => o) (.tmp _ _ _ _ rfl (.tmp _ _ _ _ rfl (.tmp _ _ _ _ rfl .nil))) ?_ ?_
  ·exact rfl
  ·exact trivial
 ·rw [hR1 (by rw [hE]; simp at h; omega)]
  refine zae<| zaa<| tx<| wM rfl<| wM rfl<| wA rfl<| wA rfl<| wA rfl<| zab<| zai<| fT (fun o => o) (.tmp _ _ _ _ rfl (.tmp _ _ _ _ rfl (.tmp _ _ _ _ rfl .nil))) ?_ ?_
  ·exact rfl
  ·exact trivial
set_option maxHeartbeats 1000000 in
theorem refEnd_s (s : ByteArray) (hs : s.size < 4294967281) : Fn prog 58 [.p (.v (.string s))] (enR s) [] := by
 have hI := index1_s s 58
 have zA := cutA_size s 58
 have zZ := cutZ_size s 58
 have hP := refAddr_s (cutA s 58) qO
 have hN := refNum_s (cutZ s 58) 65535 qO
 have hE : enOk s ↔ 0 ≤ ixB s 58 ∧ adE (cutA s 58) = 0 ∧ numE (cutZ s 58) 65535 = 0 ∧ numV (cutZ s 58) 65535 ≠ 0 := Iff.rfl
 have hR1 : enOk s → enR s = .tup [.p (.v (.int .u32 (adA (cutA s 58)))), .p (.v (.int .i64 (numV (cutZ s 58) 65535))), .p (.v (.int .i64 0))] := fun h => if_pos h
 have hR2 : ¬ enOk s → enR s = .tup [.p (.v (.int .u32 0)), .p (.v (.int .i64 0)), .p (.v (.int .i64 3))] := fun h => if_neg h
 have hA : 0 ≤ ixB s 58 → cutA s 58 = s.extract 0 (ixB s 58).toNat := fun h => if_pos h
 have hZ : 0 ≤ ixB s 58 → cutZ s 58 = s.extract ((ixB s 58).toNat + 1) s.size := fun h => if_pos h
 have hnn := numV_nn (cutZ s 58) 65535
 have hlt := ixB_lt s 58
 rw [adR_eq] at hP
 unfold numR at hN
 generalize enR s = R at *
 generalize ixB s 58 = ix at *
 generalize adE (cutA s 58) = e1 at *
 generalize adA (cutA s 58) = a1 at *
 generalize numE (cutZ s 58) 65535 = e2 at *
 generalize numV (cutZ s 58) 65535 = v2 at *
 generalize cutA s 58 = A at *
 generalize cutZ s 58 = Z at *
 refine zaw func58 rfl (qE rfl) fun w0 A => zaa<| tx<| wA rfl<| wA rfl<| wA rfl<| zab<| zaa<| tx<| wM rfl<| yV (fun n => 11 + 1000 * n) (hI) func91 ?_
 refine wA rfl<| zab<| zaa<| zaa<| tx<| wM rfl<| wP za8 rfl<| zab<| zaf<| zaq _ rfl (fun h => ?_) (fun h => ?_)
 ·rw [hR2 (by rw [hE]; intro ⟨q1, q2, q3, q4⟩; simp at h; omega)]
  refine zaa<| tx<| wA rfl<| wA rfl<| wA rfl<| zab<| zai<| zau<| fT (fun o => o) (.tmp _ _ _ _ rfl (.tmp _ _ _ _ rfl (.tmp _ _ _ _ rfl .nil))) ?_ ?_
  ·exact rfl
  ·exact trivial
 have h0 : 0 ≤ ix := by simp at h; omega
 clear h
 have hA := hA h0
 have hZ := hZ h0
 obtain ⟨n, rfl⟩ := Int.eq_ofNat_of_zero_le h0
 rw [Int.toNat_natCast] at hA hZ
 refine zae<| zaa<| tx<| wM rfl<| wM rfl<| wP (zdK (L := none) (H := (some (_, _))) U9 rfl ⟨qO, (show _ = n by omega)⟩ qO qO hA.symm) rfl ?_
 refine yV (fun n => 18 + 1000 * n) (hP) func92 ?_
 refine wP (zam (r := .tup _)) rfl<| wP (zal rfl) rfl<| wP (zal rfl) rfl<| wA rfl<| wA rfl<| zab<| zaa<| tx<| wM rfl<| wM rfl<| wP (za5 (by first | exact IntWalk.i64_in _ (by omega) | rfl)) rfl ?_
 refine wP (zdK (L := (some (_, _))) (H := none) U9 ⟨qO, (show _ = n + 1 by omega)⟩ rfl qO qO hZ.symm) rfl ?_
 refine yV (fun n => 26 + 1000 * n) (hN) func93 ?_
 refine wP (zam (r := .tup _)) rfl<| wP (zal rfl) rfl<| wP (zal rfl) rfl<| wA rfl<| wA rfl<| zab<| zaa<| zaa<| tx<| wM rfl<| wP zbR rfl<| wM rfl<| mb2 _ rfl rfl (fun hb => (zam (r := .p _))) (fun _ => trivial) ?_
 refine mb2 _ rfl rfl (fun hb => zbR) (fun _ => trivial) ?_
 refine wP (a_or (by first | exact id | (simp; done) | grind)) rfl ?_
 refine wM rfl<| mb2 _ rfl rfl (fun hb => (zam (r := .p _))) (fun _ => trivial) ?_
 refine mb2 _ rfl rfl (fun hb => za8) (fun _ => trivial) ?_
 refine wP (a_or (by first | exact id | (simp; done) | grind)) rfl ?_
 refine zab<| zaf<| zaq _ rfl (fun h => ?_) (fun h => ?_)
 ·rw [hR2 (by rw [hE]; intro ⟨q1, q2, q3, q4⟩; simp at h; omega)]
  refine zaa<| tx<| wA rfl<| wA rfl<| wA rfl<| zab<| zai<| zau<| fT (fun o => o) (.tmp _ _ _ _ rfl (.tmp _ _ _ _ rfl (.tmp _ _ _ _ rfl .nil))) ?_ ?_
  ·exact rfl
  ·exact trivial
 ·rw [hR1 (by rw [hE]; simp at h; omega)]
  refine zae<| zaa<| tx<| wM rfl<| wM rfl<| wA rfl<| wA rfl<| wA rfl<| zab<| zai<| fT (fun o => o) (.tmp _ _ _ _ rfl (.tmp _ _ _ _ rfl (.tmp _ _ _ _ rfl .nil))) ?_ ?_
  ·exact rfl
  ·exact trivial
end Go.Proofs.YtkdfdcodkeclmaaGreatDoor
/- The laws AddrEnds, AddrTells, over data. -/
namespace Go.Proofs.YtkdfdcodkeclmaaGreatDoor
open Go.RowKit Go.Sort
set_option linter.unusedVariables false
set_option linter.unusedSimpArgs false
set_option maxRecDepth 100000
end Go.Proofs.YtkdfdcodkeclmaaGreatDoor
/- net.Text, net.Parse, their references, the law NetTells, over data. -/
namespace Go.Proofs.YtkdfdcodkeclmaaGreatDoor
open Go.RowKit Go.Sort
set_option linter.unusedVariables false
set_option linter.unusedSimpArgs false
set_option maxRecDepth 100000
def npA (s : ByteArray) : Int := adA (cutA s 47)
def npN (s : ByteArray) : Int := numV (cutZ s 47) 32
def npOk (s : ByteArray) : Prop := 0 ≤ ixB s 47 ∧ adE (cutA s 47) = 0 ∧ numE (cutZ s 47) 32 = 0 ∧ zbj (npA s) (npN s) = 0
instance npOk_dec (s : ByteArray) : Decidable (npOk s) := by unfold npOk; infer_instance
end Go.Proofs.YtkdfdcodkeclmaaGreatDoor
