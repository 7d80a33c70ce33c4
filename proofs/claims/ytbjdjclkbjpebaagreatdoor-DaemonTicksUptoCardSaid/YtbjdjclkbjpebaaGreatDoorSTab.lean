/- Facts on the types of the program: sizes, zero values, fields. -/
import Derived.Test.YtbjdjclkbjpebaaGreatDoorProg
import Derived.Test.YtbjdjclkbjpebaaGreatDoorSMa2
namespace Go.Proofs.YtbjdjclkbjpebaaGreatDoor
open Tryz
set_option linter.unusedVariables false
theorem sz3 : (prog.info? 3).map (·.size) = some 1 := by kernel_rfl
instance sj3 : SZ prog 3 1 := ⟨by kernel_rfl⟩
instance rw3 : RW prog 3 false := ⟨_, underlying3, rfl⟩
instance ik3 : IK prog 3 .i64 := ⟨underlying3⟩
theorem zc3 : (prog.info? 3).map (fun i => i.zero.map Value.cells) = some (some #[(.int .i64 0)]) := by kernel_rfl
theorem eo3 : zcG prog 3 1 8 = true := by kernel_rfl
instance rw4 : RW prog 4 false := ⟨_, underlying4, rfl⟩
instance bl4 : BL prog 4 := ⟨underlying4⟩
theorem zr4 : (prog.info? 4).map (·.zero) = some (some (.bool false)) := by kernel_rfl
theorem sz5 : (prog.info? 5).map (·.size) = some 1 := by kernel_rfl
instance sj5 : SZ prog 5 1 := ⟨by kernel_rfl⟩
instance rw5 : RW prog 5 false := ⟨_, underlying5, rfl⟩
instance ik5 : IK prog 5 .u8 := ⟨underlying5⟩
theorem zr5 : (prog.info? 5).map (·.zero) = some (some (.int .u8 0)) := by kernel_rfl
theorem zc5 : (prog.info? 5).map (fun i => i.zero.map Value.cells) = some (some #[(.int .u8 0)]) := by kernel_rfl
theorem eo5 : zcG prog 5 1 1 = true := by kernel_rfl
theorem sz9 : (prog.info? 9).map (·.size) = some 1 := by kernel_rfl
instance sj9 : SZ prog 9 1 := ⟨by kernel_rfl⟩
instance rw9 : RW prog 9 false := ⟨_, underlying9, rfl⟩
instance st9 : SR prog 9 := ⟨underlying9⟩
theorem zc9 : (prog.info? 9).map (fun i => i.zero.map Value.cells) = some (some #[(.string ⟨#[]⟩)]) := by kernel_rfl
instance sj22 : SZ prog 22 1 := ⟨by kernel_rfl⟩
instance rw22 : RW prog 22 false := ⟨_, underlying22, rfl⟩
instance sl22 : SL prog 22 84 := ⟨underlying22⟩
theorem sz24 : (prog.info? 24).map (·.size) = some 3 := by kernel_rfl
instance sj24 : SZ prog 24 3 := ⟨by kernel_rfl⟩
instance rw24 : RW prog 24 true := ⟨_, underlying24, rfl⟩
instance su24 : SU prog 24 := ⟨_, underlying24⟩
instance zj24 : ZR prog 24 (.agg #[(.string ⟨#[]⟩), (.int .i64 0), (.slice none 0 0)]) := ⟨by kernel_rfl⟩
instance fj24_0 : FI prog 24 0 (0, 1) := ⟨by kernel_rfl⟩
instance fj24_1 : FI prog 24 1 (1, 1) := ⟨by kernel_rfl⟩
instance fj24_2 : FI prog 24 2 (2, 1) := ⟨by kernel_rfl⟩
instance pj24 : PL prog 24 [(0, 1), (1, 1), (2, 1)] := ⟨by kernel_rfl⟩
theorem sz25 : (prog.info? 25).map (·.size) = some 1 := by kernel_rfl
instance rw25 : RW prog 25 false := ⟨_, underlying25, rfl⟩
instance sl25 : SL prog 25 90 := ⟨underlying25⟩
theorem sz26 : (prog.info? 26).map (·.size) = some 1 := by kernel_rfl
instance rw26 : RW prog 26 false := ⟨_, underlying26, rfl⟩
instance sl26 : SL prog 26 56 := ⟨underlying26⟩
instance sj27 : SZ prog 27 1 := ⟨by kernel_rfl⟩
instance rw27 : RW prog 27 false := ⟨_, underlying27, rfl⟩
instance sl27 : SL prog 27 121 := ⟨underlying27⟩
theorem sz28 : (prog.info? 28).map (·.size) = some 1 := by kernel_rfl
instance rw28 : RW prog 28 false := ⟨_, underlying28, rfl⟩
instance ik28 : IK prog 28 .i64 := ⟨underlying28⟩
theorem sz30 : (prog.info? 30).map (·.size) = some 7 := by kernel_rfl
instance sj30 : SZ prog 30 7 := ⟨by kernel_rfl⟩
instance rw30 : RW prog 30 true := ⟨_, underlying30, rfl⟩
instance su30 : SU prog 30 := ⟨_, underlying30⟩
instance zj30 : ZR prog 30 (.agg #[(.bool false), (.slice none 0 0), (.string ⟨#[]⟩), (.int .i64 0), (.slice none 0 0), (.string ⟨#[]⟩), (.int .i64 0)]) := ⟨by kernel_rfl⟩
instance fj30_0 : FI prog 30 0 (0, 1) := ⟨by kernel_rfl⟩
instance fj30_1 : FI prog 30 1 (1, 1) := ⟨by kernel_rfl⟩
instance fj30_2 : FI prog 30 2 (2, 3) := ⟨by kernel_rfl⟩
theorem fi30_2 : zaL prog 30 2 = some (2, 3) := by kernel_rfl
instance fj30_3 : FI prog 30 3 (5, 1) := ⟨by kernel_rfl⟩
instance fj30_4 : FI prog 30 4 (6, 1) := ⟨by kernel_rfl⟩
instance pj30 : PL prog 30 [(0, 1), (1, 1), (2, 3), (5, 1), (6, 1)] := ⟨by kernel_rfl⟩
theorem sz32 : (prog.info? 32).map (·.size) = some 15 := by kernel_rfl
instance sj32 : SZ prog 32 15 := ⟨by kernel_rfl⟩
instance rw32 : RW prog 32 true := ⟨_, underlying32, rfl⟩
instance su32 : SU prog 32 := ⟨_, underlying32⟩
instance zj32 : ZR prog 32 (.agg (List.toArray ((.string ⟨#[]⟩) :: (.int .i64 0) :: (.slice none 0 0) :: (.slice none 0 0) :: (.slice none 0 0) :: (.bool false) :: (.slice none 0 0) :: (.string ⟨#[]⟩) :: (.int .i64 0) :: (.slice none 0 0) :: (.string ⟨#[]⟩) :: (.int .i64 0) :: (.int .i64 0) :: (.int .i64 0) :: (.int .i64 0) :: []))) := ⟨by kernel_rfl⟩
theorem zr32 : (prog.info? 32).map (·.zero) = some (some (.agg (List.toArray ((.string ⟨#[]⟩) :: (.int .i64 0) :: (.slice none 0 0) :: (.slice none 0 0) :: (.slice none 0 0) :: (.bool false) :: (.slice none 0 0) :: (.string ⟨#[]⟩) :: (.int .i64 0) :: (.slice none 0 0) :: (.string ⟨#[]⟩) :: (.int .i64 0) :: (.int .i64 0) :: (.int .i64 0) :: (.int .i64 0) :: [])))) := by kernel_rfl
instance fj32_0 : FI prog 32 0 (0, 3) := ⟨by kernel_rfl⟩
theorem fi32_0 : zaL prog 32 0 = some (0, 3) := by kernel_rfl
instance fj32_1 : FI prog 32 1 (3, 1) := ⟨by kernel_rfl⟩
theorem fi32_1 : zaL prog 32 1 = some (3, 1) := by kernel_rfl
instance fj32_2 : FI prog 32 2 (4, 1) := ⟨by kernel_rfl⟩
theorem fi32_2 : zaL prog 32 2 = some (4, 1) := by kernel_rfl
instance fj32_3 : FI prog 32 3 (5, 7) := ⟨by kernel_rfl⟩
theorem fi32_3 : zaL prog 32 3 = some (5, 7) := by kernel_rfl
instance fj32_4 : FI prog 32 4 (12, 1) := ⟨by kernel_rfl⟩
instance fj32_5 : FI prog 32 5 (13, 1) := ⟨by kernel_rfl⟩
theorem fi32_5 : zaL prog 32 5 = some (13, 1) := by kernel_rfl
instance fj32_6 : FI prog 32 6 (14, 1) := ⟨by kernel_rfl⟩
instance pj32 : PL prog 32 [(0, 3), (3, 1), (4, 1), (5, 7), (12, 1), (13, 1), (14, 1)] := ⟨by kernel_rfl⟩
instance sj33 : SZ prog 33 1 := ⟨by kernel_rfl⟩
instance rw33 : RW prog 33 false := ⟨_, underlying33, rfl⟩
instance sl33 : SL prog 33 64 := ⟨underlying33⟩
theorem zr43 : (prog.info? 43).map (·.zero) = some (some (.agg (List.toArray ((.string ⟨#[]⟩) :: (.int .i64 0) :: (.slice none 0 0) :: (.slice none 0 0) :: (.slice none 0 0) :: (.bool false) :: (.slice none 0 0) :: (.string ⟨#[]⟩) :: (.int .i64 0) :: (.slice none 0 0) :: (.string ⟨#[]⟩) :: (.int .i64 0) :: (.int .i64 0) :: (.int .i64 0) :: (.int .i64 0) :: (.slice none 0 0) :: [])))) := by kernel_rfl
instance fj43_0 : FI prog 43 0 (0, 15) := ⟨by kernel_rfl⟩
instance fj43_1 : FI prog 43 1 (15, 1) := ⟨by kernel_rfl⟩
theorem pl43 : zdn prog 43 = some [(0, 15), (15, 1)] := by kernel_rfl
instance sj47 : SZ prog 47 3 := ⟨by kernel_rfl⟩
instance rw47 : RW prog 47 true := ⟨_, underlying47, rfl⟩
instance su47 : SU prog 47 := ⟨_, underlying47⟩
theorem sz49 : (prog.info? 49).map (·.size) = some 11 := by kernel_rfl
instance sj49 : SZ prog 49 11 := ⟨by kernel_rfl⟩
instance rw49 : RW prog 49 true := ⟨_, underlying49, rfl⟩
instance su49 : SU prog 49 := ⟨_, underlying49⟩
instance zj49 : ZR prog 49 (.agg #[(.bool false), (.string ⟨#[]⟩), (.string ⟨#[]⟩), (.int .i64 0), (.int .i64 0), (.int .i64 0), (.int .i64 0), (.bool false), (.int .i64 0), (.int .u64 0), (.bool false)]) := ⟨by kernel_rfl⟩
theorem zr49 : (prog.info? 49).map (·.zero) = some (some (.agg #[(.bool false), (.string ⟨#[]⟩), (.string ⟨#[]⟩), (.int .i64 0), (.int .i64 0), (.int .i64 0), (.int .i64 0), (.bool false), (.int .i64 0), (.int .u64 0), (.bool false)])) := by kernel_rfl
theorem zc49 : (prog.info? 49).map (fun i => i.zero.map Value.cells) = some (some #[(.bool false), (.string ⟨#[]⟩), (.string ⟨#[]⟩), (.int .i64 0), (.int .i64 0), (.int .i64 0), (.int .i64 0), (.bool false), (.int .i64 0), (.int .u64 0), (.bool false)]) := by kernel_rfl
instance fj49_0 : FI prog 49 0 (0, 1) := ⟨by kernel_rfl⟩
instance fj49_1 : FI prog 49 1 (1, 1) := ⟨by kernel_rfl⟩
instance fj49_2 : FI prog 49 2 (2, 1) := ⟨by kernel_rfl⟩
instance fj49_3 : FI prog 49 3 (3, 1) := ⟨by kernel_rfl⟩
theorem zhS : zaL prog 49 3 = some (3, 1) := by kernel_rfl
instance fj49_4 : FI prog 49 4 (4, 1) := ⟨by kernel_rfl⟩
instance fj49_5 : FI prog 49 5 (5, 1) := ⟨by kernel_rfl⟩
instance fj49_6 : FI prog 49 6 (6, 1) := ⟨by kernel_rfl⟩
instance fj49_7 : FI prog 49 7 (7, 3) := ⟨by kernel_rfl⟩
instance pj49 : PL prog 49 [(0, 1), (1, 1), (2, 1), (3, 1), (4, 1), (5, 1), (6, 1), (7, 3), (10, 1)] := ⟨by kernel_rfl⟩
theorem sz51 : (prog.info? 51).map (·.size) = some 33 := by kernel_rfl
instance zj51 : ZR prog 51 (.agg (List.toArray ((.bool false) :: (.string ⟨#[]⟩) :: (.string ⟨#[]⟩) :: (.int .i64 0) :: (.int .i64 0) :: (.int .i64 0) :: (.int .i64 0) :: (.bool false) :: (.int .i64 0) :: (.int .u64 0) :: (.bool false) :: (.bool false) :: (.string ⟨#[]⟩) :: (.string ⟨#[]⟩) :: (.int .i64 0) :: (.int .i64 0) :: (.int .i64 0) :: (.int .i64 0) :: (.bool false) :: (.int .i64 0) :: (.int .u64 0) :: (.bool false) :: (.bool false) :: (.string ⟨#[]⟩) :: (.string ⟨#[]⟩) :: (.int .i64 0) :: (.int .i64 0) :: (.int .i64 0) :: (.int .i64 0) :: (.bool false) :: (.int .i64 0) :: (.int .u64 0) :: (.bool false) :: []))) := ⟨by kernel_rfl⟩
theorem zr51 : (prog.info? 51).map (·.zero) = some (some (.agg (List.toArray ((.bool false) :: (.string ⟨#[]⟩) :: (.string ⟨#[]⟩) :: (.int .i64 0) :: (.int .i64 0) :: (.int .i64 0) :: (.int .i64 0) :: (.bool false) :: (.int .i64 0) :: (.int .u64 0) :: (.bool false) :: (.bool false) :: (.string ⟨#[]⟩) :: (.string ⟨#[]⟩) :: (.int .i64 0) :: (.int .i64 0) :: (.int .i64 0) :: (.int .i64 0) :: (.bool false) :: (.int .i64 0) :: (.int .u64 0) :: (.bool false) :: (.bool false) :: (.string ⟨#[]⟩) :: (.string ⟨#[]⟩) :: (.int .i64 0) :: (.int .i64 0) :: (.int .i64 0) :: (.int .i64 0) :: (.bool false) :: (.int .i64 0) :: (.int .u64 0) :: (.bool false) :: [])))) := by kernel_rfl
instance fj51_0 : FI prog 51 0 (0, 11) := ⟨by kernel_rfl⟩
theorem fi51_0 : zaL prog 51 0 = some (0, 11) := by kernel_rfl
instance fj51_1 : FI prog 51 1 (11, 11) := ⟨by kernel_rfl⟩
theorem fi51_1 : zaL prog 51 1 = some (11, 11) := by kernel_rfl
instance fj51_2 : FI prog 51 2 (22, 11) := ⟨by kernel_rfl⟩
theorem fi51_2 : zaL prog 51 2 = some (22, 11) := by kernel_rfl
instance pj51 : PL prog 51 [(0, 11), (11, 11), (22, 11)] := ⟨by kernel_rfl⟩
theorem pl51 : zdn prog 51 = some [(0, 11), (11, 11), (22, 11)] := by kernel_rfl
theorem sz53 : (prog.info? 53).map (·.size) = some 5 := by kernel_rfl
instance zj53 : ZR prog 53 (.agg #[(.bool false), (.int .i64 0), (.string ⟨#[]⟩), (.int .i64 0), (.int .i64 0)]) := ⟨by kernel_rfl⟩
theorem zr53 : (prog.info? 53).map (·.zero) = some (some (.agg #[(.bool false), (.int .i64 0), (.string ⟨#[]⟩), (.int .i64 0), (.int .i64 0)])) := by kernel_rfl
instance fj53_0 : FI prog 53 0 (0, 1) := ⟨by kernel_rfl⟩
instance fj53_1 : FI prog 53 1 (1, 1) := ⟨by kernel_rfl⟩
theorem fi53_1 : zaL prog 53 1 = some (1, 1) := by kernel_rfl
instance fj53_2 : FI prog 53 2 (2, 1) := ⟨by kernel_rfl⟩
instance fj53_3 : FI prog 53 3 (3, 1) := ⟨by kernel_rfl⟩
instance fj53_4 : FI prog 53 4 (4, 1) := ⟨by kernel_rfl⟩
instance pj53 : PL prog 53 [(0, 1), (1, 1), (2, 1), (3, 1), (4, 1)] := ⟨by kernel_rfl⟩
theorem pl53 : zdn prog 53 = some [(0, 1), (1, 1), (2, 1), (3, 1), (4, 1)] := by kernel_rfl
theorem sz54 : (prog.info? 54).map (·.size) = some 1 := by kernel_rfl
instance sj54 : SZ prog 54 1 := ⟨by kernel_rfl⟩
instance rw54 : RW prog 54 false := ⟨_, underlying54, rfl⟩
instance sl54 : SL prog 54 108 := ⟨underlying54⟩
theorem sz56 : (prog.info? 56).map (·.size) = some 41 := by kernel_rfl
instance sj56 : SZ prog 56 41 := ⟨by kernel_rfl⟩
instance rw56 : RW prog 56 true := ⟨_, underlying56, rfl⟩
instance su56 : SU prog 56 := ⟨_, underlying56⟩
instance zj56 : ZR prog 56 (.agg (List.toArray ((.string ⟨#[]⟩) :: (.string ⟨#[]⟩) :: (.bool false) :: (.string ⟨#[]⟩) :: (.string ⟨#[]⟩) :: (.int .i64 0) :: (.int .i64 0) :: (.int .i64 0) :: (.int .i64 0) :: (.bool false) :: (.int .i64 0) :: (.int .u64 0) :: (.bool false) :: (.bool false) :: (.string ⟨#[]⟩) :: (.string ⟨#[]⟩) :: (.int .i64 0) :: (.int .i64 0) :: (.int .i64 0) :: (.int .i64 0) :: (.bool false) :: (.int .i64 0) :: (.int .u64 0) :: (.bool false) :: (.bool false) :: (.string ⟨#[]⟩) :: (.string ⟨#[]⟩) :: (.int .i64 0) :: (.int .i64 0) :: (.int .i64 0) :: (.int .i64 0) :: (.bool false) :: (.int .i64 0) :: (.int .u64 0) :: (.bool false) :: (.bool false) :: (.int .i64 0) :: (.string ⟨#[]⟩) :: (.int .i64 0) :: (.int .i64 0) :: (.slice none 0 0) :: []))) := ⟨by kernel_rfl⟩
theorem zr56 : (prog.info? 56).map (·.zero) = some (some (.agg (List.toArray ((.string ⟨#[]⟩) :: (.string ⟨#[]⟩) :: (.bool false) :: (.string ⟨#[]⟩) :: (.string ⟨#[]⟩) :: (.int .i64 0) :: (.int .i64 0) :: (.int .i64 0) :: (.int .i64 0) :: (.bool false) :: (.int .i64 0) :: (.int .u64 0) :: (.bool false) :: (.bool false) :: (.string ⟨#[]⟩) :: (.string ⟨#[]⟩) :: (.int .i64 0) :: (.int .i64 0) :: (.int .i64 0) :: (.int .i64 0) :: (.bool false) :: (.int .i64 0) :: (.int .u64 0) :: (.bool false) :: (.bool false) :: (.string ⟨#[]⟩) :: (.string ⟨#[]⟩) :: (.int .i64 0) :: (.int .i64 0) :: (.int .i64 0) :: (.int .i64 0) :: (.bool false) :: (.int .i64 0) :: (.int .u64 0) :: (.bool false) :: (.bool false) :: (.int .i64 0) :: (.string ⟨#[]⟩) :: (.int .i64 0) :: (.int .i64 0) :: (.slice none 0 0) :: [])))) := by kernel_rfl
theorem zc56 : (prog.info? 56).map (fun i => i.zero.map Value.cells) = some (some (List.toArray ((.string ⟨#[]⟩) :: (.string ⟨#[]⟩) :: (.bool false) :: (.string ⟨#[]⟩) :: (.string ⟨#[]⟩) :: (.int .i64 0) :: (.int .i64 0) :: (.int .i64 0) :: (.int .i64 0) :: (.bool false) :: (.int .i64 0) :: (.int .u64 0) :: (.bool false) :: (.bool false) :: (.string ⟨#[]⟩) :: (.string ⟨#[]⟩) :: (.int .i64 0) :: (.int .i64 0) :: (.int .i64 0) :: (.int .i64 0) :: (.bool false) :: (.int .i64 0) :: (.int .u64 0) :: (.bool false) :: (.bool false) :: (.string ⟨#[]⟩) :: (.string ⟨#[]⟩) :: (.int .i64 0) :: (.int .i64 0) :: (.int .i64 0) :: (.int .i64 0) :: (.bool false) :: (.int .i64 0) :: (.int .u64 0) :: (.bool false) :: (.bool false) :: (.int .i64 0) :: (.string ⟨#[]⟩) :: (.int .i64 0) :: (.int .i64 0) :: (.slice none 0 0) :: []))) := by kernel_rfl
theorem eo56 : zcG prog 56 41 416 = true := by kernel_rfl
instance fj56_0 : FI prog 56 0 (0, 1) := ⟨by kernel_rfl⟩
theorem fi56_0 : zaL prog 56 0 = some (0, 1) := by kernel_rfl
instance fj56_1 : FI prog 56 1 (1, 1) := ⟨by kernel_rfl⟩
theorem fi56_1 : zaL prog 56 1 = some (1, 1) := by kernel_rfl
instance fj56_2 : FI prog 56 2 (2, 33) := ⟨by kernel_rfl⟩
theorem zg9 : zaL prog 56 2 = some (2, 33) := by kernel_rfl
instance fj56_3 : FI prog 56 3 (35, 5) := ⟨by kernel_rfl⟩
theorem fi56_3 : zaL prog 56 3 = some (35, 5) := by kernel_rfl
instance fj56_4 : FI prog 56 4 (40, 1) := ⟨by kernel_rfl⟩
theorem fi56_4 : zaL prog 56 4 = some (40, 1) := by kernel_rfl
theorem sz57 : (prog.info? 57).map (·.size) = some 1 := by kernel_rfl
theorem zr58 : (prog.info? 58).map (·.zero) = some (some (.agg #[(.pointer none), (.pointer none), (.pointer none)])) := by kernel_rfl
theorem sz62 : (prog.info? 62).map (·.size) = some 1 := by kernel_rfl
instance sj62 : SZ prog 62 1 := ⟨by kernel_rfl⟩
instance rw62 : RW prog 62 false := ⟨_, underlying62, rfl⟩
instance sl62 : SL prog 62 5 := ⟨underlying62⟩
theorem zc62 : (prog.info? 62).map (fun i => i.zero.map Value.cells) = some (some #[(.slice none 0 0)]) := by kernel_rfl
theorem sz64 : (prog.info? 64).map (·.size) = some 3 := by kernel_rfl
instance sj64 : SZ prog 64 3 := ⟨by kernel_rfl⟩
instance rw64 : RW prog 64 true := ⟨_, underlying64, rfl⟩
instance su64 : SU prog 64 := ⟨_, underlying64⟩
instance zj64 : ZR prog 64 (.agg #[(.string ⟨#[]⟩), (.string ⟨#[]⟩), (.slice none 0 0)]) := ⟨by kernel_rfl⟩
theorem zc64 : (prog.info? 64).map (fun i => i.zero.map Value.cells) = some (some #[(.string ⟨#[]⟩), (.string ⟨#[]⟩), (.slice none 0 0)]) := by kernel_rfl
theorem eo64 : zcG prog 64 3 56 = true := by kernel_rfl
instance fj64_0 : FI prog 64 0 (0, 1) := ⟨by kernel_rfl⟩
instance fj64_1 : FI prog 64 1 (1, 1) := ⟨by kernel_rfl⟩
instance fj64_2 : FI prog 64 2 (2, 1) := ⟨by kernel_rfl⟩
instance pj64 : PL prog 64 [(0, 1), (1, 1), (2, 1)] := ⟨by kernel_rfl⟩
theorem zr77 : (prog.info? 77).map (·.zero) = some (some (.agg #[(.int .i64 0), (.int .i64 0), (.int .i64 0)])) := by kernel_rfl
instance sj82 : SZ prog 82 1 := ⟨by kernel_rfl⟩
instance rw82 : RW prog 82 false := ⟨_, underlying82, rfl⟩
instance sl82 : SL prog 82 88 := ⟨underlying82⟩
theorem sz84 : (prog.info? 84).map (·.size) = some 5 := by kernel_rfl
instance sj84 : SZ prog 84 5 := ⟨by kernel_rfl⟩
instance rw84 : RW prog 84 true := ⟨_, underlying84, rfl⟩
instance su84 : SU prog 84 := ⟨_, underlying84⟩
instance zj84 : ZR prog 84 (.agg #[(.string ⟨#[]⟩), (.string ⟨#[]⟩), (.string ⟨#[]⟩), (.int .i64 0), (.slice none 0 0)]) := ⟨by kernel_rfl⟩
theorem zr84 : (prog.info? 84).map (·.zero) = some (some (.agg #[(.string ⟨#[]⟩), (.string ⟨#[]⟩), (.string ⟨#[]⟩), (.int .i64 0), (.slice none 0 0)])) := by kernel_rfl
theorem zc84 : (prog.info? 84).map (fun i => i.zero.map Value.cells) = some (some #[(.string ⟨#[]⟩), (.string ⟨#[]⟩), (.string ⟨#[]⟩), (.int .i64 0), (.slice none 0 0)]) := by kernel_rfl
theorem eo84 : zcG prog 84 5 80 = true := by kernel_rfl
instance fj84_0 : FI prog 84 0 (0, 1) := ⟨by kernel_rfl⟩
theorem zhR : zaL prog 84 0 = some (0, 1) := by kernel_rfl
instance fj84_1 : FI prog 84 1 (1, 1) := ⟨by kernel_rfl⟩
instance fj84_2 : FI prog 84 2 (2, 1) := ⟨by kernel_rfl⟩
instance fj84_3 : FI prog 84 3 (3, 1) := ⟨by kernel_rfl⟩
instance fj84_4 : FI prog 84 4 (4, 1) := ⟨by kernel_rfl⟩
theorem sz86 : (prog.info? 86).map (·.size) = some 1 := by kernel_rfl
instance sj86 : SZ prog 86 1 := ⟨by kernel_rfl⟩
instance rw86 : RW prog 86 false := ⟨_, underlying86, rfl⟩
instance ik86 : IK prog 86 .u32 := ⟨underlying86⟩
theorem zr86 : (prog.info? 86).map (·.zero) = some (some (.int .u32 0)) := by kernel_rfl
theorem zc86 : (prog.info? 86).map (fun i => i.zero.map Value.cells) = some (some #[(.int .u32 0)]) := by kernel_rfl
theorem eo86 : zcG prog 86 1 4 = true := by kernel_rfl
theorem sz88 : (prog.info? 88).map (·.size) = some 2 := by kernel_rfl
instance sj88 : SZ prog 88 2 := ⟨by kernel_rfl⟩
instance rw88 : RW prog 88 true := ⟨_, underlying88, rfl⟩
instance su88 : SU prog 88 := ⟨_, underlying88⟩
instance zj88 : ZR prog 88 (.agg #[(.int .u32 0), (.int .i64 0)]) := ⟨by kernel_rfl⟩
theorem zc88 : (prog.info? 88).map (fun i => i.zero.map Value.cells) = some (some #[(.int .u32 0), (.int .i64 0)]) := by kernel_rfl
theorem eo88 : zcG prog 88 2 16 = true := by kernel_rfl
instance fj88_0 : FI prog 88 0 (0, 1) := ⟨by kernel_rfl⟩
instance fj88_1 : FI prog 88 1 (1, 1) := ⟨by kernel_rfl⟩
instance pj88 : PL prog 88 [(0, 1), (1, 1)] := ⟨by kernel_rfl⟩
theorem sz90 : (prog.info? 90).map (·.size) = some 4 := by kernel_rfl
instance sj90 : SZ prog 90 4 := ⟨by kernel_rfl⟩
instance rw90 : RW prog 90 true := ⟨_, underlying90, rfl⟩
instance su90 : SU prog 90 := ⟨_, underlying90⟩
instance zj90 : ZR prog 90 (.agg #[(.int .u32 0), (.int .i64 0), (.string ⟨#[]⟩), (.int .i64 0)]) := ⟨by kernel_rfl⟩
theorem zr90 : (prog.info? 90).map (·.zero) = some (some (.agg #[(.int .u32 0), (.int .i64 0), (.string ⟨#[]⟩), (.int .i64 0)])) := by kernel_rfl
theorem zc90 : (prog.info? 90).map (fun i => i.zero.map Value.cells) = some (some #[(.int .u32 0), (.int .i64 0), (.string ⟨#[]⟩), (.int .i64 0)]) := by kernel_rfl
theorem eo90 : zcG prog 90 4 40 = true := by kernel_rfl
instance fj90_0 : FI prog 90 0 (0, 2) := ⟨by kernel_rfl⟩
theorem fi90_0 : zaL prog 90 0 = some (0, 2) := by kernel_rfl
instance fj90_1 : FI prog 90 1 (2, 1) := ⟨by kernel_rfl⟩
theorem fi90_1 : zaL prog 90 1 = some (2, 1) := by kernel_rfl
instance fj90_2 : FI prog 90 2 (3, 1) := ⟨by kernel_rfl⟩
theorem fi90_2 : zaL prog 90 2 = some (3, 1) := by kernel_rfl
instance pj90 : PL prog 90 [(0, 2), (2, 1), (3, 1)] := ⟨by kernel_rfl⟩
theorem pl90 : zdn prog 90 = some [(0, 2), (2, 1), (3, 1)] := by kernel_rfl
theorem sz97 : (prog.info? 97).map (·.size) = some 5 := by kernel_rfl
instance sj97 : SZ prog 97 5 := ⟨by kernel_rfl⟩
instance rw97 : RW prog 97 true := ⟨_, underlying97, rfl⟩
instance su97 : SU prog 97 := ⟨_, underlying97⟩
instance zj97 : ZR prog 97 (.agg #[(.int .i64 0), (.int .i64 0), (.int .i64 0), (.int .i64 0), (.slice none 0 0)]) := ⟨by kernel_rfl⟩
instance fj97_0 : FI prog 97 0 (0, 1) := ⟨by kernel_rfl⟩
instance fj97_1 : FI prog 97 1 (1, 1) := ⟨by kernel_rfl⟩
instance fj97_2 : FI prog 97 2 (2, 1) := ⟨by kernel_rfl⟩
instance fj97_3 : FI prog 97 3 (3, 1) := ⟨by kernel_rfl⟩
instance fj97_4 : FI prog 97 4 (4, 1) := ⟨by kernel_rfl⟩
instance pj97 : PL prog 97 [(0, 1), (1, 1), (2, 1), (3, 1), (4, 1)] := ⟨by kernel_rfl⟩
theorem zd4 : (prog.info? 108).map (·.size) = some 3 := by kernel_rfl
instance sj108 : SZ prog 108 3 := ⟨by kernel_rfl⟩
instance rw108 : RW prog 108 true := ⟨_, underlying108, rfl⟩
instance su108 : SU prog 108 := ⟨_, underlying108⟩
instance zj108 : ZR prog 108 (.agg #[(.int .u32 0), (.int .u32 0), (.slice none 0 0)]) := ⟨by kernel_rfl⟩
theorem zr108 : (prog.info? 108).map (·.zero) = some (some (.agg #[(.int .u32 0), (.int .u32 0), (.slice none 0 0)])) := by kernel_rfl
theorem zc108 : (prog.info? 108).map (fun i => i.zero.map Value.cells) = some (some #[(.int .u32 0), (.int .u32 0), (.slice none 0 0)]) := by kernel_rfl
theorem eo108 : zcG prog 108 3 32 = true := by kernel_rfl
instance fj108_0 : FI prog 108 0 (0, 1) := ⟨by kernel_rfl⟩
instance fj108_1 : FI prog 108 1 (1, 1) := ⟨by kernel_rfl⟩
instance fj108_2 : FI prog 108 2 (2, 1) := ⟨by kernel_rfl⟩
theorem pl108 : zdn prog 108 = some [(0, 1), (1, 1), (2, 1)] := by kernel_rfl
instance rw115 : RW prog 115 false := ⟨_, underlying115, rfl⟩
instance sl115 : SL prog 115 3 := ⟨underlying115⟩
theorem sz117 : (prog.info? 117).map (·.size) = some 5 := by kernel_rfl
theorem zr117 : (prog.info? 117).map (·.zero) = some (some (.agg #[(.int .i64 0), (.int .i64 0), (.int .i64 0), (.int .i64 0), (.int .i64 0)])) := by kernel_rfl
theorem sz121 : (prog.info? 121).map (·.size) = some 5 := by kernel_rfl
instance sj121 : SZ prog 121 5 := ⟨by kernel_rfl⟩
instance rw121 : RW prog 121 true := ⟨_, underlying121, rfl⟩
instance su121 : SU prog 121 := ⟨_, underlying121⟩
instance zj121 : ZR prog 121 (.agg #[(.int .i64 0), (.string ⟨#[]⟩), (.int .i64 0), (.int .u32 0), (.int .i64 0)]) := ⟨by kernel_rfl⟩
theorem eo121 : zcG prog 121 5 48 = true := by kernel_rfl
instance fj121_0 : FI prog 121 0 (0, 1) := ⟨by kernel_rfl⟩
instance fj121_1 : FI prog 121 1 (1, 1) := ⟨by kernel_rfl⟩
instance fj121_2 : FI prog 121 2 (2, 1) := ⟨by kernel_rfl⟩
instance fj121_3 : FI prog 121 3 (3, 2) := ⟨by kernel_rfl⟩
theorem zr148 : (prog.info? 148).map (·.zero) = some (some (.agg (List.toArray ((.bool false) :: (.string ⟨#[]⟩) :: (.string ⟨#[]⟩) :: (.int .i64 0) :: (.int .i64 0) :: (.int .i64 0) :: (.int .i64 0) :: (.bool false) :: (.int .i64 0) :: (.int .u64 0) :: (.bool false) :: (.bool false) :: (.string ⟨#[]⟩) :: (.string ⟨#[]⟩) :: (.int .i64 0) :: (.int .i64 0) :: (.int .i64 0) :: (.int .i64 0) :: (.bool false) :: (.int .i64 0) :: (.int .u64 0) :: (.bool false) :: (.bool false) :: (.string ⟨#[]⟩) :: (.string ⟨#[]⟩) :: (.int .i64 0) :: (.int .i64 0) :: (.int .i64 0) :: (.int .i64 0) :: (.bool false) :: (.int .i64 0) :: (.int .u64 0) :: (.bool false) :: [])))) := by kernel_rfl
theorem zdi : (prog.info? 154).map (·.size) = some 1 := by kernel_rfl
instance sj154 : SZ prog 154 1 := ⟨by kernel_rfl⟩
theorem zr158 : (prog.info? 158).map (·.zero) = some (some (.agg #[(.string ⟨#[]⟩), (.string ⟨#[]⟩)])) := by kernel_rfl
instance rw162 : RW prog 162 false := ⟨_, underlying162, rfl⟩
instance ik162 : IK prog 162 .u64 := ⟨underlying162⟩
instance sj164 : SZ prog 164 5 := ⟨by kernel_rfl⟩
instance rw164 : RW prog 164 true := ⟨_, underlying164, rfl⟩
instance su164 : SU prog 164 := ⟨_, underlying164⟩
instance zj164 : ZR prog 164 (.agg #[(.int .i64 0), (.int .i64 0), (.bool false), (.bool false), (.bool false)]) := ⟨by kernel_rfl⟩
instance fj164_0 : FI prog 164 0 (0, 1) := ⟨by kernel_rfl⟩
instance fj164_1 : FI prog 164 1 (1, 1) := ⟨by kernel_rfl⟩
instance fj164_2 : FI prog 164 2 (2, 1) := ⟨by kernel_rfl⟩
instance fj164_3 : FI prog 164 3 (3, 1) := ⟨by kernel_rfl⟩
instance fj164_4 : FI prog 164 4 (4, 1) := ⟨by kernel_rfl⟩
instance pj164 : PL prog 164 [(0, 1), (1, 1), (2, 1), (3, 1), (4, 1)] := ⟨by kernel_rfl⟩
instance rw169 : RW prog 169 false := ⟨_, underlying169, rfl⟩
instance sl169 : SL prog 169 49 := ⟨underlying169⟩
instance rw170 : RW prog 170 false := ⟨_, underlying170, rfl⟩
instance sl170 : SL prog 170 9 := ⟨underlying170⟩
theorem sz175 : (prog.info? 175).map (·.size) = some 2 := by kernel_rfl
instance zj175 : ZR prog 175 (.agg #[(.string ⟨#[]⟩), (.int .i64 0)]) := ⟨by kernel_rfl⟩
theorem zr175 : (prog.info? 175).map (·.zero) = some (some (.agg #[(.string ⟨#[]⟩), (.int .i64 0)])) := by kernel_rfl
theorem zc175 : (prog.info? 175).map (fun i => i.zero.map Value.cells) = some (some #[(.string ⟨#[]⟩), (.int .i64 0)]) := by kernel_rfl
instance fj175_0 : FI prog 175 0 (0, 1) := ⟨by kernel_rfl⟩
instance fj175_1 : FI prog 175 1 (1, 1) := ⟨by kernel_rfl⟩
instance pj175 : PL prog 175 [(0, 1), (1, 1)] := ⟨by kernel_rfl⟩
instance rw176 : RW prog 176 false := ⟨_, underlying176, rfl⟩
instance sl176 : SL prog 176 175 := ⟨underlying176⟩
theorem sz181 : (prog.info? 181).map (·.size) = some 1 := by kernel_rfl
instance rw181 : RW prog 181 false := ⟨_, underlying181, rfl⟩
theorem sz183 : (prog.info? 183).map (·.size) = some 2 := by kernel_rfl
instance zj183 : ZR prog 183 (.agg #[(.pointer none), (.slice none 0 0)]) := ⟨by kernel_rfl⟩
instance fj183_0 : FI prog 183 0 (0, 1) := ⟨by kernel_rfl⟩
instance fj183_1 : FI prog 183 1 (1, 1) := ⟨by kernel_rfl⟩
theorem sz202 : (prog.info? 202).map (·.size) = some 2 := by kernel_rfl
theorem sz204 : (prog.info? 204).map (·.size) = some 5 := by kernel_rfl
instance sj204 : SZ prog 204 5 := ⟨by kernel_rfl⟩
instance zj204 : ZR prog 204 (.agg #[(.int .u32 0), (.int .i64 0), (.string ⟨#[]⟩), (.pointer none), (.pointer none)]) := ⟨by kernel_rfl⟩
instance fj204_0 : FI prog 204 0 (0, 2) := ⟨by kernel_rfl⟩
theorem zcq : zaL prog 204 0 = some (0, 2) := by kernel_rfl
instance fj204_1 : FI prog 204 1 (2, 1) := ⟨by kernel_rfl⟩
theorem fi204_1 : zaL prog 204 1 = some (2, 1) := by kernel_rfl
instance fj204_2 : FI prog 204 2 (3, 2) := ⟨by kernel_rfl⟩
theorem zdf : zaL prog 204 2 = some (3, 2) := by kernel_rfl
instance pj204 : PL prog 204 [(0, 2), (2, 1), (3, 2)] := ⟨by kernel_rfl⟩
theorem sz206 : (prog.info? 206).map (·.size) = some 8 := by kernel_rfl
instance sj206 : SZ prog 206 8 := ⟨by kernel_rfl⟩
instance rw206 : RW prog 206 true := ⟨_, underlying206, rfl⟩
instance zj206 : ZR prog 206 (.agg #[(.int .u32 0), (.int .u32 0), (.int .u32 0), (.int .u32 0), (.int .u32 0), (.int .u32 0), (.int .u32 0), (.int .u32 0)]) := ⟨by kernel_rfl⟩
theorem zr206 : (prog.info? 206).map (·.zero) = some (some (.agg #[(.int .u32 0), (.int .u32 0), (.int .u32 0), (.int .u32 0), (.int .u32 0), (.int .u32 0), (.int .u32 0), (.int .u32 0)])) := by kernel_rfl
instance rw213 : RW prog 213 false := ⟨_, underlying213, rfl⟩
instance sl213 : SL prog 213 86 := ⟨underlying213⟩
theorem sz228 : (prog.info? 228).map (·.size) = some 64 := by kernel_rfl
instance sj228 : SZ prog 228 64 := ⟨by kernel_rfl⟩
instance rw228 : RW prog 228 true := ⟨_, underlying228, rfl⟩
instance zj228 : ZR prog 228 (.agg (List.toArray ((.int .u32 0) :: (.int .u32 0) :: (.int .u32 0) :: (.int .u32 0) :: (.int .u32 0) :: (.int .u32 0) :: (.int .u32 0) :: (.int .u32 0) :: (.int .u32 0) :: (.int .u32 0) :: (.int .u32 0) :: (.int .u32 0) :: (.int .u32 0) :: (.int .u32 0) :: (.int .u32 0) :: (.int .u32 0) :: (.int .u32 0) :: (.int .u32 0) :: (.int .u32 0) :: (.int .u32 0) :: (.int .u32 0) :: (.int .u32 0) :: (.int .u32 0) :: (.int .u32 0) :: (.int .u32 0) :: (.int .u32 0) :: (.int .u32 0) :: (.int .u32 0) :: (.int .u32 0) :: (.int .u32 0) :: (.int .u32 0) :: (.int .u32 0) :: (.int .u32 0) :: (.int .u32 0) :: (.int .u32 0) :: (.int .u32 0) :: (.int .u32 0) :: (.int .u32 0) :: (.int .u32 0) :: (.int .u32 0) :: (.int .u32 0) :: (.int .u32 0) :: (.int .u32 0) :: (.int .u32 0) :: (.int .u32 0) :: (.int .u32 0) :: (.int .u32 0) :: (.int .u32 0) :: (.int .u32 0) :: (.int .u32 0) :: (.int .u32 0) :: (.int .u32 0) :: (.int .u32 0) :: (.int .u32 0) :: (.int .u32 0) :: (.int .u32 0) :: (.int .u32 0) :: (.int .u32 0) :: (.int .u32 0) :: (.int .u32 0) :: (.int .u32 0) :: (.int .u32 0) :: (.int .u32 0) :: (.int .u32 0) :: []))) := ⟨by kernel_rfl⟩
theorem zr228 : (prog.info? 228).map (·.zero) = some (some (.agg (List.toArray ((.int .u32 0) :: (.int .u32 0) :: (.int .u32 0) :: (.int .u32 0) :: (.int .u32 0) :: (.int .u32 0) :: (.int .u32 0) :: (.int .u32 0) :: (.int .u32 0) :: (.int .u32 0) :: (.int .u32 0) :: (.int .u32 0) :: (.int .u32 0) :: (.int .u32 0) :: (.int .u32 0) :: (.int .u32 0) :: (.int .u32 0) :: (.int .u32 0) :: (.int .u32 0) :: (.int .u32 0) :: (.int .u32 0) :: (.int .u32 0) :: (.int .u32 0) :: (.int .u32 0) :: (.int .u32 0) :: (.int .u32 0) :: (.int .u32 0) :: (.int .u32 0) :: (.int .u32 0) :: (.int .u32 0) :: (.int .u32 0) :: (.int .u32 0) :: (.int .u32 0) :: (.int .u32 0) :: (.int .u32 0) :: (.int .u32 0) :: (.int .u32 0) :: (.int .u32 0) :: (.int .u32 0) :: (.int .u32 0) :: (.int .u32 0) :: (.int .u32 0) :: (.int .u32 0) :: (.int .u32 0) :: (.int .u32 0) :: (.int .u32 0) :: (.int .u32 0) :: (.int .u32 0) :: (.int .u32 0) :: (.int .u32 0) :: (.int .u32 0) :: (.int .u32 0) :: (.int .u32 0) :: (.int .u32 0) :: (.int .u32 0) :: (.int .u32 0) :: (.int .u32 0) :: (.int .u32 0) :: (.int .u32 0) :: (.int .u32 0) :: (.int .u32 0) :: (.int .u32 0) :: (.int .u32 0) :: (.int .u32 0) :: [])))) := by kernel_rfl
instance fn3 : FU prog 3 f3 := ⟨func3⟩
instance fn4 : FU prog 4 f4 := ⟨func4⟩
instance fn5 : FU prog 5 f5 := ⟨func5⟩
instance fn6 : FU prog 6 f6 := ⟨func6⟩
instance fn7 : FU prog 7 f7 := ⟨func7⟩
instance fn8 : FU prog 8 f8 := ⟨func8⟩
instance fn9 : FU prog 9 f9 := ⟨func9⟩
instance fn10 : FU prog 10 f10 := ⟨func10⟩
instance fn11 : FU prog 11 f11 := ⟨func11⟩
instance fn12 : FU prog 12 f12 := ⟨func12⟩
instance fn13 : FU prog 13 f13 := ⟨func13⟩
instance fn14 : FU prog 14 f14 := ⟨func14⟩
instance fn15 : FU prog 15 f15 := ⟨func15⟩
instance fn16 : FU prog 16 f16 := ⟨func16⟩
instance fn17 : FU prog 17 f17 := ⟨func17⟩
instance fn18 : FU prog 18 f18 := ⟨func18⟩
instance fn19 : FU prog 19 f19 := ⟨func19⟩
instance fn20 : FU prog 20 f20 := ⟨func20⟩
instance fn21 : FU prog 21 f21 := ⟨func21⟩
instance fn23 : FU prog 23 f23 := ⟨func23⟩
instance fn24 : FU prog 24 f24 := ⟨func24⟩
instance fn25 : FU prog 25 f25 := ⟨func25⟩
instance fn27 : FU prog 27 f27 := ⟨func27⟩
instance fn28 : FU prog 28 f28 := ⟨func28⟩
instance fn29 : FU prog 29 f29 := ⟨func29⟩
instance fn30 : FU prog 30 f30 := ⟨func30⟩
instance fn31 : FU prog 31 f31 := ⟨func31⟩
instance fn32 : FU prog 32 f32 := ⟨func32⟩
instance fn33 : FU prog 33 f33 := ⟨func33⟩
instance fn34 : FU prog 34 f34 := ⟨func34⟩
instance fn35 : FU prog 35 f35 := ⟨func35⟩
instance fn36 : FU prog 36 f36 := ⟨func36⟩
instance fn37 : FU prog 37 f37 := ⟨func37⟩
instance fn38 : FU prog 38 f38 := ⟨func38⟩
instance fn39 : FU prog 39 f39 := ⟨func39⟩
instance fn41 : FU prog 41 f41 := ⟨func41⟩
instance fn42 : FU prog 42 f42 := ⟨func42⟩
instance fn43 : FU prog 43 f43 := ⟨func43⟩
instance fn44 : FU prog 44 f44 := ⟨func44⟩
instance fn45 : FU prog 45 f45 := ⟨func45⟩
instance fn46 : FU prog 46 f46 := ⟨func46⟩
instance fn47 : FU prog 47 f47 := ⟨func47⟩
instance fn48 : FU prog 48 f48 := ⟨func48⟩
instance fn49 : FU prog 49 f49 := ⟨func49⟩
instance fn50 : FU prog 50 f50 := ⟨func50⟩
instance fn51 : FU prog 51 f51 := ⟨func51⟩
instance fn52 : FU prog 52 f52 := ⟨func52⟩
instance fn53 : FU prog 53 f53 := ⟨func53⟩
instance fn54 : FU prog 54 f54 := ⟨func54⟩
instance fn55 : FU prog 55 f55 := ⟨func55⟩
instance fn56 : FU prog 56 f56 := ⟨func56⟩
instance fn57 : FU prog 57 f57 := ⟨func57⟩
instance fn58 : FU prog 58 f58 := ⟨func58⟩
instance fn59 : FU prog 59 f59 := ⟨func59⟩
instance fn60 : FU prog 60 f60 := ⟨func60⟩
instance fn61 : FU prog 61 f61 := ⟨func61⟩
instance fn62 : FU prog 62 f62 := ⟨func62⟩
instance fn63 : FU prog 63 f63 := ⟨func63⟩
instance fn64 : FU prog 64 f64 := ⟨func64⟩
instance fn65 : FU prog 65 f65 := ⟨func65⟩
instance fn66 : FU prog 66 f66 := ⟨func66⟩
instance fn67 : FU prog 67 f67 := ⟨func67⟩
instance fn68 : FU prog 68 f68 := ⟨func68⟩
instance fn69 : FU prog 69 f69 := ⟨func69⟩
instance fn70 : FU prog 70 f70 := ⟨func70⟩
instance fn71 : FU prog 71 f71 := ⟨func71⟩
instance fn72 : FU prog 72 f72 := ⟨func72⟩
instance fn73 : FU prog 73 f73 := ⟨func73⟩
instance fn74 : FU prog 74 f74 := ⟨func74⟩
instance fn75 : FU prog 75 f75 := ⟨func75⟩
instance fn76 : FU prog 76 f76 := ⟨func76⟩
instance fn77 : FU prog 77 f77 := ⟨func77⟩
instance fn78 : FU prog 78 f78 := ⟨func78⟩
instance fn79 : FU prog 79 f79 := ⟨func79⟩
instance fn80 : FU prog 80 f80 := ⟨func80⟩
instance fn81 : FU prog 81 f81 := ⟨func81⟩
instance fn82 : FU prog 82 f82 := ⟨func82⟩
instance fn83 : FU prog 83 f83 := ⟨func83⟩
instance fn84 : FU prog 84 f84 := ⟨func84⟩
instance fn85 : FU prog 85 f85 := ⟨func85⟩
instance fn86 : FU prog 86 f86 := ⟨func86⟩
instance fn87 : FU prog 87 f87 := ⟨func87⟩
instance fn88 : FU prog 88 f88 := ⟨func88⟩
instance fn89 : FU prog 89 f89 := ⟨func89⟩
instance fn90 : FU prog 90 f90 := ⟨func90⟩
instance fn91 : FU prog 91 f91 := ⟨func91⟩
instance fn93 : FU prog 93 f93 := ⟨func93⟩
instance fn94 : FU prog 94 f94 := ⟨func94⟩
instance fn95 : FU prog 95 f95 := ⟨func95⟩
instance fn96 : FU prog 96 f96 := ⟨func96⟩
instance fn97 : FU prog 97 f97 := ⟨func97⟩
instance fn98 : FU prog 98 f98 := ⟨func98⟩
instance fn99 : FU prog 99 f99 := ⟨func99⟩
instance fn100 : FU prog 100 f100 := ⟨func100⟩
instance fn101 : FU prog 101 f101 := ⟨func101⟩
instance fn102 : FU prog 102 f102 := ⟨func102⟩
instance fn103 : FU prog 103 f103 := ⟨func103⟩
instance fn104 : FU prog 104 f104 := ⟨func104⟩
instance fn105 : FU prog 105 f105 := ⟨func105⟩
instance fn107 : FU prog 107 f107 := ⟨func107⟩
instance fn109 : FU prog 109 f109 := ⟨func109⟩
instance fn110 : FU prog 110 f110 := ⟨func110⟩
instance fn111 : FU prog 111 f111 := ⟨func111⟩
instance fn112 : FU prog 112 f112 := ⟨func112⟩
instance fn114 : FU prog 114 f114 := ⟨func114⟩
instance fn115 : FU prog 115 f115 := ⟨func115⟩
instance fn116 : FU prog 116 f116 := ⟨func116⟩
instance fn117 : FU prog 117 f117 := ⟨func117⟩
instance fn118 : FU prog 118 f118 := ⟨func118⟩
instance fn119 : FU prog 119 f119 := ⟨func119⟩
instance fn120 : FU prog 120 f120 := ⟨func120⟩
instance fn121 : FU prog 121 f121 := ⟨func121⟩
instance fn122 : FU prog 122 f122 := ⟨func122⟩
instance fn128 : FU prog 128 f128 := ⟨func128⟩
instance fn129 : FU prog 129 f129 := ⟨func129⟩
instance fn130 : FU prog 130 f130 := ⟨func130⟩
instance fn131 : FU prog 131 f131 := ⟨func131⟩
instance fn136 : FU prog 136 f136 := ⟨func136⟩
instance fn137 : FU prog 137 f137 := ⟨func137⟩
instance fn138 : FU prog 138 f138 := ⟨func138⟩
instance fn139 : FU prog 139 f139 := ⟨func139⟩
instance fn140 : FU prog 140 f140 := ⟨func140⟩
instance fn141 : FU prog 141 f141 := ⟨func141⟩
instance fn143 : FU prog 143 f143 := ⟨func143⟩
instance fn144 : FU prog 144 f144 := ⟨func144⟩
instance fn145 : FU prog 145 f145 := ⟨func145⟩
instance fn146 : FU prog 146 f146 := ⟨func146⟩
instance fn147 : FU prog 147 f147 := ⟨func147⟩
instance fn148 : FU prog 148 f148 := ⟨func148⟩
instance fn149 : FU prog 149 f149 := ⟨func149⟩
instance fn152 : FU prog 152 f152 := ⟨func152⟩
instance fn153 : FU prog 153 f153 := ⟨func153⟩
instance fn154 : FU prog 154 f154 := ⟨func154⟩
instance fn159 : FU prog 159 f159 := ⟨func159⟩
instance fn161 : FU prog 161 f161 := ⟨func161⟩
instance fn162 : FU prog 162 f162 := ⟨func162⟩
instance fn163 : FU prog 163 f163 := ⟨func163⟩
instance fn166 : FU prog 166 f166 := ⟨func166⟩
instance fn170 : FU prog 170 f170 := ⟨func170⟩
instance fn172 : FU prog 172 f172 := ⟨func172⟩
instance fn173 : FU prog 173 f173 := ⟨func173⟩
instance fn174 : FU prog 174 f174 := ⟨func174⟩
instance fn177 : FU prog 177 f177 := ⟨func177⟩
instance fn182 : FU prog 182 f182 := ⟨func182⟩
theorem F74 : type_of% func74 := func74
theorem F172 : type_of% func172 := func172
theorem U3 : type_of% underlying3 := underlying3
theorem U4 : type_of% underlying4 := underlying4
theorem U5 : type_of% underlying5 := underlying5
theorem U9 : type_of% underlying9 := underlying9
theorem U22 : type_of% underlying22 := underlying22
theorem U25 : type_of% underlying25 := underlying25
theorem U26 : type_of% underlying26 := underlying26
theorem U27 : type_of% underlying27 := underlying27
theorem U32 : type_of% underlying32 := underlying32
theorem U49 : type_of% underlying49 := underlying49
theorem U51 : type_of% underlying51 := underlying51
theorem U53 : type_of% underlying53 := underlying53
theorem U54 : type_of% underlying54 := underlying54
theorem U56 : type_of% underlying56 := underlying56
theorem U62 : type_of% underlying62 := underlying62
theorem U64 : type_of% underlying64 := underlying64
theorem U82 : type_of% underlying82 := underlying82
theorem U84 : type_of% underlying84 := underlying84
theorem U86 : type_of% underlying86 := underlying86
theorem U88 : type_of% underlying88 := underlying88
theorem U90 : type_of% underlying90 := underlying90
theorem U108 : type_of% underlying108 := underlying108
theorem U115 : type_of% underlying115 := underlying115
theorem U154 : type_of% underlying154 := underlying154
theorem U170 : type_of% underlying170 := underlying170
theorem U202 : type_of% underlying202 := underlying202
theorem U206 : type_of% underlying206 := underlying206
theorem U213 : type_of% underlying213 := underlying213
theorem U228 : type_of% underlying228 := underlying228
end Go.Proofs.YtbjdjclkbjpebaaGreatDoor
