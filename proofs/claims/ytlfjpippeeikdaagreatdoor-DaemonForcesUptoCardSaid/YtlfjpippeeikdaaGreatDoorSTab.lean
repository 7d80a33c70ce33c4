/- Facts on the types of the program: sizes, zero values, fields. -/
import Derived.Test.YtlfjpippeeikdaaGreatDoorProg
import Derived.Test.YtlfjpippeeikdaaGreatDoorSMa2
set_option linter.all false
namespace Go.Proofs.YtlfjpippeeikdaaGreatDoor
open Tryz
theorem sz3 : (prog.info? 3).map (·.size) = some 1 := qm
instance sj3 : SZ prog 3 1 := ⟨qm⟩
instance rw3 : RW prog 3 false := ⟨_, underlying3, rfl⟩
instance ik3 : IK prog 3 .i64 := ⟨underlying3⟩
theorem zc3 : (prog.info? 3).map (fun i => i.zero.map Value.cells) = some (some #[(.int .i64 0)]) := qm
theorem eo3 : zcG prog 3 1 8 = true := qm
instance rw4 : RW prog 4 false := ⟨_, underlying4, rfl⟩
instance bl4 : BL prog 4 := ⟨underlying4⟩
theorem zr4 : (prog.info? 4).map (·.zero) = some (some (.bool false)) := qm
theorem sz5 : (prog.info? 5).map (·.size) = some 1 := qm
instance sj5 : SZ prog 5 1 := ⟨qm⟩
instance rw5 : RW prog 5 false := ⟨_, underlying5, rfl⟩
instance ik5 : IK prog 5 .u8 := ⟨underlying5⟩
theorem zc5 : (prog.info? 5).map (fun i => i.zero.map Value.cells) = some (some #[(.int .u8 0)]) := qm
theorem eo5 : zcG prog 5 1 1 = true := qm
theorem sz9 : (prog.info? 9).map (·.size) = some 1 := qm
instance sj9 : SZ prog 9 1 := ⟨qm⟩
instance rw9 : RW prog 9 false := ⟨_, underlying9, rfl⟩
instance st9 : SR prog 9 := ⟨underlying9⟩
theorem zc9 : (prog.info? 9).map (fun i => i.zero.map Value.cells) = some (some #[(.string ⟨#[]⟩)]) := qm
theorem sz22 : (prog.info? 22).map (·.size) = some 1 := qm
instance sj22 : SZ prog 22 1 := ⟨qm⟩
instance rw22 : RW prog 22 false := ⟨_, underlying22, rfl⟩
instance sl22 : SL prog 22 48 := ⟨underlying22⟩
theorem sz24 : (prog.info? 24).map (·.size) = some 3 := qm
instance sj24 : SZ prog 24 3 := ⟨qm⟩
instance rw24 : RW prog 24 true := ⟨_, underlying24, rfl⟩
instance su24 : SU prog 24 := ⟨_, underlying24⟩
instance zj24 : ZR prog 24 (.agg #[(.string ⟨#[]⟩), (.int .i64 0), (.slice none 0 0)]) := ⟨qm⟩
theorem zr24 : (prog.info? 24).map (·.zero) = some (some (.agg #[(.string ⟨#[]⟩), (.int .i64 0), (.slice none 0 0)])) := qm
instance fj24_0 : FI prog 24 0 (0, 1) := ⟨qm⟩
instance fj24_1 : FI prog 24 1 (1, 1) := ⟨qm⟩
instance fj24_2 : FI prog 24 2 (2, 1) := ⟨qm⟩
instance pj24 : PL prog 24 [(0, 1), (1, 1), (2, 1)] := ⟨qm⟩
theorem sz25 : (prog.info? 25).map (·.size) = some 1 := qm
instance rw25 : RW prog 25 false := ⟨_, underlying25, rfl⟩
instance sl25 : SL prog 25 84 := ⟨underlying25⟩
theorem sz26 : (prog.info? 26).map (·.size) = some 1 := qm
instance rw26 : RW prog 26 false := ⟨_, underlying26, rfl⟩
instance sl26 : SL prog 26 60 := ⟨underlying26⟩
instance sj27 : SZ prog 27 1 := ⟨qm⟩
instance rw27 : RW prog 27 false := ⟨_, underlying27, rfl⟩
instance sl27 : SL prog 27 107 := ⟨underlying27⟩
theorem sz28 : (prog.info? 28).map (·.size) = some 1 := qm
instance sj28 : SZ prog 28 1 := ⟨qm⟩
instance rw28 : RW prog 28 false := ⟨_, underlying28, rfl⟩
instance ik28 : IK prog 28 .i64 := ⟨underlying28⟩
theorem sz30 : (prog.info? 30).map (·.size) = some 7 := qm
instance sj30 : SZ prog 30 7 := ⟨qm⟩
instance rw30 : RW prog 30 true := ⟨_, underlying30, rfl⟩
instance su30 : SU prog 30 := ⟨_, underlying30⟩
instance zj30 : ZR prog 30 (.agg #[(.bool false), (.slice none 0 0), (.string ⟨#[]⟩), (.int .i64 0), (.slice none 0 0), (.string ⟨#[]⟩), (.int .i64 0)]) := ⟨qm⟩
theorem zr30 : (prog.info? 30).map (·.zero) = some (some (.agg #[(.bool false), (.slice none 0 0), (.string ⟨#[]⟩), (.int .i64 0), (.slice none 0 0), (.string ⟨#[]⟩), (.int .i64 0)])) := qm
instance fj30_0 : FI prog 30 0 (0, 1) := ⟨qm⟩
theorem fi30_0 : zaC prog 30 0 = some (0, 1) := qm
instance fj30_1 : FI prog 30 1 (1, 1) := ⟨qm⟩
theorem fi30_1 : zaC prog 30 1 = some (1, 1) := qm
instance fj30_2 : FI prog 30 2 (2, 3) := ⟨qm⟩
theorem fi30_2 : zaC prog 30 2 = some (2, 3) := qm
instance fj30_3 : FI prog 30 3 (5, 1) := ⟨qm⟩
theorem fi30_3 : zaC prog 30 3 = some (5, 1) := qm
instance fj30_4 : FI prog 30 4 (6, 1) := ⟨qm⟩
theorem fi30_4 : zaC prog 30 4 = some (6, 1) := qm
instance pj30 : PL prog 30 [(0, 1), (1, 1), (2, 3), (5, 1), (6, 1)] := ⟨qm⟩
theorem pl30 : zdj prog 30 = some [(0, 1), (1, 1), (2, 3), (5, 1), (6, 1)] := qm
theorem sz32 : (prog.info? 32).map (·.size) = some 15 := qm
instance sj32 : SZ prog 32 15 := ⟨qm⟩
instance rw32 : RW prog 32 true := ⟨_, underlying32, rfl⟩
instance su32 : SU prog 32 := ⟨_, underlying32⟩
instance zj32 : ZR prog 32 (.agg (List.toArray ((.string ⟨#[]⟩) :: (.int .i64 0) :: (.slice none 0 0) :: (.slice none 0 0) :: (.slice none 0 0) :: (.bool false) :: (.slice none 0 0) :: (.string ⟨#[]⟩) :: (.int .i64 0) :: (.slice none 0 0) :: (.string ⟨#[]⟩) :: (.int .i64 0) :: (.int .i64 0) :: (.int .i64 0) :: (.int .i64 0) :: []))) := ⟨qm⟩
instance fj32_0 : FI prog 32 0 (0, 3) := ⟨qm⟩
theorem fi32_0 : zaC prog 32 0 = some (0, 3) := qm
instance fj32_1 : FI prog 32 1 (3, 1) := ⟨qm⟩
theorem fi32_1 : zaC prog 32 1 = some (3, 1) := qm
instance fj32_2 : FI prog 32 2 (4, 1) := ⟨qm⟩
theorem zhq : zaC prog 32 2 = some (4, 1) := qm
instance fj32_3 : FI prog 32 3 (5, 7) := ⟨qm⟩
theorem fi32_3 : zaC prog 32 3 = some (5, 7) := qm
instance fj32_4 : FI prog 32 4 (12, 1) := ⟨qm⟩
instance fj32_5 : FI prog 32 5 (13, 1) := ⟨qm⟩
instance fj32_6 : FI prog 32 6 (14, 1) := ⟨qm⟩
instance pj32 : PL prog 32 [(0, 3), (3, 1), (4, 1), (5, 7), (12, 1), (13, 1), (14, 1)] := ⟨qm⟩
theorem sz46 : (prog.info? 46).map (·.size) = some 1 := qm
instance sj46 : SZ prog 46 1 := ⟨qm⟩
instance rw46 : RW prog 46 false := ⟨_, underlying46, rfl⟩
instance sl46 : SL prog 46 82 := ⟨underlying46⟩
theorem sz48 : (prog.info? 48).map (·.size) = some 5 := qm
instance sj48 : SZ prog 48 5 := ⟨qm⟩
instance rw48 : RW prog 48 true := ⟨_, underlying48, rfl⟩
instance su48 : SU prog 48 := ⟨_, underlying48⟩
instance zj48 : ZR prog 48 (.agg #[(.string ⟨#[]⟩), (.string ⟨#[]⟩), (.string ⟨#[]⟩), (.int .i64 0), (.slice none 0 0)]) := ⟨qm⟩
theorem zr48 : (prog.info? 48).map (·.zero) = some (some (.agg #[(.string ⟨#[]⟩), (.string ⟨#[]⟩), (.string ⟨#[]⟩), (.int .i64 0), (.slice none 0 0)])) := qm
theorem zc48 : (prog.info? 48).map (fun i => i.zero.map Value.cells) = some (some #[(.string ⟨#[]⟩), (.string ⟨#[]⟩), (.string ⟨#[]⟩), (.int .i64 0), (.slice none 0 0)]) := qm
theorem eo48 : zcG prog 48 5 80 = true := qm
instance fj48_0 : FI prog 48 0 (0, 1) := ⟨qm⟩
theorem zgq : zaC prog 48 0 = some (0, 1) := qm
instance fj48_1 : FI prog 48 1 (1, 1) := ⟨qm⟩
instance fj48_2 : FI prog 48 2 (2, 1) := ⟨qm⟩
instance fj48_3 : FI prog 48 3 (3, 1) := ⟨qm⟩
instance fj48_4 : FI prog 48 4 (4, 1) := ⟨qm⟩
theorem zcF : zaC prog 48 4 = some (4, 1) := qm
instance pj48 : PL prog 48 [(0, 1), (1, 1), (2, 1), (3, 1), (4, 1)] := ⟨qm⟩
instance sj51 : SZ prog 51 3 := ⟨qm⟩
instance rw51 : RW prog 51 true := ⟨_, underlying51, rfl⟩
instance su51 : SU prog 51 := ⟨_, underlying51⟩
theorem sz53 : (prog.info? 53).map (·.size) = some 11 := qm
instance sj53 : SZ prog 53 11 := ⟨qm⟩
instance rw53 : RW prog 53 true := ⟨_, underlying53, rfl⟩
instance su53 : SU prog 53 := ⟨_, underlying53⟩
instance zj53 : ZR prog 53 (.agg #[(.bool false), (.string ⟨#[]⟩), (.string ⟨#[]⟩), (.int .i64 0), (.int .i64 0), (.int .i64 0), (.int .i64 0), (.bool false), (.int .i64 0), (.int .u64 0), (.bool false)]) := ⟨qm⟩
theorem zr53 : (prog.info? 53).map (·.zero) = some (some (.agg #[(.bool false), (.string ⟨#[]⟩), (.string ⟨#[]⟩), (.int .i64 0), (.int .i64 0), (.int .i64 0), (.int .i64 0), (.bool false), (.int .i64 0), (.int .u64 0), (.bool false)])) := qm
theorem zc53 : (prog.info? 53).map (fun i => i.zero.map Value.cells) = some (some #[(.bool false), (.string ⟨#[]⟩), (.string ⟨#[]⟩), (.int .i64 0), (.int .i64 0), (.int .i64 0), (.int .i64 0), (.bool false), (.int .i64 0), (.int .u64 0), (.bool false)]) := qm
instance fj53_0 : FI prog 53 0 (0, 1) := ⟨qm⟩
instance fj53_1 : FI prog 53 1 (1, 1) := ⟨qm⟩
instance fj53_2 : FI prog 53 2 (2, 1) := ⟨qm⟩
instance fj53_3 : FI prog 53 3 (3, 1) := ⟨qm⟩
theorem zhW : zaC prog 53 3 = some (3, 1) := qm
instance fj53_4 : FI prog 53 4 (4, 1) := ⟨qm⟩
instance fj53_5 : FI prog 53 5 (5, 1) := ⟨qm⟩
instance fj53_6 : FI prog 53 6 (6, 1) := ⟨qm⟩
instance fj53_7 : FI prog 53 7 (7, 3) := ⟨qm⟩
instance pj53 : PL prog 53 [(0, 1), (1, 1), (2, 1), (3, 1), (4, 1), (5, 1), (6, 1), (7, 3), (10, 1)] := ⟨qm⟩
theorem sz55 : (prog.info? 55).map (·.size) = some 33 := qm
theorem zr55 : (prog.info? 55).map (·.zero) = some (some (.agg (List.toArray ((.bool false) :: (.string ⟨#[]⟩) :: (.string ⟨#[]⟩) :: (.int .i64 0) :: (.int .i64 0) :: (.int .i64 0) :: (.int .i64 0) :: (.bool false) :: (.int .i64 0) :: (.int .u64 0) :: (.bool false) :: (.bool false) :: (.string ⟨#[]⟩) :: (.string ⟨#[]⟩) :: (.int .i64 0) :: (.int .i64 0) :: (.int .i64 0) :: (.int .i64 0) :: (.bool false) :: (.int .i64 0) :: (.int .u64 0) :: (.bool false) :: (.bool false) :: (.string ⟨#[]⟩) :: (.string ⟨#[]⟩) :: (.int .i64 0) :: (.int .i64 0) :: (.int .i64 0) :: (.int .i64 0) :: (.bool false) :: (.int .i64 0) :: (.int .u64 0) :: (.bool false) :: [])))) := qm
instance fj55_0 : FI prog 55 0 (0, 11) := ⟨qm⟩
theorem fi55_0 : zaC prog 55 0 = some (0, 11) := qm
instance fj55_1 : FI prog 55 1 (11, 11) := ⟨qm⟩
theorem fi55_1 : zaC prog 55 1 = some (11, 11) := qm
instance fj55_2 : FI prog 55 2 (22, 11) := ⟨qm⟩
theorem fi55_2 : zaC prog 55 2 = some (22, 11) := qm
theorem pl55 : zdj prog 55 = some [(0, 11), (11, 11), (22, 11)] := qm
theorem sz57 : (prog.info? 57).map (·.size) = some 5 := qm
theorem zr57 : (prog.info? 57).map (·.zero) = some (some (.agg #[(.bool false), (.int .i64 0), (.string ⟨#[]⟩), (.int .i64 0), (.int .i64 0)])) := qm
instance fj57_0 : FI prog 57 0 (0, 1) := ⟨qm⟩
instance fj57_1 : FI prog 57 1 (1, 1) := ⟨qm⟩
theorem fi57_1 : zaC prog 57 1 = some (1, 1) := qm
instance fj57_2 : FI prog 57 2 (2, 1) := ⟨qm⟩
instance fj57_3 : FI prog 57 3 (3, 1) := ⟨qm⟩
instance fj57_4 : FI prog 57 4 (4, 1) := ⟨qm⟩
theorem pl57 : zdj prog 57 = some [(0, 1), (1, 1), (2, 1), (3, 1), (4, 1)] := qm
theorem sz58 : (prog.info? 58).map (·.size) = some 1 := qm
instance sj58 : SZ prog 58 1 := ⟨qm⟩
instance rw58 : RW prog 58 false := ⟨_, underlying58, rfl⟩
instance sl58 : SL prog 58 93 := ⟨underlying58⟩
theorem sz60 : (prog.info? 60).map (·.size) = some 41 := qm
instance sj60 : SZ prog 60 41 := ⟨qm⟩
instance rw60 : RW prog 60 true := ⟨_, underlying60, rfl⟩
instance su60 : SU prog 60 := ⟨_, underlying60⟩
instance zj60 : ZR prog 60 (.agg (List.toArray ((.string ⟨#[]⟩) :: (.string ⟨#[]⟩) :: (.bool false) :: (.string ⟨#[]⟩) :: (.string ⟨#[]⟩) :: (.int .i64 0) :: (.int .i64 0) :: (.int .i64 0) :: (.int .i64 0) :: (.bool false) :: (.int .i64 0) :: (.int .u64 0) :: (.bool false) :: (.bool false) :: (.string ⟨#[]⟩) :: (.string ⟨#[]⟩) :: (.int .i64 0) :: (.int .i64 0) :: (.int .i64 0) :: (.int .i64 0) :: (.bool false) :: (.int .i64 0) :: (.int .u64 0) :: (.bool false) :: (.bool false) :: (.string ⟨#[]⟩) :: (.string ⟨#[]⟩) :: (.int .i64 0) :: (.int .i64 0) :: (.int .i64 0) :: (.int .i64 0) :: (.bool false) :: (.int .i64 0) :: (.int .u64 0) :: (.bool false) :: (.bool false) :: (.int .i64 0) :: (.string ⟨#[]⟩) :: (.int .i64 0) :: (.int .i64 0) :: (.slice none 0 0) :: []))) := ⟨qm⟩
theorem zr60 : (prog.info? 60).map (·.zero) = some (some (.agg (List.toArray ((.string ⟨#[]⟩) :: (.string ⟨#[]⟩) :: (.bool false) :: (.string ⟨#[]⟩) :: (.string ⟨#[]⟩) :: (.int .i64 0) :: (.int .i64 0) :: (.int .i64 0) :: (.int .i64 0) :: (.bool false) :: (.int .i64 0) :: (.int .u64 0) :: (.bool false) :: (.bool false) :: (.string ⟨#[]⟩) :: (.string ⟨#[]⟩) :: (.int .i64 0) :: (.int .i64 0) :: (.int .i64 0) :: (.int .i64 0) :: (.bool false) :: (.int .i64 0) :: (.int .u64 0) :: (.bool false) :: (.bool false) :: (.string ⟨#[]⟩) :: (.string ⟨#[]⟩) :: (.int .i64 0) :: (.int .i64 0) :: (.int .i64 0) :: (.int .i64 0) :: (.bool false) :: (.int .i64 0) :: (.int .u64 0) :: (.bool false) :: (.bool false) :: (.int .i64 0) :: (.string ⟨#[]⟩) :: (.int .i64 0) :: (.int .i64 0) :: (.slice none 0 0) :: [])))) := qm
theorem zc60 : (prog.info? 60).map (fun i => i.zero.map Value.cells) = some (some (List.toArray ((.string ⟨#[]⟩) :: (.string ⟨#[]⟩) :: (.bool false) :: (.string ⟨#[]⟩) :: (.string ⟨#[]⟩) :: (.int .i64 0) :: (.int .i64 0) :: (.int .i64 0) :: (.int .i64 0) :: (.bool false) :: (.int .i64 0) :: (.int .u64 0) :: (.bool false) :: (.bool false) :: (.string ⟨#[]⟩) :: (.string ⟨#[]⟩) :: (.int .i64 0) :: (.int .i64 0) :: (.int .i64 0) :: (.int .i64 0) :: (.bool false) :: (.int .i64 0) :: (.int .u64 0) :: (.bool false) :: (.bool false) :: (.string ⟨#[]⟩) :: (.string ⟨#[]⟩) :: (.int .i64 0) :: (.int .i64 0) :: (.int .i64 0) :: (.int .i64 0) :: (.bool false) :: (.int .i64 0) :: (.int .u64 0) :: (.bool false) :: (.bool false) :: (.int .i64 0) :: (.string ⟨#[]⟩) :: (.int .i64 0) :: (.int .i64 0) :: (.slice none 0 0) :: []))) := qm
theorem eo60 : zcG prog 60 41 416 = true := qm
instance fj60_0 : FI prog 60 0 (0, 1) := ⟨qm⟩
theorem fi60_0 : zaC prog 60 0 = some (0, 1) := qm
instance fj60_1 : FI prog 60 1 (1, 1) := ⟨qm⟩
theorem zcE : zaC prog 60 1 = some (1, 1) := qm
instance fj60_2 : FI prog 60 2 (2, 33) := ⟨qm⟩
theorem zer : zaC prog 60 2 = some (2, 33) := qm
instance fj60_3 : FI prog 60 3 (35, 5) := ⟨qm⟩
theorem zhp : zaC prog 60 3 = some (35, 5) := qm
instance fj60_4 : FI prog 60 4 (40, 1) := ⟨qm⟩
theorem fi60_4 : zaC prog 60 4 = some (40, 1) := qm
instance pj60 : PL prog 60 [(0, 1), (1, 1), (2, 33), (35, 5), (40, 1)] := ⟨qm⟩
theorem zr76 : (prog.info? 76).map (·.zero) = some (some (.agg #[(.int .i64 0), (.int .i64 0), (.int .i64 0)])) := qm
instance sj80 : SZ prog 80 1 := ⟨qm⟩
instance rw80 : RW prog 80 false := ⟨_, underlying80, rfl⟩
instance ik80 : IK prog 80 .u32 := ⟨underlying80⟩
theorem sz82 : (prog.info? 82).map (·.size) = some 2 := qm
instance sj82 : SZ prog 82 2 := ⟨qm⟩
instance rw82 : RW prog 82 true := ⟨_, underlying82, rfl⟩
instance su82 : SU prog 82 := ⟨_, underlying82⟩
instance zj82 : ZR prog 82 (.agg #[(.int .u32 0), (.int .i64 0)]) := ⟨qm⟩
theorem zr82 : (prog.info? 82).map (·.zero) = some (some (.agg #[(.int .u32 0), (.int .i64 0)])) := qm
theorem zc82 : (prog.info? 82).map (fun i => i.zero.map Value.cells) = some (some #[(.int .u32 0), (.int .i64 0)]) := qm
theorem eo82 : zcG prog 82 2 16 = true := qm
instance fj82_0 : FI prog 82 0 (0, 1) := ⟨qm⟩
instance fj82_1 : FI prog 82 1 (1, 1) := ⟨qm⟩
instance pj82 : PL prog 82 [(0, 1), (1, 1)] := ⟨qm⟩
theorem sz84 : (prog.info? 84).map (·.size) = some 4 := qm
instance sj84 : SZ prog 84 4 := ⟨qm⟩
instance rw84 : RW prog 84 true := ⟨_, underlying84, rfl⟩
instance su84 : SU prog 84 := ⟨_, underlying84⟩
instance zj84 : ZR prog 84 (.agg #[(.int .u32 0), (.int .i64 0), (.string ⟨#[]⟩), (.int .i64 0)]) := ⟨qm⟩
theorem zr84 : (prog.info? 84).map (·.zero) = some (some (.agg #[(.int .u32 0), (.int .i64 0), (.string ⟨#[]⟩), (.int .i64 0)])) := qm
theorem zc84 : (prog.info? 84).map (fun i => i.zero.map Value.cells) = some (some #[(.int .u32 0), (.int .i64 0), (.string ⟨#[]⟩), (.int .i64 0)]) := qm
theorem eo84 : zcG prog 84 4 40 = true := qm
instance fj84_0 : FI prog 84 0 (0, 2) := ⟨qm⟩
theorem fi84_0 : zaC prog 84 0 = some (0, 2) := qm
instance fj84_1 : FI prog 84 1 (2, 1) := ⟨qm⟩
theorem fi84_1 : zaC prog 84 1 = some (2, 1) := qm
instance fj84_2 : FI prog 84 2 (3, 1) := ⟨qm⟩
theorem fi84_2 : zaC prog 84 2 = some (3, 1) := qm
instance pj84 : PL prog 84 [(0, 2), (2, 1), (3, 1)] := ⟨qm⟩
theorem pl84 : zdj prog 84 = some [(0, 2), (2, 1), (3, 1)] := qm
instance sj91 : SZ prog 91 1 := ⟨qm⟩
instance rw91 : RW prog 91 false := ⟨_, underlying91, rfl⟩
instance sl91 : SL prog 91 5 := ⟨underlying91⟩
theorem sz93 : (prog.info? 93).map (·.size) = some 3 := qm
instance sj93 : SZ prog 93 3 := ⟨qm⟩
instance rw93 : RW prog 93 true := ⟨_, underlying93, rfl⟩
instance su93 : SU prog 93 := ⟨_, underlying93⟩
instance zj93 : ZR prog 93 (.agg #[(.int .u32 0), (.int .u32 0), (.slice none 0 0)]) := ⟨qm⟩
theorem zr93 : (prog.info? 93).map (·.zero) = some (some (.agg #[(.int .u32 0), (.int .u32 0), (.slice none 0 0)])) := qm
theorem zc93 : (prog.info? 93).map (fun i => i.zero.map Value.cells) = some (some #[(.int .u32 0), (.int .u32 0), (.slice none 0 0)]) := qm
theorem eo93 : zcG prog 93 3 32 = true := qm
instance fj93_0 : FI prog 93 0 (0, 1) := ⟨qm⟩
instance fj93_1 : FI prog 93 1 (1, 1) := ⟨qm⟩
instance fj93_2 : FI prog 93 2 (2, 1) := ⟨qm⟩
theorem pl93 : zdj prog 93 = some [(0, 1), (1, 1), (2, 1)] := qm
theorem zfM : (prog.info? 107).map (·.size) = some 5 := qm
instance sj107 : SZ prog 107 5 := ⟨qm⟩
instance rw107 : RW prog 107 true := ⟨_, underlying107, rfl⟩
instance su107 : SU prog 107 := ⟨_, underlying107⟩
instance zj107 : ZR prog 107 (.agg #[(.int .i64 0), (.string ⟨#[]⟩), (.int .i64 0), (.int .u32 0), (.int .i64 0)]) := ⟨qm⟩
theorem eo107 : zcG prog 107 5 48 = true := qm
instance fj107_0 : FI prog 107 0 (0, 1) := ⟨qm⟩
instance fj107_1 : FI prog 107 1 (1, 1) := ⟨qm⟩
instance fj107_2 : FI prog 107 2 (2, 1) := ⟨qm⟩
instance fj107_3 : FI prog 107 3 (3, 2) := ⟨qm⟩
theorem fi107_3 : zaC prog 107 3 = some (3, 2) := qm
instance rw112 : RW prog 112 false := ⟨_, underlying112, rfl⟩
instance sl112 : SL prog 112 3 := ⟨underlying112⟩
theorem sz114 : (prog.info? 114).map (·.size) = some 5 := qm
theorem zr114 : (prog.info? 114).map (·.zero) = some (some (.agg #[(.int .i64 0), (.int .i64 0), (.int .i64 0), (.int .i64 0), (.int .i64 0)])) := qm
theorem zdf : (prog.info? 121).map (·.size) = some 1 := qm
instance sj121 : SZ prog 121 1 := ⟨qm⟩
theorem zr154 : (prog.info? 154).map (·.zero) = some (some (.agg (List.toArray ((.bool false) :: (.string ⟨#[]⟩) :: (.string ⟨#[]⟩) :: (.int .i64 0) :: (.int .i64 0) :: (.int .i64 0) :: (.int .i64 0) :: (.bool false) :: (.int .i64 0) :: (.int .u64 0) :: (.bool false) :: (.bool false) :: (.string ⟨#[]⟩) :: (.string ⟨#[]⟩) :: (.int .i64 0) :: (.int .i64 0) :: (.int .i64 0) :: (.int .i64 0) :: (.bool false) :: (.int .i64 0) :: (.int .u64 0) :: (.bool false) :: (.bool false) :: (.string ⟨#[]⟩) :: (.string ⟨#[]⟩) :: (.int .i64 0) :: (.int .i64 0) :: (.int .i64 0) :: (.int .i64 0) :: (.bool false) :: (.int .i64 0) :: (.int .u64 0) :: (.bool false) :: [])))) := qm
theorem sz162 : (prog.info? 162).map (·.size) = some 2 := qm
theorem sz164 : (prog.info? 164).map (·.size) = some 5 := qm
instance sj164 : SZ prog 164 5 := ⟨qm⟩
instance zj164 : ZR prog 164 (.agg #[(.int .u32 0), (.int .i64 0), (.string ⟨#[]⟩), (.pointer none), (.pointer none)]) := ⟨qm⟩
instance fj164_0 : FI prog 164 0 (0, 2) := ⟨qm⟩
theorem zck : zaC prog 164 0 = some (0, 2) := qm
instance fj164_1 : FI prog 164 1 (2, 1) := ⟨qm⟩
theorem fi164_1 : zaC prog 164 1 = some (2, 1) := qm
instance fj164_2 : FI prog 164 2 (3, 2) := ⟨qm⟩
theorem zda : zaC prog 164 2 = some (3, 2) := qm
instance pj164 : PL prog 164 [(0, 2), (2, 1), (3, 2)] := ⟨qm⟩
instance rw167 : RW prog 167 false := ⟨_, underlying167, rfl⟩
instance sl167 : SL prog 167 53 := ⟨underlying167⟩
instance rw168 : RW prog 168 false := ⟨_, underlying168, rfl⟩
instance sl168 : SL prog 168 9 := ⟨underlying168⟩
instance rw191 : RW prog 191 false := ⟨_, underlying191, rfl⟩
instance ik191 : IK prog 191 .u64 := ⟨underlying191⟩
theorem zr209 : (prog.info? 209).map (·.zero) = some (some (.agg #[(.string ⟨#[]⟩), (.string ⟨#[]⟩)])) := qm
theorem zr212 : (prog.info? 212).map (·.zero) = some (some (.agg #[(.int .u32 0), (.int .i64 0), (.int .u32 0), (.int .i64 0)])) := qm
instance fn3 : FU prog 3 f3 := ⟨func3⟩
instance fn5 : FU prog 5 f5 := ⟨func5⟩
instance fn6 : FU prog 6 f6 := ⟨func6⟩
instance fn7 : FU prog 7 f7 := ⟨func7⟩
instance fn14 : FU prog 14 f14 := ⟨func14⟩
instance fn15 : FU prog 15 f15 := ⟨func15⟩
instance fn16 : FU prog 16 f16 := ⟨func16⟩
instance fn17 : FU prog 17 f17 := ⟨func17⟩
instance fn18 : FU prog 18 f18 := ⟨func18⟩
instance fn19 : FU prog 19 f19 := ⟨func19⟩
instance fn20 : FU prog 20 f20 := ⟨func20⟩
instance fn21 : FU prog 21 f21 := ⟨func21⟩
instance fn22 : FU prog 22 f22 := ⟨func22⟩
instance fn23 : FU prog 23 f23 := ⟨func23⟩
instance fn24 : FU prog 24 f24 := ⟨func24⟩
instance fn25 : FU prog 25 f25 := ⟨func25⟩
instance fn26 : FU prog 26 f26 := ⟨func26⟩
instance fn27 : FU prog 27 f27 := ⟨func27⟩
instance fn29 : FU prog 29 f29 := ⟨func29⟩
instance fn32 : FU prog 32 f32 := ⟨func32⟩
instance fn33 : FU prog 33 f33 := ⟨func33⟩
instance fn34 : FU prog 34 f34 := ⟨func34⟩
instance fn35 : FU prog 35 f35 := ⟨func35⟩
instance fn37 : FU prog 37 f37 := ⟨func37⟩
instance fn38 : FU prog 38 f38 := ⟨func38⟩
instance fn39 : FU prog 39 f39 := ⟨func39⟩
instance fn40 : FU prog 40 f40 := ⟨func40⟩
instance fn41 : FU prog 41 f41 := ⟨func41⟩
instance fn42 : FU prog 42 f42 := ⟨func42⟩
instance fn43 : FU prog 43 f43 := ⟨func43⟩
instance fn44 : FU prog 44 f44 := ⟨func44⟩
instance fn45 : FU prog 45 f45 := ⟨func45⟩
instance fn46 : FU prog 46 f46 := ⟨func46⟩
instance fn47 : FU prog 47 f47 := ⟨func47⟩
instance fn48 : FU prog 48 f48 := ⟨func48⟩
instance fn50 : FU prog 50 f50 := ⟨func50⟩
instance fn51 : FU prog 51 f51 := ⟨func51⟩
instance fn52 : FU prog 52 f52 := ⟨func52⟩
instance fn53 : FU prog 53 f53 := ⟨func53⟩
instance fn54 : FU prog 54 f54 := ⟨func54⟩
instance fn55 : FU prog 55 f55 := ⟨func55⟩
instance fn56 : FU prog 56 f56 := ⟨func56⟩
instance fn57 : FU prog 57 f57 := ⟨func57⟩
instance fn58 : FU prog 58 f58 := ⟨func58⟩
instance fn60 : FU prog 60 f60 := ⟨func60⟩
instance fn61 : FU prog 61 f61 := ⟨func61⟩
instance fn63 : FU prog 63 f63 := ⟨func63⟩
instance fn64 : FU prog 64 f64 := ⟨func64⟩
instance fn65 : FU prog 65 f65 := ⟨func65⟩
instance fn66 : FU prog 66 f66 := ⟨func66⟩
instance fn67 : FU prog 67 f67 := ⟨func67⟩
instance fn68 : FU prog 68 f68 := ⟨func68⟩
instance fn69 : FU prog 69 f69 := ⟨func69⟩
instance fn70 : FU prog 70 f70 := ⟨func70⟩
instance fn71 : FU prog 71 f71 := ⟨func71⟩
instance fn72 : FU prog 72 f72 := ⟨func72⟩
instance fn73 : FU prog 73 f73 := ⟨func73⟩
instance fn74 : FU prog 74 f74 := ⟨func74⟩
instance fn75 : FU prog 75 f75 := ⟨func75⟩
instance fn76 : FU prog 76 f76 := ⟨func76⟩
instance fn77 : FU prog 77 f77 := ⟨func77⟩
instance fn78 : FU prog 78 f78 := ⟨func78⟩
instance fn79 : FU prog 79 f79 := ⟨func79⟩
instance fn80 : FU prog 80 f80 := ⟨func80⟩
instance fn81 : FU prog 81 f81 := ⟨func81⟩
instance fn82 : FU prog 82 f82 := ⟨func82⟩
instance fn83 : FU prog 83 f83 := ⟨func83⟩
instance fn84 : FU prog 84 f84 := ⟨func84⟩
instance fn85 : FU prog 85 f85 := ⟨func85⟩
instance fn86 : FU prog 86 f86 := ⟨func86⟩
instance fn87 : FU prog 87 f87 := ⟨func87⟩
instance fn88 : FU prog 88 f88 := ⟨func88⟩
instance fn90 : FU prog 90 f90 := ⟨func90⟩
instance fn93 : FU prog 93 f93 := ⟨func93⟩
instance fn96 : FU prog 96 f96 := ⟨func96⟩
instance fn97 : FU prog 97 f97 := ⟨func97⟩
instance fn98 : FU prog 98 f98 := ⟨func98⟩
instance fn99 : FU prog 99 f99 := ⟨func99⟩
instance fn100 : FU prog 100 f100 := ⟨func100⟩
instance fn101 : FU prog 101 f101 := ⟨func101⟩
instance fn102 : FU prog 102 f102 := ⟨func102⟩
instance fn103 : FU prog 103 f103 := ⟨func103⟩
instance fn104 : FU prog 104 f104 := ⟨func104⟩
instance fn105 : FU prog 105 f105 := ⟨func105⟩
instance fn106 : FU prog 106 f106 := ⟨func106⟩
instance fn107 : FU prog 107 f107 := ⟨func107⟩
instance fn108 : FU prog 108 f108 := ⟨func108⟩
instance fn109 : FU prog 109 f109 := ⟨func109⟩
instance fn110 : FU prog 110 f110 := ⟨func110⟩
instance fn111 : FU prog 111 f111 := ⟨func111⟩
instance fn112 : FU prog 112 f112 := ⟨func112⟩
instance fn113 : FU prog 113 f113 := ⟨func113⟩
instance fn114 : FU prog 114 f114 := ⟨func114⟩
instance fn115 : FU prog 115 f115 := ⟨func115⟩
instance fn116 : FU prog 116 f116 := ⟨func116⟩
instance fn117 : FU prog 117 f117 := ⟨func117⟩
instance fn118 : FU prog 118 f118 := ⟨func118⟩
instance fn119 : FU prog 119 f119 := ⟨func119⟩
instance fn120 : FU prog 120 f120 := ⟨func120⟩
instance fn121 : FU prog 121 f121 := ⟨func121⟩
instance fn122 : FU prog 122 f122 := ⟨func122⟩
instance fn125 : FU prog 125 f125 := ⟨func125⟩
instance fn128 : FU prog 128 f128 := ⟨func128⟩
instance fn129 : FU prog 129 f129 := ⟨func129⟩
instance fn130 : FU prog 130 f130 := ⟨func130⟩
instance fn132 : FU prog 132 f132 := ⟨func132⟩
instance fn133 : FU prog 133 f133 := ⟨func133⟩
instance fn135 : FU prog 135 f135 := ⟨func135⟩
instance fn138 : FU prog 138 f138 := ⟨func138⟩
instance fn141 : FU prog 141 f141 := ⟨func141⟩
instance fn148 : FU prog 148 f148 := ⟨func148⟩
instance fn149 : FU prog 149 f149 := ⟨func149⟩
instance fn150 : FU prog 150 f150 := ⟨func150⟩
instance fn151 : FU prog 151 f151 := ⟨func151⟩
instance fn152 : FU prog 152 f152 := ⟨func152⟩
instance fn153 : FU prog 153 f153 := ⟨func153⟩
instance fn154 : FU prog 154 f154 := ⟨func154⟩
instance fn155 : FU prog 155 f155 := ⟨func155⟩
instance fn156 : FU prog 156 f156 := ⟨func156⟩
instance fn157 : FU prog 157 f157 := ⟨func157⟩
instance fn158 : FU prog 158 f158 := ⟨func158⟩
instance fn159 : FU prog 159 f159 := ⟨func159⟩
instance fn160 : FU prog 160 f160 := ⟨func160⟩
instance fn162 : FU prog 162 f162 := ⟨func162⟩
instance fn163 : FU prog 163 f163 := ⟨func163⟩
instance fn165 : FU prog 165 f165 := ⟨func165⟩
instance fn166 : FU prog 166 f166 := ⟨func166⟩
instance fn167 : FU prog 167 f167 := ⟨func167⟩
instance fn170 : FU prog 170 f170 := ⟨func170⟩
instance fn171 : FU prog 171 f171 := ⟨func171⟩
instance fn175 : FU prog 175 f175 := ⟨func175⟩
instance fn176 : FU prog 176 f176 := ⟨func176⟩
instance fn190 : FU prog 190 f190 := ⟨func190⟩
instance fn193 : FU prog 193 f193 := ⟨func193⟩
theorem F40 : type_of% func40 := func40
theorem F63 : type_of% func63 := func63
theorem F128 : type_of% func128 := func128
theorem F130 : type_of% func130 := func130
theorem U3 : type_of% underlying3 := underlying3
theorem U4 : type_of% underlying4 := underlying4
theorem U5 : type_of% underlying5 := underlying5
theorem U9 : type_of% underlying9 := underlying9
theorem U22 : type_of% underlying22 := underlying22
theorem U24 : type_of% underlying24 := underlying24
theorem U25 : type_of% underlying25 := underlying25
theorem U26 : type_of% underlying26 := underlying26
theorem U27 : type_of% underlying27 := underlying27
theorem U30 : type_of% underlying30 := underlying30
theorem U32 : type_of% underlying32 := underlying32
theorem U46 : type_of% underlying46 := underlying46
theorem U48 : type_of% underlying48 := underlying48
theorem U53 : type_of% underlying53 := underlying53
theorem U55 : type_of% underlying55 := underlying55
theorem U57 : type_of% underlying57 := underlying57
theorem U58 : type_of% underlying58 := underlying58
theorem U60 : type_of% underlying60 := underlying60
theorem U80 : type_of% underlying80 := underlying80
theorem U82 : type_of% underlying82 := underlying82
theorem U84 : type_of% underlying84 := underlying84
theorem U91 : type_of% underlying91 := underlying91
theorem U93 : type_of% underlying93 := underlying93
theorem U107 : type_of% underlying107 := underlying107
theorem U112 : type_of% underlying112 := underlying112
theorem U121 : type_of% underlying121 := underlying121
theorem U162 : type_of% underlying162 := underlying162
theorem U168 : type_of% underlying168 := underlying168
end Go.Proofs.YtlfjpippeeikdaaGreatDoor
