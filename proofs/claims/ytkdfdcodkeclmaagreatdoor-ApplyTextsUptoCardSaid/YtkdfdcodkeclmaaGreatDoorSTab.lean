/- Facts on the types of the program: sizes, zero values, fields. -/
import Derived.Test.YtkdfdcodkeclmaaGreatDoorProg
import Derived.Test.YtkdfdcodkeclmaaGreatDoorSMa2
namespace Go.Proofs.YtkdfdcodkeclmaaGreatDoor
open Tryz
set_option linter.unusedVariables false
theorem sz3 : (prog.info? 3).map (·.size) = some 1 := by kernel_rfl
instance rw3 : RW prog 3 false := ⟨_, underlying3, rfl⟩
instance ik3 : IK prog 3 .i64 := ⟨underlying3⟩
theorem zr4 : (prog.info? 4).map (·.zero) = some (some (.bool false)) := by kernel_rfl
theorem sz5 : (prog.info? 5).map (·.size) = some 1 := by kernel_rfl
theorem zc5 : (prog.info? 5).map (fun i => i.zero.map Value.cells) = some (some #[(.int .u8 0)]) := by kernel_rfl
theorem eo5 : zcB prog 5 1 1 = true := by kernel_rfl
theorem sz9 : (prog.info? 9).map (·.size) = some 1 := by kernel_rfl
instance rw9 : RW prog 9 false := ⟨_, underlying9, rfl⟩
instance st9 : SR prog 9 := ⟨underlying9⟩
theorem zc9 : (prog.info? 9).map (fun i => i.zero.map Value.cells) = some (some #[(.string ⟨#[]⟩)]) := by kernel_rfl
theorem eo9 : zcB prog 9 1 16 = true := by kernel_rfl
theorem sz22 : (prog.info? 22).map (·.size) = some 1 := by kernel_rfl
instance rw22 : RW prog 22 false := ⟨_, underlying22, rfl⟩
instance sl22 : SL prog 22 60 := ⟨underlying22⟩
theorem sz24 : (prog.info? 24).map (·.size) = some 3 := by kernel_rfl
instance sj24 : SZ prog 24 3 := ⟨by kernel_rfl⟩
instance rw24 : RW prog 24 true := ⟨_, underlying24, rfl⟩
instance su24 : SU prog 24 := ⟨_, underlying24⟩
instance zj24 : ZR prog 24 (.agg #[(.string ⟨#[]⟩), (.int .i64 0), (.slice none 0 0)]) := ⟨by kernel_rfl⟩
theorem zr24 : (prog.info? 24).map (·.zero) = some (some (.agg #[(.string ⟨#[]⟩), (.int .i64 0), (.slice none 0 0)])) := by kernel_rfl
instance fj24_0 : FI prog 24 0 (0, 1) := ⟨by kernel_rfl⟩
instance fj24_1 : FI prog 24 1 (1, 1) := ⟨by kernel_rfl⟩
instance fj24_2 : FI prog 24 2 (2, 1) := ⟨by kernel_rfl⟩
theorem zfV : zbe prog 24 2 = some (2, 1) := by kernel_rfl
instance pj24 : PL prog 24 [(0, 1), (1, 1), (2, 1)] := ⟨by kernel_rfl⟩
theorem pl24 : zef prog 24 = some [(0, 1), (1, 1), (2, 1)] := by kernel_rfl
instance rw25 : RW prog 25 false := ⟨_, underlying25, rfl⟩
instance ik25 : IK prog 25 .u32 := ⟨underlying25⟩
theorem sz27 : (prog.info? 27).map (·.size) = some 2 := by kernel_rfl
instance sj27 : SZ prog 27 2 := ⟨by kernel_rfl⟩
instance rw27 : RW prog 27 true := ⟨_, underlying27, rfl⟩
instance su27 : SU prog 27 := ⟨_, underlying27⟩
instance zj27 : ZR prog 27 (.agg #[(.int .u32 0), (.int .i64 0)]) := ⟨by kernel_rfl⟩
theorem zr27 : (prog.info? 27).map (·.zero) = some (some (.agg #[(.int .u32 0), (.int .i64 0)])) := by kernel_rfl
theorem zc27 : (prog.info? 27).map (fun i => i.zero.map Value.cells) = some (some #[(.int .u32 0), (.int .i64 0)]) := by kernel_rfl
theorem eo27 : zcB prog 27 2 16 = true := by kernel_rfl
instance fj27_0 : FI prog 27 0 (0, 1) := ⟨by kernel_rfl⟩
instance fj27_1 : FI prog 27 1 (1, 1) := ⟨by kernel_rfl⟩
instance pj27 : PL prog 27 [(0, 1), (1, 1)] := ⟨by kernel_rfl⟩
theorem pl27 : zef prog 27 = some [(0, 1), (1, 1)] := by kernel_rfl
theorem sz29 : (prog.info? 29).map (·.size) = some 5 := by kernel_rfl
instance sj29 : SZ prog 29 5 := ⟨by kernel_rfl⟩
instance rw29 : RW prog 29 true := ⟨_, underlying29, rfl⟩
instance su29 : SU prog 29 := ⟨_, underlying29⟩
instance zj29 : ZR prog 29 (.agg #[(.int .i64 0), (.string ⟨#[]⟩), (.int .i64 0), (.int .u32 0), (.int .i64 0)]) := ⟨by kernel_rfl⟩
theorem zr29 : (prog.info? 29).map (·.zero) = some (some (.agg #[(.int .i64 0), (.string ⟨#[]⟩), (.int .i64 0), (.int .u32 0), (.int .i64 0)])) := by kernel_rfl
theorem zc29 : (prog.info? 29).map (fun i => i.zero.map Value.cells) = some (some #[(.int .i64 0), (.string ⟨#[]⟩), (.int .i64 0), (.int .u32 0), (.int .i64 0)]) := by kernel_rfl
theorem eo29 : zcB prog 29 5 48 = true := by kernel_rfl
instance fj29_0 : FI prog 29 0 (0, 1) := ⟨by kernel_rfl⟩
theorem fi29_0 : zbe prog 29 0 = some (0, 1) := by kernel_rfl
instance fj29_1 : FI prog 29 1 (1, 1) := ⟨by kernel_rfl⟩
instance fj29_2 : FI prog 29 2 (2, 1) := ⟨by kernel_rfl⟩
instance fj29_3 : FI prog 29 3 (3, 2) := ⟨by kernel_rfl⟩
theorem fi29_3 : zbe prog 29 3 = some (3, 2) := by kernel_rfl
instance pj29 : PL prog 29 [(0, 1), (1, 1), (2, 1), (3, 2)] := ⟨by kernel_rfl⟩
theorem sz58 : (prog.info? 58).map (·.size) = some 1 := by kernel_rfl
instance rw58 : RW prog 58 false := ⟨_, underlying58, rfl⟩
instance sl58 : SL prog 58 27 := ⟨underlying58⟩
theorem sz60 : (prog.info? 60).map (·.size) = some 5 := by kernel_rfl
instance sj60 : SZ prog 60 5 := ⟨by kernel_rfl⟩
instance rw60 : RW prog 60 true := ⟨_, underlying60, rfl⟩
instance su60 : SU prog 60 := ⟨_, underlying60⟩
instance zj60 : ZR prog 60 (.agg #[(.string ⟨#[]⟩), (.string ⟨#[]⟩), (.string ⟨#[]⟩), (.int .i64 0), (.slice none 0 0)]) := ⟨by kernel_rfl⟩
theorem zr60 : (prog.info? 60).map (·.zero) = some (some (.agg #[(.string ⟨#[]⟩), (.string ⟨#[]⟩), (.string ⟨#[]⟩), (.int .i64 0), (.slice none 0 0)])) := by kernel_rfl
theorem zc60 : (prog.info? 60).map (fun i => i.zero.map Value.cells) = some (some #[(.string ⟨#[]⟩), (.string ⟨#[]⟩), (.string ⟨#[]⟩), (.int .i64 0), (.slice none 0 0)]) := by kernel_rfl
theorem eo60 : zcB prog 60 5 80 = true := by kernel_rfl
instance fj60_0 : FI prog 60 0 (0, 1) := ⟨by kernel_rfl⟩
theorem zfU : zbe prog 60 0 = some (0, 1) := by kernel_rfl
instance fj60_1 : FI prog 60 1 (1, 1) := ⟨by kernel_rfl⟩
theorem fi60_1 : zbe prog 60 1 = some (1, 1) := by kernel_rfl
instance fj60_2 : FI prog 60 2 (2, 1) := ⟨by kernel_rfl⟩
theorem fi60_2 : zbe prog 60 2 = some (2, 1) := by kernel_rfl
instance fj60_3 : FI prog 60 3 (3, 1) := ⟨by kernel_rfl⟩
theorem fi60_3 : zbe prog 60 3 = some (3, 1) := by kernel_rfl
instance fj60_4 : FI prog 60 4 (4, 1) := ⟨by kernel_rfl⟩
theorem zbo : zbe prog 60 4 = some (4, 1) := by kernel_rfl
instance pj60 : PL prog 60 [(0, 1), (1, 1), (2, 1), (3, 1), (4, 1)] := ⟨by kernel_rfl⟩
theorem sz96 : (prog.info? 96).map (·.size) = some 2 := by kernel_rfl
instance sj96 : SZ prog 96 2 := ⟨by kernel_rfl⟩
instance rw96 : RW prog 96 true := ⟨_, underlying96, rfl⟩
instance su96 : SU prog 96 := ⟨_, underlying96⟩
instance zj96 : ZR prog 96 (.agg #[(.string ⟨#[]⟩), (.string ⟨#[]⟩)]) := ⟨by kernel_rfl⟩
theorem zc96 : (prog.info? 96).map (fun i => i.zero.map Value.cells) = some (some #[(.string ⟨#[]⟩), (.string ⟨#[]⟩)]) := by kernel_rfl
theorem eo96 : zcB prog 96 2 32 = true := by kernel_rfl
instance fj96_0 : FI prog 96 0 (0, 1) := ⟨by kernel_rfl⟩
instance fj96_1 : FI prog 96 1 (1, 1) := ⟨by kernel_rfl⟩
instance pj96 : PL prog 96 [(0, 1), (1, 1)] := ⟨by kernel_rfl⟩
instance sj137 : SZ prog 137 11 := ⟨by kernel_rfl⟩
instance rw137 : RW prog 137 true := ⟨_, underlying137, rfl⟩
instance zj137 : ZR prog 137 (.agg #[(.string ⟨#[]⟩), (.string ⟨#[]⟩), (.string ⟨#[]⟩), (.string ⟨#[]⟩), (.string ⟨#[]⟩), (.string ⟨#[]⟩), (.string ⟨#[]⟩), (.string ⟨#[]⟩), (.string ⟨#[]⟩), (.string ⟨#[]⟩), (.string ⟨#[]⟩)]) := ⟨by kernel_rfl⟩
theorem zr137 : (prog.info? 137).map (·.zero) = some (some (.agg #[(.string ⟨#[]⟩), (.string ⟨#[]⟩), (.string ⟨#[]⟩), (.string ⟨#[]⟩), (.string ⟨#[]⟩), (.string ⟨#[]⟩), (.string ⟨#[]⟩), (.string ⟨#[]⟩), (.string ⟨#[]⟩), (.string ⟨#[]⟩), (.string ⟨#[]⟩)])) := by kernel_rfl
instance fn6 : FU prog 6 f6 := ⟨func6⟩
instance fn7 : FU prog 7 f7 := ⟨func7⟩
instance fn8 : FU prog 8 f8 := ⟨func8⟩
instance fn9 : FU prog 9 f9 := ⟨func9⟩
instance fn10 : FU prog 10 f10 := ⟨func10⟩
instance fn11 : FU prog 11 f11 := ⟨func11⟩
instance fn17 : FU prog 17 f17 := ⟨func17⟩
instance fn18 : FU prog 18 f18 := ⟨func18⟩
instance fn19 : FU prog 19 f19 := ⟨func19⟩
instance fn20 : FU prog 20 f20 := ⟨func20⟩
instance fn21 : FU prog 21 f21 := ⟨func21⟩
instance fn22 : FU prog 22 f22 := ⟨func22⟩
instance fn23 : FU prog 23 f23 := ⟨func23⟩
instance fn24 : FU prog 24 f24 := ⟨func24⟩
instance fn25 : FU prog 25 f25 := ⟨func25⟩
instance fn26 : FU prog 26 f26 := ⟨func26⟩
instance fn27 : FU prog 27 f27 := ⟨func27⟩
instance fn28 : FU prog 28 f28 := ⟨func28⟩
instance fn29 : FU prog 29 f29 := ⟨func29⟩
instance fn30 : FU prog 30 f30 := ⟨func30⟩
instance fn31 : FU prog 31 f31 := ⟨func31⟩
instance fn32 : FU prog 32 f32 := ⟨func32⟩
instance fn39 : FU prog 39 f39 := ⟨func39⟩
instance fn40 : FU prog 40 f40 := ⟨func40⟩
instance fn41 : FU prog 41 f41 := ⟨func41⟩
instance fn42 : FU prog 42 f42 := ⟨func42⟩
instance fn43 : FU prog 43 f43 := ⟨func43⟩
instance fn44 : FU prog 44 f44 := ⟨func44⟩
instance fn45 : FU prog 45 f45 := ⟨func45⟩
instance fn46 : FU prog 46 f46 := ⟨func46⟩
instance fn47 : FU prog 47 f47 := ⟨func47⟩
instance fn48 : FU prog 48 f48 := ⟨func48⟩
instance fn49 : FU prog 49 f49 := ⟨func49⟩
instance fn50 : FU prog 50 f50 := ⟨func50⟩
instance fn51 : FU prog 51 f51 := ⟨func51⟩
instance fn53 : FU prog 53 f53 := ⟨func53⟩
instance fn55 : FU prog 55 f55 := ⟨func55⟩
instance fn56 : FU prog 56 f56 := ⟨func56⟩
instance fn57 : FU prog 57 f57 := ⟨func57⟩
instance fn58 : FU prog 58 f58 := ⟨func58⟩
instance fn59 : FU prog 59 f59 := ⟨func59⟩
instance fn60 : FU prog 60 f60 := ⟨func60⟩
instance fn62 : FU prog 62 f62 := ⟨func62⟩
instance fn63 : FU prog 63 f63 := ⟨func63⟩
instance fn64 : FU prog 64 f64 := ⟨func64⟩
instance fn65 : FU prog 65 f65 := ⟨func65⟩
instance fn66 : FU prog 66 f66 := ⟨func66⟩
instance fn67 : FU prog 67 f67 := ⟨func67⟩
instance fn68 : FU prog 68 f68 := ⟨func68⟩
instance fn75 : FU prog 75 f75 := ⟨func75⟩
instance fn76 : FU prog 76 f76 := ⟨func76⟩
instance fn77 : FU prog 77 f77 := ⟨func77⟩
instance fn79 : FU prog 79 f79 := ⟨func79⟩
instance fn80 : FU prog 80 f80 := ⟨func80⟩
instance fn81 : FU prog 81 f81 := ⟨func81⟩
instance fn82 : FU prog 82 f82 := ⟨func82⟩
instance fn84 : FU prog 84 f84 := ⟨func84⟩
instance fn86 : FU prog 86 f86 := ⟨func86⟩
instance fn87 : FU prog 87 f87 := ⟨func87⟩
instance fn89 : FU prog 89 f89 := ⟨func89⟩
instance fn91 : FU prog 91 f91 := ⟨func91⟩
instance fn92 : FU prog 92 f92 := ⟨func92⟩
instance fn93 : FU prog 93 f93 := ⟨func93⟩
instance fn94 : FU prog 94 f94 := ⟨func94⟩
instance fn95 : FU prog 95 f95 := ⟨func95⟩
instance fn96 : FU prog 96 f96 := ⟨func96⟩
instance fn97 : FU prog 97 f97 := ⟨func97⟩
instance fn98 : FU prog 98 f98 := ⟨func98⟩
instance fn100 : FU prog 100 f100 := ⟨func100⟩
instance fn101 : FU prog 101 f101 := ⟨func101⟩
instance fn102 : FU prog 102 f102 := ⟨func102⟩
instance fn103 : FU prog 103 f103 := ⟨func103⟩
instance fn104 : FU prog 104 f104 := ⟨func104⟩
instance fn113 : FU prog 113 f113 := ⟨func113⟩
instance fn114 : FU prog 114 f114 := ⟨func114⟩
instance fn115 : FU prog 115 f115 := ⟨func115⟩
instance fn116 : FU prog 116 f116 := ⟨func116⟩
instance fn119 : FU prog 119 f119 := ⟨func119⟩
instance fn122 : FU prog 122 f122 := ⟨func122⟩
instance fn123 : FU prog 123 f123 := ⟨func123⟩
instance fn124 : FU prog 124 f124 := ⟨func124⟩
instance fn126 : FU prog 126 f126 := ⟨func126⟩
instance fn129 : FU prog 129 f129 := ⟨func129⟩
instance fn145 : FU prog 145 f145 := ⟨func145⟩
instance fn146 : FU prog 146 f146 := ⟨func146⟩
instance fn158 : FU prog 158 f158 := ⟨func158⟩
theorem F21 : type_of% func21 := func21
theorem F26 : type_of% func26 := func26
theorem F49 : type_of% func49 := func49
theorem F51 : type_of% func51 := func51
theorem U3 : type_of% underlying3 := underlying3
theorem U5 : type_of% underlying5 := underlying5
theorem U9 : type_of% underlying9 := underlying9
theorem U22 : type_of% underlying22 := underlying22
theorem U24 : type_of% underlying24 := underlying24
theorem U25 : type_of% underlying25 := underlying25
theorem U27 : type_of% underlying27 := underlying27
theorem U29 : type_of% underlying29 := underlying29
theorem U35 : type_of% underlying35 := underlying35
theorem U58 : type_of% underlying58 := underlying58
theorem U60 : type_of% underlying60 := underlying60
theorem U89 : type_of% underlying89 := underlying89
theorem U92 : type_of% underlying92 := underlying92
theorem U96 : type_of% underlying96 := underlying96
theorem U99 : type_of% underlying99 := underlying99
end Go.Proofs.YtkdfdcodkeclmaaGreatDoor
