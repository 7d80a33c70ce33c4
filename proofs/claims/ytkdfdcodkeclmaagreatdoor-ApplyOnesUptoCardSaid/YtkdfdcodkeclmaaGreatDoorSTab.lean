/- Facts on the types of the program: sizes, zero values, fields. -/
import Derived.Test.YtkdfdcodkeclmaaGreatDoorProg
import Derived.Test.YtkdfdcodkeclmaaGreatDoorSMa2
namespace Go.Proofs.YtkdfdcodkeclmaaGreatDoor
set_option linter.unusedVariables false
theorem sz3 : (Tryz.prog.info? 3).map (·.size) = some 1 := by kernel_rfl
theorem zr4 : (Tryz.prog.info? 4).map (·.zero) = some (some (.bool false)) := by kernel_rfl
theorem sz5 : (Tryz.prog.info? 5).map (·.size) = some 1 := by kernel_rfl
theorem zc5 : (Tryz.prog.info? 5).map (fun i => i.zero.map Value.cells) = some (some #[(.int .u8 0)]) := by kernel_rfl
theorem eo5 : zdC Tryz.prog 5 1 1 = true := by kernel_rfl
theorem sz9 : (Tryz.prog.info? 9).map (·.size) = some 1 := by kernel_rfl
theorem zc9 : (Tryz.prog.info? 9).map (fun i => i.zero.map Value.cells) = some (some #[(.string ⟨#[]⟩)]) := by kernel_rfl
theorem sz22 : (Tryz.prog.info? 22).map (·.size) = some 1 := by kernel_rfl
theorem sz24 : (Tryz.prog.info? 24).map (·.size) = some 3 := by kernel_rfl
theorem zr24 : (Tryz.prog.info? 24).map (·.zero) = some (some (.agg #[(.string ⟨#[]⟩), (.int .i64 0), (.slice none 0 0)])) := by kernel_rfl
theorem zbz : zbl Tryz.prog 24 0 = some (0, 1) := by kernel_rfl
theorem zev : zbl Tryz.prog 24 1 = some (1, 1) := by kernel_rfl
theorem zaC : zbl Tryz.prog 24 2 = some (2, 1) := by kernel_rfl
theorem pl24 : zek Tryz.prog 24 = some [(0, 1), (1, 1), (2, 1)] := by kernel_rfl
theorem sz27 : (Tryz.prog.info? 27).map (·.size) = some 2 := by kernel_rfl
theorem zr27 : (Tryz.prog.info? 27).map (·.zero) = some (some (.agg #[(.int .u32 0), (.int .i64 0)])) := by kernel_rfl
theorem zc27 : (Tryz.prog.info? 27).map (fun i => i.zero.map Value.cells) = some (some #[(.int .u32 0), (.int .i64 0)]) := by kernel_rfl
theorem eo27 : zdC Tryz.prog 27 2 16 = true := by kernel_rfl
theorem pl27 : zek Tryz.prog 27 = some [(0, 1), (1, 1)] := by kernel_rfl
theorem sz29 : (Tryz.prog.info? 29).map (·.size) = some 5 := by kernel_rfl
theorem zap : zbl Tryz.prog 29 0 = some (0, 1) := by kernel_rfl
theorem zay : zbl Tryz.prog 29 1 = some (1, 1) := by kernel_rfl
theorem zaH : zbl Tryz.prog 29 2 = some (2, 1) := by kernel_rfl
theorem zaX : zbl Tryz.prog 29 3 = some (3, 2) := by kernel_rfl
theorem sz58 : (Tryz.prog.info? 58).map (·.size) = some 1 := by kernel_rfl
theorem sz60 : (Tryz.prog.info? 60).map (·.size) = some 5 := by kernel_rfl
theorem zr60 : (Tryz.prog.info? 60).map (·.zero) = some (some (.agg #[(.string ⟨#[]⟩), (.string ⟨#[]⟩), (.string ⟨#[]⟩), (.int .i64 0), (.slice none 0 0)])) := by kernel_rfl
theorem zc60 : (Tryz.prog.info? 60).map (fun i => i.zero.map Value.cells) = some (some #[(.string ⟨#[]⟩), (.string ⟨#[]⟩), (.string ⟨#[]⟩), (.int .i64 0), (.slice none 0 0)]) := by kernel_rfl
theorem eo60 : zdC Tryz.prog 60 5 80 = true := by kernel_rfl
theorem zby : zbl Tryz.prog 60 0 = some (0, 1) := by kernel_rfl
theorem zcq : zbl Tryz.prog 60 1 = some (1, 1) := by kernel_rfl
theorem zdO : zbl Tryz.prog 60 2 = some (2, 1) := by kernel_rfl
theorem ze5 : zbl Tryz.prog 60 3 = some (3, 1) := by kernel_rfl
theorem zbc : zbl Tryz.prog 60 4 = some (4, 1) := by kernel_rfl
theorem pl60 : zek Tryz.prog 60 = some [(0, 1), (1, 1), (2, 1), (3, 1), (4, 1)] := by kernel_rfl
end Go.Proofs.YtkdfdcodkeclmaaGreatDoor
