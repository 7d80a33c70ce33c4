/- Facts on the types of the program: sizes, zero values, fields. -/
import Derived.Test.YtgpleldhddpcgaaGreatDoorProg
import Derived.Test.YtgpleldhddpcgaaGreatDoorSMa2
namespace Go.Proofs.YtgpleldhddpcgaaGreatDoor
set_option linter.unusedVariables false
theorem sz3 : (Tryz.prog.info? 3).map (·.size) = some 1 := by kernel_rfl
theorem zr4 : (Tryz.prog.info? 4).map (·.zero) = some (some (.bool false)) := by kernel_rfl
theorem sz5 : (Tryz.prog.info? 5).map (·.size) = some 1 := by kernel_rfl
theorem zc5 : (Tryz.prog.info? 5).map (fun i => i.zero.map Value.cells) = some (some #[(.int .u8 0)]) := by kernel_rfl
theorem eo5 : elemOK Tryz.prog 5 1 1 = true := by kernel_rfl
theorem sz9 : (Tryz.prog.info? 9).map (·.size) = some 1 := by kernel_rfl
theorem zc9 : (Tryz.prog.info? 9).map (fun i => i.zero.map Value.cells) = some (some #[(.string ⟨#[]⟩)]) := by kernel_rfl
theorem eo9 : elemOK Tryz.prog 9 1 16 = true := by kernel_rfl
theorem sz22 : (Tryz.prog.info? 22).map (·.size) = some 1 := by kernel_rfl
theorem sz24 : (Tryz.prog.info? 24).map (·.size) = some 3 := by kernel_rfl
theorem zr24 : (Tryz.prog.info? 24).map (·.zero) = some (some (.agg #[(.string ⟨#[]⟩), (.int .i64 0), (.slice none 0 0)])) := by kernel_rfl
theorem fi24_0 : fieldInfo Tryz.prog 24 0 = some (0, 1) := by kernel_rfl
theorem fi24_1 : fieldInfo Tryz.prog 24 1 = some (1, 1) := by kernel_rfl
theorem fi24_2 : fieldInfo Tryz.prog 24 2 = some (2, 1) := by kernel_rfl
theorem pl24 : placesOf Tryz.prog 24 = some [(0, 1), (1, 1), (2, 1)] := by kernel_rfl
theorem sz35 : (Tryz.prog.info? 35).map (·.size) = some 7 := by kernel_rfl
theorem zr35 : (Tryz.prog.info? 35).map (·.zero) = some (some (.agg #[(.bool false), (.slice none 0 0), (.string ⟨#[]⟩), (.int .i64 0), (.slice none 0 0), (.string ⟨#[]⟩), (.int .i64 0)])) := by kernel_rfl
theorem fi35_0 : fieldInfo Tryz.prog 35 0 = some (0, 1) := by kernel_rfl
theorem fi35_1 : fieldInfo Tryz.prog 35 1 = some (1, 1) := by kernel_rfl
theorem fi35_2 : fieldInfo Tryz.prog 35 2 = some (2, 3) := by kernel_rfl
theorem fi35_3 : fieldInfo Tryz.prog 35 3 = some (5, 1) := by kernel_rfl
theorem fi35_4 : fieldInfo Tryz.prog 35 4 = some (6, 1) := by kernel_rfl
theorem pl35 : placesOf Tryz.prog 35 = some [(0, 1), (1, 1), (2, 3), (5, 1), (6, 1)] := by kernel_rfl
theorem sz47 : (Tryz.prog.info? 47).map (·.size) = some 1 := by kernel_rfl
theorem sz49 : (Tryz.prog.info? 49).map (·.size) = some 5 := by kernel_rfl
theorem zr49 : (Tryz.prog.info? 49).map (·.zero) = some (some (.agg #[(.string ⟨#[]⟩), (.string ⟨#[]⟩), (.string ⟨#[]⟩), (.int .i64 0), (.slice none 0 0)])) := by kernel_rfl
theorem zc49 : (Tryz.prog.info? 49).map (fun i => i.zero.map Value.cells) = some (some #[(.string ⟨#[]⟩), (.string ⟨#[]⟩), (.string ⟨#[]⟩), (.int .i64 0), (.slice none 0 0)]) := by kernel_rfl
theorem eo49 : elemOK Tryz.prog 49 5 80 = true := by kernel_rfl
theorem fi49_0 : fieldInfo Tryz.prog 49 0 = some (0, 1) := by kernel_rfl
theorem fi49_1 : fieldInfo Tryz.prog 49 1 = some (1, 1) := by kernel_rfl
theorem fi49_2 : fieldInfo Tryz.prog 49 2 = some (2, 1) := by kernel_rfl
theorem fi49_3 : fieldInfo Tryz.prog 49 3 = some (3, 1) := by kernel_rfl
theorem fi49_4 : fieldInfo Tryz.prog 49 4 = some (4, 1) := by kernel_rfl
theorem sz52 : (Tryz.prog.info? 52).map (·.size) = some 2 := by kernel_rfl
theorem zr52 : (Tryz.prog.info? 52).map (·.zero) = some (some (.agg #[(.int .u32 0), (.int .i64 0)])) := by kernel_rfl
theorem zc52 : (Tryz.prog.info? 52).map (fun i => i.zero.map Value.cells) = some (some #[(.int .u32 0), (.int .i64 0)]) := by kernel_rfl
theorem eo52 : elemOK Tryz.prog 52 2 16 = true := by kernel_rfl
theorem fi52_0 : fieldInfo Tryz.prog 52 0 = some (0, 1) := by kernel_rfl
theorem fi52_1 : fieldInfo Tryz.prog 52 1 = some (1, 1) := by kernel_rfl
theorem pl52 : placesOf Tryz.prog 52 = some [(0, 1), (1, 1)] := by kernel_rfl
theorem sz86 : (Tryz.prog.info? 86).map (·.size) = some 5 := by kernel_rfl
theorem zr86 : (Tryz.prog.info? 86).map (·.zero) = some (some (.agg #[(.int .i64 0), (.string ⟨#[]⟩), (.int .i64 0), (.int .u32 0), (.int .i64 0)])) := by kernel_rfl
theorem zc86 : (Tryz.prog.info? 86).map (fun i => i.zero.map Value.cells) = some (some #[(.int .i64 0), (.string ⟨#[]⟩), (.int .i64 0), (.int .u32 0), (.int .i64 0)]) := by kernel_rfl
theorem eo86 : elemOK Tryz.prog 86 5 48 = true := by kernel_rfl
theorem fi86_0 : fieldInfo Tryz.prog 86 0 = some (0, 1) := by kernel_rfl
theorem fi86_1 : fieldInfo Tryz.prog 86 1 = some (1, 1) := by kernel_rfl
theorem fi86_2 : fieldInfo Tryz.prog 86 2 = some (2, 1) := by kernel_rfl
theorem fi86_3 : fieldInfo Tryz.prog 86 3 = some (3, 2) := by kernel_rfl
theorem pl86 : placesOf Tryz.prog 86 = some [(0, 1), (1, 1), (2, 1), (3, 2)] := by kernel_rfl
theorem sz111 : (Tryz.prog.info? 111).map (·.size) = some 2 := by kernel_rfl
theorem zr111 : (Tryz.prog.info? 111).map (·.zero) = some (some (.agg #[(.string ⟨#[]⟩), (.string ⟨#[]⟩)])) := by kernel_rfl
theorem zc111 : (Tryz.prog.info? 111).map (fun i => i.zero.map Value.cells) = some (some #[(.string ⟨#[]⟩), (.string ⟨#[]⟩)]) := by kernel_rfl
theorem eo111 : elemOK Tryz.prog 111 2 32 = true := by kernel_rfl
theorem fi111_0 : fieldInfo Tryz.prog 111 0 = some (0, 1) := by kernel_rfl
theorem fi111_1 : fieldInfo Tryz.prog 111 1 = some (1, 1) := by kernel_rfl
theorem pl111 : placesOf Tryz.prog 111 = some [(0, 1), (1, 1)] := by kernel_rfl
theorem sz150 : (Tryz.prog.info? 150).map (·.size) = some 11 := by kernel_rfl
theorem zr150 : (Tryz.prog.info? 150).map (·.zero) = some (some (.agg #[(.string ⟨#[]⟩), (.string ⟨#[]⟩), (.string ⟨#[]⟩), (.string ⟨#[]⟩), (.string ⟨#[]⟩), (.string ⟨#[]⟩), (.string ⟨#[]⟩), (.string ⟨#[]⟩), (.string ⟨#[]⟩), (.string ⟨#[]⟩), (.string ⟨#[]⟩)])) := by kernel_rfl
end Go.Proofs.YtgpleldhddpcgaaGreatDoor
