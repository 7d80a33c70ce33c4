/- Facts on the types of the program: sizes, zero values, fields. -/
import Derived.Test.YtkdfdcodkeclmaaGreatDoorProg
import Derived.Test.YtkdfdcodkeclmaaGreatDoorSMa2
namespace Go.Proofs.YtkdfdcodkeclmaaGreatDoor
set_option linter.unusedVariables false
theorem sz3 : (Tryz.prog.info? 3).map (·.size) = some 1 := by kernel_rfl
theorem zr4 : (Tryz.prog.info? 4).map (·.zero) = some (some (.bool false)) := by kernel_rfl
theorem sz5 : (Tryz.prog.info? 5).map (·.size) = some 1 := by kernel_rfl
theorem zc5 : (Tryz.prog.info? 5).map (fun i => i.zero.map Value.cells) = some (some #[(.int .u8 0)]) := by kernel_rfl
theorem eo5 : zdz Tryz.prog 5 1 1 = true := by kernel_rfl
theorem sz9 : (Tryz.prog.info? 9).map (·.size) = some 1 := by kernel_rfl
theorem zc9 : (Tryz.prog.info? 9).map (fun i => i.zero.map Value.cells) = some (some #[(.string ⟨#[]⟩)]) := by kernel_rfl
theorem sz22 : (Tryz.prog.info? 22).map (·.size) = some 1 := by kernel_rfl
theorem sz24 : (Tryz.prog.info? 24).map (·.size) = some 3 := by kernel_rfl
theorem zr24 : (Tryz.prog.info? 24).map (·.zero) = some (some (.agg #[(.string ⟨#[]⟩), (.int .i64 0), (.slice none 0 0)])) := by kernel_rfl
theorem zbD : zbg Tryz.prog 24 0 = some (0, 1) := by kernel_rfl
theorem zdK : zbg Tryz.prog 24 1 = some (1, 1) := by kernel_rfl
theorem zaI : zbg Tryz.prog 24 2 = some (2, 1) := by kernel_rfl
theorem pl24 : zdQ Tryz.prog 24 = some [(0, 1), (1, 1), (2, 1)] := by kernel_rfl
theorem sz27 : (Tryz.prog.info? 27).map (·.size) = some 2 := by kernel_rfl
theorem zr27 : (Tryz.prog.info? 27).map (·.zero) = some (some (.agg #[(.int .u32 0), (.int .i64 0)])) := by kernel_rfl
theorem zc27 : (Tryz.prog.info? 27).map (fun i => i.zero.map Value.cells) = some (some #[(.int .u32 0), (.int .i64 0)]) := by kernel_rfl
theorem eo27 : zdz Tryz.prog 27 2 16 = true := by kernel_rfl
theorem pl27 : zdQ Tryz.prog 27 = some [(0, 1), (1, 1)] := by kernel_rfl
theorem sz29 : (Tryz.prog.info? 29).map (·.size) = some 5 := by kernel_rfl
theorem zr29 : (Tryz.prog.info? 29).map (·.zero) = some (some (.agg #[(.int .i64 0), (.string ⟨#[]⟩), (.int .i64 0), (.int .u32 0), (.int .i64 0)])) := by kernel_rfl
theorem eo29 : zdz Tryz.prog 29 5 48 = true := by kernel_rfl
theorem zaw : zbg Tryz.prog 29 0 = some (0, 1) := by kernel_rfl
theorem zaD : zbg Tryz.prog 29 1 = some (1, 1) := by kernel_rfl
theorem zaO : zbg Tryz.prog 29 2 = some (2, 1) := by kernel_rfl
theorem za3 : zbg Tryz.prog 29 3 = some (3, 2) := by kernel_rfl
theorem sz30 : (Tryz.prog.info? 30).map (·.size) = some 1 := by kernel_rfl
theorem sz35 : (Tryz.prog.info? 35).map (·.size) = some 1 := by kernel_rfl
theorem sz40 : (Tryz.prog.info? 40).map (·.size) = some 7 := by kernel_rfl
theorem zr40 : (Tryz.prog.info? 40).map (·.zero) = some (some (.agg #[(.bool false), (.slice none 0 0), (.string ⟨#[]⟩), (.int .i64 0), (.slice none 0 0), (.string ⟨#[]⟩), (.int .i64 0)])) := by kernel_rfl
theorem zfT : zbg Tryz.prog 40 0 = some (0, 1) := by kernel_rfl
theorem zci : zbg Tryz.prog 40 1 = some (1, 1) := by kernel_rfl
theorem zch : zbg Tryz.prog 40 2 = some (2, 3) := by kernel_rfl
theorem zdk : zbg Tryz.prog 40 3 = some (5, 1) := by kernel_rfl
theorem zcB : zbg Tryz.prog 40 4 = some (6, 1) := by kernel_rfl
theorem pl40 : zdQ Tryz.prog 40 = some [(0, 1), (1, 1), (2, 3), (5, 1), (6, 1)] := by kernel_rfl
theorem sz58 : (Tryz.prog.info? 58).map (·.size) = some 1 := by kernel_rfl
theorem sz60 : (Tryz.prog.info? 60).map (·.size) = some 5 := by kernel_rfl
theorem zr60 : (Tryz.prog.info? 60).map (·.zero) = some (some (.agg #[(.string ⟨#[]⟩), (.string ⟨#[]⟩), (.string ⟨#[]⟩), (.int .i64 0), (.slice none 0 0)])) := by kernel_rfl
theorem zc60 : (Tryz.prog.info? 60).map (fun i => i.zero.map Value.cells) = some (some #[(.string ⟨#[]⟩), (.string ⟨#[]⟩), (.string ⟨#[]⟩), (.int .i64 0), (.slice none 0 0)]) := by kernel_rfl
theorem eo60 : zdz Tryz.prog 60 5 80 = true := by kernel_rfl
theorem zbI : zbg Tryz.prog 60 0 = some (0, 1) := by kernel_rfl
theorem zcA : zbg Tryz.prog 60 1 = some (1, 1) := by kernel_rfl
theorem zdY : zbg Tryz.prog 60 2 = some (2, 1) := by kernel_rfl
theorem zff : zbg Tryz.prog 60 3 = some (3, 1) := by kernel_rfl
theorem zbk : zbg Tryz.prog 60 4 = some (4, 1) := by kernel_rfl
theorem pl60 : zdQ Tryz.prog 60 = some [(0, 1), (1, 1), (2, 1), (3, 1), (4, 1)] := by kernel_rfl
theorem F19 : type_of% Tryz.func19 := Tryz.func19
theorem F20 : type_of% Tryz.func20 := Tryz.func20
theorem F21 : type_of% Tryz.func21 := Tryz.func21
theorem F22 : type_of% Tryz.func22 := Tryz.func22
theorem F23 : type_of% Tryz.func23 := Tryz.func23
theorem F24 : type_of% Tryz.func24 := Tryz.func24
theorem F25 : type_of% Tryz.func25 := Tryz.func25
theorem F26 : type_of% Tryz.func26 := Tryz.func26
theorem F27 : type_of% Tryz.func27 := Tryz.func27
theorem F41 : type_of% Tryz.func41 := Tryz.func41
theorem F44 : type_of% Tryz.func44 := Tryz.func44
theorem F49 : type_of% Tryz.func49 := Tryz.func49
theorem F50 : type_of% Tryz.func50 := Tryz.func50
theorem F51 : type_of% Tryz.func51 := Tryz.func51
theorem F55 : type_of% Tryz.func55 := Tryz.func55
theorem F79 : type_of% Tryz.func79 := Tryz.func79
theorem U3 : type_of% Tryz.underlying3 := Tryz.underlying3
theorem U4 : type_of% Tryz.underlying4 := Tryz.underlying4
theorem U9 : type_of% Tryz.underlying9 := Tryz.underlying9
theorem U22 : type_of% Tryz.underlying22 := Tryz.underlying22
theorem U24 : type_of% Tryz.underlying24 := Tryz.underlying24
theorem U27 : type_of% Tryz.underlying27 := Tryz.underlying27
theorem U29 : type_of% Tryz.underlying29 := Tryz.underlying29
theorem U30 : type_of% Tryz.underlying30 := Tryz.underlying30
theorem U35 : type_of% Tryz.underlying35 := Tryz.underlying35
theorem U40 : type_of% Tryz.underlying40 := Tryz.underlying40
theorem U58 : type_of% Tryz.underlying58 := Tryz.underlying58
theorem U60 : type_of% Tryz.underlying60 := Tryz.underlying60
theorem U89 : type_of% Tryz.underlying89 := Tryz.underlying89
end Go.Proofs.YtkdfdcodkeclmaaGreatDoor
