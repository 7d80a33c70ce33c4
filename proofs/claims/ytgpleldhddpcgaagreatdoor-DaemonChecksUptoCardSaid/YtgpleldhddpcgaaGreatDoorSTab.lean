/- Facts on the types of the program: sizes, zero values, fields. -/
import Derived.Test.YtgpleldhddpcgaaGreatDoorProg
import Derived.Test.YtgpleldhddpcgaaGreatDoorSMa2
namespace Go.Proofs.YtgpleldhddpcgaaGreatDoor
set_option linter.unusedVariables false
theorem sz3 : (Tryz.prog.info? 3).map (·.size) = some 1 := by kernel_rfl
theorem zc3 : (Tryz.prog.info? 3).map (fun i => i.zero.map Value.cells) = some (some #[(.int .i64 0)]) := by kernel_rfl
theorem eo3 : zdt Tryz.prog 3 1 8 = true := by kernel_rfl
theorem zr4 : (Tryz.prog.info? 4).map (·.zero) = some (some (.bool false)) := by kernel_rfl
theorem sz5 : (Tryz.prog.info? 5).map (·.size) = some 1 := by kernel_rfl
theorem zc5 : (Tryz.prog.info? 5).map (fun i => i.zero.map Value.cells) = some (some #[(.int .u8 0)]) := by kernel_rfl
theorem eo5 : zdt Tryz.prog 5 1 1 = true := by kernel_rfl
theorem sz9 : (Tryz.prog.info? 9).map (·.size) = some 1 := by kernel_rfl
theorem zc9 : (Tryz.prog.info? 9).map (fun i => i.zero.map Value.cells) = some (some #[(.string ⟨#[]⟩)]) := by kernel_rfl
theorem sz22 : (Tryz.prog.info? 22).map (·.size) = some 1 := by kernel_rfl
theorem sz24 : (Tryz.prog.info? 24).map (·.size) = some 3 := by kernel_rfl
theorem zr24 : (Tryz.prog.info? 24).map (·.zero) = some (some (.agg #[(.string ⟨#[]⟩), (.int .i64 0), (.slice none 0 0)])) := by kernel_rfl
theorem zbo : zaB Tryz.prog 24 0 = some (0, 1) := by kernel_rfl
theorem zdP : zaB Tryz.prog 24 1 = some (1, 1) := by kernel_rfl
theorem zbO : zaB Tryz.prog 24 2 = some (2, 1) := by kernel_rfl
theorem sz25 : (Tryz.prog.info? 25).map (·.size) = some 1 := by kernel_rfl
theorem sz26 : (Tryz.prog.info? 26).map (·.size) = some 1 := by kernel_rfl
theorem sz33 : (Tryz.prog.info? 33).map (·.size) = some 1 := by kernel_rfl
theorem sz35 : (Tryz.prog.info? 35).map (·.size) = some 7 := by kernel_rfl
theorem zr35 : (Tryz.prog.info? 35).map (·.zero) = some (some (.agg #[(.bool false), (.slice none 0 0), (.string ⟨#[]⟩), (.int .i64 0), (.slice none 0 0), (.string ⟨#[]⟩), (.int .i64 0)])) := by kernel_rfl
theorem zgS : zaB Tryz.prog 35 0 = some (0, 1) := by kernel_rfl
theorem zc7 : zaB Tryz.prog 35 1 = some (1, 1) := by kernel_rfl
theorem zcD : zaB Tryz.prog 35 2 = some (2, 3) := by kernel_rfl
theorem zdO : zaB Tryz.prog 35 3 = some (5, 1) := by kernel_rfl
theorem zdN : zaB Tryz.prog 35 4 = some (6, 1) := by kernel_rfl
theorem sz40 : (Tryz.prog.info? 40).map (·.size) = some 1 := by kernel_rfl
theorem sz42 : (Tryz.prog.info? 42).map (·.size) = some 15 := by kernel_rfl
theorem zr42 : (Tryz.prog.info? 42).map (·.zero) = some (some (.agg (List.toArray ((.string ⟨#[]⟩) :: (.int .i64 0) :: (.slice none 0 0) :: (.slice none 0 0) :: (.slice none 0 0) :: (.bool false) :: (.slice none 0 0) :: (.string ⟨#[]⟩) :: (.int .i64 0) :: (.slice none 0 0) :: (.string ⟨#[]⟩) :: (.int .i64 0) :: (.int .i64 0) :: (.int .i64 0) :: (.int .i64 0) :: [])))) := by kernel_rfl
theorem zbK : zaB Tryz.prog 42 0 = some (0, 3) := by kernel_rfl
theorem zdr : zaB Tryz.prog 42 1 = some (3, 1) := by kernel_rfl
theorem zct : zaB Tryz.prog 42 2 = some (4, 1) := by kernel_rfl
theorem zcC : zaB Tryz.prog 42 3 = some (5, 7) := by kernel_rfl
theorem zfA : zaB Tryz.prog 42 4 = some (12, 1) := by kernel_rfl
theorem zc6 : zaB Tryz.prog 42 5 = some (13, 1) := by kernel_rfl
theorem zfz : zaB Tryz.prog 42 6 = some (14, 1) := by kernel_rfl
theorem sz47 : (Tryz.prog.info? 47).map (·.size) = some 1 := by kernel_rfl
theorem sz49 : (Tryz.prog.info? 49).map (·.size) = some 5 := by kernel_rfl
theorem zr49 : (Tryz.prog.info? 49).map (·.zero) = some (some (.agg #[(.string ⟨#[]⟩), (.string ⟨#[]⟩), (.string ⟨#[]⟩), (.int .i64 0), (.slice none 0 0)])) := by kernel_rfl
theorem zc49 : (Tryz.prog.info? 49).map (fun i => i.zero.map Value.cells) = some (some #[(.string ⟨#[]⟩), (.string ⟨#[]⟩), (.string ⟨#[]⟩), (.int .i64 0), (.slice none 0 0)]) := by kernel_rfl
theorem eo49 : zdt Tryz.prog 49 5 80 = true := by kernel_rfl
theorem zbJ : zaB Tryz.prog 49 0 = some (0, 1) := by kernel_rfl
theorem zck : zaB Tryz.prog 49 1 = some (1, 1) := by kernel_rfl
theorem zdM : zaB Tryz.prog 49 2 = some (2, 1) := by kernel_rfl
theorem zes : zaB Tryz.prog 49 3 = some (3, 1) := by kernel_rfl
theorem zcj : zaB Tryz.prog 49 4 = some (4, 1) := by kernel_rfl
theorem sz52 : (Tryz.prog.info? 52).map (·.size) = some 2 := by kernel_rfl
theorem zr52 : (Tryz.prog.info? 52).map (·.zero) = some (some (.agg #[(.int .u32 0), (.int .i64 0)])) := by kernel_rfl
theorem zc52 : (Tryz.prog.info? 52).map (fun i => i.zero.map Value.cells) = some (some #[(.int .u32 0), (.int .i64 0)]) := by kernel_rfl
theorem eo52 : zdt Tryz.prog 52 2 16 = true := by kernel_rfl
theorem fi52_0 : zaB Tryz.prog 52 0 = some (0, 1) := by kernel_rfl
theorem fi52_1 : zaB Tryz.prog 52 1 = some (1, 1) := by kernel_rfl
theorem pl52 : zc0 Tryz.prog 52 = some [(0, 1), (1, 1)] := by kernel_rfl
theorem sz55 : (Tryz.prog.info? 55).map (·.size) = some 4 := by kernel_rfl
theorem zr55 : (Tryz.prog.info? 55).map (·.zero) = some (some (.agg #[(.int .u32 0), (.int .i64 0), (.string ⟨#[]⟩), (.int .i64 0)])) := by kernel_rfl
theorem zc55 : (Tryz.prog.info? 55).map (fun i => i.zero.map Value.cells) = some (some #[(.int .u32 0), (.int .i64 0), (.string ⟨#[]⟩), (.int .i64 0)]) := by kernel_rfl
theorem eo55 : zdt Tryz.prog 55 4 40 = true := by kernel_rfl
theorem zer : zaB Tryz.prog 55 0 = some (0, 2) := by kernel_rfl
theorem fi55_1 : zaB Tryz.prog 55 1 = some (2, 1) := by kernel_rfl
theorem zgR : zaB Tryz.prog 55 2 = some (3, 1) := by kernel_rfl
theorem pl55 : zc0 Tryz.prog 55 = some [(0, 2), (2, 1), (3, 1)] := by kernel_rfl
theorem zr67 : (Tryz.prog.info? 67).map (·.zero) = some (some (.agg #[(.int .i64 0), (.int .i64 0), (.int .i64 0)])) := by kernel_rfl
theorem sz72 : (Tryz.prog.info? 72).map (·.size) = some 3 := by kernel_rfl
theorem sz74 : (Tryz.prog.info? 74).map (·.size) = some 11 := by kernel_rfl
theorem zr74 : (Tryz.prog.info? 74).map (·.zero) = some (some (.agg #[(.bool false), (.string ⟨#[]⟩), (.string ⟨#[]⟩), (.int .i64 0), (.int .i64 0), (.int .i64 0), (.int .i64 0), (.bool false), (.int .i64 0), (.int .u64 0), (.bool false)])) := by kernel_rfl
theorem zc74 : (Tryz.prog.info? 74).map (fun i => i.zero.map Value.cells) = some (some #[(.bool false), (.string ⟨#[]⟩), (.string ⟨#[]⟩), (.int .i64 0), (.int .i64 0), (.int .i64 0), (.int .i64 0), (.bool false), (.int .i64 0), (.int .u64 0), (.bool false)]) := by kernel_rfl
theorem fi74_0 : zaB Tryz.prog 74 0 = some (0, 1) := by kernel_rfl
theorem fi74_1 : zaB Tryz.prog 74 1 = some (1, 1) := by kernel_rfl
theorem fi74_2 : zaB Tryz.prog 74 2 = some (2, 1) := by kernel_rfl
theorem zdL : zaB Tryz.prog 74 3 = some (3, 1) := by kernel_rfl
theorem fi74_4 : zaB Tryz.prog 74 4 = some (4, 1) := by kernel_rfl
theorem fi74_5 : zaB Tryz.prog 74 5 = some (5, 1) := by kernel_rfl
theorem fi74_6 : zaB Tryz.prog 74 6 = some (6, 1) := by kernel_rfl
theorem fi74_7 : zaB Tryz.prog 74 7 = some (7, 3) := by kernel_rfl
theorem pl74 : zc0 Tryz.prog 74 = some [(0, 1), (1, 1), (2, 1), (3, 1), (4, 1), (5, 1), (6, 1), (7, 3), (10, 1)] := by kernel_rfl
theorem sz76 : (Tryz.prog.info? 76).map (·.size) = some 33 := by kernel_rfl
theorem zr76 : (Tryz.prog.info? 76).map (·.zero) = some (some (.agg (List.toArray ((.bool false) :: (.string ⟨#[]⟩) :: (.string ⟨#[]⟩) :: (.int .i64 0) :: (.int .i64 0) :: (.int .i64 0) :: (.int .i64 0) :: (.bool false) :: (.int .i64 0) :: (.int .u64 0) :: (.bool false) :: (.bool false) :: (.string ⟨#[]⟩) :: (.string ⟨#[]⟩) :: (.int .i64 0) :: (.int .i64 0) :: (.int .i64 0) :: (.int .i64 0) :: (.bool false) :: (.int .i64 0) :: (.int .u64 0) :: (.bool false) :: (.bool false) :: (.string ⟨#[]⟩) :: (.string ⟨#[]⟩) :: (.int .i64 0) :: (.int .i64 0) :: (.int .i64 0) :: (.int .i64 0) :: (.bool false) :: (.int .i64 0) :: (.int .u64 0) :: (.bool false) :: [])))) := by kernel_rfl
theorem fi76_0 : zaB Tryz.prog 76 0 = some (0, 11) := by kernel_rfl
theorem fi76_1 : zaB Tryz.prog 76 1 = some (11, 11) := by kernel_rfl
theorem fi76_2 : zaB Tryz.prog 76 2 = some (22, 11) := by kernel_rfl
theorem pl76 : zc0 Tryz.prog 76 = some [(0, 11), (11, 11), (22, 11)] := by kernel_rfl
theorem sz78 : (Tryz.prog.info? 78).map (·.size) = some 5 := by kernel_rfl
theorem zr78 : (Tryz.prog.info? 78).map (·.zero) = some (some (.agg #[(.bool false), (.int .i64 0), (.string ⟨#[]⟩), (.int .i64 0), (.int .i64 0)])) := by kernel_rfl
theorem zdK : zaB Tryz.prog 78 0 = some (0, 1) := by kernel_rfl
theorem zfy : zaB Tryz.prog 78 1 = some (1, 1) := by kernel_rfl
theorem zgo : zaB Tryz.prog 78 2 = some (2, 1) := by kernel_rfl
theorem fi78_3 : zaB Tryz.prog 78 3 = some (3, 1) := by kernel_rfl
theorem zd3 : zaB Tryz.prog 78 4 = some (4, 1) := by kernel_rfl
theorem pl78 : zc0 Tryz.prog 78 = some [(0, 1), (1, 1), (2, 1), (3, 1), (4, 1)] := by kernel_rfl
theorem sz79 : (Tryz.prog.info? 79).map (·.size) = some 1 := by kernel_rfl
theorem sz81 : (Tryz.prog.info? 81).map (·.size) = some 41 := by kernel_rfl
theorem zr81 : (Tryz.prog.info? 81).map (·.zero) = some (some (.agg (List.toArray ((.string ⟨#[]⟩) :: (.string ⟨#[]⟩) :: (.bool false) :: (.string ⟨#[]⟩) :: (.string ⟨#[]⟩) :: (.int .i64 0) :: (.int .i64 0) :: (.int .i64 0) :: (.int .i64 0) :: (.bool false) :: (.int .i64 0) :: (.int .u64 0) :: (.bool false) :: (.bool false) :: (.string ⟨#[]⟩) :: (.string ⟨#[]⟩) :: (.int .i64 0) :: (.int .i64 0) :: (.int .i64 0) :: (.int .i64 0) :: (.bool false) :: (.int .i64 0) :: (.int .u64 0) :: (.bool false) :: (.bool false) :: (.string ⟨#[]⟩) :: (.string ⟨#[]⟩) :: (.int .i64 0) :: (.int .i64 0) :: (.int .i64 0) :: (.int .i64 0) :: (.bool false) :: (.int .i64 0) :: (.int .u64 0) :: (.bool false) :: (.bool false) :: (.int .i64 0) :: (.string ⟨#[]⟩) :: (.int .i64 0) :: (.int .i64 0) :: (.slice none 0 0) :: [])))) := by kernel_rfl
theorem zc81 : (Tryz.prog.info? 81).map (fun i => i.zero.map Value.cells) = some (some (List.toArray ((.string ⟨#[]⟩) :: (.string ⟨#[]⟩) :: (.bool false) :: (.string ⟨#[]⟩) :: (.string ⟨#[]⟩) :: (.int .i64 0) :: (.int .i64 0) :: (.int .i64 0) :: (.int .i64 0) :: (.bool false) :: (.int .i64 0) :: (.int .u64 0) :: (.bool false) :: (.bool false) :: (.string ⟨#[]⟩) :: (.string ⟨#[]⟩) :: (.int .i64 0) :: (.int .i64 0) :: (.int .i64 0) :: (.int .i64 0) :: (.bool false) :: (.int .i64 0) :: (.int .u64 0) :: (.bool false) :: (.bool false) :: (.string ⟨#[]⟩) :: (.string ⟨#[]⟩) :: (.int .i64 0) :: (.int .i64 0) :: (.int .i64 0) :: (.int .i64 0) :: (.bool false) :: (.int .i64 0) :: (.int .u64 0) :: (.bool false) :: (.bool false) :: (.int .i64 0) :: (.string ⟨#[]⟩) :: (.int .i64 0) :: (.int .i64 0) :: (.slice none 0 0) :: []))) := by kernel_rfl
theorem eo81 : zdt Tryz.prog 81 41 416 = true := by kernel_rfl
theorem zc4 : zaB Tryz.prog 81 0 = some (0, 1) := by kernel_rfl
theorem zci : zaB Tryz.prog 81 1 = some (1, 1) := by kernel_rfl
theorem zbI : zaB Tryz.prog 81 2 = some (2, 33) := by kernel_rfl
theorem zb1 : zaB Tryz.prog 81 3 = some (35, 5) := by kernel_rfl
theorem zcs : zaB Tryz.prog 81 4 = some (40, 1) := by kernel_rfl
theorem sz86 : (Tryz.prog.info? 86).map (·.size) = some 5 := by kernel_rfl
theorem zr86 : (Tryz.prog.info? 86).map (·.zero) = some (some (.agg #[(.int .i64 0), (.string ⟨#[]⟩), (.int .i64 0), (.int .u32 0), (.int .i64 0)])) := by kernel_rfl
theorem eo86 : zdt Tryz.prog 86 5 48 = true := by kernel_rfl
theorem zay : zaB Tryz.prog 86 0 = some (0, 1) := by kernel_rfl
theorem zaM : zaB Tryz.prog 86 1 = some (1, 1) := by kernel_rfl
theorem zaS : zaB Tryz.prog 86 2 = some (2, 1) := by kernel_rfl
theorem zbc : zaB Tryz.prog 86 3 = some (3, 2) := by kernel_rfl
theorem sz89 : (Tryz.prog.info? 89).map (·.size) = some 1 := by kernel_rfl
theorem sz91 : (Tryz.prog.info? 91).map (·.size) = some 3 := by kernel_rfl
theorem zr91 : (Tryz.prog.info? 91).map (·.zero) = some (some (.agg #[(.int .u32 0), (.int .u32 0), (.slice none 0 0)])) := by kernel_rfl
theorem zc91 : (Tryz.prog.info? 91).map (fun i => i.zero.map Value.cells) = some (some #[(.int .u32 0), (.int .u32 0), (.slice none 0 0)]) := by kernel_rfl
theorem eo91 : zdt Tryz.prog 91 3 32 = true := by kernel_rfl
theorem fi91_0 : zaB Tryz.prog 91 0 = some (0, 1) := by kernel_rfl
theorem zgQ : zaB Tryz.prog 91 1 = some (1, 1) := by kernel_rfl
theorem zd2 : zaB Tryz.prog 91 2 = some (2, 1) := by kernel_rfl
theorem zcc : (Tryz.prog.info? 100).map (·.size) = some 1 := by kernel_rfl
theorem sz126 : (Tryz.prog.info? 126).map (·.size) = some 5 := by kernel_rfl
theorem zr126 : (Tryz.prog.info? 126).map (·.zero) = some (some (.agg #[(.int .i64 0), (.int .i64 0), (.int .i64 0), (.int .i64 0), (.int .i64 0)])) := by kernel_rfl
theorem sz144 : (Tryz.prog.info? 144).map (·.size) = some 2 := by kernel_rfl
theorem sz146 : (Tryz.prog.info? 146).map (·.size) = some 5 := by kernel_rfl
theorem zr146 : (Tryz.prog.info? 146).map (·.zero) = some (some (.agg #[(.int .u32 0), (.int .i64 0), (.string ⟨#[]⟩), (.pointer none), (.pointer none)])) := by kernel_rfl
theorem zbB : zaB Tryz.prog 146 0 = some (0, 2) := by kernel_rfl
theorem fi146_1 : zaB Tryz.prog 146 1 = some (2, 1) := by kernel_rfl
theorem zbH : zaB Tryz.prog 146 2 = some (3, 2) := by kernel_rfl
theorem pl146 : zc0 Tryz.prog 146 = some [(0, 2), (2, 1), (3, 2)] := by kernel_rfl
theorem zr168 : (Tryz.prog.info? 168).map (·.zero) = some (some (.agg (List.toArray ((.bool false) :: (.string ⟨#[]⟩) :: (.string ⟨#[]⟩) :: (.int .i64 0) :: (.int .i64 0) :: (.int .i64 0) :: (.int .i64 0) :: (.bool false) :: (.int .i64 0) :: (.int .u64 0) :: (.bool false) :: (.bool false) :: (.string ⟨#[]⟩) :: (.string ⟨#[]⟩) :: (.int .i64 0) :: (.int .i64 0) :: (.int .i64 0) :: (.int .i64 0) :: (.bool false) :: (.int .i64 0) :: (.int .u64 0) :: (.bool false) :: (.bool false) :: (.string ⟨#[]⟩) :: (.string ⟨#[]⟩) :: (.int .i64 0) :: (.int .i64 0) :: (.int .i64 0) :: (.int .i64 0) :: (.bool false) :: (.int .i64 0) :: (.int .u64 0) :: (.bool false) :: [])))) := by kernel_rfl
theorem zr201 : (Tryz.prog.info? 201).map (·.zero) = some (some (.agg #[(.string ⟨#[]⟩), (.string ⟨#[]⟩)])) := by kernel_rfl
end Go.Proofs.YtgpleldhddpcgaaGreatDoor
