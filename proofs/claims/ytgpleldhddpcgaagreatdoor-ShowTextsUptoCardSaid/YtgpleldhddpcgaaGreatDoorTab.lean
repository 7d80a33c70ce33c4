/- Facts on the types of the program: sizes, zero values, fields. -/
import Derived.Test.YtgpleldhddpcgaaGreatDoorProg
import Derived.Test.YtgpleldhddpcgaaGreatDoorMa2
namespace Go.Proofs.YtgpleldhddpcgaaGreatDoor
set_option linter.unusedVariables false
theorem sz0 : (Tryz.prog.info? 0).map (·.size) = some 1 := by kernel_rfl
theorem sz1 : (Tryz.prog.info? 1).map (·.size) = some 1 := by kernel_rfl
theorem zr1 : (Tryz.prog.info? 1).map (·.zero) = some (some .nilFunc) := by kernel_rfl
theorem zc1 : (Tryz.prog.info? 1).map (fun i => i.zero.map Value.cells) = some (some #[.nilFunc]) := by kernel_rfl
theorem eo1 : elemOK Tryz.prog 1 1 8 = true := by kernel_rfl
theorem sz2 : (Tryz.prog.info? 2).map (·.size) = some 1 := by kernel_rfl
theorem zr2 : (Tryz.prog.info? 2).map (·.zero) = some (some (.int .i64 0)) := by kernel_rfl
theorem zc2 : (Tryz.prog.info? 2).map (fun i => i.zero.map Value.cells) = some (some #[(.int .i64 0)]) := by kernel_rfl
theorem eo2 : elemOK Tryz.prog 2 1 8 = true := by kernel_rfl
theorem sz3 : (Tryz.prog.info? 3).map (·.size) = some 1 := by kernel_rfl
theorem zr3 : (Tryz.prog.info? 3).map (·.zero) = some (some (.int .i64 0)) := by kernel_rfl
theorem zc3 : (Tryz.prog.info? 3).map (fun i => i.zero.map Value.cells) = some (some #[(.int .i64 0)]) := by kernel_rfl
theorem eo3 : elemOK Tryz.prog 3 1 8 = true := by kernel_rfl
theorem sz4 : (Tryz.prog.info? 4).map (·.size) = some 1 := by kernel_rfl
theorem zr4 : (Tryz.prog.info? 4).map (·.zero) = some (some (.bool false)) := by kernel_rfl
theorem zc4 : (Tryz.prog.info? 4).map (fun i => i.zero.map Value.cells) = some (some #[(.bool false)]) := by kernel_rfl
theorem eo4 : elemOK Tryz.prog 4 1 1 = true := by kernel_rfl
theorem sz5 : (Tryz.prog.info? 5).map (·.size) = some 1 := by kernel_rfl
theorem zr5 : (Tryz.prog.info? 5).map (·.zero) = some (some (.int .u8 0)) := by kernel_rfl
theorem zc5 : (Tryz.prog.info? 5).map (fun i => i.zero.map Value.cells) = some (some #[(.int .u8 0)]) := by kernel_rfl
theorem eo5 : elemOK Tryz.prog 5 1 1 = true := by kernel_rfl
theorem sz6 : (Tryz.prog.info? 6).map (·.size) = some 1 := by kernel_rfl
theorem zr6 : (Tryz.prog.info? 6).map (·.zero) = some (some (.int .u8 0)) := by kernel_rfl
theorem zc6 : (Tryz.prog.info? 6).map (fun i => i.zero.map Value.cells) = some (some #[(.int .u8 0)]) := by kernel_rfl
theorem eo6 : elemOK Tryz.prog 6 1 1 = true := by kernel_rfl
theorem sz7 : (Tryz.prog.info? 7).map (·.size) = some 4 := by kernel_rfl
theorem zr7 : (Tryz.prog.info? 7).map (·.zero) = some (some (.agg #[(.int .i64 0), (.int .i64 0), (.bool false), (.int .u8 0)])) := by kernel_rfl
theorem zc7 : (Tryz.prog.info? 7).map (fun i => i.zero.map Value.cells) = some (some #[(.int .i64 0), (.int .i64 0), (.bool false), (.int .u8 0)]) := by kernel_rfl
theorem eo7 : elemOK Tryz.prog 7 4 24 = true := by kernel_rfl
theorem fi7_0 : fieldInfo Tryz.prog 7 0 = some (0, 1) := by kernel_rfl
theorem fp7_0 : fieldPart Tryz.prog 7 0 = some (false, 0, 1) := by kernel_rfl
theorem fi7_1 : fieldInfo Tryz.prog 7 1 = some (1, 1) := by kernel_rfl
theorem fp7_1 : fieldPart Tryz.prog 7 1 = some (false, 1, 1) := by kernel_rfl
theorem fi7_2 : fieldInfo Tryz.prog 7 2 = some (2, 1) := by kernel_rfl
theorem fp7_2 : fieldPart Tryz.prog 7 2 = some (false, 2, 1) := by kernel_rfl
theorem fi7_3 : fieldInfo Tryz.prog 7 3 = some (3, 1) := by kernel_rfl
theorem fp7_3 : fieldPart Tryz.prog 7 3 = some (false, 3, 1) := by kernel_rfl
theorem pl7 : placesOf Tryz.prog 7 = some [(0, 1), (1, 1), (2, 1), (3, 1)] := by kernel_rfl
theorem sz8 : (Tryz.prog.info? 8).map (·.size) = some 4 := by kernel_rfl
theorem zr8 : (Tryz.prog.info? 8).map (·.zero) = some (some (.agg #[(.int .i64 0), (.int .i64 0), (.bool false), (.int .u8 0)])) := by kernel_rfl
theorem zc8 : (Tryz.prog.info? 8).map (fun i => i.zero.map Value.cells) = some (some #[(.int .i64 0), (.int .i64 0), (.bool false), (.int .u8 0)]) := by kernel_rfl
theorem eo8 : elemOK Tryz.prog 8 4 24 = true := by kernel_rfl
theorem fi8_0 : fieldInfo Tryz.prog 8 0 = some (0, 1) := by kernel_rfl
theorem fp8_0 : fieldPart Tryz.prog 8 0 = some (false, 0, 1) := by kernel_rfl
theorem fi8_1 : fieldInfo Tryz.prog 8 1 = some (1, 1) := by kernel_rfl
theorem fp8_1 : fieldPart Tryz.prog 8 1 = some (false, 1, 1) := by kernel_rfl
theorem fi8_2 : fieldInfo Tryz.prog 8 2 = some (2, 1) := by kernel_rfl
theorem fp8_2 : fieldPart Tryz.prog 8 2 = some (false, 2, 1) := by kernel_rfl
theorem fi8_3 : fieldInfo Tryz.prog 8 3 = some (3, 1) := by kernel_rfl
theorem fp8_3 : fieldPart Tryz.prog 8 3 = some (false, 3, 1) := by kernel_rfl
theorem pl8 : placesOf Tryz.prog 8 = some [(0, 1), (1, 1), (2, 1), (3, 1)] := by kernel_rfl
theorem sz9 : (Tryz.prog.info? 9).map (·.size) = some 1 := by kernel_rfl
theorem zr9 : (Tryz.prog.info? 9).map (·.zero) = some (some (.string ⟨#[]⟩)) := by kernel_rfl
theorem zc9 : (Tryz.prog.info? 9).map (fun i => i.zero.map Value.cells) = some (some #[(.string ⟨#[]⟩)]) := by kernel_rfl
theorem eo9 : elemOK Tryz.prog 9 1 16 = true := by kernel_rfl
theorem sz10 : (Tryz.prog.info? 10).map (·.size) = some 1 := by kernel_rfl
theorem zr10 : (Tryz.prog.info? 10).map (·.zero) = some (some (.string ⟨#[]⟩)) := by kernel_rfl
theorem zc10 : (Tryz.prog.info? 10).map (fun i => i.zero.map Value.cells) = some (some #[(.string ⟨#[]⟩)]) := by kernel_rfl
theorem eo10 : elemOK Tryz.prog 10 1 16 = true := by kernel_rfl
theorem sz11 : (Tryz.prog.info? 11).map (·.size) = some 1 := by kernel_rfl
theorem zr11 : (Tryz.prog.info? 11).map (·.zero) = some (some (.string ⟨#[]⟩)) := by kernel_rfl
theorem zc11 : (Tryz.prog.info? 11).map (fun i => i.zero.map Value.cells) = some (some #[(.string ⟨#[]⟩)]) := by kernel_rfl
theorem eo11 : elemOK Tryz.prog 11 1 16 = true := by kernel_rfl
theorem sz12 : (Tryz.prog.info? 12).map (·.size) = some 1 := by kernel_rfl
theorem zr12 : (Tryz.prog.info? 12).map (·.zero) = some (some (.int .u64 0)) := by kernel_rfl
theorem zc12 : (Tryz.prog.info? 12).map (fun i => i.zero.map Value.cells) = some (some #[(.int .u64 0)]) := by kernel_rfl
theorem eo12 : elemOK Tryz.prog 12 1 8 = true := by kernel_rfl
theorem sz13 : (Tryz.prog.info? 13).map (·.size) = some 2 := by kernel_rfl
theorem zr13 : (Tryz.prog.info? 13).map (·.zero) = some (some (.agg #[(.string ⟨#[]⟩), (.int .u64 0)])) := by kernel_rfl
theorem zc13 : (Tryz.prog.info? 13).map (fun i => i.zero.map Value.cells) = some (some #[(.string ⟨#[]⟩), (.int .u64 0)]) := by kernel_rfl
theorem eo13 : elemOK Tryz.prog 13 2 24 = true := by kernel_rfl
theorem fi13_0 : fieldInfo Tryz.prog 13 0 = some (0, 1) := by kernel_rfl
theorem fp13_0 : fieldPart Tryz.prog 13 0 = some (false, 0, 1) := by kernel_rfl
theorem fi13_1 : fieldInfo Tryz.prog 13 1 = some (1, 1) := by kernel_rfl
theorem fp13_1 : fieldPart Tryz.prog 13 1 = some (false, 1, 1) := by kernel_rfl
theorem pl13 : placesOf Tryz.prog 13 = some [(0, 1), (1, 1)] := by kernel_rfl
theorem sz14 : (Tryz.prog.info? 14).map (·.size) = some 2 := by kernel_rfl
theorem zr14 : (Tryz.prog.info? 14).map (·.zero) = some (some (.agg #[(.string ⟨#[]⟩), (.int .u64 0)])) := by kernel_rfl
theorem zc14 : (Tryz.prog.info? 14).map (fun i => i.zero.map Value.cells) = some (some #[(.string ⟨#[]⟩), (.int .u64 0)]) := by kernel_rfl
theorem eo14 : elemOK Tryz.prog 14 2 24 = true := by kernel_rfl
theorem fi14_0 : fieldInfo Tryz.prog 14 0 = some (0, 1) := by kernel_rfl
theorem fp14_0 : fieldPart Tryz.prog 14 0 = some (false, 0, 1) := by kernel_rfl
theorem fi14_1 : fieldInfo Tryz.prog 14 1 = some (1, 1) := by kernel_rfl
theorem fp14_1 : fieldPart Tryz.prog 14 1 = some (false, 1, 1) := by kernel_rfl
theorem pl14 : placesOf Tryz.prog 14 = some [(0, 1), (1, 1)] := by kernel_rfl
theorem sz15 : (Tryz.prog.info? 15).map (·.size) = some 1 := by kernel_rfl
theorem zr15 : (Tryz.prog.info? 15).map (·.zero) = some (some (.pointer none)) := by kernel_rfl
theorem zc15 : (Tryz.prog.info? 15).map (fun i => i.zero.map Value.cells) = some (some #[(.pointer none)]) := by kernel_rfl
theorem eo15 : elemOK Tryz.prog 15 1 8 = true := by kernel_rfl
theorem sz16 : (Tryz.prog.info? 16).map (·.size) = some 1 := by kernel_rfl
theorem zr16 : (Tryz.prog.info? 16).map (·.zero) = some (some (.pointer none)) := by kernel_rfl
theorem zc16 : (Tryz.prog.info? 16).map (fun i => i.zero.map Value.cells) = some (some #[(.pointer none)]) := by kernel_rfl
theorem eo16 : elemOK Tryz.prog 16 1 8 = true := by kernel_rfl
theorem sz17 : (Tryz.prog.info? 17).map (·.size) = some 1 := by kernel_rfl
theorem zr17 : (Tryz.prog.info? 17).map (·.zero) = some (some (.pointer none)) := by kernel_rfl
theorem zc17 : (Tryz.prog.info? 17).map (fun i => i.zero.map Value.cells) = some (some #[(.pointer none)]) := by kernel_rfl
theorem eo17 : elemOK Tryz.prog 17 1 8 = true := by kernel_rfl
theorem sz18 : (Tryz.prog.info? 18).map (·.size) = some 1 := by kernel_rfl
theorem zr18 : (Tryz.prog.info? 18).map (·.zero) = some (some (.agg #[(.pointer none)])) := by kernel_rfl
theorem zc18 : (Tryz.prog.info? 18).map (fun i => i.zero.map Value.cells) = some (some #[(.pointer none)]) := by kernel_rfl
theorem eo18 : elemOK Tryz.prog 18 1 8 = true := by kernel_rfl
theorem fi18_0 : fieldInfo Tryz.prog 18 0 = some (0, 1) := by kernel_rfl
theorem fp18_0 : fieldPart Tryz.prog 18 0 = some (false, 0, 1) := by kernel_rfl
theorem pl18 : placesOf Tryz.prog 18 = some [(0, 1)] := by kernel_rfl
theorem sz19 : (Tryz.prog.info? 19).map (·.size) = some 1 := by kernel_rfl
theorem zr19 : (Tryz.prog.info? 19).map (·.zero) = some (some (.agg #[(.pointer none)])) := by kernel_rfl
theorem zc19 : (Tryz.prog.info? 19).map (fun i => i.zero.map Value.cells) = some (some #[(.pointer none)]) := by kernel_rfl
theorem eo19 : elemOK Tryz.prog 19 1 8 = true := by kernel_rfl
theorem fi19_0 : fieldInfo Tryz.prog 19 0 = some (0, 1) := by kernel_rfl
theorem fp19_0 : fieldPart Tryz.prog 19 0 = some (false, 0, 1) := by kernel_rfl
theorem pl19 : placesOf Tryz.prog 19 = some [(0, 1)] := by kernel_rfl
theorem sz20 : (Tryz.prog.info? 20).map (·.size) = some 1 := by kernel_rfl
theorem zr20 : (Tryz.prog.info? 20).map (·.zero) = some (some .nilIface) := by kernel_rfl
theorem zc20 : (Tryz.prog.info? 20).map (fun i => i.zero.map Value.cells) = some (some #[.nilIface]) := by kernel_rfl
theorem eo20 : elemOK Tryz.prog 20 1 16 = true := by kernel_rfl
theorem sz21 : (Tryz.prog.info? 21).map (·.size) = some 1 := by kernel_rfl
theorem zr21 : (Tryz.prog.info? 21).map (·.zero) = some (some (.int .i32 0)) := by kernel_rfl
theorem zc21 : (Tryz.prog.info? 21).map (fun i => i.zero.map Value.cells) = some (some #[(.int .i32 0)]) := by kernel_rfl
theorem eo21 : elemOK Tryz.prog 21 1 4 = true := by kernel_rfl
theorem sz22 : (Tryz.prog.info? 22).map (·.size) = some 1 := by kernel_rfl
theorem zr22 : (Tryz.prog.info? 22).map (·.zero) = some (some (.slice none 0 0)) := by kernel_rfl
theorem zc22 : (Tryz.prog.info? 22).map (fun i => i.zero.map Value.cells) = some (some #[(.slice none 0 0)]) := by kernel_rfl
theorem eo22 : elemOK Tryz.prog 22 1 24 = true := by kernel_rfl
theorem sz23 : (Tryz.prog.info? 23).map (·.size) = some 3 := by kernel_rfl
theorem zr23 : (Tryz.prog.info? 23).map (·.zero) = some (some (.agg #[(.string ⟨#[]⟩), (.int .i64 0), (.slice none 0 0)])) := by kernel_rfl
theorem zc23 : (Tryz.prog.info? 23).map (fun i => i.zero.map Value.cells) = some (some #[(.string ⟨#[]⟩), (.int .i64 0), (.slice none 0 0)]) := by kernel_rfl
theorem eo23 : elemOK Tryz.prog 23 3 48 = true := by kernel_rfl
theorem fi23_0 : fieldInfo Tryz.prog 23 0 = some (0, 1) := by kernel_rfl
theorem fp23_0 : fieldPart Tryz.prog 23 0 = some (false, 0, 1) := by kernel_rfl
theorem fi23_1 : fieldInfo Tryz.prog 23 1 = some (1, 1) := by kernel_rfl
theorem fp23_1 : fieldPart Tryz.prog 23 1 = some (false, 1, 1) := by kernel_rfl
theorem fi23_2 : fieldInfo Tryz.prog 23 2 = some (2, 1) := by kernel_rfl
theorem fp23_2 : fieldPart Tryz.prog 23 2 = some (false, 2, 1) := by kernel_rfl
theorem pl23 : placesOf Tryz.prog 23 = some [(0, 1), (1, 1), (2, 1)] := by kernel_rfl
theorem sz24 : (Tryz.prog.info? 24).map (·.size) = some 3 := by kernel_rfl
theorem zr24 : (Tryz.prog.info? 24).map (·.zero) = some (some (.agg #[(.string ⟨#[]⟩), (.int .i64 0), (.slice none 0 0)])) := by kernel_rfl
theorem zc24 : (Tryz.prog.info? 24).map (fun i => i.zero.map Value.cells) = some (some #[(.string ⟨#[]⟩), (.int .i64 0), (.slice none 0 0)]) := by kernel_rfl
theorem eo24 : elemOK Tryz.prog 24 3 48 = true := by kernel_rfl
theorem fi24_0 : fieldInfo Tryz.prog 24 0 = some (0, 1) := by kernel_rfl
theorem fp24_0 : fieldPart Tryz.prog 24 0 = some (false, 0, 1) := by kernel_rfl
theorem fi24_1 : fieldInfo Tryz.prog 24 1 = some (1, 1) := by kernel_rfl
theorem fp24_1 : fieldPart Tryz.prog 24 1 = some (false, 1, 1) := by kernel_rfl
theorem fi24_2 : fieldInfo Tryz.prog 24 2 = some (2, 1) := by kernel_rfl
theorem fp24_2 : fieldPart Tryz.prog 24 2 = some (false, 2, 1) := by kernel_rfl
theorem pl24 : placesOf Tryz.prog 24 = some [(0, 1), (1, 1), (2, 1)] := by kernel_rfl
theorem sz25 : (Tryz.prog.info? 25).map (·.size) = some 1 := by kernel_rfl
theorem zr25 : (Tryz.prog.info? 25).map (·.zero) = some (some (.slice none 0 0)) := by kernel_rfl
theorem zc25 : (Tryz.prog.info? 25).map (fun i => i.zero.map Value.cells) = some (some #[(.slice none 0 0)]) := by kernel_rfl
theorem eo25 : elemOK Tryz.prog 25 1 24 = true := by kernel_rfl
theorem sz26 : (Tryz.prog.info? 26).map (·.size) = some 1 := by kernel_rfl
theorem zr26 : (Tryz.prog.info? 26).map (·.zero) = some (some (.int .i64 0)) := by kernel_rfl
theorem zc26 : (Tryz.prog.info? 26).map (fun i => i.zero.map Value.cells) = some (some #[(.int .i64 0)]) := by kernel_rfl
theorem eo26 : elemOK Tryz.prog 26 1 8 = true := by kernel_rfl
theorem sz27 : (Tryz.prog.info? 27).map (·.size) = some 1 := by kernel_rfl
theorem sz28 : (Tryz.prog.info? 28).map (·.size) = some 1 := by kernel_rfl
theorem zr28 : (Tryz.prog.info? 28).map (·.zero) = some (some .nilFunc) := by kernel_rfl
theorem zc28 : (Tryz.prog.info? 28).map (fun i => i.zero.map Value.cells) = some (some #[.nilFunc]) := by kernel_rfl
theorem eo28 : elemOK Tryz.prog 28 1 8 = true := by kernel_rfl
theorem sz29 : (Tryz.prog.info? 29).map (·.size) = some 1 := by kernel_rfl
theorem zr29 : (Tryz.prog.info? 29).map (·.zero) = some (some .nilFunc) := by kernel_rfl
theorem zc29 : (Tryz.prog.info? 29).map (fun i => i.zero.map Value.cells) = some (some #[.nilFunc]) := by kernel_rfl
theorem eo29 : elemOK Tryz.prog 29 1 8 = true := by kernel_rfl
theorem sz30 : (Tryz.prog.info? 30).map (·.size) = some 1 := by kernel_rfl
theorem zr30 : (Tryz.prog.info? 30).map (·.zero) = some (some .nilFunc) := by kernel_rfl
theorem zc30 : (Tryz.prog.info? 30).map (fun i => i.zero.map Value.cells) = some (some #[.nilFunc]) := by kernel_rfl
theorem eo30 : elemOK Tryz.prog 30 1 8 = true := by kernel_rfl
theorem sz31 : (Tryz.prog.info? 31).map (·.size) = some 1 := by kernel_rfl
theorem sz32 : (Tryz.prog.info? 32).map (·.size) = some 1 := by kernel_rfl
theorem zr32 : (Tryz.prog.info? 32).map (·.zero) = some (some .nilFunc) := by kernel_rfl
theorem zc32 : (Tryz.prog.info? 32).map (fun i => i.zero.map Value.cells) = some (some #[.nilFunc]) := by kernel_rfl
theorem eo32 : elemOK Tryz.prog 32 1 8 = true := by kernel_rfl
theorem sz33 : (Tryz.prog.info? 33).map (·.size) = some 1 := by kernel_rfl
theorem zr33 : (Tryz.prog.info? 33).map (·.zero) = some (some (.slice none 0 0)) := by kernel_rfl
theorem zc33 : (Tryz.prog.info? 33).map (fun i => i.zero.map Value.cells) = some (some #[(.slice none 0 0)]) := by kernel_rfl
theorem eo33 : elemOK Tryz.prog 33 1 24 = true := by kernel_rfl
theorem sz34 : (Tryz.prog.info? 34).map (·.size) = some 7 := by kernel_rfl
theorem zr34 : (Tryz.prog.info? 34).map (·.zero) = some (some (.agg #[(.bool false), (.slice none 0 0), (.string ⟨#[]⟩), (.int .i64 0), (.slice none 0 0), (.string ⟨#[]⟩), (.int .i64 0)])) := by kernel_rfl
theorem zc34 : (Tryz.prog.info? 34).map (fun i => i.zero.map Value.cells) = some (some #[(.bool false), (.slice none 0 0), (.string ⟨#[]⟩), (.int .i64 0), (.slice none 0 0), (.string ⟨#[]⟩), (.int .i64 0)]) := by kernel_rfl
theorem eo34 : elemOK Tryz.prog 34 7 104 = true := by kernel_rfl
theorem fi34_0 : fieldInfo Tryz.prog 34 0 = some (0, 1) := by kernel_rfl
theorem fp34_0 : fieldPart Tryz.prog 34 0 = some (false, 0, 1) := by kernel_rfl
theorem fi34_1 : fieldInfo Tryz.prog 34 1 = some (1, 1) := by kernel_rfl
theorem fp34_1 : fieldPart Tryz.prog 34 1 = some (false, 1, 1) := by kernel_rfl
theorem fi34_2 : fieldInfo Tryz.prog 34 2 = some (2, 3) := by kernel_rfl
theorem fp34_2 : fieldPart Tryz.prog 34 2 = some (true, 2, 3) := by kernel_rfl
theorem fi34_3 : fieldInfo Tryz.prog 34 3 = some (5, 1) := by kernel_rfl
theorem fp34_3 : fieldPart Tryz.prog 34 3 = some (false, 5, 1) := by kernel_rfl
theorem fi34_4 : fieldInfo Tryz.prog 34 4 = some (6, 1) := by kernel_rfl
theorem fp34_4 : fieldPart Tryz.prog 34 4 = some (false, 6, 1) := by kernel_rfl
theorem pl34 : placesOf Tryz.prog 34 = some [(0, 1), (1, 1), (2, 3), (5, 1), (6, 1)] := by kernel_rfl
theorem sz35 : (Tryz.prog.info? 35).map (·.size) = some 7 := by kernel_rfl
theorem zr35 : (Tryz.prog.info? 35).map (·.zero) = some (some (.agg #[(.bool false), (.slice none 0 0), (.string ⟨#[]⟩), (.int .i64 0), (.slice none 0 0), (.string ⟨#[]⟩), (.int .i64 0)])) := by kernel_rfl
theorem zc35 : (Tryz.prog.info? 35).map (fun i => i.zero.map Value.cells) = some (some #[(.bool false), (.slice none 0 0), (.string ⟨#[]⟩), (.int .i64 0), (.slice none 0 0), (.string ⟨#[]⟩), (.int .i64 0)]) := by kernel_rfl
theorem eo35 : elemOK Tryz.prog 35 7 104 = true := by kernel_rfl
theorem fi35_0 : fieldInfo Tryz.prog 35 0 = some (0, 1) := by kernel_rfl
theorem fp35_0 : fieldPart Tryz.prog 35 0 = some (false, 0, 1) := by kernel_rfl
theorem fi35_1 : fieldInfo Tryz.prog 35 1 = some (1, 1) := by kernel_rfl
theorem fp35_1 : fieldPart Tryz.prog 35 1 = some (false, 1, 1) := by kernel_rfl
theorem fi35_2 : fieldInfo Tryz.prog 35 2 = some (2, 3) := by kernel_rfl
theorem fp35_2 : fieldPart Tryz.prog 35 2 = some (true, 2, 3) := by kernel_rfl
theorem fi35_3 : fieldInfo Tryz.prog 35 3 = some (5, 1) := by kernel_rfl
theorem fp35_3 : fieldPart Tryz.prog 35 3 = some (false, 5, 1) := by kernel_rfl
theorem fi35_4 : fieldInfo Tryz.prog 35 4 = some (6, 1) := by kernel_rfl
theorem fp35_4 : fieldPart Tryz.prog 35 4 = some (false, 6, 1) := by kernel_rfl
theorem pl35 : placesOf Tryz.prog 35 = some [(0, 1), (1, 1), (2, 3), (5, 1), (6, 1)] := by kernel_rfl
theorem sz36 : (Tryz.prog.info? 36).map (·.size) = some 1 := by kernel_rfl
theorem sz37 : (Tryz.prog.info? 37).map (·.size) = some 1 := by kernel_rfl
theorem zr37 : (Tryz.prog.info? 37).map (·.zero) = some (some .nilFunc) := by kernel_rfl
theorem zc37 : (Tryz.prog.info? 37).map (fun i => i.zero.map Value.cells) = some (some #[.nilFunc]) := by kernel_rfl
theorem eo37 : elemOK Tryz.prog 37 1 8 = true := by kernel_rfl
theorem sz38 : (Tryz.prog.info? 38).map (·.size) = some 1 := by kernel_rfl
theorem zr38 : (Tryz.prog.info? 38).map (·.zero) = some (some .nilFunc) := by kernel_rfl
theorem zc38 : (Tryz.prog.info? 38).map (fun i => i.zero.map Value.cells) = some (some #[.nilFunc]) := by kernel_rfl
theorem eo38 : elemOK Tryz.prog 38 1 8 = true := by kernel_rfl
theorem sz39 : (Tryz.prog.info? 39).map (·.size) = some 1 := by kernel_rfl
theorem zr39 : (Tryz.prog.info? 39).map (·.zero) = some (some .nilFunc) := by kernel_rfl
theorem zc39 : (Tryz.prog.info? 39).map (fun i => i.zero.map Value.cells) = some (some #[.nilFunc]) := by kernel_rfl
theorem eo39 : elemOK Tryz.prog 39 1 8 = true := by kernel_rfl
theorem sz40 : (Tryz.prog.info? 40).map (·.size) = some 1 := by kernel_rfl
theorem zr40 : (Tryz.prog.info? 40).map (·.zero) = some (some (.slice none 0 0)) := by kernel_rfl
theorem zc40 : (Tryz.prog.info? 40).map (fun i => i.zero.map Value.cells) = some (some #[(.slice none 0 0)]) := by kernel_rfl
theorem eo40 : elemOK Tryz.prog 40 1 24 = true := by kernel_rfl
theorem sz41 : (Tryz.prog.info? 41).map (·.size) = some 15 := by kernel_rfl
theorem zr41 : (Tryz.prog.info? 41).map (·.zero) = some (some (.agg (List.toArray ((.string ⟨#[]⟩) :: (.int .i64 0) :: (.slice none 0 0) :: (.slice none 0 0) :: (.slice none 0 0) :: (.bool false) :: (.slice none 0 0) :: (.string ⟨#[]⟩) :: (.int .i64 0) :: (.slice none 0 0) :: (.string ⟨#[]⟩) :: (.int .i64 0) :: (.int .i64 0) :: (.int .i64 0) :: (.int .i64 0) :: [])))) := by kernel_rfl
theorem zc41 : (Tryz.prog.info? 41).map (fun i => i.zero.map Value.cells) = some (some (List.toArray ((.string ⟨#[]⟩) :: (.int .i64 0) :: (.slice none 0 0) :: (.slice none 0 0) :: (.slice none 0 0) :: (.bool false) :: (.slice none 0 0) :: (.string ⟨#[]⟩) :: (.int .i64 0) :: (.slice none 0 0) :: (.string ⟨#[]⟩) :: (.int .i64 0) :: (.int .i64 0) :: (.int .i64 0) :: (.int .i64 0) :: []))) := by kernel_rfl
theorem eo41 : elemOK Tryz.prog 41 15 224 = true := by kernel_rfl
theorem fi41_0 : fieldInfo Tryz.prog 41 0 = some (0, 3) := by kernel_rfl
theorem fp41_0 : fieldPart Tryz.prog 41 0 = some (true, 0, 3) := by kernel_rfl
theorem fi41_1 : fieldInfo Tryz.prog 41 1 = some (3, 1) := by kernel_rfl
theorem fp41_1 : fieldPart Tryz.prog 41 1 = some (false, 3, 1) := by kernel_rfl
theorem fi41_2 : fieldInfo Tryz.prog 41 2 = some (4, 1) := by kernel_rfl
theorem fp41_2 : fieldPart Tryz.prog 41 2 = some (false, 4, 1) := by kernel_rfl
theorem fi41_3 : fieldInfo Tryz.prog 41 3 = some (5, 7) := by kernel_rfl
theorem fp41_3 : fieldPart Tryz.prog 41 3 = some (true, 5, 7) := by kernel_rfl
theorem fi41_4 : fieldInfo Tryz.prog 41 4 = some (12, 1) := by kernel_rfl
theorem fp41_4 : fieldPart Tryz.prog 41 4 = some (false, 12, 1) := by kernel_rfl
theorem fi41_5 : fieldInfo Tryz.prog 41 5 = some (13, 1) := by kernel_rfl
theorem fp41_5 : fieldPart Tryz.prog 41 5 = some (false, 13, 1) := by kernel_rfl
theorem fi41_6 : fieldInfo Tryz.prog 41 6 = some (14, 1) := by kernel_rfl
theorem fp41_6 : fieldPart Tryz.prog 41 6 = some (false, 14, 1) := by kernel_rfl
theorem pl41 : placesOf Tryz.prog 41 = some [(0, 3), (3, 1), (4, 1), (5, 7), (12, 1), (13, 1), (14, 1)] := by kernel_rfl
theorem sz42 : (Tryz.prog.info? 42).map (·.size) = some 15 := by kernel_rfl
theorem zr42 : (Tryz.prog.info? 42).map (·.zero) = some (some (.agg (List.toArray ((.string ⟨#[]⟩) :: (.int .i64 0) :: (.slice none 0 0) :: (.slice none 0 0) :: (.slice none 0 0) :: (.bool false) :: (.slice none 0 0) :: (.string ⟨#[]⟩) :: (.int .i64 0) :: (.slice none 0 0) :: (.string ⟨#[]⟩) :: (.int .i64 0) :: (.int .i64 0) :: (.int .i64 0) :: (.int .i64 0) :: [])))) := by kernel_rfl
theorem zc42 : (Tryz.prog.info? 42).map (fun i => i.zero.map Value.cells) = some (some (List.toArray ((.string ⟨#[]⟩) :: (.int .i64 0) :: (.slice none 0 0) :: (.slice none 0 0) :: (.slice none 0 0) :: (.bool false) :: (.slice none 0 0) :: (.string ⟨#[]⟩) :: (.int .i64 0) :: (.slice none 0 0) :: (.string ⟨#[]⟩) :: (.int .i64 0) :: (.int .i64 0) :: (.int .i64 0) :: (.int .i64 0) :: []))) := by kernel_rfl
theorem eo42 : elemOK Tryz.prog 42 15 224 = true := by kernel_rfl
theorem fi42_0 : fieldInfo Tryz.prog 42 0 = some (0, 3) := by kernel_rfl
theorem fp42_0 : fieldPart Tryz.prog 42 0 = some (true, 0, 3) := by kernel_rfl
theorem fi42_1 : fieldInfo Tryz.prog 42 1 = some (3, 1) := by kernel_rfl
theorem fp42_1 : fieldPart Tryz.prog 42 1 = some (false, 3, 1) := by kernel_rfl
theorem fi42_2 : fieldInfo Tryz.prog 42 2 = some (4, 1) := by kernel_rfl
theorem fp42_2 : fieldPart Tryz.prog 42 2 = some (false, 4, 1) := by kernel_rfl
theorem fi42_3 : fieldInfo Tryz.prog 42 3 = some (5, 7) := by kernel_rfl
theorem fp42_3 : fieldPart Tryz.prog 42 3 = some (true, 5, 7) := by kernel_rfl
theorem fi42_4 : fieldInfo Tryz.prog 42 4 = some (12, 1) := by kernel_rfl
theorem fp42_4 : fieldPart Tryz.prog 42 4 = some (false, 12, 1) := by kernel_rfl
theorem fi42_5 : fieldInfo Tryz.prog 42 5 = some (13, 1) := by kernel_rfl
theorem fp42_5 : fieldPart Tryz.prog 42 5 = some (false, 13, 1) := by kernel_rfl
theorem fi42_6 : fieldInfo Tryz.prog 42 6 = some (14, 1) := by kernel_rfl
theorem fp42_6 : fieldPart Tryz.prog 42 6 = some (false, 14, 1) := by kernel_rfl
theorem pl42 : placesOf Tryz.prog 42 = some [(0, 3), (3, 1), (4, 1), (5, 7), (12, 1), (13, 1), (14, 1)] := by kernel_rfl
theorem sz43 : (Tryz.prog.info? 43).map (·.size) = some 1 := by kernel_rfl
theorem zr43 : (Tryz.prog.info? 43).map (·.zero) = some (some .nilFunc) := by kernel_rfl
theorem zc43 : (Tryz.prog.info? 43).map (fun i => i.zero.map Value.cells) = some (some #[.nilFunc]) := by kernel_rfl
theorem eo43 : elemOK Tryz.prog 43 1 8 = true := by kernel_rfl
theorem sz44 : (Tryz.prog.info? 44).map (·.size) = some 1 := by kernel_rfl
theorem zr44 : (Tryz.prog.info? 44).map (·.zero) = some (some .nilFunc) := by kernel_rfl
theorem zc44 : (Tryz.prog.info? 44).map (fun i => i.zero.map Value.cells) = some (some #[.nilFunc]) := by kernel_rfl
theorem eo44 : elemOK Tryz.prog 44 1 8 = true := by kernel_rfl
theorem sz45 : (Tryz.prog.info? 45).map (·.size) = some 1 := by kernel_rfl
theorem zr45 : (Tryz.prog.info? 45).map (·.zero) = some (some .nilFunc) := by kernel_rfl
theorem zc45 : (Tryz.prog.info? 45).map (fun i => i.zero.map Value.cells) = some (some #[.nilFunc]) := by kernel_rfl
theorem eo45 : elemOK Tryz.prog 45 1 8 = true := by kernel_rfl
theorem sz46 : (Tryz.prog.info? 46).map (·.size) = some 1 := by kernel_rfl
theorem zr46 : (Tryz.prog.info? 46).map (·.zero) = some (some .nilFunc) := by kernel_rfl
theorem zc46 : (Tryz.prog.info? 46).map (fun i => i.zero.map Value.cells) = some (some #[.nilFunc]) := by kernel_rfl
theorem eo46 : elemOK Tryz.prog 46 1 8 = true := by kernel_rfl
theorem sz47 : (Tryz.prog.info? 47).map (·.size) = some 1 := by kernel_rfl
theorem zr47 : (Tryz.prog.info? 47).map (·.zero) = some (some (.slice none 0 0)) := by kernel_rfl
theorem zc47 : (Tryz.prog.info? 47).map (fun i => i.zero.map Value.cells) = some (some #[(.slice none 0 0)]) := by kernel_rfl
theorem eo47 : elemOK Tryz.prog 47 1 24 = true := by kernel_rfl
theorem sz48 : (Tryz.prog.info? 48).map (·.size) = some 5 := by kernel_rfl
theorem zr48 : (Tryz.prog.info? 48).map (·.zero) = some (some (.agg #[(.string ⟨#[]⟩), (.string ⟨#[]⟩), (.string ⟨#[]⟩), (.int .i64 0), (.slice none 0 0)])) := by kernel_rfl
theorem zc48 : (Tryz.prog.info? 48).map (fun i => i.zero.map Value.cells) = some (some #[(.string ⟨#[]⟩), (.string ⟨#[]⟩), (.string ⟨#[]⟩), (.int .i64 0), (.slice none 0 0)]) := by kernel_rfl
theorem eo48 : elemOK Tryz.prog 48 5 80 = true := by kernel_rfl
theorem fi48_0 : fieldInfo Tryz.prog 48 0 = some (0, 1) := by kernel_rfl
theorem fp48_0 : fieldPart Tryz.prog 48 0 = some (false, 0, 1) := by kernel_rfl
theorem fi48_1 : fieldInfo Tryz.prog 48 1 = some (1, 1) := by kernel_rfl
theorem fp48_1 : fieldPart Tryz.prog 48 1 = some (false, 1, 1) := by kernel_rfl
theorem fi48_2 : fieldInfo Tryz.prog 48 2 = some (2, 1) := by kernel_rfl
theorem fp48_2 : fieldPart Tryz.prog 48 2 = some (false, 2, 1) := by kernel_rfl
theorem fi48_3 : fieldInfo Tryz.prog 48 3 = some (3, 1) := by kernel_rfl
theorem fp48_3 : fieldPart Tryz.prog 48 3 = some (false, 3, 1) := by kernel_rfl
theorem fi48_4 : fieldInfo Tryz.prog 48 4 = some (4, 1) := by kernel_rfl
theorem fp48_4 : fieldPart Tryz.prog 48 4 = some (false, 4, 1) := by kernel_rfl
theorem pl48 : placesOf Tryz.prog 48 = some [(0, 1), (1, 1), (2, 1), (3, 1), (4, 1)] := by kernel_rfl
theorem sz49 : (Tryz.prog.info? 49).map (·.size) = some 5 := by kernel_rfl
theorem zr49 : (Tryz.prog.info? 49).map (·.zero) = some (some (.agg #[(.string ⟨#[]⟩), (.string ⟨#[]⟩), (.string ⟨#[]⟩), (.int .i64 0), (.slice none 0 0)])) := by kernel_rfl
theorem zc49 : (Tryz.prog.info? 49).map (fun i => i.zero.map Value.cells) = some (some #[(.string ⟨#[]⟩), (.string ⟨#[]⟩), (.string ⟨#[]⟩), (.int .i64 0), (.slice none 0 0)]) := by kernel_rfl
theorem eo49 : elemOK Tryz.prog 49 5 80 = true := by kernel_rfl
theorem fi49_0 : fieldInfo Tryz.prog 49 0 = some (0, 1) := by kernel_rfl
theorem fp49_0 : fieldPart Tryz.prog 49 0 = some (false, 0, 1) := by kernel_rfl
theorem fi49_1 : fieldInfo Tryz.prog 49 1 = some (1, 1) := by kernel_rfl
theorem fp49_1 : fieldPart Tryz.prog 49 1 = some (false, 1, 1) := by kernel_rfl
theorem fi49_2 : fieldInfo Tryz.prog 49 2 = some (2, 1) := by kernel_rfl
theorem fp49_2 : fieldPart Tryz.prog 49 2 = some (false, 2, 1) := by kernel_rfl
theorem fi49_3 : fieldInfo Tryz.prog 49 3 = some (3, 1) := by kernel_rfl
theorem fp49_3 : fieldPart Tryz.prog 49 3 = some (false, 3, 1) := by kernel_rfl
theorem fi49_4 : fieldInfo Tryz.prog 49 4 = some (4, 1) := by kernel_rfl
theorem fp49_4 : fieldPart Tryz.prog 49 4 = some (false, 4, 1) := by kernel_rfl
theorem pl49 : placesOf Tryz.prog 49 = some [(0, 1), (1, 1), (2, 1), (3, 1), (4, 1)] := by kernel_rfl
theorem sz50 : (Tryz.prog.info? 50).map (·.size) = some 1 := by kernel_rfl
theorem zr50 : (Tryz.prog.info? 50).map (·.zero) = some (some (.int .u32 0)) := by kernel_rfl
theorem zc50 : (Tryz.prog.info? 50).map (fun i => i.zero.map Value.cells) = some (some #[(.int .u32 0)]) := by kernel_rfl
theorem eo50 : elemOK Tryz.prog 50 1 4 = true := by kernel_rfl
theorem sz51 : (Tryz.prog.info? 51).map (·.size) = some 2 := by kernel_rfl
theorem zr51 : (Tryz.prog.info? 51).map (·.zero) = some (some (.agg #[(.int .u32 0), (.int .i64 0)])) := by kernel_rfl
theorem zc51 : (Tryz.prog.info? 51).map (fun i => i.zero.map Value.cells) = some (some #[(.int .u32 0), (.int .i64 0)]) := by kernel_rfl
theorem eo51 : elemOK Tryz.prog 51 2 16 = true := by kernel_rfl
theorem fi51_0 : fieldInfo Tryz.prog 51 0 = some (0, 1) := by kernel_rfl
theorem fp51_0 : fieldPart Tryz.prog 51 0 = some (false, 0, 1) := by kernel_rfl
theorem fi51_1 : fieldInfo Tryz.prog 51 1 = some (1, 1) := by kernel_rfl
theorem fp51_1 : fieldPart Tryz.prog 51 1 = some (false, 1, 1) := by kernel_rfl
theorem pl51 : placesOf Tryz.prog 51 = some [(0, 1), (1, 1)] := by kernel_rfl
theorem sz52 : (Tryz.prog.info? 52).map (·.size) = some 2 := by kernel_rfl
theorem zr52 : (Tryz.prog.info? 52).map (·.zero) = some (some (.agg #[(.int .u32 0), (.int .i64 0)])) := by kernel_rfl
theorem zc52 : (Tryz.prog.info? 52).map (fun i => i.zero.map Value.cells) = some (some #[(.int .u32 0), (.int .i64 0)]) := by kernel_rfl
theorem eo52 : elemOK Tryz.prog 52 2 16 = true := by kernel_rfl
theorem fi52_0 : fieldInfo Tryz.prog 52 0 = some (0, 1) := by kernel_rfl
theorem fp52_0 : fieldPart Tryz.prog 52 0 = some (false, 0, 1) := by kernel_rfl
theorem fi52_1 : fieldInfo Tryz.prog 52 1 = some (1, 1) := by kernel_rfl
theorem fp52_1 : fieldPart Tryz.prog 52 1 = some (false, 1, 1) := by kernel_rfl
theorem pl52 : placesOf Tryz.prog 52 = some [(0, 1), (1, 1)] := by kernel_rfl
theorem sz53 : (Tryz.prog.info? 53).map (·.size) = some 1 := by kernel_rfl
theorem zr53 : (Tryz.prog.info? 53).map (·.zero) = some (some .nilFunc) := by kernel_rfl
theorem zc53 : (Tryz.prog.info? 53).map (fun i => i.zero.map Value.cells) = some (some #[.nilFunc]) := by kernel_rfl
theorem eo53 : elemOK Tryz.prog 53 1 8 = true := by kernel_rfl
theorem sz54 : (Tryz.prog.info? 54).map (·.size) = some 4 := by kernel_rfl
theorem zr54 : (Tryz.prog.info? 54).map (·.zero) = some (some (.agg #[(.int .u32 0), (.int .i64 0), (.string ⟨#[]⟩), (.int .i64 0)])) := by kernel_rfl
theorem zc54 : (Tryz.prog.info? 54).map (fun i => i.zero.map Value.cells) = some (some #[(.int .u32 0), (.int .i64 0), (.string ⟨#[]⟩), (.int .i64 0)]) := by kernel_rfl
theorem eo54 : elemOK Tryz.prog 54 4 40 = true := by kernel_rfl
theorem fi54_0 : fieldInfo Tryz.prog 54 0 = some (0, 2) := by kernel_rfl
theorem fp54_0 : fieldPart Tryz.prog 54 0 = some (true, 0, 2) := by kernel_rfl
theorem fi54_1 : fieldInfo Tryz.prog 54 1 = some (2, 1) := by kernel_rfl
theorem fp54_1 : fieldPart Tryz.prog 54 1 = some (false, 2, 1) := by kernel_rfl
theorem fi54_2 : fieldInfo Tryz.prog 54 2 = some (3, 1) := by kernel_rfl
theorem fp54_2 : fieldPart Tryz.prog 54 2 = some (false, 3, 1) := by kernel_rfl
theorem pl54 : placesOf Tryz.prog 54 = some [(0, 2), (2, 1), (3, 1)] := by kernel_rfl
theorem sz55 : (Tryz.prog.info? 55).map (·.size) = some 4 := by kernel_rfl
theorem zr55 : (Tryz.prog.info? 55).map (·.zero) = some (some (.agg #[(.int .u32 0), (.int .i64 0), (.string ⟨#[]⟩), (.int .i64 0)])) := by kernel_rfl
theorem zc55 : (Tryz.prog.info? 55).map (fun i => i.zero.map Value.cells) = some (some #[(.int .u32 0), (.int .i64 0), (.string ⟨#[]⟩), (.int .i64 0)]) := by kernel_rfl
theorem eo55 : elemOK Tryz.prog 55 4 40 = true := by kernel_rfl
theorem fi55_0 : fieldInfo Tryz.prog 55 0 = some (0, 2) := by kernel_rfl
theorem fp55_0 : fieldPart Tryz.prog 55 0 = some (true, 0, 2) := by kernel_rfl
theorem fi55_1 : fieldInfo Tryz.prog 55 1 = some (2, 1) := by kernel_rfl
theorem fp55_1 : fieldPart Tryz.prog 55 1 = some (false, 2, 1) := by kernel_rfl
theorem fi55_2 : fieldInfo Tryz.prog 55 2 = some (3, 1) := by kernel_rfl
theorem fp55_2 : fieldPart Tryz.prog 55 2 = some (false, 3, 1) := by kernel_rfl
theorem pl55 : placesOf Tryz.prog 55 = some [(0, 2), (2, 1), (3, 1)] := by kernel_rfl
theorem sz56 : (Tryz.prog.info? 56).map (·.size) = some 1 := by kernel_rfl
theorem zr56 : (Tryz.prog.info? 56).map (·.zero) = some (some .nilFunc) := by kernel_rfl
theorem zc56 : (Tryz.prog.info? 56).map (fun i => i.zero.map Value.cells) = some (some #[.nilFunc]) := by kernel_rfl
theorem eo56 : elemOK Tryz.prog 56 1 8 = true := by kernel_rfl
theorem sz57 : (Tryz.prog.info? 57).map (·.size) = some 1 := by kernel_rfl
theorem sz58 : (Tryz.prog.info? 58).map (·.size) = some 1 := by kernel_rfl
theorem zr58 : (Tryz.prog.info? 58).map (·.zero) = some (some .nilFunc) := by kernel_rfl
theorem zc58 : (Tryz.prog.info? 58).map (fun i => i.zero.map Value.cells) = some (some #[.nilFunc]) := by kernel_rfl
theorem eo58 : elemOK Tryz.prog 58 1 8 = true := by kernel_rfl
theorem sz59 : (Tryz.prog.info? 59).map (·.size) = some 1 := by kernel_rfl
theorem zr59 : (Tryz.prog.info? 59).map (·.zero) = some (some .nilFunc) := by kernel_rfl
theorem zc59 : (Tryz.prog.info? 59).map (fun i => i.zero.map Value.cells) = some (some #[.nilFunc]) := by kernel_rfl
theorem eo59 : elemOK Tryz.prog 59 1 8 = true := by kernel_rfl
theorem sz60 : (Tryz.prog.info? 60).map (·.size) = some 1 := by kernel_rfl
theorem sz61 : (Tryz.prog.info? 61).map (·.size) = some 1 := by kernel_rfl
theorem zr61 : (Tryz.prog.info? 61).map (·.zero) = some (some .nilFunc) := by kernel_rfl
theorem zc61 : (Tryz.prog.info? 61).map (fun i => i.zero.map Value.cells) = some (some #[.nilFunc]) := by kernel_rfl
theorem eo61 : elemOK Tryz.prog 61 1 8 = true := by kernel_rfl
theorem sz62 : (Tryz.prog.info? 62).map (·.size) = some 1 := by kernel_rfl
theorem zr62 : (Tryz.prog.info? 62).map (·.zero) = some (some .nilFunc) := by kernel_rfl
theorem zc62 : (Tryz.prog.info? 62).map (fun i => i.zero.map Value.cells) = some (some #[.nilFunc]) := by kernel_rfl
theorem eo62 : elemOK Tryz.prog 62 1 8 = true := by kernel_rfl
theorem sz63 : (Tryz.prog.info? 63).map (·.size) = some 1 := by kernel_rfl
theorem zr63 : (Tryz.prog.info? 63).map (·.zero) = some (some .nilFunc) := by kernel_rfl
theorem zc63 : (Tryz.prog.info? 63).map (fun i => i.zero.map Value.cells) = some (some #[.nilFunc]) := by kernel_rfl
theorem eo63 : elemOK Tryz.prog 63 1 8 = true := by kernel_rfl
theorem sz64 : (Tryz.prog.info? 64).map (·.size) = some 1 := by kernel_rfl
theorem zr64 : (Tryz.prog.info? 64).map (·.zero) = some (some .nilFunc) := by kernel_rfl
theorem zc64 : (Tryz.prog.info? 64).map (fun i => i.zero.map Value.cells) = some (some #[.nilFunc]) := by kernel_rfl
theorem eo64 : elemOK Tryz.prog 64 1 8 = true := by kernel_rfl
theorem sz65 : (Tryz.prog.info? 65).map (·.size) = some 1 := by kernel_rfl
theorem zr65 : (Tryz.prog.info? 65).map (·.zero) = some (some .nilFunc) := by kernel_rfl
theorem zc65 : (Tryz.prog.info? 65).map (fun i => i.zero.map Value.cells) = some (some #[.nilFunc]) := by kernel_rfl
theorem eo65 : elemOK Tryz.prog 65 1 8 = true := by kernel_rfl
theorem sz66 : (Tryz.prog.info? 66).map (·.size) = some 1 := by kernel_rfl
theorem zr66 : (Tryz.prog.info? 66).map (·.zero) = some (some .nilFunc) := by kernel_rfl
theorem zc66 : (Tryz.prog.info? 66).map (fun i => i.zero.map Value.cells) = some (some #[.nilFunc]) := by kernel_rfl
theorem eo66 : elemOK Tryz.prog 66 1 8 = true := by kernel_rfl
theorem sz67 : (Tryz.prog.info? 67).map (·.size) = some 3 := by kernel_rfl
theorem zr67 : (Tryz.prog.info? 67).map (·.zero) = some (some (.agg #[(.int .i64 0), (.int .i64 0), (.int .i64 0)])) := by kernel_rfl
theorem zc67 : (Tryz.prog.info? 67).map (fun i => i.zero.map Value.cells) = some (some #[(.int .i64 0), (.int .i64 0), (.int .i64 0)]) := by kernel_rfl
theorem eo67 : elemOK Tryz.prog 67 3 24 = true := by kernel_rfl
theorem sz68 : (Tryz.prog.info? 68).map (·.size) = some 1 := by kernel_rfl
theorem zr68 : (Tryz.prog.info? 68).map (·.zero) = some (some .nilFunc) := by kernel_rfl
theorem zc68 : (Tryz.prog.info? 68).map (fun i => i.zero.map Value.cells) = some (some #[.nilFunc]) := by kernel_rfl
theorem eo68 : elemOK Tryz.prog 68 1 8 = true := by kernel_rfl
theorem sz69 : (Tryz.prog.info? 69).map (·.size) = some 1 := by kernel_rfl
theorem zr69 : (Tryz.prog.info? 69).map (·.zero) = some (some .nilFunc) := by kernel_rfl
theorem zc69 : (Tryz.prog.info? 69).map (fun i => i.zero.map Value.cells) = some (some #[.nilFunc]) := by kernel_rfl
theorem eo69 : elemOK Tryz.prog 69 1 8 = true := by kernel_rfl
theorem sz70 : (Tryz.prog.info? 70).map (·.size) = some 1 := by kernel_rfl
theorem zr70 : (Tryz.prog.info? 70).map (·.zero) = some (some (.int .u64 0)) := by kernel_rfl
theorem zc70 : (Tryz.prog.info? 70).map (fun i => i.zero.map Value.cells) = some (some #[(.int .u64 0)]) := by kernel_rfl
theorem eo70 : elemOK Tryz.prog 70 1 8 = true := by kernel_rfl
theorem sz71 : (Tryz.prog.info? 71).map (·.size) = some 3 := by kernel_rfl
theorem zr71 : (Tryz.prog.info? 71).map (·.zero) = some (some (.agg #[(.bool false), (.int .i64 0), (.int .u64 0)])) := by kernel_rfl
theorem zc71 : (Tryz.prog.info? 71).map (fun i => i.zero.map Value.cells) = some (some #[(.bool false), (.int .i64 0), (.int .u64 0)]) := by kernel_rfl
theorem eo71 : elemOK Tryz.prog 71 3 24 = true := by kernel_rfl
theorem fi71_0 : fieldInfo Tryz.prog 71 0 = some (0, 1) := by kernel_rfl
theorem fp71_0 : fieldPart Tryz.prog 71 0 = some (false, 0, 1) := by kernel_rfl
theorem fi71_1 : fieldInfo Tryz.prog 71 1 = some (1, 1) := by kernel_rfl
theorem fp71_1 : fieldPart Tryz.prog 71 1 = some (false, 1, 1) := by kernel_rfl
theorem fi71_2 : fieldInfo Tryz.prog 71 2 = some (2, 1) := by kernel_rfl
theorem fp71_2 : fieldPart Tryz.prog 71 2 = some (false, 2, 1) := by kernel_rfl
theorem pl71 : placesOf Tryz.prog 71 = some [(0, 1), (1, 1), (2, 1)] := by kernel_rfl
theorem sz72 : (Tryz.prog.info? 72).map (·.size) = some 3 := by kernel_rfl
theorem zr72 : (Tryz.prog.info? 72).map (·.zero) = some (some (.agg #[(.bool false), (.int .i64 0), (.int .u64 0)])) := by kernel_rfl
theorem zc72 : (Tryz.prog.info? 72).map (fun i => i.zero.map Value.cells) = some (some #[(.bool false), (.int .i64 0), (.int .u64 0)]) := by kernel_rfl
theorem eo72 : elemOK Tryz.prog 72 3 24 = true := by kernel_rfl
theorem fi72_0 : fieldInfo Tryz.prog 72 0 = some (0, 1) := by kernel_rfl
theorem fp72_0 : fieldPart Tryz.prog 72 0 = some (false, 0, 1) := by kernel_rfl
theorem fi72_1 : fieldInfo Tryz.prog 72 1 = some (1, 1) := by kernel_rfl
theorem fp72_1 : fieldPart Tryz.prog 72 1 = some (false, 1, 1) := by kernel_rfl
theorem fi72_2 : fieldInfo Tryz.prog 72 2 = some (2, 1) := by kernel_rfl
theorem fp72_2 : fieldPart Tryz.prog 72 2 = some (false, 2, 1) := by kernel_rfl
theorem pl72 : placesOf Tryz.prog 72 = some [(0, 1), (1, 1), (2, 1)] := by kernel_rfl
theorem sz73 : (Tryz.prog.info? 73).map (·.size) = some 11 := by kernel_rfl
theorem zr73 : (Tryz.prog.info? 73).map (·.zero) = some (some (.agg #[(.bool false), (.string ⟨#[]⟩), (.string ⟨#[]⟩), (.int .i64 0), (.int .i64 0), (.int .i64 0), (.int .i64 0), (.bool false), (.int .i64 0), (.int .u64 0), (.bool false)])) := by kernel_rfl
theorem zc73 : (Tryz.prog.info? 73).map (fun i => i.zero.map Value.cells) = some (some #[(.bool false), (.string ⟨#[]⟩), (.string ⟨#[]⟩), (.int .i64 0), (.int .i64 0), (.int .i64 0), (.int .i64 0), (.bool false), (.int .i64 0), (.int .u64 0), (.bool false)]) := by kernel_rfl
theorem eo73 : elemOK Tryz.prog 73 11 104 = true := by kernel_rfl
theorem fi73_0 : fieldInfo Tryz.prog 73 0 = some (0, 1) := by kernel_rfl
theorem fp73_0 : fieldPart Tryz.prog 73 0 = some (false, 0, 1) := by kernel_rfl
theorem fi73_1 : fieldInfo Tryz.prog 73 1 = some (1, 1) := by kernel_rfl
theorem fp73_1 : fieldPart Tryz.prog 73 1 = some (false, 1, 1) := by kernel_rfl
theorem fi73_2 : fieldInfo Tryz.prog 73 2 = some (2, 1) := by kernel_rfl
theorem fp73_2 : fieldPart Tryz.prog 73 2 = some (false, 2, 1) := by kernel_rfl
theorem fi73_3 : fieldInfo Tryz.prog 73 3 = some (3, 1) := by kernel_rfl
theorem fp73_3 : fieldPart Tryz.prog 73 3 = some (false, 3, 1) := by kernel_rfl
theorem fi73_4 : fieldInfo Tryz.prog 73 4 = some (4, 1) := by kernel_rfl
theorem fp73_4 : fieldPart Tryz.prog 73 4 = some (false, 4, 1) := by kernel_rfl
theorem fi73_5 : fieldInfo Tryz.prog 73 5 = some (5, 1) := by kernel_rfl
theorem fp73_5 : fieldPart Tryz.prog 73 5 = some (false, 5, 1) := by kernel_rfl
theorem fi73_6 : fieldInfo Tryz.prog 73 6 = some (6, 1) := by kernel_rfl
theorem fp73_6 : fieldPart Tryz.prog 73 6 = some (false, 6, 1) := by kernel_rfl
theorem fi73_7 : fieldInfo Tryz.prog 73 7 = some (7, 3) := by kernel_rfl
theorem fp73_7 : fieldPart Tryz.prog 73 7 = some (true, 7, 3) := by kernel_rfl
theorem fi73_8 : fieldInfo Tryz.prog 73 8 = some (10, 1) := by kernel_rfl
theorem fp73_8 : fieldPart Tryz.prog 73 8 = some (false, 10, 1) := by kernel_rfl
theorem pl73 : placesOf Tryz.prog 73 = some [(0, 1), (1, 1), (2, 1), (3, 1), (4, 1), (5, 1), (6, 1), (7, 3), (10, 1)] := by kernel_rfl
theorem sz74 : (Tryz.prog.info? 74).map (·.size) = some 11 := by kernel_rfl
theorem zr74 : (Tryz.prog.info? 74).map (·.zero) = some (some (.agg #[(.bool false), (.string ⟨#[]⟩), (.string ⟨#[]⟩), (.int .i64 0), (.int .i64 0), (.int .i64 0), (.int .i64 0), (.bool false), (.int .i64 0), (.int .u64 0), (.bool false)])) := by kernel_rfl
theorem zc74 : (Tryz.prog.info? 74).map (fun i => i.zero.map Value.cells) = some (some #[(.bool false), (.string ⟨#[]⟩), (.string ⟨#[]⟩), (.int .i64 0), (.int .i64 0), (.int .i64 0), (.int .i64 0), (.bool false), (.int .i64 0), (.int .u64 0), (.bool false)]) := by kernel_rfl
theorem eo74 : elemOK Tryz.prog 74 11 104 = true := by kernel_rfl
theorem fi74_0 : fieldInfo Tryz.prog 74 0 = some (0, 1) := by kernel_rfl
theorem fp74_0 : fieldPart Tryz.prog 74 0 = some (false, 0, 1) := by kernel_rfl
theorem fi74_1 : fieldInfo Tryz.prog 74 1 = some (1, 1) := by kernel_rfl
theorem fp74_1 : fieldPart Tryz.prog 74 1 = some (false, 1, 1) := by kernel_rfl
theorem fi74_2 : fieldInfo Tryz.prog 74 2 = some (2, 1) := by kernel_rfl
theorem fp74_2 : fieldPart Tryz.prog 74 2 = some (false, 2, 1) := by kernel_rfl
theorem fi74_3 : fieldInfo Tryz.prog 74 3 = some (3, 1) := by kernel_rfl
theorem fp74_3 : fieldPart Tryz.prog 74 3 = some (false, 3, 1) := by kernel_rfl
theorem fi74_4 : fieldInfo Tryz.prog 74 4 = some (4, 1) := by kernel_rfl
theorem fp74_4 : fieldPart Tryz.prog 74 4 = some (false, 4, 1) := by kernel_rfl
theorem fi74_5 : fieldInfo Tryz.prog 74 5 = some (5, 1) := by kernel_rfl
theorem fp74_5 : fieldPart Tryz.prog 74 5 = some (false, 5, 1) := by kernel_rfl
theorem fi74_6 : fieldInfo Tryz.prog 74 6 = some (6, 1) := by kernel_rfl
theorem fp74_6 : fieldPart Tryz.prog 74 6 = some (false, 6, 1) := by kernel_rfl
theorem fi74_7 : fieldInfo Tryz.prog 74 7 = some (7, 3) := by kernel_rfl
theorem fp74_7 : fieldPart Tryz.prog 74 7 = some (true, 7, 3) := by kernel_rfl
theorem fi74_8 : fieldInfo Tryz.prog 74 8 = some (10, 1) := by kernel_rfl
theorem fp74_8 : fieldPart Tryz.prog 74 8 = some (false, 10, 1) := by kernel_rfl
theorem pl74 : placesOf Tryz.prog 74 = some [(0, 1), (1, 1), (2, 1), (3, 1), (4, 1), (5, 1), (6, 1), (7, 3), (10, 1)] := by kernel_rfl
theorem sz75 : (Tryz.prog.info? 75).map (·.size) = some 33 := by kernel_rfl
theorem zr75 : (Tryz.prog.info? 75).map (·.zero) = some (some (.agg (List.toArray ((.bool false) :: (.string ⟨#[]⟩) :: (.string ⟨#[]⟩) :: (.int .i64 0) :: (.int .i64 0) :: (.int .i64 0) :: (.int .i64 0) :: (.bool false) :: (.int .i64 0) :: (.int .u64 0) :: (.bool false) :: (.bool false) :: (.string ⟨#[]⟩) :: (.string ⟨#[]⟩) :: (.int .i64 0) :: (.int .i64 0) :: (.int .i64 0) :: (.int .i64 0) :: (.bool false) :: (.int .i64 0) :: (.int .u64 0) :: (.bool false) :: (.bool false) :: (.string ⟨#[]⟩) :: (.string ⟨#[]⟩) :: (.int .i64 0) :: (.int .i64 0) :: (.int .i64 0) :: (.int .i64 0) :: (.bool false) :: (.int .i64 0) :: (.int .u64 0) :: (.bool false) :: [])))) := by kernel_rfl
theorem zc75 : (Tryz.prog.info? 75).map (fun i => i.zero.map Value.cells) = some (some (List.toArray ((.bool false) :: (.string ⟨#[]⟩) :: (.string ⟨#[]⟩) :: (.int .i64 0) :: (.int .i64 0) :: (.int .i64 0) :: (.int .i64 0) :: (.bool false) :: (.int .i64 0) :: (.int .u64 0) :: (.bool false) :: (.bool false) :: (.string ⟨#[]⟩) :: (.string ⟨#[]⟩) :: (.int .i64 0) :: (.int .i64 0) :: (.int .i64 0) :: (.int .i64 0) :: (.bool false) :: (.int .i64 0) :: (.int .u64 0) :: (.bool false) :: (.bool false) :: (.string ⟨#[]⟩) :: (.string ⟨#[]⟩) :: (.int .i64 0) :: (.int .i64 0) :: (.int .i64 0) :: (.int .i64 0) :: (.bool false) :: (.int .i64 0) :: (.int .u64 0) :: (.bool false) :: []))) := by kernel_rfl
theorem eo75 : elemOK Tryz.prog 75 33 312 = true := by kernel_rfl
theorem fi75_0 : fieldInfo Tryz.prog 75 0 = some (0, 11) := by kernel_rfl
theorem fp75_0 : fieldPart Tryz.prog 75 0 = some (true, 0, 11) := by kernel_rfl
theorem fi75_1 : fieldInfo Tryz.prog 75 1 = some (11, 11) := by kernel_rfl
theorem fp75_1 : fieldPart Tryz.prog 75 1 = some (true, 11, 11) := by kernel_rfl
theorem fi75_2 : fieldInfo Tryz.prog 75 2 = some (22, 11) := by kernel_rfl
theorem fp75_2 : fieldPart Tryz.prog 75 2 = some (true, 22, 11) := by kernel_rfl
theorem pl75 : placesOf Tryz.prog 75 = some [(0, 11), (11, 11), (22, 11)] := by kernel_rfl
theorem sz76 : (Tryz.prog.info? 76).map (·.size) = some 33 := by kernel_rfl
theorem zr76 : (Tryz.prog.info? 76).map (·.zero) = some (some (.agg (List.toArray ((.bool false) :: (.string ⟨#[]⟩) :: (.string ⟨#[]⟩) :: (.int .i64 0) :: (.int .i64 0) :: (.int .i64 0) :: (.int .i64 0) :: (.bool false) :: (.int .i64 0) :: (.int .u64 0) :: (.bool false) :: (.bool false) :: (.string ⟨#[]⟩) :: (.string ⟨#[]⟩) :: (.int .i64 0) :: (.int .i64 0) :: (.int .i64 0) :: (.int .i64 0) :: (.bool false) :: (.int .i64 0) :: (.int .u64 0) :: (.bool false) :: (.bool false) :: (.string ⟨#[]⟩) :: (.string ⟨#[]⟩) :: (.int .i64 0) :: (.int .i64 0) :: (.int .i64 0) :: (.int .i64 0) :: (.bool false) :: (.int .i64 0) :: (.int .u64 0) :: (.bool false) :: [])))) := by kernel_rfl
theorem zc76 : (Tryz.prog.info? 76).map (fun i => i.zero.map Value.cells) = some (some (List.toArray ((.bool false) :: (.string ⟨#[]⟩) :: (.string ⟨#[]⟩) :: (.int .i64 0) :: (.int .i64 0) :: (.int .i64 0) :: (.int .i64 0) :: (.bool false) :: (.int .i64 0) :: (.int .u64 0) :: (.bool false) :: (.bool false) :: (.string ⟨#[]⟩) :: (.string ⟨#[]⟩) :: (.int .i64 0) :: (.int .i64 0) :: (.int .i64 0) :: (.int .i64 0) :: (.bool false) :: (.int .i64 0) :: (.int .u64 0) :: (.bool false) :: (.bool false) :: (.string ⟨#[]⟩) :: (.string ⟨#[]⟩) :: (.int .i64 0) :: (.int .i64 0) :: (.int .i64 0) :: (.int .i64 0) :: (.bool false) :: (.int .i64 0) :: (.int .u64 0) :: (.bool false) :: []))) := by kernel_rfl
theorem eo76 : elemOK Tryz.prog 76 33 312 = true := by kernel_rfl
theorem fi76_0 : fieldInfo Tryz.prog 76 0 = some (0, 11) := by kernel_rfl
theorem fp76_0 : fieldPart Tryz.prog 76 0 = some (true, 0, 11) := by kernel_rfl
theorem fi76_1 : fieldInfo Tryz.prog 76 1 = some (11, 11) := by kernel_rfl
theorem fp76_1 : fieldPart Tryz.prog 76 1 = some (true, 11, 11) := by kernel_rfl
theorem fi76_2 : fieldInfo Tryz.prog 76 2 = some (22, 11) := by kernel_rfl
theorem fp76_2 : fieldPart Tryz.prog 76 2 = some (true, 22, 11) := by kernel_rfl
theorem pl76 : placesOf Tryz.prog 76 = some [(0, 11), (11, 11), (22, 11)] := by kernel_rfl
theorem sz77 : (Tryz.prog.info? 77).map (·.size) = some 5 := by kernel_rfl
theorem zr77 : (Tryz.prog.info? 77).map (·.zero) = some (some (.agg #[(.bool false), (.int .i64 0), (.string ⟨#[]⟩), (.int .i64 0), (.int .i64 0)])) := by kernel_rfl
theorem zc77 : (Tryz.prog.info? 77).map (fun i => i.zero.map Value.cells) = some (some #[(.bool false), (.int .i64 0), (.string ⟨#[]⟩), (.int .i64 0), (.int .i64 0)]) := by kernel_rfl
theorem eo77 : elemOK Tryz.prog 77 5 48 = true := by kernel_rfl
theorem fi77_0 : fieldInfo Tryz.prog 77 0 = some (0, 1) := by kernel_rfl
theorem fp77_0 : fieldPart Tryz.prog 77 0 = some (false, 0, 1) := by kernel_rfl
theorem fi77_1 : fieldInfo Tryz.prog 77 1 = some (1, 1) := by kernel_rfl
theorem fp77_1 : fieldPart Tryz.prog 77 1 = some (false, 1, 1) := by kernel_rfl
theorem fi77_2 : fieldInfo Tryz.prog 77 2 = some (2, 1) := by kernel_rfl
theorem fp77_2 : fieldPart Tryz.prog 77 2 = some (false, 2, 1) := by kernel_rfl
theorem fi77_3 : fieldInfo Tryz.prog 77 3 = some (3, 1) := by kernel_rfl
theorem fp77_3 : fieldPart Tryz.prog 77 3 = some (false, 3, 1) := by kernel_rfl
theorem fi77_4 : fieldInfo Tryz.prog 77 4 = some (4, 1) := by kernel_rfl
theorem fp77_4 : fieldPart Tryz.prog 77 4 = some (false, 4, 1) := by kernel_rfl
theorem pl77 : placesOf Tryz.prog 77 = some [(0, 1), (1, 1), (2, 1), (3, 1), (4, 1)] := by kernel_rfl
theorem sz78 : (Tryz.prog.info? 78).map (·.size) = some 5 := by kernel_rfl
theorem zr78 : (Tryz.prog.info? 78).map (·.zero) = some (some (.agg #[(.bool false), (.int .i64 0), (.string ⟨#[]⟩), (.int .i64 0), (.int .i64 0)])) := by kernel_rfl
theorem zc78 : (Tryz.prog.info? 78).map (fun i => i.zero.map Value.cells) = some (some #[(.bool false), (.int .i64 0), (.string ⟨#[]⟩), (.int .i64 0), (.int .i64 0)]) := by kernel_rfl
theorem eo78 : elemOK Tryz.prog 78 5 48 = true := by kernel_rfl
theorem fi78_0 : fieldInfo Tryz.prog 78 0 = some (0, 1) := by kernel_rfl
theorem fp78_0 : fieldPart Tryz.prog 78 0 = some (false, 0, 1) := by kernel_rfl
theorem fi78_1 : fieldInfo Tryz.prog 78 1 = some (1, 1) := by kernel_rfl
theorem fp78_1 : fieldPart Tryz.prog 78 1 = some (false, 1, 1) := by kernel_rfl
theorem fi78_2 : fieldInfo Tryz.prog 78 2 = some (2, 1) := by kernel_rfl
theorem fp78_2 : fieldPart Tryz.prog 78 2 = some (false, 2, 1) := by kernel_rfl
theorem fi78_3 : fieldInfo Tryz.prog 78 3 = some (3, 1) := by kernel_rfl
theorem fp78_3 : fieldPart Tryz.prog 78 3 = some (false, 3, 1) := by kernel_rfl
theorem fi78_4 : fieldInfo Tryz.prog 78 4 = some (4, 1) := by kernel_rfl
theorem fp78_4 : fieldPart Tryz.prog 78 4 = some (false, 4, 1) := by kernel_rfl
theorem pl78 : placesOf Tryz.prog 78 = some [(0, 1), (1, 1), (2, 1), (3, 1), (4, 1)] := by kernel_rfl
theorem sz79 : (Tryz.prog.info? 79).map (·.size) = some 1 := by kernel_rfl
theorem zr79 : (Tryz.prog.info? 79).map (·.zero) = some (some (.slice none 0 0)) := by kernel_rfl
theorem zc79 : (Tryz.prog.info? 79).map (fun i => i.zero.map Value.cells) = some (some #[(.slice none 0 0)]) := by kernel_rfl
theorem eo79 : elemOK Tryz.prog 79 1 24 = true := by kernel_rfl
theorem sz80 : (Tryz.prog.info? 80).map (·.size) = some 41 := by kernel_rfl
theorem zr80 : (Tryz.prog.info? 80).map (·.zero) = some (some (.agg (List.toArray ((.string ⟨#[]⟩) :: (.string ⟨#[]⟩) :: (.bool false) :: (.string ⟨#[]⟩) :: (.string ⟨#[]⟩) :: (.int .i64 0) :: (.int .i64 0) :: (.int .i64 0) :: (.int .i64 0) :: (.bool false) :: (.int .i64 0) :: (.int .u64 0) :: (.bool false) :: (.bool false) :: (.string ⟨#[]⟩) :: (.string ⟨#[]⟩) :: (.int .i64 0) :: (.int .i64 0) :: (.int .i64 0) :: (.int .i64 0) :: (.bool false) :: (.int .i64 0) :: (.int .u64 0) :: (.bool false) :: (.bool false) :: (.string ⟨#[]⟩) :: (.string ⟨#[]⟩) :: (.int .i64 0) :: (.int .i64 0) :: (.int .i64 0) :: (.int .i64 0) :: (.bool false) :: (.int .i64 0) :: (.int .u64 0) :: (.bool false) :: (.bool false) :: (.int .i64 0) :: (.string ⟨#[]⟩) :: (.int .i64 0) :: (.int .i64 0) :: (.slice none 0 0) :: [])))) := by kernel_rfl
theorem zc80 : (Tryz.prog.info? 80).map (fun i => i.zero.map Value.cells) = some (some (List.toArray ((.string ⟨#[]⟩) :: (.string ⟨#[]⟩) :: (.bool false) :: (.string ⟨#[]⟩) :: (.string ⟨#[]⟩) :: (.int .i64 0) :: (.int .i64 0) :: (.int .i64 0) :: (.int .i64 0) :: (.bool false) :: (.int .i64 0) :: (.int .u64 0) :: (.bool false) :: (.bool false) :: (.string ⟨#[]⟩) :: (.string ⟨#[]⟩) :: (.int .i64 0) :: (.int .i64 0) :: (.int .i64 0) :: (.int .i64 0) :: (.bool false) :: (.int .i64 0) :: (.int .u64 0) :: (.bool false) :: (.bool false) :: (.string ⟨#[]⟩) :: (.string ⟨#[]⟩) :: (.int .i64 0) :: (.int .i64 0) :: (.int .i64 0) :: (.int .i64 0) :: (.bool false) :: (.int .i64 0) :: (.int .u64 0) :: (.bool false) :: (.bool false) :: (.int .i64 0) :: (.string ⟨#[]⟩) :: (.int .i64 0) :: (.int .i64 0) :: (.slice none 0 0) :: []))) := by kernel_rfl
theorem eo80 : elemOK Tryz.prog 80 41 416 = true := by kernel_rfl
theorem fi80_0 : fieldInfo Tryz.prog 80 0 = some (0, 1) := by kernel_rfl
theorem fp80_0 : fieldPart Tryz.prog 80 0 = some (false, 0, 1) := by kernel_rfl
theorem fi80_1 : fieldInfo Tryz.prog 80 1 = some (1, 1) := by kernel_rfl
theorem fp80_1 : fieldPart Tryz.prog 80 1 = some (false, 1, 1) := by kernel_rfl
theorem fi80_2 : fieldInfo Tryz.prog 80 2 = some (2, 33) := by kernel_rfl
theorem fp80_2 : fieldPart Tryz.prog 80 2 = some (true, 2, 33) := by kernel_rfl
theorem fi80_3 : fieldInfo Tryz.prog 80 3 = some (35, 5) := by kernel_rfl
theorem fp80_3 : fieldPart Tryz.prog 80 3 = some (true, 35, 5) := by kernel_rfl
theorem fi80_4 : fieldInfo Tryz.prog 80 4 = some (40, 1) := by kernel_rfl
theorem fp80_4 : fieldPart Tryz.prog 80 4 = some (false, 40, 1) := by kernel_rfl
theorem pl80 : placesOf Tryz.prog 80 = some [(0, 1), (1, 1), (2, 33), (35, 5), (40, 1)] := by kernel_rfl
theorem sz81 : (Tryz.prog.info? 81).map (·.size) = some 41 := by kernel_rfl
theorem zr81 : (Tryz.prog.info? 81).map (·.zero) = some (some (.agg (List.toArray ((.string ⟨#[]⟩) :: (.string ⟨#[]⟩) :: (.bool false) :: (.string ⟨#[]⟩) :: (.string ⟨#[]⟩) :: (.int .i64 0) :: (.int .i64 0) :: (.int .i64 0) :: (.int .i64 0) :: (.bool false) :: (.int .i64 0) :: (.int .u64 0) :: (.bool false) :: (.bool false) :: (.string ⟨#[]⟩) :: (.string ⟨#[]⟩) :: (.int .i64 0) :: (.int .i64 0) :: (.int .i64 0) :: (.int .i64 0) :: (.bool false) :: (.int .i64 0) :: (.int .u64 0) :: (.bool false) :: (.bool false) :: (.string ⟨#[]⟩) :: (.string ⟨#[]⟩) :: (.int .i64 0) :: (.int .i64 0) :: (.int .i64 0) :: (.int .i64 0) :: (.bool false) :: (.int .i64 0) :: (.int .u64 0) :: (.bool false) :: (.bool false) :: (.int .i64 0) :: (.string ⟨#[]⟩) :: (.int .i64 0) :: (.int .i64 0) :: (.slice none 0 0) :: [])))) := by kernel_rfl
theorem zc81 : (Tryz.prog.info? 81).map (fun i => i.zero.map Value.cells) = some (some (List.toArray ((.string ⟨#[]⟩) :: (.string ⟨#[]⟩) :: (.bool false) :: (.string ⟨#[]⟩) :: (.string ⟨#[]⟩) :: (.int .i64 0) :: (.int .i64 0) :: (.int .i64 0) :: (.int .i64 0) :: (.bool false) :: (.int .i64 0) :: (.int .u64 0) :: (.bool false) :: (.bool false) :: (.string ⟨#[]⟩) :: (.string ⟨#[]⟩) :: (.int .i64 0) :: (.int .i64 0) :: (.int .i64 0) :: (.int .i64 0) :: (.bool false) :: (.int .i64 0) :: (.int .u64 0) :: (.bool false) :: (.bool false) :: (.string ⟨#[]⟩) :: (.string ⟨#[]⟩) :: (.int .i64 0) :: (.int .i64 0) :: (.int .i64 0) :: (.int .i64 0) :: (.bool false) :: (.int .i64 0) :: (.int .u64 0) :: (.bool false) :: (.bool false) :: (.int .i64 0) :: (.string ⟨#[]⟩) :: (.int .i64 0) :: (.int .i64 0) :: (.slice none 0 0) :: []))) := by kernel_rfl
theorem eo81 : elemOK Tryz.prog 81 41 416 = true := by kernel_rfl
theorem fi81_0 : fieldInfo Tryz.prog 81 0 = some (0, 1) := by kernel_rfl
theorem fp81_0 : fieldPart Tryz.prog 81 0 = some (false, 0, 1) := by kernel_rfl
theorem fi81_1 : fieldInfo Tryz.prog 81 1 = some (1, 1) := by kernel_rfl
theorem fp81_1 : fieldPart Tryz.prog 81 1 = some (false, 1, 1) := by kernel_rfl
theorem fi81_2 : fieldInfo Tryz.prog 81 2 = some (2, 33) := by kernel_rfl
theorem fp81_2 : fieldPart Tryz.prog 81 2 = some (true, 2, 33) := by kernel_rfl
theorem fi81_3 : fieldInfo Tryz.prog 81 3 = some (35, 5) := by kernel_rfl
theorem fp81_3 : fieldPart Tryz.prog 81 3 = some (true, 35, 5) := by kernel_rfl
theorem fi81_4 : fieldInfo Tryz.prog 81 4 = some (40, 1) := by kernel_rfl
theorem fp81_4 : fieldPart Tryz.prog 81 4 = some (false, 40, 1) := by kernel_rfl
theorem pl81 : placesOf Tryz.prog 81 = some [(0, 1), (1, 1), (2, 33), (35, 5), (40, 1)] := by kernel_rfl
theorem sz82 : (Tryz.prog.info? 82).map (·.size) = some 1 := by kernel_rfl
theorem zr82 : (Tryz.prog.info? 82).map (·.zero) = some (some .nilFunc) := by kernel_rfl
theorem zc82 : (Tryz.prog.info? 82).map (fun i => i.zero.map Value.cells) = some (some #[.nilFunc]) := by kernel_rfl
theorem eo82 : elemOK Tryz.prog 82 1 8 = true := by kernel_rfl
theorem sz83 : (Tryz.prog.info? 83).map (·.size) = some 1 := by kernel_rfl
theorem zr83 : (Tryz.prog.info? 83).map (·.zero) = some (some .nilFunc) := by kernel_rfl
theorem zc83 : (Tryz.prog.info? 83).map (fun i => i.zero.map Value.cells) = some (some #[.nilFunc]) := by kernel_rfl
theorem eo83 : elemOK Tryz.prog 83 1 8 = true := by kernel_rfl
theorem sz84 : (Tryz.prog.info? 84).map (·.size) = some 1 := by kernel_rfl
theorem zr84 : (Tryz.prog.info? 84).map (·.zero) = some (some .nilFunc) := by kernel_rfl
theorem zc84 : (Tryz.prog.info? 84).map (fun i => i.zero.map Value.cells) = some (some #[.nilFunc]) := by kernel_rfl
theorem eo84 : elemOK Tryz.prog 84 1 8 = true := by kernel_rfl
theorem sz85 : (Tryz.prog.info? 85).map (·.size) = some 5 := by kernel_rfl
theorem zr85 : (Tryz.prog.info? 85).map (·.zero) = some (some (.agg #[(.int .i64 0), (.string ⟨#[]⟩), (.int .i64 0), (.int .u32 0), (.int .i64 0)])) := by kernel_rfl
theorem zc85 : (Tryz.prog.info? 85).map (fun i => i.zero.map Value.cells) = some (some #[(.int .i64 0), (.string ⟨#[]⟩), (.int .i64 0), (.int .u32 0), (.int .i64 0)]) := by kernel_rfl
theorem eo85 : elemOK Tryz.prog 85 5 48 = true := by kernel_rfl
theorem fi85_0 : fieldInfo Tryz.prog 85 0 = some (0, 1) := by kernel_rfl
theorem fp85_0 : fieldPart Tryz.prog 85 0 = some (false, 0, 1) := by kernel_rfl
theorem fi85_1 : fieldInfo Tryz.prog 85 1 = some (1, 1) := by kernel_rfl
theorem fp85_1 : fieldPart Tryz.prog 85 1 = some (false, 1, 1) := by kernel_rfl
theorem fi85_2 : fieldInfo Tryz.prog 85 2 = some (2, 1) := by kernel_rfl
theorem fp85_2 : fieldPart Tryz.prog 85 2 = some (false, 2, 1) := by kernel_rfl
theorem fi85_3 : fieldInfo Tryz.prog 85 3 = some (3, 2) := by kernel_rfl
theorem fp85_3 : fieldPart Tryz.prog 85 3 = some (true, 3, 2) := by kernel_rfl
theorem pl85 : placesOf Tryz.prog 85 = some [(0, 1), (1, 1), (2, 1), (3, 2)] := by kernel_rfl
theorem sz86 : (Tryz.prog.info? 86).map (·.size) = some 5 := by kernel_rfl
theorem zr86 : (Tryz.prog.info? 86).map (·.zero) = some (some (.agg #[(.int .i64 0), (.string ⟨#[]⟩), (.int .i64 0), (.int .u32 0), (.int .i64 0)])) := by kernel_rfl
theorem zc86 : (Tryz.prog.info? 86).map (fun i => i.zero.map Value.cells) = some (some #[(.int .i64 0), (.string ⟨#[]⟩), (.int .i64 0), (.int .u32 0), (.int .i64 0)]) := by kernel_rfl
theorem eo86 : elemOK Tryz.prog 86 5 48 = true := by kernel_rfl
theorem fi86_0 : fieldInfo Tryz.prog 86 0 = some (0, 1) := by kernel_rfl
theorem fp86_0 : fieldPart Tryz.prog 86 0 = some (false, 0, 1) := by kernel_rfl
theorem fi86_1 : fieldInfo Tryz.prog 86 1 = some (1, 1) := by kernel_rfl
theorem fp86_1 : fieldPart Tryz.prog 86 1 = some (false, 1, 1) := by kernel_rfl
theorem fi86_2 : fieldInfo Tryz.prog 86 2 = some (2, 1) := by kernel_rfl
theorem fp86_2 : fieldPart Tryz.prog 86 2 = some (false, 2, 1) := by kernel_rfl
theorem fi86_3 : fieldInfo Tryz.prog 86 3 = some (3, 2) := by kernel_rfl
theorem fp86_3 : fieldPart Tryz.prog 86 3 = some (true, 3, 2) := by kernel_rfl
theorem pl86 : placesOf Tryz.prog 86 = some [(0, 1), (1, 1), (2, 1), (3, 2)] := by kernel_rfl
theorem sz87 : (Tryz.prog.info? 87).map (·.size) = some 1 := by kernel_rfl
theorem zr87 : (Tryz.prog.info? 87).map (·.zero) = some (some .nilFunc) := by kernel_rfl
theorem zc87 : (Tryz.prog.info? 87).map (fun i => i.zero.map Value.cells) = some (some #[.nilFunc]) := by kernel_rfl
theorem eo87 : elemOK Tryz.prog 87 1 8 = true := by kernel_rfl
theorem sz88 : (Tryz.prog.info? 88).map (·.size) = some 1 := by kernel_rfl
theorem zr88 : (Tryz.prog.info? 88).map (·.zero) = some (some .nilFunc) := by kernel_rfl
theorem zc88 : (Tryz.prog.info? 88).map (fun i => i.zero.map Value.cells) = some (some #[.nilFunc]) := by kernel_rfl
theorem eo88 : elemOK Tryz.prog 88 1 8 = true := by kernel_rfl
theorem sz89 : (Tryz.prog.info? 89).map (·.size) = some 1 := by kernel_rfl
theorem zr89 : (Tryz.prog.info? 89).map (·.zero) = some (some (.slice none 0 0)) := by kernel_rfl
theorem zc89 : (Tryz.prog.info? 89).map (fun i => i.zero.map Value.cells) = some (some #[(.slice none 0 0)]) := by kernel_rfl
theorem eo89 : elemOK Tryz.prog 89 1 24 = true := by kernel_rfl
theorem sz90 : (Tryz.prog.info? 90).map (·.size) = some 3 := by kernel_rfl
theorem zr90 : (Tryz.prog.info? 90).map (·.zero) = some (some (.agg #[(.int .u32 0), (.int .u32 0), (.slice none 0 0)])) := by kernel_rfl
theorem zc90 : (Tryz.prog.info? 90).map (fun i => i.zero.map Value.cells) = some (some #[(.int .u32 0), (.int .u32 0), (.slice none 0 0)]) := by kernel_rfl
theorem eo90 : elemOK Tryz.prog 90 3 32 = true := by kernel_rfl
theorem fi90_0 : fieldInfo Tryz.prog 90 0 = some (0, 1) := by kernel_rfl
theorem fp90_0 : fieldPart Tryz.prog 90 0 = some (false, 0, 1) := by kernel_rfl
theorem fi90_1 : fieldInfo Tryz.prog 90 1 = some (1, 1) := by kernel_rfl
theorem fp90_1 : fieldPart Tryz.prog 90 1 = some (false, 1, 1) := by kernel_rfl
theorem fi90_2 : fieldInfo Tryz.prog 90 2 = some (2, 1) := by kernel_rfl
theorem fp90_2 : fieldPart Tryz.prog 90 2 = some (false, 2, 1) := by kernel_rfl
theorem pl90 : placesOf Tryz.prog 90 = some [(0, 1), (1, 1), (2, 1)] := by kernel_rfl
theorem sz91 : (Tryz.prog.info? 91).map (·.size) = some 3 := by kernel_rfl
theorem zr91 : (Tryz.prog.info? 91).map (·.zero) = some (some (.agg #[(.int .u32 0), (.int .u32 0), (.slice none 0 0)])) := by kernel_rfl
theorem zc91 : (Tryz.prog.info? 91).map (fun i => i.zero.map Value.cells) = some (some #[(.int .u32 0), (.int .u32 0), (.slice none 0 0)]) := by kernel_rfl
theorem eo91 : elemOK Tryz.prog 91 3 32 = true := by kernel_rfl
theorem fi91_0 : fieldInfo Tryz.prog 91 0 = some (0, 1) := by kernel_rfl
theorem fp91_0 : fieldPart Tryz.prog 91 0 = some (false, 0, 1) := by kernel_rfl
theorem fi91_1 : fieldInfo Tryz.prog 91 1 = some (1, 1) := by kernel_rfl
theorem fp91_1 : fieldPart Tryz.prog 91 1 = some (false, 1, 1) := by kernel_rfl
theorem fi91_2 : fieldInfo Tryz.prog 91 2 = some (2, 1) := by kernel_rfl
theorem fp91_2 : fieldPart Tryz.prog 91 2 = some (false, 2, 1) := by kernel_rfl
theorem pl91 : placesOf Tryz.prog 91 = some [(0, 1), (1, 1), (2, 1)] := by kernel_rfl
theorem sz92 : (Tryz.prog.info? 92).map (·.size) = some 1 := by kernel_rfl
theorem zr92 : (Tryz.prog.info? 92).map (·.zero) = some (some .nilFunc) := by kernel_rfl
theorem zc92 : (Tryz.prog.info? 92).map (fun i => i.zero.map Value.cells) = some (some #[.nilFunc]) := by kernel_rfl
theorem eo92 : elemOK Tryz.prog 92 1 8 = true := by kernel_rfl
theorem sz93 : (Tryz.prog.info? 93).map (·.size) = some 1 := by kernel_rfl
theorem zr93 : (Tryz.prog.info? 93).map (·.zero) = some (some .nilFunc) := by kernel_rfl
theorem zc93 : (Tryz.prog.info? 93).map (fun i => i.zero.map Value.cells) = some (some #[.nilFunc]) := by kernel_rfl
theorem eo93 : elemOK Tryz.prog 93 1 8 = true := by kernel_rfl
theorem sz94 : (Tryz.prog.info? 94).map (·.size) = some 1 := by kernel_rfl
theorem zr94 : (Tryz.prog.info? 94).map (·.zero) = some (some .nilFunc) := by kernel_rfl
theorem zc94 : (Tryz.prog.info? 94).map (fun i => i.zero.map Value.cells) = some (some #[.nilFunc]) := by kernel_rfl
theorem eo94 : elemOK Tryz.prog 94 1 8 = true := by kernel_rfl
theorem sz95 : (Tryz.prog.info? 95).map (·.size) = some 1 := by kernel_rfl
theorem zr95 : (Tryz.prog.info? 95).map (·.zero) = some (some .nilFunc) := by kernel_rfl
theorem zc95 : (Tryz.prog.info? 95).map (fun i => i.zero.map Value.cells) = some (some #[.nilFunc]) := by kernel_rfl
theorem eo95 : elemOK Tryz.prog 95 1 8 = true := by kernel_rfl
theorem sz96 : (Tryz.prog.info? 96).map (·.size) = some 1 := by kernel_rfl
theorem zr96 : (Tryz.prog.info? 96).map (·.zero) = some (some .nilFunc) := by kernel_rfl
theorem zc96 : (Tryz.prog.info? 96).map (fun i => i.zero.map Value.cells) = some (some #[.nilFunc]) := by kernel_rfl
theorem eo96 : elemOK Tryz.prog 96 1 8 = true := by kernel_rfl
theorem sz97 : (Tryz.prog.info? 97).map (·.size) = some 1 := by kernel_rfl
theorem zr97 : (Tryz.prog.info? 97).map (·.zero) = some (some .nilFunc) := by kernel_rfl
theorem zc97 : (Tryz.prog.info? 97).map (fun i => i.zero.map Value.cells) = some (some #[.nilFunc]) := by kernel_rfl
theorem eo97 : elemOK Tryz.prog 97 1 8 = true := by kernel_rfl
theorem sz98 : (Tryz.prog.info? 98).map (·.size) = some 1 := by kernel_rfl
theorem zr98 : (Tryz.prog.info? 98).map (·.zero) = some (some .nilFunc) := by kernel_rfl
theorem zc98 : (Tryz.prog.info? 98).map (fun i => i.zero.map Value.cells) = some (some #[.nilFunc]) := by kernel_rfl
theorem eo98 : elemOK Tryz.prog 98 1 8 = true := by kernel_rfl
theorem sz99 : (Tryz.prog.info? 99).map (·.size) = some 1 := by kernel_rfl
theorem zr99 : (Tryz.prog.info? 99).map (·.zero) = some (some .nilFunc) := by kernel_rfl
theorem zc99 : (Tryz.prog.info? 99).map (fun i => i.zero.map Value.cells) = some (some #[.nilFunc]) := by kernel_rfl
theorem eo99 : elemOK Tryz.prog 99 1 8 = true := by kernel_rfl
theorem sz100 : (Tryz.prog.info? 100).map (·.size) = some 1 := by kernel_rfl
theorem zr100 : (Tryz.prog.info? 100).map (·.zero) = some (some (.pointer none)) := by kernel_rfl
theorem zc100 : (Tryz.prog.info? 100).map (fun i => i.zero.map Value.cells) = some (some #[(.pointer none)]) := by kernel_rfl
theorem eo100 : elemOK Tryz.prog 100 1 8 = true := by kernel_rfl
theorem sz101 : (Tryz.prog.info? 101).map (·.size) = some 1 := by kernel_rfl
theorem zr101 : (Tryz.prog.info? 101).map (·.zero) = some (some .nilFunc) := by kernel_rfl
theorem zc101 : (Tryz.prog.info? 101).map (fun i => i.zero.map Value.cells) = some (some #[.nilFunc]) := by kernel_rfl
theorem eo101 : elemOK Tryz.prog 101 1 8 = true := by kernel_rfl
theorem sz102 : (Tryz.prog.info? 102).map (·.size) = some 1 := by kernel_rfl
theorem zr102 : (Tryz.prog.info? 102).map (·.zero) = some (some .nilFunc) := by kernel_rfl
theorem zc102 : (Tryz.prog.info? 102).map (fun i => i.zero.map Value.cells) = some (some #[.nilFunc]) := by kernel_rfl
theorem eo102 : elemOK Tryz.prog 102 1 8 = true := by kernel_rfl
theorem sz103 : (Tryz.prog.info? 103).map (·.size) = some 1 := by kernel_rfl
theorem zr103 : (Tryz.prog.info? 103).map (·.zero) = some (some .nilFunc) := by kernel_rfl
theorem zc103 : (Tryz.prog.info? 103).map (fun i => i.zero.map Value.cells) = some (some #[.nilFunc]) := by kernel_rfl
theorem eo103 : elemOK Tryz.prog 103 1 8 = true := by kernel_rfl
theorem sz104 : (Tryz.prog.info? 104).map (·.size) = some 1 := by kernel_rfl
theorem zr104 : (Tryz.prog.info? 104).map (·.zero) = some (some (.map none)) := by kernel_rfl
theorem zc104 : (Tryz.prog.info? 104).map (fun i => i.zero.map Value.cells) = some (some #[(.map none)]) := by kernel_rfl
theorem eo104 : elemOK Tryz.prog 104 1 8 = true := by kernel_rfl
theorem sz105 : (Tryz.prog.info? 105).map (·.size) = some 1 := by kernel_rfl
theorem sz106 : (Tryz.prog.info? 106).map (·.size) = some 1 := by kernel_rfl
theorem zr106 : (Tryz.prog.info? 106).map (·.zero) = some (some .nilFunc) := by kernel_rfl
theorem zc106 : (Tryz.prog.info? 106).map (fun i => i.zero.map Value.cells) = some (some #[.nilFunc]) := by kernel_rfl
theorem eo106 : elemOK Tryz.prog 106 1 8 = true := by kernel_rfl
theorem sz107 : (Tryz.prog.info? 107).map (·.size) = some 1 := by kernel_rfl
theorem zr107 : (Tryz.prog.info? 107).map (·.zero) = some (some .nilFunc) := by kernel_rfl
theorem zc107 : (Tryz.prog.info? 107).map (fun i => i.zero.map Value.cells) = some (some #[.nilFunc]) := by kernel_rfl
theorem eo107 : elemOK Tryz.prog 107 1 8 = true := by kernel_rfl
theorem sz108 : (Tryz.prog.info? 108).map (·.size) = some 1 := by kernel_rfl
theorem zr108 : (Tryz.prog.info? 108).map (·.zero) = some (some .nilFunc) := by kernel_rfl
theorem zc108 : (Tryz.prog.info? 108).map (fun i => i.zero.map Value.cells) = some (some #[.nilFunc]) := by kernel_rfl
theorem eo108 : elemOK Tryz.prog 108 1 8 = true := by kernel_rfl
theorem sz109 : (Tryz.prog.info? 109).map (·.size) = some 1 := by kernel_rfl
theorem zr109 : (Tryz.prog.info? 109).map (·.zero) = some (some (.slice none 0 0)) := by kernel_rfl
theorem zc109 : (Tryz.prog.info? 109).map (fun i => i.zero.map Value.cells) = some (some #[(.slice none 0 0)]) := by kernel_rfl
theorem eo109 : elemOK Tryz.prog 109 1 24 = true := by kernel_rfl
theorem sz110 : (Tryz.prog.info? 110).map (·.size) = some 2 := by kernel_rfl
theorem zr110 : (Tryz.prog.info? 110).map (·.zero) = some (some (.agg #[(.string ⟨#[]⟩), (.string ⟨#[]⟩)])) := by kernel_rfl
theorem zc110 : (Tryz.prog.info? 110).map (fun i => i.zero.map Value.cells) = some (some #[(.string ⟨#[]⟩), (.string ⟨#[]⟩)]) := by kernel_rfl
theorem eo110 : elemOK Tryz.prog 110 2 32 = true := by kernel_rfl
theorem fi110_0 : fieldInfo Tryz.prog 110 0 = some (0, 1) := by kernel_rfl
theorem fp110_0 : fieldPart Tryz.prog 110 0 = some (false, 0, 1) := by kernel_rfl
theorem fi110_1 : fieldInfo Tryz.prog 110 1 = some (1, 1) := by kernel_rfl
theorem fp110_1 : fieldPart Tryz.prog 110 1 = some (false, 1, 1) := by kernel_rfl
theorem pl110 : placesOf Tryz.prog 110 = some [(0, 1), (1, 1)] := by kernel_rfl
theorem sz111 : (Tryz.prog.info? 111).map (·.size) = some 2 := by kernel_rfl
theorem zr111 : (Tryz.prog.info? 111).map (·.zero) = some (some (.agg #[(.string ⟨#[]⟩), (.string ⟨#[]⟩)])) := by kernel_rfl
theorem zc111 : (Tryz.prog.info? 111).map (fun i => i.zero.map Value.cells) = some (some #[(.string ⟨#[]⟩), (.string ⟨#[]⟩)]) := by kernel_rfl
theorem eo111 : elemOK Tryz.prog 111 2 32 = true := by kernel_rfl
theorem fi111_0 : fieldInfo Tryz.prog 111 0 = some (0, 1) := by kernel_rfl
theorem fp111_0 : fieldPart Tryz.prog 111 0 = some (false, 0, 1) := by kernel_rfl
theorem fi111_1 : fieldInfo Tryz.prog 111 1 = some (1, 1) := by kernel_rfl
theorem fp111_1 : fieldPart Tryz.prog 111 1 = some (false, 1, 1) := by kernel_rfl
theorem pl111 : placesOf Tryz.prog 111 = some [(0, 1), (1, 1)] := by kernel_rfl
theorem sz112 : (Tryz.prog.info? 112).map (·.size) = some 1 := by kernel_rfl
theorem sz113 : (Tryz.prog.info? 113).map (·.size) = some 1 := by kernel_rfl
theorem zr113 : (Tryz.prog.info? 113).map (·.zero) = some (some .nilFunc) := by kernel_rfl
theorem zc113 : (Tryz.prog.info? 113).map (fun i => i.zero.map Value.cells) = some (some #[.nilFunc]) := by kernel_rfl
theorem eo113 : elemOK Tryz.prog 113 1 8 = true := by kernel_rfl
theorem sz114 : (Tryz.prog.info? 114).map (·.size) = some 1 := by kernel_rfl
theorem zr114 : (Tryz.prog.info? 114).map (·.zero) = some (some .nilFunc) := by kernel_rfl
theorem zc114 : (Tryz.prog.info? 114).map (fun i => i.zero.map Value.cells) = some (some #[.nilFunc]) := by kernel_rfl
theorem eo114 : elemOK Tryz.prog 114 1 8 = true := by kernel_rfl
theorem sz115 : (Tryz.prog.info? 115).map (·.size) = some 1 := by kernel_rfl
theorem zr115 : (Tryz.prog.info? 115).map (·.zero) = some (some .nilFunc) := by kernel_rfl
theorem zc115 : (Tryz.prog.info? 115).map (fun i => i.zero.map Value.cells) = some (some #[.nilFunc]) := by kernel_rfl
theorem eo115 : elemOK Tryz.prog 115 1 8 = true := by kernel_rfl
theorem sz116 : (Tryz.prog.info? 116).map (·.size) = some 1 := by kernel_rfl
theorem sz117 : (Tryz.prog.info? 117).map (·.size) = some 1 := by kernel_rfl
theorem zr117 : (Tryz.prog.info? 117).map (·.zero) = some (some .nilFunc) := by kernel_rfl
theorem zc117 : (Tryz.prog.info? 117).map (fun i => i.zero.map Value.cells) = some (some #[.nilFunc]) := by kernel_rfl
theorem eo117 : elemOK Tryz.prog 117 1 8 = true := by kernel_rfl
theorem sz118 : (Tryz.prog.info? 118).map (·.size) = some 1 := by kernel_rfl
theorem sz119 : (Tryz.prog.info? 119).map (·.size) = some 1 := by kernel_rfl
theorem zr119 : (Tryz.prog.info? 119).map (·.zero) = some (some .nilFunc) := by kernel_rfl
theorem zc119 : (Tryz.prog.info? 119).map (fun i => i.zero.map Value.cells) = some (some #[.nilFunc]) := by kernel_rfl
theorem eo119 : elemOK Tryz.prog 119 1 8 = true := by kernel_rfl
theorem sz120 : (Tryz.prog.info? 120).map (·.size) = some 1 := by kernel_rfl
theorem zr120 : (Tryz.prog.info? 120).map (·.zero) = some (some .nilFunc) := by kernel_rfl
theorem zc120 : (Tryz.prog.info? 120).map (fun i => i.zero.map Value.cells) = some (some #[.nilFunc]) := by kernel_rfl
theorem eo120 : elemOK Tryz.prog 120 1 8 = true := by kernel_rfl
theorem sz121 : (Tryz.prog.info? 121).map (·.size) = some 1 := by kernel_rfl
theorem zr121 : (Tryz.prog.info? 121).map (·.zero) = some (some .nilFunc) := by kernel_rfl
theorem zc121 : (Tryz.prog.info? 121).map (fun i => i.zero.map Value.cells) = some (some #[.nilFunc]) := by kernel_rfl
theorem eo121 : elemOK Tryz.prog 121 1 8 = true := by kernel_rfl
theorem sz122 : (Tryz.prog.info? 122).map (·.size) = some 1 := by kernel_rfl
theorem zr122 : (Tryz.prog.info? 122).map (·.zero) = some (some .nilFunc) := by kernel_rfl
theorem zc122 : (Tryz.prog.info? 122).map (fun i => i.zero.map Value.cells) = some (some #[.nilFunc]) := by kernel_rfl
theorem eo122 : elemOK Tryz.prog 122 1 8 = true := by kernel_rfl
theorem sz123 : (Tryz.prog.info? 123).map (·.size) = some 1 := by kernel_rfl
theorem zr123 : (Tryz.prog.info? 123).map (·.zero) = some (some .nilFunc) := by kernel_rfl
theorem zc123 : (Tryz.prog.info? 123).map (fun i => i.zero.map Value.cells) = some (some #[.nilFunc]) := by kernel_rfl
theorem eo123 : elemOK Tryz.prog 123 1 8 = true := by kernel_rfl
theorem sz124 : (Tryz.prog.info? 124).map (·.size) = some 1 := by kernel_rfl
theorem zr124 : (Tryz.prog.info? 124).map (·.zero) = some (some (.slice none 0 0)) := by kernel_rfl
theorem zc124 : (Tryz.prog.info? 124).map (fun i => i.zero.map Value.cells) = some (some #[(.slice none 0 0)]) := by kernel_rfl
theorem eo124 : elemOK Tryz.prog 124 1 24 = true := by kernel_rfl
theorem sz125 : (Tryz.prog.info? 125).map (·.size) = some 1 := by kernel_rfl
theorem zr125 : (Tryz.prog.info? 125).map (·.zero) = some (some .nilFunc) := by kernel_rfl
theorem zc125 : (Tryz.prog.info? 125).map (fun i => i.zero.map Value.cells) = some (some #[.nilFunc]) := by kernel_rfl
theorem eo125 : elemOK Tryz.prog 125 1 8 = true := by kernel_rfl
theorem sz126 : (Tryz.prog.info? 126).map (·.size) = some 5 := by kernel_rfl
theorem zr126 : (Tryz.prog.info? 126).map (·.zero) = some (some (.agg #[(.int .i64 0), (.int .i64 0), (.int .i64 0), (.int .i64 0), (.int .i64 0)])) := by kernel_rfl
theorem zc126 : (Tryz.prog.info? 126).map (fun i => i.zero.map Value.cells) = some (some #[(.int .i64 0), (.int .i64 0), (.int .i64 0), (.int .i64 0), (.int .i64 0)]) := by kernel_rfl
theorem eo126 : elemOK Tryz.prog 126 5 40 = true := by kernel_rfl
theorem sz127 : (Tryz.prog.info? 127).map (·.size) = some 1 := by kernel_rfl
theorem zr127 : (Tryz.prog.info? 127).map (·.zero) = some (some .nilFunc) := by kernel_rfl
theorem zc127 : (Tryz.prog.info? 127).map (fun i => i.zero.map Value.cells) = some (some #[.nilFunc]) := by kernel_rfl
theorem eo127 : elemOK Tryz.prog 127 1 8 = true := by kernel_rfl
theorem sz128 : (Tryz.prog.info? 128).map (·.size) = some 1 := by kernel_rfl
theorem zr128 : (Tryz.prog.info? 128).map (·.zero) = some (some .nilFunc) := by kernel_rfl
theorem zc128 : (Tryz.prog.info? 128).map (fun i => i.zero.map Value.cells) = some (some #[.nilFunc]) := by kernel_rfl
theorem eo128 : elemOK Tryz.prog 128 1 8 = true := by kernel_rfl
theorem sz129 : (Tryz.prog.info? 129).map (·.size) = some 1 := by kernel_rfl
theorem zr129 : (Tryz.prog.info? 129).map (·.zero) = some (some .nilFunc) := by kernel_rfl
theorem zc129 : (Tryz.prog.info? 129).map (fun i => i.zero.map Value.cells) = some (some #[.nilFunc]) := by kernel_rfl
theorem eo129 : elemOK Tryz.prog 129 1 8 = true := by kernel_rfl
theorem sz130 : (Tryz.prog.info? 130).map (·.size) = some 1 := by kernel_rfl
theorem zr130 : (Tryz.prog.info? 130).map (·.zero) = some (some .nilFunc) := by kernel_rfl
theorem zc130 : (Tryz.prog.info? 130).map (fun i => i.zero.map Value.cells) = some (some #[.nilFunc]) := by kernel_rfl
theorem eo130 : elemOK Tryz.prog 130 1 8 = true := by kernel_rfl
theorem sz131 : (Tryz.prog.info? 131).map (·.size) = some 1 := by kernel_rfl
theorem zr131 : (Tryz.prog.info? 131).map (·.zero) = some (some .nilFunc) := by kernel_rfl
theorem zc131 : (Tryz.prog.info? 131).map (fun i => i.zero.map Value.cells) = some (some #[.nilFunc]) := by kernel_rfl
theorem eo131 : elemOK Tryz.prog 131 1 8 = true := by kernel_rfl
theorem sz132 : (Tryz.prog.info? 132).map (·.size) = some 1 := by kernel_rfl
theorem zr132 : (Tryz.prog.info? 132).map (·.zero) = some (some (.map none)) := by kernel_rfl
theorem zc132 : (Tryz.prog.info? 132).map (fun i => i.zero.map Value.cells) = some (some #[(.map none)]) := by kernel_rfl
theorem eo132 : elemOK Tryz.prog 132 1 8 = true := by kernel_rfl
theorem sz133 : (Tryz.prog.info? 133).map (·.size) = some 1 := by kernel_rfl
theorem zr133 : (Tryz.prog.info? 133).map (·.zero) = some (some .nilFunc) := by kernel_rfl
theorem zc133 : (Tryz.prog.info? 133).map (fun i => i.zero.map Value.cells) = some (some #[.nilFunc]) := by kernel_rfl
theorem eo133 : elemOK Tryz.prog 133 1 8 = true := by kernel_rfl
theorem sz134 : (Tryz.prog.info? 134).map (·.size) = some 1 := by kernel_rfl
theorem sz135 : (Tryz.prog.info? 135).map (·.size) = some 1 := by kernel_rfl
theorem zr135 : (Tryz.prog.info? 135).map (·.zero) = some (some .nilFunc) := by kernel_rfl
theorem zc135 : (Tryz.prog.info? 135).map (fun i => i.zero.map Value.cells) = some (some #[.nilFunc]) := by kernel_rfl
theorem eo135 : elemOK Tryz.prog 135 1 8 = true := by kernel_rfl
theorem sz136 : (Tryz.prog.info? 136).map (·.size) = some 1 := by kernel_rfl
theorem zr136 : (Tryz.prog.info? 136).map (·.zero) = some (some .nilFunc) := by kernel_rfl
theorem zc136 : (Tryz.prog.info? 136).map (fun i => i.zero.map Value.cells) = some (some #[.nilFunc]) := by kernel_rfl
theorem eo136 : elemOK Tryz.prog 136 1 8 = true := by kernel_rfl
theorem sz137 : (Tryz.prog.info? 137).map (·.size) = some 1 := by kernel_rfl
theorem sz138 : (Tryz.prog.info? 138).map (·.size) = some 1 := by kernel_rfl
theorem zr138 : (Tryz.prog.info? 138).map (·.zero) = some (some .nilFunc) := by kernel_rfl
theorem zc138 : (Tryz.prog.info? 138).map (fun i => i.zero.map Value.cells) = some (some #[.nilFunc]) := by kernel_rfl
theorem eo138 : elemOK Tryz.prog 138 1 8 = true := by kernel_rfl
theorem sz139 : (Tryz.prog.info? 139).map (·.size) = some 1 := by kernel_rfl
theorem zr139 : (Tryz.prog.info? 139).map (·.zero) = some (some .nilFunc) := by kernel_rfl
theorem zc139 : (Tryz.prog.info? 139).map (fun i => i.zero.map Value.cells) = some (some #[.nilFunc]) := by kernel_rfl
theorem eo139 : elemOK Tryz.prog 139 1 8 = true := by kernel_rfl
theorem sz140 : (Tryz.prog.info? 140).map (·.size) = some 1 := by kernel_rfl
theorem zr140 : (Tryz.prog.info? 140).map (·.zero) = some (some .nilFunc) := by kernel_rfl
theorem zc140 : (Tryz.prog.info? 140).map (fun i => i.zero.map Value.cells) = some (some #[.nilFunc]) := by kernel_rfl
theorem eo140 : elemOK Tryz.prog 140 1 8 = true := by kernel_rfl
theorem sz141 : (Tryz.prog.info? 141).map (·.size) = some 1 := by kernel_rfl
theorem sz142 : (Tryz.prog.info? 142).map (·.size) = some 1 := by kernel_rfl
theorem zr142 : (Tryz.prog.info? 142).map (·.zero) = some (some .nilFunc) := by kernel_rfl
theorem zc142 : (Tryz.prog.info? 142).map (fun i => i.zero.map Value.cells) = some (some #[.nilFunc]) := by kernel_rfl
theorem eo142 : elemOK Tryz.prog 142 1 8 = true := by kernel_rfl
theorem sz143 : (Tryz.prog.info? 143).map (·.size) = some 1 := by kernel_rfl
theorem zr143 : (Tryz.prog.info? 143).map (·.zero) = some (some .nilFunc) := by kernel_rfl
theorem zc143 : (Tryz.prog.info? 143).map (fun i => i.zero.map Value.cells) = some (some #[.nilFunc]) := by kernel_rfl
theorem eo143 : elemOK Tryz.prog 143 1 8 = true := by kernel_rfl
theorem sz144 : (Tryz.prog.info? 144).map (·.size) = some 2 := by kernel_rfl
theorem zr144 : (Tryz.prog.info? 144).map (·.zero) = some (some (.agg #[(.pointer none), (.pointer none)])) := by kernel_rfl
theorem zc144 : (Tryz.prog.info? 144).map (fun i => i.zero.map Value.cells) = some (some #[(.pointer none), (.pointer none)]) := by kernel_rfl
theorem eo144 : elemOK Tryz.prog 144 2 16 = true := by kernel_rfl
theorem sz145 : (Tryz.prog.info? 145).map (·.size) = some 5 := by kernel_rfl
theorem zr145 : (Tryz.prog.info? 145).map (·.zero) = some (some (.agg #[(.int .u32 0), (.int .i64 0), (.string ⟨#[]⟩), (.pointer none), (.pointer none)])) := by kernel_rfl
theorem zc145 : (Tryz.prog.info? 145).map (fun i => i.zero.map Value.cells) = some (some #[(.int .u32 0), (.int .i64 0), (.string ⟨#[]⟩), (.pointer none), (.pointer none)]) := by kernel_rfl
theorem eo145 : elemOK Tryz.prog 145 5 48 = true := by kernel_rfl
theorem fi145_0 : fieldInfo Tryz.prog 145 0 = some (0, 2) := by kernel_rfl
theorem fp145_0 : fieldPart Tryz.prog 145 0 = some (true, 0, 2) := by kernel_rfl
theorem fi145_1 : fieldInfo Tryz.prog 145 1 = some (2, 1) := by kernel_rfl
theorem fp145_1 : fieldPart Tryz.prog 145 1 = some (false, 2, 1) := by kernel_rfl
theorem fi145_2 : fieldInfo Tryz.prog 145 2 = some (3, 2) := by kernel_rfl
theorem fp145_2 : fieldPart Tryz.prog 145 2 = some (true, 3, 2) := by kernel_rfl
theorem pl145 : placesOf Tryz.prog 145 = some [(0, 2), (2, 1), (3, 2)] := by kernel_rfl
theorem sz146 : (Tryz.prog.info? 146).map (·.size) = some 5 := by kernel_rfl
theorem zr146 : (Tryz.prog.info? 146).map (·.zero) = some (some (.agg #[(.int .u32 0), (.int .i64 0), (.string ⟨#[]⟩), (.pointer none), (.pointer none)])) := by kernel_rfl
theorem zc146 : (Tryz.prog.info? 146).map (fun i => i.zero.map Value.cells) = some (some #[(.int .u32 0), (.int .i64 0), (.string ⟨#[]⟩), (.pointer none), (.pointer none)]) := by kernel_rfl
theorem eo146 : elemOK Tryz.prog 146 5 48 = true := by kernel_rfl
theorem fi146_0 : fieldInfo Tryz.prog 146 0 = some (0, 2) := by kernel_rfl
theorem fp146_0 : fieldPart Tryz.prog 146 0 = some (true, 0, 2) := by kernel_rfl
theorem fi146_1 : fieldInfo Tryz.prog 146 1 = some (2, 1) := by kernel_rfl
theorem fp146_1 : fieldPart Tryz.prog 146 1 = some (false, 2, 1) := by kernel_rfl
theorem fi146_2 : fieldInfo Tryz.prog 146 2 = some (3, 2) := by kernel_rfl
theorem fp146_2 : fieldPart Tryz.prog 146 2 = some (true, 3, 2) := by kernel_rfl
theorem pl146 : placesOf Tryz.prog 146 = some [(0, 2), (2, 1), (3, 2)] := by kernel_rfl
theorem sz147 : (Tryz.prog.info? 147).map (·.size) = some 1 := by kernel_rfl
theorem zr147 : (Tryz.prog.info? 147).map (·.zero) = some (some .nilFunc) := by kernel_rfl
theorem zc147 : (Tryz.prog.info? 147).map (fun i => i.zero.map Value.cells) = some (some #[.nilFunc]) := by kernel_rfl
theorem eo147 : elemOK Tryz.prog 147 1 8 = true := by kernel_rfl
theorem sz148 : (Tryz.prog.info? 148).map (·.size) = some 1 := by kernel_rfl
theorem zr148 : (Tryz.prog.info? 148).map (·.zero) = some (some .nilFunc) := by kernel_rfl
theorem zc148 : (Tryz.prog.info? 148).map (fun i => i.zero.map Value.cells) = some (some #[.nilFunc]) := by kernel_rfl
theorem eo148 : elemOK Tryz.prog 148 1 8 = true := by kernel_rfl
theorem sz149 : (Tryz.prog.info? 149).map (·.size) = some 1 := by kernel_rfl
theorem zr149 : (Tryz.prog.info? 149).map (·.zero) = some (some .nilFunc) := by kernel_rfl
theorem zc149 : (Tryz.prog.info? 149).map (fun i => i.zero.map Value.cells) = some (some #[.nilFunc]) := by kernel_rfl
theorem eo149 : elemOK Tryz.prog 149 1 8 = true := by kernel_rfl
theorem sz150 : (Tryz.prog.info? 150).map (·.size) = some 11 := by kernel_rfl
theorem zr150 : (Tryz.prog.info? 150).map (·.zero) = some (some (.agg #[(.string ⟨#[]⟩), (.string ⟨#[]⟩), (.string ⟨#[]⟩), (.string ⟨#[]⟩), (.string ⟨#[]⟩), (.string ⟨#[]⟩), (.string ⟨#[]⟩), (.string ⟨#[]⟩), (.string ⟨#[]⟩), (.string ⟨#[]⟩), (.string ⟨#[]⟩)])) := by kernel_rfl
theorem zc150 : (Tryz.prog.info? 150).map (fun i => i.zero.map Value.cells) = some (some #[(.string ⟨#[]⟩), (.string ⟨#[]⟩), (.string ⟨#[]⟩), (.string ⟨#[]⟩), (.string ⟨#[]⟩), (.string ⟨#[]⟩), (.string ⟨#[]⟩), (.string ⟨#[]⟩), (.string ⟨#[]⟩), (.string ⟨#[]⟩), (.string ⟨#[]⟩)]) := by kernel_rfl
theorem eo150 : elemOK Tryz.prog 150 11 176 = true := by kernel_rfl
theorem sz151 : (Tryz.prog.info? 151).map (·.size) = some 1 := by kernel_rfl
theorem zr151 : (Tryz.prog.info? 151).map (·.zero) = some (some .nilFunc) := by kernel_rfl
theorem zc151 : (Tryz.prog.info? 151).map (fun i => i.zero.map Value.cells) = some (some #[.nilFunc]) := by kernel_rfl
theorem eo151 : elemOK Tryz.prog 151 1 8 = true := by kernel_rfl
theorem sz152 : (Tryz.prog.info? 152).map (·.size) = some 1 := by kernel_rfl
theorem zr152 : (Tryz.prog.info? 152).map (·.zero) = some (some .nilFunc) := by kernel_rfl
theorem zc152 : (Tryz.prog.info? 152).map (fun i => i.zero.map Value.cells) = some (some #[.nilFunc]) := by kernel_rfl
theorem eo152 : elemOK Tryz.prog 152 1 8 = true := by kernel_rfl
theorem sz153 : (Tryz.prog.info? 153).map (·.size) = some 1 := by kernel_rfl
theorem zr153 : (Tryz.prog.info? 153).map (·.zero) = some (some (.slice none 0 0)) := by kernel_rfl
theorem zc153 : (Tryz.prog.info? 153).map (fun i => i.zero.map Value.cells) = some (some #[(.slice none 0 0)]) := by kernel_rfl
theorem eo153 : elemOK Tryz.prog 153 1 24 = true := by kernel_rfl
theorem sz154 : (Tryz.prog.info? 154).map (·.size) = some 1 := by kernel_rfl
theorem zr154 : (Tryz.prog.info? 154).map (·.zero) = some (some .nilFunc) := by kernel_rfl
theorem zc154 : (Tryz.prog.info? 154).map (fun i => i.zero.map Value.cells) = some (some #[.nilFunc]) := by kernel_rfl
theorem eo154 : elemOK Tryz.prog 154 1 8 = true := by kernel_rfl
theorem sz155 : (Tryz.prog.info? 155).map (·.size) = some 1 := by kernel_rfl
theorem zr155 : (Tryz.prog.info? 155).map (·.zero) = some (some .nilFunc) := by kernel_rfl
theorem zc155 : (Tryz.prog.info? 155).map (fun i => i.zero.map Value.cells) = some (some #[.nilFunc]) := by kernel_rfl
theorem eo155 : elemOK Tryz.prog 155 1 8 = true := by kernel_rfl
theorem sz156 : (Tryz.prog.info? 156).map (·.size) = some 1 := by kernel_rfl
theorem zr156 : (Tryz.prog.info? 156).map (·.zero) = some (some .nilFunc) := by kernel_rfl
theorem zc156 : (Tryz.prog.info? 156).map (fun i => i.zero.map Value.cells) = some (some #[.nilFunc]) := by kernel_rfl
theorem eo156 : elemOK Tryz.prog 156 1 8 = true := by kernel_rfl
theorem sz157 : (Tryz.prog.info? 157).map (·.size) = some 1 := by kernel_rfl
theorem zr157 : (Tryz.prog.info? 157).map (·.zero) = some (some .nilFunc) := by kernel_rfl
theorem zc157 : (Tryz.prog.info? 157).map (fun i => i.zero.map Value.cells) = some (some #[.nilFunc]) := by kernel_rfl
theorem eo157 : elemOK Tryz.prog 157 1 8 = true := by kernel_rfl
theorem sz158 : (Tryz.prog.info? 158).map (·.size) = some 1 := by kernel_rfl
theorem zr158 : (Tryz.prog.info? 158).map (·.zero) = some (some .nilFunc) := by kernel_rfl
theorem zc158 : (Tryz.prog.info? 158).map (fun i => i.zero.map Value.cells) = some (some #[.nilFunc]) := by kernel_rfl
theorem eo158 : elemOK Tryz.prog 158 1 8 = true := by kernel_rfl
theorem sz159 : (Tryz.prog.info? 159).map (·.size) = some 1 := by kernel_rfl
theorem zr159 : (Tryz.prog.info? 159).map (·.zero) = some (some .nilFunc) := by kernel_rfl
theorem zc159 : (Tryz.prog.info? 159).map (fun i => i.zero.map Value.cells) = some (some #[.nilFunc]) := by kernel_rfl
theorem eo159 : elemOK Tryz.prog 159 1 8 = true := by kernel_rfl
theorem sz160 : (Tryz.prog.info? 160).map (·.size) = some 1 := by kernel_rfl
theorem zr160 : (Tryz.prog.info? 160).map (·.zero) = some (some .nilFunc) := by kernel_rfl
theorem zc160 : (Tryz.prog.info? 160).map (fun i => i.zero.map Value.cells) = some (some #[.nilFunc]) := by kernel_rfl
theorem eo160 : elemOK Tryz.prog 160 1 8 = true := by kernel_rfl
theorem sz161 : (Tryz.prog.info? 161).map (·.size) = some 1 := by kernel_rfl
theorem sz162 : (Tryz.prog.info? 162).map (·.size) = some 1 := by kernel_rfl
theorem zr162 : (Tryz.prog.info? 162).map (·.zero) = some (some .nilFunc) := by kernel_rfl
theorem zc162 : (Tryz.prog.info? 162).map (fun i => i.zero.map Value.cells) = some (some #[.nilFunc]) := by kernel_rfl
theorem eo162 : elemOK Tryz.prog 162 1 8 = true := by kernel_rfl
theorem sz163 : (Tryz.prog.info? 163).map (·.size) = some 1 := by kernel_rfl
theorem sz164 : (Tryz.prog.info? 164).map (·.size) = some 1 := by kernel_rfl
theorem zr164 : (Tryz.prog.info? 164).map (·.zero) = some (some .nilFunc) := by kernel_rfl
theorem zc164 : (Tryz.prog.info? 164).map (fun i => i.zero.map Value.cells) = some (some #[.nilFunc]) := by kernel_rfl
theorem eo164 : elemOK Tryz.prog 164 1 8 = true := by kernel_rfl
theorem sz165 : (Tryz.prog.info? 165).map (·.size) = some 1 := by kernel_rfl
theorem zr165 : (Tryz.prog.info? 165).map (·.zero) = some (some .nilFunc) := by kernel_rfl
theorem zc165 : (Tryz.prog.info? 165).map (fun i => i.zero.map Value.cells) = some (some #[.nilFunc]) := by kernel_rfl
theorem eo165 : elemOK Tryz.prog 165 1 8 = true := by kernel_rfl
theorem sz166 : (Tryz.prog.info? 166).map (·.size) = some 1 := by kernel_rfl
theorem zr166 : (Tryz.prog.info? 166).map (·.zero) = some (some .nilFunc) := by kernel_rfl
theorem zc166 : (Tryz.prog.info? 166).map (fun i => i.zero.map Value.cells) = some (some #[.nilFunc]) := by kernel_rfl
theorem eo166 : elemOK Tryz.prog 166 1 8 = true := by kernel_rfl
theorem sz167 : (Tryz.prog.info? 167).map (·.size) = some 1 := by kernel_rfl
theorem zr167 : (Tryz.prog.info? 167).map (·.zero) = some (some .nilFunc) := by kernel_rfl
theorem zc167 : (Tryz.prog.info? 167).map (fun i => i.zero.map Value.cells) = some (some #[.nilFunc]) := by kernel_rfl
theorem eo167 : elemOK Tryz.prog 167 1 8 = true := by kernel_rfl
theorem sz168 : (Tryz.prog.info? 168).map (·.size) = some 33 := by kernel_rfl
theorem zr168 : (Tryz.prog.info? 168).map (·.zero) = some (some (.agg (List.toArray ((.bool false) :: (.string ⟨#[]⟩) :: (.string ⟨#[]⟩) :: (.int .i64 0) :: (.int .i64 0) :: (.int .i64 0) :: (.int .i64 0) :: (.bool false) :: (.int .i64 0) :: (.int .u64 0) :: (.bool false) :: (.bool false) :: (.string ⟨#[]⟩) :: (.string ⟨#[]⟩) :: (.int .i64 0) :: (.int .i64 0) :: (.int .i64 0) :: (.int .i64 0) :: (.bool false) :: (.int .i64 0) :: (.int .u64 0) :: (.bool false) :: (.bool false) :: (.string ⟨#[]⟩) :: (.string ⟨#[]⟩) :: (.int .i64 0) :: (.int .i64 0) :: (.int .i64 0) :: (.int .i64 0) :: (.bool false) :: (.int .i64 0) :: (.int .u64 0) :: (.bool false) :: [])))) := by kernel_rfl
theorem zc168 : (Tryz.prog.info? 168).map (fun i => i.zero.map Value.cells) = some (some (List.toArray ((.bool false) :: (.string ⟨#[]⟩) :: (.string ⟨#[]⟩) :: (.int .i64 0) :: (.int .i64 0) :: (.int .i64 0) :: (.int .i64 0) :: (.bool false) :: (.int .i64 0) :: (.int .u64 0) :: (.bool false) :: (.bool false) :: (.string ⟨#[]⟩) :: (.string ⟨#[]⟩) :: (.int .i64 0) :: (.int .i64 0) :: (.int .i64 0) :: (.int .i64 0) :: (.bool false) :: (.int .i64 0) :: (.int .u64 0) :: (.bool false) :: (.bool false) :: (.string ⟨#[]⟩) :: (.string ⟨#[]⟩) :: (.int .i64 0) :: (.int .i64 0) :: (.int .i64 0) :: (.int .i64 0) :: (.bool false) :: (.int .i64 0) :: (.int .u64 0) :: (.bool false) :: []))) := by kernel_rfl
theorem eo168 : elemOK Tryz.prog 168 33 312 = true := by kernel_rfl
theorem sz169 : (Tryz.prog.info? 169).map (·.size) = some 1 := by kernel_rfl
theorem zr169 : (Tryz.prog.info? 169).map (·.zero) = some (some .nilFunc) := by kernel_rfl
theorem zc169 : (Tryz.prog.info? 169).map (fun i => i.zero.map Value.cells) = some (some #[.nilFunc]) := by kernel_rfl
theorem eo169 : elemOK Tryz.prog 169 1 8 = true := by kernel_rfl
theorem sz170 : (Tryz.prog.info? 170).map (·.size) = some 1 := by kernel_rfl
theorem zr170 : (Tryz.prog.info? 170).map (·.zero) = some (some .nilFunc) := by kernel_rfl
theorem zc170 : (Tryz.prog.info? 170).map (fun i => i.zero.map Value.cells) = some (some #[.nilFunc]) := by kernel_rfl
theorem eo170 : elemOK Tryz.prog 170 1 8 = true := by kernel_rfl
theorem sz171 : (Tryz.prog.info? 171).map (·.size) = some 1 := by kernel_rfl
theorem zr171 : (Tryz.prog.info? 171).map (·.zero) = some (some .nilFunc) := by kernel_rfl
theorem zc171 : (Tryz.prog.info? 171).map (fun i => i.zero.map Value.cells) = some (some #[.nilFunc]) := by kernel_rfl
theorem eo171 : elemOK Tryz.prog 171 1 8 = true := by kernel_rfl
theorem sz172 : (Tryz.prog.info? 172).map (·.size) = some 1 := by kernel_rfl
theorem zr172 : (Tryz.prog.info? 172).map (·.zero) = some (some (.slice none 0 0)) := by kernel_rfl
theorem zc172 : (Tryz.prog.info? 172).map (fun i => i.zero.map Value.cells) = some (some #[(.slice none 0 0)]) := by kernel_rfl
theorem eo172 : elemOK Tryz.prog 172 1 24 = true := by kernel_rfl
theorem sz173 : (Tryz.prog.info? 173).map (·.size) = some 1 := by kernel_rfl
theorem zr173 : (Tryz.prog.info? 173).map (·.zero) = some (some .nilFunc) := by kernel_rfl
theorem zc173 : (Tryz.prog.info? 173).map (fun i => i.zero.map Value.cells) = some (some #[.nilFunc]) := by kernel_rfl
theorem eo173 : elemOK Tryz.prog 173 1 8 = true := by kernel_rfl
theorem sz174 : (Tryz.prog.info? 174).map (·.size) = some 1 := by kernel_rfl
theorem zr174 : (Tryz.prog.info? 174).map (·.zero) = some (some .nilFunc) := by kernel_rfl
theorem zc174 : (Tryz.prog.info? 174).map (fun i => i.zero.map Value.cells) = some (some #[.nilFunc]) := by kernel_rfl
theorem eo174 : elemOK Tryz.prog 174 1 8 = true := by kernel_rfl
theorem sz175 : (Tryz.prog.info? 175).map (·.size) = some 1 := by kernel_rfl
theorem zr175 : (Tryz.prog.info? 175).map (·.zero) = some (some (.int .u64 0)) := by kernel_rfl
theorem zc175 : (Tryz.prog.info? 175).map (fun i => i.zero.map Value.cells) = some (some #[(.int .u64 0)]) := by kernel_rfl
theorem eo175 : elemOK Tryz.prog 175 1 8 = true := by kernel_rfl
theorem sz176 : (Tryz.prog.info? 176).map (·.size) = some 1 := by kernel_rfl
theorem sz177 : (Tryz.prog.info? 177).map (·.size) = some 1 := by kernel_rfl
theorem zr177 : (Tryz.prog.info? 177).map (·.zero) = some (some .nilFunc) := by kernel_rfl
theorem zc177 : (Tryz.prog.info? 177).map (fun i => i.zero.map Value.cells) = some (some #[.nilFunc]) := by kernel_rfl
theorem eo177 : elemOK Tryz.prog 177 1 8 = true := by kernel_rfl
theorem sz178 : (Tryz.prog.info? 178).map (·.size) = some 1 := by kernel_rfl
theorem zr178 : (Tryz.prog.info? 178).map (·.zero) = some (some .nilFunc) := by kernel_rfl
theorem zc178 : (Tryz.prog.info? 178).map (fun i => i.zero.map Value.cells) = some (some #[.nilFunc]) := by kernel_rfl
theorem eo178 : elemOK Tryz.prog 178 1 8 = true := by kernel_rfl
theorem sz179 : (Tryz.prog.info? 179).map (·.size) = some 1 := by kernel_rfl
theorem zr179 : (Tryz.prog.info? 179).map (·.zero) = some (some (.pointer none)) := by kernel_rfl
theorem zc179 : (Tryz.prog.info? 179).map (fun i => i.zero.map Value.cells) = some (some #[(.pointer none)]) := by kernel_rfl
theorem eo179 : elemOK Tryz.prog 179 1 8 = true := by kernel_rfl
theorem sz180 : (Tryz.prog.info? 180).map (·.size) = some 2 := by kernel_rfl
theorem zr180 : (Tryz.prog.info? 180).map (·.zero) = some (some (.agg #[(.pointer none), (.slice none 0 0)])) := by kernel_rfl
theorem zc180 : (Tryz.prog.info? 180).map (fun i => i.zero.map Value.cells) = some (some #[(.pointer none), (.slice none 0 0)]) := by kernel_rfl
theorem eo180 : elemOK Tryz.prog 180 2 32 = true := by kernel_rfl
theorem fi180_0 : fieldInfo Tryz.prog 180 0 = some (0, 1) := by kernel_rfl
theorem fp180_0 : fieldPart Tryz.prog 180 0 = some (false, 0, 1) := by kernel_rfl
theorem fi180_1 : fieldInfo Tryz.prog 180 1 = some (1, 1) := by kernel_rfl
theorem fp180_1 : fieldPart Tryz.prog 180 1 = some (false, 1, 1) := by kernel_rfl
theorem pl180 : placesOf Tryz.prog 180 = some [(0, 1), (1, 1)] := by kernel_rfl
theorem sz181 : (Tryz.prog.info? 181).map (·.size) = some 2 := by kernel_rfl
theorem zr181 : (Tryz.prog.info? 181).map (·.zero) = some (some (.agg #[(.pointer none), (.slice none 0 0)])) := by kernel_rfl
theorem zc181 : (Tryz.prog.info? 181).map (fun i => i.zero.map Value.cells) = some (some #[(.pointer none), (.slice none 0 0)]) := by kernel_rfl
theorem eo181 : elemOK Tryz.prog 181 2 32 = true := by kernel_rfl
theorem fi181_0 : fieldInfo Tryz.prog 181 0 = some (0, 1) := by kernel_rfl
theorem fp181_0 : fieldPart Tryz.prog 181 0 = some (false, 0, 1) := by kernel_rfl
theorem fi181_1 : fieldInfo Tryz.prog 181 1 = some (1, 1) := by kernel_rfl
theorem fp181_1 : fieldPart Tryz.prog 181 1 = some (false, 1, 1) := by kernel_rfl
theorem pl181 : placesOf Tryz.prog 181 = some [(0, 1), (1, 1)] := by kernel_rfl
theorem sz182 : (Tryz.prog.info? 182).map (·.size) = some 1 := by kernel_rfl
theorem zr182 : (Tryz.prog.info? 182).map (·.zero) = some (some .nilFunc) := by kernel_rfl
theorem zc182 : (Tryz.prog.info? 182).map (fun i => i.zero.map Value.cells) = some (some #[.nilFunc]) := by kernel_rfl
theorem eo182 : elemOK Tryz.prog 182 1 8 = true := by kernel_rfl
theorem sz183 : (Tryz.prog.info? 183).map (·.size) = some 1 := by kernel_rfl
theorem zr183 : (Tryz.prog.info? 183).map (·.zero) = some (some .nilIface) := by kernel_rfl
theorem zc183 : (Tryz.prog.info? 183).map (fun i => i.zero.map Value.cells) = some (some #[.nilIface]) := by kernel_rfl
theorem eo183 : elemOK Tryz.prog 183 1 16 = true := by kernel_rfl
theorem sz184 : (Tryz.prog.info? 184).map (·.size) = some 1 := by kernel_rfl
theorem zr184 : (Tryz.prog.info? 184).map (·.zero) = some (some .nilIface) := by kernel_rfl
theorem zc184 : (Tryz.prog.info? 184).map (fun i => i.zero.map Value.cells) = some (some #[.nilIface]) := by kernel_rfl
theorem eo184 : elemOK Tryz.prog 184 1 16 = true := by kernel_rfl
theorem sz185 : (Tryz.prog.info? 185).map (·.size) = some 1 := by kernel_rfl
theorem sz186 : (Tryz.prog.info? 186).map (·.size) = some 1 := by kernel_rfl
theorem zr186 : (Tryz.prog.info? 186).map (·.zero) = some (some .nilFunc) := by kernel_rfl
theorem zc186 : (Tryz.prog.info? 186).map (fun i => i.zero.map Value.cells) = some (some #[.nilFunc]) := by kernel_rfl
theorem eo186 : elemOK Tryz.prog 186 1 8 = true := by kernel_rfl
theorem sz187 : (Tryz.prog.info? 187).map (·.size) = some 1 := by kernel_rfl
theorem zr187 : (Tryz.prog.info? 187).map (·.zero) = some (some .nilFunc) := by kernel_rfl
theorem zc187 : (Tryz.prog.info? 187).map (fun i => i.zero.map Value.cells) = some (some #[.nilFunc]) := by kernel_rfl
theorem eo187 : elemOK Tryz.prog 187 1 8 = true := by kernel_rfl
theorem sz188 : (Tryz.prog.info? 188).map (·.size) = some 1 := by kernel_rfl
theorem sz189 : (Tryz.prog.info? 189).map (·.size) = some 1 := by kernel_rfl
theorem zr189 : (Tryz.prog.info? 189).map (·.zero) = some (some .nilFunc) := by kernel_rfl
theorem zc189 : (Tryz.prog.info? 189).map (fun i => i.zero.map Value.cells) = some (some #[.nilFunc]) := by kernel_rfl
theorem eo189 : elemOK Tryz.prog 189 1 8 = true := by kernel_rfl
theorem sz190 : (Tryz.prog.info? 190).map (·.size) = some 1 := by kernel_rfl
theorem zr190 : (Tryz.prog.info? 190).map (·.zero) = some (some .nilFunc) := by kernel_rfl
theorem zc190 : (Tryz.prog.info? 190).map (fun i => i.zero.map Value.cells) = some (some #[.nilFunc]) := by kernel_rfl
theorem eo190 : elemOK Tryz.prog 190 1 8 = true := by kernel_rfl
theorem sz191 : (Tryz.prog.info? 191).map (·.size) = some 1 := by kernel_rfl
theorem zr191 : (Tryz.prog.info? 191).map (·.zero) = some (some .nilFunc) := by kernel_rfl
theorem zc191 : (Tryz.prog.info? 191).map (fun i => i.zero.map Value.cells) = some (some #[.nilFunc]) := by kernel_rfl
theorem eo191 : elemOK Tryz.prog 191 1 8 = true := by kernel_rfl
theorem sz192 : (Tryz.prog.info? 192).map (·.size) = some 1 := by kernel_rfl
theorem zr192 : (Tryz.prog.info? 192).map (·.zero) = some (some .nilFunc) := by kernel_rfl
theorem zc192 : (Tryz.prog.info? 192).map (fun i => i.zero.map Value.cells) = some (some #[.nilFunc]) := by kernel_rfl
theorem eo192 : elemOK Tryz.prog 192 1 8 = true := by kernel_rfl
theorem sz193 : (Tryz.prog.info? 193).map (·.size) = some 1 := by kernel_rfl
theorem zr193 : (Tryz.prog.info? 193).map (·.zero) = some (some .nilFunc) := by kernel_rfl
theorem zc193 : (Tryz.prog.info? 193).map (fun i => i.zero.map Value.cells) = some (some #[.nilFunc]) := by kernel_rfl
theorem eo193 : elemOK Tryz.prog 193 1 8 = true := by kernel_rfl
theorem sz194 : (Tryz.prog.info? 194).map (·.size) = some 4 := by kernel_rfl
theorem zr194 : (Tryz.prog.info? 194).map (·.zero) = some (some (.agg #[(.int .u32 0), (.int .i64 0), (.int .u32 0), (.int .i64 0)])) := by kernel_rfl
theorem zc194 : (Tryz.prog.info? 194).map (fun i => i.zero.map Value.cells) = some (some #[(.int .u32 0), (.int .i64 0), (.int .u32 0), (.int .i64 0)]) := by kernel_rfl
theorem eo194 : elemOK Tryz.prog 194 4 32 = true := by kernel_rfl
theorem sz195 : (Tryz.prog.info? 195).map (·.size) = some 1 := by kernel_rfl
theorem zr195 : (Tryz.prog.info? 195).map (·.zero) = some (some .nilFunc) := by kernel_rfl
theorem zc195 : (Tryz.prog.info? 195).map (fun i => i.zero.map Value.cells) = some (some #[.nilFunc]) := by kernel_rfl
theorem eo195 : elemOK Tryz.prog 195 1 8 = true := by kernel_rfl
theorem sz196 : (Tryz.prog.info? 196).map (·.size) = some 1 := by kernel_rfl
theorem zr196 : (Tryz.prog.info? 196).map (·.zero) = some (some .nilFunc) := by kernel_rfl
theorem zc196 : (Tryz.prog.info? 196).map (fun i => i.zero.map Value.cells) = some (some #[.nilFunc]) := by kernel_rfl
theorem eo196 : elemOK Tryz.prog 196 1 8 = true := by kernel_rfl
theorem sz197 : (Tryz.prog.info? 197).map (·.size) = some 1 := by kernel_rfl
theorem zr197 : (Tryz.prog.info? 197).map (·.zero) = some (some .nilFunc) := by kernel_rfl
theorem zc197 : (Tryz.prog.info? 197).map (fun i => i.zero.map Value.cells) = some (some #[.nilFunc]) := by kernel_rfl
theorem eo197 : elemOK Tryz.prog 197 1 8 = true := by kernel_rfl
theorem sz198 : (Tryz.prog.info? 198).map (·.size) = some 1 := by kernel_rfl
theorem sz199 : (Tryz.prog.info? 199).map (·.size) = some 1 := by kernel_rfl
theorem zr199 : (Tryz.prog.info? 199).map (·.zero) = some (some .nilFunc) := by kernel_rfl
theorem zc199 : (Tryz.prog.info? 199).map (fun i => i.zero.map Value.cells) = some (some #[.nilFunc]) := by kernel_rfl
theorem eo199 : elemOK Tryz.prog 199 1 8 = true := by kernel_rfl
theorem sz200 : (Tryz.prog.info? 200).map (·.size) = some 1 := by kernel_rfl
theorem zr200 : (Tryz.prog.info? 200).map (·.zero) = some (some .nilFunc) := by kernel_rfl
theorem zc200 : (Tryz.prog.info? 200).map (fun i => i.zero.map Value.cells) = some (some #[.nilFunc]) := by kernel_rfl
theorem eo200 : elemOK Tryz.prog 200 1 8 = true := by kernel_rfl
theorem sz201 : (Tryz.prog.info? 201).map (·.size) = some 2 := by kernel_rfl
theorem zr201 : (Tryz.prog.info? 201).map (·.zero) = some (some (.agg #[(.string ⟨#[]⟩), (.string ⟨#[]⟩)])) := by kernel_rfl
theorem zc201 : (Tryz.prog.info? 201).map (fun i => i.zero.map Value.cells) = some (some #[(.string ⟨#[]⟩), (.string ⟨#[]⟩)]) := by kernel_rfl
theorem eo201 : elemOK Tryz.prog 201 2 32 = true := by kernel_rfl
theorem sz202 : (Tryz.prog.info? 202).map (·.size) = some 1 := by kernel_rfl
theorem zr202 : (Tryz.prog.info? 202).map (·.zero) = some (some .nilFunc) := by kernel_rfl
theorem zc202 : (Tryz.prog.info? 202).map (fun i => i.zero.map Value.cells) = some (some #[.nilFunc]) := by kernel_rfl
theorem eo202 : elemOK Tryz.prog 202 1 8 = true := by kernel_rfl
theorem sz203 : (Tryz.prog.info? 203).map (·.size) = some 1 := by kernel_rfl
theorem zr203 : (Tryz.prog.info? 203).map (·.zero) = some (some .nilFunc) := by kernel_rfl
theorem zc203 : (Tryz.prog.info? 203).map (fun i => i.zero.map Value.cells) = some (some #[.nilFunc]) := by kernel_rfl
theorem eo203 : elemOK Tryz.prog 203 1 8 = true := by kernel_rfl
theorem sz204 : (Tryz.prog.info? 204).map (·.size) = some 1 := by kernel_rfl
theorem sz205 : (Tryz.prog.info? 205).map (·.size) = some 1 := by kernel_rfl
theorem zr205 : (Tryz.prog.info? 205).map (·.zero) = some (some .nilFunc) := by kernel_rfl
theorem zc205 : (Tryz.prog.info? 205).map (fun i => i.zero.map Value.cells) = some (some #[.nilFunc]) := by kernel_rfl
theorem eo205 : elemOK Tryz.prog 205 1 8 = true := by kernel_rfl
theorem sz206 : (Tryz.prog.info? 206).map (·.size) = some 1 := by kernel_rfl
theorem sz207 : (Tryz.prog.info? 207).map (·.size) = some 1 := by kernel_rfl
theorem zr207 : (Tryz.prog.info? 207).map (·.zero) = some (some .nilFunc) := by kernel_rfl
theorem zc207 : (Tryz.prog.info? 207).map (fun i => i.zero.map Value.cells) = some (some #[.nilFunc]) := by kernel_rfl
theorem eo207 : elemOK Tryz.prog 207 1 8 = true := by kernel_rfl
theorem sz208 : (Tryz.prog.info? 208).map (·.size) = some 1 := by kernel_rfl
theorem zr208 : (Tryz.prog.info? 208).map (·.zero) = some (some (.pointer none)) := by kernel_rfl
theorem zc208 : (Tryz.prog.info? 208).map (fun i => i.zero.map Value.cells) = some (some #[(.pointer none)]) := by kernel_rfl
theorem eo208 : elemOK Tryz.prog 208 1 8 = true := by kernel_rfl
theorem sz209 : (Tryz.prog.info? 209).map (·.size) = some 1 := by kernel_rfl
theorem zr209 : (Tryz.prog.info? 209).map (·.zero) = some (some .nilFunc) := by kernel_rfl
theorem zc209 : (Tryz.prog.info? 209).map (fun i => i.zero.map Value.cells) = some (some #[.nilFunc]) := by kernel_rfl
theorem eo209 : elemOK Tryz.prog 209 1 8 = true := by kernel_rfl
theorem sz210 : (Tryz.prog.info? 210).map (·.size) = some 1 := by kernel_rfl
theorem zr210 : (Tryz.prog.info? 210).map (·.zero) = some (some .nilFunc) := by kernel_rfl
theorem zc210 : (Tryz.prog.info? 210).map (fun i => i.zero.map Value.cells) = some (some #[.nilFunc]) := by kernel_rfl
theorem eo210 : elemOK Tryz.prog 210 1 8 = true := by kernel_rfl
theorem sz211 : (Tryz.prog.info? 211).map (·.size) = some 1 := by kernel_rfl
theorem zr211 : (Tryz.prog.info? 211).map (·.zero) = some (some .nilFunc) := by kernel_rfl
theorem zc211 : (Tryz.prog.info? 211).map (fun i => i.zero.map Value.cells) = some (some #[.nilFunc]) := by kernel_rfl
theorem eo211 : elemOK Tryz.prog 211 1 8 = true := by kernel_rfl
theorem sz212 : (Tryz.prog.info? 212).map (·.size) = some 1 := by kernel_rfl
theorem zr212 : (Tryz.prog.info? 212).map (·.zero) = some (some .nilFunc) := by kernel_rfl
theorem zc212 : (Tryz.prog.info? 212).map (fun i => i.zero.map Value.cells) = some (some #[.nilFunc]) := by kernel_rfl
theorem eo212 : elemOK Tryz.prog 212 1 8 = true := by kernel_rfl
theorem sz213 : (Tryz.prog.info? 213).map (·.size) = some 1 := by kernel_rfl
theorem zr213 : (Tryz.prog.info? 213).map (·.zero) = some (some (.pointer none)) := by kernel_rfl
theorem zc213 : (Tryz.prog.info? 213).map (fun i => i.zero.map Value.cells) = some (some #[(.pointer none)]) := by kernel_rfl
theorem eo213 : elemOK Tryz.prog 213 1 8 = true := by kernel_rfl
theorem sz214 : (Tryz.prog.info? 214).map (·.size) = some 1 := by kernel_rfl
theorem zr214 : (Tryz.prog.info? 214).map (·.zero) = some (some .nilFunc) := by kernel_rfl
theorem zc214 : (Tryz.prog.info? 214).map (fun i => i.zero.map Value.cells) = some (some #[.nilFunc]) := by kernel_rfl
theorem eo214 : elemOK Tryz.prog 214 1 8 = true := by kernel_rfl
theorem sz215 : (Tryz.prog.info? 215).map (·.size) = some 1 := by kernel_rfl
theorem zr215 : (Tryz.prog.info? 215).map (·.zero) = some (some .nilFunc) := by kernel_rfl
theorem zc215 : (Tryz.prog.info? 215).map (fun i => i.zero.map Value.cells) = some (some #[.nilFunc]) := by kernel_rfl
theorem eo215 : elemOK Tryz.prog 215 1 8 = true := by kernel_rfl
theorem sz216 : (Tryz.prog.info? 216).map (·.size) = some 24 := by kernel_rfl
theorem zr216 : (Tryz.prog.info? 216).map (·.zero) = some (some (.agg (List.toArray ((.int .u8 0) :: (.int .u8 0) :: (.int .u8 0) :: (.int .u8 0) :: (.int .u8 0) :: (.int .u8 0) :: (.int .u8 0) :: (.int .u8 0) :: (.int .u8 0) :: (.int .u8 0) :: (.int .u8 0) :: (.int .u8 0) :: (.int .u8 0) :: (.int .u8 0) :: (.int .u8 0) :: (.int .u8 0) :: (.int .u8 0) :: (.int .u8 0) :: (.int .u8 0) :: (.int .u8 0) :: (.int .u8 0) :: (.int .u8 0) :: (.int .u8 0) :: (.int .u8 0) :: [])))) := by kernel_rfl
theorem zc216 : (Tryz.prog.info? 216).map (fun i => i.zero.map Value.cells) = some (some (List.toArray ((.int .u8 0) :: (.int .u8 0) :: (.int .u8 0) :: (.int .u8 0) :: (.int .u8 0) :: (.int .u8 0) :: (.int .u8 0) :: (.int .u8 0) :: (.int .u8 0) :: (.int .u8 0) :: (.int .u8 0) :: (.int .u8 0) :: (.int .u8 0) :: (.int .u8 0) :: (.int .u8 0) :: (.int .u8 0) :: (.int .u8 0) :: (.int .u8 0) :: (.int .u8 0) :: (.int .u8 0) :: (.int .u8 0) :: (.int .u8 0) :: (.int .u8 0) :: (.int .u8 0) :: []))) := by kernel_rfl
theorem eo216 : elemOK Tryz.prog 216 24 24 = true := by kernel_rfl
theorem sz217 : (Tryz.prog.info? 217).map (·.size) = some 1 := by kernel_rfl
theorem zr217 : (Tryz.prog.info? 217).map (·.zero) = some (some .nilFunc) := by kernel_rfl
theorem zc217 : (Tryz.prog.info? 217).map (fun i => i.zero.map Value.cells) = some (some #[.nilFunc]) := by kernel_rfl
theorem eo217 : elemOK Tryz.prog 217 1 8 = true := by kernel_rfl
theorem sz218 : (Tryz.prog.info? 218).map (·.size) = some 1 := by kernel_rfl
theorem zr218 : (Tryz.prog.info? 218).map (·.zero) = some (some .nilFunc) := by kernel_rfl
theorem zc218 : (Tryz.prog.info? 218).map (fun i => i.zero.map Value.cells) = some (some #[.nilFunc]) := by kernel_rfl
theorem eo218 : elemOK Tryz.prog 218 1 8 = true := by kernel_rfl
theorem sz219 : (Tryz.prog.info? 219).map (·.size) = some 1 := by kernel_rfl
theorem sz220 : (Tryz.prog.info? 220).map (·.size) = some 1 := by kernel_rfl
theorem zr220 : (Tryz.prog.info? 220).map (·.zero) = some (some .nilFunc) := by kernel_rfl
theorem zc220 : (Tryz.prog.info? 220).map (fun i => i.zero.map Value.cells) = some (some #[.nilFunc]) := by kernel_rfl
theorem eo220 : elemOK Tryz.prog 220 1 8 = true := by kernel_rfl
theorem sz221 : (Tryz.prog.info? 221).map (·.size) = some 1 := by kernel_rfl
theorem sz222 : (Tryz.prog.info? 222).map (·.size) = some 1 := by kernel_rfl
theorem zr222 : (Tryz.prog.info? 222).map (·.zero) = some (some .nilFunc) := by kernel_rfl
theorem zc222 : (Tryz.prog.info? 222).map (fun i => i.zero.map Value.cells) = some (some #[.nilFunc]) := by kernel_rfl
theorem eo222 : elemOK Tryz.prog 222 1 8 = true := by kernel_rfl
theorem sz223 : (Tryz.prog.info? 223).map (·.size) = some 1 := by kernel_rfl
theorem zr223 : (Tryz.prog.info? 223).map (·.zero) = some (some .nilFunc) := by kernel_rfl
theorem zc223 : (Tryz.prog.info? 223).map (fun i => i.zero.map Value.cells) = some (some #[.nilFunc]) := by kernel_rfl
theorem eo223 : elemOK Tryz.prog 223 1 8 = true := by kernel_rfl
theorem sz224 : (Tryz.prog.info? 224).map (·.size) = some 1 := by kernel_rfl
theorem zr224 : (Tryz.prog.info? 224).map (·.zero) = some (some (.int .i64 0)) := by kernel_rfl
theorem zc224 : (Tryz.prog.info? 224).map (fun i => i.zero.map Value.cells) = some (some #[(.int .i64 0)]) := by kernel_rfl
theorem eo224 : elemOK Tryz.prog 224 1 8 = true := by kernel_rfl
theorem sz225 : (Tryz.prog.info? 225).map (·.size) = some 1 := by kernel_rfl
theorem sz226 : (Tryz.prog.info? 226).map (·.size) = some 1 := by kernel_rfl
theorem zr226 : (Tryz.prog.info? 226).map (·.zero) = some (some .nilFunc) := by kernel_rfl
theorem zc226 : (Tryz.prog.info? 226).map (fun i => i.zero.map Value.cells) = some (some #[.nilFunc]) := by kernel_rfl
theorem eo226 : elemOK Tryz.prog 226 1 8 = true := by kernel_rfl
theorem sz227 : (Tryz.prog.info? 227).map (·.size) = some 1 := by kernel_rfl
theorem zr227 : (Tryz.prog.info? 227).map (·.zero) = some (some (.pointer none)) := by kernel_rfl
theorem zc227 : (Tryz.prog.info? 227).map (fun i => i.zero.map Value.cells) = some (some #[(.pointer none)]) := by kernel_rfl
theorem eo227 : elemOK Tryz.prog 227 1 8 = true := by kernel_rfl
theorem sz228 : (Tryz.prog.info? 228).map (·.size) = some 1 := by kernel_rfl
theorem zr228 : (Tryz.prog.info? 228).map (·.zero) = some (some .nilFunc) := by kernel_rfl
theorem zc228 : (Tryz.prog.info? 228).map (fun i => i.zero.map Value.cells) = some (some #[.nilFunc]) := by kernel_rfl
theorem eo228 : elemOK Tryz.prog 228 1 8 = true := by kernel_rfl
theorem sz229 : (Tryz.prog.info? 229).map (·.size) = some 1 := by kernel_rfl
theorem zr229 : (Tryz.prog.info? 229).map (·.zero) = some (some .nilFunc) := by kernel_rfl
theorem zc229 : (Tryz.prog.info? 229).map (fun i => i.zero.map Value.cells) = some (some #[.nilFunc]) := by kernel_rfl
theorem eo229 : elemOK Tryz.prog 229 1 8 = true := by kernel_rfl
theorem sz230 : (Tryz.prog.info? 230).map (·.size) = some 1 := by kernel_rfl
theorem zr230 : (Tryz.prog.info? 230).map (·.zero) = some (some .nilFunc) := by kernel_rfl
theorem zc230 : (Tryz.prog.info? 230).map (fun i => i.zero.map Value.cells) = some (some #[.nilFunc]) := by kernel_rfl
theorem eo230 : elemOK Tryz.prog 230 1 8 = true := by kernel_rfl
theorem sz231 : (Tryz.prog.info? 231).map (·.size) = some 20 := by kernel_rfl
theorem zr231 : (Tryz.prog.info? 231).map (·.zero) = some (some (.agg (List.toArray ((.int .u64 0) :: (.int .u64 0) :: (.int .u64 0) :: (.int .u64 0) :: (.int .u64 0) :: (.int .u64 0) :: (.int .u64 0) :: (.int .u64 0) :: (.int .u64 0) :: (.int .u64 0) :: (.int .u64 0) :: (.int .u64 0) :: (.int .u64 0) :: (.int .u64 0) :: (.int .u64 0) :: (.int .u64 0) :: (.int .u64 0) :: (.int .u64 0) :: (.int .u64 0) :: (.int .u64 0) :: [])))) := by kernel_rfl
theorem zc231 : (Tryz.prog.info? 231).map (fun i => i.zero.map Value.cells) = some (some (List.toArray ((.int .u64 0) :: (.int .u64 0) :: (.int .u64 0) :: (.int .u64 0) :: (.int .u64 0) :: (.int .u64 0) :: (.int .u64 0) :: (.int .u64 0) :: (.int .u64 0) :: (.int .u64 0) :: (.int .u64 0) :: (.int .u64 0) :: (.int .u64 0) :: (.int .u64 0) :: (.int .u64 0) :: (.int .u64 0) :: (.int .u64 0) :: (.int .u64 0) :: (.int .u64 0) :: (.int .u64 0) :: []))) := by kernel_rfl
theorem eo231 : elemOK Tryz.prog 231 20 160 = true := by kernel_rfl
theorem sz232 : (Tryz.prog.info? 232).map (·.size) = some 65 := by kernel_rfl
theorem sz233 : (Tryz.prog.info? 233).map (·.size) = some 1 := by kernel_rfl
theorem zr233 : (Tryz.prog.info? 233).map (·.zero) = some (some .nilFunc) := by kernel_rfl
theorem zc233 : (Tryz.prog.info? 233).map (fun i => i.zero.map Value.cells) = some (some #[.nilFunc]) := by kernel_rfl
theorem eo233 : elemOK Tryz.prog 233 1 8 = true := by kernel_rfl
theorem sz234 : (Tryz.prog.info? 234).map (·.size) = some 1 := by kernel_rfl
theorem sz235 : (Tryz.prog.info? 235).map (·.size) = some 1 := by kernel_rfl
theorem zr235 : (Tryz.prog.info? 235).map (·.zero) = some (some .nilFunc) := by kernel_rfl
theorem zc235 : (Tryz.prog.info? 235).map (fun i => i.zero.map Value.cells) = some (some #[.nilFunc]) := by kernel_rfl
theorem eo235 : elemOK Tryz.prog 235 1 8 = true := by kernel_rfl
theorem sz236 : (Tryz.prog.info? 236).map (·.size) = some 1 := by kernel_rfl
theorem zr236 : (Tryz.prog.info? 236).map (·.zero) = some (some .nilFunc) := by kernel_rfl
theorem zc236 : (Tryz.prog.info? 236).map (fun i => i.zero.map Value.cells) = some (some #[.nilFunc]) := by kernel_rfl
theorem eo236 : elemOK Tryz.prog 236 1 8 = true := by kernel_rfl
theorem sz237 : (Tryz.prog.info? 237).map (·.size) = some 3 := by kernel_rfl
theorem zr237 : (Tryz.prog.info? 237).map (·.zero) = some (some (.agg #[(.string ⟨#[]⟩), (.string ⟨#[]⟩), .nilIface])) := by kernel_rfl
theorem zc237 : (Tryz.prog.info? 237).map (fun i => i.zero.map Value.cells) = some (some #[(.string ⟨#[]⟩), (.string ⟨#[]⟩), .nilIface]) := by kernel_rfl
theorem eo237 : elemOK Tryz.prog 237 3 48 = true := by kernel_rfl
theorem fi237_0 : fieldInfo Tryz.prog 237 0 = some (0, 1) := by kernel_rfl
theorem fp237_0 : fieldPart Tryz.prog 237 0 = some (false, 0, 1) := by kernel_rfl
theorem fi237_1 : fieldInfo Tryz.prog 237 1 = some (1, 1) := by kernel_rfl
theorem fp237_1 : fieldPart Tryz.prog 237 1 = some (false, 1, 1) := by kernel_rfl
theorem fi237_2 : fieldInfo Tryz.prog 237 2 = some (2, 1) := by kernel_rfl
theorem fp237_2 : fieldPart Tryz.prog 237 2 = some (false, 2, 1) := by kernel_rfl
theorem pl237 : placesOf Tryz.prog 237 = some [(0, 1), (1, 1), (2, 1)] := by kernel_rfl
theorem sz238 : (Tryz.prog.info? 238).map (·.size) = some 3 := by kernel_rfl
theorem zr238 : (Tryz.prog.info? 238).map (·.zero) = some (some (.agg #[(.string ⟨#[]⟩), (.string ⟨#[]⟩), .nilIface])) := by kernel_rfl
theorem zc238 : (Tryz.prog.info? 238).map (fun i => i.zero.map Value.cells) = some (some #[(.string ⟨#[]⟩), (.string ⟨#[]⟩), .nilIface]) := by kernel_rfl
theorem eo238 : elemOK Tryz.prog 238 3 48 = true := by kernel_rfl
theorem fi238_0 : fieldInfo Tryz.prog 238 0 = some (0, 1) := by kernel_rfl
theorem fp238_0 : fieldPart Tryz.prog 238 0 = some (false, 0, 1) := by kernel_rfl
theorem fi238_1 : fieldInfo Tryz.prog 238 1 = some (1, 1) := by kernel_rfl
theorem fp238_1 : fieldPart Tryz.prog 238 1 = some (false, 1, 1) := by kernel_rfl
theorem fi238_2 : fieldInfo Tryz.prog 238 2 = some (2, 1) := by kernel_rfl
theorem fp238_2 : fieldPart Tryz.prog 238 2 = some (false, 2, 1) := by kernel_rfl
theorem pl238 : placesOf Tryz.prog 238 = some [(0, 1), (1, 1), (2, 1)] := by kernel_rfl
theorem sz239 : (Tryz.prog.info? 239).map (·.size) = some 1 := by kernel_rfl
theorem zr239 : (Tryz.prog.info? 239).map (·.zero) = some (some .nilFunc) := by kernel_rfl
theorem zc239 : (Tryz.prog.info? 239).map (fun i => i.zero.map Value.cells) = some (some #[.nilFunc]) := by kernel_rfl
theorem eo239 : elemOK Tryz.prog 239 1 8 = true := by kernel_rfl
theorem sz240 : (Tryz.prog.info? 240).map (·.size) = some 256 := by kernel_rfl
theorem sz241 : (Tryz.prog.info? 241).map (·.size) = some 2 := by kernel_rfl
theorem zr241 : (Tryz.prog.info? 241).map (·.zero) = some (some (.agg #[(.int .u8 0), (.int .u8 0)])) := by kernel_rfl
theorem zc241 : (Tryz.prog.info? 241).map (fun i => i.zero.map Value.cells) = some (some #[(.int .u8 0), (.int .u8 0)]) := by kernel_rfl
theorem eo241 : elemOK Tryz.prog 241 2 2 = true := by kernel_rfl
theorem fi241_0 : fieldInfo Tryz.prog 241 0 = some (0, 1) := by kernel_rfl
theorem fp241_0 : fieldPart Tryz.prog 241 0 = some (false, 0, 1) := by kernel_rfl
theorem fi241_1 : fieldInfo Tryz.prog 241 1 = some (1, 1) := by kernel_rfl
theorem fp241_1 : fieldPart Tryz.prog 241 1 = some (false, 1, 1) := by kernel_rfl
theorem pl241 : placesOf Tryz.prog 241 = some [(0, 1), (1, 1)] := by kernel_rfl
theorem sz242 : (Tryz.prog.info? 242).map (·.size) = some 2 := by kernel_rfl
theorem zr242 : (Tryz.prog.info? 242).map (·.zero) = some (some (.agg #[(.int .u8 0), (.int .u8 0)])) := by kernel_rfl
theorem zc242 : (Tryz.prog.info? 242).map (fun i => i.zero.map Value.cells) = some (some #[(.int .u8 0), (.int .u8 0)]) := by kernel_rfl
theorem eo242 : elemOK Tryz.prog 242 2 2 = true := by kernel_rfl
theorem fi242_0 : fieldInfo Tryz.prog 242 0 = some (0, 1) := by kernel_rfl
theorem fp242_0 : fieldPart Tryz.prog 242 0 = some (false, 0, 1) := by kernel_rfl
theorem fi242_1 : fieldInfo Tryz.prog 242 1 = some (1, 1) := by kernel_rfl
theorem fp242_1 : fieldPart Tryz.prog 242 1 = some (false, 1, 1) := by kernel_rfl
theorem pl242 : placesOf Tryz.prog 242 = some [(0, 1), (1, 1)] := by kernel_rfl
theorem sz243 : (Tryz.prog.info? 243).map (·.size) = some 32 := by kernel_rfl
theorem zr243 : (Tryz.prog.info? 243).map (·.zero) = some (some (.agg (List.toArray ((.int .u8 0) :: (.int .u8 0) :: (.int .u8 0) :: (.int .u8 0) :: (.int .u8 0) :: (.int .u8 0) :: (.int .u8 0) :: (.int .u8 0) :: (.int .u8 0) :: (.int .u8 0) :: (.int .u8 0) :: (.int .u8 0) :: (.int .u8 0) :: (.int .u8 0) :: (.int .u8 0) :: (.int .u8 0) :: (.int .u8 0) :: (.int .u8 0) :: (.int .u8 0) :: (.int .u8 0) :: (.int .u8 0) :: (.int .u8 0) :: (.int .u8 0) :: (.int .u8 0) :: (.int .u8 0) :: (.int .u8 0) :: (.int .u8 0) :: (.int .u8 0) :: (.int .u8 0) :: (.int .u8 0) :: (.int .u8 0) :: (.int .u8 0) :: [])))) := by kernel_rfl
theorem zc243 : (Tryz.prog.info? 243).map (fun i => i.zero.map Value.cells) = some (some (List.toArray ((.int .u8 0) :: (.int .u8 0) :: (.int .u8 0) :: (.int .u8 0) :: (.int .u8 0) :: (.int .u8 0) :: (.int .u8 0) :: (.int .u8 0) :: (.int .u8 0) :: (.int .u8 0) :: (.int .u8 0) :: (.int .u8 0) :: (.int .u8 0) :: (.int .u8 0) :: (.int .u8 0) :: (.int .u8 0) :: (.int .u8 0) :: (.int .u8 0) :: (.int .u8 0) :: (.int .u8 0) :: (.int .u8 0) :: (.int .u8 0) :: (.int .u8 0) :: (.int .u8 0) :: (.int .u8 0) :: (.int .u8 0) :: (.int .u8 0) :: (.int .u8 0) :: (.int .u8 0) :: (.int .u8 0) :: (.int .u8 0) :: (.int .u8 0) :: []))) := by kernel_rfl
theorem eo243 : elemOK Tryz.prog 243 32 32 = true := by kernel_rfl
theorem sz244 : (Tryz.prog.info? 244).map (·.size) = some 1 := by kernel_rfl
theorem zr244 : (Tryz.prog.info? 244).map (·.zero) = some (some .nilFunc) := by kernel_rfl
theorem zc244 : (Tryz.prog.info? 244).map (fun i => i.zero.map Value.cells) = some (some #[.nilFunc]) := by kernel_rfl
theorem eo244 : elemOK Tryz.prog 244 1 8 = true := by kernel_rfl
theorem sz245 : (Tryz.prog.info? 245).map (·.size) = some 1 := by kernel_rfl
theorem zr245 : (Tryz.prog.info? 245).map (·.zero) = some (some .nilFunc) := by kernel_rfl
theorem zc245 : (Tryz.prog.info? 245).map (fun i => i.zero.map Value.cells) = some (some #[.nilFunc]) := by kernel_rfl
theorem eo245 : elemOK Tryz.prog 245 1 8 = true := by kernel_rfl
theorem sz246 : (Tryz.prog.info? 246).map (·.size) = some 1 := by kernel_rfl
theorem zr246 : (Tryz.prog.info? 246).map (·.zero) = some (some (.pointer none)) := by kernel_rfl
theorem zc246 : (Tryz.prog.info? 246).map (fun i => i.zero.map Value.cells) = some (some #[(.pointer none)]) := by kernel_rfl
theorem eo246 : elemOK Tryz.prog 246 1 8 = true := by kernel_rfl
theorem sz247 : (Tryz.prog.info? 247).map (·.size) = some 1 := by kernel_rfl
theorem zr247 : (Tryz.prog.info? 247).map (·.zero) = some (some (.agg #[(.string ⟨#[]⟩)])) := by kernel_rfl
theorem zc247 : (Tryz.prog.info? 247).map (fun i => i.zero.map Value.cells) = some (some #[(.string ⟨#[]⟩)]) := by kernel_rfl
theorem eo247 : elemOK Tryz.prog 247 1 16 = true := by kernel_rfl
theorem fi247_0 : fieldInfo Tryz.prog 247 0 = some (0, 1) := by kernel_rfl
theorem fp247_0 : fieldPart Tryz.prog 247 0 = some (false, 0, 1) := by kernel_rfl
theorem pl247 : placesOf Tryz.prog 247 = some [(0, 1)] := by kernel_rfl
theorem sz248 : (Tryz.prog.info? 248).map (·.size) = some 1 := by kernel_rfl
theorem zr248 : (Tryz.prog.info? 248).map (·.zero) = some (some (.agg #[(.string ⟨#[]⟩)])) := by kernel_rfl
theorem zc248 : (Tryz.prog.info? 248).map (fun i => i.zero.map Value.cells) = some (some #[(.string ⟨#[]⟩)]) := by kernel_rfl
theorem eo248 : elemOK Tryz.prog 248 1 16 = true := by kernel_rfl
theorem fi248_0 : fieldInfo Tryz.prog 248 0 = some (0, 1) := by kernel_rfl
theorem fp248_0 : fieldPart Tryz.prog 248 0 = some (false, 0, 1) := by kernel_rfl
theorem pl248 : placesOf Tryz.prog 248 = some [(0, 1)] := by kernel_rfl
theorem sz249 : (Tryz.prog.info? 249).map (·.size) = some 32 := by kernel_rfl
theorem zr249 : (Tryz.prog.info? 249).map (·.zero) = some (some (.agg (List.toArray ((.int .u8 0) :: (.int .u8 0) :: (.int .u8 0) :: (.int .u8 0) :: (.int .u8 0) :: (.int .u8 0) :: (.int .u8 0) :: (.int .u8 0) :: (.int .u8 0) :: (.int .u8 0) :: (.int .u8 0) :: (.int .u8 0) :: (.int .u8 0) :: (.int .u8 0) :: (.int .u8 0) :: (.int .u8 0) :: (.int .u8 0) :: (.int .u8 0) :: (.int .u8 0) :: (.int .u8 0) :: (.int .u8 0) :: (.int .u8 0) :: (.int .u8 0) :: (.int .u8 0) :: (.int .u8 0) :: (.int .u8 0) :: (.int .u8 0) :: (.int .u8 0) :: (.int .u8 0) :: (.int .u8 0) :: (.int .u8 0) :: (.int .u8 0) :: [])))) := by kernel_rfl
theorem zc249 : (Tryz.prog.info? 249).map (fun i => i.zero.map Value.cells) = some (some (List.toArray ((.int .u8 0) :: (.int .u8 0) :: (.int .u8 0) :: (.int .u8 0) :: (.int .u8 0) :: (.int .u8 0) :: (.int .u8 0) :: (.int .u8 0) :: (.int .u8 0) :: (.int .u8 0) :: (.int .u8 0) :: (.int .u8 0) :: (.int .u8 0) :: (.int .u8 0) :: (.int .u8 0) :: (.int .u8 0) :: (.int .u8 0) :: (.int .u8 0) :: (.int .u8 0) :: (.int .u8 0) :: (.int .u8 0) :: (.int .u8 0) :: (.int .u8 0) :: (.int .u8 0) :: (.int .u8 0) :: (.int .u8 0) :: (.int .u8 0) :: (.int .u8 0) :: (.int .u8 0) :: (.int .u8 0) :: (.int .u8 0) :: (.int .u8 0) :: []))) := by kernel_rfl
theorem eo249 : elemOK Tryz.prog 249 32 32 = true := by kernel_rfl
theorem sz250 : (Tryz.prog.info? 250).map (·.size) = some 64 := by kernel_rfl
theorem zr250 : (Tryz.prog.info? 250).map (·.zero) = some (some (.agg (List.toArray ((.int .u8 0) :: (.int .u8 0) :: (.int .u8 0) :: (.int .u8 0) :: (.int .u8 0) :: (.int .u8 0) :: (.int .u8 0) :: (.int .u8 0) :: (.int .u8 0) :: (.int .u8 0) :: (.int .u8 0) :: (.int .u8 0) :: (.int .u8 0) :: (.int .u8 0) :: (.int .u8 0) :: (.int .u8 0) :: (.int .u8 0) :: (.int .u8 0) :: (.int .u8 0) :: (.int .u8 0) :: (.int .u8 0) :: (.int .u8 0) :: (.int .u8 0) :: (.int .u8 0) :: (.int .u8 0) :: (.int .u8 0) :: (.int .u8 0) :: (.int .u8 0) :: (.int .u8 0) :: (.int .u8 0) :: (.int .u8 0) :: (.int .u8 0) :: (.int .u8 0) :: (.int .u8 0) :: (.int .u8 0) :: (.int .u8 0) :: (.int .u8 0) :: (.int .u8 0) :: (.int .u8 0) :: (.int .u8 0) :: (.int .u8 0) :: (.int .u8 0) :: (.int .u8 0) :: (.int .u8 0) :: (.int .u8 0) :: (.int .u8 0) :: (.int .u8 0) :: (.int .u8 0) :: (.int .u8 0) :: (.int .u8 0) :: (.int .u8 0) :: (.int .u8 0) :: (.int .u8 0) :: (.int .u8 0) :: (.int .u8 0) :: (.int .u8 0) :: (.int .u8 0) :: (.int .u8 0) :: (.int .u8 0) :: (.int .u8 0) :: (.int .u8 0) :: (.int .u8 0) :: (.int .u8 0) :: (.int .u8 0) :: [])))) := by kernel_rfl
theorem zc250 : (Tryz.prog.info? 250).map (fun i => i.zero.map Value.cells) = some (some (List.toArray ((.int .u8 0) :: (.int .u8 0) :: (.int .u8 0) :: (.int .u8 0) :: (.int .u8 0) :: (.int .u8 0) :: (.int .u8 0) :: (.int .u8 0) :: (.int .u8 0) :: (.int .u8 0) :: (.int .u8 0) :: (.int .u8 0) :: (.int .u8 0) :: (.int .u8 0) :: (.int .u8 0) :: (.int .u8 0) :: (.int .u8 0) :: (.int .u8 0) :: (.int .u8 0) :: (.int .u8 0) :: (.int .u8 0) :: (.int .u8 0) :: (.int .u8 0) :: (.int .u8 0) :: (.int .u8 0) :: (.int .u8 0) :: (.int .u8 0) :: (.int .u8 0) :: (.int .u8 0) :: (.int .u8 0) :: (.int .u8 0) :: (.int .u8 0) :: (.int .u8 0) :: (.int .u8 0) :: (.int .u8 0) :: (.int .u8 0) :: (.int .u8 0) :: (.int .u8 0) :: (.int .u8 0) :: (.int .u8 0) :: (.int .u8 0) :: (.int .u8 0) :: (.int .u8 0) :: (.int .u8 0) :: (.int .u8 0) :: (.int .u8 0) :: (.int .u8 0) :: (.int .u8 0) :: (.int .u8 0) :: (.int .u8 0) :: (.int .u8 0) :: (.int .u8 0) :: (.int .u8 0) :: (.int .u8 0) :: (.int .u8 0) :: (.int .u8 0) :: (.int .u8 0) :: (.int .u8 0) :: (.int .u8 0) :: (.int .u8 0) :: (.int .u8 0) :: (.int .u8 0) :: (.int .u8 0) :: (.int .u8 0) :: []))) := by kernel_rfl
theorem eo250 : elemOK Tryz.prog 250 64 64 = true := by kernel_rfl
theorem sz251 : (Tryz.prog.info? 251).map (·.size) = some 4 := by kernel_rfl
theorem zr251 : (Tryz.prog.info? 251).map (·.zero) = some (some (.agg #[(.pointer none), (.pointer none), (.pointer none), (.string ⟨#[]⟩)])) := by kernel_rfl
theorem zc251 : (Tryz.prog.info? 251).map (fun i => i.zero.map Value.cells) = some (some #[(.pointer none), (.pointer none), (.pointer none), (.string ⟨#[]⟩)]) := by kernel_rfl
theorem eo251 : elemOK Tryz.prog 251 4 40 = true := by kernel_rfl
theorem fi251_0 : fieldInfo Tryz.prog 251 0 = some (0, 1) := by kernel_rfl
theorem fp251_0 : fieldPart Tryz.prog 251 0 = some (false, 0, 1) := by kernel_rfl
theorem fi251_1 : fieldInfo Tryz.prog 251 1 = some (1, 1) := by kernel_rfl
theorem fp251_1 : fieldPart Tryz.prog 251 1 = some (false, 1, 1) := by kernel_rfl
theorem fi251_2 : fieldInfo Tryz.prog 251 2 = some (2, 1) := by kernel_rfl
theorem fp251_2 : fieldPart Tryz.prog 251 2 = some (false, 2, 1) := by kernel_rfl
theorem fi251_3 : fieldInfo Tryz.prog 251 3 = some (3, 1) := by kernel_rfl
theorem fp251_3 : fieldPart Tryz.prog 251 3 = some (false, 3, 1) := by kernel_rfl
theorem pl251 : placesOf Tryz.prog 251 = some [(0, 1), (1, 1), (2, 1), (3, 1)] := by kernel_rfl
theorem sz252 : (Tryz.prog.info? 252).map (·.size) = some 4 := by kernel_rfl
theorem zr252 : (Tryz.prog.info? 252).map (·.zero) = some (some (.agg #[(.pointer none), (.pointer none), (.pointer none), (.string ⟨#[]⟩)])) := by kernel_rfl
theorem zc252 : (Tryz.prog.info? 252).map (fun i => i.zero.map Value.cells) = some (some #[(.pointer none), (.pointer none), (.pointer none), (.string ⟨#[]⟩)]) := by kernel_rfl
theorem eo252 : elemOK Tryz.prog 252 4 40 = true := by kernel_rfl
theorem fi252_0 : fieldInfo Tryz.prog 252 0 = some (0, 1) := by kernel_rfl
theorem fp252_0 : fieldPart Tryz.prog 252 0 = some (false, 0, 1) := by kernel_rfl
theorem fi252_1 : fieldInfo Tryz.prog 252 1 = some (1, 1) := by kernel_rfl
theorem fp252_1 : fieldPart Tryz.prog 252 1 = some (false, 1, 1) := by kernel_rfl
theorem fi252_2 : fieldInfo Tryz.prog 252 2 = some (2, 1) := by kernel_rfl
theorem fp252_2 : fieldPart Tryz.prog 252 2 = some (false, 2, 1) := by kernel_rfl
theorem fi252_3 : fieldInfo Tryz.prog 252 3 = some (3, 1) := by kernel_rfl
theorem fp252_3 : fieldPart Tryz.prog 252 3 = some (false, 3, 1) := by kernel_rfl
theorem pl252 : placesOf Tryz.prog 252 = some [(0, 1), (1, 1), (2, 1), (3, 1)] := by kernel_rfl
theorem sz253 : (Tryz.prog.info? 253).map (·.size) = some 0 := by kernel_rfl
theorem zr253 : (Tryz.prog.info? 253).map (·.zero) = some (some (.agg #[])) := by kernel_rfl
theorem sz254 : (Tryz.prog.info? 254).map (·.size) = some 0 := by kernel_rfl
theorem zr254 : (Tryz.prog.info? 254).map (·.zero) = some (some (.agg #[])) := by kernel_rfl
theorem fi254_0 : fieldInfo Tryz.prog 254 0 = some (0, 0) := by kernel_rfl
theorem fp254_0 : fieldPart Tryz.prog 254 0 = some (true, 0, 0) := by kernel_rfl
theorem pl254 : placesOf Tryz.prog 254 = some [(0, 0)] := by kernel_rfl
theorem sz255 : (Tryz.prog.info? 255).map (·.size) = some 0 := by kernel_rfl
theorem zr255 : (Tryz.prog.info? 255).map (·.zero) = some (some (.agg #[])) := by kernel_rfl
theorem fi255_0 : fieldInfo Tryz.prog 255 0 = some (0, 0) := by kernel_rfl
theorem fp255_0 : fieldPart Tryz.prog 255 0 = some (true, 0, 0) := by kernel_rfl
theorem pl255 : placesOf Tryz.prog 255 = some [(0, 0)] := by kernel_rfl
theorem sz256 : (Tryz.prog.info? 256).map (·.size) = some 1 := by kernel_rfl
theorem zr256 : (Tryz.prog.info? 256).map (·.zero) = some (some (.int .u8 0)) := by kernel_rfl
theorem zc256 : (Tryz.prog.info? 256).map (fun i => i.zero.map Value.cells) = some (some #[(.int .u8 0)]) := by kernel_rfl
theorem eo256 : elemOK Tryz.prog 256 1 1 = true := by kernel_rfl
theorem sz257 : (Tryz.prog.info? 257).map (·.size) = some 1 := by kernel_rfl
theorem zr257 : (Tryz.prog.info? 257).map (·.zero) = some (some (.int .u8 0)) := by kernel_rfl
theorem zc257 : (Tryz.prog.info? 257).map (fun i => i.zero.map Value.cells) = some (some #[(.int .u8 0)]) := by kernel_rfl
theorem eo257 : elemOK Tryz.prog 257 1 1 = true := by kernel_rfl
theorem sz258 : (Tryz.prog.info? 258).map (·.size) = some 1 := by kernel_rfl
theorem zr258 : (Tryz.prog.info? 258).map (·.zero) = some (some .nilFunc) := by kernel_rfl
theorem zc258 : (Tryz.prog.info? 258).map (fun i => i.zero.map Value.cells) = some (some #[.nilFunc]) := by kernel_rfl
theorem eo258 : elemOK Tryz.prog 258 1 8 = true := by kernel_rfl
theorem sz259 : (Tryz.prog.info? 259).map (·.size) = some 1 := by kernel_rfl
theorem zr259 : (Tryz.prog.info? 259).map (·.zero) = some (some (.int .i32 0)) := by kernel_rfl
theorem zc259 : (Tryz.prog.info? 259).map (fun i => i.zero.map Value.cells) = some (some #[(.int .i32 0)]) := by kernel_rfl
theorem eo259 : elemOK Tryz.prog 259 1 4 = true := by kernel_rfl
theorem sz260 : (Tryz.prog.info? 260).map (·.size) = some 1 := by kernel_rfl
theorem zr260 : (Tryz.prog.info? 260).map (·.zero) = some (some (.int .i32 0)) := by kernel_rfl
theorem zc260 : (Tryz.prog.info? 260).map (fun i => i.zero.map Value.cells) = some (some #[(.int .i32 0)]) := by kernel_rfl
theorem eo260 : elemOK Tryz.prog 260 1 4 = true := by kernel_rfl
theorem sz261 : (Tryz.prog.info? 261).map (·.size) = some 11 := by kernel_rfl
theorem zr261 : (Tryz.prog.info? 261).map (·.zero) = some (some (.agg #[(.int .u64 0), (.int .u64 0), (.int .u32 0), (.int .u8 0), (.int .u8 0), (.int .u8 0), (.int .u8 0), .nilFunc, (.pointer none), (.int .i32 0), (.int .i32 0)])) := by kernel_rfl
theorem zc261 : (Tryz.prog.info? 261).map (fun i => i.zero.map Value.cells) = some (some #[(.int .u64 0), (.int .u64 0), (.int .u32 0), (.int .u8 0), (.int .u8 0), (.int .u8 0), (.int .u8 0), .nilFunc, (.pointer none), (.int .i32 0), (.int .i32 0)]) := by kernel_rfl
theorem eo261 : elemOK Tryz.prog 261 11 48 = true := by kernel_rfl
theorem fi261_0 : fieldInfo Tryz.prog 261 0 = some (0, 1) := by kernel_rfl
theorem fp261_0 : fieldPart Tryz.prog 261 0 = some (false, 0, 1) := by kernel_rfl
theorem fi261_1 : fieldInfo Tryz.prog 261 1 = some (1, 1) := by kernel_rfl
theorem fp261_1 : fieldPart Tryz.prog 261 1 = some (false, 1, 1) := by kernel_rfl
theorem fi261_2 : fieldInfo Tryz.prog 261 2 = some (2, 1) := by kernel_rfl
theorem fp261_2 : fieldPart Tryz.prog 261 2 = some (false, 2, 1) := by kernel_rfl
theorem fi261_3 : fieldInfo Tryz.prog 261 3 = some (3, 1) := by kernel_rfl
theorem fp261_3 : fieldPart Tryz.prog 261 3 = some (false, 3, 1) := by kernel_rfl
theorem fi261_4 : fieldInfo Tryz.prog 261 4 = some (4, 1) := by kernel_rfl
theorem fp261_4 : fieldPart Tryz.prog 261 4 = some (false, 4, 1) := by kernel_rfl
theorem fi261_5 : fieldInfo Tryz.prog 261 5 = some (5, 1) := by kernel_rfl
theorem fp261_5 : fieldPart Tryz.prog 261 5 = some (false, 5, 1) := by kernel_rfl
theorem fi261_6 : fieldInfo Tryz.prog 261 6 = some (6, 1) := by kernel_rfl
theorem fp261_6 : fieldPart Tryz.prog 261 6 = some (false, 6, 1) := by kernel_rfl
theorem fi261_7 : fieldInfo Tryz.prog 261 7 = some (7, 1) := by kernel_rfl
theorem fp261_7 : fieldPart Tryz.prog 261 7 = some (false, 7, 1) := by kernel_rfl
theorem fi261_8 : fieldInfo Tryz.prog 261 8 = some (8, 1) := by kernel_rfl
theorem fp261_8 : fieldPart Tryz.prog 261 8 = some (false, 8, 1) := by kernel_rfl
theorem fi261_9 : fieldInfo Tryz.prog 261 9 = some (9, 1) := by kernel_rfl
theorem fp261_9 : fieldPart Tryz.prog 261 9 = some (false, 9, 1) := by kernel_rfl
theorem fi261_10 : fieldInfo Tryz.prog 261 10 = some (10, 1) := by kernel_rfl
theorem fp261_10 : fieldPart Tryz.prog 261 10 = some (false, 10, 1) := by kernel_rfl
theorem pl261 : placesOf Tryz.prog 261 = some [(0, 1), (1, 1), (2, 1), (3, 1), (4, 1), (5, 1), (6, 1), (7, 1), (8, 1), (9, 1), (10, 1)] := by kernel_rfl
theorem sz262 : (Tryz.prog.info? 262).map (·.size) = some 11 := by kernel_rfl
theorem zr262 : (Tryz.prog.info? 262).map (·.zero) = some (some (.agg #[(.int .u64 0), (.int .u64 0), (.int .u32 0), (.int .u8 0), (.int .u8 0), (.int .u8 0), (.int .u8 0), .nilFunc, (.pointer none), (.int .i32 0), (.int .i32 0)])) := by kernel_rfl
theorem zc262 : (Tryz.prog.info? 262).map (fun i => i.zero.map Value.cells) = some (some #[(.int .u64 0), (.int .u64 0), (.int .u32 0), (.int .u8 0), (.int .u8 0), (.int .u8 0), (.int .u8 0), .nilFunc, (.pointer none), (.int .i32 0), (.int .i32 0)]) := by kernel_rfl
theorem eo262 : elemOK Tryz.prog 262 11 48 = true := by kernel_rfl
theorem fi262_0 : fieldInfo Tryz.prog 262 0 = some (0, 1) := by kernel_rfl
theorem fp262_0 : fieldPart Tryz.prog 262 0 = some (false, 0, 1) := by kernel_rfl
theorem fi262_1 : fieldInfo Tryz.prog 262 1 = some (1, 1) := by kernel_rfl
theorem fp262_1 : fieldPart Tryz.prog 262 1 = some (false, 1, 1) := by kernel_rfl
theorem fi262_2 : fieldInfo Tryz.prog 262 2 = some (2, 1) := by kernel_rfl
theorem fp262_2 : fieldPart Tryz.prog 262 2 = some (false, 2, 1) := by kernel_rfl
theorem fi262_3 : fieldInfo Tryz.prog 262 3 = some (3, 1) := by kernel_rfl
theorem fp262_3 : fieldPart Tryz.prog 262 3 = some (false, 3, 1) := by kernel_rfl
theorem fi262_4 : fieldInfo Tryz.prog 262 4 = some (4, 1) := by kernel_rfl
theorem fp262_4 : fieldPart Tryz.prog 262 4 = some (false, 4, 1) := by kernel_rfl
theorem fi262_5 : fieldInfo Tryz.prog 262 5 = some (5, 1) := by kernel_rfl
theorem fp262_5 : fieldPart Tryz.prog 262 5 = some (false, 5, 1) := by kernel_rfl
theorem fi262_6 : fieldInfo Tryz.prog 262 6 = some (6, 1) := by kernel_rfl
theorem fp262_6 : fieldPart Tryz.prog 262 6 = some (false, 6, 1) := by kernel_rfl
theorem fi262_7 : fieldInfo Tryz.prog 262 7 = some (7, 1) := by kernel_rfl
theorem fp262_7 : fieldPart Tryz.prog 262 7 = some (false, 7, 1) := by kernel_rfl
theorem fi262_8 : fieldInfo Tryz.prog 262 8 = some (8, 1) := by kernel_rfl
theorem fp262_8 : fieldPart Tryz.prog 262 8 = some (false, 8, 1) := by kernel_rfl
theorem fi262_9 : fieldInfo Tryz.prog 262 9 = some (9, 1) := by kernel_rfl
theorem fp262_9 : fieldPart Tryz.prog 262 9 = some (false, 9, 1) := by kernel_rfl
theorem fi262_10 : fieldInfo Tryz.prog 262 10 = some (10, 1) := by kernel_rfl
theorem fp262_10 : fieldPart Tryz.prog 262 10 = some (false, 10, 1) := by kernel_rfl
theorem pl262 : placesOf Tryz.prog 262 = some [(0, 1), (1, 1), (2, 1), (3, 1), (4, 1), (5, 1), (6, 1), (7, 1), (8, 1), (9, 1), (10, 1)] := by kernel_rfl
end Go.Proofs.YtgpleldhddpcgaaGreatDoor

