/- Facts on the types of the program: sizes, zero values, fields. -/
import Derived.Test.YtcjnecmgificmaaGreatDoorProg
import Derived.Test.YtcjnecmgificmaaGreatDoorMa2
namespace Go.Proofs.YtcjnecmgificmaaGreatDoor
set_option linter.unusedVariables false
theorem sz0 : (Tryz.prog.info? 0).map (·.size) = some 1 := by kernel_rfl
theorem sz1 : (Tryz.prog.info? 1).map (·.size) = some 1 := by kernel_rfl
theorem zr1 : (Tryz.prog.info? 1).map (·.zero) = some (some .nilFunc) := by kernel_rfl
theorem zc1 : (Tryz.prog.info? 1).map (fun i => i.zero.map Value.cells) = some (some #[.nilFunc]) := by kernel_rfl
theorem eo1 : elemOK Tryz.prog 1 1 8 = true := by kernel_rfl
theorem sz2 : (Tryz.prog.info? 2).map (·.size) = some 1 := by kernel_rfl
theorem zr2 : (Tryz.prog.info? 2).map (·.zero) = some (some (.int .i64 0)) := by kernel_rfl
theorem zc2 : (Tryz.prog.info? 2).map (fun i => i.zero.map Value.cells) = some (some #[(.int .i64 0)]) := by kernel_rfl
theorem eo2 : elemOK Tryz.prog 2 1 8 = true := by kernel_rfl
theorem sz3 : (Tryz.prog.info? 3).map (·.size) = some 1 := by kernel_rfl
theorem zr3 : (Tryz.prog.info? 3).map (·.zero) = some (some (.int .i64 0)) := by kernel_rfl
theorem zc3 : (Tryz.prog.info? 3).map (fun i => i.zero.map Value.cells) = some (some #[(.int .i64 0)]) := by kernel_rfl
theorem eo3 : elemOK Tryz.prog 3 1 8 = true := by kernel_rfl
theorem sz4 : (Tryz.prog.info? 4).map (·.size) = some 1 := by kernel_rfl
theorem zr4 : (Tryz.prog.info? 4).map (·.zero) = some (some (.bool false)) := by kernel_rfl
theorem zc4 : (Tryz.prog.info? 4).map (fun i => i.zero.map Value.cells) = some (some #[(.bool false)]) := by kernel_rfl
theorem eo4 : elemOK Tryz.prog 4 1 1 = true := by kernel_rfl
theorem sz5 : (Tryz.prog.info? 5).map (·.size) = some 1 := by kernel_rfl
theorem zr5 : (Tryz.prog.info? 5).map (·.zero) = some (some (.int .u8 0)) := by kernel_rfl
theorem zc5 : (Tryz.prog.info? 5).map (fun i => i.zero.map Value.cells) = some (some #[(.int .u8 0)]) := by kernel_rfl
theorem eo5 : elemOK Tryz.prog 5 1 1 = true := by kernel_rfl
theorem sz6 : (Tryz.prog.info? 6).map (·.size) = some 1 := by kernel_rfl
theorem zr6 : (Tryz.prog.info? 6).map (·.zero) = some (some (.int .u8 0)) := by kernel_rfl
theorem zc6 : (Tryz.prog.info? 6).map (fun i => i.zero.map Value.cells) = some (some #[(.int .u8 0)]) := by kernel_rfl
theorem eo6 : elemOK Tryz.prog 6 1 1 = true := by kernel_rfl
theorem sz7 : (Tryz.prog.info? 7).map (·.size) = some 4 := by kernel_rfl
theorem zr7 : (Tryz.prog.info? 7).map (·.zero) = some (some (.agg #[(.int .i64 0), (.int .i64 0), (.bool false), (.int .u8 0)])) := by kernel_rfl
theorem zc7 : (Tryz.prog.info? 7).map (fun i => i.zero.map Value.cells) = some (some #[(.int .i64 0), (.int .i64 0), (.bool false), (.int .u8 0)]) := by kernel_rfl
theorem eo7 : elemOK Tryz.prog 7 4 24 = true := by kernel_rfl
theorem fi7_0 : fieldInfo Tryz.prog 7 0 = some (0, 1) := by kernel_rfl
theorem fp7_0 : fieldPart Tryz.prog 7 0 = some (false, 0, 1) := by kernel_rfl
theorem fi7_1 : fieldInfo Tryz.prog 7 1 = some (1, 1) := by kernel_rfl
theorem fp7_1 : fieldPart Tryz.prog 7 1 = some (false, 1, 1) := by kernel_rfl
theorem fi7_2 : fieldInfo Tryz.prog 7 2 = some (2, 1) := by kernel_rfl
theorem fp7_2 : fieldPart Tryz.prog 7 2 = some (false, 2, 1) := by kernel_rfl
theorem fi7_3 : fieldInfo Tryz.prog 7 3 = some (3, 1) := by kernel_rfl
theorem fp7_3 : fieldPart Tryz.prog 7 3 = some (false, 3, 1) := by kernel_rfl
theorem pl7 : placesOf Tryz.prog 7 = some [(0, 1), (1, 1), (2, 1), (3, 1)] := by kernel_rfl
theorem sz8 : (Tryz.prog.info? 8).map (·.size) = some 4 := by kernel_rfl
theorem zr8 : (Tryz.prog.info? 8).map (·.zero) = some (some (.agg #[(.int .i64 0), (.int .i64 0), (.bool false), (.int .u8 0)])) := by kernel_rfl
theorem zc8 : (Tryz.prog.info? 8).map (fun i => i.zero.map Value.cells) = some (some #[(.int .i64 0), (.int .i64 0), (.bool false), (.int .u8 0)]) := by kernel_rfl
theorem eo8 : elemOK Tryz.prog 8 4 24 = true := by kernel_rfl
theorem fi8_0 : fieldInfo Tryz.prog 8 0 = some (0, 1) := by kernel_rfl
theorem fp8_0 : fieldPart Tryz.prog 8 0 = some (false, 0, 1) := by kernel_rfl
theorem fi8_1 : fieldInfo Tryz.prog 8 1 = some (1, 1) := by kernel_rfl
theorem fp8_1 : fieldPart Tryz.prog 8 1 = some (false, 1, 1) := by kernel_rfl
theorem fi8_2 : fieldInfo Tryz.prog 8 2 = some (2, 1) := by kernel_rfl
theorem fp8_2 : fieldPart Tryz.prog 8 2 = some (false, 2, 1) := by kernel_rfl
theorem fi8_3 : fieldInfo Tryz.prog 8 3 = some (3, 1) := by kernel_rfl
theorem fp8_3 : fieldPart Tryz.prog 8 3 = some (false, 3, 1) := by kernel_rfl
theorem pl8 : placesOf Tryz.prog 8 = some [(0, 1), (1, 1), (2, 1), (3, 1)] := by kernel_rfl
theorem sz9 : (Tryz.prog.info? 9).map (·.size) = some 1 := by kernel_rfl
theorem zr9 : (Tryz.prog.info? 9).map (·.zero) = some (some (.string ⟨#[]⟩)) := by kernel_rfl
theorem zc9 : (Tryz.prog.info? 9).map (fun i => i.zero.map Value.cells) = some (some #[(.string ⟨#[]⟩)]) := by kernel_rfl
theorem eo9 : elemOK Tryz.prog 9 1 16 = true := by kernel_rfl
theorem sz10 : (Tryz.prog.info? 10).map (·.size) = some 1 := by kernel_rfl
theorem zr10 : (Tryz.prog.info? 10).map (·.zero) = some (some (.string ⟨#[]⟩)) := by kernel_rfl
theorem zc10 : (Tryz.prog.info? 10).map (fun i => i.zero.map Value.cells) = some (some #[(.string ⟨#[]⟩)]) := by kernel_rfl
theorem eo10 : elemOK Tryz.prog 10 1 16 = true := by kernel_rfl
theorem sz11 : (Tryz.prog.info? 11).map (·.size) = some 1 := by kernel_rfl
theorem zr11 : (Tryz.prog.info? 11).map (·.zero) = some (some (.string ⟨#[]⟩)) := by kernel_rfl
theorem zc11 : (Tryz.prog.info? 11).map (fun i => i.zero.map Value.cells) = some (some #[(.string ⟨#[]⟩)]) := by kernel_rfl
theorem eo11 : elemOK Tryz.prog 11 1 16 = true := by kernel_rfl
theorem sz12 : (Tryz.prog.info? 12).map (·.size) = some 1 := by kernel_rfl
theorem zr12 : (Tryz.prog.info? 12).map (·.zero) = some (some (.int .u64 0)) := by kernel_rfl
theorem zc12 : (Tryz.prog.info? 12).map (fun i => i.zero.map Value.cells) = some (some #[(.int .u64 0)]) := by kernel_rfl
theorem eo12 : elemOK Tryz.prog 12 1 8 = true := by kernel_rfl
theorem sz13 : (Tryz.prog.info? 13).map (·.size) = some 2 := by kernel_rfl
theorem zr13 : (Tryz.prog.info? 13).map (·.zero) = some (some (.agg #[(.string ⟨#[]⟩), (.int .u64 0)])) := by kernel_rfl
theorem zc13 : (Tryz.prog.info? 13).map (fun i => i.zero.map Value.cells) = some (some #[(.string ⟨#[]⟩), (.int .u64 0)]) := by kernel_rfl
theorem eo13 : elemOK Tryz.prog 13 2 24 = true := by kernel_rfl
theorem fi13_0 : fieldInfo Tryz.prog 13 0 = some (0, 1) := by kernel_rfl
theorem fp13_0 : fieldPart Tryz.prog 13 0 = some (false, 0, 1) := by kernel_rfl
theorem fi13_1 : fieldInfo Tryz.prog 13 1 = some (1, 1) := by kernel_rfl
theorem fp13_1 : fieldPart Tryz.prog 13 1 = some (false, 1, 1) := by kernel_rfl
theorem pl13 : placesOf Tryz.prog 13 = some [(0, 1), (1, 1)] := by kernel_rfl
theorem sz14 : (Tryz.prog.info? 14).map (·.size) = some 2 := by kernel_rfl
theorem zr14 : (Tryz.prog.info? 14).map (·.zero) = some (some (.agg #[(.string ⟨#[]⟩), (.int .u64 0)])) := by kernel_rfl
theorem zc14 : (Tryz.prog.info? 14).map (fun i => i.zero.map Value.cells) = some (some #[(.string ⟨#[]⟩), (.int .u64 0)]) := by kernel_rfl
theorem eo14 : elemOK Tryz.prog 14 2 24 = true := by kernel_rfl
theorem fi14_0 : fieldInfo Tryz.prog 14 0 = some (0, 1) := by kernel_rfl
theorem fp14_0 : fieldPart Tryz.prog 14 0 = some (false, 0, 1) := by kernel_rfl
theorem fi14_1 : fieldInfo Tryz.prog 14 1 = some (1, 1) := by kernel_rfl
theorem fp14_1 : fieldPart Tryz.prog 14 1 = some (false, 1, 1) := by kernel_rfl
theorem pl14 : placesOf Tryz.prog 14 = some [(0, 1), (1, 1)] := by kernel_rfl
theorem sz15 : (Tryz.prog.info? 15).map (·.size) = some 1 := by kernel_rfl
theorem zr15 : (Tryz.prog.info? 15).map (·.zero) = some (some (.pointer none)) := by kernel_rfl
theorem zc15 : (Tryz.prog.info? 15).map (fun i => i.zero.map Value.cells) = some (some #[(.pointer none)]) := by kernel_rfl
theorem eo15 : elemOK Tryz.prog 15 1 8 = true := by kernel_rfl
theorem sz16 : (Tryz.prog.info? 16).map (·.size) = some 1 := by kernel_rfl
theorem zr16 : (Tryz.prog.info? 16).map (·.zero) = some (some (.pointer none)) := by kernel_rfl
theorem zc16 : (Tryz.prog.info? 16).map (fun i => i.zero.map Value.cells) = some (some #[(.pointer none)]) := by kernel_rfl
theorem eo16 : elemOK Tryz.prog 16 1 8 = true := by kernel_rfl
theorem sz17 : (Tryz.prog.info? 17).map (·.size) = some 1 := by kernel_rfl
theorem zr17 : (Tryz.prog.info? 17).map (·.zero) = some (some (.pointer none)) := by kernel_rfl
theorem zc17 : (Tryz.prog.info? 17).map (fun i => i.zero.map Value.cells) = some (some #[(.pointer none)]) := by kernel_rfl
theorem eo17 : elemOK Tryz.prog 17 1 8 = true := by kernel_rfl
theorem sz18 : (Tryz.prog.info? 18).map (·.size) = some 1 := by kernel_rfl
theorem zr18 : (Tryz.prog.info? 18).map (·.zero) = some (some (.agg #[(.pointer none)])) := by kernel_rfl
theorem zc18 : (Tryz.prog.info? 18).map (fun i => i.zero.map Value.cells) = some (some #[(.pointer none)]) := by kernel_rfl
theorem eo18 : elemOK Tryz.prog 18 1 8 = true := by kernel_rfl
theorem fi18_0 : fieldInfo Tryz.prog 18 0 = some (0, 1) := by kernel_rfl
theorem fp18_0 : fieldPart Tryz.prog 18 0 = some (false, 0, 1) := by kernel_rfl
theorem pl18 : placesOf Tryz.prog 18 = some [(0, 1)] := by kernel_rfl
theorem sz19 : (Tryz.prog.info? 19).map (·.size) = some 1 := by kernel_rfl
theorem zr19 : (Tryz.prog.info? 19).map (·.zero) = some (some (.agg #[(.pointer none)])) := by kernel_rfl
theorem zc19 : (Tryz.prog.info? 19).map (fun i => i.zero.map Value.cells) = some (some #[(.pointer none)]) := by kernel_rfl
theorem eo19 : elemOK Tryz.prog 19 1 8 = true := by kernel_rfl
theorem fi19_0 : fieldInfo Tryz.prog 19 0 = some (0, 1) := by kernel_rfl
theorem fp19_0 : fieldPart Tryz.prog 19 0 = some (false, 0, 1) := by kernel_rfl
theorem pl19 : placesOf Tryz.prog 19 = some [(0, 1)] := by kernel_rfl
theorem sz20 : (Tryz.prog.info? 20).map (·.size) = some 1 := by kernel_rfl
theorem zr20 : (Tryz.prog.info? 20).map (·.zero) = some (some .nilIface) := by kernel_rfl
theorem zc20 : (Tryz.prog.info? 20).map (fun i => i.zero.map Value.cells) = some (some #[.nilIface]) := by kernel_rfl
theorem eo20 : elemOK Tryz.prog 20 1 16 = true := by kernel_rfl
theorem sz21 : (Tryz.prog.info? 21).map (·.size) = some 1 := by kernel_rfl
theorem zr21 : (Tryz.prog.info? 21).map (·.zero) = some (some (.int .i32 0)) := by kernel_rfl
theorem zc21 : (Tryz.prog.info? 21).map (fun i => i.zero.map Value.cells) = some (some #[(.int .i32 0)]) := by kernel_rfl
theorem eo21 : elemOK Tryz.prog 21 1 4 = true := by kernel_rfl
theorem sz22 : (Tryz.prog.info? 22).map (·.size) = some 1 := by kernel_rfl
theorem zr22 : (Tryz.prog.info? 22).map (·.zero) = some (some (.slice none 0 0)) := by kernel_rfl
theorem zc22 : (Tryz.prog.info? 22).map (fun i => i.zero.map Value.cells) = some (some #[(.slice none 0 0)]) := by kernel_rfl
theorem eo22 : elemOK Tryz.prog 22 1 24 = true := by kernel_rfl
theorem sz23 : (Tryz.prog.info? 23).map (·.size) = some 5 := by kernel_rfl
theorem zr23 : (Tryz.prog.info? 23).map (·.zero) = some (some (.agg #[(.string ⟨#[]⟩), (.string ⟨#[]⟩), (.string ⟨#[]⟩), (.int .i64 0), (.slice none 0 0)])) := by kernel_rfl
theorem zc23 : (Tryz.prog.info? 23).map (fun i => i.zero.map Value.cells) = some (some #[(.string ⟨#[]⟩), (.string ⟨#[]⟩), (.string ⟨#[]⟩), (.int .i64 0), (.slice none 0 0)]) := by kernel_rfl
theorem eo23 : elemOK Tryz.prog 23 5 80 = true := by kernel_rfl
theorem fi23_0 : fieldInfo Tryz.prog 23 0 = some (0, 1) := by kernel_rfl
theorem fp23_0 : fieldPart Tryz.prog 23 0 = some (false, 0, 1) := by kernel_rfl
theorem fi23_1 : fieldInfo Tryz.prog 23 1 = some (1, 1) := by kernel_rfl
theorem fp23_1 : fieldPart Tryz.prog 23 1 = some (false, 1, 1) := by kernel_rfl
theorem fi23_2 : fieldInfo Tryz.prog 23 2 = some (2, 1) := by kernel_rfl
theorem fp23_2 : fieldPart Tryz.prog 23 2 = some (false, 2, 1) := by kernel_rfl
theorem fi23_3 : fieldInfo Tryz.prog 23 3 = some (3, 1) := by kernel_rfl
theorem fp23_3 : fieldPart Tryz.prog 23 3 = some (false, 3, 1) := by kernel_rfl
theorem fi23_4 : fieldInfo Tryz.prog 23 4 = some (4, 1) := by kernel_rfl
theorem fp23_4 : fieldPart Tryz.prog 23 4 = some (false, 4, 1) := by kernel_rfl
theorem pl23 : placesOf Tryz.prog 23 = some [(0, 1), (1, 1), (2, 1), (3, 1), (4, 1)] := by kernel_rfl
theorem sz24 : (Tryz.prog.info? 24).map (·.size) = some 5 := by kernel_rfl
theorem zr24 : (Tryz.prog.info? 24).map (·.zero) = some (some (.agg #[(.string ⟨#[]⟩), (.string ⟨#[]⟩), (.string ⟨#[]⟩), (.int .i64 0), (.slice none 0 0)])) := by kernel_rfl
theorem zc24 : (Tryz.prog.info? 24).map (fun i => i.zero.map Value.cells) = some (some #[(.string ⟨#[]⟩), (.string ⟨#[]⟩), (.string ⟨#[]⟩), (.int .i64 0), (.slice none 0 0)]) := by kernel_rfl
theorem eo24 : elemOK Tryz.prog 24 5 80 = true := by kernel_rfl
theorem fi24_0 : fieldInfo Tryz.prog 24 0 = some (0, 1) := by kernel_rfl
theorem fp24_0 : fieldPart Tryz.prog 24 0 = some (false, 0, 1) := by kernel_rfl
theorem fi24_1 : fieldInfo Tryz.prog 24 1 = some (1, 1) := by kernel_rfl
theorem fp24_1 : fieldPart Tryz.prog 24 1 = some (false, 1, 1) := by kernel_rfl
theorem fi24_2 : fieldInfo Tryz.prog 24 2 = some (2, 1) := by kernel_rfl
theorem fp24_2 : fieldPart Tryz.prog 24 2 = some (false, 2, 1) := by kernel_rfl
theorem fi24_3 : fieldInfo Tryz.prog 24 3 = some (3, 1) := by kernel_rfl
theorem fp24_3 : fieldPart Tryz.prog 24 3 = some (false, 3, 1) := by kernel_rfl
theorem fi24_4 : fieldInfo Tryz.prog 24 4 = some (4, 1) := by kernel_rfl
theorem fp24_4 : fieldPart Tryz.prog 24 4 = some (false, 4, 1) := by kernel_rfl
theorem pl24 : placesOf Tryz.prog 24 = some [(0, 1), (1, 1), (2, 1), (3, 1), (4, 1)] := by kernel_rfl
theorem sz25 : (Tryz.prog.info? 25).map (·.size) = some 1 := by kernel_rfl
theorem zr25 : (Tryz.prog.info? 25).map (·.zero) = some (some (.slice none 0 0)) := by kernel_rfl
theorem zc25 : (Tryz.prog.info? 25).map (fun i => i.zero.map Value.cells) = some (some #[(.slice none 0 0)]) := by kernel_rfl
theorem eo25 : elemOK Tryz.prog 25 1 24 = true := by kernel_rfl
theorem sz26 : (Tryz.prog.info? 26).map (·.size) = some 3 := by kernel_rfl
theorem zr26 : (Tryz.prog.info? 26).map (·.zero) = some (some (.agg #[(.string ⟨#[]⟩), (.int .i64 0), (.slice none 0 0)])) := by kernel_rfl
theorem zc26 : (Tryz.prog.info? 26).map (fun i => i.zero.map Value.cells) = some (some #[(.string ⟨#[]⟩), (.int .i64 0), (.slice none 0 0)]) := by kernel_rfl
theorem eo26 : elemOK Tryz.prog 26 3 48 = true := by kernel_rfl
theorem fi26_0 : fieldInfo Tryz.prog 26 0 = some (0, 1) := by kernel_rfl
theorem fp26_0 : fieldPart Tryz.prog 26 0 = some (false, 0, 1) := by kernel_rfl
theorem fi26_1 : fieldInfo Tryz.prog 26 1 = some (1, 1) := by kernel_rfl
theorem fp26_1 : fieldPart Tryz.prog 26 1 = some (false, 1, 1) := by kernel_rfl
theorem fi26_2 : fieldInfo Tryz.prog 26 2 = some (2, 1) := by kernel_rfl
theorem fp26_2 : fieldPart Tryz.prog 26 2 = some (false, 2, 1) := by kernel_rfl
theorem pl26 : placesOf Tryz.prog 26 = some [(0, 1), (1, 1), (2, 1)] := by kernel_rfl
theorem sz27 : (Tryz.prog.info? 27).map (·.size) = some 3 := by kernel_rfl
theorem zr27 : (Tryz.prog.info? 27).map (·.zero) = some (some (.agg #[(.string ⟨#[]⟩), (.int .i64 0), (.slice none 0 0)])) := by kernel_rfl
theorem zc27 : (Tryz.prog.info? 27).map (fun i => i.zero.map Value.cells) = some (some #[(.string ⟨#[]⟩), (.int .i64 0), (.slice none 0 0)]) := by kernel_rfl
theorem eo27 : elemOK Tryz.prog 27 3 48 = true := by kernel_rfl
theorem fi27_0 : fieldInfo Tryz.prog 27 0 = some (0, 1) := by kernel_rfl
theorem fp27_0 : fieldPart Tryz.prog 27 0 = some (false, 0, 1) := by kernel_rfl
theorem fi27_1 : fieldInfo Tryz.prog 27 1 = some (1, 1) := by kernel_rfl
theorem fp27_1 : fieldPart Tryz.prog 27 1 = some (false, 1, 1) := by kernel_rfl
theorem fi27_2 : fieldInfo Tryz.prog 27 2 = some (2, 1) := by kernel_rfl
theorem fp27_2 : fieldPart Tryz.prog 27 2 = some (false, 2, 1) := by kernel_rfl
theorem pl27 : placesOf Tryz.prog 27 = some [(0, 1), (1, 1), (2, 1)] := by kernel_rfl
theorem sz28 : (Tryz.prog.info? 28).map (·.size) = some 1 := by kernel_rfl
theorem zr28 : (Tryz.prog.info? 28).map (·.zero) = some (some (.slice none 0 0)) := by kernel_rfl
theorem zc28 : (Tryz.prog.info? 28).map (fun i => i.zero.map Value.cells) = some (some #[(.slice none 0 0)]) := by kernel_rfl
theorem eo28 : elemOK Tryz.prog 28 1 24 = true := by kernel_rfl
theorem sz29 : (Tryz.prog.info? 29).map (·.size) = some 1 := by kernel_rfl
theorem zr29 : (Tryz.prog.info? 29).map (·.zero) = some (some (.int .i64 0)) := by kernel_rfl
theorem zc29 : (Tryz.prog.info? 29).map (fun i => i.zero.map Value.cells) = some (some #[(.int .i64 0)]) := by kernel_rfl
theorem eo29 : elemOK Tryz.prog 29 1 8 = true := by kernel_rfl
theorem sz30 : (Tryz.prog.info? 30).map (·.size) = some 1 := by kernel_rfl
theorem sz31 : (Tryz.prog.info? 31).map (·.size) = some 1 := by kernel_rfl
theorem zr31 : (Tryz.prog.info? 31).map (·.zero) = some (some .nilFunc) := by kernel_rfl
theorem zc31 : (Tryz.prog.info? 31).map (fun i => i.zero.map Value.cells) = some (some #[.nilFunc]) := by kernel_rfl
theorem eo31 : elemOK Tryz.prog 31 1 8 = true := by kernel_rfl
theorem sz32 : (Tryz.prog.info? 32).map (·.size) = some 1 := by kernel_rfl
theorem zr32 : (Tryz.prog.info? 32).map (·.zero) = some (some .nilFunc) := by kernel_rfl
theorem zc32 : (Tryz.prog.info? 32).map (fun i => i.zero.map Value.cells) = some (some #[.nilFunc]) := by kernel_rfl
theorem eo32 : elemOK Tryz.prog 32 1 8 = true := by kernel_rfl
theorem sz33 : (Tryz.prog.info? 33).map (·.size) = some 1 := by kernel_rfl
theorem zr33 : (Tryz.prog.info? 33).map (·.zero) = some (some .nilFunc) := by kernel_rfl
theorem zc33 : (Tryz.prog.info? 33).map (fun i => i.zero.map Value.cells) = some (some #[.nilFunc]) := by kernel_rfl
theorem eo33 : elemOK Tryz.prog 33 1 8 = true := by kernel_rfl
theorem sz34 : (Tryz.prog.info? 34).map (·.size) = some 1 := by kernel_rfl
theorem zr34 : (Tryz.prog.info? 34).map (·.zero) = some (some .nilFunc) := by kernel_rfl
theorem zc34 : (Tryz.prog.info? 34).map (fun i => i.zero.map Value.cells) = some (some #[.nilFunc]) := by kernel_rfl
theorem eo34 : elemOK Tryz.prog 34 1 8 = true := by kernel_rfl
theorem sz35 : (Tryz.prog.info? 35).map (·.size) = some 1 := by kernel_rfl
theorem zr35 : (Tryz.prog.info? 35).map (·.zero) = some (some .nilFunc) := by kernel_rfl
theorem zc35 : (Tryz.prog.info? 35).map (fun i => i.zero.map Value.cells) = some (some #[.nilFunc]) := by kernel_rfl
theorem eo35 : elemOK Tryz.prog 35 1 8 = true := by kernel_rfl
theorem sz36 : (Tryz.prog.info? 36).map (·.size) = some 1 := by kernel_rfl
theorem sz37 : (Tryz.prog.info? 37).map (·.size) = some 1 := by kernel_rfl
theorem zr37 : (Tryz.prog.info? 37).map (·.zero) = some (some .nilFunc) := by kernel_rfl
theorem zc37 : (Tryz.prog.info? 37).map (fun i => i.zero.map Value.cells) = some (some #[.nilFunc]) := by kernel_rfl
theorem eo37 : elemOK Tryz.prog 37 1 8 = true := by kernel_rfl
theorem sz38 : (Tryz.prog.info? 38).map (·.size) = some 1 := by kernel_rfl
theorem zr38 : (Tryz.prog.info? 38).map (·.zero) = some (some .nilFunc) := by kernel_rfl
theorem zc38 : (Tryz.prog.info? 38).map (fun i => i.zero.map Value.cells) = some (some #[.nilFunc]) := by kernel_rfl
theorem eo38 : elemOK Tryz.prog 38 1 8 = true := by kernel_rfl
theorem sz39 : (Tryz.prog.info? 39).map (·.size) = some 1 := by kernel_rfl
theorem zr39 : (Tryz.prog.info? 39).map (·.zero) = some (some .nilFunc) := by kernel_rfl
theorem zc39 : (Tryz.prog.info? 39).map (fun i => i.zero.map Value.cells) = some (some #[.nilFunc]) := by kernel_rfl
theorem eo39 : elemOK Tryz.prog 39 1 8 = true := by kernel_rfl
theorem sz40 : (Tryz.prog.info? 40).map (·.size) = some 1 := by kernel_rfl
theorem zr40 : (Tryz.prog.info? 40).map (·.zero) = some (some .nilFunc) := by kernel_rfl
theorem zc40 : (Tryz.prog.info? 40).map (fun i => i.zero.map Value.cells) = some (some #[.nilFunc]) := by kernel_rfl
theorem eo40 : elemOK Tryz.prog 40 1 8 = true := by kernel_rfl
theorem sz41 : (Tryz.prog.info? 41).map (·.size) = some 1 := by kernel_rfl
theorem zr41 : (Tryz.prog.info? 41).map (·.zero) = some (some .nilFunc) := by kernel_rfl
theorem zc41 : (Tryz.prog.info? 41).map (fun i => i.zero.map Value.cells) = some (some #[.nilFunc]) := by kernel_rfl
theorem eo41 : elemOK Tryz.prog 41 1 8 = true := by kernel_rfl
theorem sz42 : (Tryz.prog.info? 42).map (·.size) = some 1 := by kernel_rfl
theorem sz43 : (Tryz.prog.info? 43).map (·.size) = some 1 := by kernel_rfl
theorem zr43 : (Tryz.prog.info? 43).map (·.zero) = some (some .nilFunc) := by kernel_rfl
theorem zc43 : (Tryz.prog.info? 43).map (fun i => i.zero.map Value.cells) = some (some #[.nilFunc]) := by kernel_rfl
theorem eo43 : elemOK Tryz.prog 43 1 8 = true := by kernel_rfl
theorem sz44 : (Tryz.prog.info? 44).map (·.size) = some 1 := by kernel_rfl
theorem zr44 : (Tryz.prog.info? 44).map (·.zero) = some (some .nilFunc) := by kernel_rfl
theorem zc44 : (Tryz.prog.info? 44).map (fun i => i.zero.map Value.cells) = some (some #[.nilFunc]) := by kernel_rfl
theorem eo44 : elemOK Tryz.prog 44 1 8 = true := by kernel_rfl
theorem sz45 : (Tryz.prog.info? 45).map (·.size) = some 7 := by kernel_rfl
theorem zr45 : (Tryz.prog.info? 45).map (·.zero) = some (some (.agg #[(.bool false), (.slice none 0 0), (.string ⟨#[]⟩), (.int .i64 0), (.slice none 0 0), (.string ⟨#[]⟩), (.int .i64 0)])) := by kernel_rfl
theorem zc45 : (Tryz.prog.info? 45).map (fun i => i.zero.map Value.cells) = some (some #[(.bool false), (.slice none 0 0), (.string ⟨#[]⟩), (.int .i64 0), (.slice none 0 0), (.string ⟨#[]⟩), (.int .i64 0)]) := by kernel_rfl
theorem eo45 : elemOK Tryz.prog 45 7 104 = true := by kernel_rfl
theorem fi45_0 : fieldInfo Tryz.prog 45 0 = some (0, 1) := by kernel_rfl
theorem fp45_0 : fieldPart Tryz.prog 45 0 = some (false, 0, 1) := by kernel_rfl
theorem fi45_1 : fieldInfo Tryz.prog 45 1 = some (1, 1) := by kernel_rfl
theorem fp45_1 : fieldPart Tryz.prog 45 1 = some (false, 1, 1) := by kernel_rfl
theorem fi45_2 : fieldInfo Tryz.prog 45 2 = some (2, 3) := by kernel_rfl
theorem fp45_2 : fieldPart Tryz.prog 45 2 = some (true, 2, 3) := by kernel_rfl
theorem fi45_3 : fieldInfo Tryz.prog 45 3 = some (5, 1) := by kernel_rfl
theorem fp45_3 : fieldPart Tryz.prog 45 3 = some (false, 5, 1) := by kernel_rfl
theorem fi45_4 : fieldInfo Tryz.prog 45 4 = some (6, 1) := by kernel_rfl
theorem fp45_4 : fieldPart Tryz.prog 45 4 = some (false, 6, 1) := by kernel_rfl
theorem pl45 : placesOf Tryz.prog 45 = some [(0, 1), (1, 1), (2, 3), (5, 1), (6, 1)] := by kernel_rfl
theorem sz46 : (Tryz.prog.info? 46).map (·.size) = some 7 := by kernel_rfl
theorem zr46 : (Tryz.prog.info? 46).map (·.zero) = some (some (.agg #[(.bool false), (.slice none 0 0), (.string ⟨#[]⟩), (.int .i64 0), (.slice none 0 0), (.string ⟨#[]⟩), (.int .i64 0)])) := by kernel_rfl
theorem zc46 : (Tryz.prog.info? 46).map (fun i => i.zero.map Value.cells) = some (some #[(.bool false), (.slice none 0 0), (.string ⟨#[]⟩), (.int .i64 0), (.slice none 0 0), (.string ⟨#[]⟩), (.int .i64 0)]) := by kernel_rfl
theorem eo46 : elemOK Tryz.prog 46 7 104 = true := by kernel_rfl
theorem fi46_0 : fieldInfo Tryz.prog 46 0 = some (0, 1) := by kernel_rfl
theorem fp46_0 : fieldPart Tryz.prog 46 0 = some (false, 0, 1) := by kernel_rfl
theorem fi46_1 : fieldInfo Tryz.prog 46 1 = some (1, 1) := by kernel_rfl
theorem fp46_1 : fieldPart Tryz.prog 46 1 = some (false, 1, 1) := by kernel_rfl
theorem fi46_2 : fieldInfo Tryz.prog 46 2 = some (2, 3) := by kernel_rfl
theorem fp46_2 : fieldPart Tryz.prog 46 2 = some (true, 2, 3) := by kernel_rfl
theorem fi46_3 : fieldInfo Tryz.prog 46 3 = some (5, 1) := by kernel_rfl
theorem fp46_3 : fieldPart Tryz.prog 46 3 = some (false, 5, 1) := by kernel_rfl
theorem fi46_4 : fieldInfo Tryz.prog 46 4 = some (6, 1) := by kernel_rfl
theorem fp46_4 : fieldPart Tryz.prog 46 4 = some (false, 6, 1) := by kernel_rfl
theorem pl46 : placesOf Tryz.prog 46 = some [(0, 1), (1, 1), (2, 3), (5, 1), (6, 1)] := by kernel_rfl
theorem sz47 : (Tryz.prog.info? 47).map (·.size) = some 1 := by kernel_rfl
theorem zr47 : (Tryz.prog.info? 47).map (·.zero) = some (some .nilFunc) := by kernel_rfl
theorem zc47 : (Tryz.prog.info? 47).map (fun i => i.zero.map Value.cells) = some (some #[.nilFunc]) := by kernel_rfl
theorem eo47 : elemOK Tryz.prog 47 1 8 = true := by kernel_rfl
theorem sz48 : (Tryz.prog.info? 48).map (·.size) = some 1 := by kernel_rfl
theorem zr48 : (Tryz.prog.info? 48).map (·.zero) = some (some .nilFunc) := by kernel_rfl
theorem zc48 : (Tryz.prog.info? 48).map (fun i => i.zero.map Value.cells) = some (some #[.nilFunc]) := by kernel_rfl
theorem eo48 : elemOK Tryz.prog 48 1 8 = true := by kernel_rfl
theorem sz49 : (Tryz.prog.info? 49).map (·.size) = some 1 := by kernel_rfl
theorem zr49 : (Tryz.prog.info? 49).map (·.zero) = some (some .nilFunc) := by kernel_rfl
theorem zc49 : (Tryz.prog.info? 49).map (fun i => i.zero.map Value.cells) = some (some #[.nilFunc]) := by kernel_rfl
theorem eo49 : elemOK Tryz.prog 49 1 8 = true := by kernel_rfl
theorem sz50 : (Tryz.prog.info? 50).map (·.size) = some 1 := by kernel_rfl
theorem zr50 : (Tryz.prog.info? 50).map (·.zero) = some (some .nilFunc) := by kernel_rfl
theorem zc50 : (Tryz.prog.info? 50).map (fun i => i.zero.map Value.cells) = some (some #[.nilFunc]) := by kernel_rfl
theorem eo50 : elemOK Tryz.prog 50 1 8 = true := by kernel_rfl
theorem sz51 : (Tryz.prog.info? 51).map (·.size) = some 1 := by kernel_rfl
theorem zr51 : (Tryz.prog.info? 51).map (·.zero) = some (some .nilFunc) := by kernel_rfl
theorem zc51 : (Tryz.prog.info? 51).map (fun i => i.zero.map Value.cells) = some (some #[.nilFunc]) := by kernel_rfl
theorem eo51 : elemOK Tryz.prog 51 1 8 = true := by kernel_rfl
theorem sz52 : (Tryz.prog.info? 52).map (·.size) = some 1 := by kernel_rfl
theorem zr52 : (Tryz.prog.info? 52).map (·.zero) = some (some .nilFunc) := by kernel_rfl
theorem zc52 : (Tryz.prog.info? 52).map (fun i => i.zero.map Value.cells) = some (some #[.nilFunc]) := by kernel_rfl
theorem eo52 : elemOK Tryz.prog 52 1 8 = true := by kernel_rfl
theorem sz53 : (Tryz.prog.info? 53).map (·.size) = some 1 := by kernel_rfl
theorem zr53 : (Tryz.prog.info? 53).map (·.zero) = some (some (.int .u32 0)) := by kernel_rfl
theorem zc53 : (Tryz.prog.info? 53).map (fun i => i.zero.map Value.cells) = some (some #[(.int .u32 0)]) := by kernel_rfl
theorem eo53 : elemOK Tryz.prog 53 1 4 = true := by kernel_rfl
theorem sz54 : (Tryz.prog.info? 54).map (·.size) = some 2 := by kernel_rfl
theorem zr54 : (Tryz.prog.info? 54).map (·.zero) = some (some (.agg #[(.int .u32 0), (.int .i64 0)])) := by kernel_rfl
theorem zc54 : (Tryz.prog.info? 54).map (fun i => i.zero.map Value.cells) = some (some #[(.int .u32 0), (.int .i64 0)]) := by kernel_rfl
theorem eo54 : elemOK Tryz.prog 54 2 16 = true := by kernel_rfl
theorem fi54_0 : fieldInfo Tryz.prog 54 0 = some (0, 1) := by kernel_rfl
theorem fp54_0 : fieldPart Tryz.prog 54 0 = some (false, 0, 1) := by kernel_rfl
theorem fi54_1 : fieldInfo Tryz.prog 54 1 = some (1, 1) := by kernel_rfl
theorem fp54_1 : fieldPart Tryz.prog 54 1 = some (false, 1, 1) := by kernel_rfl
theorem pl54 : placesOf Tryz.prog 54 = some [(0, 1), (1, 1)] := by kernel_rfl
theorem sz55 : (Tryz.prog.info? 55).map (·.size) = some 2 := by kernel_rfl
theorem zr55 : (Tryz.prog.info? 55).map (·.zero) = some (some (.agg #[(.int .u32 0), (.int .i64 0)])) := by kernel_rfl
theorem zc55 : (Tryz.prog.info? 55).map (fun i => i.zero.map Value.cells) = some (some #[(.int .u32 0), (.int .i64 0)]) := by kernel_rfl
theorem eo55 : elemOK Tryz.prog 55 2 16 = true := by kernel_rfl
theorem fi55_0 : fieldInfo Tryz.prog 55 0 = some (0, 1) := by kernel_rfl
theorem fp55_0 : fieldPart Tryz.prog 55 0 = some (false, 0, 1) := by kernel_rfl
theorem fi55_1 : fieldInfo Tryz.prog 55 1 = some (1, 1) := by kernel_rfl
theorem fp55_1 : fieldPart Tryz.prog 55 1 = some (false, 1, 1) := by kernel_rfl
theorem pl55 : placesOf Tryz.prog 55 = some [(0, 1), (1, 1)] := by kernel_rfl
theorem sz56 : (Tryz.prog.info? 56).map (·.size) = some 5 := by kernel_rfl
theorem zr56 : (Tryz.prog.info? 56).map (·.zero) = some (some (.agg #[(.int .i64 0), (.string ⟨#[]⟩), (.int .i64 0), (.int .u32 0), (.int .i64 0)])) := by kernel_rfl
theorem zc56 : (Tryz.prog.info? 56).map (fun i => i.zero.map Value.cells) = some (some #[(.int .i64 0), (.string ⟨#[]⟩), (.int .i64 0), (.int .u32 0), (.int .i64 0)]) := by kernel_rfl
theorem eo56 : elemOK Tryz.prog 56 5 48 = true := by kernel_rfl
theorem fi56_0 : fieldInfo Tryz.prog 56 0 = some (0, 1) := by kernel_rfl
theorem fp56_0 : fieldPart Tryz.prog 56 0 = some (false, 0, 1) := by kernel_rfl
theorem fi56_1 : fieldInfo Tryz.prog 56 1 = some (1, 1) := by kernel_rfl
theorem fp56_1 : fieldPart Tryz.prog 56 1 = some (false, 1, 1) := by kernel_rfl
theorem fi56_2 : fieldInfo Tryz.prog 56 2 = some (2, 1) := by kernel_rfl
theorem fp56_2 : fieldPart Tryz.prog 56 2 = some (false, 2, 1) := by kernel_rfl
theorem fi56_3 : fieldInfo Tryz.prog 56 3 = some (3, 2) := by kernel_rfl
theorem fp56_3 : fieldPart Tryz.prog 56 3 = some (true, 3, 2) := by kernel_rfl
theorem pl56 : placesOf Tryz.prog 56 = some [(0, 1), (1, 1), (2, 1), (3, 2)] := by kernel_rfl
theorem sz57 : (Tryz.prog.info? 57).map (·.size) = some 5 := by kernel_rfl
theorem zr57 : (Tryz.prog.info? 57).map (·.zero) = some (some (.agg #[(.int .i64 0), (.string ⟨#[]⟩), (.int .i64 0), (.int .u32 0), (.int .i64 0)])) := by kernel_rfl
theorem zc57 : (Tryz.prog.info? 57).map (fun i => i.zero.map Value.cells) = some (some #[(.int .i64 0), (.string ⟨#[]⟩), (.int .i64 0), (.int .u32 0), (.int .i64 0)]) := by kernel_rfl
theorem eo57 : elemOK Tryz.prog 57 5 48 = true := by kernel_rfl
theorem fi57_0 : fieldInfo Tryz.prog 57 0 = some (0, 1) := by kernel_rfl
theorem fp57_0 : fieldPart Tryz.prog 57 0 = some (false, 0, 1) := by kernel_rfl
theorem fi57_1 : fieldInfo Tryz.prog 57 1 = some (1, 1) := by kernel_rfl
theorem fp57_1 : fieldPart Tryz.prog 57 1 = some (false, 1, 1) := by kernel_rfl
theorem fi57_2 : fieldInfo Tryz.prog 57 2 = some (2, 1) := by kernel_rfl
theorem fp57_2 : fieldPart Tryz.prog 57 2 = some (false, 2, 1) := by kernel_rfl
theorem fi57_3 : fieldInfo Tryz.prog 57 3 = some (3, 2) := by kernel_rfl
theorem fp57_3 : fieldPart Tryz.prog 57 3 = some (true, 3, 2) := by kernel_rfl
theorem pl57 : placesOf Tryz.prog 57 = some [(0, 1), (1, 1), (2, 1), (3, 2)] := by kernel_rfl
theorem sz58 : (Tryz.prog.info? 58).map (·.size) = some 1 := by kernel_rfl
theorem zr58 : (Tryz.prog.info? 58).map (·.zero) = some (some .nilFunc) := by kernel_rfl
theorem zc58 : (Tryz.prog.info? 58).map (fun i => i.zero.map Value.cells) = some (some #[.nilFunc]) := by kernel_rfl
theorem eo58 : elemOK Tryz.prog 58 1 8 = true := by kernel_rfl
theorem sz59 : (Tryz.prog.info? 59).map (·.size) = some 1 := by kernel_rfl
theorem zr59 : (Tryz.prog.info? 59).map (·.zero) = some (some .nilFunc) := by kernel_rfl
theorem zc59 : (Tryz.prog.info? 59).map (fun i => i.zero.map Value.cells) = some (some #[.nilFunc]) := by kernel_rfl
theorem eo59 : elemOK Tryz.prog 59 1 8 = true := by kernel_rfl
theorem sz60 : (Tryz.prog.info? 60).map (·.size) = some 1 := by kernel_rfl
theorem zr60 : (Tryz.prog.info? 60).map (·.zero) = some (some .nilFunc) := by kernel_rfl
theorem zc60 : (Tryz.prog.info? 60).map (fun i => i.zero.map Value.cells) = some (some #[.nilFunc]) := by kernel_rfl
theorem eo60 : elemOK Tryz.prog 60 1 8 = true := by kernel_rfl
theorem sz61 : (Tryz.prog.info? 61).map (·.size) = some 1 := by kernel_rfl
theorem zr61 : (Tryz.prog.info? 61).map (·.zero) = some (some .nilFunc) := by kernel_rfl
theorem zc61 : (Tryz.prog.info? 61).map (fun i => i.zero.map Value.cells) = some (some #[.nilFunc]) := by kernel_rfl
theorem eo61 : elemOK Tryz.prog 61 1 8 = true := by kernel_rfl
theorem sz62 : (Tryz.prog.info? 62).map (·.size) = some 1 := by kernel_rfl
theorem zr62 : (Tryz.prog.info? 62).map (·.zero) = some (some .nilFunc) := by kernel_rfl
theorem zc62 : (Tryz.prog.info? 62).map (fun i => i.zero.map Value.cells) = some (some #[.nilFunc]) := by kernel_rfl
theorem eo62 : elemOK Tryz.prog 62 1 8 = true := by kernel_rfl
theorem sz63 : (Tryz.prog.info? 63).map (·.size) = some 1 := by kernel_rfl
theorem zr63 : (Tryz.prog.info? 63).map (·.zero) = some (some .nilFunc) := by kernel_rfl
theorem zc63 : (Tryz.prog.info? 63).map (fun i => i.zero.map Value.cells) = some (some #[.nilFunc]) := by kernel_rfl
theorem eo63 : elemOK Tryz.prog 63 1 8 = true := by kernel_rfl
theorem sz64 : (Tryz.prog.info? 64).map (·.size) = some 1 := by kernel_rfl
theorem zr64 : (Tryz.prog.info? 64).map (·.zero) = some (some (.map none)) := by kernel_rfl
theorem zc64 : (Tryz.prog.info? 64).map (fun i => i.zero.map Value.cells) = some (some #[(.map none)]) := by kernel_rfl
theorem eo64 : elemOK Tryz.prog 64 1 8 = true := by kernel_rfl
theorem sz65 : (Tryz.prog.info? 65).map (·.size) = some 1 := by kernel_rfl
theorem zr65 : (Tryz.prog.info? 65).map (·.zero) = some (some .nilFunc) := by kernel_rfl
theorem zc65 : (Tryz.prog.info? 65).map (fun i => i.zero.map Value.cells) = some (some #[.nilFunc]) := by kernel_rfl
theorem eo65 : elemOK Tryz.prog 65 1 8 = true := by kernel_rfl
theorem sz66 : (Tryz.prog.info? 66).map (·.size) = some 1 := by kernel_rfl
theorem zr66 : (Tryz.prog.info? 66).map (·.zero) = some (some .nilFunc) := by kernel_rfl
theorem zc66 : (Tryz.prog.info? 66).map (fun i => i.zero.map Value.cells) = some (some #[.nilFunc]) := by kernel_rfl
theorem eo66 : elemOK Tryz.prog 66 1 8 = true := by kernel_rfl
theorem sz67 : (Tryz.prog.info? 67).map (·.size) = some 1 := by kernel_rfl
theorem zr67 : (Tryz.prog.info? 67).map (·.zero) = some (some .nilFunc) := by kernel_rfl
theorem zc67 : (Tryz.prog.info? 67).map (fun i => i.zero.map Value.cells) = some (some #[.nilFunc]) := by kernel_rfl
theorem eo67 : elemOK Tryz.prog 67 1 8 = true := by kernel_rfl
theorem sz68 : (Tryz.prog.info? 68).map (·.size) = some 1 := by kernel_rfl
theorem zr68 : (Tryz.prog.info? 68).map (·.zero) = some (some (.slice none 0 0)) := by kernel_rfl
theorem zc68 : (Tryz.prog.info? 68).map (fun i => i.zero.map Value.cells) = some (some #[(.slice none 0 0)]) := by kernel_rfl
theorem eo68 : elemOK Tryz.prog 68 1 24 = true := by kernel_rfl
theorem sz69 : (Tryz.prog.info? 69).map (·.size) = some 1 := by kernel_rfl
theorem sz70 : (Tryz.prog.info? 70).map (·.size) = some 1 := by kernel_rfl
theorem zr70 : (Tryz.prog.info? 70).map (·.zero) = some (some .nilFunc) := by kernel_rfl
theorem zc70 : (Tryz.prog.info? 70).map (fun i => i.zero.map Value.cells) = some (some #[.nilFunc]) := by kernel_rfl
theorem eo70 : elemOK Tryz.prog 70 1 8 = true := by kernel_rfl
theorem sz71 : (Tryz.prog.info? 71).map (·.size) = some 2 := by kernel_rfl
theorem zr71 : (Tryz.prog.info? 71).map (·.zero) = some (some (.agg #[(.string ⟨#[]⟩), (.string ⟨#[]⟩)])) := by kernel_rfl
theorem zc71 : (Tryz.prog.info? 71).map (fun i => i.zero.map Value.cells) = some (some #[(.string ⟨#[]⟩), (.string ⟨#[]⟩)]) := by kernel_rfl
theorem eo71 : elemOK Tryz.prog 71 2 32 = true := by kernel_rfl
theorem fi71_0 : fieldInfo Tryz.prog 71 0 = some (0, 1) := by kernel_rfl
theorem fp71_0 : fieldPart Tryz.prog 71 0 = some (false, 0, 1) := by kernel_rfl
theorem fi71_1 : fieldInfo Tryz.prog 71 1 = some (1, 1) := by kernel_rfl
theorem fp71_1 : fieldPart Tryz.prog 71 1 = some (false, 1, 1) := by kernel_rfl
theorem pl71 : placesOf Tryz.prog 71 = some [(0, 1), (1, 1)] := by kernel_rfl
theorem sz72 : (Tryz.prog.info? 72).map (·.size) = some 2 := by kernel_rfl
theorem zr72 : (Tryz.prog.info? 72).map (·.zero) = some (some (.agg #[(.string ⟨#[]⟩), (.string ⟨#[]⟩)])) := by kernel_rfl
theorem zc72 : (Tryz.prog.info? 72).map (fun i => i.zero.map Value.cells) = some (some #[(.string ⟨#[]⟩), (.string ⟨#[]⟩)]) := by kernel_rfl
theorem eo72 : elemOK Tryz.prog 72 2 32 = true := by kernel_rfl
theorem fi72_0 : fieldInfo Tryz.prog 72 0 = some (0, 1) := by kernel_rfl
theorem fp72_0 : fieldPart Tryz.prog 72 0 = some (false, 0, 1) := by kernel_rfl
theorem fi72_1 : fieldInfo Tryz.prog 72 1 = some (1, 1) := by kernel_rfl
theorem fp72_1 : fieldPart Tryz.prog 72 1 = some (false, 1, 1) := by kernel_rfl
theorem pl72 : placesOf Tryz.prog 72 = some [(0, 1), (1, 1)] := by kernel_rfl
theorem sz73 : (Tryz.prog.info? 73).map (·.size) = some 1 := by kernel_rfl
theorem sz74 : (Tryz.prog.info? 74).map (·.size) = some 1 := by kernel_rfl
theorem zr74 : (Tryz.prog.info? 74).map (·.zero) = some (some .nilFunc) := by kernel_rfl
theorem zc74 : (Tryz.prog.info? 74).map (fun i => i.zero.map Value.cells) = some (some #[.nilFunc]) := by kernel_rfl
theorem eo74 : elemOK Tryz.prog 74 1 8 = true := by kernel_rfl
theorem sz75 : (Tryz.prog.info? 75).map (·.size) = some 1 := by kernel_rfl
theorem zr75 : (Tryz.prog.info? 75).map (·.zero) = some (some .nilFunc) := by kernel_rfl
theorem zc75 : (Tryz.prog.info? 75).map (fun i => i.zero.map Value.cells) = some (some #[.nilFunc]) := by kernel_rfl
theorem eo75 : elemOK Tryz.prog 75 1 8 = true := by kernel_rfl
theorem sz76 : (Tryz.prog.info? 76).map (·.size) = some 1 := by kernel_rfl
theorem zr76 : (Tryz.prog.info? 76).map (·.zero) = some (some .nilFunc) := by kernel_rfl
theorem zc76 : (Tryz.prog.info? 76).map (fun i => i.zero.map Value.cells) = some (some #[.nilFunc]) := by kernel_rfl
theorem eo76 : elemOK Tryz.prog 76 1 8 = true := by kernel_rfl
theorem sz77 : (Tryz.prog.info? 77).map (·.size) = some 1 := by kernel_rfl
theorem zr77 : (Tryz.prog.info? 77).map (·.zero) = some (some .nilFunc) := by kernel_rfl
theorem zc77 : (Tryz.prog.info? 77).map (fun i => i.zero.map Value.cells) = some (some #[.nilFunc]) := by kernel_rfl
theorem eo77 : elemOK Tryz.prog 77 1 8 = true := by kernel_rfl
theorem sz78 : (Tryz.prog.info? 78).map (·.size) = some 1 := by kernel_rfl
theorem sz79 : (Tryz.prog.info? 79).map (·.size) = some 1 := by kernel_rfl
theorem zr79 : (Tryz.prog.info? 79).map (·.zero) = some (some .nilFunc) := by kernel_rfl
theorem zc79 : (Tryz.prog.info? 79).map (fun i => i.zero.map Value.cells) = some (some #[.nilFunc]) := by kernel_rfl
theorem eo79 : elemOK Tryz.prog 79 1 8 = true := by kernel_rfl
theorem sz80 : (Tryz.prog.info? 80).map (·.size) = some 1 := by kernel_rfl
theorem zr80 : (Tryz.prog.info? 80).map (·.zero) = some (some .nilFunc) := by kernel_rfl
theorem zc80 : (Tryz.prog.info? 80).map (fun i => i.zero.map Value.cells) = some (some #[.nilFunc]) := by kernel_rfl
theorem eo80 : elemOK Tryz.prog 80 1 8 = true := by kernel_rfl
theorem sz81 : (Tryz.prog.info? 81).map (·.size) = some 1 := by kernel_rfl
theorem zr81 : (Tryz.prog.info? 81).map (·.zero) = some (some .nilFunc) := by kernel_rfl
theorem zc81 : (Tryz.prog.info? 81).map (fun i => i.zero.map Value.cells) = some (some #[.nilFunc]) := by kernel_rfl
theorem eo81 : elemOK Tryz.prog 81 1 8 = true := by kernel_rfl
theorem sz82 : (Tryz.prog.info? 82).map (·.size) = some 1 := by kernel_rfl
theorem zr82 : (Tryz.prog.info? 82).map (·.zero) = some (some .nilFunc) := by kernel_rfl
theorem zc82 : (Tryz.prog.info? 82).map (fun i => i.zero.map Value.cells) = some (some #[.nilFunc]) := by kernel_rfl
theorem eo82 : elemOK Tryz.prog 82 1 8 = true := by kernel_rfl
theorem sz83 : (Tryz.prog.info? 83).map (·.size) = some 1 := by kernel_rfl
theorem zr83 : (Tryz.prog.info? 83).map (·.zero) = some (some (.slice none 0 0)) := by kernel_rfl
theorem zc83 : (Tryz.prog.info? 83).map (fun i => i.zero.map Value.cells) = some (some #[(.slice none 0 0)]) := by kernel_rfl
theorem eo83 : elemOK Tryz.prog 83 1 24 = true := by kernel_rfl
theorem sz84 : (Tryz.prog.info? 84).map (·.size) = some 1 := by kernel_rfl
theorem sz85 : (Tryz.prog.info? 85).map (·.size) = some 1 := by kernel_rfl
theorem zr85 : (Tryz.prog.info? 85).map (·.zero) = some (some .nilFunc) := by kernel_rfl
theorem zc85 : (Tryz.prog.info? 85).map (fun i => i.zero.map Value.cells) = some (some #[.nilFunc]) := by kernel_rfl
theorem eo85 : elemOK Tryz.prog 85 1 8 = true := by kernel_rfl
theorem sz86 : (Tryz.prog.info? 86).map (·.size) = some 1 := by kernel_rfl
theorem zr86 : (Tryz.prog.info? 86).map (·.zero) = some (some .nilFunc) := by kernel_rfl
theorem zc86 : (Tryz.prog.info? 86).map (fun i => i.zero.map Value.cells) = some (some #[.nilFunc]) := by kernel_rfl
theorem eo86 : elemOK Tryz.prog 86 1 8 = true := by kernel_rfl
theorem sz87 : (Tryz.prog.info? 87).map (·.size) = some 1 := by kernel_rfl
theorem zr87 : (Tryz.prog.info? 87).map (·.zero) = some (some (.slice none 0 0)) := by kernel_rfl
theorem zc87 : (Tryz.prog.info? 87).map (fun i => i.zero.map Value.cells) = some (some #[(.slice none 0 0)]) := by kernel_rfl
theorem eo87 : elemOK Tryz.prog 87 1 24 = true := by kernel_rfl
theorem sz88 : (Tryz.prog.info? 88).map (·.size) = some 1 := by kernel_rfl
theorem zr88 : (Tryz.prog.info? 88).map (·.zero) = some (some .nilFunc) := by kernel_rfl
theorem zc88 : (Tryz.prog.info? 88).map (fun i => i.zero.map Value.cells) = some (some #[.nilFunc]) := by kernel_rfl
theorem eo88 : elemOK Tryz.prog 88 1 8 = true := by kernel_rfl
theorem sz89 : (Tryz.prog.info? 89).map (·.size) = some 1 := by kernel_rfl
theorem sz90 : (Tryz.prog.info? 90).map (·.size) = some 1 := by kernel_rfl
theorem zr90 : (Tryz.prog.info? 90).map (·.zero) = some (some .nilFunc) := by kernel_rfl
theorem zc90 : (Tryz.prog.info? 90).map (fun i => i.zero.map Value.cells) = some (some #[.nilFunc]) := by kernel_rfl
theorem eo90 : elemOK Tryz.prog 90 1 8 = true := by kernel_rfl
theorem sz91 : (Tryz.prog.info? 91).map (·.size) = some 1 := by kernel_rfl
theorem zr91 : (Tryz.prog.info? 91).map (·.zero) = some (some .nilFunc) := by kernel_rfl
theorem zc91 : (Tryz.prog.info? 91).map (fun i => i.zero.map Value.cells) = some (some #[.nilFunc]) := by kernel_rfl
theorem eo91 : elemOK Tryz.prog 91 1 8 = true := by kernel_rfl
theorem sz92 : (Tryz.prog.info? 92).map (·.size) = some 11 := by kernel_rfl
theorem zr92 : (Tryz.prog.info? 92).map (·.zero) = some (some (.agg #[(.string ⟨#[]⟩), (.string ⟨#[]⟩), (.string ⟨#[]⟩), (.string ⟨#[]⟩), (.string ⟨#[]⟩), (.string ⟨#[]⟩), (.string ⟨#[]⟩), (.string ⟨#[]⟩), (.string ⟨#[]⟩), (.string ⟨#[]⟩), (.string ⟨#[]⟩)])) := by kernel_rfl
theorem zc92 : (Tryz.prog.info? 92).map (fun i => i.zero.map Value.cells) = some (some #[(.string ⟨#[]⟩), (.string ⟨#[]⟩), (.string ⟨#[]⟩), (.string ⟨#[]⟩), (.string ⟨#[]⟩), (.string ⟨#[]⟩), (.string ⟨#[]⟩), (.string ⟨#[]⟩), (.string ⟨#[]⟩), (.string ⟨#[]⟩), (.string ⟨#[]⟩)]) := by kernel_rfl
theorem eo92 : elemOK Tryz.prog 92 11 176 = true := by kernel_rfl
theorem sz93 : (Tryz.prog.info? 93).map (·.size) = some 1 := by kernel_rfl
theorem zr93 : (Tryz.prog.info? 93).map (·.zero) = some (some .nilFunc) := by kernel_rfl
theorem zc93 : (Tryz.prog.info? 93).map (fun i => i.zero.map Value.cells) = some (some #[.nilFunc]) := by kernel_rfl
theorem eo93 : elemOK Tryz.prog 93 1 8 = true := by kernel_rfl
theorem sz94 : (Tryz.prog.info? 94).map (·.size) = some 1 := by kernel_rfl
theorem zr94 : (Tryz.prog.info? 94).map (·.zero) = some (some .nilFunc) := by kernel_rfl
theorem zc94 : (Tryz.prog.info? 94).map (fun i => i.zero.map Value.cells) = some (some #[.nilFunc]) := by kernel_rfl
theorem eo94 : elemOK Tryz.prog 94 1 8 = true := by kernel_rfl
theorem sz95 : (Tryz.prog.info? 95).map (·.size) = some 1 := by kernel_rfl
theorem zr95 : (Tryz.prog.info? 95).map (·.zero) = some (some .nilFunc) := by kernel_rfl
theorem zc95 : (Tryz.prog.info? 95).map (fun i => i.zero.map Value.cells) = some (some #[.nilFunc]) := by kernel_rfl
theorem eo95 : elemOK Tryz.prog 95 1 8 = true := by kernel_rfl
theorem sz96 : (Tryz.prog.info? 96).map (·.size) = some 1 := by kernel_rfl
theorem sz97 : (Tryz.prog.info? 97).map (·.size) = some 1 := by kernel_rfl
theorem zr97 : (Tryz.prog.info? 97).map (·.zero) = some (some .nilFunc) := by kernel_rfl
theorem zc97 : (Tryz.prog.info? 97).map (fun i => i.zero.map Value.cells) = some (some #[.nilFunc]) := by kernel_rfl
theorem eo97 : elemOK Tryz.prog 97 1 8 = true := by kernel_rfl
theorem sz98 : (Tryz.prog.info? 98).map (·.size) = some 1 := by kernel_rfl
theorem sz99 : (Tryz.prog.info? 99).map (·.size) = some 1 := by kernel_rfl
theorem zr99 : (Tryz.prog.info? 99).map (·.zero) = some (some .nilFunc) := by kernel_rfl
theorem zc99 : (Tryz.prog.info? 99).map (fun i => i.zero.map Value.cells) = some (some #[.nilFunc]) := by kernel_rfl
theorem eo99 : elemOK Tryz.prog 99 1 8 = true := by kernel_rfl
theorem sz100 : (Tryz.prog.info? 100).map (·.size) = some 1 := by kernel_rfl
theorem zr100 : (Tryz.prog.info? 100).map (·.zero) = some (some .nilFunc) := by kernel_rfl
theorem zc100 : (Tryz.prog.info? 100).map (fun i => i.zero.map Value.cells) = some (some #[.nilFunc]) := by kernel_rfl
theorem eo100 : elemOK Tryz.prog 100 1 8 = true := by kernel_rfl
theorem sz101 : (Tryz.prog.info? 101).map (·.size) = some 1 := by kernel_rfl
theorem zr101 : (Tryz.prog.info? 101).map (·.zero) = some (some .nilFunc) := by kernel_rfl
theorem zc101 : (Tryz.prog.info? 101).map (fun i => i.zero.map Value.cells) = some (some #[.nilFunc]) := by kernel_rfl
theorem eo101 : elemOK Tryz.prog 101 1 8 = true := by kernel_rfl
theorem sz102 : (Tryz.prog.info? 102).map (·.size) = some 1 := by kernel_rfl
theorem zr102 : (Tryz.prog.info? 102).map (·.zero) = some (some (.int .u64 0)) := by kernel_rfl
theorem zc102 : (Tryz.prog.info? 102).map (fun i => i.zero.map Value.cells) = some (some #[(.int .u64 0)]) := by kernel_rfl
theorem eo102 : elemOK Tryz.prog 102 1 8 = true := by kernel_rfl
theorem sz103 : (Tryz.prog.info? 103).map (·.size) = some 1 := by kernel_rfl
theorem sz104 : (Tryz.prog.info? 104).map (·.size) = some 1 := by kernel_rfl
theorem zr104 : (Tryz.prog.info? 104).map (·.zero) = some (some .nilFunc) := by kernel_rfl
theorem zc104 : (Tryz.prog.info? 104).map (fun i => i.zero.map Value.cells) = some (some #[.nilFunc]) := by kernel_rfl
theorem eo104 : elemOK Tryz.prog 104 1 8 = true := by kernel_rfl
theorem sz105 : (Tryz.prog.info? 105).map (·.size) = some 1 := by kernel_rfl
theorem zr105 : (Tryz.prog.info? 105).map (·.zero) = some (some .nilFunc) := by kernel_rfl
theorem zc105 : (Tryz.prog.info? 105).map (fun i => i.zero.map Value.cells) = some (some #[.nilFunc]) := by kernel_rfl
theorem eo105 : elemOK Tryz.prog 105 1 8 = true := by kernel_rfl
theorem sz106 : (Tryz.prog.info? 106).map (·.size) = some 1 := by kernel_rfl
theorem zr106 : (Tryz.prog.info? 106).map (·.zero) = some (some (.pointer none)) := by kernel_rfl
theorem zc106 : (Tryz.prog.info? 106).map (fun i => i.zero.map Value.cells) = some (some #[(.pointer none)]) := by kernel_rfl
theorem eo106 : elemOK Tryz.prog 106 1 8 = true := by kernel_rfl
theorem sz107 : (Tryz.prog.info? 107).map (·.size) = some 2 := by kernel_rfl
theorem zr107 : (Tryz.prog.info? 107).map (·.zero) = some (some (.agg #[(.pointer none), (.slice none 0 0)])) := by kernel_rfl
theorem zc107 : (Tryz.prog.info? 107).map (fun i => i.zero.map Value.cells) = some (some #[(.pointer none), (.slice none 0 0)]) := by kernel_rfl
theorem eo107 : elemOK Tryz.prog 107 2 32 = true := by kernel_rfl
theorem fi107_0 : fieldInfo Tryz.prog 107 0 = some (0, 1) := by kernel_rfl
theorem fp107_0 : fieldPart Tryz.prog 107 0 = some (false, 0, 1) := by kernel_rfl
theorem fi107_1 : fieldInfo Tryz.prog 107 1 = some (1, 1) := by kernel_rfl
theorem fp107_1 : fieldPart Tryz.prog 107 1 = some (false, 1, 1) := by kernel_rfl
theorem pl107 : placesOf Tryz.prog 107 = some [(0, 1), (1, 1)] := by kernel_rfl
theorem sz108 : (Tryz.prog.info? 108).map (·.size) = some 2 := by kernel_rfl
theorem zr108 : (Tryz.prog.info? 108).map (·.zero) = some (some (.agg #[(.pointer none), (.slice none 0 0)])) := by kernel_rfl
theorem zc108 : (Tryz.prog.info? 108).map (fun i => i.zero.map Value.cells) = some (some #[(.pointer none), (.slice none 0 0)]) := by kernel_rfl
theorem eo108 : elemOK Tryz.prog 108 2 32 = true := by kernel_rfl
theorem fi108_0 : fieldInfo Tryz.prog 108 0 = some (0, 1) := by kernel_rfl
theorem fp108_0 : fieldPart Tryz.prog 108 0 = some (false, 0, 1) := by kernel_rfl
theorem fi108_1 : fieldInfo Tryz.prog 108 1 = some (1, 1) := by kernel_rfl
theorem fp108_1 : fieldPart Tryz.prog 108 1 = some (false, 1, 1) := by kernel_rfl
theorem pl108 : placesOf Tryz.prog 108 = some [(0, 1), (1, 1)] := by kernel_rfl
theorem sz109 : (Tryz.prog.info? 109).map (·.size) = some 1 := by kernel_rfl
theorem zr109 : (Tryz.prog.info? 109).map (·.zero) = some (some .nilFunc) := by kernel_rfl
theorem zc109 : (Tryz.prog.info? 109).map (fun i => i.zero.map Value.cells) = some (some #[.nilFunc]) := by kernel_rfl
theorem eo109 : elemOK Tryz.prog 109 1 8 = true := by kernel_rfl
theorem sz110 : (Tryz.prog.info? 110).map (·.size) = some 1 := by kernel_rfl
theorem zr110 : (Tryz.prog.info? 110).map (·.zero) = some (some .nilIface) := by kernel_rfl
theorem zc110 : (Tryz.prog.info? 110).map (fun i => i.zero.map Value.cells) = some (some #[.nilIface]) := by kernel_rfl
theorem eo110 : elemOK Tryz.prog 110 1 16 = true := by kernel_rfl
theorem sz111 : (Tryz.prog.info? 111).map (·.size) = some 1 := by kernel_rfl
theorem zr111 : (Tryz.prog.info? 111).map (·.zero) = some (some .nilIface) := by kernel_rfl
theorem zc111 : (Tryz.prog.info? 111).map (fun i => i.zero.map Value.cells) = some (some #[.nilIface]) := by kernel_rfl
theorem eo111 : elemOK Tryz.prog 111 1 16 = true := by kernel_rfl
theorem sz112 : (Tryz.prog.info? 112).map (·.size) = some 1 := by kernel_rfl
theorem sz113 : (Tryz.prog.info? 113).map (·.size) = some 1 := by kernel_rfl
theorem zr113 : (Tryz.prog.info? 113).map (·.zero) = some (some .nilFunc) := by kernel_rfl
theorem zc113 : (Tryz.prog.info? 113).map (fun i => i.zero.map Value.cells) = some (some #[.nilFunc]) := by kernel_rfl
theorem eo113 : elemOK Tryz.prog 113 1 8 = true := by kernel_rfl
theorem sz114 : (Tryz.prog.info? 114).map (·.size) = some 1 := by kernel_rfl
theorem zr114 : (Tryz.prog.info? 114).map (·.zero) = some (some .nilFunc) := by kernel_rfl
theorem zc114 : (Tryz.prog.info? 114).map (fun i => i.zero.map Value.cells) = some (some #[.nilFunc]) := by kernel_rfl
theorem eo114 : elemOK Tryz.prog 114 1 8 = true := by kernel_rfl
theorem sz115 : (Tryz.prog.info? 115).map (·.size) = some 1 := by kernel_rfl
theorem sz116 : (Tryz.prog.info? 116).map (·.size) = some 1 := by kernel_rfl
theorem zr116 : (Tryz.prog.info? 116).map (·.zero) = some (some .nilFunc) := by kernel_rfl
theorem zc116 : (Tryz.prog.info? 116).map (fun i => i.zero.map Value.cells) = some (some #[.nilFunc]) := by kernel_rfl
theorem eo116 : elemOK Tryz.prog 116 1 8 = true := by kernel_rfl
theorem sz117 : (Tryz.prog.info? 117).map (·.size) = some 1 := by kernel_rfl
theorem zr117 : (Tryz.prog.info? 117).map (·.zero) = some (some .nilFunc) := by kernel_rfl
theorem zc117 : (Tryz.prog.info? 117).map (fun i => i.zero.map Value.cells) = some (some #[.nilFunc]) := by kernel_rfl
theorem eo117 : elemOK Tryz.prog 117 1 8 = true := by kernel_rfl
theorem sz118 : (Tryz.prog.info? 118).map (·.size) = some 1 := by kernel_rfl
theorem zr118 : (Tryz.prog.info? 118).map (·.zero) = some (some .nilFunc) := by kernel_rfl
theorem zc118 : (Tryz.prog.info? 118).map (fun i => i.zero.map Value.cells) = some (some #[.nilFunc]) := by kernel_rfl
theorem eo118 : elemOK Tryz.prog 118 1 8 = true := by kernel_rfl
theorem sz119 : (Tryz.prog.info? 119).map (·.size) = some 1 := by kernel_rfl
theorem zr119 : (Tryz.prog.info? 119).map (·.zero) = some (some .nilFunc) := by kernel_rfl
theorem zc119 : (Tryz.prog.info? 119).map (fun i => i.zero.map Value.cells) = some (some #[.nilFunc]) := by kernel_rfl
theorem eo119 : elemOK Tryz.prog 119 1 8 = true := by kernel_rfl
theorem sz120 : (Tryz.prog.info? 120).map (·.size) = some 1 := by kernel_rfl
theorem zr120 : (Tryz.prog.info? 120).map (·.zero) = some (some .nilFunc) := by kernel_rfl
theorem zc120 : (Tryz.prog.info? 120).map (fun i => i.zero.map Value.cells) = some (some #[.nilFunc]) := by kernel_rfl
theorem eo120 : elemOK Tryz.prog 120 1 8 = true := by kernel_rfl
theorem sz121 : (Tryz.prog.info? 121).map (·.size) = some 1 := by kernel_rfl
theorem zr121 : (Tryz.prog.info? 121).map (·.zero) = some (some .nilFunc) := by kernel_rfl
theorem zc121 : (Tryz.prog.info? 121).map (fun i => i.zero.map Value.cells) = some (some #[.nilFunc]) := by kernel_rfl
theorem eo121 : elemOK Tryz.prog 121 1 8 = true := by kernel_rfl
theorem sz122 : (Tryz.prog.info? 122).map (·.size) = some 1 := by kernel_rfl
theorem zr122 : (Tryz.prog.info? 122).map (·.zero) = some (some .nilFunc) := by kernel_rfl
theorem zc122 : (Tryz.prog.info? 122).map (fun i => i.zero.map Value.cells) = some (some #[.nilFunc]) := by kernel_rfl
theorem eo122 : elemOK Tryz.prog 122 1 8 = true := by kernel_rfl
theorem sz123 : (Tryz.prog.info? 123).map (·.size) = some 1 := by kernel_rfl
theorem zr123 : (Tryz.prog.info? 123).map (·.zero) = some (some .nilFunc) := by kernel_rfl
theorem zc123 : (Tryz.prog.info? 123).map (fun i => i.zero.map Value.cells) = some (some #[.nilFunc]) := by kernel_rfl
theorem eo123 : elemOK Tryz.prog 123 1 8 = true := by kernel_rfl
theorem sz124 : (Tryz.prog.info? 124).map (·.size) = some 1 := by kernel_rfl
theorem sz125 : (Tryz.prog.info? 125).map (·.size) = some 1 := by kernel_rfl
theorem zr125 : (Tryz.prog.info? 125).map (·.zero) = some (some .nilFunc) := by kernel_rfl
theorem zc125 : (Tryz.prog.info? 125).map (fun i => i.zero.map Value.cells) = some (some #[.nilFunc]) := by kernel_rfl
theorem eo125 : elemOK Tryz.prog 125 1 8 = true := by kernel_rfl
theorem sz126 : (Tryz.prog.info? 126).map (·.size) = some 1 := by kernel_rfl
theorem zr126 : (Tryz.prog.info? 126).map (·.zero) = some (some .nilFunc) := by kernel_rfl
theorem zc126 : (Tryz.prog.info? 126).map (fun i => i.zero.map Value.cells) = some (some #[.nilFunc]) := by kernel_rfl
theorem eo126 : elemOK Tryz.prog 126 1 8 = true := by kernel_rfl
theorem sz127 : (Tryz.prog.info? 127).map (·.size) = some 1 := by kernel_rfl
theorem zr127 : (Tryz.prog.info? 127).map (·.zero) = some (some .nilFunc) := by kernel_rfl
theorem zc127 : (Tryz.prog.info? 127).map (fun i => i.zero.map Value.cells) = some (some #[.nilFunc]) := by kernel_rfl
theorem eo127 : elemOK Tryz.prog 127 1 8 = true := by kernel_rfl
theorem sz128 : (Tryz.prog.info? 128).map (·.size) = some 1 := by kernel_rfl
theorem zr128 : (Tryz.prog.info? 128).map (·.zero) = some (some .nilFunc) := by kernel_rfl
theorem zc128 : (Tryz.prog.info? 128).map (fun i => i.zero.map Value.cells) = some (some #[.nilFunc]) := by kernel_rfl
theorem eo128 : elemOK Tryz.prog 128 1 8 = true := by kernel_rfl
theorem sz129 : (Tryz.prog.info? 129).map (·.size) = some 1 := by kernel_rfl
theorem sz130 : (Tryz.prog.info? 130).map (·.size) = some 1 := by kernel_rfl
theorem zr130 : (Tryz.prog.info? 130).map (·.zero) = some (some .nilFunc) := by kernel_rfl
theorem zc130 : (Tryz.prog.info? 130).map (fun i => i.zero.map Value.cells) = some (some #[.nilFunc]) := by kernel_rfl
theorem eo130 : elemOK Tryz.prog 130 1 8 = true := by kernel_rfl
theorem sz131 : (Tryz.prog.info? 131).map (·.size) = some 1 := by kernel_rfl
theorem sz132 : (Tryz.prog.info? 132).map (·.size) = some 1 := by kernel_rfl
theorem zr132 : (Tryz.prog.info? 132).map (·.zero) = some (some .nilFunc) := by kernel_rfl
theorem zc132 : (Tryz.prog.info? 132).map (fun i => i.zero.map Value.cells) = some (some #[.nilFunc]) := by kernel_rfl
theorem eo132 : elemOK Tryz.prog 132 1 8 = true := by kernel_rfl
theorem sz133 : (Tryz.prog.info? 133).map (·.size) = some 1 := by kernel_rfl
theorem zr133 : (Tryz.prog.info? 133).map (·.zero) = some (some (.int .u64 0)) := by kernel_rfl
theorem zc133 : (Tryz.prog.info? 133).map (fun i => i.zero.map Value.cells) = some (some #[(.int .u64 0)]) := by kernel_rfl
theorem eo133 : elemOK Tryz.prog 133 1 8 = true := by kernel_rfl
theorem sz134 : (Tryz.prog.info? 134).map (·.size) = some 1 := by kernel_rfl
theorem sz135 : (Tryz.prog.info? 135).map (·.size) = some 1 := by kernel_rfl
theorem zr135 : (Tryz.prog.info? 135).map (·.zero) = some (some .nilFunc) := by kernel_rfl
theorem zc135 : (Tryz.prog.info? 135).map (fun i => i.zero.map Value.cells) = some (some #[.nilFunc]) := by kernel_rfl
theorem eo135 : elemOK Tryz.prog 135 1 8 = true := by kernel_rfl
theorem sz136 : (Tryz.prog.info? 136).map (·.size) = some 1 := by kernel_rfl
theorem zr136 : (Tryz.prog.info? 136).map (·.zero) = some (some (.pointer none)) := by kernel_rfl
theorem zc136 : (Tryz.prog.info? 136).map (fun i => i.zero.map Value.cells) = some (some #[(.pointer none)]) := by kernel_rfl
theorem eo136 : elemOK Tryz.prog 136 1 8 = true := by kernel_rfl
theorem sz137 : (Tryz.prog.info? 137).map (·.size) = some 1 := by kernel_rfl
theorem zr137 : (Tryz.prog.info? 137).map (·.zero) = some (some (.slice none 0 0)) := by kernel_rfl
theorem zc137 : (Tryz.prog.info? 137).map (fun i => i.zero.map Value.cells) = some (some #[(.slice none 0 0)]) := by kernel_rfl
theorem eo137 : elemOK Tryz.prog 137 1 24 = true := by kernel_rfl
theorem sz138 : (Tryz.prog.info? 138).map (·.size) = some 1 := by kernel_rfl
theorem zr138 : (Tryz.prog.info? 138).map (·.zero) = some (some .nilFunc) := by kernel_rfl
theorem zc138 : (Tryz.prog.info? 138).map (fun i => i.zero.map Value.cells) = some (some #[.nilFunc]) := by kernel_rfl
theorem eo138 : elemOK Tryz.prog 138 1 8 = true := by kernel_rfl
theorem sz139 : (Tryz.prog.info? 139).map (·.size) = some 1 := by kernel_rfl
theorem zr139 : (Tryz.prog.info? 139).map (·.zero) = some (some .nilFunc) := by kernel_rfl
theorem zc139 : (Tryz.prog.info? 139).map (fun i => i.zero.map Value.cells) = some (some #[.nilFunc]) := by kernel_rfl
theorem eo139 : elemOK Tryz.prog 139 1 8 = true := by kernel_rfl
theorem sz140 : (Tryz.prog.info? 140).map (·.size) = some 1 := by kernel_rfl
theorem zr140 : (Tryz.prog.info? 140).map (·.zero) = some (some .nilFunc) := by kernel_rfl
theorem zc140 : (Tryz.prog.info? 140).map (fun i => i.zero.map Value.cells) = some (some #[.nilFunc]) := by kernel_rfl
theorem eo140 : elemOK Tryz.prog 140 1 8 = true := by kernel_rfl
theorem sz141 : (Tryz.prog.info? 141).map (·.size) = some 1 := by kernel_rfl
theorem zr141 : (Tryz.prog.info? 141).map (·.zero) = some (some .nilFunc) := by kernel_rfl
theorem zc141 : (Tryz.prog.info? 141).map (fun i => i.zero.map Value.cells) = some (some #[.nilFunc]) := by kernel_rfl
theorem eo141 : elemOK Tryz.prog 141 1 8 = true := by kernel_rfl
theorem sz142 : (Tryz.prog.info? 142).map (·.size) = some 1 := by kernel_rfl
theorem zr142 : (Tryz.prog.info? 142).map (·.zero) = some (some .nilFunc) := by kernel_rfl
theorem zc142 : (Tryz.prog.info? 142).map (fun i => i.zero.map Value.cells) = some (some #[.nilFunc]) := by kernel_rfl
theorem eo142 : elemOK Tryz.prog 142 1 8 = true := by kernel_rfl
theorem sz143 : (Tryz.prog.info? 143).map (·.size) = some 1 := by kernel_rfl
theorem zr143 : (Tryz.prog.info? 143).map (·.zero) = some (some (.pointer none)) := by kernel_rfl
theorem zc143 : (Tryz.prog.info? 143).map (fun i => i.zero.map Value.cells) = some (some #[(.pointer none)]) := by kernel_rfl
theorem eo143 : elemOK Tryz.prog 143 1 8 = true := by kernel_rfl
theorem sz144 : (Tryz.prog.info? 144).map (·.size) = some 1 := by kernel_rfl
theorem zr144 : (Tryz.prog.info? 144).map (·.zero) = some (some .nilFunc) := by kernel_rfl
theorem zc144 : (Tryz.prog.info? 144).map (fun i => i.zero.map Value.cells) = some (some #[.nilFunc]) := by kernel_rfl
theorem eo144 : elemOK Tryz.prog 144 1 8 = true := by kernel_rfl
theorem sz145 : (Tryz.prog.info? 145).map (·.size) = some 1 := by kernel_rfl
theorem zr145 : (Tryz.prog.info? 145).map (·.zero) = some (some .nilFunc) := by kernel_rfl
theorem zc145 : (Tryz.prog.info? 145).map (fun i => i.zero.map Value.cells) = some (some #[.nilFunc]) := by kernel_rfl
theorem eo145 : elemOK Tryz.prog 145 1 8 = true := by kernel_rfl
theorem sz146 : (Tryz.prog.info? 146).map (·.size) = some 1 := by kernel_rfl
theorem sz147 : (Tryz.prog.info? 147).map (·.size) = some 1 := by kernel_rfl
theorem zr147 : (Tryz.prog.info? 147).map (·.zero) = some (some .nilFunc) := by kernel_rfl
theorem zc147 : (Tryz.prog.info? 147).map (fun i => i.zero.map Value.cells) = some (some #[.nilFunc]) := by kernel_rfl
theorem eo147 : elemOK Tryz.prog 147 1 8 = true := by kernel_rfl
theorem sz148 : (Tryz.prog.info? 148).map (·.size) = some 1 := by kernel_rfl
theorem zr148 : (Tryz.prog.info? 148).map (·.zero) = some (some .nilFunc) := by kernel_rfl
theorem zc148 : (Tryz.prog.info? 148).map (fun i => i.zero.map Value.cells) = some (some #[.nilFunc]) := by kernel_rfl
theorem eo148 : elemOK Tryz.prog 148 1 8 = true := by kernel_rfl
theorem sz149 : (Tryz.prog.info? 149).map (·.size) = some 1 := by kernel_rfl
theorem zr149 : (Tryz.prog.info? 149).map (·.zero) = some (some (.int .i64 0)) := by kernel_rfl
theorem zc149 : (Tryz.prog.info? 149).map (fun i => i.zero.map Value.cells) = some (some #[(.int .i64 0)]) := by kernel_rfl
theorem eo149 : elemOK Tryz.prog 149 1 8 = true := by kernel_rfl
theorem sz150 : (Tryz.prog.info? 150).map (·.size) = some 1 := by kernel_rfl
theorem sz151 : (Tryz.prog.info? 151).map (·.size) = some 1 := by kernel_rfl
theorem zr151 : (Tryz.prog.info? 151).map (·.zero) = some (some .nilFunc) := by kernel_rfl
theorem zc151 : (Tryz.prog.info? 151).map (fun i => i.zero.map Value.cells) = some (some #[.nilFunc]) := by kernel_rfl
theorem eo151 : elemOK Tryz.prog 151 1 8 = true := by kernel_rfl
theorem sz152 : (Tryz.prog.info? 152).map (·.size) = some 1 := by kernel_rfl
theorem zr152 : (Tryz.prog.info? 152).map (·.zero) = some (some (.pointer none)) := by kernel_rfl
theorem zc152 : (Tryz.prog.info? 152).map (fun i => i.zero.map Value.cells) = some (some #[(.pointer none)]) := by kernel_rfl
theorem eo152 : elemOK Tryz.prog 152 1 8 = true := by kernel_rfl
theorem sz153 : (Tryz.prog.info? 153).map (·.size) = some 1 := by kernel_rfl
theorem zr153 : (Tryz.prog.info? 153).map (·.zero) = some (some .nilFunc) := by kernel_rfl
theorem zc153 : (Tryz.prog.info? 153).map (fun i => i.zero.map Value.cells) = some (some #[.nilFunc]) := by kernel_rfl
theorem eo153 : elemOK Tryz.prog 153 1 8 = true := by kernel_rfl
theorem sz154 : (Tryz.prog.info? 154).map (·.size) = some 1 := by kernel_rfl
theorem zr154 : (Tryz.prog.info? 154).map (·.zero) = some (some .nilFunc) := by kernel_rfl
theorem zc154 : (Tryz.prog.info? 154).map (fun i => i.zero.map Value.cells) = some (some #[.nilFunc]) := by kernel_rfl
theorem eo154 : elemOK Tryz.prog 154 1 8 = true := by kernel_rfl
theorem sz155 : (Tryz.prog.info? 155).map (·.size) = some 1 := by kernel_rfl
theorem zr155 : (Tryz.prog.info? 155).map (·.zero) = some (some .nilFunc) := by kernel_rfl
theorem zc155 : (Tryz.prog.info? 155).map (fun i => i.zero.map Value.cells) = some (some #[.nilFunc]) := by kernel_rfl
theorem eo155 : elemOK Tryz.prog 155 1 8 = true := by kernel_rfl
theorem sz156 : (Tryz.prog.info? 156).map (·.size) = some 1 := by kernel_rfl
theorem zr156 : (Tryz.prog.info? 156).map (·.zero) = some (some .nilFunc) := by kernel_rfl
theorem zc156 : (Tryz.prog.info? 156).map (fun i => i.zero.map Value.cells) = some (some #[.nilFunc]) := by kernel_rfl
theorem eo156 : elemOK Tryz.prog 156 1 8 = true := by kernel_rfl
theorem sz157 : (Tryz.prog.info? 157).map (·.size) = some 1 := by kernel_rfl
theorem sz158 : (Tryz.prog.info? 158).map (·.size) = some 1 := by kernel_rfl
theorem zr158 : (Tryz.prog.info? 158).map (·.zero) = some (some .nilFunc) := by kernel_rfl
theorem zc158 : (Tryz.prog.info? 158).map (fun i => i.zero.map Value.cells) = some (some #[.nilFunc]) := by kernel_rfl
theorem eo158 : elemOK Tryz.prog 158 1 8 = true := by kernel_rfl
theorem sz159 : (Tryz.prog.info? 159).map (·.size) = some 1 := by kernel_rfl
theorem zr159 : (Tryz.prog.info? 159).map (·.zero) = some (some .nilFunc) := by kernel_rfl
theorem zc159 : (Tryz.prog.info? 159).map (fun i => i.zero.map Value.cells) = some (some #[.nilFunc]) := by kernel_rfl
theorem eo159 : elemOK Tryz.prog 159 1 8 = true := by kernel_rfl
theorem sz160 : (Tryz.prog.info? 160).map (·.size) = some 3 := by kernel_rfl
theorem zr160 : (Tryz.prog.info? 160).map (·.zero) = some (some (.agg #[(.string ⟨#[]⟩), (.string ⟨#[]⟩), .nilIface])) := by kernel_rfl
theorem zc160 : (Tryz.prog.info? 160).map (fun i => i.zero.map Value.cells) = some (some #[(.string ⟨#[]⟩), (.string ⟨#[]⟩), .nilIface]) := by kernel_rfl
theorem eo160 : elemOK Tryz.prog 160 3 48 = true := by kernel_rfl
theorem fi160_0 : fieldInfo Tryz.prog 160 0 = some (0, 1) := by kernel_rfl
theorem fp160_0 : fieldPart Tryz.prog 160 0 = some (false, 0, 1) := by kernel_rfl
theorem fi160_1 : fieldInfo Tryz.prog 160 1 = some (1, 1) := by kernel_rfl
theorem fp160_1 : fieldPart Tryz.prog 160 1 = some (false, 1, 1) := by kernel_rfl
theorem fi160_2 : fieldInfo Tryz.prog 160 2 = some (2, 1) := by kernel_rfl
theorem fp160_2 : fieldPart Tryz.prog 160 2 = some (false, 2, 1) := by kernel_rfl
theorem pl160 : placesOf Tryz.prog 160 = some [(0, 1), (1, 1), (2, 1)] := by kernel_rfl
theorem sz161 : (Tryz.prog.info? 161).map (·.size) = some 3 := by kernel_rfl
theorem zr161 : (Tryz.prog.info? 161).map (·.zero) = some (some (.agg #[(.string ⟨#[]⟩), (.string ⟨#[]⟩), .nilIface])) := by kernel_rfl
theorem zc161 : (Tryz.prog.info? 161).map (fun i => i.zero.map Value.cells) = some (some #[(.string ⟨#[]⟩), (.string ⟨#[]⟩), .nilIface]) := by kernel_rfl
theorem eo161 : elemOK Tryz.prog 161 3 48 = true := by kernel_rfl
theorem fi161_0 : fieldInfo Tryz.prog 161 0 = some (0, 1) := by kernel_rfl
theorem fp161_0 : fieldPart Tryz.prog 161 0 = some (false, 0, 1) := by kernel_rfl
theorem fi161_1 : fieldInfo Tryz.prog 161 1 = some (1, 1) := by kernel_rfl
theorem fp161_1 : fieldPart Tryz.prog 161 1 = some (false, 1, 1) := by kernel_rfl
theorem fi161_2 : fieldInfo Tryz.prog 161 2 = some (2, 1) := by kernel_rfl
theorem fp161_2 : fieldPart Tryz.prog 161 2 = some (false, 2, 1) := by kernel_rfl
theorem pl161 : placesOf Tryz.prog 161 = some [(0, 1), (1, 1), (2, 1)] := by kernel_rfl
theorem sz162 : (Tryz.prog.info? 162).map (·.size) = some 1 := by kernel_rfl
theorem zr162 : (Tryz.prog.info? 162).map (·.zero) = some (some .nilFunc) := by kernel_rfl
theorem zc162 : (Tryz.prog.info? 162).map (fun i => i.zero.map Value.cells) = some (some #[.nilFunc]) := by kernel_rfl
theorem eo162 : elemOK Tryz.prog 162 1 8 = true := by kernel_rfl
theorem sz163 : (Tryz.prog.info? 163).map (·.size) = some 24 := by kernel_rfl
theorem zr163 : (Tryz.prog.info? 163).map (·.zero) = some (some (.agg (List.toArray ((.int .u8 0) :: (.int .u8 0) :: (.int .u8 0) :: (.int .u8 0) :: (.int .u8 0) :: (.int .u8 0) :: (.int .u8 0) :: (.int .u8 0) :: (.int .u8 0) :: (.int .u8 0) :: (.int .u8 0) :: (.int .u8 0) :: (.int .u8 0) :: (.int .u8 0) :: (.int .u8 0) :: (.int .u8 0) :: (.int .u8 0) :: (.int .u8 0) :: (.int .u8 0) :: (.int .u8 0) :: (.int .u8 0) :: (.int .u8 0) :: (.int .u8 0) :: (.int .u8 0) :: [])))) := by kernel_rfl
theorem zc163 : (Tryz.prog.info? 163).map (fun i => i.zero.map Value.cells) = some (some (List.toArray ((.int .u8 0) :: (.int .u8 0) :: (.int .u8 0) :: (.int .u8 0) :: (.int .u8 0) :: (.int .u8 0) :: (.int .u8 0) :: (.int .u8 0) :: (.int .u8 0) :: (.int .u8 0) :: (.int .u8 0) :: (.int .u8 0) :: (.int .u8 0) :: (.int .u8 0) :: (.int .u8 0) :: (.int .u8 0) :: (.int .u8 0) :: (.int .u8 0) :: (.int .u8 0) :: (.int .u8 0) :: (.int .u8 0) :: (.int .u8 0) :: (.int .u8 0) :: (.int .u8 0) :: []))) := by kernel_rfl
theorem eo163 : elemOK Tryz.prog 163 24 24 = true := by kernel_rfl
theorem sz164 : (Tryz.prog.info? 164).map (·.size) = some 1 := by kernel_rfl
theorem zr164 : (Tryz.prog.info? 164).map (·.zero) = some (some .nilFunc) := by kernel_rfl
theorem zc164 : (Tryz.prog.info? 164).map (fun i => i.zero.map Value.cells) = some (some #[.nilFunc]) := by kernel_rfl
theorem eo164 : elemOK Tryz.prog 164 1 8 = true := by kernel_rfl
theorem sz165 : (Tryz.prog.info? 165).map (·.size) = some 1 := by kernel_rfl
theorem zr165 : (Tryz.prog.info? 165).map (·.zero) = some (some .nilFunc) := by kernel_rfl
theorem zc165 : (Tryz.prog.info? 165).map (fun i => i.zero.map Value.cells) = some (some #[.nilFunc]) := by kernel_rfl
theorem eo165 : elemOK Tryz.prog 165 1 8 = true := by kernel_rfl
theorem sz166 : (Tryz.prog.info? 166).map (·.size) = some 1 := by kernel_rfl
theorem sz167 : (Tryz.prog.info? 167).map (·.size) = some 1 := by kernel_rfl
theorem zr167 : (Tryz.prog.info? 167).map (·.zero) = some (some .nilFunc) := by kernel_rfl
theorem zc167 : (Tryz.prog.info? 167).map (fun i => i.zero.map Value.cells) = some (some #[.nilFunc]) := by kernel_rfl
theorem eo167 : elemOK Tryz.prog 167 1 8 = true := by kernel_rfl
theorem sz168 : (Tryz.prog.info? 168).map (·.size) = some 256 := by kernel_rfl
theorem sz169 : (Tryz.prog.info? 169).map (·.size) = some 2 := by kernel_rfl
theorem zr169 : (Tryz.prog.info? 169).map (·.zero) = some (some (.agg #[(.int .u8 0), (.int .u8 0)])) := by kernel_rfl
theorem zc169 : (Tryz.prog.info? 169).map (fun i => i.zero.map Value.cells) = some (some #[(.int .u8 0), (.int .u8 0)]) := by kernel_rfl
theorem eo169 : elemOK Tryz.prog 169 2 2 = true := by kernel_rfl
theorem fi169_0 : fieldInfo Tryz.prog 169 0 = some (0, 1) := by kernel_rfl
theorem fp169_0 : fieldPart Tryz.prog 169 0 = some (false, 0, 1) := by kernel_rfl
theorem fi169_1 : fieldInfo Tryz.prog 169 1 = some (1, 1) := by kernel_rfl
theorem fp169_1 : fieldPart Tryz.prog 169 1 = some (false, 1, 1) := by kernel_rfl
theorem pl169 : placesOf Tryz.prog 169 = some [(0, 1), (1, 1)] := by kernel_rfl
theorem sz170 : (Tryz.prog.info? 170).map (·.size) = some 2 := by kernel_rfl
theorem zr170 : (Tryz.prog.info? 170).map (·.zero) = some (some (.agg #[(.int .u8 0), (.int .u8 0)])) := by kernel_rfl
theorem zc170 : (Tryz.prog.info? 170).map (fun i => i.zero.map Value.cells) = some (some #[(.int .u8 0), (.int .u8 0)]) := by kernel_rfl
theorem eo170 : elemOK Tryz.prog 170 2 2 = true := by kernel_rfl
theorem fi170_0 : fieldInfo Tryz.prog 170 0 = some (0, 1) := by kernel_rfl
theorem fp170_0 : fieldPart Tryz.prog 170 0 = some (false, 0, 1) := by kernel_rfl
theorem fi170_1 : fieldInfo Tryz.prog 170 1 = some (1, 1) := by kernel_rfl
theorem fp170_1 : fieldPart Tryz.prog 170 1 = some (false, 1, 1) := by kernel_rfl
theorem pl170 : placesOf Tryz.prog 170 = some [(0, 1), (1, 1)] := by kernel_rfl
theorem sz171 : (Tryz.prog.info? 171).map (·.size) = some 32 := by kernel_rfl
theorem zr171 : (Tryz.prog.info? 171).map (·.zero) = some (some (.agg (List.toArray ((.int .u8 0) :: (.int .u8 0) :: (.int .u8 0) :: (.int .u8 0) :: (.int .u8 0) :: (.int .u8 0) :: (.int .u8 0) :: (.int .u8 0) :: (.int .u8 0) :: (.int .u8 0) :: (.int .u8 0) :: (.int .u8 0) :: (.int .u8 0) :: (.int .u8 0) :: (.int .u8 0) :: (.int .u8 0) :: (.int .u8 0) :: (.int .u8 0) :: (.int .u8 0) :: (.int .u8 0) :: (.int .u8 0) :: (.int .u8 0) :: (.int .u8 0) :: (.int .u8 0) :: (.int .u8 0) :: (.int .u8 0) :: (.int .u8 0) :: (.int .u8 0) :: (.int .u8 0) :: (.int .u8 0) :: (.int .u8 0) :: (.int .u8 0) :: [])))) := by kernel_rfl
theorem zc171 : (Tryz.prog.info? 171).map (fun i => i.zero.map Value.cells) = some (some (List.toArray ((.int .u8 0) :: (.int .u8 0) :: (.int .u8 0) :: (.int .u8 0) :: (.int .u8 0) :: (.int .u8 0) :: (.int .u8 0) :: (.int .u8 0) :: (.int .u8 0) :: (.int .u8 0) :: (.int .u8 0) :: (.int .u8 0) :: (.int .u8 0) :: (.int .u8 0) :: (.int .u8 0) :: (.int .u8 0) :: (.int .u8 0) :: (.int .u8 0) :: (.int .u8 0) :: (.int .u8 0) :: (.int .u8 0) :: (.int .u8 0) :: (.int .u8 0) :: (.int .u8 0) :: (.int .u8 0) :: (.int .u8 0) :: (.int .u8 0) :: (.int .u8 0) :: (.int .u8 0) :: (.int .u8 0) :: (.int .u8 0) :: (.int .u8 0) :: []))) := by kernel_rfl
theorem eo171 : elemOK Tryz.prog 171 32 32 = true := by kernel_rfl
theorem sz172 : (Tryz.prog.info? 172).map (·.size) = some 1 := by kernel_rfl
theorem zr172 : (Tryz.prog.info? 172).map (·.zero) = some (some .nilFunc) := by kernel_rfl
theorem zc172 : (Tryz.prog.info? 172).map (fun i => i.zero.map Value.cells) = some (some #[.nilFunc]) := by kernel_rfl
theorem eo172 : elemOK Tryz.prog 172 1 8 = true := by kernel_rfl
theorem sz173 : (Tryz.prog.info? 173).map (·.size) = some 1 := by kernel_rfl
theorem zr173 : (Tryz.prog.info? 173).map (·.zero) = some (some (.pointer none)) := by kernel_rfl
theorem zc173 : (Tryz.prog.info? 173).map (fun i => i.zero.map Value.cells) = some (some #[(.pointer none)]) := by kernel_rfl
theorem eo173 : elemOK Tryz.prog 173 1 8 = true := by kernel_rfl
theorem sz174 : (Tryz.prog.info? 174).map (·.size) = some 1 := by kernel_rfl
theorem zr174 : (Tryz.prog.info? 174).map (·.zero) = some (some (.agg #[(.string ⟨#[]⟩)])) := by kernel_rfl
theorem zc174 : (Tryz.prog.info? 174).map (fun i => i.zero.map Value.cells) = some (some #[(.string ⟨#[]⟩)]) := by kernel_rfl
theorem eo174 : elemOK Tryz.prog 174 1 16 = true := by kernel_rfl
theorem fi174_0 : fieldInfo Tryz.prog 174 0 = some (0, 1) := by kernel_rfl
theorem fp174_0 : fieldPart Tryz.prog 174 0 = some (false, 0, 1) := by kernel_rfl
theorem pl174 : placesOf Tryz.prog 174 = some [(0, 1)] := by kernel_rfl
theorem sz175 : (Tryz.prog.info? 175).map (·.size) = some 1 := by kernel_rfl
theorem zr175 : (Tryz.prog.info? 175).map (·.zero) = some (some (.agg #[(.string ⟨#[]⟩)])) := by kernel_rfl
theorem zc175 : (Tryz.prog.info? 175).map (fun i => i.zero.map Value.cells) = some (some #[(.string ⟨#[]⟩)]) := by kernel_rfl
theorem eo175 : elemOK Tryz.prog 175 1 16 = true := by kernel_rfl
theorem fi175_0 : fieldInfo Tryz.prog 175 0 = some (0, 1) := by kernel_rfl
theorem fp175_0 : fieldPart Tryz.prog 175 0 = some (false, 0, 1) := by kernel_rfl
theorem pl175 : placesOf Tryz.prog 175 = some [(0, 1)] := by kernel_rfl
theorem sz176 : (Tryz.prog.info? 176).map (·.size) = some 1 := by kernel_rfl
theorem zr176 : (Tryz.prog.info? 176).map (·.zero) = some (some .nilFunc) := by kernel_rfl
theorem zc176 : (Tryz.prog.info? 176).map (fun i => i.zero.map Value.cells) = some (some #[.nilFunc]) := by kernel_rfl
theorem eo176 : elemOK Tryz.prog 176 1 8 = true := by kernel_rfl
theorem sz177 : (Tryz.prog.info? 177).map (·.size) = some 20 := by kernel_rfl
theorem zr177 : (Tryz.prog.info? 177).map (·.zero) = some (some (.agg (List.toArray ((.int .u64 0) :: (.int .u64 0) :: (.int .u64 0) :: (.int .u64 0) :: (.int .u64 0) :: (.int .u64 0) :: (.int .u64 0) :: (.int .u64 0) :: (.int .u64 0) :: (.int .u64 0) :: (.int .u64 0) :: (.int .u64 0) :: (.int .u64 0) :: (.int .u64 0) :: (.int .u64 0) :: (.int .u64 0) :: (.int .u64 0) :: (.int .u64 0) :: (.int .u64 0) :: (.int .u64 0) :: [])))) := by kernel_rfl
theorem zc177 : (Tryz.prog.info? 177).map (fun i => i.zero.map Value.cells) = some (some (List.toArray ((.int .u64 0) :: (.int .u64 0) :: (.int .u64 0) :: (.int .u64 0) :: (.int .u64 0) :: (.int .u64 0) :: (.int .u64 0) :: (.int .u64 0) :: (.int .u64 0) :: (.int .u64 0) :: (.int .u64 0) :: (.int .u64 0) :: (.int .u64 0) :: (.int .u64 0) :: (.int .u64 0) :: (.int .u64 0) :: (.int .u64 0) :: (.int .u64 0) :: (.int .u64 0) :: (.int .u64 0) :: []))) := by kernel_rfl
theorem eo177 : elemOK Tryz.prog 177 20 160 = true := by kernel_rfl
theorem sz178 : (Tryz.prog.info? 178).map (·.size) = some 65 := by kernel_rfl
theorem sz179 : (Tryz.prog.info? 179).map (·.size) = some 1 := by kernel_rfl
theorem zr179 : (Tryz.prog.info? 179).map (·.zero) = some (some .nilFunc) := by kernel_rfl
theorem zc179 : (Tryz.prog.info? 179).map (fun i => i.zero.map Value.cells) = some (some #[.nilFunc]) := by kernel_rfl
theorem eo179 : elemOK Tryz.prog 179 1 8 = true := by kernel_rfl
theorem sz180 : (Tryz.prog.info? 180).map (·.size) = some 1 := by kernel_rfl
theorem zr180 : (Tryz.prog.info? 180).map (·.zero) = some (some .nilFunc) := by kernel_rfl
theorem zc180 : (Tryz.prog.info? 180).map (fun i => i.zero.map Value.cells) = some (some #[.nilFunc]) := by kernel_rfl
theorem eo180 : elemOK Tryz.prog 180 1 8 = true := by kernel_rfl
theorem sz181 : (Tryz.prog.info? 181).map (·.size) = some 32 := by kernel_rfl
theorem zr181 : (Tryz.prog.info? 181).map (·.zero) = some (some (.agg (List.toArray ((.int .u8 0) :: (.int .u8 0) :: (.int .u8 0) :: (.int .u8 0) :: (.int .u8 0) :: (.int .u8 0) :: (.int .u8 0) :: (.int .u8 0) :: (.int .u8 0) :: (.int .u8 0) :: (.int .u8 0) :: (.int .u8 0) :: (.int .u8 0) :: (.int .u8 0) :: (.int .u8 0) :: (.int .u8 0) :: (.int .u8 0) :: (.int .u8 0) :: (.int .u8 0) :: (.int .u8 0) :: (.int .u8 0) :: (.int .u8 0) :: (.int .u8 0) :: (.int .u8 0) :: (.int .u8 0) :: (.int .u8 0) :: (.int .u8 0) :: (.int .u8 0) :: (.int .u8 0) :: (.int .u8 0) :: (.int .u8 0) :: (.int .u8 0) :: [])))) := by kernel_rfl
theorem zc181 : (Tryz.prog.info? 181).map (fun i => i.zero.map Value.cells) = some (some (List.toArray ((.int .u8 0) :: (.int .u8 0) :: (.int .u8 0) :: (.int .u8 0) :: (.int .u8 0) :: (.int .u8 0) :: (.int .u8 0) :: (.int .u8 0) :: (.int .u8 0) :: (.int .u8 0) :: (.int .u8 0) :: (.int .u8 0) :: (.int .u8 0) :: (.int .u8 0) :: (.int .u8 0) :: (.int .u8 0) :: (.int .u8 0) :: (.int .u8 0) :: (.int .u8 0) :: (.int .u8 0) :: (.int .u8 0) :: (.int .u8 0) :: (.int .u8 0) :: (.int .u8 0) :: (.int .u8 0) :: (.int .u8 0) :: (.int .u8 0) :: (.int .u8 0) :: (.int .u8 0) :: (.int .u8 0) :: (.int .u8 0) :: (.int .u8 0) :: []))) := by kernel_rfl
theorem eo181 : elemOK Tryz.prog 181 32 32 = true := by kernel_rfl
theorem sz182 : (Tryz.prog.info? 182).map (·.size) = some 64 := by kernel_rfl
theorem zr182 : (Tryz.prog.info? 182).map (·.zero) = some (some (.agg (List.toArray ((.int .u8 0) :: (.int .u8 0) :: (.int .u8 0) :: (.int .u8 0) :: (.int .u8 0) :: (.int .u8 0) :: (.int .u8 0) :: (.int .u8 0) :: (.int .u8 0) :: (.int .u8 0) :: (.int .u8 0) :: (.int .u8 0) :: (.int .u8 0) :: (.int .u8 0) :: (.int .u8 0) :: (.int .u8 0) :: (.int .u8 0) :: (.int .u8 0) :: (.int .u8 0) :: (.int .u8 0) :: (.int .u8 0) :: (.int .u8 0) :: (.int .u8 0) :: (.int .u8 0) :: (.int .u8 0) :: (.int .u8 0) :: (.int .u8 0) :: (.int .u8 0) :: (.int .u8 0) :: (.int .u8 0) :: (.int .u8 0) :: (.int .u8 0) :: (.int .u8 0) :: (.int .u8 0) :: (.int .u8 0) :: (.int .u8 0) :: (.int .u8 0) :: (.int .u8 0) :: (.int .u8 0) :: (.int .u8 0) :: (.int .u8 0) :: (.int .u8 0) :: (.int .u8 0) :: (.int .u8 0) :: (.int .u8 0) :: (.int .u8 0) :: (.int .u8 0) :: (.int .u8 0) :: (.int .u8 0) :: (.int .u8 0) :: (.int .u8 0) :: (.int .u8 0) :: (.int .u8 0) :: (.int .u8 0) :: (.int .u8 0) :: (.int .u8 0) :: (.int .u8 0) :: (.int .u8 0) :: (.int .u8 0) :: (.int .u8 0) :: (.int .u8 0) :: (.int .u8 0) :: (.int .u8 0) :: (.int .u8 0) :: [])))) := by kernel_rfl
theorem zc182 : (Tryz.prog.info? 182).map (fun i => i.zero.map Value.cells) = some (some (List.toArray ((.int .u8 0) :: (.int .u8 0) :: (.int .u8 0) :: (.int .u8 0) :: (.int .u8 0) :: (.int .u8 0) :: (.int .u8 0) :: (.int .u8 0) :: (.int .u8 0) :: (.int .u8 0) :: (.int .u8 0) :: (.int .u8 0) :: (.int .u8 0) :: (.int .u8 0) :: (.int .u8 0) :: (.int .u8 0) :: (.int .u8 0) :: (.int .u8 0) :: (.int .u8 0) :: (.int .u8 0) :: (.int .u8 0) :: (.int .u8 0) :: (.int .u8 0) :: (.int .u8 0) :: (.int .u8 0) :: (.int .u8 0) :: (.int .u8 0) :: (.int .u8 0) :: (.int .u8 0) :: (.int .u8 0) :: (.int .u8 0) :: (.int .u8 0) :: (.int .u8 0) :: (.int .u8 0) :: (.int .u8 0) :: (.int .u8 0) :: (.int .u8 0) :: (.int .u8 0) :: (.int .u8 0) :: (.int .u8 0) :: (.int .u8 0) :: (.int .u8 0) :: (.int .u8 0) :: (.int .u8 0) :: (.int .u8 0) :: (.int .u8 0) :: (.int .u8 0) :: (.int .u8 0) :: (.int .u8 0) :: (.int .u8 0) :: (.int .u8 0) :: (.int .u8 0) :: (.int .u8 0) :: (.int .u8 0) :: (.int .u8 0) :: (.int .u8 0) :: (.int .u8 0) :: (.int .u8 0) :: (.int .u8 0) :: (.int .u8 0) :: (.int .u8 0) :: (.int .u8 0) :: (.int .u8 0) :: (.int .u8 0) :: []))) := by kernel_rfl
theorem eo182 : elemOK Tryz.prog 182 64 64 = true := by kernel_rfl
theorem sz183 : (Tryz.prog.info? 183).map (·.size) = some 4 := by kernel_rfl
theorem zr183 : (Tryz.prog.info? 183).map (·.zero) = some (some (.agg #[(.pointer none), (.pointer none), (.pointer none), (.string ⟨#[]⟩)])) := by kernel_rfl
theorem zc183 : (Tryz.prog.info? 183).map (fun i => i.zero.map Value.cells) = some (some #[(.pointer none), (.pointer none), (.pointer none), (.string ⟨#[]⟩)]) := by kernel_rfl
theorem eo183 : elemOK Tryz.prog 183 4 40 = true := by kernel_rfl
theorem fi183_0 : fieldInfo Tryz.prog 183 0 = some (0, 1) := by kernel_rfl
theorem fp183_0 : fieldPart Tryz.prog 183 0 = some (false, 0, 1) := by kernel_rfl
theorem fi183_1 : fieldInfo Tryz.prog 183 1 = some (1, 1) := by kernel_rfl
theorem fp183_1 : fieldPart Tryz.prog 183 1 = some (false, 1, 1) := by kernel_rfl
theorem fi183_2 : fieldInfo Tryz.prog 183 2 = some (2, 1) := by kernel_rfl
theorem fp183_2 : fieldPart Tryz.prog 183 2 = some (false, 2, 1) := by kernel_rfl
theorem fi183_3 : fieldInfo Tryz.prog 183 3 = some (3, 1) := by kernel_rfl
theorem fp183_3 : fieldPart Tryz.prog 183 3 = some (false, 3, 1) := by kernel_rfl
theorem pl183 : placesOf Tryz.prog 183 = some [(0, 1), (1, 1), (2, 1), (3, 1)] := by kernel_rfl
theorem sz184 : (Tryz.prog.info? 184).map (·.size) = some 4 := by kernel_rfl
theorem zr184 : (Tryz.prog.info? 184).map (·.zero) = some (some (.agg #[(.pointer none), (.pointer none), (.pointer none), (.string ⟨#[]⟩)])) := by kernel_rfl
theorem zc184 : (Tryz.prog.info? 184).map (fun i => i.zero.map Value.cells) = some (some #[(.pointer none), (.pointer none), (.pointer none), (.string ⟨#[]⟩)]) := by kernel_rfl
theorem eo184 : elemOK Tryz.prog 184 4 40 = true := by kernel_rfl
theorem fi184_0 : fieldInfo Tryz.prog 184 0 = some (0, 1) := by kernel_rfl
theorem fp184_0 : fieldPart Tryz.prog 184 0 = some (false, 0, 1) := by kernel_rfl
theorem fi184_1 : fieldInfo Tryz.prog 184 1 = some (1, 1) := by kernel_rfl
theorem fp184_1 : fieldPart Tryz.prog 184 1 = some (false, 1, 1) := by kernel_rfl
theorem fi184_2 : fieldInfo Tryz.prog 184 2 = some (2, 1) := by kernel_rfl
theorem fp184_2 : fieldPart Tryz.prog 184 2 = some (false, 2, 1) := by kernel_rfl
theorem fi184_3 : fieldInfo Tryz.prog 184 3 = some (3, 1) := by kernel_rfl
theorem fp184_3 : fieldPart Tryz.prog 184 3 = some (false, 3, 1) := by kernel_rfl
theorem pl184 : placesOf Tryz.prog 184 = some [(0, 1), (1, 1), (2, 1), (3, 1)] := by kernel_rfl
theorem sz185 : (Tryz.prog.info? 185).map (·.size) = some 0 := by kernel_rfl
theorem zr185 : (Tryz.prog.info? 185).map (·.zero) = some (some (.agg #[])) := by kernel_rfl
theorem sz186 : (Tryz.prog.info? 186).map (·.size) = some 0 := by kernel_rfl
theorem zr186 : (Tryz.prog.info? 186).map (·.zero) = some (some (.agg #[])) := by kernel_rfl
theorem fi186_0 : fieldInfo Tryz.prog 186 0 = some (0, 0) := by kernel_rfl
theorem fp186_0 : fieldPart Tryz.prog 186 0 = some (true, 0, 0) := by kernel_rfl
theorem pl186 : placesOf Tryz.prog 186 = some [(0, 0)] := by kernel_rfl
theorem sz187 : (Tryz.prog.info? 187).map (·.size) = some 0 := by kernel_rfl
theorem zr187 : (Tryz.prog.info? 187).map (·.zero) = some (some (.agg #[])) := by kernel_rfl
theorem fi187_0 : fieldInfo Tryz.prog 187 0 = some (0, 0) := by kernel_rfl
theorem fp187_0 : fieldPart Tryz.prog 187 0 = some (true, 0, 0) := by kernel_rfl
theorem pl187 : placesOf Tryz.prog 187 = some [(0, 0)] := by kernel_rfl
theorem sz188 : (Tryz.prog.info? 188).map (·.size) = some 1 := by kernel_rfl
theorem zr188 : (Tryz.prog.info? 188).map (·.zero) = some (some (.int .u8 0)) := by kernel_rfl
theorem zc188 : (Tryz.prog.info? 188).map (fun i => i.zero.map Value.cells) = some (some #[(.int .u8 0)]) := by kernel_rfl
theorem eo188 : elemOK Tryz.prog 188 1 1 = true := by kernel_rfl
theorem sz189 : (Tryz.prog.info? 189).map (·.size) = some 1 := by kernel_rfl
theorem zr189 : (Tryz.prog.info? 189).map (·.zero) = some (some (.int .u8 0)) := by kernel_rfl
theorem zc189 : (Tryz.prog.info? 189).map (fun i => i.zero.map Value.cells) = some (some #[(.int .u8 0)]) := by kernel_rfl
theorem eo189 : elemOK Tryz.prog 189 1 1 = true := by kernel_rfl
theorem sz190 : (Tryz.prog.info? 190).map (·.size) = some 1 := by kernel_rfl
theorem zr190 : (Tryz.prog.info? 190).map (·.zero) = some (some .nilFunc) := by kernel_rfl
theorem zc190 : (Tryz.prog.info? 190).map (fun i => i.zero.map Value.cells) = some (some #[.nilFunc]) := by kernel_rfl
theorem eo190 : elemOK Tryz.prog 190 1 8 = true := by kernel_rfl
theorem sz191 : (Tryz.prog.info? 191).map (·.size) = some 1 := by kernel_rfl
theorem zr191 : (Tryz.prog.info? 191).map (·.zero) = some (some (.int .i32 0)) := by kernel_rfl
theorem zc191 : (Tryz.prog.info? 191).map (fun i => i.zero.map Value.cells) = some (some #[(.int .i32 0)]) := by kernel_rfl
theorem eo191 : elemOK Tryz.prog 191 1 4 = true := by kernel_rfl
theorem sz192 : (Tryz.prog.info? 192).map (·.size) = some 1 := by kernel_rfl
theorem zr192 : (Tryz.prog.info? 192).map (·.zero) = some (some (.int .i32 0)) := by kernel_rfl
theorem zc192 : (Tryz.prog.info? 192).map (fun i => i.zero.map Value.cells) = some (some #[(.int .i32 0)]) := by kernel_rfl
theorem eo192 : elemOK Tryz.prog 192 1 4 = true := by kernel_rfl
theorem sz193 : (Tryz.prog.info? 193).map (·.size) = some 11 := by kernel_rfl
theorem zr193 : (Tryz.prog.info? 193).map (·.zero) = some (some (.agg #[(.int .u64 0), (.int .u64 0), (.int .u32 0), (.int .u8 0), (.int .u8 0), (.int .u8 0), (.int .u8 0), .nilFunc, (.pointer none), (.int .i32 0), (.int .i32 0)])) := by kernel_rfl
theorem zc193 : (Tryz.prog.info? 193).map (fun i => i.zero.map Value.cells) = some (some #[(.int .u64 0), (.int .u64 0), (.int .u32 0), (.int .u8 0), (.int .u8 0), (.int .u8 0), (.int .u8 0), .nilFunc, (.pointer none), (.int .i32 0), (.int .i32 0)]) := by kernel_rfl
theorem eo193 : elemOK Tryz.prog 193 11 48 = true := by kernel_rfl
theorem fi193_0 : fieldInfo Tryz.prog 193 0 = some (0, 1) := by kernel_rfl
theorem fp193_0 : fieldPart Tryz.prog 193 0 = some (false, 0, 1) := by kernel_rfl
theorem fi193_1 : fieldInfo Tryz.prog 193 1 = some (1, 1) := by kernel_rfl
theorem fp193_1 : fieldPart Tryz.prog 193 1 = some (false, 1, 1) := by kernel_rfl
theorem fi193_2 : fieldInfo Tryz.prog 193 2 = some (2, 1) := by kernel_rfl
theorem fp193_2 : fieldPart Tryz.prog 193 2 = some (false, 2, 1) := by kernel_rfl
theorem fi193_3 : fieldInfo Tryz.prog 193 3 = some (3, 1) := by kernel_rfl
theorem fp193_3 : fieldPart Tryz.prog 193 3 = some (false, 3, 1) := by kernel_rfl
theorem fi193_4 : fieldInfo Tryz.prog 193 4 = some (4, 1) := by kernel_rfl
theorem fp193_4 : fieldPart Tryz.prog 193 4 = some (false, 4, 1) := by kernel_rfl
theorem fi193_5 : fieldInfo Tryz.prog 193 5 = some (5, 1) := by kernel_rfl
theorem fp193_5 : fieldPart Tryz.prog 193 5 = some (false, 5, 1) := by kernel_rfl
theorem fi193_6 : fieldInfo Tryz.prog 193 6 = some (6, 1) := by kernel_rfl
theorem fp193_6 : fieldPart Tryz.prog 193 6 = some (false, 6, 1) := by kernel_rfl
theorem fi193_7 : fieldInfo Tryz.prog 193 7 = some (7, 1) := by kernel_rfl
theorem fp193_7 : fieldPart Tryz.prog 193 7 = some (false, 7, 1) := by kernel_rfl
theorem fi193_8 : fieldInfo Tryz.prog 193 8 = some (8, 1) := by kernel_rfl
theorem fp193_8 : fieldPart Tryz.prog 193 8 = some (false, 8, 1) := by kernel_rfl
theorem fi193_9 : fieldInfo Tryz.prog 193 9 = some (9, 1) := by kernel_rfl
theorem fp193_9 : fieldPart Tryz.prog 193 9 = some (false, 9, 1) := by kernel_rfl
theorem fi193_10 : fieldInfo Tryz.prog 193 10 = some (10, 1) := by kernel_rfl
theorem fp193_10 : fieldPart Tryz.prog 193 10 = some (false, 10, 1) := by kernel_rfl
theorem pl193 : placesOf Tryz.prog 193 = some [(0, 1), (1, 1), (2, 1), (3, 1), (4, 1), (5, 1), (6, 1), (7, 1), (8, 1), (9, 1), (10, 1)] := by kernel_rfl
theorem sz194 : (Tryz.prog.info? 194).map (·.size) = some 11 := by kernel_rfl
theorem zr194 : (Tryz.prog.info? 194).map (·.zero) = some (some (.agg #[(.int .u64 0), (.int .u64 0), (.int .u32 0), (.int .u8 0), (.int .u8 0), (.int .u8 0), (.int .u8 0), .nilFunc, (.pointer none), (.int .i32 0), (.int .i32 0)])) := by kernel_rfl
theorem zc194 : (Tryz.prog.info? 194).map (fun i => i.zero.map Value.cells) = some (some #[(.int .u64 0), (.int .u64 0), (.int .u32 0), (.int .u8 0), (.int .u8 0), (.int .u8 0), (.int .u8 0), .nilFunc, (.pointer none), (.int .i32 0), (.int .i32 0)]) := by kernel_rfl
theorem eo194 : elemOK Tryz.prog 194 11 48 = true := by kernel_rfl
theorem fi194_0 : fieldInfo Tryz.prog 194 0 = some (0, 1) := by kernel_rfl
theorem fp194_0 : fieldPart Tryz.prog 194 0 = some (false, 0, 1) := by kernel_rfl
theorem fi194_1 : fieldInfo Tryz.prog 194 1 = some (1, 1) := by kernel_rfl
theorem fp194_1 : fieldPart Tryz.prog 194 1 = some (false, 1, 1) := by kernel_rfl
theorem fi194_2 : fieldInfo Tryz.prog 194 2 = some (2, 1) := by kernel_rfl
theorem fp194_2 : fieldPart Tryz.prog 194 2 = some (false, 2, 1) := by kernel_rfl
theorem fi194_3 : fieldInfo Tryz.prog 194 3 = some (3, 1) := by kernel_rfl
theorem fp194_3 : fieldPart Tryz.prog 194 3 = some (false, 3, 1) := by kernel_rfl
theorem fi194_4 : fieldInfo Tryz.prog 194 4 = some (4, 1) := by kernel_rfl
theorem fp194_4 : fieldPart Tryz.prog 194 4 = some (false, 4, 1) := by kernel_rfl
theorem fi194_5 : fieldInfo Tryz.prog 194 5 = some (5, 1) := by kernel_rfl
theorem fp194_5 : fieldPart Tryz.prog 194 5 = some (false, 5, 1) := by kernel_rfl
theorem fi194_6 : fieldInfo Tryz.prog 194 6 = some (6, 1) := by kernel_rfl
theorem fp194_6 : fieldPart Tryz.prog 194 6 = some (false, 6, 1) := by kernel_rfl
theorem fi194_7 : fieldInfo Tryz.prog 194 7 = some (7, 1) := by kernel_rfl
theorem fp194_7 : fieldPart Tryz.prog 194 7 = some (false, 7, 1) := by kernel_rfl
theorem fi194_8 : fieldInfo Tryz.prog 194 8 = some (8, 1) := by kernel_rfl
theorem fp194_8 : fieldPart Tryz.prog 194 8 = some (false, 8, 1) := by kernel_rfl
theorem fi194_9 : fieldInfo Tryz.prog 194 9 = some (9, 1) := by kernel_rfl
theorem fp194_9 : fieldPart Tryz.prog 194 9 = some (false, 9, 1) := by kernel_rfl
theorem fi194_10 : fieldInfo Tryz.prog 194 10 = some (10, 1) := by kernel_rfl
theorem fp194_10 : fieldPart Tryz.prog 194 10 = some (false, 10, 1) := by kernel_rfl
theorem pl194 : placesOf Tryz.prog 194 = some [(0, 1), (1, 1), (2, 1), (3, 1), (4, 1), (5, 1), (6, 1), (7, 1), (8, 1), (9, 1), (10, 1)] := by kernel_rfl
end Go.Proofs.YtcjnecmgificmaaGreatDoor

