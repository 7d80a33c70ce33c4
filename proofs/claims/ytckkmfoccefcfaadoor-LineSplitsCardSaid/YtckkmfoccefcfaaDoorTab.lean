/- Facts on the types of the program: sizes, zero values, fields. -/
import Derived.Test.YtckkmfoccefcfaaDoorProg
import Derived.Test.YtckkmfoccefcfaaDoorMa2
namespace Go.Proofs.YtckkmfoccefcfaaDoor
set_option linter.unusedVariables false
theorem sz0 : (Tryd.prog.info? 0).map (·.size) = some 1 := by kernel_rfl
theorem sz1 : (Tryd.prog.info? 1).map (·.size) = some 1 := by kernel_rfl
theorem zr1 : (Tryd.prog.info? 1).map (·.zero) = some (some .nilFunc) := by kernel_rfl
theorem zc1 : (Tryd.prog.info? 1).map (fun i => i.zero.map Value.cells) = some (some #[.nilFunc]) := by kernel_rfl
theorem eo1 : elemOK Tryd.prog 1 1 8 = true := by kernel_rfl
theorem sz2 : (Tryd.prog.info? 2).map (·.size) = some 1 := by kernel_rfl
theorem zr2 : (Tryd.prog.info? 2).map (·.zero) = some (some (.int .i64 0)) := by kernel_rfl
theorem zc2 : (Tryd.prog.info? 2).map (fun i => i.zero.map Value.cells) = some (some #[(.int .i64 0)]) := by kernel_rfl
theorem eo2 : elemOK Tryd.prog 2 1 8 = true := by kernel_rfl
theorem sz3 : (Tryd.prog.info? 3).map (·.size) = some 1 := by kernel_rfl
theorem zr3 : (Tryd.prog.info? 3).map (·.zero) = some (some (.int .i64 0)) := by kernel_rfl
theorem zc3 : (Tryd.prog.info? 3).map (fun i => i.zero.map Value.cells) = some (some #[(.int .i64 0)]) := by kernel_rfl
theorem eo3 : elemOK Tryd.prog 3 1 8 = true := by kernel_rfl
theorem sz4 : (Tryd.prog.info? 4).map (·.size) = some 1 := by kernel_rfl
theorem zr4 : (Tryd.prog.info? 4).map (·.zero) = some (some (.bool false)) := by kernel_rfl
theorem zc4 : (Tryd.prog.info? 4).map (fun i => i.zero.map Value.cells) = some (some #[(.bool false)]) := by kernel_rfl
theorem eo4 : elemOK Tryd.prog 4 1 1 = true := by kernel_rfl
theorem sz5 : (Tryd.prog.info? 5).map (·.size) = some 1 := by kernel_rfl
theorem zr5 : (Tryd.prog.info? 5).map (·.zero) = some (some (.int .u8 0)) := by kernel_rfl
theorem zc5 : (Tryd.prog.info? 5).map (fun i => i.zero.map Value.cells) = some (some #[(.int .u8 0)]) := by kernel_rfl
theorem eo5 : elemOK Tryd.prog 5 1 1 = true := by kernel_rfl
theorem sz6 : (Tryd.prog.info? 6).map (·.size) = some 1 := by kernel_rfl
theorem zr6 : (Tryd.prog.info? 6).map (·.zero) = some (some (.int .u8 0)) := by kernel_rfl
theorem zc6 : (Tryd.prog.info? 6).map (fun i => i.zero.map Value.cells) = some (some #[(.int .u8 0)]) := by kernel_rfl
theorem eo6 : elemOK Tryd.prog 6 1 1 = true := by kernel_rfl
theorem sz7 : (Tryd.prog.info? 7).map (·.size) = some 4 := by kernel_rfl
theorem zr7 : (Tryd.prog.info? 7).map (·.zero) = some (some (.agg #[(.int .i64 0), (.int .i64 0), (.bool false), (.int .u8 0)])) := by kernel_rfl
theorem zc7 : (Tryd.prog.info? 7).map (fun i => i.zero.map Value.cells) = some (some #[(.int .i64 0), (.int .i64 0), (.bool false), (.int .u8 0)]) := by kernel_rfl
theorem eo7 : elemOK Tryd.prog 7 4 24 = true := by kernel_rfl
theorem fi7_0 : fieldInfo Tryd.prog 7 0 = some (0, 1) := by kernel_rfl
theorem fp7_0 : fieldPart Tryd.prog 7 0 = some (false, 0, 1) := by kernel_rfl
theorem fi7_1 : fieldInfo Tryd.prog 7 1 = some (1, 1) := by kernel_rfl
theorem fp7_1 : fieldPart Tryd.prog 7 1 = some (false, 1, 1) := by kernel_rfl
theorem fi7_2 : fieldInfo Tryd.prog 7 2 = some (2, 1) := by kernel_rfl
theorem fp7_2 : fieldPart Tryd.prog 7 2 = some (false, 2, 1) := by kernel_rfl
theorem fi7_3 : fieldInfo Tryd.prog 7 3 = some (3, 1) := by kernel_rfl
theorem fp7_3 : fieldPart Tryd.prog 7 3 = some (false, 3, 1) := by kernel_rfl
theorem pl7 : placesOf Tryd.prog 7 = some [(0, 1), (1, 1), (2, 1), (3, 1)] := by kernel_rfl
theorem sz8 : (Tryd.prog.info? 8).map (·.size) = some 4 := by kernel_rfl
theorem zr8 : (Tryd.prog.info? 8).map (·.zero) = some (some (.agg #[(.int .i64 0), (.int .i64 0), (.bool false), (.int .u8 0)])) := by kernel_rfl
theorem zc8 : (Tryd.prog.info? 8).map (fun i => i.zero.map Value.cells) = some (some #[(.int .i64 0), (.int .i64 0), (.bool false), (.int .u8 0)]) := by kernel_rfl
theorem eo8 : elemOK Tryd.prog 8 4 24 = true := by kernel_rfl
theorem fi8_0 : fieldInfo Tryd.prog 8 0 = some (0, 1) := by kernel_rfl
theorem fp8_0 : fieldPart Tryd.prog 8 0 = some (false, 0, 1) := by kernel_rfl
theorem fi8_1 : fieldInfo Tryd.prog 8 1 = some (1, 1) := by kernel_rfl
theorem fp8_1 : fieldPart Tryd.prog 8 1 = some (false, 1, 1) := by kernel_rfl
theorem fi8_2 : fieldInfo Tryd.prog 8 2 = some (2, 1) := by kernel_rfl
theorem fp8_2 : fieldPart Tryd.prog 8 2 = some (false, 2, 1) := by kernel_rfl
theorem fi8_3 : fieldInfo Tryd.prog 8 3 = some (3, 1) := by kernel_rfl
theorem fp8_3 : fieldPart Tryd.prog 8 3 = some (false, 3, 1) := by kernel_rfl
theorem pl8 : placesOf Tryd.prog 8 = some [(0, 1), (1, 1), (2, 1), (3, 1)] := by kernel_rfl
theorem sz9 : (Tryd.prog.info? 9).map (·.size) = some 1 := by kernel_rfl
theorem zr9 : (Tryd.prog.info? 9).map (·.zero) = some (some (.string ⟨#[]⟩)) := by kernel_rfl
theorem zc9 : (Tryd.prog.info? 9).map (fun i => i.zero.map Value.cells) = some (some #[(.string ⟨#[]⟩)]) := by kernel_rfl
theorem eo9 : elemOK Tryd.prog 9 1 16 = true := by kernel_rfl
theorem sz10 : (Tryd.prog.info? 10).map (·.size) = some 1 := by kernel_rfl
theorem zr10 : (Tryd.prog.info? 10).map (·.zero) = some (some (.string ⟨#[]⟩)) := by kernel_rfl
theorem zc10 : (Tryd.prog.info? 10).map (fun i => i.zero.map Value.cells) = some (some #[(.string ⟨#[]⟩)]) := by kernel_rfl
theorem eo10 : elemOK Tryd.prog 10 1 16 = true := by kernel_rfl
theorem sz11 : (Tryd.prog.info? 11).map (·.size) = some 1 := by kernel_rfl
theorem zr11 : (Tryd.prog.info? 11).map (·.zero) = some (some (.string ⟨#[]⟩)) := by kernel_rfl
theorem zc11 : (Tryd.prog.info? 11).map (fun i => i.zero.map Value.cells) = some (some #[(.string ⟨#[]⟩)]) := by kernel_rfl
theorem eo11 : elemOK Tryd.prog 11 1 16 = true := by kernel_rfl
theorem sz12 : (Tryd.prog.info? 12).map (·.size) = some 1 := by kernel_rfl
theorem zr12 : (Tryd.prog.info? 12).map (·.zero) = some (some (.int .u64 0)) := by kernel_rfl
theorem zc12 : (Tryd.prog.info? 12).map (fun i => i.zero.map Value.cells) = some (some #[(.int .u64 0)]) := by kernel_rfl
theorem eo12 : elemOK Tryd.prog 12 1 8 = true := by kernel_rfl
theorem sz13 : (Tryd.prog.info? 13).map (·.size) = some 2 := by kernel_rfl
theorem zr13 : (Tryd.prog.info? 13).map (·.zero) = some (some (.agg #[(.string ⟨#[]⟩), (.int .u64 0)])) := by kernel_rfl
theorem zc13 : (Tryd.prog.info? 13).map (fun i => i.zero.map Value.cells) = some (some #[(.string ⟨#[]⟩), (.int .u64 0)]) := by kernel_rfl
theorem eo13 : elemOK Tryd.prog 13 2 24 = true := by kernel_rfl
theorem fi13_0 : fieldInfo Tryd.prog 13 0 = some (0, 1) := by kernel_rfl
theorem fp13_0 : fieldPart Tryd.prog 13 0 = some (false, 0, 1) := by kernel_rfl
theorem fi13_1 : fieldInfo Tryd.prog 13 1 = some (1, 1) := by kernel_rfl
theorem fp13_1 : fieldPart Tryd.prog 13 1 = some (false, 1, 1) := by kernel_rfl
theorem pl13 : placesOf Tryd.prog 13 = some [(0, 1), (1, 1)] := by kernel_rfl
theorem sz14 : (Tryd.prog.info? 14).map (·.size) = some 2 := by kernel_rfl
theorem zr14 : (Tryd.prog.info? 14).map (·.zero) = some (some (.agg #[(.string ⟨#[]⟩), (.int .u64 0)])) := by kernel_rfl
theorem zc14 : (Tryd.prog.info? 14).map (fun i => i.zero.map Value.cells) = some (some #[(.string ⟨#[]⟩), (.int .u64 0)]) := by kernel_rfl
theorem eo14 : elemOK Tryd.prog 14 2 24 = true := by kernel_rfl
theorem fi14_0 : fieldInfo Tryd.prog 14 0 = some (0, 1) := by kernel_rfl
theorem fp14_0 : fieldPart Tryd.prog 14 0 = some (false, 0, 1) := by kernel_rfl
theorem fi14_1 : fieldInfo Tryd.prog 14 1 = some (1, 1) := by kernel_rfl
theorem fp14_1 : fieldPart Tryd.prog 14 1 = some (false, 1, 1) := by kernel_rfl
theorem pl14 : placesOf Tryd.prog 14 = some [(0, 1), (1, 1)] := by kernel_rfl
theorem sz15 : (Tryd.prog.info? 15).map (·.size) = some 1 := by kernel_rfl
theorem zr15 : (Tryd.prog.info? 15).map (·.zero) = some (some (.pointer none)) := by kernel_rfl
theorem zc15 : (Tryd.prog.info? 15).map (fun i => i.zero.map Value.cells) = some (some #[(.pointer none)]) := by kernel_rfl
theorem eo15 : elemOK Tryd.prog 15 1 8 = true := by kernel_rfl
theorem sz16 : (Tryd.prog.info? 16).map (·.size) = some 1 := by kernel_rfl
theorem zr16 : (Tryd.prog.info? 16).map (·.zero) = some (some (.pointer none)) := by kernel_rfl
theorem zc16 : (Tryd.prog.info? 16).map (fun i => i.zero.map Value.cells) = some (some #[(.pointer none)]) := by kernel_rfl
theorem eo16 : elemOK Tryd.prog 16 1 8 = true := by kernel_rfl
theorem sz17 : (Tryd.prog.info? 17).map (·.size) = some 1 := by kernel_rfl
theorem zr17 : (Tryd.prog.info? 17).map (·.zero) = some (some (.pointer none)) := by kernel_rfl
theorem zc17 : (Tryd.prog.info? 17).map (fun i => i.zero.map Value.cells) = some (some #[(.pointer none)]) := by kernel_rfl
theorem eo17 : elemOK Tryd.prog 17 1 8 = true := by kernel_rfl
theorem sz18 : (Tryd.prog.info? 18).map (·.size) = some 1 := by kernel_rfl
theorem zr18 : (Tryd.prog.info? 18).map (·.zero) = some (some (.agg #[(.pointer none)])) := by kernel_rfl
theorem zc18 : (Tryd.prog.info? 18).map (fun i => i.zero.map Value.cells) = some (some #[(.pointer none)]) := by kernel_rfl
theorem eo18 : elemOK Tryd.prog 18 1 8 = true := by kernel_rfl
theorem fi18_0 : fieldInfo Tryd.prog 18 0 = some (0, 1) := by kernel_rfl
theorem fp18_0 : fieldPart Tryd.prog 18 0 = some (false, 0, 1) := by kernel_rfl
theorem pl18 : placesOf Tryd.prog 18 = some [(0, 1)] := by kernel_rfl
theorem sz19 : (Tryd.prog.info? 19).map (·.size) = some 1 := by kernel_rfl
theorem zr19 : (Tryd.prog.info? 19).map (·.zero) = some (some (.agg #[(.pointer none)])) := by kernel_rfl
theorem zc19 : (Tryd.prog.info? 19).map (fun i => i.zero.map Value.cells) = some (some #[(.pointer none)]) := by kernel_rfl
theorem eo19 : elemOK Tryd.prog 19 1 8 = true := by kernel_rfl
theorem fi19_0 : fieldInfo Tryd.prog 19 0 = some (0, 1) := by kernel_rfl
theorem fp19_0 : fieldPart Tryd.prog 19 0 = some (false, 0, 1) := by kernel_rfl
theorem pl19 : placesOf Tryd.prog 19 = some [(0, 1)] := by kernel_rfl
theorem sz20 : (Tryd.prog.info? 20).map (·.size) = some 1 := by kernel_rfl
theorem zr20 : (Tryd.prog.info? 20).map (·.zero) = some (some .nilIface) := by kernel_rfl
theorem zc20 : (Tryd.prog.info? 20).map (fun i => i.zero.map Value.cells) = some (some #[.nilIface]) := by kernel_rfl
theorem eo20 : elemOK Tryd.prog 20 1 16 = true := by kernel_rfl
theorem sz21 : (Tryd.prog.info? 21).map (·.size) = some 1 := by kernel_rfl
theorem zr21 : (Tryd.prog.info? 21).map (·.zero) = some (some (.int .i32 0)) := by kernel_rfl
theorem zc21 : (Tryd.prog.info? 21).map (fun i => i.zero.map Value.cells) = some (some #[(.int .i32 0)]) := by kernel_rfl
theorem eo21 : elemOK Tryd.prog 21 1 4 = true := by kernel_rfl
theorem sz22 : (Tryd.prog.info? 22).map (·.size) = some 2 := by kernel_rfl
theorem zr22 : (Tryd.prog.info? 22).map (·.zero) = some (some (.agg #[(.string ⟨#[]⟩), (.string ⟨#[]⟩)])) := by kernel_rfl
theorem zc22 : (Tryd.prog.info? 22).map (fun i => i.zero.map Value.cells) = some (some #[(.string ⟨#[]⟩), (.string ⟨#[]⟩)]) := by kernel_rfl
theorem eo22 : elemOK Tryd.prog 22 2 32 = true := by kernel_rfl
theorem fi22_0 : fieldInfo Tryd.prog 22 0 = some (0, 1) := by kernel_rfl
theorem fp22_0 : fieldPart Tryd.prog 22 0 = some (false, 0, 1) := by kernel_rfl
theorem fi22_1 : fieldInfo Tryd.prog 22 1 = some (1, 1) := by kernel_rfl
theorem fp22_1 : fieldPart Tryd.prog 22 1 = some (false, 1, 1) := by kernel_rfl
theorem pl22 : placesOf Tryd.prog 22 = some [(0, 1), (1, 1)] := by kernel_rfl
theorem sz23 : (Tryd.prog.info? 23).map (·.size) = some 2 := by kernel_rfl
theorem zr23 : (Tryd.prog.info? 23).map (·.zero) = some (some (.agg #[(.string ⟨#[]⟩), (.string ⟨#[]⟩)])) := by kernel_rfl
theorem zc23 : (Tryd.prog.info? 23).map (fun i => i.zero.map Value.cells) = some (some #[(.string ⟨#[]⟩), (.string ⟨#[]⟩)]) := by kernel_rfl
theorem eo23 : elemOK Tryd.prog 23 2 32 = true := by kernel_rfl
theorem fi23_0 : fieldInfo Tryd.prog 23 0 = some (0, 1) := by kernel_rfl
theorem fp23_0 : fieldPart Tryd.prog 23 0 = some (false, 0, 1) := by kernel_rfl
theorem fi23_1 : fieldInfo Tryd.prog 23 1 = some (1, 1) := by kernel_rfl
theorem fp23_1 : fieldPart Tryd.prog 23 1 = some (false, 1, 1) := by kernel_rfl
theorem pl23 : placesOf Tryd.prog 23 = some [(0, 1), (1, 1)] := by kernel_rfl
theorem sz24 : (Tryd.prog.info? 24).map (·.size) = some 1 := by kernel_rfl
theorem zr24 : (Tryd.prog.info? 24).map (·.zero) = some (some (.int .i64 0)) := by kernel_rfl
theorem zc24 : (Tryd.prog.info? 24).map (fun i => i.zero.map Value.cells) = some (some #[(.int .i64 0)]) := by kernel_rfl
theorem eo24 : elemOK Tryd.prog 24 1 8 = true := by kernel_rfl
theorem sz25 : (Tryd.prog.info? 25).map (·.size) = some 1 := by kernel_rfl
theorem zr25 : (Tryd.prog.info? 25).map (·.zero) = some (some .nilFunc) := by kernel_rfl
theorem zc25 : (Tryd.prog.info? 25).map (fun i => i.zero.map Value.cells) = some (some #[.nilFunc]) := by kernel_rfl
theorem eo25 : elemOK Tryd.prog 25 1 8 = true := by kernel_rfl
theorem sz26 : (Tryd.prog.info? 26).map (·.size) = some 1 := by kernel_rfl
theorem zr26 : (Tryd.prog.info? 26).map (·.zero) = some (some (.slice none 0 0)) := by kernel_rfl
theorem zc26 : (Tryd.prog.info? 26).map (fun i => i.zero.map Value.cells) = some (some #[(.slice none 0 0)]) := by kernel_rfl
theorem eo26 : elemOK Tryd.prog 26 1 24 = true := by kernel_rfl
theorem sz27 : (Tryd.prog.info? 27).map (·.size) = some 1 := by kernel_rfl
theorem sz28 : (Tryd.prog.info? 28).map (·.size) = some 1 := by kernel_rfl
theorem zr28 : (Tryd.prog.info? 28).map (·.zero) = some (some .nilFunc) := by kernel_rfl
theorem zc28 : (Tryd.prog.info? 28).map (fun i => i.zero.map Value.cells) = some (some #[.nilFunc]) := by kernel_rfl
theorem eo28 : elemOK Tryd.prog 28 1 8 = true := by kernel_rfl
theorem sz29 : (Tryd.prog.info? 29).map (·.size) = some 1 := by kernel_rfl
theorem zr29 : (Tryd.prog.info? 29).map (·.zero) = some (some .nilFunc) := by kernel_rfl
theorem zc29 : (Tryd.prog.info? 29).map (fun i => i.zero.map Value.cells) = some (some #[.nilFunc]) := by kernel_rfl
theorem eo29 : elemOK Tryd.prog 29 1 8 = true := by kernel_rfl
theorem sz30 : (Tryd.prog.info? 30).map (·.size) = some 1 := by kernel_rfl
theorem zr30 : (Tryd.prog.info? 30).map (·.zero) = some (some .nilFunc) := by kernel_rfl
theorem zc30 : (Tryd.prog.info? 30).map (fun i => i.zero.map Value.cells) = some (some #[.nilFunc]) := by kernel_rfl
theorem eo30 : elemOK Tryd.prog 30 1 8 = true := by kernel_rfl
theorem sz31 : (Tryd.prog.info? 31).map (·.size) = some 1 := by kernel_rfl
theorem zr31 : (Tryd.prog.info? 31).map (·.zero) = some (some (.slice none 0 0)) := by kernel_rfl
theorem zc31 : (Tryd.prog.info? 31).map (fun i => i.zero.map Value.cells) = some (some #[(.slice none 0 0)]) := by kernel_rfl
theorem eo31 : elemOK Tryd.prog 31 1 24 = true := by kernel_rfl
theorem sz32 : (Tryd.prog.info? 32).map (·.size) = some 1 := by kernel_rfl
theorem zr32 : (Tryd.prog.info? 32).map (·.zero) = some (some .nilFunc) := by kernel_rfl
theorem zc32 : (Tryd.prog.info? 32).map (fun i => i.zero.map Value.cells) = some (some #[.nilFunc]) := by kernel_rfl
theorem eo32 : elemOK Tryd.prog 32 1 8 = true := by kernel_rfl
theorem sz33 : (Tryd.prog.info? 33).map (·.size) = some 1 := by kernel_rfl
theorem sz34 : (Tryd.prog.info? 34).map (·.size) = some 1 := by kernel_rfl
theorem zr34 : (Tryd.prog.info? 34).map (·.zero) = some (some .nilFunc) := by kernel_rfl
theorem zc34 : (Tryd.prog.info? 34).map (fun i => i.zero.map Value.cells) = some (some #[.nilFunc]) := by kernel_rfl
theorem eo34 : elemOK Tryd.prog 34 1 8 = true := by kernel_rfl
theorem sz35 : (Tryd.prog.info? 35).map (·.size) = some 1 := by kernel_rfl
theorem zr35 : (Tryd.prog.info? 35).map (·.zero) = some (some (.slice none 0 0)) := by kernel_rfl
theorem zc35 : (Tryd.prog.info? 35).map (fun i => i.zero.map Value.cells) = some (some #[(.slice none 0 0)]) := by kernel_rfl
theorem eo35 : elemOK Tryd.prog 35 1 24 = true := by kernel_rfl
theorem sz36 : (Tryd.prog.info? 36).map (·.size) = some 1 := by kernel_rfl
theorem zr36 : (Tryd.prog.info? 36).map (·.zero) = some (some .nilFunc) := by kernel_rfl
theorem zc36 : (Tryd.prog.info? 36).map (fun i => i.zero.map Value.cells) = some (some #[.nilFunc]) := by kernel_rfl
theorem eo36 : elemOK Tryd.prog 36 1 8 = true := by kernel_rfl
theorem sz37 : (Tryd.prog.info? 37).map (·.size) = some 1 := by kernel_rfl
theorem zr37 : (Tryd.prog.info? 37).map (·.zero) = some (some .nilFunc) := by kernel_rfl
theorem zc37 : (Tryd.prog.info? 37).map (fun i => i.zero.map Value.cells) = some (some #[.nilFunc]) := by kernel_rfl
theorem eo37 : elemOK Tryd.prog 37 1 8 = true := by kernel_rfl
theorem sz38 : (Tryd.prog.info? 38).map (·.size) = some 1 := by kernel_rfl
theorem zr38 : (Tryd.prog.info? 38).map (·.zero) = some (some .nilFunc) := by kernel_rfl
theorem zc38 : (Tryd.prog.info? 38).map (fun i => i.zero.map Value.cells) = some (some #[.nilFunc]) := by kernel_rfl
theorem eo38 : elemOK Tryd.prog 38 1 8 = true := by kernel_rfl
theorem sz39 : (Tryd.prog.info? 39).map (·.size) = some 1 := by kernel_rfl
theorem zr39 : (Tryd.prog.info? 39).map (·.zero) = some (some .nilFunc) := by kernel_rfl
theorem zc39 : (Tryd.prog.info? 39).map (fun i => i.zero.map Value.cells) = some (some #[.nilFunc]) := by kernel_rfl
theorem eo39 : elemOK Tryd.prog 39 1 8 = true := by kernel_rfl
theorem sz40 : (Tryd.prog.info? 40).map (·.size) = some 1 := by kernel_rfl
theorem zr40 : (Tryd.prog.info? 40).map (·.zero) = some (some .nilFunc) := by kernel_rfl
theorem zc40 : (Tryd.prog.info? 40).map (fun i => i.zero.map Value.cells) = some (some #[.nilFunc]) := by kernel_rfl
theorem eo40 : elemOK Tryd.prog 40 1 8 = true := by kernel_rfl
theorem sz41 : (Tryd.prog.info? 41).map (·.size) = some 1 := by kernel_rfl
theorem zr41 : (Tryd.prog.info? 41).map (·.zero) = some (some .nilFunc) := by kernel_rfl
theorem zc41 : (Tryd.prog.info? 41).map (fun i => i.zero.map Value.cells) = some (some #[.nilFunc]) := by kernel_rfl
theorem eo41 : elemOK Tryd.prog 41 1 8 = true := by kernel_rfl
theorem sz42 : (Tryd.prog.info? 42).map (·.size) = some 1 := by kernel_rfl
theorem zr42 : (Tryd.prog.info? 42).map (·.zero) = some (some (.int .u64 0)) := by kernel_rfl
theorem zc42 : (Tryd.prog.info? 42).map (fun i => i.zero.map Value.cells) = some (some #[(.int .u64 0)]) := by kernel_rfl
theorem eo42 : elemOK Tryd.prog 42 1 8 = true := by kernel_rfl
theorem sz43 : (Tryd.prog.info? 43).map (·.size) = some 1 := by kernel_rfl
theorem sz44 : (Tryd.prog.info? 44).map (·.size) = some 1 := by kernel_rfl
theorem zr44 : (Tryd.prog.info? 44).map (·.zero) = some (some .nilFunc) := by kernel_rfl
theorem zc44 : (Tryd.prog.info? 44).map (fun i => i.zero.map Value.cells) = some (some #[.nilFunc]) := by kernel_rfl
theorem eo44 : elemOK Tryd.prog 44 1 8 = true := by kernel_rfl
theorem sz45 : (Tryd.prog.info? 45).map (·.size) = some 1 := by kernel_rfl
theorem zr45 : (Tryd.prog.info? 45).map (·.zero) = some (some (.int .u32 0)) := by kernel_rfl
theorem zc45 : (Tryd.prog.info? 45).map (fun i => i.zero.map Value.cells) = some (some #[(.int .u32 0)]) := by kernel_rfl
theorem eo45 : elemOK Tryd.prog 45 1 4 = true := by kernel_rfl
theorem sz46 : (Tryd.prog.info? 46).map (·.size) = some 1 := by kernel_rfl
theorem sz47 : (Tryd.prog.info? 47).map (·.size) = some 1 := by kernel_rfl
theorem zr47 : (Tryd.prog.info? 47).map (·.zero) = some (some .nilFunc) := by kernel_rfl
theorem zc47 : (Tryd.prog.info? 47).map (fun i => i.zero.map Value.cells) = some (some #[.nilFunc]) := by kernel_rfl
theorem eo47 : elemOK Tryd.prog 47 1 8 = true := by kernel_rfl
theorem sz48 : (Tryd.prog.info? 48).map (·.size) = some 256 := by kernel_rfl
theorem sz49 : (Tryd.prog.info? 49).map (·.size) = some 2 := by kernel_rfl
theorem zr49 : (Tryd.prog.info? 49).map (·.zero) = some (some (.agg #[(.int .u8 0), (.int .u8 0)])) := by kernel_rfl
theorem zc49 : (Tryd.prog.info? 49).map (fun i => i.zero.map Value.cells) = some (some #[(.int .u8 0), (.int .u8 0)]) := by kernel_rfl
theorem eo49 : elemOK Tryd.prog 49 2 2 = true := by kernel_rfl
theorem fi49_0 : fieldInfo Tryd.prog 49 0 = some (0, 1) := by kernel_rfl
theorem fp49_0 : fieldPart Tryd.prog 49 0 = some (false, 0, 1) := by kernel_rfl
theorem fi49_1 : fieldInfo Tryd.prog 49 1 = some (1, 1) := by kernel_rfl
theorem fp49_1 : fieldPart Tryd.prog 49 1 = some (false, 1, 1) := by kernel_rfl
theorem pl49 : placesOf Tryd.prog 49 = some [(0, 1), (1, 1)] := by kernel_rfl
theorem sz50 : (Tryd.prog.info? 50).map (·.size) = some 2 := by kernel_rfl
theorem zr50 : (Tryd.prog.info? 50).map (·.zero) = some (some (.agg #[(.int .u8 0), (.int .u8 0)])) := by kernel_rfl
theorem zc50 : (Tryd.prog.info? 50).map (fun i => i.zero.map Value.cells) = some (some #[(.int .u8 0), (.int .u8 0)]) := by kernel_rfl
theorem eo50 : elemOK Tryd.prog 50 2 2 = true := by kernel_rfl
theorem fi50_0 : fieldInfo Tryd.prog 50 0 = some (0, 1) := by kernel_rfl
theorem fp50_0 : fieldPart Tryd.prog 50 0 = some (false, 0, 1) := by kernel_rfl
theorem fi50_1 : fieldInfo Tryd.prog 50 1 = some (1, 1) := by kernel_rfl
theorem fp50_1 : fieldPart Tryd.prog 50 1 = some (false, 1, 1) := by kernel_rfl
theorem pl50 : placesOf Tryd.prog 50 = some [(0, 1), (1, 1)] := by kernel_rfl
theorem sz51 : (Tryd.prog.info? 51).map (·.size) = some 32 := by kernel_rfl
theorem zr51 : (Tryd.prog.info? 51).map (·.zero) = some (some (.agg (List.toArray ((.int .u8 0) :: (.int .u8 0) :: (.int .u8 0) :: (.int .u8 0) :: (.int .u8 0) :: (.int .u8 0) :: (.int .u8 0) :: (.int .u8 0) :: (.int .u8 0) :: (.int .u8 0) :: (.int .u8 0) :: (.int .u8 0) :: (.int .u8 0) :: (.int .u8 0) :: (.int .u8 0) :: (.int .u8 0) :: (.int .u8 0) :: (.int .u8 0) :: (.int .u8 0) :: (.int .u8 0) :: (.int .u8 0) :: (.int .u8 0) :: (.int .u8 0) :: (.int .u8 0) :: (.int .u8 0) :: (.int .u8 0) :: (.int .u8 0) :: (.int .u8 0) :: (.int .u8 0) :: (.int .u8 0) :: (.int .u8 0) :: (.int .u8 0) :: [])))) := by kernel_rfl
theorem zc51 : (Tryd.prog.info? 51).map (fun i => i.zero.map Value.cells) = some (some (List.toArray ((.int .u8 0) :: (.int .u8 0) :: (.int .u8 0) :: (.int .u8 0) :: (.int .u8 0) :: (.int .u8 0) :: (.int .u8 0) :: (.int .u8 0) :: (.int .u8 0) :: (.int .u8 0) :: (.int .u8 0) :: (.int .u8 0) :: (.int .u8 0) :: (.int .u8 0) :: (.int .u8 0) :: (.int .u8 0) :: (.int .u8 0) :: (.int .u8 0) :: (.int .u8 0) :: (.int .u8 0) :: (.int .u8 0) :: (.int .u8 0) :: (.int .u8 0) :: (.int .u8 0) :: (.int .u8 0) :: (.int .u8 0) :: (.int .u8 0) :: (.int .u8 0) :: (.int .u8 0) :: (.int .u8 0) :: (.int .u8 0) :: (.int .u8 0) :: []))) := by kernel_rfl
theorem eo51 : elemOK Tryd.prog 51 32 32 = true := by kernel_rfl
theorem sz52 : (Tryd.prog.info? 52).map (·.size) = some 1 := by kernel_rfl
theorem zr52 : (Tryd.prog.info? 52).map (·.zero) = some (some .nilFunc) := by kernel_rfl
theorem zc52 : (Tryd.prog.info? 52).map (fun i => i.zero.map Value.cells) = some (some #[.nilFunc]) := by kernel_rfl
theorem eo52 : elemOK Tryd.prog 52 1 8 = true := by kernel_rfl
theorem sz53 : (Tryd.prog.info? 53).map (·.size) = some 4 := by kernel_rfl
theorem zr53 : (Tryd.prog.info? 53).map (·.zero) = some (some (.agg #[(.pointer none), (.pointer none), (.pointer none), (.string ⟨#[]⟩)])) := by kernel_rfl
theorem zc53 : (Tryd.prog.info? 53).map (fun i => i.zero.map Value.cells) = some (some #[(.pointer none), (.pointer none), (.pointer none), (.string ⟨#[]⟩)]) := by kernel_rfl
theorem eo53 : elemOK Tryd.prog 53 4 40 = true := by kernel_rfl
theorem fi53_0 : fieldInfo Tryd.prog 53 0 = some (0, 1) := by kernel_rfl
theorem fp53_0 : fieldPart Tryd.prog 53 0 = some (false, 0, 1) := by kernel_rfl
theorem fi53_1 : fieldInfo Tryd.prog 53 1 = some (1, 1) := by kernel_rfl
theorem fp53_1 : fieldPart Tryd.prog 53 1 = some (false, 1, 1) := by kernel_rfl
theorem fi53_2 : fieldInfo Tryd.prog 53 2 = some (2, 1) := by kernel_rfl
theorem fp53_2 : fieldPart Tryd.prog 53 2 = some (false, 2, 1) := by kernel_rfl
theorem fi53_3 : fieldInfo Tryd.prog 53 3 = some (3, 1) := by kernel_rfl
theorem fp53_3 : fieldPart Tryd.prog 53 3 = some (false, 3, 1) := by kernel_rfl
theorem pl53 : placesOf Tryd.prog 53 = some [(0, 1), (1, 1), (2, 1), (3, 1)] := by kernel_rfl
theorem sz54 : (Tryd.prog.info? 54).map (·.size) = some 4 := by kernel_rfl
theorem zr54 : (Tryd.prog.info? 54).map (·.zero) = some (some (.agg #[(.pointer none), (.pointer none), (.pointer none), (.string ⟨#[]⟩)])) := by kernel_rfl
theorem zc54 : (Tryd.prog.info? 54).map (fun i => i.zero.map Value.cells) = some (some #[(.pointer none), (.pointer none), (.pointer none), (.string ⟨#[]⟩)]) := by kernel_rfl
theorem eo54 : elemOK Tryd.prog 54 4 40 = true := by kernel_rfl
theorem fi54_0 : fieldInfo Tryd.prog 54 0 = some (0, 1) := by kernel_rfl
theorem fp54_0 : fieldPart Tryd.prog 54 0 = some (false, 0, 1) := by kernel_rfl
theorem fi54_1 : fieldInfo Tryd.prog 54 1 = some (1, 1) := by kernel_rfl
theorem fp54_1 : fieldPart Tryd.prog 54 1 = some (false, 1, 1) := by kernel_rfl
theorem fi54_2 : fieldInfo Tryd.prog 54 2 = some (2, 1) := by kernel_rfl
theorem fp54_2 : fieldPart Tryd.prog 54 2 = some (false, 2, 1) := by kernel_rfl
theorem fi54_3 : fieldInfo Tryd.prog 54 3 = some (3, 1) := by kernel_rfl
theorem fp54_3 : fieldPart Tryd.prog 54 3 = some (false, 3, 1) := by kernel_rfl
theorem pl54 : placesOf Tryd.prog 54 = some [(0, 1), (1, 1), (2, 1), (3, 1)] := by kernel_rfl
theorem sz55 : (Tryd.prog.info? 55).map (·.size) = some 0 := by kernel_rfl
theorem zr55 : (Tryd.prog.info? 55).map (·.zero) = some (some (.agg #[])) := by kernel_rfl
theorem sz56 : (Tryd.prog.info? 56).map (·.size) = some 0 := by kernel_rfl
theorem zr56 : (Tryd.prog.info? 56).map (·.zero) = some (some (.agg #[])) := by kernel_rfl
theorem fi56_0 : fieldInfo Tryd.prog 56 0 = some (0, 0) := by kernel_rfl
theorem fp56_0 : fieldPart Tryd.prog 56 0 = some (true, 0, 0) := by kernel_rfl
theorem pl56 : placesOf Tryd.prog 56 = some [(0, 0)] := by kernel_rfl
theorem sz57 : (Tryd.prog.info? 57).map (·.size) = some 0 := by kernel_rfl
theorem zr57 : (Tryd.prog.info? 57).map (·.zero) = some (some (.agg #[])) := by kernel_rfl
theorem fi57_0 : fieldInfo Tryd.prog 57 0 = some (0, 0) := by kernel_rfl
theorem fp57_0 : fieldPart Tryd.prog 57 0 = some (true, 0, 0) := by kernel_rfl
theorem pl57 : placesOf Tryd.prog 57 = some [(0, 0)] := by kernel_rfl
theorem sz58 : (Tryd.prog.info? 58).map (·.size) = some 1 := by kernel_rfl
theorem zr58 : (Tryd.prog.info? 58).map (·.zero) = some (some .nilFunc) := by kernel_rfl
theorem zc58 : (Tryd.prog.info? 58).map (fun i => i.zero.map Value.cells) = some (some #[.nilFunc]) := by kernel_rfl
theorem eo58 : elemOK Tryd.prog 58 1 8 = true := by kernel_rfl
theorem sz59 : (Tryd.prog.info? 59).map (·.size) = some 1 := by kernel_rfl
theorem zr59 : (Tryd.prog.info? 59).map (·.zero) = some (some (.int .u8 0)) := by kernel_rfl
theorem zc59 : (Tryd.prog.info? 59).map (fun i => i.zero.map Value.cells) = some (some #[(.int .u8 0)]) := by kernel_rfl
theorem eo59 : elemOK Tryd.prog 59 1 1 = true := by kernel_rfl
theorem sz60 : (Tryd.prog.info? 60).map (·.size) = some 1 := by kernel_rfl
theorem zr60 : (Tryd.prog.info? 60).map (·.zero) = some (some (.int .u8 0)) := by kernel_rfl
theorem zc60 : (Tryd.prog.info? 60).map (fun i => i.zero.map Value.cells) = some (some #[(.int .u8 0)]) := by kernel_rfl
theorem eo60 : elemOK Tryd.prog 60 1 1 = true := by kernel_rfl
theorem sz61 : (Tryd.prog.info? 61).map (·.size) = some 1 := by kernel_rfl
theorem zr61 : (Tryd.prog.info? 61).map (·.zero) = some (some .nilFunc) := by kernel_rfl
theorem zc61 : (Tryd.prog.info? 61).map (fun i => i.zero.map Value.cells) = some (some #[.nilFunc]) := by kernel_rfl
theorem eo61 : elemOK Tryd.prog 61 1 8 = true := by kernel_rfl
theorem sz62 : (Tryd.prog.info? 62).map (·.size) = some 1 := by kernel_rfl
theorem zr62 : (Tryd.prog.info? 62).map (·.zero) = some (some (.pointer none)) := by kernel_rfl
theorem zc62 : (Tryd.prog.info? 62).map (fun i => i.zero.map Value.cells) = some (some #[(.pointer none)]) := by kernel_rfl
theorem eo62 : elemOK Tryd.prog 62 1 8 = true := by kernel_rfl
theorem sz63 : (Tryd.prog.info? 63).map (·.size) = some 1 := by kernel_rfl
theorem zr63 : (Tryd.prog.info? 63).map (·.zero) = some (some (.int .i32 0)) := by kernel_rfl
theorem zc63 : (Tryd.prog.info? 63).map (fun i => i.zero.map Value.cells) = some (some #[(.int .i32 0)]) := by kernel_rfl
theorem eo63 : elemOK Tryd.prog 63 1 4 = true := by kernel_rfl
theorem sz64 : (Tryd.prog.info? 64).map (·.size) = some 1 := by kernel_rfl
theorem zr64 : (Tryd.prog.info? 64).map (·.zero) = some (some (.int .i32 0)) := by kernel_rfl
theorem zc64 : (Tryd.prog.info? 64).map (fun i => i.zero.map Value.cells) = some (some #[(.int .i32 0)]) := by kernel_rfl
theorem eo64 : elemOK Tryd.prog 64 1 4 = true := by kernel_rfl
theorem sz65 : (Tryd.prog.info? 65).map (·.size) = some 11 := by kernel_rfl
theorem zr65 : (Tryd.prog.info? 65).map (·.zero) = some (some (.agg #[(.int .u64 0), (.int .u64 0), (.int .u32 0), (.int .u8 0), (.int .u8 0), (.int .u8 0), (.int .u8 0), .nilFunc, (.pointer none), (.int .i32 0), (.int .i32 0)])) := by kernel_rfl
theorem zc65 : (Tryd.prog.info? 65).map (fun i => i.zero.map Value.cells) = some (some #[(.int .u64 0), (.int .u64 0), (.int .u32 0), (.int .u8 0), (.int .u8 0), (.int .u8 0), (.int .u8 0), .nilFunc, (.pointer none), (.int .i32 0), (.int .i32 0)]) := by kernel_rfl
theorem eo65 : elemOK Tryd.prog 65 11 48 = true := by kernel_rfl
theorem fi65_0 : fieldInfo Tryd.prog 65 0 = some (0, 1) := by kernel_rfl
theorem fp65_0 : fieldPart Tryd.prog 65 0 = some (false, 0, 1) := by kernel_rfl
theorem fi65_1 : fieldInfo Tryd.prog 65 1 = some (1, 1) := by kernel_rfl
theorem fp65_1 : fieldPart Tryd.prog 65 1 = some (false, 1, 1) := by kernel_rfl
theorem fi65_2 : fieldInfo Tryd.prog 65 2 = some (2, 1) := by kernel_rfl
theorem fp65_2 : fieldPart Tryd.prog 65 2 = some (false, 2, 1) := by kernel_rfl
theorem fi65_3 : fieldInfo Tryd.prog 65 3 = some (3, 1) := by kernel_rfl
theorem fp65_3 : fieldPart Tryd.prog 65 3 = some (false, 3, 1) := by kernel_rfl
theorem fi65_4 : fieldInfo Tryd.prog 65 4 = some (4, 1) := by kernel_rfl
theorem fp65_4 : fieldPart Tryd.prog 65 4 = some (false, 4, 1) := by kernel_rfl
theorem fi65_5 : fieldInfo Tryd.prog 65 5 = some (5, 1) := by kernel_rfl
theorem fp65_5 : fieldPart Tryd.prog 65 5 = some (false, 5, 1) := by kernel_rfl
theorem fi65_6 : fieldInfo Tryd.prog 65 6 = some (6, 1) := by kernel_rfl
theorem fp65_6 : fieldPart Tryd.prog 65 6 = some (false, 6, 1) := by kernel_rfl
theorem fi65_7 : fieldInfo Tryd.prog 65 7 = some (7, 1) := by kernel_rfl
theorem fp65_7 : fieldPart Tryd.prog 65 7 = some (false, 7, 1) := by kernel_rfl
theorem fi65_8 : fieldInfo Tryd.prog 65 8 = some (8, 1) := by kernel_rfl
theorem fp65_8 : fieldPart Tryd.prog 65 8 = some (false, 8, 1) := by kernel_rfl
theorem fi65_9 : fieldInfo Tryd.prog 65 9 = some (9, 1) := by kernel_rfl
theorem fp65_9 : fieldPart Tryd.prog 65 9 = some (false, 9, 1) := by kernel_rfl
theorem fi65_10 : fieldInfo Tryd.prog 65 10 = some (10, 1) := by kernel_rfl
theorem fp65_10 : fieldPart Tryd.prog 65 10 = some (false, 10, 1) := by kernel_rfl
theorem pl65 : placesOf Tryd.prog 65 = some [(0, 1), (1, 1), (2, 1), (3, 1), (4, 1), (5, 1), (6, 1), (7, 1), (8, 1), (9, 1), (10, 1)] := by kernel_rfl
theorem sz66 : (Tryd.prog.info? 66).map (·.size) = some 11 := by kernel_rfl
theorem zr66 : (Tryd.prog.info? 66).map (·.zero) = some (some (.agg #[(.int .u64 0), (.int .u64 0), (.int .u32 0), (.int .u8 0), (.int .u8 0), (.int .u8 0), (.int .u8 0), .nilFunc, (.pointer none), (.int .i32 0), (.int .i32 0)])) := by kernel_rfl
theorem zc66 : (Tryd.prog.info? 66).map (fun i => i.zero.map Value.cells) = some (some #[(.int .u64 0), (.int .u64 0), (.int .u32 0), (.int .u8 0), (.int .u8 0), (.int .u8 0), (.int .u8 0), .nilFunc, (.pointer none), (.int .i32 0), (.int .i32 0)]) := by kernel_rfl
theorem eo66 : elemOK Tryd.prog 66 11 48 = true := by kernel_rfl
theorem fi66_0 : fieldInfo Tryd.prog 66 0 = some (0, 1) := by kernel_rfl
theorem fp66_0 : fieldPart Tryd.prog 66 0 = some (false, 0, 1) := by kernel_rfl
theorem fi66_1 : fieldInfo Tryd.prog 66 1 = some (1, 1) := by kernel_rfl
theorem fp66_1 : fieldPart Tryd.prog 66 1 = some (false, 1, 1) := by kernel_rfl
theorem fi66_2 : fieldInfo Tryd.prog 66 2 = some (2, 1) := by kernel_rfl
theorem fp66_2 : fieldPart Tryd.prog 66 2 = some (false, 2, 1) := by kernel_rfl
theorem fi66_3 : fieldInfo Tryd.prog 66 3 = some (3, 1) := by kernel_rfl
theorem fp66_3 : fieldPart Tryd.prog 66 3 = some (false, 3, 1) := by kernel_rfl
theorem fi66_4 : fieldInfo Tryd.prog 66 4 = some (4, 1) := by kernel_rfl
theorem fp66_4 : fieldPart Tryd.prog 66 4 = some (false, 4, 1) := by kernel_rfl
theorem fi66_5 : fieldInfo Tryd.prog 66 5 = some (5, 1) := by kernel_rfl
theorem fp66_5 : fieldPart Tryd.prog 66 5 = some (false, 5, 1) := by kernel_rfl
theorem fi66_6 : fieldInfo Tryd.prog 66 6 = some (6, 1) := by kernel_rfl
theorem fp66_6 : fieldPart Tryd.prog 66 6 = some (false, 6, 1) := by kernel_rfl
theorem fi66_7 : fieldInfo Tryd.prog 66 7 = some (7, 1) := by kernel_rfl
theorem fp66_7 : fieldPart Tryd.prog 66 7 = some (false, 7, 1) := by kernel_rfl
theorem fi66_8 : fieldInfo Tryd.prog 66 8 = some (8, 1) := by kernel_rfl
theorem fp66_8 : fieldPart Tryd.prog 66 8 = some (false, 8, 1) := by kernel_rfl
theorem fi66_9 : fieldInfo Tryd.prog 66 9 = some (9, 1) := by kernel_rfl
theorem fp66_9 : fieldPart Tryd.prog 66 9 = some (false, 9, 1) := by kernel_rfl
theorem fi66_10 : fieldInfo Tryd.prog 66 10 = some (10, 1) := by kernel_rfl
theorem fp66_10 : fieldPart Tryd.prog 66 10 = some (false, 10, 1) := by kernel_rfl
theorem pl66 : placesOf Tryd.prog 66 = some [(0, 1), (1, 1), (2, 1), (3, 1), (4, 1), (5, 1), (6, 1), (7, 1), (8, 1), (9, 1), (10, 1)] := by kernel_rfl
theorem sz67 : (Tryd.prog.info? 67).map (·.size) = some 1 := by kernel_rfl
theorem zr67 : (Tryd.prog.info? 67).map (·.zero) = some (some (.pointer none)) := by kernel_rfl
theorem zc67 : (Tryd.prog.info? 67).map (fun i => i.zero.map Value.cells) = some (some #[(.pointer none)]) := by kernel_rfl
theorem eo67 : elemOK Tryd.prog 67 1 8 = true := by kernel_rfl
end Go.Proofs.YtckkmfoccefcfaaDoor

