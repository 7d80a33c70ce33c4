/- Facts on the types of the program: sizes, zero values, fields. -/
import Derived.Test.YtcjnecmgificmaaDoorProg
import Derived.Test.YtcjnecmgificmaaDoorMa2
namespace Go.Proofs.YtcjnecmgificmaaDoor
set_option linter.unusedVariables false
theorem sz0 : (Tryd.prog.info? 0).map (·.size) = some 1 := by kernel_rfl
theorem sz1 : (Tryd.prog.info? 1).map (·.size) = some 1 := by kernel_rfl
theorem zr1 : (Tryd.prog.info? 1).map (·.zero) = some (some .nilFunc) := by kernel_rfl
theorem zc1 : (Tryd.prog.info? 1).map (fun i => i.zero.map Value.cells) = some (some #[.nilFunc]) := by kernel_rfl
theorem eo1 : elemOK Tryd.prog 1 1 8 = true := by kernel_rfl
theorem sz2 : (Tryd.prog.info? 2).map (·.size) = some 1 := by kernel_rfl
theorem zr2 : (Tryd.prog.info? 2).map (·.zero) = some (some (.int .i64 0)) := by kernel_rfl
theorem zc2 : (Tryd.prog.info? 2).map (fun i => i.zero.map Value.cells) = some (some #[(.int .i64 0)]) := by kernel_rfl
theorem eo2 : elemOK Tryd.prog 2 1 8 = true := by kernel_rfl
theorem sz3 : (Tryd.prog.info? 3).map (·.size) = some 1 := by kernel_rfl
theorem zr3 : (Tryd.prog.info? 3).map (·.zero) = some (some (.int .i64 0)) := by kernel_rfl
theorem zc3 : (Tryd.prog.info? 3).map (fun i => i.zero.map Value.cells) = some (some #[(.int .i64 0)]) := by kernel_rfl
theorem eo3 : elemOK Tryd.prog 3 1 8 = true := by kernel_rfl
theorem sz4 : (Tryd.prog.info? 4).map (·.size) = some 1 := by kernel_rfl
theorem zr4 : (Tryd.prog.info? 4).map (·.zero) = some (some (.bool false)) := by kernel_rfl
theorem zc4 : (Tryd.prog.info? 4).map (fun i => i.zero.map Value.cells) = some (some #[(.bool false)]) := by kernel_rfl
theorem eo4 : elemOK Tryd.prog 4 1 1 = true := by kernel_rfl
theorem sz5 : (Tryd.prog.info? 5).map (·.size) = some 1 := by kernel_rfl
theorem zr5 : (Tryd.prog.info? 5).map (·.zero) = some (some (.int .u8 0)) := by kernel_rfl
theorem zc5 : (Tryd.prog.info? 5).map (fun i => i.zero.map Value.cells) = some (some #[(.int .u8 0)]) := by kernel_rfl
theorem eo5 : elemOK Tryd.prog 5 1 1 = true := by kernel_rfl
theorem sz6 : (Tryd.prog.info? 6).map (·.size) = some 1 := by kernel_rfl
theorem zr6 : (Tryd.prog.info? 6).map (·.zero) = some (some (.int .u8 0)) := by kernel_rfl
theorem zc6 : (Tryd.prog.info? 6).map (fun i => i.zero.map Value.cells) = some (some #[(.int .u8 0)]) := by kernel_rfl
theorem eo6 : elemOK Tryd.prog 6 1 1 = true := by kernel_rfl
theorem sz7 : (Tryd.prog.info? 7).map (·.size) = some 4 := by kernel_rfl
theorem zr7 : (Tryd.prog.info? 7).map (·.zero) = some (some (.agg #[(.int .i64 0), (.int .i64 0), (.bool false), (.int .u8 0)])) := by kernel_rfl
theorem zc7 : (Tryd.prog.info? 7).map (fun i => i.zero.map Value.cells) = some (some #[(.int .i64 0), (.int .i64 0), (.bool false), (.int .u8 0)]) := by kernel_rfl
theorem eo7 : elemOK Tryd.prog 7 4 24 = true := by kernel_rfl
theorem fi7_0 : fieldInfo Tryd.prog 7 0 = some (0, 1) := by kernel_rfl
theorem fp7_0 : fieldPart Tryd.prog 7 0 = some (false, 0, 1) := by kernel_rfl
theorem fi7_1 : fieldInfo Tryd.prog 7 1 = some (1, 1) := by kernel_rfl
theorem fp7_1 : fieldPart Tryd.prog 7 1 = some (false, 1, 1) := by kernel_rfl
theorem fi7_2 : fieldInfo Tryd.prog 7 2 = some (2, 1) := by kernel_rfl
theorem fp7_2 : fieldPart Tryd.prog 7 2 = some (false, 2, 1) := by kernel_rfl
theorem fi7_3 : fieldInfo Tryd.prog 7 3 = some (3, 1) := by kernel_rfl
theorem fp7_3 : fieldPart Tryd.prog 7 3 = some (false, 3, 1) := by kernel_rfl
theorem pl7 : placesOf Tryd.prog 7 = some [(0, 1), (1, 1), (2, 1), (3, 1)] := by kernel_rfl
theorem sz8 : (Tryd.prog.info? 8).map (·.size) = some 4 := by kernel_rfl
theorem zr8 : (Tryd.prog.info? 8).map (·.zero) = some (some (.agg #[(.int .i64 0), (.int .i64 0), (.bool false), (.int .u8 0)])) := by kernel_rfl
theorem zc8 : (Tryd.prog.info? 8).map (fun i => i.zero.map Value.cells) = some (some #[(.int .i64 0), (.int .i64 0), (.bool false), (.int .u8 0)]) := by kernel_rfl
theorem eo8 : elemOK Tryd.prog 8 4 24 = true := by kernel_rfl
theorem fi8_0 : fieldInfo Tryd.prog 8 0 = some (0, 1) := by kernel_rfl
theorem fp8_0 : fieldPart Tryd.prog 8 0 = some (false, 0, 1) := by kernel_rfl
theorem fi8_1 : fieldInfo Tryd.prog 8 1 = some (1, 1) := by kernel_rfl
theorem fp8_1 : fieldPart Tryd.prog 8 1 = some (false, 1, 1) := by kernel_rfl
theorem fi8_2 : fieldInfo Tryd.prog 8 2 = some (2, 1) := by kernel_rfl
theorem fp8_2 : fieldPart Tryd.prog 8 2 = some (false, 2, 1) := by kernel_rfl
theorem fi8_3 : fieldInfo Tryd.prog 8 3 = some (3, 1) := by kernel_rfl
theorem fp8_3 : fieldPart Tryd.prog 8 3 = some (false, 3, 1) := by kernel_rfl
theorem pl8 : placesOf Tryd.prog 8 = some [(0, 1), (1, 1), (2, 1), (3, 1)] := by kernel_rfl
theorem sz9 : (Tryd.prog.info? 9).map (·.size) = some 1 := by kernel_rfl
theorem zr9 : (Tryd.prog.info? 9).map (·.zero) = some (some (.string ⟨#[]⟩)) := by kernel_rfl
theorem zc9 : (Tryd.prog.info? 9).map (fun i => i.zero.map Value.cells) = some (some #[(.string ⟨#[]⟩)]) := by kernel_rfl
theorem eo9 : elemOK Tryd.prog 9 1 16 = true := by kernel_rfl
theorem sz10 : (Tryd.prog.info? 10).map (·.size) = some 1 := by kernel_rfl
theorem zr10 : (Tryd.prog.info? 10).map (·.zero) = some (some (.string ⟨#[]⟩)) := by kernel_rfl
theorem zc10 : (Tryd.prog.info? 10).map (fun i => i.zero.map Value.cells) = some (some #[(.string ⟨#[]⟩)]) := by kernel_rfl
theorem eo10 : elemOK Tryd.prog 10 1 16 = true := by kernel_rfl
theorem sz11 : (Tryd.prog.info? 11).map (·.size) = some 1 := by kernel_rfl
theorem zr11 : (Tryd.prog.info? 11).map (·.zero) = some (some (.string ⟨#[]⟩)) := by kernel_rfl
theorem zc11 : (Tryd.prog.info? 11).map (fun i => i.zero.map Value.cells) = some (some #[(.string ⟨#[]⟩)]) := by kernel_rfl
theorem eo11 : elemOK Tryd.prog 11 1 16 = true := by kernel_rfl
theorem sz12 : (Tryd.prog.info? 12).map (·.size) = some 1 := by kernel_rfl
theorem zr12 : (Tryd.prog.info? 12).map (·.zero) = some (some (.int .u64 0)) := by kernel_rfl
theorem zc12 : (Tryd.prog.info? 12).map (fun i => i.zero.map Value.cells) = some (some #[(.int .u64 0)]) := by kernel_rfl
theorem eo12 : elemOK Tryd.prog 12 1 8 = true := by kernel_rfl
theorem sz13 : (Tryd.prog.info? 13).map (·.size) = some 2 := by kernel_rfl
theorem zr13 : (Tryd.prog.info? 13).map (·.zero) = some (some (.agg #[(.string ⟨#[]⟩), (.int .u64 0)])) := by kernel_rfl
theorem zc13 : (Tryd.prog.info? 13).map (fun i => i.zero.map Value.cells) = some (some #[(.string ⟨#[]⟩), (.int .u64 0)]) := by kernel_rfl
theorem eo13 : elemOK Tryd.prog 13 2 24 = true := by kernel_rfl
theorem fi13_0 : fieldInfo Tryd.prog 13 0 = some (0, 1) := by kernel_rfl
theorem fp13_0 : fieldPart Tryd.prog 13 0 = some (false, 0, 1) := by kernel_rfl
theorem fi13_1 : fieldInfo Tryd.prog 13 1 = some (1, 1) := by kernel_rfl
theorem fp13_1 : fieldPart Tryd.prog 13 1 = some (false, 1, 1) := by kernel_rfl
theorem pl13 : placesOf Tryd.prog 13 = some [(0, 1), (1, 1)] := by kernel_rfl
theorem sz14 : (Tryd.prog.info? 14).map (·.size) = some 2 := by kernel_rfl
theorem zr14 : (Tryd.prog.info? 14).map (·.zero) = some (some (.agg #[(.string ⟨#[]⟩), (.int .u64 0)])) := by kernel_rfl
theorem zc14 : (Tryd.prog.info? 14).map (fun i => i.zero.map Value.cells) = some (some #[(.string ⟨#[]⟩), (.int .u64 0)]) := by kernel_rfl
theorem eo14 : elemOK Tryd.prog 14 2 24 = true := by kernel_rfl
theorem fi14_0 : fieldInfo Tryd.prog 14 0 = some (0, 1) := by kernel_rfl
theorem fp14_0 : fieldPart Tryd.prog 14 0 = some (false, 0, 1) := by kernel_rfl
theorem fi14_1 : fieldInfo Tryd.prog 14 1 = some (1, 1) := by kernel_rfl
theorem fp14_1 : fieldPart Tryd.prog 14 1 = some (false, 1, 1) := by kernel_rfl
theorem pl14 : placesOf Tryd.prog 14 = some [(0, 1), (1, 1)] := by kernel_rfl
theorem sz15 : (Tryd.prog.info? 15).map (·.size) = some 1 := by kernel_rfl
theorem zr15 : (Tryd.prog.info? 15).map (·.zero) = some (some (.pointer none)) := by kernel_rfl
theorem zc15 : (Tryd.prog.info? 15).map (fun i => i.zero.map Value.cells) = some (some #[(.pointer none)]) := by kernel_rfl
theorem eo15 : elemOK Tryd.prog 15 1 8 = true := by kernel_rfl
theorem sz16 : (Tryd.prog.info? 16).map (·.size) = some 1 := by kernel_rfl
theorem zr16 : (Tryd.prog.info? 16).map (·.zero) = some (some (.pointer none)) := by kernel_rfl
theorem zc16 : (Tryd.prog.info? 16).map (fun i => i.zero.map Value.cells) = some (some #[(.pointer none)]) := by kernel_rfl
theorem eo16 : elemOK Tryd.prog 16 1 8 = true := by kernel_rfl
theorem sz17 : (Tryd.prog.info? 17).map (·.size) = some 1 := by kernel_rfl
theorem zr17 : (Tryd.prog.info? 17).map (·.zero) = some (some (.pointer none)) := by kernel_rfl
theorem zc17 : (Tryd.prog.info? 17).map (fun i => i.zero.map Value.cells) = some (some #[(.pointer none)]) := by kernel_rfl
theorem eo17 : elemOK Tryd.prog 17 1 8 = true := by kernel_rfl
theorem sz18 : (Tryd.prog.info? 18).map (·.size) = some 1 := by kernel_rfl
theorem zr18 : (Tryd.prog.info? 18).map (·.zero) = some (some (.agg #[(.pointer none)])) := by kernel_rfl
theorem zc18 : (Tryd.prog.info? 18).map (fun i => i.zero.map Value.cells) = some (some #[(.pointer none)]) := by kernel_rfl
theorem eo18 : elemOK Tryd.prog 18 1 8 = true := by kernel_rfl
theorem fi18_0 : fieldInfo Tryd.prog 18 0 = some (0, 1) := by kernel_rfl
theorem fp18_0 : fieldPart Tryd.prog 18 0 = some (false, 0, 1) := by kernel_rfl
theorem pl18 : placesOf Tryd.prog 18 = some [(0, 1)] := by kernel_rfl
theorem sz19 : (Tryd.prog.info? 19).map (·.size) = some 1 := by kernel_rfl
theorem zr19 : (Tryd.prog.info? 19).map (·.zero) = some (some (.agg #[(.pointer none)])) := by kernel_rfl
theorem zc19 : (Tryd.prog.info? 19).map (fun i => i.zero.map Value.cells) = some (some #[(.pointer none)]) := by kernel_rfl
theorem eo19 : elemOK Tryd.prog 19 1 8 = true := by kernel_rfl
theorem fi19_0 : fieldInfo Tryd.prog 19 0 = some (0, 1) := by kernel_rfl
theorem fp19_0 : fieldPart Tryd.prog 19 0 = some (false, 0, 1) := by kernel_rfl
theorem pl19 : placesOf Tryd.prog 19 = some [(0, 1)] := by kernel_rfl
theorem sz20 : (Tryd.prog.info? 20).map (·.size) = some 1 := by kernel_rfl
theorem zr20 : (Tryd.prog.info? 20).map (·.zero) = some (some .nilIface) := by kernel_rfl
theorem zc20 : (Tryd.prog.info? 20).map (fun i => i.zero.map Value.cells) = some (some #[.nilIface]) := by kernel_rfl
theorem eo20 : elemOK Tryd.prog 20 1 16 = true := by kernel_rfl
theorem sz21 : (Tryd.prog.info? 21).map (·.size) = some 1 := by kernel_rfl
theorem zr21 : (Tryd.prog.info? 21).map (·.zero) = some (some (.int .i32 0)) := by kernel_rfl
theorem zc21 : (Tryd.prog.info? 21).map (fun i => i.zero.map Value.cells) = some (some #[(.int .i32 0)]) := by kernel_rfl
theorem eo21 : elemOK Tryd.prog 21 1 4 = true := by kernel_rfl
theorem sz22 : (Tryd.prog.info? 22).map (·.size) = some 1 := by kernel_rfl
theorem zr22 : (Tryd.prog.info? 22).map (·.zero) = some (some (.int .i64 0)) := by kernel_rfl
theorem zc22 : (Tryd.prog.info? 22).map (fun i => i.zero.map Value.cells) = some (some #[(.int .i64 0)]) := by kernel_rfl
theorem eo22 : elemOK Tryd.prog 22 1 8 = true := by kernel_rfl
theorem sz23 : (Tryd.prog.info? 23).map (·.size) = some 1 := by kernel_rfl
theorem sz24 : (Tryd.prog.info? 24).map (·.size) = some 1 := by kernel_rfl
theorem zr24 : (Tryd.prog.info? 24).map (·.zero) = some (some .nilFunc) := by kernel_rfl
theorem zc24 : (Tryd.prog.info? 24).map (fun i => i.zero.map Value.cells) = some (some #[.nilFunc]) := by kernel_rfl
theorem eo24 : elemOK Tryd.prog 24 1 8 = true := by kernel_rfl
theorem sz25 : (Tryd.prog.info? 25).map (·.size) = some 1 := by kernel_rfl
theorem zr25 : (Tryd.prog.info? 25).map (·.zero) = some (some (.int .u32 0)) := by kernel_rfl
theorem zc25 : (Tryd.prog.info? 25).map (fun i => i.zero.map Value.cells) = some (some #[(.int .u32 0)]) := by kernel_rfl
theorem eo25 : elemOK Tryd.prog 25 1 4 = true := by kernel_rfl
theorem sz26 : (Tryd.prog.info? 26).map (·.size) = some 1 := by kernel_rfl
theorem sz27 : (Tryd.prog.info? 27).map (·.size) = some 1 := by kernel_rfl
theorem zr27 : (Tryd.prog.info? 27).map (·.zero) = some (some .nilFunc) := by kernel_rfl
theorem zc27 : (Tryd.prog.info? 27).map (fun i => i.zero.map Value.cells) = some (some #[.nilFunc]) := by kernel_rfl
theorem eo27 : elemOK Tryd.prog 27 1 8 = true := by kernel_rfl
theorem sz28 : (Tryd.prog.info? 28).map (·.size) = some 1 := by kernel_rfl
theorem zr28 : (Tryd.prog.info? 28).map (·.zero) = some (some .nilFunc) := by kernel_rfl
theorem zc28 : (Tryd.prog.info? 28).map (fun i => i.zero.map Value.cells) = some (some #[.nilFunc]) := by kernel_rfl
theorem eo28 : elemOK Tryd.prog 28 1 8 = true := by kernel_rfl
theorem sz29 : (Tryd.prog.info? 29).map (·.size) = some 1 := by kernel_rfl
theorem zr29 : (Tryd.prog.info? 29).map (·.zero) = some (some .nilFunc) := by kernel_rfl
theorem zc29 : (Tryd.prog.info? 29).map (fun i => i.zero.map Value.cells) = some (some #[.nilFunc]) := by kernel_rfl
theorem eo29 : elemOK Tryd.prog 29 1 8 = true := by kernel_rfl
theorem sz30 : (Tryd.prog.info? 30).map (·.size) = some 1 := by kernel_rfl
theorem sz31 : (Tryd.prog.info? 31).map (·.size) = some 1 := by kernel_rfl
theorem zr31 : (Tryd.prog.info? 31).map (·.zero) = some (some .nilFunc) := by kernel_rfl
theorem zc31 : (Tryd.prog.info? 31).map (fun i => i.zero.map Value.cells) = some (some #[.nilFunc]) := by kernel_rfl
theorem eo31 : elemOK Tryd.prog 31 1 8 = true := by kernel_rfl
theorem sz32 : (Tryd.prog.info? 32).map (·.size) = some 1 := by kernel_rfl
theorem zr32 : (Tryd.prog.info? 32).map (·.zero) = some (some .nilFunc) := by kernel_rfl
theorem zc32 : (Tryd.prog.info? 32).map (fun i => i.zero.map Value.cells) = some (some #[.nilFunc]) := by kernel_rfl
theorem eo32 : elemOK Tryd.prog 32 1 8 = true := by kernel_rfl
theorem sz33 : (Tryd.prog.info? 33).map (·.size) = some 2 := by kernel_rfl
theorem zr33 : (Tryd.prog.info? 33).map (·.zero) = some (some (.agg #[(.int .u32 0), (.int .i64 0)])) := by kernel_rfl
theorem zc33 : (Tryd.prog.info? 33).map (fun i => i.zero.map Value.cells) = some (some #[(.int .u32 0), (.int .i64 0)]) := by kernel_rfl
theorem eo33 : elemOK Tryd.prog 33 2 16 = true := by kernel_rfl
theorem fi33_0 : fieldInfo Tryd.prog 33 0 = some (0, 1) := by kernel_rfl
theorem fp33_0 : fieldPart Tryd.prog 33 0 = some (false, 0, 1) := by kernel_rfl
theorem fi33_1 : fieldInfo Tryd.prog 33 1 = some (1, 1) := by kernel_rfl
theorem fp33_1 : fieldPart Tryd.prog 33 1 = some (false, 1, 1) := by kernel_rfl
theorem pl33 : placesOf Tryd.prog 33 = some [(0, 1), (1, 1)] := by kernel_rfl
theorem sz34 : (Tryd.prog.info? 34).map (·.size) = some 2 := by kernel_rfl
theorem zr34 : (Tryd.prog.info? 34).map (·.zero) = some (some (.agg #[(.int .u32 0), (.int .i64 0)])) := by kernel_rfl
theorem zc34 : (Tryd.prog.info? 34).map (fun i => i.zero.map Value.cells) = some (some #[(.int .u32 0), (.int .i64 0)]) := by kernel_rfl
theorem eo34 : elemOK Tryd.prog 34 2 16 = true := by kernel_rfl
theorem fi34_0 : fieldInfo Tryd.prog 34 0 = some (0, 1) := by kernel_rfl
theorem fp34_0 : fieldPart Tryd.prog 34 0 = some (false, 0, 1) := by kernel_rfl
theorem fi34_1 : fieldInfo Tryd.prog 34 1 = some (1, 1) := by kernel_rfl
theorem fp34_1 : fieldPart Tryd.prog 34 1 = some (false, 1, 1) := by kernel_rfl
theorem pl34 : placesOf Tryd.prog 34 = some [(0, 1), (1, 1)] := by kernel_rfl
theorem sz35 : (Tryd.prog.info? 35).map (·.size) = some 1 := by kernel_rfl
theorem sz36 : (Tryd.prog.info? 36).map (·.size) = some 1 := by kernel_rfl
theorem zr36 : (Tryd.prog.info? 36).map (·.zero) = some (some .nilFunc) := by kernel_rfl
theorem zc36 : (Tryd.prog.info? 36).map (fun i => i.zero.map Value.cells) = some (some #[.nilFunc]) := by kernel_rfl
theorem eo36 : elemOK Tryd.prog 36 1 8 = true := by kernel_rfl
theorem sz37 : (Tryd.prog.info? 37).map (·.size) = some 1 := by kernel_rfl
theorem sz38 : (Tryd.prog.info? 38).map (·.size) = some 1 := by kernel_rfl
theorem zr38 : (Tryd.prog.info? 38).map (·.zero) = some (some .nilFunc) := by kernel_rfl
theorem zc38 : (Tryd.prog.info? 38).map (fun i => i.zero.map Value.cells) = some (some #[.nilFunc]) := by kernel_rfl
theorem eo38 : elemOK Tryd.prog 38 1 8 = true := by kernel_rfl
theorem sz39 : (Tryd.prog.info? 39).map (·.size) = some 1 := by kernel_rfl
theorem zr39 : (Tryd.prog.info? 39).map (·.zero) = some (some .nilFunc) := by kernel_rfl
theorem zc39 : (Tryd.prog.info? 39).map (fun i => i.zero.map Value.cells) = some (some #[.nilFunc]) := by kernel_rfl
theorem eo39 : elemOK Tryd.prog 39 1 8 = true := by kernel_rfl
theorem sz40 : (Tryd.prog.info? 40).map (·.size) = some 1 := by kernel_rfl
theorem zr40 : (Tryd.prog.info? 40).map (·.zero) = some (some (.int .u64 0)) := by kernel_rfl
theorem zc40 : (Tryd.prog.info? 40).map (fun i => i.zero.map Value.cells) = some (some #[(.int .u64 0)]) := by kernel_rfl
theorem eo40 : elemOK Tryd.prog 40 1 8 = true := by kernel_rfl
theorem sz41 : (Tryd.prog.info? 41).map (·.size) = some 3 := by kernel_rfl
theorem zr41 : (Tryd.prog.info? 41).map (·.zero) = some (some (.agg #[(.bool false), (.int .i64 0), (.int .u64 0)])) := by kernel_rfl
theorem zc41 : (Tryd.prog.info? 41).map (fun i => i.zero.map Value.cells) = some (some #[(.bool false), (.int .i64 0), (.int .u64 0)]) := by kernel_rfl
theorem eo41 : elemOK Tryd.prog 41 3 24 = true := by kernel_rfl
theorem fi41_0 : fieldInfo Tryd.prog 41 0 = some (0, 1) := by kernel_rfl
theorem fp41_0 : fieldPart Tryd.prog 41 0 = some (false, 0, 1) := by kernel_rfl
theorem fi41_1 : fieldInfo Tryd.prog 41 1 = some (1, 1) := by kernel_rfl
theorem fp41_1 : fieldPart Tryd.prog 41 1 = some (false, 1, 1) := by kernel_rfl
theorem fi41_2 : fieldInfo Tryd.prog 41 2 = some (2, 1) := by kernel_rfl
theorem fp41_2 : fieldPart Tryd.prog 41 2 = some (false, 2, 1) := by kernel_rfl
theorem pl41 : placesOf Tryd.prog 41 = some [(0, 1), (1, 1), (2, 1)] := by kernel_rfl
theorem sz42 : (Tryd.prog.info? 42).map (·.size) = some 3 := by kernel_rfl
theorem zr42 : (Tryd.prog.info? 42).map (·.zero) = some (some (.agg #[(.bool false), (.int .i64 0), (.int .u64 0)])) := by kernel_rfl
theorem zc42 : (Tryd.prog.info? 42).map (fun i => i.zero.map Value.cells) = some (some #[(.bool false), (.int .i64 0), (.int .u64 0)]) := by kernel_rfl
theorem eo42 : elemOK Tryd.prog 42 3 24 = true := by kernel_rfl
theorem fi42_0 : fieldInfo Tryd.prog 42 0 = some (0, 1) := by kernel_rfl
theorem fp42_0 : fieldPart Tryd.prog 42 0 = some (false, 0, 1) := by kernel_rfl
theorem fi42_1 : fieldInfo Tryd.prog 42 1 = some (1, 1) := by kernel_rfl
theorem fp42_1 : fieldPart Tryd.prog 42 1 = some (false, 1, 1) := by kernel_rfl
theorem fi42_2 : fieldInfo Tryd.prog 42 2 = some (2, 1) := by kernel_rfl
theorem fp42_2 : fieldPart Tryd.prog 42 2 = some (false, 2, 1) := by kernel_rfl
theorem pl42 : placesOf Tryd.prog 42 = some [(0, 1), (1, 1), (2, 1)] := by kernel_rfl
theorem sz43 : (Tryd.prog.info? 43).map (·.size) = some 11 := by kernel_rfl
theorem zr43 : (Tryd.prog.info? 43).map (·.zero) = some (some (.agg #[(.bool false), (.string ⟨#[]⟩), (.string ⟨#[]⟩), (.int .i64 0), (.int .i64 0), (.int .i64 0), (.int .i64 0), (.bool false), (.int .i64 0), (.int .u64 0), (.bool false)])) := by kernel_rfl
theorem zc43 : (Tryd.prog.info? 43).map (fun i => i.zero.map Value.cells) = some (some #[(.bool false), (.string ⟨#[]⟩), (.string ⟨#[]⟩), (.int .i64 0), (.int .i64 0), (.int .i64 0), (.int .i64 0), (.bool false), (.int .i64 0), (.int .u64 0), (.bool false)]) := by kernel_rfl
theorem eo43 : elemOK Tryd.prog 43 11 104 = true := by kernel_rfl
theorem fi43_0 : fieldInfo Tryd.prog 43 0 = some (0, 1) := by kernel_rfl
theorem fp43_0 : fieldPart Tryd.prog 43 0 = some (false, 0, 1) := by kernel_rfl
theorem fi43_1 : fieldInfo Tryd.prog 43 1 = some (1, 1) := by kernel_rfl
theorem fp43_1 : fieldPart Tryd.prog 43 1 = some (false, 1, 1) := by kernel_rfl
theorem fi43_2 : fieldInfo Tryd.prog 43 2 = some (2, 1) := by kernel_rfl
theorem fp43_2 : fieldPart Tryd.prog 43 2 = some (false, 2, 1) := by kernel_rfl
theorem fi43_3 : fieldInfo Tryd.prog 43 3 = some (3, 1) := by kernel_rfl
theorem fp43_3 : fieldPart Tryd.prog 43 3 = some (false, 3, 1) := by kernel_rfl
theorem fi43_4 : fieldInfo Tryd.prog 43 4 = some (4, 1) := by kernel_rfl
theorem fp43_4 : fieldPart Tryd.prog 43 4 = some (false, 4, 1) := by kernel_rfl
theorem fi43_5 : fieldInfo Tryd.prog 43 5 = some (5, 1) := by kernel_rfl
theorem fp43_5 : fieldPart Tryd.prog 43 5 = some (false, 5, 1) := by kernel_rfl
theorem fi43_6 : fieldInfo Tryd.prog 43 6 = some (6, 1) := by kernel_rfl
theorem fp43_6 : fieldPart Tryd.prog 43 6 = some (false, 6, 1) := by kernel_rfl
theorem fi43_7 : fieldInfo Tryd.prog 43 7 = some (7, 3) := by kernel_rfl
theorem fp43_7 : fieldPart Tryd.prog 43 7 = some (true, 7, 3) := by kernel_rfl
theorem fi43_8 : fieldInfo Tryd.prog 43 8 = some (10, 1) := by kernel_rfl
theorem fp43_8 : fieldPart Tryd.prog 43 8 = some (false, 10, 1) := by kernel_rfl
theorem pl43 : placesOf Tryd.prog 43 = some [(0, 1), (1, 1), (2, 1), (3, 1), (4, 1), (5, 1), (6, 1), (7, 3), (10, 1)] := by kernel_rfl
theorem sz44 : (Tryd.prog.info? 44).map (·.size) = some 11 := by kernel_rfl
theorem zr44 : (Tryd.prog.info? 44).map (·.zero) = some (some (.agg #[(.bool false), (.string ⟨#[]⟩), (.string ⟨#[]⟩), (.int .i64 0), (.int .i64 0), (.int .i64 0), (.int .i64 0), (.bool false), (.int .i64 0), (.int .u64 0), (.bool false)])) := by kernel_rfl
theorem zc44 : (Tryd.prog.info? 44).map (fun i => i.zero.map Value.cells) = some (some #[(.bool false), (.string ⟨#[]⟩), (.string ⟨#[]⟩), (.int .i64 0), (.int .i64 0), (.int .i64 0), (.int .i64 0), (.bool false), (.int .i64 0), (.int .u64 0), (.bool false)]) := by kernel_rfl
theorem eo44 : elemOK Tryd.prog 44 11 104 = true := by kernel_rfl
theorem fi44_0 : fieldInfo Tryd.prog 44 0 = some (0, 1) := by kernel_rfl
theorem fp44_0 : fieldPart Tryd.prog 44 0 = some (false, 0, 1) := by kernel_rfl
theorem fi44_1 : fieldInfo Tryd.prog 44 1 = some (1, 1) := by kernel_rfl
theorem fp44_1 : fieldPart Tryd.prog 44 1 = some (false, 1, 1) := by kernel_rfl
theorem fi44_2 : fieldInfo Tryd.prog 44 2 = some (2, 1) := by kernel_rfl
theorem fp44_2 : fieldPart Tryd.prog 44 2 = some (false, 2, 1) := by kernel_rfl
theorem fi44_3 : fieldInfo Tryd.prog 44 3 = some (3, 1) := by kernel_rfl
theorem fp44_3 : fieldPart Tryd.prog 44 3 = some (false, 3, 1) := by kernel_rfl
theorem fi44_4 : fieldInfo Tryd.prog 44 4 = some (4, 1) := by kernel_rfl
theorem fp44_4 : fieldPart Tryd.prog 44 4 = some (false, 4, 1) := by kernel_rfl
theorem fi44_5 : fieldInfo Tryd.prog 44 5 = some (5, 1) := by kernel_rfl
theorem fp44_5 : fieldPart Tryd.prog 44 5 = some (false, 5, 1) := by kernel_rfl
theorem fi44_6 : fieldInfo Tryd.prog 44 6 = some (6, 1) := by kernel_rfl
theorem fp44_6 : fieldPart Tryd.prog 44 6 = some (false, 6, 1) := by kernel_rfl
theorem fi44_7 : fieldInfo Tryd.prog 44 7 = some (7, 3) := by kernel_rfl
theorem fp44_7 : fieldPart Tryd.prog 44 7 = some (true, 7, 3) := by kernel_rfl
theorem fi44_8 : fieldInfo Tryd.prog 44 8 = some (10, 1) := by kernel_rfl
theorem fp44_8 : fieldPart Tryd.prog 44 8 = some (false, 10, 1) := by kernel_rfl
theorem pl44 : placesOf Tryd.prog 44 = some [(0, 1), (1, 1), (2, 1), (3, 1), (4, 1), (5, 1), (6, 1), (7, 3), (10, 1)] := by kernel_rfl
theorem sz45 : (Tryd.prog.info? 45).map (·.size) = some 33 := by kernel_rfl
theorem zr45 : (Tryd.prog.info? 45).map (·.zero) = some (some (.agg (List.toArray ((.bool false) :: (.string ⟨#[]⟩) :: (.string ⟨#[]⟩) :: (.int .i64 0) :: (.int .i64 0) :: (.int .i64 0) :: (.int .i64 0) :: (.bool false) :: (.int .i64 0) :: (.int .u64 0) :: (.bool false) :: (.bool false) :: (.string ⟨#[]⟩) :: (.string ⟨#[]⟩) :: (.int .i64 0) :: (.int .i64 0) :: (.int .i64 0) :: (.int .i64 0) :: (.bool false) :: (.int .i64 0) :: (.int .u64 0) :: (.bool false) :: (.bool false) :: (.string ⟨#[]⟩) :: (.string ⟨#[]⟩) :: (.int .i64 0) :: (.int .i64 0) :: (.int .i64 0) :: (.int .i64 0) :: (.bool false) :: (.int .i64 0) :: (.int .u64 0) :: (.bool false) :: [])))) := by kernel_rfl
theorem zc45 : (Tryd.prog.info? 45).map (fun i => i.zero.map Value.cells) = some (some (List.toArray ((.bool false) :: (.string ⟨#[]⟩) :: (.string ⟨#[]⟩) :: (.int .i64 0) :: (.int .i64 0) :: (.int .i64 0) :: (.int .i64 0) :: (.bool false) :: (.int .i64 0) :: (.int .u64 0) :: (.bool false) :: (.bool false) :: (.string ⟨#[]⟩) :: (.string ⟨#[]⟩) :: (.int .i64 0) :: (.int .i64 0) :: (.int .i64 0) :: (.int .i64 0) :: (.bool false) :: (.int .i64 0) :: (.int .u64 0) :: (.bool false) :: (.bool false) :: (.string ⟨#[]⟩) :: (.string ⟨#[]⟩) :: (.int .i64 0) :: (.int .i64 0) :: (.int .i64 0) :: (.int .i64 0) :: (.bool false) :: (.int .i64 0) :: (.int .u64 0) :: (.bool false) :: []))) := by kernel_rfl
theorem eo45 : elemOK Tryd.prog 45 33 312 = true := by kernel_rfl
theorem fi45_0 : fieldInfo Tryd.prog 45 0 = some (0, 11) := by kernel_rfl
theorem fp45_0 : fieldPart Tryd.prog 45 0 = some (true, 0, 11) := by kernel_rfl
theorem fi45_1 : fieldInfo Tryd.prog 45 1 = some (11, 11) := by kernel_rfl
theorem fp45_1 : fieldPart Tryd.prog 45 1 = some (true, 11, 11) := by kernel_rfl
theorem fi45_2 : fieldInfo Tryd.prog 45 2 = some (22, 11) := by kernel_rfl
theorem fp45_2 : fieldPart Tryd.prog 45 2 = some (true, 22, 11) := by kernel_rfl
theorem pl45 : placesOf Tryd.prog 45 = some [(0, 11), (11, 11), (22, 11)] := by kernel_rfl
theorem sz46 : (Tryd.prog.info? 46).map (·.size) = some 33 := by kernel_rfl
theorem zr46 : (Tryd.prog.info? 46).map (·.zero) = some (some (.agg (List.toArray ((.bool false) :: (.string ⟨#[]⟩) :: (.string ⟨#[]⟩) :: (.int .i64 0) :: (.int .i64 0) :: (.int .i64 0) :: (.int .i64 0) :: (.bool false) :: (.int .i64 0) :: (.int .u64 0) :: (.bool false) :: (.bool false) :: (.string ⟨#[]⟩) :: (.string ⟨#[]⟩) :: (.int .i64 0) :: (.int .i64 0) :: (.int .i64 0) :: (.int .i64 0) :: (.bool false) :: (.int .i64 0) :: (.int .u64 0) :: (.bool false) :: (.bool false) :: (.string ⟨#[]⟩) :: (.string ⟨#[]⟩) :: (.int .i64 0) :: (.int .i64 0) :: (.int .i64 0) :: (.int .i64 0) :: (.bool false) :: (.int .i64 0) :: (.int .u64 0) :: (.bool false) :: [])))) := by kernel_rfl
theorem zc46 : (Tryd.prog.info? 46).map (fun i => i.zero.map Value.cells) = some (some (List.toArray ((.bool false) :: (.string ⟨#[]⟩) :: (.string ⟨#[]⟩) :: (.int .i64 0) :: (.int .i64 0) :: (.int .i64 0) :: (.int .i64 0) :: (.bool false) :: (.int .i64 0) :: (.int .u64 0) :: (.bool false) :: (.bool false) :: (.string ⟨#[]⟩) :: (.string ⟨#[]⟩) :: (.int .i64 0) :: (.int .i64 0) :: (.int .i64 0) :: (.int .i64 0) :: (.bool false) :: (.int .i64 0) :: (.int .u64 0) :: (.bool false) :: (.bool false) :: (.string ⟨#[]⟩) :: (.string ⟨#[]⟩) :: (.int .i64 0) :: (.int .i64 0) :: (.int .i64 0) :: (.int .i64 0) :: (.bool false) :: (.int .i64 0) :: (.int .u64 0) :: (.bool false) :: []))) := by kernel_rfl
theorem eo46 : elemOK Tryd.prog 46 33 312 = true := by kernel_rfl
theorem fi46_0 : fieldInfo Tryd.prog 46 0 = some (0, 11) := by kernel_rfl
theorem fp46_0 : fieldPart Tryd.prog 46 0 = some (true, 0, 11) := by kernel_rfl
theorem fi46_1 : fieldInfo Tryd.prog 46 1 = some (11, 11) := by kernel_rfl
theorem fp46_1 : fieldPart Tryd.prog 46 1 = some (true, 11, 11) := by kernel_rfl
theorem fi46_2 : fieldInfo Tryd.prog 46 2 = some (22, 11) := by kernel_rfl
theorem fp46_2 : fieldPart Tryd.prog 46 2 = some (true, 22, 11) := by kernel_rfl
theorem pl46 : placesOf Tryd.prog 46 = some [(0, 11), (11, 11), (22, 11)] := by kernel_rfl
theorem sz47 : (Tryd.prog.info? 47).map (·.size) = some 5 := by kernel_rfl
theorem zr47 : (Tryd.prog.info? 47).map (·.zero) = some (some (.agg #[(.bool false), (.int .i64 0), (.string ⟨#[]⟩), (.int .i64 0), (.int .i64 0)])) := by kernel_rfl
theorem zc47 : (Tryd.prog.info? 47).map (fun i => i.zero.map Value.cells) = some (some #[(.bool false), (.int .i64 0), (.string ⟨#[]⟩), (.int .i64 0), (.int .i64 0)]) := by kernel_rfl
theorem eo47 : elemOK Tryd.prog 47 5 48 = true := by kernel_rfl
theorem fi47_0 : fieldInfo Tryd.prog 47 0 = some (0, 1) := by kernel_rfl
theorem fp47_0 : fieldPart Tryd.prog 47 0 = some (false, 0, 1) := by kernel_rfl
theorem fi47_1 : fieldInfo Tryd.prog 47 1 = some (1, 1) := by kernel_rfl
theorem fp47_1 : fieldPart Tryd.prog 47 1 = some (false, 1, 1) := by kernel_rfl
theorem fi47_2 : fieldInfo Tryd.prog 47 2 = some (2, 1) := by kernel_rfl
theorem fp47_2 : fieldPart Tryd.prog 47 2 = some (false, 2, 1) := by kernel_rfl
theorem fi47_3 : fieldInfo Tryd.prog 47 3 = some (3, 1) := by kernel_rfl
theorem fp47_3 : fieldPart Tryd.prog 47 3 = some (false, 3, 1) := by kernel_rfl
theorem fi47_4 : fieldInfo Tryd.prog 47 4 = some (4, 1) := by kernel_rfl
theorem fp47_4 : fieldPart Tryd.prog 47 4 = some (false, 4, 1) := by kernel_rfl
theorem pl47 : placesOf Tryd.prog 47 = some [(0, 1), (1, 1), (2, 1), (3, 1), (4, 1)] := by kernel_rfl
theorem sz48 : (Tryd.prog.info? 48).map (·.size) = some 5 := by kernel_rfl
theorem zr48 : (Tryd.prog.info? 48).map (·.zero) = some (some (.agg #[(.bool false), (.int .i64 0), (.string ⟨#[]⟩), (.int .i64 0), (.int .i64 0)])) := by kernel_rfl
theorem zc48 : (Tryd.prog.info? 48).map (fun i => i.zero.map Value.cells) = some (some #[(.bool false), (.int .i64 0), (.string ⟨#[]⟩), (.int .i64 0), (.int .i64 0)]) := by kernel_rfl
theorem eo48 : elemOK Tryd.prog 48 5 48 = true := by kernel_rfl
theorem fi48_0 : fieldInfo Tryd.prog 48 0 = some (0, 1) := by kernel_rfl
theorem fp48_0 : fieldPart Tryd.prog 48 0 = some (false, 0, 1) := by kernel_rfl
theorem fi48_1 : fieldInfo Tryd.prog 48 1 = some (1, 1) := by kernel_rfl
theorem fp48_1 : fieldPart Tryd.prog 48 1 = some (false, 1, 1) := by kernel_rfl
theorem fi48_2 : fieldInfo Tryd.prog 48 2 = some (2, 1) := by kernel_rfl
theorem fp48_2 : fieldPart Tryd.prog 48 2 = some (false, 2, 1) := by kernel_rfl
theorem fi48_3 : fieldInfo Tryd.prog 48 3 = some (3, 1) := by kernel_rfl
theorem fp48_3 : fieldPart Tryd.prog 48 3 = some (false, 3, 1) := by kernel_rfl
theorem fi48_4 : fieldInfo Tryd.prog 48 4 = some (4, 1) := by kernel_rfl
theorem fp48_4 : fieldPart Tryd.prog 48 4 = some (false, 4, 1) := by kernel_rfl
theorem pl48 : placesOf Tryd.prog 48 = some [(0, 1), (1, 1), (2, 1), (3, 1), (4, 1)] := by kernel_rfl
theorem sz49 : (Tryd.prog.info? 49).map (·.size) = some 1 := by kernel_rfl
theorem zr49 : (Tryd.prog.info? 49).map (·.zero) = some (some (.slice none 0 0)) := by kernel_rfl
theorem zc49 : (Tryd.prog.info? 49).map (fun i => i.zero.map Value.cells) = some (some #[(.slice none 0 0)]) := by kernel_rfl
theorem eo49 : elemOK Tryd.prog 49 1 24 = true := by kernel_rfl
theorem sz50 : (Tryd.prog.info? 50).map (·.size) = some 41 := by kernel_rfl
theorem zr50 : (Tryd.prog.info? 50).map (·.zero) = some (some (.agg (List.toArray ((.string ⟨#[]⟩) :: (.string ⟨#[]⟩) :: (.bool false) :: (.string ⟨#[]⟩) :: (.string ⟨#[]⟩) :: (.int .i64 0) :: (.int .i64 0) :: (.int .i64 0) :: (.int .i64 0) :: (.bool false) :: (.int .i64 0) :: (.int .u64 0) :: (.bool false) :: (.bool false) :: (.string ⟨#[]⟩) :: (.string ⟨#[]⟩) :: (.int .i64 0) :: (.int .i64 0) :: (.int .i64 0) :: (.int .i64 0) :: (.bool false) :: (.int .i64 0) :: (.int .u64 0) :: (.bool false) :: (.bool false) :: (.string ⟨#[]⟩) :: (.string ⟨#[]⟩) :: (.int .i64 0) :: (.int .i64 0) :: (.int .i64 0) :: (.int .i64 0) :: (.bool false) :: (.int .i64 0) :: (.int .u64 0) :: (.bool false) :: (.bool false) :: (.int .i64 0) :: (.string ⟨#[]⟩) :: (.int .i64 0) :: (.int .i64 0) :: (.slice none 0 0) :: [])))) := by kernel_rfl
theorem zc50 : (Tryd.prog.info? 50).map (fun i => i.zero.map Value.cells) = some (some (List.toArray ((.string ⟨#[]⟩) :: (.string ⟨#[]⟩) :: (.bool false) :: (.string ⟨#[]⟩) :: (.string ⟨#[]⟩) :: (.int .i64 0) :: (.int .i64 0) :: (.int .i64 0) :: (.int .i64 0) :: (.bool false) :: (.int .i64 0) :: (.int .u64 0) :: (.bool false) :: (.bool false) :: (.string ⟨#[]⟩) :: (.string ⟨#[]⟩) :: (.int .i64 0) :: (.int .i64 0) :: (.int .i64 0) :: (.int .i64 0) :: (.bool false) :: (.int .i64 0) :: (.int .u64 0) :: (.bool false) :: (.bool false) :: (.string ⟨#[]⟩) :: (.string ⟨#[]⟩) :: (.int .i64 0) :: (.int .i64 0) :: (.int .i64 0) :: (.int .i64 0) :: (.bool false) :: (.int .i64 0) :: (.int .u64 0) :: (.bool false) :: (.bool false) :: (.int .i64 0) :: (.string ⟨#[]⟩) :: (.int .i64 0) :: (.int .i64 0) :: (.slice none 0 0) :: []))) := by kernel_rfl
theorem eo50 : elemOK Tryd.prog 50 41 416 = true := by kernel_rfl
theorem fi50_0 : fieldInfo Tryd.prog 50 0 = some (0, 1) := by kernel_rfl
theorem fp50_0 : fieldPart Tryd.prog 50 0 = some (false, 0, 1) := by kernel_rfl
theorem fi50_1 : fieldInfo Tryd.prog 50 1 = some (1, 1) := by kernel_rfl
theorem fp50_1 : fieldPart Tryd.prog 50 1 = some (false, 1, 1) := by kernel_rfl
theorem fi50_2 : fieldInfo Tryd.prog 50 2 = some (2, 33) := by kernel_rfl
theorem fp50_2 : fieldPart Tryd.prog 50 2 = some (true, 2, 33) := by kernel_rfl
theorem fi50_3 : fieldInfo Tryd.prog 50 3 = some (35, 5) := by kernel_rfl
theorem fp50_3 : fieldPart Tryd.prog 50 3 = some (true, 35, 5) := by kernel_rfl
theorem fi50_4 : fieldInfo Tryd.prog 50 4 = some (40, 1) := by kernel_rfl
theorem fp50_4 : fieldPart Tryd.prog 50 4 = some (false, 40, 1) := by kernel_rfl
theorem pl50 : placesOf Tryd.prog 50 = some [(0, 1), (1, 1), (2, 33), (35, 5), (40, 1)] := by kernel_rfl
theorem sz51 : (Tryd.prog.info? 51).map (·.size) = some 41 := by kernel_rfl
theorem zr51 : (Tryd.prog.info? 51).map (·.zero) = some (some (.agg (List.toArray ((.string ⟨#[]⟩) :: (.string ⟨#[]⟩) :: (.bool false) :: (.string ⟨#[]⟩) :: (.string ⟨#[]⟩) :: (.int .i64 0) :: (.int .i64 0) :: (.int .i64 0) :: (.int .i64 0) :: (.bool false) :: (.int .i64 0) :: (.int .u64 0) :: (.bool false) :: (.bool false) :: (.string ⟨#[]⟩) :: (.string ⟨#[]⟩) :: (.int .i64 0) :: (.int .i64 0) :: (.int .i64 0) :: (.int .i64 0) :: (.bool false) :: (.int .i64 0) :: (.int .u64 0) :: (.bool false) :: (.bool false) :: (.string ⟨#[]⟩) :: (.string ⟨#[]⟩) :: (.int .i64 0) :: (.int .i64 0) :: (.int .i64 0) :: (.int .i64 0) :: (.bool false) :: (.int .i64 0) :: (.int .u64 0) :: (.bool false) :: (.bool false) :: (.int .i64 0) :: (.string ⟨#[]⟩) :: (.int .i64 0) :: (.int .i64 0) :: (.slice none 0 0) :: [])))) := by kernel_rfl
theorem zc51 : (Tryd.prog.info? 51).map (fun i => i.zero.map Value.cells) = some (some (List.toArray ((.string ⟨#[]⟩) :: (.string ⟨#[]⟩) :: (.bool false) :: (.string ⟨#[]⟩) :: (.string ⟨#[]⟩) :: (.int .i64 0) :: (.int .i64 0) :: (.int .i64 0) :: (.int .i64 0) :: (.bool false) :: (.int .i64 0) :: (.int .u64 0) :: (.bool false) :: (.bool false) :: (.string ⟨#[]⟩) :: (.string ⟨#[]⟩) :: (.int .i64 0) :: (.int .i64 0) :: (.int .i64 0) :: (.int .i64 0) :: (.bool false) :: (.int .i64 0) :: (.int .u64 0) :: (.bool false) :: (.bool false) :: (.string ⟨#[]⟩) :: (.string ⟨#[]⟩) :: (.int .i64 0) :: (.int .i64 0) :: (.int .i64 0) :: (.int .i64 0) :: (.bool false) :: (.int .i64 0) :: (.int .u64 0) :: (.bool false) :: (.bool false) :: (.int .i64 0) :: (.string ⟨#[]⟩) :: (.int .i64 0) :: (.int .i64 0) :: (.slice none 0 0) :: []))) := by kernel_rfl
theorem eo51 : elemOK Tryd.prog 51 41 416 = true := by kernel_rfl
theorem fi51_0 : fieldInfo Tryd.prog 51 0 = some (0, 1) := by kernel_rfl
theorem fp51_0 : fieldPart Tryd.prog 51 0 = some (false, 0, 1) := by kernel_rfl
theorem fi51_1 : fieldInfo Tryd.prog 51 1 = some (1, 1) := by kernel_rfl
theorem fp51_1 : fieldPart Tryd.prog 51 1 = some (false, 1, 1) := by kernel_rfl
theorem fi51_2 : fieldInfo Tryd.prog 51 2 = some (2, 33) := by kernel_rfl
theorem fp51_2 : fieldPart Tryd.prog 51 2 = some (true, 2, 33) := by kernel_rfl
theorem fi51_3 : fieldInfo Tryd.prog 51 3 = some (35, 5) := by kernel_rfl
theorem fp51_3 : fieldPart Tryd.prog 51 3 = some (true, 35, 5) := by kernel_rfl
theorem fi51_4 : fieldInfo Tryd.prog 51 4 = some (40, 1) := by kernel_rfl
theorem fp51_4 : fieldPart Tryd.prog 51 4 = some (false, 40, 1) := by kernel_rfl
theorem pl51 : placesOf Tryd.prog 51 = some [(0, 1), (1, 1), (2, 33), (35, 5), (40, 1)] := by kernel_rfl
theorem sz52 : (Tryd.prog.info? 52).map (·.size) = some 1 := by kernel_rfl
theorem zr52 : (Tryd.prog.info? 52).map (·.zero) = some (some (.slice none 0 0)) := by kernel_rfl
theorem zc52 : (Tryd.prog.info? 52).map (fun i => i.zero.map Value.cells) = some (some #[(.slice none 0 0)]) := by kernel_rfl
theorem eo52 : elemOK Tryd.prog 52 1 24 = true := by kernel_rfl
theorem sz53 : (Tryd.prog.info? 53).map (·.size) = some 1 := by kernel_rfl
theorem zr53 : (Tryd.prog.info? 53).map (·.zero) = some (some .nilFunc) := by kernel_rfl
theorem zc53 : (Tryd.prog.info? 53).map (fun i => i.zero.map Value.cells) = some (some #[.nilFunc]) := by kernel_rfl
theorem eo53 : elemOK Tryd.prog 53 1 8 = true := by kernel_rfl
theorem sz54 : (Tryd.prog.info? 54).map (·.size) = some 1 := by kernel_rfl
theorem zr54 : (Tryd.prog.info? 54).map (·.zero) = some (some .nilFunc) := by kernel_rfl
theorem zc54 : (Tryd.prog.info? 54).map (fun i => i.zero.map Value.cells) = some (some #[.nilFunc]) := by kernel_rfl
theorem eo54 : elemOK Tryd.prog 54 1 8 = true := by kernel_rfl
theorem sz55 : (Tryd.prog.info? 55).map (·.size) = some 1 := by kernel_rfl
theorem zr55 : (Tryd.prog.info? 55).map (·.zero) = some (some .nilFunc) := by kernel_rfl
theorem zc55 : (Tryd.prog.info? 55).map (fun i => i.zero.map Value.cells) = some (some #[.nilFunc]) := by kernel_rfl
theorem eo55 : elemOK Tryd.prog 55 1 8 = true := by kernel_rfl
theorem sz56 : (Tryd.prog.info? 56).map (·.size) = some 1 := by kernel_rfl
theorem zr56 : (Tryd.prog.info? 56).map (·.zero) = some (some .nilFunc) := by kernel_rfl
theorem zc56 : (Tryd.prog.info? 56).map (fun i => i.zero.map Value.cells) = some (some #[.nilFunc]) := by kernel_rfl
theorem eo56 : elemOK Tryd.prog 56 1 8 = true := by kernel_rfl
theorem sz57 : (Tryd.prog.info? 57).map (·.size) = some 1 := by kernel_rfl
theorem zr57 : (Tryd.prog.info? 57).map (·.zero) = some (some .nilFunc) := by kernel_rfl
theorem zc57 : (Tryd.prog.info? 57).map (fun i => i.zero.map Value.cells) = some (some #[.nilFunc]) := by kernel_rfl
theorem eo57 : elemOK Tryd.prog 57 1 8 = true := by kernel_rfl
theorem sz58 : (Tryd.prog.info? 58).map (·.size) = some 1 := by kernel_rfl
theorem zr58 : (Tryd.prog.info? 58).map (·.zero) = some (some (.slice none 0 0)) := by kernel_rfl
theorem zc58 : (Tryd.prog.info? 58).map (fun i => i.zero.map Value.cells) = some (some #[(.slice none 0 0)]) := by kernel_rfl
theorem eo58 : elemOK Tryd.prog 58 1 24 = true := by kernel_rfl
theorem sz59 : (Tryd.prog.info? 59).map (·.size) = some 5 := by kernel_rfl
theorem zr59 : (Tryd.prog.info? 59).map (·.zero) = some (some (.agg #[(.string ⟨#[]⟩), (.string ⟨#[]⟩), (.string ⟨#[]⟩), (.int .i64 0), (.slice none 0 0)])) := by kernel_rfl
theorem zc59 : (Tryd.prog.info? 59).map (fun i => i.zero.map Value.cells) = some (some #[(.string ⟨#[]⟩), (.string ⟨#[]⟩), (.string ⟨#[]⟩), (.int .i64 0), (.slice none 0 0)]) := by kernel_rfl
theorem eo59 : elemOK Tryd.prog 59 5 80 = true := by kernel_rfl
theorem fi59_0 : fieldInfo Tryd.prog 59 0 = some (0, 1) := by kernel_rfl
theorem fp59_0 : fieldPart Tryd.prog 59 0 = some (false, 0, 1) := by kernel_rfl
theorem fi59_1 : fieldInfo Tryd.prog 59 1 = some (1, 1) := by kernel_rfl
theorem fp59_1 : fieldPart Tryd.prog 59 1 = some (false, 1, 1) := by kernel_rfl
theorem fi59_2 : fieldInfo Tryd.prog 59 2 = some (2, 1) := by kernel_rfl
theorem fp59_2 : fieldPart Tryd.prog 59 2 = some (false, 2, 1) := by kernel_rfl
theorem fi59_3 : fieldInfo Tryd.prog 59 3 = some (3, 1) := by kernel_rfl
theorem fp59_3 : fieldPart Tryd.prog 59 3 = some (false, 3, 1) := by kernel_rfl
theorem fi59_4 : fieldInfo Tryd.prog 59 4 = some (4, 1) := by kernel_rfl
theorem fp59_4 : fieldPart Tryd.prog 59 4 = some (false, 4, 1) := by kernel_rfl
theorem pl59 : placesOf Tryd.prog 59 = some [(0, 1), (1, 1), (2, 1), (3, 1), (4, 1)] := by kernel_rfl
theorem sz60 : (Tryd.prog.info? 60).map (·.size) = some 5 := by kernel_rfl
theorem zr60 : (Tryd.prog.info? 60).map (·.zero) = some (some (.agg #[(.string ⟨#[]⟩), (.string ⟨#[]⟩), (.string ⟨#[]⟩), (.int .i64 0), (.slice none 0 0)])) := by kernel_rfl
theorem zc60 : (Tryd.prog.info? 60).map (fun i => i.zero.map Value.cells) = some (some #[(.string ⟨#[]⟩), (.string ⟨#[]⟩), (.string ⟨#[]⟩), (.int .i64 0), (.slice none 0 0)]) := by kernel_rfl
theorem eo60 : elemOK Tryd.prog 60 5 80 = true := by kernel_rfl
theorem fi60_0 : fieldInfo Tryd.prog 60 0 = some (0, 1) := by kernel_rfl
theorem fp60_0 : fieldPart Tryd.prog 60 0 = some (false, 0, 1) := by kernel_rfl
theorem fi60_1 : fieldInfo Tryd.prog 60 1 = some (1, 1) := by kernel_rfl
theorem fp60_1 : fieldPart Tryd.prog 60 1 = some (false, 1, 1) := by kernel_rfl
theorem fi60_2 : fieldInfo Tryd.prog 60 2 = some (2, 1) := by kernel_rfl
theorem fp60_2 : fieldPart Tryd.prog 60 2 = some (false, 2, 1) := by kernel_rfl
theorem fi60_3 : fieldInfo Tryd.prog 60 3 = some (3, 1) := by kernel_rfl
theorem fp60_3 : fieldPart Tryd.prog 60 3 = some (false, 3, 1) := by kernel_rfl
theorem fi60_4 : fieldInfo Tryd.prog 60 4 = some (4, 1) := by kernel_rfl
theorem fp60_4 : fieldPart Tryd.prog 60 4 = some (false, 4, 1) := by kernel_rfl
theorem pl60 : placesOf Tryd.prog 60 = some [(0, 1), (1, 1), (2, 1), (3, 1), (4, 1)] := by kernel_rfl
theorem sz61 : (Tryd.prog.info? 61).map (·.size) = some 1 := by kernel_rfl
theorem zr61 : (Tryd.prog.info? 61).map (·.zero) = some (some .nilFunc) := by kernel_rfl
theorem zc61 : (Tryd.prog.info? 61).map (fun i => i.zero.map Value.cells) = some (some #[.nilFunc]) := by kernel_rfl
theorem eo61 : elemOK Tryd.prog 61 1 8 = true := by kernel_rfl
theorem sz62 : (Tryd.prog.info? 62).map (·.size) = some 1 := by kernel_rfl
theorem zr62 : (Tryd.prog.info? 62).map (·.zero) = some (some .nilFunc) := by kernel_rfl
theorem zc62 : (Tryd.prog.info? 62).map (fun i => i.zero.map Value.cells) = some (some #[.nilFunc]) := by kernel_rfl
theorem eo62 : elemOK Tryd.prog 62 1 8 = true := by kernel_rfl
theorem sz63 : (Tryd.prog.info? 63).map (·.size) = some 5 := by kernel_rfl
theorem zr63 : (Tryd.prog.info? 63).map (·.zero) = some (some (.agg #[(.int .i64 0), (.string ⟨#[]⟩), (.int .i64 0), (.int .u32 0), (.int .i64 0)])) := by kernel_rfl
theorem zc63 : (Tryd.prog.info? 63).map (fun i => i.zero.map Value.cells) = some (some #[(.int .i64 0), (.string ⟨#[]⟩), (.int .i64 0), (.int .u32 0), (.int .i64 0)]) := by kernel_rfl
theorem eo63 : elemOK Tryd.prog 63 5 48 = true := by kernel_rfl
theorem fi63_0 : fieldInfo Tryd.prog 63 0 = some (0, 1) := by kernel_rfl
theorem fp63_0 : fieldPart Tryd.prog 63 0 = some (false, 0, 1) := by kernel_rfl
theorem fi63_1 : fieldInfo Tryd.prog 63 1 = some (1, 1) := by kernel_rfl
theorem fp63_1 : fieldPart Tryd.prog 63 1 = some (false, 1, 1) := by kernel_rfl
theorem fi63_2 : fieldInfo Tryd.prog 63 2 = some (2, 1) := by kernel_rfl
theorem fp63_2 : fieldPart Tryd.prog 63 2 = some (false, 2, 1) := by kernel_rfl
theorem fi63_3 : fieldInfo Tryd.prog 63 3 = some (3, 2) := by kernel_rfl
theorem fp63_3 : fieldPart Tryd.prog 63 3 = some (true, 3, 2) := by kernel_rfl
theorem pl63 : placesOf Tryd.prog 63 = some [(0, 1), (1, 1), (2, 1), (3, 2)] := by kernel_rfl
theorem sz64 : (Tryd.prog.info? 64).map (·.size) = some 5 := by kernel_rfl
theorem zr64 : (Tryd.prog.info? 64).map (·.zero) = some (some (.agg #[(.int .i64 0), (.string ⟨#[]⟩), (.int .i64 0), (.int .u32 0), (.int .i64 0)])) := by kernel_rfl
theorem zc64 : (Tryd.prog.info? 64).map (fun i => i.zero.map Value.cells) = some (some #[(.int .i64 0), (.string ⟨#[]⟩), (.int .i64 0), (.int .u32 0), (.int .i64 0)]) := by kernel_rfl
theorem eo64 : elemOK Tryd.prog 64 5 48 = true := by kernel_rfl
theorem fi64_0 : fieldInfo Tryd.prog 64 0 = some (0, 1) := by kernel_rfl
theorem fp64_0 : fieldPart Tryd.prog 64 0 = some (false, 0, 1) := by kernel_rfl
theorem fi64_1 : fieldInfo Tryd.prog 64 1 = some (1, 1) := by kernel_rfl
theorem fp64_1 : fieldPart Tryd.prog 64 1 = some (false, 1, 1) := by kernel_rfl
theorem fi64_2 : fieldInfo Tryd.prog 64 2 = some (2, 1) := by kernel_rfl
theorem fp64_2 : fieldPart Tryd.prog 64 2 = some (false, 2, 1) := by kernel_rfl
theorem fi64_3 : fieldInfo Tryd.prog 64 3 = some (3, 2) := by kernel_rfl
theorem fp64_3 : fieldPart Tryd.prog 64 3 = some (true, 3, 2) := by kernel_rfl
theorem pl64 : placesOf Tryd.prog 64 = some [(0, 1), (1, 1), (2, 1), (3, 2)] := by kernel_rfl
theorem sz65 : (Tryd.prog.info? 65).map (·.size) = some 1 := by kernel_rfl
theorem zr65 : (Tryd.prog.info? 65).map (·.zero) = some (some .nilFunc) := by kernel_rfl
theorem zc65 : (Tryd.prog.info? 65).map (fun i => i.zero.map Value.cells) = some (some #[.nilFunc]) := by kernel_rfl
theorem eo65 : elemOK Tryd.prog 65 1 8 = true := by kernel_rfl
theorem sz66 : (Tryd.prog.info? 66).map (·.size) = some 2 := by kernel_rfl
theorem zr66 : (Tryd.prog.info? 66).map (·.zero) = some (some (.agg #[(.string ⟨#[]⟩), (.string ⟨#[]⟩)])) := by kernel_rfl
theorem zc66 : (Tryd.prog.info? 66).map (fun i => i.zero.map Value.cells) = some (some #[(.string ⟨#[]⟩), (.string ⟨#[]⟩)]) := by kernel_rfl
theorem eo66 : elemOK Tryd.prog 66 2 32 = true := by kernel_rfl
theorem fi66_0 : fieldInfo Tryd.prog 66 0 = some (0, 1) := by kernel_rfl
theorem fp66_0 : fieldPart Tryd.prog 66 0 = some (false, 0, 1) := by kernel_rfl
theorem fi66_1 : fieldInfo Tryd.prog 66 1 = some (1, 1) := by kernel_rfl
theorem fp66_1 : fieldPart Tryd.prog 66 1 = some (false, 1, 1) := by kernel_rfl
theorem pl66 : placesOf Tryd.prog 66 = some [(0, 1), (1, 1)] := by kernel_rfl
theorem sz67 : (Tryd.prog.info? 67).map (·.size) = some 2 := by kernel_rfl
theorem zr67 : (Tryd.prog.info? 67).map (·.zero) = some (some (.agg #[(.string ⟨#[]⟩), (.string ⟨#[]⟩)])) := by kernel_rfl
theorem zc67 : (Tryd.prog.info? 67).map (fun i => i.zero.map Value.cells) = some (some #[(.string ⟨#[]⟩), (.string ⟨#[]⟩)]) := by kernel_rfl
theorem eo67 : elemOK Tryd.prog 67 2 32 = true := by kernel_rfl
theorem fi67_0 : fieldInfo Tryd.prog 67 0 = some (0, 1) := by kernel_rfl
theorem fp67_0 : fieldPart Tryd.prog 67 0 = some (false, 0, 1) := by kernel_rfl
theorem fi67_1 : fieldInfo Tryd.prog 67 1 = some (1, 1) := by kernel_rfl
theorem fp67_1 : fieldPart Tryd.prog 67 1 = some (false, 1, 1) := by kernel_rfl
theorem pl67 : placesOf Tryd.prog 67 = some [(0, 1), (1, 1)] := by kernel_rfl
theorem sz68 : (Tryd.prog.info? 68).map (·.size) = some 1 := by kernel_rfl
theorem sz69 : (Tryd.prog.info? 69).map (·.size) = some 1 := by kernel_rfl
theorem zr69 : (Tryd.prog.info? 69).map (·.zero) = some (some .nilFunc) := by kernel_rfl
theorem zc69 : (Tryd.prog.info? 69).map (fun i => i.zero.map Value.cells) = some (some #[.nilFunc]) := by kernel_rfl
theorem eo69 : elemOK Tryd.prog 69 1 8 = true := by kernel_rfl
theorem sz70 : (Tryd.prog.info? 70).map (·.size) = some 1 := by kernel_rfl
theorem zr70 : (Tryd.prog.info? 70).map (·.zero) = some (some .nilFunc) := by kernel_rfl
theorem zc70 : (Tryd.prog.info? 70).map (fun i => i.zero.map Value.cells) = some (some #[.nilFunc]) := by kernel_rfl
theorem eo70 : elemOK Tryd.prog 70 1 8 = true := by kernel_rfl
theorem sz71 : (Tryd.prog.info? 71).map (·.size) = some 1 := by kernel_rfl
theorem sz72 : (Tryd.prog.info? 72).map (·.size) = some 1 := by kernel_rfl
theorem zr72 : (Tryd.prog.info? 72).map (·.zero) = some (some .nilFunc) := by kernel_rfl
theorem zc72 : (Tryd.prog.info? 72).map (fun i => i.zero.map Value.cells) = some (some #[.nilFunc]) := by kernel_rfl
theorem eo72 : elemOK Tryd.prog 72 1 8 = true := by kernel_rfl
theorem sz73 : (Tryd.prog.info? 73).map (·.size) = some 1 := by kernel_rfl
theorem zr73 : (Tryd.prog.info? 73).map (·.zero) = some (some .nilFunc) := by kernel_rfl
theorem zc73 : (Tryd.prog.info? 73).map (fun i => i.zero.map Value.cells) = some (some #[.nilFunc]) := by kernel_rfl
theorem eo73 : elemOK Tryd.prog 73 1 8 = true := by kernel_rfl
theorem sz74 : (Tryd.prog.info? 74).map (·.size) = some 1 := by kernel_rfl
theorem zr74 : (Tryd.prog.info? 74).map (·.zero) = some (some (.slice none 0 0)) := by kernel_rfl
theorem zc74 : (Tryd.prog.info? 74).map (fun i => i.zero.map Value.cells) = some (some #[(.slice none 0 0)]) := by kernel_rfl
theorem eo74 : elemOK Tryd.prog 74 1 24 = true := by kernel_rfl
theorem sz75 : (Tryd.prog.info? 75).map (·.size) = some 1 := by kernel_rfl
theorem zr75 : (Tryd.prog.info? 75).map (·.zero) = some (some .nilFunc) := by kernel_rfl
theorem zc75 : (Tryd.prog.info? 75).map (fun i => i.zero.map Value.cells) = some (some #[.nilFunc]) := by kernel_rfl
theorem eo75 : elemOK Tryd.prog 75 1 8 = true := by kernel_rfl
theorem sz76 : (Tryd.prog.info? 76).map (·.size) = some 1 := by kernel_rfl
theorem zr76 : (Tryd.prog.info? 76).map (·.zero) = some (some .nilFunc) := by kernel_rfl
theorem zc76 : (Tryd.prog.info? 76).map (fun i => i.zero.map Value.cells) = some (some #[.nilFunc]) := by kernel_rfl
theorem eo76 : elemOK Tryd.prog 76 1 8 = true := by kernel_rfl
theorem sz77 : (Tryd.prog.info? 77).map (·.size) = some 1 := by kernel_rfl
theorem sz78 : (Tryd.prog.info? 78).map (·.size) = some 1 := by kernel_rfl
theorem zr78 : (Tryd.prog.info? 78).map (·.zero) = some (some .nilFunc) := by kernel_rfl
theorem zc78 : (Tryd.prog.info? 78).map (fun i => i.zero.map Value.cells) = some (some #[.nilFunc]) := by kernel_rfl
theorem eo78 : elemOK Tryd.prog 78 1 8 = true := by kernel_rfl
theorem sz79 : (Tryd.prog.info? 79).map (·.size) = some 1 := by kernel_rfl
theorem sz80 : (Tryd.prog.info? 80).map (·.size) = some 1 := by kernel_rfl
theorem zr80 : (Tryd.prog.info? 80).map (·.zero) = some (some .nilFunc) := by kernel_rfl
theorem zc80 : (Tryd.prog.info? 80).map (fun i => i.zero.map Value.cells) = some (some #[.nilFunc]) := by kernel_rfl
theorem eo80 : elemOK Tryd.prog 80 1 8 = true := by kernel_rfl
theorem sz81 : (Tryd.prog.info? 81).map (·.size) = some 1 := by kernel_rfl
theorem zr81 : (Tryd.prog.info? 81).map (·.zero) = some (some .nilIface) := by kernel_rfl
theorem zc81 : (Tryd.prog.info? 81).map (fun i => i.zero.map Value.cells) = some (some #[.nilIface]) := by kernel_rfl
theorem eo81 : elemOK Tryd.prog 81 1 16 = true := by kernel_rfl
theorem sz82 : (Tryd.prog.info? 82).map (·.size) = some 1 := by kernel_rfl
theorem zr82 : (Tryd.prog.info? 82).map (·.zero) = some (some .nilIface) := by kernel_rfl
theorem zc82 : (Tryd.prog.info? 82).map (fun i => i.zero.map Value.cells) = some (some #[.nilIface]) := by kernel_rfl
theorem eo82 : elemOK Tryd.prog 82 1 16 = true := by kernel_rfl
theorem sz83 : (Tryd.prog.info? 83).map (·.size) = some 1 := by kernel_rfl
theorem sz84 : (Tryd.prog.info? 84).map (·.size) = some 1 := by kernel_rfl
theorem zr84 : (Tryd.prog.info? 84).map (·.zero) = some (some .nilFunc) := by kernel_rfl
theorem zc84 : (Tryd.prog.info? 84).map (fun i => i.zero.map Value.cells) = some (some #[.nilFunc]) := by kernel_rfl
theorem eo84 : elemOK Tryd.prog 84 1 8 = true := by kernel_rfl
theorem sz85 : (Tryd.prog.info? 85).map (·.size) = some 1 := by kernel_rfl
theorem zr85 : (Tryd.prog.info? 85).map (·.zero) = some (some .nilFunc) := by kernel_rfl
theorem zc85 : (Tryd.prog.info? 85).map (fun i => i.zero.map Value.cells) = some (some #[.nilFunc]) := by kernel_rfl
theorem eo85 : elemOK Tryd.prog 85 1 8 = true := by kernel_rfl
theorem sz86 : (Tryd.prog.info? 86).map (·.size) = some 1 := by kernel_rfl
theorem zr86 : (Tryd.prog.info? 86).map (·.zero) = some (some .nilFunc) := by kernel_rfl
theorem zc86 : (Tryd.prog.info? 86).map (fun i => i.zero.map Value.cells) = some (some #[.nilFunc]) := by kernel_rfl
theorem eo86 : elemOK Tryd.prog 86 1 8 = true := by kernel_rfl
theorem sz87 : (Tryd.prog.info? 87).map (·.size) = some 1 := by kernel_rfl
theorem zr87 : (Tryd.prog.info? 87).map (·.zero) = some (some (.slice none 0 0)) := by kernel_rfl
theorem zc87 : (Tryd.prog.info? 87).map (fun i => i.zero.map Value.cells) = some (some #[(.slice none 0 0)]) := by kernel_rfl
theorem eo87 : elemOK Tryd.prog 87 1 24 = true := by kernel_rfl
theorem sz88 : (Tryd.prog.info? 88).map (·.size) = some 1 := by kernel_rfl
theorem zr88 : (Tryd.prog.info? 88).map (·.zero) = some (some .nilFunc) := by kernel_rfl
theorem zc88 : (Tryd.prog.info? 88).map (fun i => i.zero.map Value.cells) = some (some #[.nilFunc]) := by kernel_rfl
theorem eo88 : elemOK Tryd.prog 88 1 8 = true := by kernel_rfl
theorem sz89 : (Tryd.prog.info? 89).map (·.size) = some 1 := by kernel_rfl
theorem zr89 : (Tryd.prog.info? 89).map (·.zero) = some (some .nilFunc) := by kernel_rfl
theorem zc89 : (Tryd.prog.info? 89).map (fun i => i.zero.map Value.cells) = some (some #[.nilFunc]) := by kernel_rfl
theorem eo89 : elemOK Tryd.prog 89 1 8 = true := by kernel_rfl
theorem sz90 : (Tryd.prog.info? 90).map (·.size) = some 1 := by kernel_rfl
theorem zr90 : (Tryd.prog.info? 90).map (·.zero) = some (some (.int .u64 0)) := by kernel_rfl
theorem zc90 : (Tryd.prog.info? 90).map (fun i => i.zero.map Value.cells) = some (some #[(.int .u64 0)]) := by kernel_rfl
theorem eo90 : elemOK Tryd.prog 90 1 8 = true := by kernel_rfl
theorem sz91 : (Tryd.prog.info? 91).map (·.size) = some 1 := by kernel_rfl
theorem zr91 : (Tryd.prog.info? 91).map (·.zero) = some (some .nilFunc) := by kernel_rfl
theorem zc91 : (Tryd.prog.info? 91).map (fun i => i.zero.map Value.cells) = some (some #[.nilFunc]) := by kernel_rfl
theorem eo91 : elemOK Tryd.prog 91 1 8 = true := by kernel_rfl
theorem sz92 : (Tryd.prog.info? 92).map (·.size) = some 1 := by kernel_rfl
theorem zr92 : (Tryd.prog.info? 92).map (·.zero) = some (some .nilFunc) := by kernel_rfl
theorem zc92 : (Tryd.prog.info? 92).map (fun i => i.zero.map Value.cells) = some (some #[.nilFunc]) := by kernel_rfl
theorem eo92 : elemOK Tryd.prog 92 1 8 = true := by kernel_rfl
theorem sz93 : (Tryd.prog.info? 93).map (·.size) = some 33 := by kernel_rfl
theorem zr93 : (Tryd.prog.info? 93).map (·.zero) = some (some (.agg (List.toArray ((.bool false) :: (.string ⟨#[]⟩) :: (.string ⟨#[]⟩) :: (.int .i64 0) :: (.int .i64 0) :: (.int .i64 0) :: (.int .i64 0) :: (.bool false) :: (.int .i64 0) :: (.int .u64 0) :: (.bool false) :: (.bool false) :: (.string ⟨#[]⟩) :: (.string ⟨#[]⟩) :: (.int .i64 0) :: (.int .i64 0) :: (.int .i64 0) :: (.int .i64 0) :: (.bool false) :: (.int .i64 0) :: (.int .u64 0) :: (.bool false) :: (.bool false) :: (.string ⟨#[]⟩) :: (.string ⟨#[]⟩) :: (.int .i64 0) :: (.int .i64 0) :: (.int .i64 0) :: (.int .i64 0) :: (.bool false) :: (.int .i64 0) :: (.int .u64 0) :: (.bool false) :: [])))) := by kernel_rfl
theorem zc93 : (Tryd.prog.info? 93).map (fun i => i.zero.map Value.cells) = some (some (List.toArray ((.bool false) :: (.string ⟨#[]⟩) :: (.string ⟨#[]⟩) :: (.int .i64 0) :: (.int .i64 0) :: (.int .i64 0) :: (.int .i64 0) :: (.bool false) :: (.int .i64 0) :: (.int .u64 0) :: (.bool false) :: (.bool false) :: (.string ⟨#[]⟩) :: (.string ⟨#[]⟩) :: (.int .i64 0) :: (.int .i64 0) :: (.int .i64 0) :: (.int .i64 0) :: (.bool false) :: (.int .i64 0) :: (.int .u64 0) :: (.bool false) :: (.bool false) :: (.string ⟨#[]⟩) :: (.string ⟨#[]⟩) :: (.int .i64 0) :: (.int .i64 0) :: (.int .i64 0) :: (.int .i64 0) :: (.bool false) :: (.int .i64 0) :: (.int .u64 0) :: (.bool false) :: []))) := by kernel_rfl
theorem eo93 : elemOK Tryd.prog 93 33 312 = true := by kernel_rfl
theorem sz94 : (Tryd.prog.info? 94).map (·.size) = some 1 := by kernel_rfl
theorem zr94 : (Tryd.prog.info? 94).map (·.zero) = some (some .nilFunc) := by kernel_rfl
theorem zc94 : (Tryd.prog.info? 94).map (fun i => i.zero.map Value.cells) = some (some #[.nilFunc]) := by kernel_rfl
theorem eo94 : elemOK Tryd.prog 94 1 8 = true := by kernel_rfl
theorem sz95 : (Tryd.prog.info? 95).map (·.size) = some 1 := by kernel_rfl
theorem zr95 : (Tryd.prog.info? 95).map (·.zero) = some (some (.slice none 0 0)) := by kernel_rfl
theorem zc95 : (Tryd.prog.info? 95).map (fun i => i.zero.map Value.cells) = some (some #[(.slice none 0 0)]) := by kernel_rfl
theorem eo95 : elemOK Tryd.prog 95 1 24 = true := by kernel_rfl
theorem sz96 : (Tryd.prog.info? 96).map (·.size) = some 1 := by kernel_rfl
theorem sz97 : (Tryd.prog.info? 97).map (·.size) = some 1 := by kernel_rfl
theorem zr97 : (Tryd.prog.info? 97).map (·.zero) = some (some .nilFunc) := by kernel_rfl
theorem zc97 : (Tryd.prog.info? 97).map (fun i => i.zero.map Value.cells) = some (some #[.nilFunc]) := by kernel_rfl
theorem eo97 : elemOK Tryd.prog 97 1 8 = true := by kernel_rfl
theorem sz98 : (Tryd.prog.info? 98).map (·.size) = some 3 := by kernel_rfl
theorem zr98 : (Tryd.prog.info? 98).map (·.zero) = some (some (.agg #[(.int .u32 0), (.int .u32 0), (.slice none 0 0)])) := by kernel_rfl
theorem zc98 : (Tryd.prog.info? 98).map (fun i => i.zero.map Value.cells) = some (some #[(.int .u32 0), (.int .u32 0), (.slice none 0 0)]) := by kernel_rfl
theorem eo98 : elemOK Tryd.prog 98 3 32 = true := by kernel_rfl
theorem fi98_0 : fieldInfo Tryd.prog 98 0 = some (0, 1) := by kernel_rfl
theorem fp98_0 : fieldPart Tryd.prog 98 0 = some (false, 0, 1) := by kernel_rfl
theorem fi98_1 : fieldInfo Tryd.prog 98 1 = some (1, 1) := by kernel_rfl
theorem fp98_1 : fieldPart Tryd.prog 98 1 = some (false, 1, 1) := by kernel_rfl
theorem fi98_2 : fieldInfo Tryd.prog 98 2 = some (2, 1) := by kernel_rfl
theorem fp98_2 : fieldPart Tryd.prog 98 2 = some (false, 2, 1) := by kernel_rfl
theorem pl98 : placesOf Tryd.prog 98 = some [(0, 1), (1, 1), (2, 1)] := by kernel_rfl
theorem sz99 : (Tryd.prog.info? 99).map (·.size) = some 3 := by kernel_rfl
theorem zr99 : (Tryd.prog.info? 99).map (·.zero) = some (some (.agg #[(.int .u32 0), (.int .u32 0), (.slice none 0 0)])) := by kernel_rfl
theorem zc99 : (Tryd.prog.info? 99).map (fun i => i.zero.map Value.cells) = some (some #[(.int .u32 0), (.int .u32 0), (.slice none 0 0)]) := by kernel_rfl
theorem eo99 : elemOK Tryd.prog 99 3 32 = true := by kernel_rfl
theorem fi99_0 : fieldInfo Tryd.prog 99 0 = some (0, 1) := by kernel_rfl
theorem fp99_0 : fieldPart Tryd.prog 99 0 = some (false, 0, 1) := by kernel_rfl
theorem fi99_1 : fieldInfo Tryd.prog 99 1 = some (1, 1) := by kernel_rfl
theorem fp99_1 : fieldPart Tryd.prog 99 1 = some (false, 1, 1) := by kernel_rfl
theorem fi99_2 : fieldInfo Tryd.prog 99 2 = some (2, 1) := by kernel_rfl
theorem fp99_2 : fieldPart Tryd.prog 99 2 = some (false, 2, 1) := by kernel_rfl
theorem pl99 : placesOf Tryd.prog 99 = some [(0, 1), (1, 1), (2, 1)] := by kernel_rfl
theorem sz100 : (Tryd.prog.info? 100).map (·.size) = some 1 := by kernel_rfl
theorem zr100 : (Tryd.prog.info? 100).map (·.zero) = some (some .nilFunc) := by kernel_rfl
theorem zc100 : (Tryd.prog.info? 100).map (fun i => i.zero.map Value.cells) = some (some #[.nilFunc]) := by kernel_rfl
theorem eo100 : elemOK Tryd.prog 100 1 8 = true := by kernel_rfl
theorem sz101 : (Tryd.prog.info? 101).map (·.size) = some 1 := by kernel_rfl
theorem zr101 : (Tryd.prog.info? 101).map (·.zero) = some (some (.slice none 0 0)) := by kernel_rfl
theorem zc101 : (Tryd.prog.info? 101).map (fun i => i.zero.map Value.cells) = some (some #[(.slice none 0 0)]) := by kernel_rfl
theorem eo101 : elemOK Tryd.prog 101 1 24 = true := by kernel_rfl
theorem sz102 : (Tryd.prog.info? 102).map (·.size) = some 5 := by kernel_rfl
theorem zr102 : (Tryd.prog.info? 102).map (·.zero) = some (some (.agg #[(.int .i64 0), (.int .i64 0), (.int .i64 0), (.int .i64 0), (.int .i64 0)])) := by kernel_rfl
theorem zc102 : (Tryd.prog.info? 102).map (fun i => i.zero.map Value.cells) = some (some #[(.int .i64 0), (.int .i64 0), (.int .i64 0), (.int .i64 0), (.int .i64 0)]) := by kernel_rfl
theorem eo102 : elemOK Tryd.prog 102 5 40 = true := by kernel_rfl
theorem sz103 : (Tryd.prog.info? 103).map (·.size) = some 1 := by kernel_rfl
theorem zr103 : (Tryd.prog.info? 103).map (·.zero) = some (some .nilFunc) := by kernel_rfl
theorem zc103 : (Tryd.prog.info? 103).map (fun i => i.zero.map Value.cells) = some (some #[.nilFunc]) := by kernel_rfl
theorem eo103 : elemOK Tryd.prog 103 1 8 = true := by kernel_rfl
theorem sz104 : (Tryd.prog.info? 104).map (·.size) = some 1 := by kernel_rfl
theorem zr104 : (Tryd.prog.info? 104).map (·.zero) = some (some .nilFunc) := by kernel_rfl
theorem zc104 : (Tryd.prog.info? 104).map (fun i => i.zero.map Value.cells) = some (some #[.nilFunc]) := by kernel_rfl
theorem eo104 : elemOK Tryd.prog 104 1 8 = true := by kernel_rfl
theorem sz105 : (Tryd.prog.info? 105).map (·.size) = some 1 := by kernel_rfl
theorem zr105 : (Tryd.prog.info? 105).map (·.zero) = some (some .nilFunc) := by kernel_rfl
theorem zc105 : (Tryd.prog.info? 105).map (fun i => i.zero.map Value.cells) = some (some #[.nilFunc]) := by kernel_rfl
theorem eo105 : elemOK Tryd.prog 105 1 8 = true := by kernel_rfl
theorem sz106 : (Tryd.prog.info? 106).map (·.size) = some 1 := by kernel_rfl
theorem zr106 : (Tryd.prog.info? 106).map (·.zero) = some (some (.slice none 0 0)) := by kernel_rfl
theorem zc106 : (Tryd.prog.info? 106).map (fun i => i.zero.map Value.cells) = some (some #[(.slice none 0 0)]) := by kernel_rfl
theorem eo106 : elemOK Tryd.prog 106 1 24 = true := by kernel_rfl
theorem sz107 : (Tryd.prog.info? 107).map (·.size) = some 1 := by kernel_rfl
theorem zr107 : (Tryd.prog.info? 107).map (·.zero) = some (some (.map none)) := by kernel_rfl
theorem zc107 : (Tryd.prog.info? 107).map (fun i => i.zero.map Value.cells) = some (some #[(.map none)]) := by kernel_rfl
theorem eo107 : elemOK Tryd.prog 107 1 8 = true := by kernel_rfl
theorem sz108 : (Tryd.prog.info? 108).map (·.size) = some 1 := by kernel_rfl
theorem zr108 : (Tryd.prog.info? 108).map (·.zero) = some (some .nilFunc) := by kernel_rfl
theorem zc108 : (Tryd.prog.info? 108).map (fun i => i.zero.map Value.cells) = some (some #[.nilFunc]) := by kernel_rfl
theorem eo108 : elemOK Tryd.prog 108 1 8 = true := by kernel_rfl
theorem sz109 : (Tryd.prog.info? 109).map (·.size) = some 1 := by kernel_rfl
theorem zr109 : (Tryd.prog.info? 109).map (·.zero) = some (some .nilFunc) := by kernel_rfl
theorem zc109 : (Tryd.prog.info? 109).map (fun i => i.zero.map Value.cells) = some (some #[.nilFunc]) := by kernel_rfl
theorem eo109 : elemOK Tryd.prog 109 1 8 = true := by kernel_rfl
theorem sz110 : (Tryd.prog.info? 110).map (·.size) = some 1 := by kernel_rfl
theorem zr110 : (Tryd.prog.info? 110).map (·.zero) = some (some .nilFunc) := by kernel_rfl
theorem zc110 : (Tryd.prog.info? 110).map (fun i => i.zero.map Value.cells) = some (some #[.nilFunc]) := by kernel_rfl
theorem eo110 : elemOK Tryd.prog 110 1 8 = true := by kernel_rfl
theorem sz111 : (Tryd.prog.info? 111).map (·.size) = some 1 := by kernel_rfl
theorem zr111 : (Tryd.prog.info? 111).map (·.zero) = some (some .nilFunc) := by kernel_rfl
theorem zc111 : (Tryd.prog.info? 111).map (fun i => i.zero.map Value.cells) = some (some #[.nilFunc]) := by kernel_rfl
theorem eo111 : elemOK Tryd.prog 111 1 8 = true := by kernel_rfl
theorem sz112 : (Tryd.prog.info? 112).map (·.size) = some 1 := by kernel_rfl
theorem zr112 : (Tryd.prog.info? 112).map (·.zero) = some (some .nilFunc) := by kernel_rfl
theorem zc112 : (Tryd.prog.info? 112).map (fun i => i.zero.map Value.cells) = some (some #[.nilFunc]) := by kernel_rfl
theorem eo112 : elemOK Tryd.prog 112 1 8 = true := by kernel_rfl
theorem sz113 : (Tryd.prog.info? 113).map (·.size) = some 1 := by kernel_rfl
theorem zr113 : (Tryd.prog.info? 113).map (·.zero) = some (some .nilFunc) := by kernel_rfl
theorem zc113 : (Tryd.prog.info? 113).map (fun i => i.zero.map Value.cells) = some (some #[.nilFunc]) := by kernel_rfl
theorem eo113 : elemOK Tryd.prog 113 1 8 = true := by kernel_rfl
theorem sz114 : (Tryd.prog.info? 114).map (·.size) = some 1 := by kernel_rfl
theorem zr114 : (Tryd.prog.info? 114).map (·.zero) = some (some .nilFunc) := by kernel_rfl
theorem zc114 : (Tryd.prog.info? 114).map (fun i => i.zero.map Value.cells) = some (some #[.nilFunc]) := by kernel_rfl
theorem eo114 : elemOK Tryd.prog 114 1 8 = true := by kernel_rfl
theorem sz115 : (Tryd.prog.info? 115).map (·.size) = some 1 := by kernel_rfl
theorem zr115 : (Tryd.prog.info? 115).map (·.zero) = some (some .nilFunc) := by kernel_rfl
theorem zc115 : (Tryd.prog.info? 115).map (fun i => i.zero.map Value.cells) = some (some #[.nilFunc]) := by kernel_rfl
theorem eo115 : elemOK Tryd.prog 115 1 8 = true := by kernel_rfl
theorem sz116 : (Tryd.prog.info? 116).map (·.size) = some 1 := by kernel_rfl
theorem zr116 : (Tryd.prog.info? 116).map (·.zero) = some (some .nilFunc) := by kernel_rfl
theorem zc116 : (Tryd.prog.info? 116).map (fun i => i.zero.map Value.cells) = some (some #[.nilFunc]) := by kernel_rfl
theorem eo116 : elemOK Tryd.prog 116 1 8 = true := by kernel_rfl
theorem sz117 : (Tryd.prog.info? 117).map (·.size) = some 11 := by kernel_rfl
theorem zr117 : (Tryd.prog.info? 117).map (·.zero) = some (some (.agg #[(.string ⟨#[]⟩), (.string ⟨#[]⟩), (.string ⟨#[]⟩), (.string ⟨#[]⟩), (.string ⟨#[]⟩), (.string ⟨#[]⟩), (.string ⟨#[]⟩), (.string ⟨#[]⟩), (.string ⟨#[]⟩), (.string ⟨#[]⟩), (.string ⟨#[]⟩)])) := by kernel_rfl
theorem zc117 : (Tryd.prog.info? 117).map (fun i => i.zero.map Value.cells) = some (some #[(.string ⟨#[]⟩), (.string ⟨#[]⟩), (.string ⟨#[]⟩), (.string ⟨#[]⟩), (.string ⟨#[]⟩), (.string ⟨#[]⟩), (.string ⟨#[]⟩), (.string ⟨#[]⟩), (.string ⟨#[]⟩), (.string ⟨#[]⟩), (.string ⟨#[]⟩)]) := by kernel_rfl
theorem eo117 : elemOK Tryd.prog 117 11 176 = true := by kernel_rfl
theorem sz118 : (Tryd.prog.info? 118).map (·.size) = some 1 := by kernel_rfl
theorem zr118 : (Tryd.prog.info? 118).map (·.zero) = some (some .nilFunc) := by kernel_rfl
theorem zc118 : (Tryd.prog.info? 118).map (fun i => i.zero.map Value.cells) = some (some #[.nilFunc]) := by kernel_rfl
theorem eo118 : elemOK Tryd.prog 118 1 8 = true := by kernel_rfl
theorem sz119 : (Tryd.prog.info? 119).map (·.size) = some 1 := by kernel_rfl
theorem zr119 : (Tryd.prog.info? 119).map (·.zero) = some (some .nilFunc) := by kernel_rfl
theorem zc119 : (Tryd.prog.info? 119).map (fun i => i.zero.map Value.cells) = some (some #[.nilFunc]) := by kernel_rfl
theorem eo119 : elemOK Tryd.prog 119 1 8 = true := by kernel_rfl
theorem sz120 : (Tryd.prog.info? 120).map (·.size) = some 1 := by kernel_rfl
theorem zr120 : (Tryd.prog.info? 120).map (·.zero) = some (some .nilFunc) := by kernel_rfl
theorem zc120 : (Tryd.prog.info? 120).map (fun i => i.zero.map Value.cells) = some (some #[.nilFunc]) := by kernel_rfl
theorem eo120 : elemOK Tryd.prog 120 1 8 = true := by kernel_rfl
theorem sz121 : (Tryd.prog.info? 121).map (·.size) = some 1 := by kernel_rfl
theorem zr121 : (Tryd.prog.info? 121).map (·.zero) = some (some (.slice none 0 0)) := by kernel_rfl
theorem zc121 : (Tryd.prog.info? 121).map (fun i => i.zero.map Value.cells) = some (some #[(.slice none 0 0)]) := by kernel_rfl
theorem eo121 : elemOK Tryd.prog 121 1 24 = true := by kernel_rfl
theorem sz122 : (Tryd.prog.info? 122).map (·.size) = some 1 := by kernel_rfl
theorem zr122 : (Tryd.prog.info? 122).map (·.zero) = some (some .nilFunc) := by kernel_rfl
theorem zc122 : (Tryd.prog.info? 122).map (fun i => i.zero.map Value.cells) = some (some #[.nilFunc]) := by kernel_rfl
theorem eo122 : elemOK Tryd.prog 122 1 8 = true := by kernel_rfl
theorem sz123 : (Tryd.prog.info? 123).map (·.size) = some 1 := by kernel_rfl
theorem zr123 : (Tryd.prog.info? 123).map (·.zero) = some (some .nilFunc) := by kernel_rfl
theorem zc123 : (Tryd.prog.info? 123).map (fun i => i.zero.map Value.cells) = some (some #[.nilFunc]) := by kernel_rfl
theorem eo123 : elemOK Tryd.prog 123 1 8 = true := by kernel_rfl
theorem sz124 : (Tryd.prog.info? 124).map (·.size) = some 1 := by kernel_rfl
theorem zr124 : (Tryd.prog.info? 124).map (·.zero) = some (some (.pointer none)) := by kernel_rfl
theorem zc124 : (Tryd.prog.info? 124).map (fun i => i.zero.map Value.cells) = some (some #[(.pointer none)]) := by kernel_rfl
theorem eo124 : elemOK Tryd.prog 124 1 8 = true := by kernel_rfl
theorem sz125 : (Tryd.prog.info? 125).map (·.size) = some 2 := by kernel_rfl
theorem zr125 : (Tryd.prog.info? 125).map (·.zero) = some (some (.agg #[(.pointer none), (.slice none 0 0)])) := by kernel_rfl
theorem zc125 : (Tryd.prog.info? 125).map (fun i => i.zero.map Value.cells) = some (some #[(.pointer none), (.slice none 0 0)]) := by kernel_rfl
theorem eo125 : elemOK Tryd.prog 125 2 32 = true := by kernel_rfl
theorem fi125_0 : fieldInfo Tryd.prog 125 0 = some (0, 1) := by kernel_rfl
theorem fp125_0 : fieldPart Tryd.prog 125 0 = some (false, 0, 1) := by kernel_rfl
theorem fi125_1 : fieldInfo Tryd.prog 125 1 = some (1, 1) := by kernel_rfl
theorem fp125_1 : fieldPart Tryd.prog 125 1 = some (false, 1, 1) := by kernel_rfl
theorem pl125 : placesOf Tryd.prog 125 = some [(0, 1), (1, 1)] := by kernel_rfl
theorem sz126 : (Tryd.prog.info? 126).map (·.size) = some 2 := by kernel_rfl
theorem zr126 : (Tryd.prog.info? 126).map (·.zero) = some (some (.agg #[(.pointer none), (.slice none 0 0)])) := by kernel_rfl
theorem zc126 : (Tryd.prog.info? 126).map (fun i => i.zero.map Value.cells) = some (some #[(.pointer none), (.slice none 0 0)]) := by kernel_rfl
theorem eo126 : elemOK Tryd.prog 126 2 32 = true := by kernel_rfl
theorem fi126_0 : fieldInfo Tryd.prog 126 0 = some (0, 1) := by kernel_rfl
theorem fp126_0 : fieldPart Tryd.prog 126 0 = some (false, 0, 1) := by kernel_rfl
theorem fi126_1 : fieldInfo Tryd.prog 126 1 = some (1, 1) := by kernel_rfl
theorem fp126_1 : fieldPart Tryd.prog 126 1 = some (false, 1, 1) := by kernel_rfl
theorem pl126 : placesOf Tryd.prog 126 = some [(0, 1), (1, 1)] := by kernel_rfl
theorem sz127 : (Tryd.prog.info? 127).map (·.size) = some 1 := by kernel_rfl
theorem zr127 : (Tryd.prog.info? 127).map (·.zero) = some (some .nilFunc) := by kernel_rfl
theorem zc127 : (Tryd.prog.info? 127).map (fun i => i.zero.map Value.cells) = some (some #[.nilFunc]) := by kernel_rfl
theorem eo127 : elemOK Tryd.prog 127 1 8 = true := by kernel_rfl
theorem sz128 : (Tryd.prog.info? 128).map (·.size) = some 1 := by kernel_rfl
theorem zr128 : (Tryd.prog.info? 128).map (·.zero) = some (some .nilFunc) := by kernel_rfl
theorem zc128 : (Tryd.prog.info? 128).map (fun i => i.zero.map Value.cells) = some (some #[.nilFunc]) := by kernel_rfl
theorem eo128 : elemOK Tryd.prog 128 1 8 = true := by kernel_rfl
theorem sz129 : (Tryd.prog.info? 129).map (·.size) = some 1 := by kernel_rfl
theorem zr129 : (Tryd.prog.info? 129).map (·.zero) = some (some .nilFunc) := by kernel_rfl
theorem zc129 : (Tryd.prog.info? 129).map (fun i => i.zero.map Value.cells) = some (some #[.nilFunc]) := by kernel_rfl
theorem eo129 : elemOK Tryd.prog 129 1 8 = true := by kernel_rfl
theorem sz130 : (Tryd.prog.info? 130).map (·.size) = some 1 := by kernel_rfl
theorem zr130 : (Tryd.prog.info? 130).map (·.zero) = some (some .nilFunc) := by kernel_rfl
theorem zc130 : (Tryd.prog.info? 130).map (fun i => i.zero.map Value.cells) = some (some #[.nilFunc]) := by kernel_rfl
theorem eo130 : elemOK Tryd.prog 130 1 8 = true := by kernel_rfl
theorem sz131 : (Tryd.prog.info? 131).map (·.size) = some 2 := by kernel_rfl
theorem zr131 : (Tryd.prog.info? 131).map (·.zero) = some (some (.agg #[(.string ⟨#[]⟩), (.string ⟨#[]⟩)])) := by kernel_rfl
theorem zc131 : (Tryd.prog.info? 131).map (fun i => i.zero.map Value.cells) = some (some #[(.string ⟨#[]⟩), (.string ⟨#[]⟩)]) := by kernel_rfl
theorem eo131 : elemOK Tryd.prog 131 2 32 = true := by kernel_rfl
theorem sz132 : (Tryd.prog.info? 132).map (·.size) = some 1 := by kernel_rfl
theorem zr132 : (Tryd.prog.info? 132).map (·.zero) = some (some .nilFunc) := by kernel_rfl
theorem zc132 : (Tryd.prog.info? 132).map (fun i => i.zero.map Value.cells) = some (some #[.nilFunc]) := by kernel_rfl
theorem eo132 : elemOK Tryd.prog 132 1 8 = true := by kernel_rfl
theorem sz133 : (Tryd.prog.info? 133).map (·.size) = some 1 := by kernel_rfl
theorem zr133 : (Tryd.prog.info? 133).map (·.zero) = some (some .nilFunc) := by kernel_rfl
theorem zc133 : (Tryd.prog.info? 133).map (fun i => i.zero.map Value.cells) = some (some #[.nilFunc]) := by kernel_rfl
theorem eo133 : elemOK Tryd.prog 133 1 8 = true := by kernel_rfl
theorem sz134 : (Tryd.prog.info? 134).map (·.size) = some 1 := by kernel_rfl
theorem zr134 : (Tryd.prog.info? 134).map (·.zero) = some (some .nilFunc) := by kernel_rfl
theorem zc134 : (Tryd.prog.info? 134).map (fun i => i.zero.map Value.cells) = some (some #[.nilFunc]) := by kernel_rfl
theorem eo134 : elemOK Tryd.prog 134 1 8 = true := by kernel_rfl
theorem sz135 : (Tryd.prog.info? 135).map (·.size) = some 1 := by kernel_rfl
theorem zr135 : (Tryd.prog.info? 135).map (·.zero) = some (some .nilFunc) := by kernel_rfl
theorem zc135 : (Tryd.prog.info? 135).map (fun i => i.zero.map Value.cells) = some (some #[.nilFunc]) := by kernel_rfl
theorem eo135 : elemOK Tryd.prog 135 1 8 = true := by kernel_rfl
theorem sz136 : (Tryd.prog.info? 136).map (·.size) = some 1 := by kernel_rfl
theorem zr136 : (Tryd.prog.info? 136).map (·.zero) = some (some .nilFunc) := by kernel_rfl
theorem zc136 : (Tryd.prog.info? 136).map (fun i => i.zero.map Value.cells) = some (some #[.nilFunc]) := by kernel_rfl
theorem eo136 : elemOK Tryd.prog 136 1 8 = true := by kernel_rfl
theorem sz137 : (Tryd.prog.info? 137).map (·.size) = some 1 := by kernel_rfl
theorem sz138 : (Tryd.prog.info? 138).map (·.size) = some 1 := by kernel_rfl
theorem zr138 : (Tryd.prog.info? 138).map (·.zero) = some (some .nilFunc) := by kernel_rfl
theorem zc138 : (Tryd.prog.info? 138).map (fun i => i.zero.map Value.cells) = some (some #[.nilFunc]) := by kernel_rfl
theorem eo138 : elemOK Tryd.prog 138 1 8 = true := by kernel_rfl
theorem sz139 : (Tryd.prog.info? 139).map (·.size) = some 1 := by kernel_rfl
theorem zr139 : (Tryd.prog.info? 139).map (·.zero) = some (some .nilFunc) := by kernel_rfl
theorem zc139 : (Tryd.prog.info? 139).map (fun i => i.zero.map Value.cells) = some (some #[.nilFunc]) := by kernel_rfl
theorem eo139 : elemOK Tryd.prog 139 1 8 = true := by kernel_rfl
theorem sz140 : (Tryd.prog.info? 140).map (·.size) = some 1 := by kernel_rfl
theorem zr140 : (Tryd.prog.info? 140).map (·.zero) = some (some .nilFunc) := by kernel_rfl
theorem zc140 : (Tryd.prog.info? 140).map (fun i => i.zero.map Value.cells) = some (some #[.nilFunc]) := by kernel_rfl
theorem eo140 : elemOK Tryd.prog 140 1 8 = true := by kernel_rfl
theorem sz141 : (Tryd.prog.info? 141).map (·.size) = some 1 := by kernel_rfl
theorem zr141 : (Tryd.prog.info? 141).map (·.zero) = some (some .nilFunc) := by kernel_rfl
theorem zc141 : (Tryd.prog.info? 141).map (fun i => i.zero.map Value.cells) = some (some #[.nilFunc]) := by kernel_rfl
theorem eo141 : elemOK Tryd.prog 141 1 8 = true := by kernel_rfl
theorem sz142 : (Tryd.prog.info? 142).map (·.size) = some 1 := by kernel_rfl
theorem zr142 : (Tryd.prog.info? 142).map (·.zero) = some (some .nilFunc) := by kernel_rfl
theorem zc142 : (Tryd.prog.info? 142).map (fun i => i.zero.map Value.cells) = some (some #[.nilFunc]) := by kernel_rfl
theorem eo142 : elemOK Tryd.prog 142 1 8 = true := by kernel_rfl
theorem sz143 : (Tryd.prog.info? 143).map (·.size) = some 1 := by kernel_rfl
theorem zr143 : (Tryd.prog.info? 143).map (·.zero) = some (some .nilFunc) := by kernel_rfl
theorem zc143 : (Tryd.prog.info? 143).map (fun i => i.zero.map Value.cells) = some (some #[.nilFunc]) := by kernel_rfl
theorem eo143 : elemOK Tryd.prog 143 1 8 = true := by kernel_rfl
theorem sz144 : (Tryd.prog.info? 144).map (·.size) = some 1 := by kernel_rfl
theorem zr144 : (Tryd.prog.info? 144).map (·.zero) = some (some .nilFunc) := by kernel_rfl
theorem zc144 : (Tryd.prog.info? 144).map (fun i => i.zero.map Value.cells) = some (some #[.nilFunc]) := by kernel_rfl
theorem eo144 : elemOK Tryd.prog 144 1 8 = true := by kernel_rfl
theorem sz145 : (Tryd.prog.info? 145).map (·.size) = some 1 := by kernel_rfl
theorem zr145 : (Tryd.prog.info? 145).map (·.zero) = some (some (.int .i64 0)) := by kernel_rfl
theorem zc145 : (Tryd.prog.info? 145).map (fun i => i.zero.map Value.cells) = some (some #[(.int .i64 0)]) := by kernel_rfl
theorem eo145 : elemOK Tryd.prog 145 1 8 = true := by kernel_rfl
theorem sz146 : (Tryd.prog.info? 146).map (·.size) = some 1 := by kernel_rfl
theorem sz147 : (Tryd.prog.info? 147).map (·.size) = some 1 := by kernel_rfl
theorem zr147 : (Tryd.prog.info? 147).map (·.zero) = some (some .nilFunc) := by kernel_rfl
theorem zc147 : (Tryd.prog.info? 147).map (fun i => i.zero.map Value.cells) = some (some #[.nilFunc]) := by kernel_rfl
theorem eo147 : elemOK Tryd.prog 147 1 8 = true := by kernel_rfl
theorem sz148 : (Tryd.prog.info? 148).map (·.size) = some 1 := by kernel_rfl
theorem zr148 : (Tryd.prog.info? 148).map (·.zero) = some (some (.pointer none)) := by kernel_rfl
theorem zc148 : (Tryd.prog.info? 148).map (fun i => i.zero.map Value.cells) = some (some #[(.pointer none)]) := by kernel_rfl
theorem eo148 : elemOK Tryd.prog 148 1 8 = true := by kernel_rfl
theorem sz149 : (Tryd.prog.info? 149).map (·.size) = some 1 := by kernel_rfl
theorem zr149 : (Tryd.prog.info? 149).map (·.zero) = some (some .nilFunc) := by kernel_rfl
theorem zc149 : (Tryd.prog.info? 149).map (fun i => i.zero.map Value.cells) = some (some #[.nilFunc]) := by kernel_rfl
theorem eo149 : elemOK Tryd.prog 149 1 8 = true := by kernel_rfl
theorem sz150 : (Tryd.prog.info? 150).map (·.size) = some 1 := by kernel_rfl
theorem zr150 : (Tryd.prog.info? 150).map (·.zero) = some (some .nilFunc) := by kernel_rfl
theorem zc150 : (Tryd.prog.info? 150).map (fun i => i.zero.map Value.cells) = some (some #[.nilFunc]) := by kernel_rfl
theorem eo150 : elemOK Tryd.prog 150 1 8 = true := by kernel_rfl
theorem sz151 : (Tryd.prog.info? 151).map (·.size) = some 1 := by kernel_rfl
theorem zr151 : (Tryd.prog.info? 151).map (·.zero) = some (some .nilFunc) := by kernel_rfl
theorem zc151 : (Tryd.prog.info? 151).map (fun i => i.zero.map Value.cells) = some (some #[.nilFunc]) := by kernel_rfl
theorem eo151 : elemOK Tryd.prog 151 1 8 = true := by kernel_rfl
theorem sz152 : (Tryd.prog.info? 152).map (·.size) = some 1 := by kernel_rfl
theorem zr152 : (Tryd.prog.info? 152).map (·.zero) = some (some (.pointer none)) := by kernel_rfl
theorem zc152 : (Tryd.prog.info? 152).map (fun i => i.zero.map Value.cells) = some (some #[(.pointer none)]) := by kernel_rfl
theorem eo152 : elemOK Tryd.prog 152 1 8 = true := by kernel_rfl
theorem sz153 : (Tryd.prog.info? 153).map (·.size) = some 1 := by kernel_rfl
theorem zr153 : (Tryd.prog.info? 153).map (·.zero) = some (some .nilFunc) := by kernel_rfl
theorem zc153 : (Tryd.prog.info? 153).map (fun i => i.zero.map Value.cells) = some (some #[.nilFunc]) := by kernel_rfl
theorem eo153 : elemOK Tryd.prog 153 1 8 = true := by kernel_rfl
theorem sz154 : (Tryd.prog.info? 154).map (·.size) = some 1 := by kernel_rfl
theorem sz155 : (Tryd.prog.info? 155).map (·.size) = some 1 := by kernel_rfl
theorem zr155 : (Tryd.prog.info? 155).map (·.zero) = some (some .nilFunc) := by kernel_rfl
theorem zc155 : (Tryd.prog.info? 155).map (fun i => i.zero.map Value.cells) = some (some #[.nilFunc]) := by kernel_rfl
theorem eo155 : elemOK Tryd.prog 155 1 8 = true := by kernel_rfl
theorem sz156 : (Tryd.prog.info? 156).map (·.size) = some 1 := by kernel_rfl
theorem sz157 : (Tryd.prog.info? 157).map (·.size) = some 1 := by kernel_rfl
theorem zr157 : (Tryd.prog.info? 157).map (·.zero) = some (some .nilFunc) := by kernel_rfl
theorem zc157 : (Tryd.prog.info? 157).map (fun i => i.zero.map Value.cells) = some (some #[.nilFunc]) := by kernel_rfl
theorem eo157 : elemOK Tryd.prog 157 1 8 = true := by kernel_rfl
theorem sz158 : (Tryd.prog.info? 158).map (·.size) = some 1 := by kernel_rfl
theorem zr158 : (Tryd.prog.info? 158).map (·.zero) = some (some .nilFunc) := by kernel_rfl
theorem zc158 : (Tryd.prog.info? 158).map (fun i => i.zero.map Value.cells) = some (some #[.nilFunc]) := by kernel_rfl
theorem eo158 : elemOK Tryd.prog 158 1 8 = true := by kernel_rfl
theorem sz159 : (Tryd.prog.info? 159).map (·.size) = some 1 := by kernel_rfl
theorem sz160 : (Tryd.prog.info? 160).map (·.size) = some 1 := by kernel_rfl
theorem zr160 : (Tryd.prog.info? 160).map (·.zero) = some (some .nilFunc) := by kernel_rfl
theorem zc160 : (Tryd.prog.info? 160).map (fun i => i.zero.map Value.cells) = some (some #[.nilFunc]) := by kernel_rfl
theorem eo160 : elemOK Tryd.prog 160 1 8 = true := by kernel_rfl
theorem sz161 : (Tryd.prog.info? 161).map (·.size) = some 1 := by kernel_rfl
theorem zr161 : (Tryd.prog.info? 161).map (·.zero) = some (some .nilFunc) := by kernel_rfl
theorem zc161 : (Tryd.prog.info? 161).map (fun i => i.zero.map Value.cells) = some (some #[.nilFunc]) := by kernel_rfl
theorem eo161 : elemOK Tryd.prog 161 1 8 = true := by kernel_rfl
theorem sz162 : (Tryd.prog.info? 162).map (·.size) = some 3 := by kernel_rfl
theorem zr162 : (Tryd.prog.info? 162).map (·.zero) = some (some (.agg #[(.string ⟨#[]⟩), (.string ⟨#[]⟩), .nilIface])) := by kernel_rfl
theorem zc162 : (Tryd.prog.info? 162).map (fun i => i.zero.map Value.cells) = some (some #[(.string ⟨#[]⟩), (.string ⟨#[]⟩), .nilIface]) := by kernel_rfl
theorem eo162 : elemOK Tryd.prog 162 3 48 = true := by kernel_rfl
theorem fi162_0 : fieldInfo Tryd.prog 162 0 = some (0, 1) := by kernel_rfl
theorem fp162_0 : fieldPart Tryd.prog 162 0 = some (false, 0, 1) := by kernel_rfl
theorem fi162_1 : fieldInfo Tryd.prog 162 1 = some (1, 1) := by kernel_rfl
theorem fp162_1 : fieldPart Tryd.prog 162 1 = some (false, 1, 1) := by kernel_rfl
theorem fi162_2 : fieldInfo Tryd.prog 162 2 = some (2, 1) := by kernel_rfl
theorem fp162_2 : fieldPart Tryd.prog 162 2 = some (false, 2, 1) := by kernel_rfl
theorem pl162 : placesOf Tryd.prog 162 = some [(0, 1), (1, 1), (2, 1)] := by kernel_rfl
theorem sz163 : (Tryd.prog.info? 163).map (·.size) = some 3 := by kernel_rfl
theorem zr163 : (Tryd.prog.info? 163).map (·.zero) = some (some (.agg #[(.string ⟨#[]⟩), (.string ⟨#[]⟩), .nilIface])) := by kernel_rfl
theorem zc163 : (Tryd.prog.info? 163).map (fun i => i.zero.map Value.cells) = some (some #[(.string ⟨#[]⟩), (.string ⟨#[]⟩), .nilIface]) := by kernel_rfl
theorem eo163 : elemOK Tryd.prog 163 3 48 = true := by kernel_rfl
theorem fi163_0 : fieldInfo Tryd.prog 163 0 = some (0, 1) := by kernel_rfl
theorem fp163_0 : fieldPart Tryd.prog 163 0 = some (false, 0, 1) := by kernel_rfl
theorem fi163_1 : fieldInfo Tryd.prog 163 1 = some (1, 1) := by kernel_rfl
theorem fp163_1 : fieldPart Tryd.prog 163 1 = some (false, 1, 1) := by kernel_rfl
theorem fi163_2 : fieldInfo Tryd.prog 163 2 = some (2, 1) := by kernel_rfl
theorem fp163_2 : fieldPart Tryd.prog 163 2 = some (false, 2, 1) := by kernel_rfl
theorem pl163 : placesOf Tryd.prog 163 = some [(0, 1), (1, 1), (2, 1)] := by kernel_rfl
theorem sz164 : (Tryd.prog.info? 164).map (·.size) = some 1 := by kernel_rfl
theorem zr164 : (Tryd.prog.info? 164).map (·.zero) = some (some .nilFunc) := by kernel_rfl
theorem zc164 : (Tryd.prog.info? 164).map (fun i => i.zero.map Value.cells) = some (some #[.nilFunc]) := by kernel_rfl
theorem eo164 : elemOK Tryd.prog 164 1 8 = true := by kernel_rfl
theorem sz165 : (Tryd.prog.info? 165).map (·.size) = some 24 := by kernel_rfl
theorem zr165 : (Tryd.prog.info? 165).map (·.zero) = some (some (.agg (List.toArray ((.int .u8 0) :: (.int .u8 0) :: (.int .u8 0) :: (.int .u8 0) :: (.int .u8 0) :: (.int .u8 0) :: (.int .u8 0) :: (.int .u8 0) :: (.int .u8 0) :: (.int .u8 0) :: (.int .u8 0) :: (.int .u8 0) :: (.int .u8 0) :: (.int .u8 0) :: (.int .u8 0) :: (.int .u8 0) :: (.int .u8 0) :: (.int .u8 0) :: (.int .u8 0) :: (.int .u8 0) :: (.int .u8 0) :: (.int .u8 0) :: (.int .u8 0) :: (.int .u8 0) :: [])))) := by kernel_rfl
theorem zc165 : (Tryd.prog.info? 165).map (fun i => i.zero.map Value.cells) = some (some (List.toArray ((.int .u8 0) :: (.int .u8 0) :: (.int .u8 0) :: (.int .u8 0) :: (.int .u8 0) :: (.int .u8 0) :: (.int .u8 0) :: (.int .u8 0) :: (.int .u8 0) :: (.int .u8 0) :: (.int .u8 0) :: (.int .u8 0) :: (.int .u8 0) :: (.int .u8 0) :: (.int .u8 0) :: (.int .u8 0) :: (.int .u8 0) :: (.int .u8 0) :: (.int .u8 0) :: (.int .u8 0) :: (.int .u8 0) :: (.int .u8 0) :: (.int .u8 0) :: (.int .u8 0) :: []))) := by kernel_rfl
theorem eo165 : elemOK Tryd.prog 165 24 24 = true := by kernel_rfl
theorem sz166 : (Tryd.prog.info? 166).map (·.size) = some 1 := by kernel_rfl
theorem zr166 : (Tryd.prog.info? 166).map (·.zero) = some (some .nilFunc) := by kernel_rfl
theorem zc166 : (Tryd.prog.info? 166).map (fun i => i.zero.map Value.cells) = some (some #[.nilFunc]) := by kernel_rfl
theorem eo166 : elemOK Tryd.prog 166 1 8 = true := by kernel_rfl
theorem sz167 : (Tryd.prog.info? 167).map (·.size) = some 1 := by kernel_rfl
theorem zr167 : (Tryd.prog.info? 167).map (·.zero) = some (some .nilFunc) := by kernel_rfl
theorem zc167 : (Tryd.prog.info? 167).map (fun i => i.zero.map Value.cells) = some (some #[.nilFunc]) := by kernel_rfl
theorem eo167 : elemOK Tryd.prog 167 1 8 = true := by kernel_rfl
theorem sz168 : (Tryd.prog.info? 168).map (·.size) = some 1 := by kernel_rfl
theorem sz169 : (Tryd.prog.info? 169).map (·.size) = some 1 := by kernel_rfl
theorem zr169 : (Tryd.prog.info? 169).map (·.zero) = some (some .nilFunc) := by kernel_rfl
theorem zc169 : (Tryd.prog.info? 169).map (fun i => i.zero.map Value.cells) = some (some #[.nilFunc]) := by kernel_rfl
theorem eo169 : elemOK Tryd.prog 169 1 8 = true := by kernel_rfl
theorem sz170 : (Tryd.prog.info? 170).map (·.size) = some 1 := by kernel_rfl
theorem zr170 : (Tryd.prog.info? 170).map (·.zero) = some (some .nilFunc) := by kernel_rfl
theorem zc170 : (Tryd.prog.info? 170).map (fun i => i.zero.map Value.cells) = some (some #[.nilFunc]) := by kernel_rfl
theorem eo170 : elemOK Tryd.prog 170 1 8 = true := by kernel_rfl
theorem sz171 : (Tryd.prog.info? 171).map (·.size) = some 1 := by kernel_rfl
theorem zr171 : (Tryd.prog.info? 171).map (·.zero) = some (some (.pointer none)) := by kernel_rfl
theorem zc171 : (Tryd.prog.info? 171).map (fun i => i.zero.map Value.cells) = some (some #[(.pointer none)]) := by kernel_rfl
theorem eo171 : elemOK Tryd.prog 171 1 8 = true := by kernel_rfl
theorem sz172 : (Tryd.prog.info? 172).map (·.size) = some 1 := by kernel_rfl
theorem zr172 : (Tryd.prog.info? 172).map (·.zero) = some (some .nilFunc) := by kernel_rfl
theorem zc172 : (Tryd.prog.info? 172).map (fun i => i.zero.map Value.cells) = some (some #[.nilFunc]) := by kernel_rfl
theorem eo172 : elemOK Tryd.prog 172 1 8 = true := by kernel_rfl
theorem sz173 : (Tryd.prog.info? 173).map (·.size) = some 1 := by kernel_rfl
theorem zr173 : (Tryd.prog.info? 173).map (·.zero) = some (some .nilFunc) := by kernel_rfl
theorem zc173 : (Tryd.prog.info? 173).map (fun i => i.zero.map Value.cells) = some (some #[.nilFunc]) := by kernel_rfl
theorem eo173 : elemOK Tryd.prog 173 1 8 = true := by kernel_rfl
theorem sz174 : (Tryd.prog.info? 174).map (·.size) = some 1 := by kernel_rfl
theorem zr174 : (Tryd.prog.info? 174).map (·.zero) = some (some .nilFunc) := by kernel_rfl
theorem zc174 : (Tryd.prog.info? 174).map (fun i => i.zero.map Value.cells) = some (some #[.nilFunc]) := by kernel_rfl
theorem eo174 : elemOK Tryd.prog 174 1 8 = true := by kernel_rfl
theorem sz175 : (Tryd.prog.info? 175).map (·.size) = some 1 := by kernel_rfl
theorem sz176 : (Tryd.prog.info? 176).map (·.size) = some 1 := by kernel_rfl
theorem zr176 : (Tryd.prog.info? 176).map (·.zero) = some (some .nilFunc) := by kernel_rfl
theorem zc176 : (Tryd.prog.info? 176).map (fun i => i.zero.map Value.cells) = some (some #[.nilFunc]) := by kernel_rfl
theorem eo176 : elemOK Tryd.prog 176 1 8 = true := by kernel_rfl
theorem sz177 : (Tryd.prog.info? 177).map (·.size) = some 1 := by kernel_rfl
theorem zr177 : (Tryd.prog.info? 177).map (·.zero) = some (some .nilFunc) := by kernel_rfl
theorem zc177 : (Tryd.prog.info? 177).map (fun i => i.zero.map Value.cells) = some (some #[.nilFunc]) := by kernel_rfl
theorem eo177 : elemOK Tryd.prog 177 1 8 = true := by kernel_rfl
theorem sz178 : (Tryd.prog.info? 178).map (·.size) = some 1 := by kernel_rfl
theorem zr178 : (Tryd.prog.info? 178).map (·.zero) = some (some .nilFunc) := by kernel_rfl
theorem zc178 : (Tryd.prog.info? 178).map (fun i => i.zero.map Value.cells) = some (some #[.nilFunc]) := by kernel_rfl
theorem eo178 : elemOK Tryd.prog 178 1 8 = true := by kernel_rfl
theorem sz179 : (Tryd.prog.info? 179).map (·.size) = some 1 := by kernel_rfl
theorem zr179 : (Tryd.prog.info? 179).map (·.zero) = some (some (.pointer none)) := by kernel_rfl
theorem zc179 : (Tryd.prog.info? 179).map (fun i => i.zero.map Value.cells) = some (some #[(.pointer none)]) := by kernel_rfl
theorem eo179 : elemOK Tryd.prog 179 1 8 = true := by kernel_rfl
theorem sz180 : (Tryd.prog.info? 180).map (·.size) = some 1 := by kernel_rfl
theorem zr180 : (Tryd.prog.info? 180).map (·.zero) = some (some (.agg #[(.string ⟨#[]⟩)])) := by kernel_rfl
theorem zc180 : (Tryd.prog.info? 180).map (fun i => i.zero.map Value.cells) = some (some #[(.string ⟨#[]⟩)]) := by kernel_rfl
theorem eo180 : elemOK Tryd.prog 180 1 16 = true := by kernel_rfl
theorem fi180_0 : fieldInfo Tryd.prog 180 0 = some (0, 1) := by kernel_rfl
theorem fp180_0 : fieldPart Tryd.prog 180 0 = some (false, 0, 1) := by kernel_rfl
theorem pl180 : placesOf Tryd.prog 180 = some [(0, 1)] := by kernel_rfl
theorem sz181 : (Tryd.prog.info? 181).map (·.size) = some 1 := by kernel_rfl
theorem zr181 : (Tryd.prog.info? 181).map (·.zero) = some (some (.agg #[(.string ⟨#[]⟩)])) := by kernel_rfl
theorem zc181 : (Tryd.prog.info? 181).map (fun i => i.zero.map Value.cells) = some (some #[(.string ⟨#[]⟩)]) := by kernel_rfl
theorem eo181 : elemOK Tryd.prog 181 1 16 = true := by kernel_rfl
theorem fi181_0 : fieldInfo Tryd.prog 181 0 = some (0, 1) := by kernel_rfl
theorem fp181_0 : fieldPart Tryd.prog 181 0 = some (false, 0, 1) := by kernel_rfl
theorem pl181 : placesOf Tryd.prog 181 = some [(0, 1)] := by kernel_rfl
theorem sz182 : (Tryd.prog.info? 182).map (·.size) = some 1 := by kernel_rfl
theorem zr182 : (Tryd.prog.info? 182).map (·.zero) = some (some .nilFunc) := by kernel_rfl
theorem zc182 : (Tryd.prog.info? 182).map (fun i => i.zero.map Value.cells) = some (some #[.nilFunc]) := by kernel_rfl
theorem eo182 : elemOK Tryd.prog 182 1 8 = true := by kernel_rfl
theorem sz183 : (Tryd.prog.info? 183).map (·.size) = some 20 := by kernel_rfl
theorem zr183 : (Tryd.prog.info? 183).map (·.zero) = some (some (.agg (List.toArray ((.int .u64 0) :: (.int .u64 0) :: (.int .u64 0) :: (.int .u64 0) :: (.int .u64 0) :: (.int .u64 0) :: (.int .u64 0) :: (.int .u64 0) :: (.int .u64 0) :: (.int .u64 0) :: (.int .u64 0) :: (.int .u64 0) :: (.int .u64 0) :: (.int .u64 0) :: (.int .u64 0) :: (.int .u64 0) :: (.int .u64 0) :: (.int .u64 0) :: (.int .u64 0) :: (.int .u64 0) :: [])))) := by kernel_rfl
theorem zc183 : (Tryd.prog.info? 183).map (fun i => i.zero.map Value.cells) = some (some (List.toArray ((.int .u64 0) :: (.int .u64 0) :: (.int .u64 0) :: (.int .u64 0) :: (.int .u64 0) :: (.int .u64 0) :: (.int .u64 0) :: (.int .u64 0) :: (.int .u64 0) :: (.int .u64 0) :: (.int .u64 0) :: (.int .u64 0) :: (.int .u64 0) :: (.int .u64 0) :: (.int .u64 0) :: (.int .u64 0) :: (.int .u64 0) :: (.int .u64 0) :: (.int .u64 0) :: (.int .u64 0) :: []))) := by kernel_rfl
theorem eo183 : elemOK Tryd.prog 183 20 160 = true := by kernel_rfl
theorem sz184 : (Tryd.prog.info? 184).map (·.size) = some 65 := by kernel_rfl
theorem sz185 : (Tryd.prog.info? 185).map (·.size) = some 1 := by kernel_rfl
theorem zr185 : (Tryd.prog.info? 185).map (·.zero) = some (some .nilFunc) := by kernel_rfl
theorem zc185 : (Tryd.prog.info? 185).map (fun i => i.zero.map Value.cells) = some (some #[.nilFunc]) := by kernel_rfl
theorem eo185 : elemOK Tryd.prog 185 1 8 = true := by kernel_rfl
theorem sz186 : (Tryd.prog.info? 186).map (·.size) = some 1 := by kernel_rfl
theorem zr186 : (Tryd.prog.info? 186).map (·.zero) = some (some .nilFunc) := by kernel_rfl
theorem zc186 : (Tryd.prog.info? 186).map (fun i => i.zero.map Value.cells) = some (some #[.nilFunc]) := by kernel_rfl
theorem eo186 : elemOK Tryd.prog 186 1 8 = true := by kernel_rfl
theorem sz187 : (Tryd.prog.info? 187).map (·.size) = some 256 := by kernel_rfl
theorem sz188 : (Tryd.prog.info? 188).map (·.size) = some 2 := by kernel_rfl
theorem zr188 : (Tryd.prog.info? 188).map (·.zero) = some (some (.agg #[(.int .u8 0), (.int .u8 0)])) := by kernel_rfl
theorem zc188 : (Tryd.prog.info? 188).map (fun i => i.zero.map Value.cells) = some (some #[(.int .u8 0), (.int .u8 0)]) := by kernel_rfl
theorem eo188 : elemOK Tryd.prog 188 2 2 = true := by kernel_rfl
theorem fi188_0 : fieldInfo Tryd.prog 188 0 = some (0, 1) := by kernel_rfl
theorem fp188_0 : fieldPart Tryd.prog 188 0 = some (false, 0, 1) := by kernel_rfl
theorem fi188_1 : fieldInfo Tryd.prog 188 1 = some (1, 1) := by kernel_rfl
theorem fp188_1 : fieldPart Tryd.prog 188 1 = some (false, 1, 1) := by kernel_rfl
theorem pl188 : placesOf Tryd.prog 188 = some [(0, 1), (1, 1)] := by kernel_rfl
theorem sz189 : (Tryd.prog.info? 189).map (·.size) = some 2 := by kernel_rfl
theorem zr189 : (Tryd.prog.info? 189).map (·.zero) = some (some (.agg #[(.int .u8 0), (.int .u8 0)])) := by kernel_rfl
theorem zc189 : (Tryd.prog.info? 189).map (fun i => i.zero.map Value.cells) = some (some #[(.int .u8 0), (.int .u8 0)]) := by kernel_rfl
theorem eo189 : elemOK Tryd.prog 189 2 2 = true := by kernel_rfl
theorem fi189_0 : fieldInfo Tryd.prog 189 0 = some (0, 1) := by kernel_rfl
theorem fp189_0 : fieldPart Tryd.prog 189 0 = some (false, 0, 1) := by kernel_rfl
theorem fi189_1 : fieldInfo Tryd.prog 189 1 = some (1, 1) := by kernel_rfl
theorem fp189_1 : fieldPart Tryd.prog 189 1 = some (false, 1, 1) := by kernel_rfl
theorem pl189 : placesOf Tryd.prog 189 = some [(0, 1), (1, 1)] := by kernel_rfl
theorem sz190 : (Tryd.prog.info? 190).map (·.size) = some 32 := by kernel_rfl
theorem zr190 : (Tryd.prog.info? 190).map (·.zero) = some (some (.agg (List.toArray ((.int .u8 0) :: (.int .u8 0) :: (.int .u8 0) :: (.int .u8 0) :: (.int .u8 0) :: (.int .u8 0) :: (.int .u8 0) :: (.int .u8 0) :: (.int .u8 0) :: (.int .u8 0) :: (.int .u8 0) :: (.int .u8 0) :: (.int .u8 0) :: (.int .u8 0) :: (.int .u8 0) :: (.int .u8 0) :: (.int .u8 0) :: (.int .u8 0) :: (.int .u8 0) :: (.int .u8 0) :: (.int .u8 0) :: (.int .u8 0) :: (.int .u8 0) :: (.int .u8 0) :: (.int .u8 0) :: (.int .u8 0) :: (.int .u8 0) :: (.int .u8 0) :: (.int .u8 0) :: (.int .u8 0) :: (.int .u8 0) :: (.int .u8 0) :: [])))) := by kernel_rfl
theorem zc190 : (Tryd.prog.info? 190).map (fun i => i.zero.map Value.cells) = some (some (List.toArray ((.int .u8 0) :: (.int .u8 0) :: (.int .u8 0) :: (.int .u8 0) :: (.int .u8 0) :: (.int .u8 0) :: (.int .u8 0) :: (.int .u8 0) :: (.int .u8 0) :: (.int .u8 0) :: (.int .u8 0) :: (.int .u8 0) :: (.int .u8 0) :: (.int .u8 0) :: (.int .u8 0) :: (.int .u8 0) :: (.int .u8 0) :: (.int .u8 0) :: (.int .u8 0) :: (.int .u8 0) :: (.int .u8 0) :: (.int .u8 0) :: (.int .u8 0) :: (.int .u8 0) :: (.int .u8 0) :: (.int .u8 0) :: (.int .u8 0) :: (.int .u8 0) :: (.int .u8 0) :: (.int .u8 0) :: (.int .u8 0) :: (.int .u8 0) :: []))) := by kernel_rfl
theorem eo190 : elemOK Tryd.prog 190 32 32 = true := by kernel_rfl
theorem sz191 : (Tryd.prog.info? 191).map (·.size) = some 32 := by kernel_rfl
theorem zr191 : (Tryd.prog.info? 191).map (·.zero) = some (some (.agg (List.toArray ((.int .u8 0) :: (.int .u8 0) :: (.int .u8 0) :: (.int .u8 0) :: (.int .u8 0) :: (.int .u8 0) :: (.int .u8 0) :: (.int .u8 0) :: (.int .u8 0) :: (.int .u8 0) :: (.int .u8 0) :: (.int .u8 0) :: (.int .u8 0) :: (.int .u8 0) :: (.int .u8 0) :: (.int .u8 0) :: (.int .u8 0) :: (.int .u8 0) :: (.int .u8 0) :: (.int .u8 0) :: (.int .u8 0) :: (.int .u8 0) :: (.int .u8 0) :: (.int .u8 0) :: (.int .u8 0) :: (.int .u8 0) :: (.int .u8 0) :: (.int .u8 0) :: (.int .u8 0) :: (.int .u8 0) :: (.int .u8 0) :: (.int .u8 0) :: [])))) := by kernel_rfl
theorem zc191 : (Tryd.prog.info? 191).map (fun i => i.zero.map Value.cells) = some (some (List.toArray ((.int .u8 0) :: (.int .u8 0) :: (.int .u8 0) :: (.int .u8 0) :: (.int .u8 0) :: (.int .u8 0) :: (.int .u8 0) :: (.int .u8 0) :: (.int .u8 0) :: (.int .u8 0) :: (.int .u8 0) :: (.int .u8 0) :: (.int .u8 0) :: (.int .u8 0) :: (.int .u8 0) :: (.int .u8 0) :: (.int .u8 0) :: (.int .u8 0) :: (.int .u8 0) :: (.int .u8 0) :: (.int .u8 0) :: (.int .u8 0) :: (.int .u8 0) :: (.int .u8 0) :: (.int .u8 0) :: (.int .u8 0) :: (.int .u8 0) :: (.int .u8 0) :: (.int .u8 0) :: (.int .u8 0) :: (.int .u8 0) :: (.int .u8 0) :: []))) := by kernel_rfl
theorem eo191 : elemOK Tryd.prog 191 32 32 = true := by kernel_rfl
theorem sz192 : (Tryd.prog.info? 192).map (·.size) = some 64 := by kernel_rfl
theorem zr192 : (Tryd.prog.info? 192).map (·.zero) = some (some (.agg (List.toArray ((.int .u8 0) :: (.int .u8 0) :: (.int .u8 0) :: (.int .u8 0) :: (.int .u8 0) :: (.int .u8 0) :: (.int .u8 0) :: (.int .u8 0) :: (.int .u8 0) :: (.int .u8 0) :: (.int .u8 0) :: (.int .u8 0) :: (.int .u8 0) :: (.int .u8 0) :: (.int .u8 0) :: (.int .u8 0) :: (.int .u8 0) :: (.int .u8 0) :: (.int .u8 0) :: (.int .u8 0) :: (.int .u8 0) :: (.int .u8 0) :: (.int .u8 0) :: (.int .u8 0) :: (.int .u8 0) :: (.int .u8 0) :: (.int .u8 0) :: (.int .u8 0) :: (.int .u8 0) :: (.int .u8 0) :: (.int .u8 0) :: (.int .u8 0) :: (.int .u8 0) :: (.int .u8 0) :: (.int .u8 0) :: (.int .u8 0) :: (.int .u8 0) :: (.int .u8 0) :: (.int .u8 0) :: (.int .u8 0) :: (.int .u8 0) :: (.int .u8 0) :: (.int .u8 0) :: (.int .u8 0) :: (.int .u8 0) :: (.int .u8 0) :: (.int .u8 0) :: (.int .u8 0) :: (.int .u8 0) :: (.int .u8 0) :: (.int .u8 0) :: (.int .u8 0) :: (.int .u8 0) :: (.int .u8 0) :: (.int .u8 0) :: (.int .u8 0) :: (.int .u8 0) :: (.int .u8 0) :: (.int .u8 0) :: (.int .u8 0) :: (.int .u8 0) :: (.int .u8 0) :: (.int .u8 0) :: (.int .u8 0) :: [])))) := by kernel_rfl
theorem zc192 : (Tryd.prog.info? 192).map (fun i => i.zero.map Value.cells) = some (some (List.toArray ((.int .u8 0) :: (.int .u8 0) :: (.int .u8 0) :: (.int .u8 0) :: (.int .u8 0) :: (.int .u8 0) :: (.int .u8 0) :: (.int .u8 0) :: (.int .u8 0) :: (.int .u8 0) :: (.int .u8 0) :: (.int .u8 0) :: (.int .u8 0) :: (.int .u8 0) :: (.int .u8 0) :: (.int .u8 0) :: (.int .u8 0) :: (.int .u8 0) :: (.int .u8 0) :: (.int .u8 0) :: (.int .u8 0) :: (.int .u8 0) :: (.int .u8 0) :: (.int .u8 0) :: (.int .u8 0) :: (.int .u8 0) :: (.int .u8 0) :: (.int .u8 0) :: (.int .u8 0) :: (.int .u8 0) :: (.int .u8 0) :: (.int .u8 0) :: (.int .u8 0) :: (.int .u8 0) :: (.int .u8 0) :: (.int .u8 0) :: (.int .u8 0) :: (.int .u8 0) :: (.int .u8 0) :: (.int .u8 0) :: (.int .u8 0) :: (.int .u8 0) :: (.int .u8 0) :: (.int .u8 0) :: (.int .u8 0) :: (.int .u8 0) :: (.int .u8 0) :: (.int .u8 0) :: (.int .u8 0) :: (.int .u8 0) :: (.int .u8 0) :: (.int .u8 0) :: (.int .u8 0) :: (.int .u8 0) :: (.int .u8 0) :: (.int .u8 0) :: (.int .u8 0) :: (.int .u8 0) :: (.int .u8 0) :: (.int .u8 0) :: (.int .u8 0) :: (.int .u8 0) :: (.int .u8 0) :: (.int .u8 0) :: []))) := by kernel_rfl
theorem eo192 : elemOK Tryd.prog 192 64 64 = true := by kernel_rfl
theorem sz193 : (Tryd.prog.info? 193).map (·.size) = some 4 := by kernel_rfl
theorem zr193 : (Tryd.prog.info? 193).map (·.zero) = some (some (.agg #[(.pointer none), (.pointer none), (.pointer none), (.string ⟨#[]⟩)])) := by kernel_rfl
theorem zc193 : (Tryd.prog.info? 193).map (fun i => i.zero.map Value.cells) = some (some #[(.pointer none), (.pointer none), (.pointer none), (.string ⟨#[]⟩)]) := by kernel_rfl
theorem eo193 : elemOK Tryd.prog 193 4 40 = true := by kernel_rfl
theorem fi193_0 : fieldInfo Tryd.prog 193 0 = some (0, 1) := by kernel_rfl
theorem fp193_0 : fieldPart Tryd.prog 193 0 = some (false, 0, 1) := by kernel_rfl
theorem fi193_1 : fieldInfo Tryd.prog 193 1 = some (1, 1) := by kernel_rfl
theorem fp193_1 : fieldPart Tryd.prog 193 1 = some (false, 1, 1) := by kernel_rfl
theorem fi193_2 : fieldInfo Tryd.prog 193 2 = some (2, 1) := by kernel_rfl
theorem fp193_2 : fieldPart Tryd.prog 193 2 = some (false, 2, 1) := by kernel_rfl
theorem fi193_3 : fieldInfo Tryd.prog 193 3 = some (3, 1) := by kernel_rfl
theorem fp193_3 : fieldPart Tryd.prog 193 3 = some (false, 3, 1) := by kernel_rfl
theorem pl193 : placesOf Tryd.prog 193 = some [(0, 1), (1, 1), (2, 1), (3, 1)] := by kernel_rfl
theorem sz194 : (Tryd.prog.info? 194).map (·.size) = some 4 := by kernel_rfl
theorem zr194 : (Tryd.prog.info? 194).map (·.zero) = some (some (.agg #[(.pointer none), (.pointer none), (.pointer none), (.string ⟨#[]⟩)])) := by kernel_rfl
theorem zc194 : (Tryd.prog.info? 194).map (fun i => i.zero.map Value.cells) = some (some #[(.pointer none), (.pointer none), (.pointer none), (.string ⟨#[]⟩)]) := by kernel_rfl
theorem eo194 : elemOK Tryd.prog 194 4 40 = true := by kernel_rfl
theorem fi194_0 : fieldInfo Tryd.prog 194 0 = some (0, 1) := by kernel_rfl
theorem fp194_0 : fieldPart Tryd.prog 194 0 = some (false, 0, 1) := by kernel_rfl
theorem fi194_1 : fieldInfo Tryd.prog 194 1 = some (1, 1) := by kernel_rfl
theorem fp194_1 : fieldPart Tryd.prog 194 1 = some (false, 1, 1) := by kernel_rfl
theorem fi194_2 : fieldInfo Tryd.prog 194 2 = some (2, 1) := by kernel_rfl
theorem fp194_2 : fieldPart Tryd.prog 194 2 = some (false, 2, 1) := by kernel_rfl
theorem fi194_3 : fieldInfo Tryd.prog 194 3 = some (3, 1) := by kernel_rfl
theorem fp194_3 : fieldPart Tryd.prog 194 3 = some (false, 3, 1) := by kernel_rfl
theorem pl194 : placesOf Tryd.prog 194 = some [(0, 1), (1, 1), (2, 1), (3, 1)] := by kernel_rfl
theorem sz195 : (Tryd.prog.info? 195).map (·.size) = some 0 := by kernel_rfl
theorem zr195 : (Tryd.prog.info? 195).map (·.zero) = some (some (.agg #[])) := by kernel_rfl
theorem sz196 : (Tryd.prog.info? 196).map (·.size) = some 0 := by kernel_rfl
theorem zr196 : (Tryd.prog.info? 196).map (·.zero) = some (some (.agg #[])) := by kernel_rfl
theorem fi196_0 : fieldInfo Tryd.prog 196 0 = some (0, 0) := by kernel_rfl
theorem fp196_0 : fieldPart Tryd.prog 196 0 = some (true, 0, 0) := by kernel_rfl
theorem pl196 : placesOf Tryd.prog 196 = some [(0, 0)] := by kernel_rfl
theorem sz197 : (Tryd.prog.info? 197).map (·.size) = some 0 := by kernel_rfl
theorem zr197 : (Tryd.prog.info? 197).map (·.zero) = some (some (.agg #[])) := by kernel_rfl
theorem fi197_0 : fieldInfo Tryd.prog 197 0 = some (0, 0) := by kernel_rfl
theorem fp197_0 : fieldPart Tryd.prog 197 0 = some (true, 0, 0) := by kernel_rfl
theorem pl197 : placesOf Tryd.prog 197 = some [(0, 0)] := by kernel_rfl
theorem sz198 : (Tryd.prog.info? 198).map (·.size) = some 1 := by kernel_rfl
theorem zr198 : (Tryd.prog.info? 198).map (·.zero) = some (some (.int .u8 0)) := by kernel_rfl
theorem zc198 : (Tryd.prog.info? 198).map (fun i => i.zero.map Value.cells) = some (some #[(.int .u8 0)]) := by kernel_rfl
theorem eo198 : elemOK Tryd.prog 198 1 1 = true := by kernel_rfl
theorem sz199 : (Tryd.prog.info? 199).map (·.size) = some 1 := by kernel_rfl
theorem zr199 : (Tryd.prog.info? 199).map (·.zero) = some (some (.int .u8 0)) := by kernel_rfl
theorem zc199 : (Tryd.prog.info? 199).map (fun i => i.zero.map Value.cells) = some (some #[(.int .u8 0)]) := by kernel_rfl
theorem eo199 : elemOK Tryd.prog 199 1 1 = true := by kernel_rfl
theorem sz200 : (Tryd.prog.info? 200).map (·.size) = some 1 := by kernel_rfl
theorem zr200 : (Tryd.prog.info? 200).map (·.zero) = some (some .nilFunc) := by kernel_rfl
theorem zc200 : (Tryd.prog.info? 200).map (fun i => i.zero.map Value.cells) = some (some #[.nilFunc]) := by kernel_rfl
theorem eo200 : elemOK Tryd.prog 200 1 8 = true := by kernel_rfl
theorem sz201 : (Tryd.prog.info? 201).map (·.size) = some 1 := by kernel_rfl
theorem zr201 : (Tryd.prog.info? 201).map (·.zero) = some (some (.int .i32 0)) := by kernel_rfl
theorem zc201 : (Tryd.prog.info? 201).map (fun i => i.zero.map Value.cells) = some (some #[(.int .i32 0)]) := by kernel_rfl
theorem eo201 : elemOK Tryd.prog 201 1 4 = true := by kernel_rfl
theorem sz202 : (Tryd.prog.info? 202).map (·.size) = some 1 := by kernel_rfl
theorem zr202 : (Tryd.prog.info? 202).map (·.zero) = some (some (.int .i32 0)) := by kernel_rfl
theorem zc202 : (Tryd.prog.info? 202).map (fun i => i.zero.map Value.cells) = some (some #[(.int .i32 0)]) := by kernel_rfl
theorem eo202 : elemOK Tryd.prog 202 1 4 = true := by kernel_rfl
theorem sz203 : (Tryd.prog.info? 203).map (·.size) = some 11 := by kernel_rfl
theorem zr203 : (Tryd.prog.info? 203).map (·.zero) = some (some (.agg #[(.int .u64 0), (.int .u64 0), (.int .u32 0), (.int .u8 0), (.int .u8 0), (.int .u8 0), (.int .u8 0), .nilFunc, (.pointer none), (.int .i32 0), (.int .i32 0)])) := by kernel_rfl
theorem zc203 : (Tryd.prog.info? 203).map (fun i => i.zero.map Value.cells) = some (some #[(.int .u64 0), (.int .u64 0), (.int .u32 0), (.int .u8 0), (.int .u8 0), (.int .u8 0), (.int .u8 0), .nilFunc, (.pointer none), (.int .i32 0), (.int .i32 0)]) := by kernel_rfl
theorem eo203 : elemOK Tryd.prog 203 11 48 = true := by kernel_rfl
theorem fi203_0 : fieldInfo Tryd.prog 203 0 = some (0, 1) := by kernel_rfl
theorem fp203_0 : fieldPart Tryd.prog 203 0 = some (false, 0, 1) := by kernel_rfl
theorem fi203_1 : fieldInfo Tryd.prog 203 1 = some (1, 1) := by kernel_rfl
theorem fp203_1 : fieldPart Tryd.prog 203 1 = some (false, 1, 1) := by kernel_rfl
theorem fi203_2 : fieldInfo Tryd.prog 203 2 = some (2, 1) := by kernel_rfl
theorem fp203_2 : fieldPart Tryd.prog 203 2 = some (false, 2, 1) := by kernel_rfl
theorem fi203_3 : fieldInfo Tryd.prog 203 3 = some (3, 1) := by kernel_rfl
theorem fp203_3 : fieldPart Tryd.prog 203 3 = some (false, 3, 1) := by kernel_rfl
theorem fi203_4 : fieldInfo Tryd.prog 203 4 = some (4, 1) := by kernel_rfl
theorem fp203_4 : fieldPart Tryd.prog 203 4 = some (false, 4, 1) := by kernel_rfl
theorem fi203_5 : fieldInfo Tryd.prog 203 5 = some (5, 1) := by kernel_rfl
theorem fp203_5 : fieldPart Tryd.prog 203 5 = some (false, 5, 1) := by kernel_rfl
theorem fi203_6 : fieldInfo Tryd.prog 203 6 = some (6, 1) := by kernel_rfl
theorem fp203_6 : fieldPart Tryd.prog 203 6 = some (false, 6, 1) := by kernel_rfl
theorem fi203_7 : fieldInfo Tryd.prog 203 7 = some (7, 1) := by kernel_rfl
theorem fp203_7 : fieldPart Tryd.prog 203 7 = some (false, 7, 1) := by kernel_rfl
theorem fi203_8 : fieldInfo Tryd.prog 203 8 = some (8, 1) := by kernel_rfl
theorem fp203_8 : fieldPart Tryd.prog 203 8 = some (false, 8, 1) := by kernel_rfl
theorem fi203_9 : fieldInfo Tryd.prog 203 9 = some (9, 1) := by kernel_rfl
theorem fp203_9 : fieldPart Tryd.prog 203 9 = some (false, 9, 1) := by kernel_rfl
theorem fi203_10 : fieldInfo Tryd.prog 203 10 = some (10, 1) := by kernel_rfl
theorem fp203_10 : fieldPart Tryd.prog 203 10 = some (false, 10, 1) := by kernel_rfl
theorem pl203 : placesOf Tryd.prog 203 = some [(0, 1), (1, 1), (2, 1), (3, 1), (4, 1), (5, 1), (6, 1), (7, 1), (8, 1), (9, 1), (10, 1)] := by kernel_rfl
theorem sz204 : (Tryd.prog.info? 204).map (·.size) = some 11 := by kernel_rfl
theorem zr204 : (Tryd.prog.info? 204).map (·.zero) = some (some (.agg #[(.int .u64 0), (.int .u64 0), (.int .u32 0), (.int .u8 0), (.int .u8 0), (.int .u8 0), (.int .u8 0), .nilFunc, (.pointer none), (.int .i32 0), (.int .i32 0)])) := by kernel_rfl
theorem zc204 : (Tryd.prog.info? 204).map (fun i => i.zero.map Value.cells) = some (some #[(.int .u64 0), (.int .u64 0), (.int .u32 0), (.int .u8 0), (.int .u8 0), (.int .u8 0), (.int .u8 0), .nilFunc, (.pointer none), (.int .i32 0), (.int .i32 0)]) := by kernel_rfl
theorem eo204 : elemOK Tryd.prog 204 11 48 = true := by kernel_rfl
theorem fi204_0 : fieldInfo Tryd.prog 204 0 = some (0, 1) := by kernel_rfl
theorem fp204_0 : fieldPart Tryd.prog 204 0 = some (false, 0, 1) := by kernel_rfl
theorem fi204_1 : fieldInfo Tryd.prog 204 1 = some (1, 1) := by kernel_rfl
theorem fp204_1 : fieldPart Tryd.prog 204 1 = some (false, 1, 1) := by kernel_rfl
theorem fi204_2 : fieldInfo Tryd.prog 204 2 = some (2, 1) := by kernel_rfl
theorem fp204_2 : fieldPart Tryd.prog 204 2 = some (false, 2, 1) := by kernel_rfl
theorem fi204_3 : fieldInfo Tryd.prog 204 3 = some (3, 1) := by kernel_rfl
theorem fp204_3 : fieldPart Tryd.prog 204 3 = some (false, 3, 1) := by kernel_rfl
theorem fi204_4 : fieldInfo Tryd.prog 204 4 = some (4, 1) := by kernel_rfl
theorem fp204_4 : fieldPart Tryd.prog 204 4 = some (false, 4, 1) := by kernel_rfl
theorem fi204_5 : fieldInfo Tryd.prog 204 5 = some (5, 1) := by kernel_rfl
theorem fp204_5 : fieldPart Tryd.prog 204 5 = some (false, 5, 1) := by kernel_rfl
theorem fi204_6 : fieldInfo Tryd.prog 204 6 = some (6, 1) := by kernel_rfl
theorem fp204_6 : fieldPart Tryd.prog 204 6 = some (false, 6, 1) := by kernel_rfl
theorem fi204_7 : fieldInfo Tryd.prog 204 7 = some (7, 1) := by kernel_rfl
theorem fp204_7 : fieldPart Tryd.prog 204 7 = some (false, 7, 1) := by kernel_rfl
theorem fi204_8 : fieldInfo Tryd.prog 204 8 = some (8, 1) := by kernel_rfl
theorem fp204_8 : fieldPart Tryd.prog 204 8 = some (false, 8, 1) := by kernel_rfl
theorem fi204_9 : fieldInfo Tryd.prog 204 9 = some (9, 1) := by kernel_rfl
theorem fp204_9 : fieldPart Tryd.prog 204 9 = some (false, 9, 1) := by kernel_rfl
theorem fi204_10 : fieldInfo Tryd.prog 204 10 = some (10, 1) := by kernel_rfl
theorem fp204_10 : fieldPart Tryd.prog 204 10 = some (false, 10, 1) := by kernel_rfl
theorem pl204 : placesOf Tryd.prog 204 = some [(0, 1), (1, 1), (2, 1), (3, 1), (4, 1), (5, 1), (6, 1), (7, 1), (8, 1), (9, 1), (10, 1)] := by kernel_rfl
end Go.Proofs.YtcjnecmgificmaaDoor

