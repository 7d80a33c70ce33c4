/- Facts on the types of the program: sizes, zero values, fields. -/
import Derived.Test.YtmdkfhmmhiofbaaProg
import Derived.Test.YtmdkfhmmhiofbaaMa2
namespace Go.Proofs.Ytmdkfhmmhiofbaa
set_option linter.unusedVariables false
theorem sz0 : (Try.prog.info? 0).map (·.size) = some 1 := by kernel_rfl
theorem sz1 : (Try.prog.info? 1).map (·.size) = some 1 := by kernel_rfl
theorem zr1 : (Try.prog.info? 1).map (·.zero) = some (some .nilFunc) := by kernel_rfl
theorem zc1 : (Try.prog.info? 1).map (fun i => i.zero.map Value.cells) = some (some #[.nilFunc]) := by kernel_rfl
theorem eo1 : elemOK Try.prog 1 1 8 = true := by kernel_rfl
theorem sz2 : (Try.prog.info? 2).map (·.size) = some 1 := by kernel_rfl
theorem zr2 : (Try.prog.info? 2).map (·.zero) = some (some (.int .i64 0)) := by kernel_rfl
theorem zc2 : (Try.prog.info? 2).map (fun i => i.zero.map Value.cells) = some (some #[(.int .i64 0)]) := by kernel_rfl
theorem eo2 : elemOK Try.prog 2 1 8 = true := by kernel_rfl
theorem sz3 : (Try.prog.info? 3).map (·.size) = some 1 := by kernel_rfl
theorem zr3 : (Try.prog.info? 3).map (·.zero) = some (some (.int .i64 0)) := by kernel_rfl
theorem zc3 : (Try.prog.info? 3).map (fun i => i.zero.map Value.cells) = some (some #[(.int .i64 0)]) := by kernel_rfl
theorem eo3 : elemOK Try.prog 3 1 8 = true := by kernel_rfl
theorem sz4 : (Try.prog.info? 4).map (·.size) = some 1 := by kernel_rfl
theorem zr4 : (Try.prog.info? 4).map (·.zero) = some (some (.bool false)) := by kernel_rfl
theorem zc4 : (Try.prog.info? 4).map (fun i => i.zero.map Value.cells) = some (some #[(.bool false)]) := by kernel_rfl
theorem eo4 : elemOK Try.prog 4 1 1 = true := by kernel_rfl
theorem sz5 : (Try.prog.info? 5).map (·.size) = some 1 := by kernel_rfl
theorem zr5 : (Try.prog.info? 5).map (·.zero) = some (some (.int .u8 0)) := by kernel_rfl
theorem zc5 : (Try.prog.info? 5).map (fun i => i.zero.map Value.cells) = some (some #[(.int .u8 0)]) := by kernel_rfl
theorem eo5 : elemOK Try.prog 5 1 1 = true := by kernel_rfl
theorem sz6 : (Try.prog.info? 6).map (·.size) = some 1 := by kernel_rfl
theorem zr6 : (Try.prog.info? 6).map (·.zero) = some (some (.int .u8 0)) := by kernel_rfl
theorem zc6 : (Try.prog.info? 6).map (fun i => i.zero.map Value.cells) = some (some #[(.int .u8 0)]) := by kernel_rfl
theorem eo6 : elemOK Try.prog 6 1 1 = true := by kernel_rfl
theorem sz7 : (Try.prog.info? 7).map (·.size) = some 4 := by kernel_rfl
theorem zr7 : (Try.prog.info? 7).map (·.zero) = some (some (.agg #[(.int .i64 0), (.int .i64 0), (.bool false), (.int .u8 0)])) := by kernel_rfl
theorem zc7 : (Try.prog.info? 7).map (fun i => i.zero.map Value.cells) = some (some #[(.int .i64 0), (.int .i64 0), (.bool false), (.int .u8 0)]) := by kernel_rfl
theorem eo7 : elemOK Try.prog 7 4 24 = true := by kernel_rfl
theorem fi7_0 : fieldInfo Try.prog 7 0 = some (0, 1) := by kernel_rfl
theorem fp7_0 : fieldPart Try.prog 7 0 = some (false, 0, 1) := by kernel_rfl
theorem fi7_1 : fieldInfo Try.prog 7 1 = some (1, 1) := by kernel_rfl
theorem fp7_1 : fieldPart Try.prog 7 1 = some (false, 1, 1) := by kernel_rfl
theorem fi7_2 : fieldInfo Try.prog 7 2 = some (2, 1) := by kernel_rfl
theorem fp7_2 : fieldPart Try.prog 7 2 = some (false, 2, 1) := by kernel_rfl
theorem fi7_3 : fieldInfo Try.prog 7 3 = some (3, 1) := by kernel_rfl
theorem fp7_3 : fieldPart Try.prog 7 3 = some (false, 3, 1) := by kernel_rfl
theorem pl7 : placesOf Try.prog 7 = some [(0, 1), (1, 1), (2, 1), (3, 1)] := by kernel_rfl
theorem sz8 : (Try.prog.info? 8).map (·.size) = some 4 := by kernel_rfl
theorem zr8 : (Try.prog.info? 8).map (·.zero) = some (some (.agg #[(.int .i64 0), (.int .i64 0), (.bool false), (.int .u8 0)])) := by kernel_rfl
theorem zc8 : (Try.prog.info? 8).map (fun i => i.zero.map Value.cells) = some (some #[(.int .i64 0), (.int .i64 0), (.bool false), (.int .u8 0)]) := by kernel_rfl
theorem eo8 : elemOK Try.prog 8 4 24 = true := by kernel_rfl
theorem fi8_0 : fieldInfo Try.prog 8 0 = some (0, 1) := by kernel_rfl
theorem fp8_0 : fieldPart Try.prog 8 0 = some (false, 0, 1) := by kernel_rfl
theorem fi8_1 : fieldInfo Try.prog 8 1 = some (1, 1) := by kernel_rfl
theorem fp8_1 : fieldPart Try.prog 8 1 = some (false, 1, 1) := by kernel_rfl
theorem fi8_2 : fieldInfo Try.prog 8 2 = some (2, 1) := by kernel_rfl
theorem fp8_2 : fieldPart Try.prog 8 2 = some (false, 2, 1) := by kernel_rfl
theorem fi8_3 : fieldInfo Try.prog 8 3 = some (3, 1) := by kernel_rfl
theorem fp8_3 : fieldPart Try.prog 8 3 = some (false, 3, 1) := by kernel_rfl
theorem pl8 : placesOf Try.prog 8 = some [(0, 1), (1, 1), (2, 1), (3, 1)] := by kernel_rfl
theorem sz9 : (Try.prog.info? 9).map (·.size) = some 1 := by kernel_rfl
theorem zr9 : (Try.prog.info? 9).map (·.zero) = some (some (.string ⟨#[]⟩)) := by kernel_rfl
theorem zc9 : (Try.prog.info? 9).map (fun i => i.zero.map Value.cells) = some (some #[(.string ⟨#[]⟩)]) := by kernel_rfl
theorem eo9 : elemOK Try.prog 9 1 16 = true := by kernel_rfl
theorem sz10 : (Try.prog.info? 10).map (·.size) = some 1 := by kernel_rfl
theorem zr10 : (Try.prog.info? 10).map (·.zero) = some (some (.string ⟨#[]⟩)) := by kernel_rfl
theorem zc10 : (Try.prog.info? 10).map (fun i => i.zero.map Value.cells) = some (some #[(.string ⟨#[]⟩)]) := by kernel_rfl
theorem eo10 : elemOK Try.prog 10 1 16 = true := by kernel_rfl
theorem sz11 : (Try.prog.info? 11).map (·.size) = some 1 := by kernel_rfl
theorem zr11 : (Try.prog.info? 11).map (·.zero) = some (some (.string ⟨#[]⟩)) := by kernel_rfl
theorem zc11 : (Try.prog.info? 11).map (fun i => i.zero.map Value.cells) = some (some #[(.string ⟨#[]⟩)]) := by kernel_rfl
theorem eo11 : elemOK Try.prog 11 1 16 = true := by kernel_rfl
theorem sz12 : (Try.prog.info? 12).map (·.size) = some 1 := by kernel_rfl
theorem zr12 : (Try.prog.info? 12).map (·.zero) = some (some (.int .u64 0)) := by kernel_rfl
theorem zc12 : (Try.prog.info? 12).map (fun i => i.zero.map Value.cells) = some (some #[(.int .u64 0)]) := by kernel_rfl
theorem eo12 : elemOK Try.prog 12 1 8 = true := by kernel_rfl
theorem sz13 : (Try.prog.info? 13).map (·.size) = some 2 := by kernel_rfl
theorem zr13 : (Try.prog.info? 13).map (·.zero) = some (some (.agg #[(.string ⟨#[]⟩), (.int .u64 0)])) := by kernel_rfl
theorem zc13 : (Try.prog.info? 13).map (fun i => i.zero.map Value.cells) = some (some #[(.string ⟨#[]⟩), (.int .u64 0)]) := by kernel_rfl
theorem eo13 : elemOK Try.prog 13 2 24 = true := by kernel_rfl
theorem fi13_0 : fieldInfo Try.prog 13 0 = some (0, 1) := by kernel_rfl
theorem fp13_0 : fieldPart Try.prog 13 0 = some (false, 0, 1) := by kernel_rfl
theorem fi13_1 : fieldInfo Try.prog 13 1 = some (1, 1) := by kernel_rfl
theorem fp13_1 : fieldPart Try.prog 13 1 = some (false, 1, 1) := by kernel_rfl
theorem pl13 : placesOf Try.prog 13 = some [(0, 1), (1, 1)] := by kernel_rfl
theorem sz14 : (Try.prog.info? 14).map (·.size) = some 2 := by kernel_rfl
theorem zr14 : (Try.prog.info? 14).map (·.zero) = some (some (.agg #[(.string ⟨#[]⟩), (.int .u64 0)])) := by kernel_rfl
theorem zc14 : (Try.prog.info? 14).map (fun i => i.zero.map Value.cells) = some (some #[(.string ⟨#[]⟩), (.int .u64 0)]) := by kernel_rfl
theorem eo14 : elemOK Try.prog 14 2 24 = true := by kernel_rfl
theorem fi14_0 : fieldInfo Try.prog 14 0 = some (0, 1) := by kernel_rfl
theorem fp14_0 : fieldPart Try.prog 14 0 = some (false, 0, 1) := by kernel_rfl
theorem fi14_1 : fieldInfo Try.prog 14 1 = some (1, 1) := by kernel_rfl
theorem fp14_1 : fieldPart Try.prog 14 1 = some (false, 1, 1) := by kernel_rfl
theorem pl14 : placesOf Try.prog 14 = some [(0, 1), (1, 1)] := by kernel_rfl
theorem sz15 : (Try.prog.info? 15).map (·.size) = some 1 := by kernel_rfl
theorem zr15 : (Try.prog.info? 15).map (·.zero) = some (some (.pointer none)) := by kernel_rfl
theorem zc15 : (Try.prog.info? 15).map (fun i => i.zero.map Value.cells) = some (some #[(.pointer none)]) := by kernel_rfl
theorem eo15 : elemOK Try.prog 15 1 8 = true := by kernel_rfl
theorem sz16 : (Try.prog.info? 16).map (·.size) = some 1 := by kernel_rfl
theorem zr16 : (Try.prog.info? 16).map (·.zero) = some (some (.pointer none)) := by kernel_rfl
theorem zc16 : (Try.prog.info? 16).map (fun i => i.zero.map Value.cells) = some (some #[(.pointer none)]) := by kernel_rfl
theorem eo16 : elemOK Try.prog 16 1 8 = true := by kernel_rfl
theorem sz17 : (Try.prog.info? 17).map (·.size) = some 1 := by kernel_rfl
theorem zr17 : (Try.prog.info? 17).map (·.zero) = some (some (.pointer none)) := by kernel_rfl
theorem zc17 : (Try.prog.info? 17).map (fun i => i.zero.map Value.cells) = some (some #[(.pointer none)]) := by kernel_rfl
theorem eo17 : elemOK Try.prog 17 1 8 = true := by kernel_rfl
theorem sz18 : (Try.prog.info? 18).map (·.size) = some 1 := by kernel_rfl
theorem zr18 : (Try.prog.info? 18).map (·.zero) = some (some (.agg #[(.pointer none)])) := by kernel_rfl
theorem zc18 : (Try.prog.info? 18).map (fun i => i.zero.map Value.cells) = some (some #[(.pointer none)]) := by kernel_rfl
theorem eo18 : elemOK Try.prog 18 1 8 = true := by kernel_rfl
theorem fi18_0 : fieldInfo Try.prog 18 0 = some (0, 1) := by kernel_rfl
theorem fp18_0 : fieldPart Try.prog 18 0 = some (false, 0, 1) := by kernel_rfl
theorem pl18 : placesOf Try.prog 18 = some [(0, 1)] := by kernel_rfl
theorem sz19 : (Try.prog.info? 19).map (·.size) = some 1 := by kernel_rfl
theorem zr19 : (Try.prog.info? 19).map (·.zero) = some (some (.agg #[(.pointer none)])) := by kernel_rfl
theorem zc19 : (Try.prog.info? 19).map (fun i => i.zero.map Value.cells) = some (some #[(.pointer none)]) := by kernel_rfl
theorem eo19 : elemOK Try.prog 19 1 8 = true := by kernel_rfl
theorem fi19_0 : fieldInfo Try.prog 19 0 = some (0, 1) := by kernel_rfl
theorem fp19_0 : fieldPart Try.prog 19 0 = some (false, 0, 1) := by kernel_rfl
theorem pl19 : placesOf Try.prog 19 = some [(0, 1)] := by kernel_rfl
theorem sz20 : (Try.prog.info? 20).map (·.size) = some 1 := by kernel_rfl
theorem zr20 : (Try.prog.info? 20).map (·.zero) = some (some .nilIface) := by kernel_rfl
theorem zc20 : (Try.prog.info? 20).map (fun i => i.zero.map Value.cells) = some (some #[.nilIface]) := by kernel_rfl
theorem eo20 : elemOK Try.prog 20 1 16 = true := by kernel_rfl
theorem sz21 : (Try.prog.info? 21).map (·.size) = some 1 := by kernel_rfl
theorem zr21 : (Try.prog.info? 21).map (·.zero) = some (some (.int .i32 0)) := by kernel_rfl
theorem zc21 : (Try.prog.info? 21).map (fun i => i.zero.map Value.cells) = some (some #[(.int .i32 0)]) := by kernel_rfl
theorem eo21 : elemOK Try.prog 21 1 4 = true := by kernel_rfl
theorem sz22 : (Try.prog.info? 22).map (·.size) = some 1 := by kernel_rfl
theorem zr22 : (Try.prog.info? 22).map (·.zero) = some (some (.slice none 0 0)) := by kernel_rfl
theorem zc22 : (Try.prog.info? 22).map (fun i => i.zero.map Value.cells) = some (some #[(.slice none 0 0)]) := by kernel_rfl
theorem eo22 : elemOK Try.prog 22 1 24 = true := by kernel_rfl
theorem sz23 : (Try.prog.info? 23).map (·.size) = some 5 := by kernel_rfl
theorem zr23 : (Try.prog.info? 23).map (·.zero) = some (some (.agg #[(.int .i64 0), (.int .i64 0), (.int .i64 0), (.int .i64 0), (.slice none 0 0)])) := by kernel_rfl
theorem zc23 : (Try.prog.info? 23).map (fun i => i.zero.map Value.cells) = some (some #[(.int .i64 0), (.int .i64 0), (.int .i64 0), (.int .i64 0), (.slice none 0 0)]) := by kernel_rfl
theorem eo23 : elemOK Try.prog 23 5 56 = true := by kernel_rfl
theorem fi23_0 : fieldInfo Try.prog 23 0 = some (0, 1) := by kernel_rfl
theorem fp23_0 : fieldPart Try.prog 23 0 = some (false, 0, 1) := by kernel_rfl
theorem fi23_1 : fieldInfo Try.prog 23 1 = some (1, 1) := by kernel_rfl
theorem fp23_1 : fieldPart Try.prog 23 1 = some (false, 1, 1) := by kernel_rfl
theorem fi23_2 : fieldInfo Try.prog 23 2 = some (2, 1) := by kernel_rfl
theorem fp23_2 : fieldPart Try.prog 23 2 = some (false, 2, 1) := by kernel_rfl
theorem fi23_3 : fieldInfo Try.prog 23 3 = some (3, 1) := by kernel_rfl
theorem fp23_3 : fieldPart Try.prog 23 3 = some (false, 3, 1) := by kernel_rfl
theorem fi23_4 : fieldInfo Try.prog 23 4 = some (4, 1) := by kernel_rfl
theorem fp23_4 : fieldPart Try.prog 23 4 = some (false, 4, 1) := by kernel_rfl
theorem pl23 : placesOf Try.prog 23 = some [(0, 1), (1, 1), (2, 1), (3, 1), (4, 1)] := by kernel_rfl
theorem sz24 : (Try.prog.info? 24).map (·.size) = some 5 := by kernel_rfl
theorem zr24 : (Try.prog.info? 24).map (·.zero) = some (some (.agg #[(.int .i64 0), (.int .i64 0), (.int .i64 0), (.int .i64 0), (.slice none 0 0)])) := by kernel_rfl
theorem zc24 : (Try.prog.info? 24).map (fun i => i.zero.map Value.cells) = some (some #[(.int .i64 0), (.int .i64 0), (.int .i64 0), (.int .i64 0), (.slice none 0 0)]) := by kernel_rfl
theorem eo24 : elemOK Try.prog 24 5 56 = true := by kernel_rfl
theorem fi24_0 : fieldInfo Try.prog 24 0 = some (0, 1) := by kernel_rfl
theorem fp24_0 : fieldPart Try.prog 24 0 = some (false, 0, 1) := by kernel_rfl
theorem fi24_1 : fieldInfo Try.prog 24 1 = some (1, 1) := by kernel_rfl
theorem fp24_1 : fieldPart Try.prog 24 1 = some (false, 1, 1) := by kernel_rfl
theorem fi24_2 : fieldInfo Try.prog 24 2 = some (2, 1) := by kernel_rfl
theorem fp24_2 : fieldPart Try.prog 24 2 = some (false, 2, 1) := by kernel_rfl
theorem fi24_3 : fieldInfo Try.prog 24 3 = some (3, 1) := by kernel_rfl
theorem fp24_3 : fieldPart Try.prog 24 3 = some (false, 3, 1) := by kernel_rfl
theorem fi24_4 : fieldInfo Try.prog 24 4 = some (4, 1) := by kernel_rfl
theorem fp24_4 : fieldPart Try.prog 24 4 = some (false, 4, 1) := by kernel_rfl
theorem pl24 : placesOf Try.prog 24 = some [(0, 1), (1, 1), (2, 1), (3, 1), (4, 1)] := by kernel_rfl
theorem sz25 : (Try.prog.info? 25).map (·.size) = some 1 := by kernel_rfl
theorem zr25 : (Try.prog.info? 25).map (·.zero) = some (some (.int .i64 0)) := by kernel_rfl
theorem zc25 : (Try.prog.info? 25).map (fun i => i.zero.map Value.cells) = some (some #[(.int .i64 0)]) := by kernel_rfl
theorem eo25 : elemOK Try.prog 25 1 8 = true := by kernel_rfl
theorem sz26 : (Try.prog.info? 26).map (·.size) = some 1 := by kernel_rfl
theorem sz27 : (Try.prog.info? 27).map (·.size) = some 1 := by kernel_rfl
theorem zr27 : (Try.prog.info? 27).map (·.zero) = some (some .nilFunc) := by kernel_rfl
theorem zc27 : (Try.prog.info? 27).map (fun i => i.zero.map Value.cells) = some (some #[.nilFunc]) := by kernel_rfl
theorem eo27 : elemOK Try.prog 27 1 8 = true := by kernel_rfl
theorem sz28 : (Try.prog.info? 28).map (·.size) = some 1 := by kernel_rfl
theorem zr28 : (Try.prog.info? 28).map (·.zero) = some (some (.int .u64 0)) := by kernel_rfl
theorem zc28 : (Try.prog.info? 28).map (fun i => i.zero.map Value.cells) = some (some #[(.int .u64 0)]) := by kernel_rfl
theorem eo28 : elemOK Try.prog 28 1 8 = true := by kernel_rfl
theorem sz29 : (Try.prog.info? 29).map (·.size) = some 3 := by kernel_rfl
theorem zr29 : (Try.prog.info? 29).map (·.zero) = some (some (.agg #[(.bool false), (.int .i64 0), (.int .u64 0)])) := by kernel_rfl
theorem zc29 : (Try.prog.info? 29).map (fun i => i.zero.map Value.cells) = some (some #[(.bool false), (.int .i64 0), (.int .u64 0)]) := by kernel_rfl
theorem eo29 : elemOK Try.prog 29 3 24 = true := by kernel_rfl
theorem fi29_0 : fieldInfo Try.prog 29 0 = some (0, 1) := by kernel_rfl
theorem fp29_0 : fieldPart Try.prog 29 0 = some (false, 0, 1) := by kernel_rfl
theorem fi29_1 : fieldInfo Try.prog 29 1 = some (1, 1) := by kernel_rfl
theorem fp29_1 : fieldPart Try.prog 29 1 = some (false, 1, 1) := by kernel_rfl
theorem fi29_2 : fieldInfo Try.prog 29 2 = some (2, 1) := by kernel_rfl
theorem fp29_2 : fieldPart Try.prog 29 2 = some (false, 2, 1) := by kernel_rfl
theorem pl29 : placesOf Try.prog 29 = some [(0, 1), (1, 1), (2, 1)] := by kernel_rfl
theorem sz30 : (Try.prog.info? 30).map (·.size) = some 3 := by kernel_rfl
theorem zr30 : (Try.prog.info? 30).map (·.zero) = some (some (.agg #[(.bool false), (.int .i64 0), (.int .u64 0)])) := by kernel_rfl
theorem zc30 : (Try.prog.info? 30).map (fun i => i.zero.map Value.cells) = some (some #[(.bool false), (.int .i64 0), (.int .u64 0)]) := by kernel_rfl
theorem eo30 : elemOK Try.prog 30 3 24 = true := by kernel_rfl
theorem fi30_0 : fieldInfo Try.prog 30 0 = some (0, 1) := by kernel_rfl
theorem fp30_0 : fieldPart Try.prog 30 0 = some (false, 0, 1) := by kernel_rfl
theorem fi30_1 : fieldInfo Try.prog 30 1 = some (1, 1) := by kernel_rfl
theorem fp30_1 : fieldPart Try.prog 30 1 = some (false, 1, 1) := by kernel_rfl
theorem fi30_2 : fieldInfo Try.prog 30 2 = some (2, 1) := by kernel_rfl
theorem fp30_2 : fieldPart Try.prog 30 2 = some (false, 2, 1) := by kernel_rfl
theorem pl30 : placesOf Try.prog 30 = some [(0, 1), (1, 1), (2, 1)] := by kernel_rfl
theorem sz31 : (Try.prog.info? 31).map (·.size) = some 11 := by kernel_rfl
theorem zr31 : (Try.prog.info? 31).map (·.zero) = some (some (.agg #[(.bool false), (.string ⟨#[]⟩), (.string ⟨#[]⟩), (.int .i64 0), (.int .i64 0), (.int .i64 0), (.int .i64 0), (.bool false), (.int .i64 0), (.int .u64 0), (.bool false)])) := by kernel_rfl
theorem zc31 : (Try.prog.info? 31).map (fun i => i.zero.map Value.cells) = some (some #[(.bool false), (.string ⟨#[]⟩), (.string ⟨#[]⟩), (.int .i64 0), (.int .i64 0), (.int .i64 0), (.int .i64 0), (.bool false), (.int .i64 0), (.int .u64 0), (.bool false)]) := by kernel_rfl
theorem eo31 : elemOK Try.prog 31 11 104 = true := by kernel_rfl
theorem fi31_0 : fieldInfo Try.prog 31 0 = some (0, 1) := by kernel_rfl
theorem fp31_0 : fieldPart Try.prog 31 0 = some (false, 0, 1) := by kernel_rfl
theorem fi31_1 : fieldInfo Try.prog 31 1 = some (1, 1) := by kernel_rfl
theorem fp31_1 : fieldPart Try.prog 31 1 = some (false, 1, 1) := by kernel_rfl
theorem fi31_2 : fieldInfo Try.prog 31 2 = some (2, 1) := by kernel_rfl
theorem fp31_2 : fieldPart Try.prog 31 2 = some (false, 2, 1) := by kernel_rfl
theorem fi31_3 : fieldInfo Try.prog 31 3 = some (3, 1) := by kernel_rfl
theorem fp31_3 : fieldPart Try.prog 31 3 = some (false, 3, 1) := by kernel_rfl
theorem fi31_4 : fieldInfo Try.prog 31 4 = some (4, 1) := by kernel_rfl
theorem fp31_4 : fieldPart Try.prog 31 4 = some (false, 4, 1) := by kernel_rfl
theorem fi31_5 : fieldInfo Try.prog 31 5 = some (5, 1) := by kernel_rfl
theorem fp31_5 : fieldPart Try.prog 31 5 = some (false, 5, 1) := by kernel_rfl
theorem fi31_6 : fieldInfo Try.prog 31 6 = some (6, 1) := by kernel_rfl
theorem fp31_6 : fieldPart Try.prog 31 6 = some (false, 6, 1) := by kernel_rfl
theorem fi31_7 : fieldInfo Try.prog 31 7 = some (7, 3) := by kernel_rfl
theorem fp31_7 : fieldPart Try.prog 31 7 = some (true, 7, 3) := by kernel_rfl
theorem fi31_8 : fieldInfo Try.prog 31 8 = some (10, 1) := by kernel_rfl
theorem fp31_8 : fieldPart Try.prog 31 8 = some (false, 10, 1) := by kernel_rfl
theorem pl31 : placesOf Try.prog 31 = some [(0, 1), (1, 1), (2, 1), (3, 1), (4, 1), (5, 1), (6, 1), (7, 3), (10, 1)] := by kernel_rfl
theorem sz32 : (Try.prog.info? 32).map (·.size) = some 11 := by kernel_rfl
theorem zr32 : (Try.prog.info? 32).map (·.zero) = some (some (.agg #[(.bool false), (.string ⟨#[]⟩), (.string ⟨#[]⟩), (.int .i64 0), (.int .i64 0), (.int .i64 0), (.int .i64 0), (.bool false), (.int .i64 0), (.int .u64 0), (.bool false)])) := by kernel_rfl
theorem zc32 : (Try.prog.info? 32).map (fun i => i.zero.map Value.cells) = some (some #[(.bool false), (.string ⟨#[]⟩), (.string ⟨#[]⟩), (.int .i64 0), (.int .i64 0), (.int .i64 0), (.int .i64 0), (.bool false), (.int .i64 0), (.int .u64 0), (.bool false)]) := by kernel_rfl
theorem eo32 : elemOK Try.prog 32 11 104 = true := by kernel_rfl
theorem fi32_0 : fieldInfo Try.prog 32 0 = some (0, 1) := by kernel_rfl
theorem fp32_0 : fieldPart Try.prog 32 0 = some (false, 0, 1) := by kernel_rfl
theorem fi32_1 : fieldInfo Try.prog 32 1 = some (1, 1) := by kernel_rfl
theorem fp32_1 : fieldPart Try.prog 32 1 = some (false, 1, 1) := by kernel_rfl
theorem fi32_2 : fieldInfo Try.prog 32 2 = some (2, 1) := by kernel_rfl
theorem fp32_2 : fieldPart Try.prog 32 2 = some (false, 2, 1) := by kernel_rfl
theorem fi32_3 : fieldInfo Try.prog 32 3 = some (3, 1) := by kernel_rfl
theorem fp32_3 : fieldPart Try.prog 32 3 = some (false, 3, 1) := by kernel_rfl
theorem fi32_4 : fieldInfo Try.prog 32 4 = some (4, 1) := by kernel_rfl
theorem fp32_4 : fieldPart Try.prog 32 4 = some (false, 4, 1) := by kernel_rfl
theorem fi32_5 : fieldInfo Try.prog 32 5 = some (5, 1) := by kernel_rfl
theorem fp32_5 : fieldPart Try.prog 32 5 = some (false, 5, 1) := by kernel_rfl
theorem fi32_6 : fieldInfo Try.prog 32 6 = some (6, 1) := by kernel_rfl
theorem fp32_6 : fieldPart Try.prog 32 6 = some (false, 6, 1) := by kernel_rfl
theorem fi32_7 : fieldInfo Try.prog 32 7 = some (7, 3) := by kernel_rfl
theorem fp32_7 : fieldPart Try.prog 32 7 = some (true, 7, 3) := by kernel_rfl
theorem fi32_8 : fieldInfo Try.prog 32 8 = some (10, 1) := by kernel_rfl
theorem fp32_8 : fieldPart Try.prog 32 8 = some (false, 10, 1) := by kernel_rfl
theorem pl32 : placesOf Try.prog 32 = some [(0, 1), (1, 1), (2, 1), (3, 1), (4, 1), (5, 1), (6, 1), (7, 3), (10, 1)] := by kernel_rfl
theorem sz33 : (Try.prog.info? 33).map (·.size) = some 1 := by kernel_rfl
theorem sz34 : (Try.prog.info? 34).map (·.size) = some 1 := by kernel_rfl
theorem zr34 : (Try.prog.info? 34).map (·.zero) = some (some .nilFunc) := by kernel_rfl
theorem zc34 : (Try.prog.info? 34).map (fun i => i.zero.map Value.cells) = some (some #[.nilFunc]) := by kernel_rfl
theorem eo34 : elemOK Try.prog 34 1 8 = true := by kernel_rfl
theorem sz35 : (Try.prog.info? 35).map (·.size) = some 1 := by kernel_rfl
theorem zr35 : (Try.prog.info? 35).map (·.zero) = some (some .nilFunc) := by kernel_rfl
theorem zc35 : (Try.prog.info? 35).map (fun i => i.zero.map Value.cells) = some (some #[.nilFunc]) := by kernel_rfl
theorem eo35 : elemOK Try.prog 35 1 8 = true := by kernel_rfl
theorem sz36 : (Try.prog.info? 36).map (·.size) = some 1 := by kernel_rfl
theorem zr36 : (Try.prog.info? 36).map (·.zero) = some (some .nilFunc) := by kernel_rfl
theorem zc36 : (Try.prog.info? 36).map (fun i => i.zero.map Value.cells) = some (some #[.nilFunc]) := by kernel_rfl
theorem eo36 : elemOK Try.prog 36 1 8 = true := by kernel_rfl
theorem sz37 : (Try.prog.info? 37).map (·.size) = some 1 := by kernel_rfl
theorem zr37 : (Try.prog.info? 37).map (·.zero) = some (some .nilFunc) := by kernel_rfl
theorem zc37 : (Try.prog.info? 37).map (fun i => i.zero.map Value.cells) = some (some #[.nilFunc]) := by kernel_rfl
theorem eo37 : elemOK Try.prog 37 1 8 = true := by kernel_rfl
theorem sz38 : (Try.prog.info? 38).map (·.size) = some 1 := by kernel_rfl
theorem sz39 : (Try.prog.info? 39).map (·.size) = some 1 := by kernel_rfl
theorem zr39 : (Try.prog.info? 39).map (·.zero) = some (some .nilFunc) := by kernel_rfl
theorem zc39 : (Try.prog.info? 39).map (fun i => i.zero.map Value.cells) = some (some #[.nilFunc]) := by kernel_rfl
theorem eo39 : elemOK Try.prog 39 1 8 = true := by kernel_rfl
theorem sz40 : (Try.prog.info? 40).map (·.size) = some 1 := by kernel_rfl
theorem zr40 : (Try.prog.info? 40).map (·.zero) = some (some .nilFunc) := by kernel_rfl
theorem zc40 : (Try.prog.info? 40).map (fun i => i.zero.map Value.cells) = some (some #[.nilFunc]) := by kernel_rfl
theorem eo40 : elemOK Try.prog 40 1 8 = true := by kernel_rfl
theorem sz41 : (Try.prog.info? 41).map (·.size) = some 1 := by kernel_rfl
theorem zr41 : (Try.prog.info? 41).map (·.zero) = some (some .nilFunc) := by kernel_rfl
theorem zc41 : (Try.prog.info? 41).map (fun i => i.zero.map Value.cells) = some (some #[.nilFunc]) := by kernel_rfl
theorem eo41 : elemOK Try.prog 41 1 8 = true := by kernel_rfl
theorem sz42 : (Try.prog.info? 42).map (·.size) = some 1 := by kernel_rfl
theorem zr42 : (Try.prog.info? 42).map (·.zero) = some (some .nilFunc) := by kernel_rfl
theorem zc42 : (Try.prog.info? 42).map (fun i => i.zero.map Value.cells) = some (some #[.nilFunc]) := by kernel_rfl
theorem eo42 : elemOK Try.prog 42 1 8 = true := by kernel_rfl
theorem sz43 : (Try.prog.info? 43).map (·.size) = some 1 := by kernel_rfl
theorem sz44 : (Try.prog.info? 44).map (·.size) = some 1 := by kernel_rfl
theorem zr44 : (Try.prog.info? 44).map (·.zero) = some (some .nilFunc) := by kernel_rfl
theorem zc44 : (Try.prog.info? 44).map (fun i => i.zero.map Value.cells) = some (some #[.nilFunc]) := by kernel_rfl
theorem eo44 : elemOK Try.prog 44 1 8 = true := by kernel_rfl
theorem sz45 : (Try.prog.info? 45).map (·.size) = some 1 := by kernel_rfl
theorem zr45 : (Try.prog.info? 45).map (·.zero) = some (some .nilFunc) := by kernel_rfl
theorem zc45 : (Try.prog.info? 45).map (fun i => i.zero.map Value.cells) = some (some #[.nilFunc]) := by kernel_rfl
theorem eo45 : elemOK Try.prog 45 1 8 = true := by kernel_rfl
theorem sz46 : (Try.prog.info? 46).map (·.size) = some 1 := by kernel_rfl
theorem sz47 : (Try.prog.info? 47).map (·.size) = some 1 := by kernel_rfl
theorem zr47 : (Try.prog.info? 47).map (·.zero) = some (some .nilFunc) := by kernel_rfl
theorem zc47 : (Try.prog.info? 47).map (fun i => i.zero.map Value.cells) = some (some #[.nilFunc]) := by kernel_rfl
theorem eo47 : elemOK Try.prog 47 1 8 = true := by kernel_rfl
theorem sz48 : (Try.prog.info? 48).map (·.size) = some 1 := by kernel_rfl
theorem zr48 : (Try.prog.info? 48).map (·.zero) = some (some .nilFunc) := by kernel_rfl
theorem zc48 : (Try.prog.info? 48).map (fun i => i.zero.map Value.cells) = some (some #[.nilFunc]) := by kernel_rfl
theorem eo48 : elemOK Try.prog 48 1 8 = true := by kernel_rfl
theorem sz49 : (Try.prog.info? 49).map (·.size) = some 1 := by kernel_rfl
theorem zr49 : (Try.prog.info? 49).map (·.zero) = some (some .nilFunc) := by kernel_rfl
theorem zc49 : (Try.prog.info? 49).map (fun i => i.zero.map Value.cells) = some (some #[.nilFunc]) := by kernel_rfl
theorem eo49 : elemOK Try.prog 49 1 8 = true := by kernel_rfl
theorem sz50 : (Try.prog.info? 50).map (·.size) = some 1 := by kernel_rfl
theorem zr50 : (Try.prog.info? 50).map (·.zero) = some (some .nilFunc) := by kernel_rfl
theorem zc50 : (Try.prog.info? 50).map (fun i => i.zero.map Value.cells) = some (some #[.nilFunc]) := by kernel_rfl
theorem eo50 : elemOK Try.prog 50 1 8 = true := by kernel_rfl
theorem sz51 : (Try.prog.info? 51).map (·.size) = some 5 := by kernel_rfl
theorem zr51 : (Try.prog.info? 51).map (·.zero) = some (some (.agg #[(.int .i64 0), (.int .i64 0), (.bool false), (.bool false), (.bool false)])) := by kernel_rfl
theorem zc51 : (Try.prog.info? 51).map (fun i => i.zero.map Value.cells) = some (some #[(.int .i64 0), (.int .i64 0), (.bool false), (.bool false), (.bool false)]) := by kernel_rfl
theorem eo51 : elemOK Try.prog 51 5 24 = true := by kernel_rfl
theorem fi51_0 : fieldInfo Try.prog 51 0 = some (0, 1) := by kernel_rfl
theorem fp51_0 : fieldPart Try.prog 51 0 = some (false, 0, 1) := by kernel_rfl
theorem fi51_1 : fieldInfo Try.prog 51 1 = some (1, 1) := by kernel_rfl
theorem fp51_1 : fieldPart Try.prog 51 1 = some (false, 1, 1) := by kernel_rfl
theorem fi51_2 : fieldInfo Try.prog 51 2 = some (2, 1) := by kernel_rfl
theorem fp51_2 : fieldPart Try.prog 51 2 = some (false, 2, 1) := by kernel_rfl
theorem fi51_3 : fieldInfo Try.prog 51 3 = some (3, 1) := by kernel_rfl
theorem fp51_3 : fieldPart Try.prog 51 3 = some (false, 3, 1) := by kernel_rfl
theorem fi51_4 : fieldInfo Try.prog 51 4 = some (4, 1) := by kernel_rfl
theorem fp51_4 : fieldPart Try.prog 51 4 = some (false, 4, 1) := by kernel_rfl
theorem pl51 : placesOf Try.prog 51 = some [(0, 1), (1, 1), (2, 1), (3, 1), (4, 1)] := by kernel_rfl
theorem sz52 : (Try.prog.info? 52).map (·.size) = some 5 := by kernel_rfl
theorem zr52 : (Try.prog.info? 52).map (·.zero) = some (some (.agg #[(.int .i64 0), (.int .i64 0), (.bool false), (.bool false), (.bool false)])) := by kernel_rfl
theorem zc52 : (Try.prog.info? 52).map (fun i => i.zero.map Value.cells) = some (some #[(.int .i64 0), (.int .i64 0), (.bool false), (.bool false), (.bool false)]) := by kernel_rfl
theorem eo52 : elemOK Try.prog 52 5 24 = true := by kernel_rfl
theorem fi52_0 : fieldInfo Try.prog 52 0 = some (0, 1) := by kernel_rfl
theorem fp52_0 : fieldPart Try.prog 52 0 = some (false, 0, 1) := by kernel_rfl
theorem fi52_1 : fieldInfo Try.prog 52 1 = some (1, 1) := by kernel_rfl
theorem fp52_1 : fieldPart Try.prog 52 1 = some (false, 1, 1) := by kernel_rfl
theorem fi52_2 : fieldInfo Try.prog 52 2 = some (2, 1) := by kernel_rfl
theorem fp52_2 : fieldPart Try.prog 52 2 = some (false, 2, 1) := by kernel_rfl
theorem fi52_3 : fieldInfo Try.prog 52 3 = some (3, 1) := by kernel_rfl
theorem fp52_3 : fieldPart Try.prog 52 3 = some (false, 3, 1) := by kernel_rfl
theorem fi52_4 : fieldInfo Try.prog 52 4 = some (4, 1) := by kernel_rfl
theorem fp52_4 : fieldPart Try.prog 52 4 = some (false, 4, 1) := by kernel_rfl
theorem pl52 : placesOf Try.prog 52 = some [(0, 1), (1, 1), (2, 1), (3, 1), (4, 1)] := by kernel_rfl
theorem sz53 : (Try.prog.info? 53).map (·.size) = some 1 := by kernel_rfl
theorem sz54 : (Try.prog.info? 54).map (·.size) = some 1 := by kernel_rfl
theorem zr54 : (Try.prog.info? 54).map (·.zero) = some (some .nilFunc) := by kernel_rfl
theorem zc54 : (Try.prog.info? 54).map (fun i => i.zero.map Value.cells) = some (some #[.nilFunc]) := by kernel_rfl
theorem eo54 : elemOK Try.prog 54 1 8 = true := by kernel_rfl
theorem sz55 : (Try.prog.info? 55).map (·.size) = some 1 := by kernel_rfl
theorem zr55 : (Try.prog.info? 55).map (·.zero) = some (some .nilFunc) := by kernel_rfl
theorem zc55 : (Try.prog.info? 55).map (fun i => i.zero.map Value.cells) = some (some #[.nilFunc]) := by kernel_rfl
theorem eo55 : elemOK Try.prog 55 1 8 = true := by kernel_rfl
theorem sz56 : (Try.prog.info? 56).map (·.size) = some 1 := by kernel_rfl
theorem zr56 : (Try.prog.info? 56).map (·.zero) = some (some (.slice none 0 0)) := by kernel_rfl
theorem zc56 : (Try.prog.info? 56).map (fun i => i.zero.map Value.cells) = some (some #[(.slice none 0 0)]) := by kernel_rfl
theorem eo56 : elemOK Try.prog 56 1 24 = true := by kernel_rfl
theorem sz57 : (Try.prog.info? 57).map (·.size) = some 1 := by kernel_rfl
theorem zr57 : (Try.prog.info? 57).map (·.zero) = some (some (.pointer none)) := by kernel_rfl
theorem zc57 : (Try.prog.info? 57).map (fun i => i.zero.map Value.cells) = some (some #[(.pointer none)]) := by kernel_rfl
theorem eo57 : elemOK Try.prog 57 1 8 = true := by kernel_rfl
theorem sz58 : (Try.prog.info? 58).map (·.size) = some 2 := by kernel_rfl
theorem zr58 : (Try.prog.info? 58).map (·.zero) = some (some (.agg #[(.pointer none), (.slice none 0 0)])) := by kernel_rfl
theorem zc58 : (Try.prog.info? 58).map (fun i => i.zero.map Value.cells) = some (some #[(.pointer none), (.slice none 0 0)]) := by kernel_rfl
theorem eo58 : elemOK Try.prog 58 2 32 = true := by kernel_rfl
theorem fi58_0 : fieldInfo Try.prog 58 0 = some (0, 1) := by kernel_rfl
theorem fp58_0 : fieldPart Try.prog 58 0 = some (false, 0, 1) := by kernel_rfl
theorem fi58_1 : fieldInfo Try.prog 58 1 = some (1, 1) := by kernel_rfl
theorem fp58_1 : fieldPart Try.prog 58 1 = some (false, 1, 1) := by kernel_rfl
theorem pl58 : placesOf Try.prog 58 = some [(0, 1), (1, 1)] := by kernel_rfl
theorem sz59 : (Try.prog.info? 59).map (·.size) = some 2 := by kernel_rfl
theorem zr59 : (Try.prog.info? 59).map (·.zero) = some (some (.agg #[(.pointer none), (.slice none 0 0)])) := by kernel_rfl
theorem zc59 : (Try.prog.info? 59).map (fun i => i.zero.map Value.cells) = some (some #[(.pointer none), (.slice none 0 0)]) := by kernel_rfl
theorem eo59 : elemOK Try.prog 59 2 32 = true := by kernel_rfl
theorem fi59_0 : fieldInfo Try.prog 59 0 = some (0, 1) := by kernel_rfl
theorem fp59_0 : fieldPart Try.prog 59 0 = some (false, 0, 1) := by kernel_rfl
theorem fi59_1 : fieldInfo Try.prog 59 1 = some (1, 1) := by kernel_rfl
theorem fp59_1 : fieldPart Try.prog 59 1 = some (false, 1, 1) := by kernel_rfl
theorem pl59 : placesOf Try.prog 59 = some [(0, 1), (1, 1)] := by kernel_rfl
theorem sz60 : (Try.prog.info? 60).map (·.size) = some 1 := by kernel_rfl
theorem zr60 : (Try.prog.info? 60).map (·.zero) = some (some .nilIface) := by kernel_rfl
theorem zc60 : (Try.prog.info? 60).map (fun i => i.zero.map Value.cells) = some (some #[.nilIface]) := by kernel_rfl
theorem eo60 : elemOK Try.prog 60 1 16 = true := by kernel_rfl
theorem sz61 : (Try.prog.info? 61).map (·.size) = some 1 := by kernel_rfl
theorem zr61 : (Try.prog.info? 61).map (·.zero) = some (some .nilIface) := by kernel_rfl
theorem zc61 : (Try.prog.info? 61).map (fun i => i.zero.map Value.cells) = some (some #[.nilIface]) := by kernel_rfl
theorem eo61 : elemOK Try.prog 61 1 16 = true := by kernel_rfl
theorem sz62 : (Try.prog.info? 62).map (·.size) = some 1 := by kernel_rfl
theorem zr62 : (Try.prog.info? 62).map (·.zero) = some (some .nilFunc) := by kernel_rfl
theorem zc62 : (Try.prog.info? 62).map (fun i => i.zero.map Value.cells) = some (some #[.nilFunc]) := by kernel_rfl
theorem eo62 : elemOK Try.prog 62 1 8 = true := by kernel_rfl
theorem sz63 : (Try.prog.info? 63).map (·.size) = some 1 := by kernel_rfl
theorem zr63 : (Try.prog.info? 63).map (·.zero) = some (some .nilFunc) := by kernel_rfl
theorem zc63 : (Try.prog.info? 63).map (fun i => i.zero.map Value.cells) = some (some #[.nilFunc]) := by kernel_rfl
theorem eo63 : elemOK Try.prog 63 1 8 = true := by kernel_rfl
theorem sz64 : (Try.prog.info? 64).map (·.size) = some 2 := by kernel_rfl
theorem zr64 : (Try.prog.info? 64).map (·.zero) = some (some (.agg #[(.string ⟨#[]⟩), (.string ⟨#[]⟩)])) := by kernel_rfl
theorem zc64 : (Try.prog.info? 64).map (fun i => i.zero.map Value.cells) = some (some #[(.string ⟨#[]⟩), (.string ⟨#[]⟩)]) := by kernel_rfl
theorem eo64 : elemOK Try.prog 64 2 32 = true := by kernel_rfl
theorem sz65 : (Try.prog.info? 65).map (·.size) = some 1 := by kernel_rfl
theorem zr65 : (Try.prog.info? 65).map (·.zero) = some (some .nilFunc) := by kernel_rfl
theorem zc65 : (Try.prog.info? 65).map (fun i => i.zero.map Value.cells) = some (some #[.nilFunc]) := by kernel_rfl
theorem eo65 : elemOK Try.prog 65 1 8 = true := by kernel_rfl
theorem sz66 : (Try.prog.info? 66).map (·.size) = some 1 := by kernel_rfl
theorem zr66 : (Try.prog.info? 66).map (·.zero) = some (some .nilFunc) := by kernel_rfl
theorem zc66 : (Try.prog.info? 66).map (fun i => i.zero.map Value.cells) = some (some #[.nilFunc]) := by kernel_rfl
theorem eo66 : elemOK Try.prog 66 1 8 = true := by kernel_rfl
theorem sz67 : (Try.prog.info? 67).map (·.size) = some 1 := by kernel_rfl
theorem zr67 : (Try.prog.info? 67).map (·.zero) = some (some .nilFunc) := by kernel_rfl
theorem zc67 : (Try.prog.info? 67).map (fun i => i.zero.map Value.cells) = some (some #[.nilFunc]) := by kernel_rfl
theorem eo67 : elemOK Try.prog 67 1 8 = true := by kernel_rfl
theorem sz68 : (Try.prog.info? 68).map (·.size) = some 1 := by kernel_rfl
theorem zr68 : (Try.prog.info? 68).map (·.zero) = some (some .nilFunc) := by kernel_rfl
theorem zc68 : (Try.prog.info? 68).map (fun i => i.zero.map Value.cells) = some (some #[.nilFunc]) := by kernel_rfl
theorem eo68 : elemOK Try.prog 68 1 8 = true := by kernel_rfl
theorem sz69 : (Try.prog.info? 69).map (·.size) = some 1 := by kernel_rfl
theorem zr69 : (Try.prog.info? 69).map (·.zero) = some (some .nilFunc) := by kernel_rfl
theorem zc69 : (Try.prog.info? 69).map (fun i => i.zero.map Value.cells) = some (some #[.nilFunc]) := by kernel_rfl
theorem eo69 : elemOK Try.prog 69 1 8 = true := by kernel_rfl
theorem sz70 : (Try.prog.info? 70).map (·.size) = some 1 := by kernel_rfl
theorem zr70 : (Try.prog.info? 70).map (·.zero) = some (some (.int .u64 0)) := by kernel_rfl
theorem zc70 : (Try.prog.info? 70).map (fun i => i.zero.map Value.cells) = some (some #[(.int .u64 0)]) := by kernel_rfl
theorem eo70 : elemOK Try.prog 70 1 8 = true := by kernel_rfl
theorem sz71 : (Try.prog.info? 71).map (·.size) = some 2 := by kernel_rfl
theorem zr71 : (Try.prog.info? 71).map (·.zero) = some (some (.agg #[(.string ⟨#[]⟩), (.int .i64 0)])) := by kernel_rfl
theorem zc71 : (Try.prog.info? 71).map (fun i => i.zero.map Value.cells) = some (some #[(.string ⟨#[]⟩), (.int .i64 0)]) := by kernel_rfl
theorem eo71 : elemOK Try.prog 71 2 24 = true := by kernel_rfl
theorem fi71_0 : fieldInfo Try.prog 71 0 = some (0, 1) := by kernel_rfl
theorem fp71_0 : fieldPart Try.prog 71 0 = some (false, 0, 1) := by kernel_rfl
theorem fi71_1 : fieldInfo Try.prog 71 1 = some (1, 1) := by kernel_rfl
theorem fp71_1 : fieldPart Try.prog 71 1 = some (false, 1, 1) := by kernel_rfl
theorem pl71 : placesOf Try.prog 71 = some [(0, 1), (1, 1)] := by kernel_rfl
theorem sz72 : (Try.prog.info? 72).map (·.size) = some 1 := by kernel_rfl
theorem zr72 : (Try.prog.info? 72).map (·.zero) = some (some (.slice none 0 0)) := by kernel_rfl
theorem zc72 : (Try.prog.info? 72).map (fun i => i.zero.map Value.cells) = some (some #[(.slice none 0 0)]) := by kernel_rfl
theorem eo72 : elemOK Try.prog 72 1 24 = true := by kernel_rfl
theorem sz73 : (Try.prog.info? 73).map (·.size) = some 1 := by kernel_rfl
theorem zr73 : (Try.prog.info? 73).map (·.zero) = some (some .nilFunc) := by kernel_rfl
theorem zc73 : (Try.prog.info? 73).map (fun i => i.zero.map Value.cells) = some (some #[.nilFunc]) := by kernel_rfl
theorem eo73 : elemOK Try.prog 73 1 8 = true := by kernel_rfl
theorem sz74 : (Try.prog.info? 74).map (·.size) = some 1 := by kernel_rfl
theorem zr74 : (Try.prog.info? 74).map (·.zero) = some (some .nilFunc) := by kernel_rfl
theorem zc74 : (Try.prog.info? 74).map (fun i => i.zero.map Value.cells) = some (some #[.nilFunc]) := by kernel_rfl
theorem eo74 : elemOK Try.prog 74 1 8 = true := by kernel_rfl
theorem sz75 : (Try.prog.info? 75).map (·.size) = some 1 := by kernel_rfl
theorem zr75 : (Try.prog.info? 75).map (·.zero) = some (some .nilFunc) := by kernel_rfl
theorem zc75 : (Try.prog.info? 75).map (fun i => i.zero.map Value.cells) = some (some #[.nilFunc]) := by kernel_rfl
theorem eo75 : elemOK Try.prog 75 1 8 = true := by kernel_rfl
theorem sz76 : (Try.prog.info? 76).map (·.size) = some 1 := by kernel_rfl
theorem zr76 : (Try.prog.info? 76).map (·.zero) = some (some (.map none)) := by kernel_rfl
theorem zc76 : (Try.prog.info? 76).map (fun i => i.zero.map Value.cells) = some (some #[(.map none)]) := by kernel_rfl
theorem eo76 : elemOK Try.prog 76 1 8 = true := by kernel_rfl
theorem sz77 : (Try.prog.info? 77).map (·.size) = some 1 := by kernel_rfl
theorem zr77 : (Try.prog.info? 77).map (·.zero) = some (some (.pointer none)) := by kernel_rfl
theorem zc77 : (Try.prog.info? 77).map (fun i => i.zero.map Value.cells) = some (some #[(.pointer none)]) := by kernel_rfl
theorem eo77 : elemOK Try.prog 77 1 8 = true := by kernel_rfl
theorem sz78 : (Try.prog.info? 78).map (·.size) = some 1 := by kernel_rfl
theorem zr78 : (Try.prog.info? 78).map (·.zero) = some (some (.int .u32 0)) := by kernel_rfl
theorem zc78 : (Try.prog.info? 78).map (fun i => i.zero.map Value.cells) = some (some #[(.int .u32 0)]) := by kernel_rfl
theorem eo78 : elemOK Try.prog 78 1 4 = true := by kernel_rfl
theorem sz79 : (Try.prog.info? 79).map (·.size) = some 8 := by kernel_rfl
theorem zr79 : (Try.prog.info? 79).map (·.zero) = some (some (.agg #[(.int .u32 0), (.int .u32 0), (.int .u32 0), (.int .u32 0), (.int .u32 0), (.int .u32 0), (.int .u32 0), (.int .u32 0)])) := by kernel_rfl
theorem zc79 : (Try.prog.info? 79).map (fun i => i.zero.map Value.cells) = some (some #[(.int .u32 0), (.int .u32 0), (.int .u32 0), (.int .u32 0), (.int .u32 0), (.int .u32 0), (.int .u32 0), (.int .u32 0)]) := by kernel_rfl
theorem eo79 : elemOK Try.prog 79 8 32 = true := by kernel_rfl
theorem sz80 : (Try.prog.info? 80).map (·.size) = some 1 := by kernel_rfl
theorem zr80 : (Try.prog.info? 80).map (·.zero) = some (some .nilFunc) := by kernel_rfl
theorem zc80 : (Try.prog.info? 80).map (fun i => i.zero.map Value.cells) = some (some #[.nilFunc]) := by kernel_rfl
theorem eo80 : elemOK Try.prog 80 1 8 = true := by kernel_rfl
theorem sz81 : (Try.prog.info? 81).map (·.size) = some 1 := by kernel_rfl
theorem zr81 : (Try.prog.info? 81).map (·.zero) = some (some .nilFunc) := by kernel_rfl
theorem zc81 : (Try.prog.info? 81).map (fun i => i.zero.map Value.cells) = some (some #[.nilFunc]) := by kernel_rfl
theorem eo81 : elemOK Try.prog 81 1 8 = true := by kernel_rfl
theorem sz82 : (Try.prog.info? 82).map (·.size) = some 1 := by kernel_rfl
theorem zr82 : (Try.prog.info? 82).map (·.zero) = some (some .nilFunc) := by kernel_rfl
theorem zc82 : (Try.prog.info? 82).map (fun i => i.zero.map Value.cells) = some (some #[.nilFunc]) := by kernel_rfl
theorem eo82 : elemOK Try.prog 82 1 8 = true := by kernel_rfl
theorem sz83 : (Try.prog.info? 83).map (·.size) = some 1 := by kernel_rfl
theorem zr83 : (Try.prog.info? 83).map (·.zero) = some (some .nilFunc) := by kernel_rfl
theorem zc83 : (Try.prog.info? 83).map (fun i => i.zero.map Value.cells) = some (some #[.nilFunc]) := by kernel_rfl
theorem eo83 : elemOK Try.prog 83 1 8 = true := by kernel_rfl
theorem sz84 : (Try.prog.info? 84).map (·.size) = some 1 := by kernel_rfl
theorem zr84 : (Try.prog.info? 84).map (·.zero) = some (some (.slice none 0 0)) := by kernel_rfl
theorem zc84 : (Try.prog.info? 84).map (fun i => i.zero.map Value.cells) = some (some #[(.slice none 0 0)]) := by kernel_rfl
theorem eo84 : elemOK Try.prog 84 1 24 = true := by kernel_rfl
theorem sz85 : (Try.prog.info? 85).map (·.size) = some 1 := by kernel_rfl
theorem zr85 : (Try.prog.info? 85).map (·.zero) = some (some .nilFunc) := by kernel_rfl
theorem zc85 : (Try.prog.info? 85).map (fun i => i.zero.map Value.cells) = some (some #[.nilFunc]) := by kernel_rfl
theorem eo85 : elemOK Try.prog 85 1 8 = true := by kernel_rfl
theorem sz86 : (Try.prog.info? 86).map (·.size) = some 1 := by kernel_rfl
theorem zr86 : (Try.prog.info? 86).map (·.zero) = some (some .nilFunc) := by kernel_rfl
theorem zc86 : (Try.prog.info? 86).map (fun i => i.zero.map Value.cells) = some (some #[.nilFunc]) := by kernel_rfl
theorem eo86 : elemOK Try.prog 86 1 8 = true := by kernel_rfl
theorem sz87 : (Try.prog.info? 87).map (·.size) = some 1 := by kernel_rfl
theorem zr87 : (Try.prog.info? 87).map (·.zero) = some (some .nilFunc) := by kernel_rfl
theorem zc87 : (Try.prog.info? 87).map (fun i => i.zero.map Value.cells) = some (some #[.nilFunc]) := by kernel_rfl
theorem eo87 : elemOK Try.prog 87 1 8 = true := by kernel_rfl
theorem sz88 : (Try.prog.info? 88).map (·.size) = some 1 := by kernel_rfl
theorem zr88 : (Try.prog.info? 88).map (·.zero) = some (some (.pointer none)) := by kernel_rfl
theorem zc88 : (Try.prog.info? 88).map (fun i => i.zero.map Value.cells) = some (some #[(.pointer none)]) := by kernel_rfl
theorem eo88 : elemOK Try.prog 88 1 8 = true := by kernel_rfl
theorem sz89 : (Try.prog.info? 89).map (·.size) = some 1 := by kernel_rfl
theorem zr89 : (Try.prog.info? 89).map (·.zero) = some (some .nilFunc) := by kernel_rfl
theorem zc89 : (Try.prog.info? 89).map (fun i => i.zero.map Value.cells) = some (some #[.nilFunc]) := by kernel_rfl
theorem eo89 : elemOK Try.prog 89 1 8 = true := by kernel_rfl
theorem sz90 : (Try.prog.info? 90).map (·.size) = some 64 := by kernel_rfl
theorem zr90 : (Try.prog.info? 90).map (·.zero) = some (some (.agg (List.toArray ((.int .u32 0) :: (.int .u32 0) :: (.int .u32 0) :: (.int .u32 0) :: (.int .u32 0) :: (.int .u32 0) :: (.int .u32 0) :: (.int .u32 0) :: (.int .u32 0) :: (.int .u32 0) :: (.int .u32 0) :: (.int .u32 0) :: (.int .u32 0) :: (.int .u32 0) :: (.int .u32 0) :: (.int .u32 0) :: (.int .u32 0) :: (.int .u32 0) :: (.int .u32 0) :: (.int .u32 0) :: (.int .u32 0) :: (.int .u32 0) :: (.int .u32 0) :: (.int .u32 0) :: (.int .u32 0) :: (.int .u32 0) :: (.int .u32 0) :: (.int .u32 0) :: (.int .u32 0) :: (.int .u32 0) :: (.int .u32 0) :: (.int .u32 0) :: (.int .u32 0) :: (.int .u32 0) :: (.int .u32 0) :: (.int .u32 0) :: (.int .u32 0) :: (.int .u32 0) :: (.int .u32 0) :: (.int .u32 0) :: (.int .u32 0) :: (.int .u32 0) :: (.int .u32 0) :: (.int .u32 0) :: (.int .u32 0) :: (.int .u32 0) :: (.int .u32 0) :: (.int .u32 0) :: (.int .u32 0) :: (.int .u32 0) :: (.int .u32 0) :: (.int .u32 0) :: (.int .u32 0) :: (.int .u32 0) :: (.int .u32 0) :: (.int .u32 0) :: (.int .u32 0) :: (.int .u32 0) :: (.int .u32 0) :: (.int .u32 0) :: (.int .u32 0) :: (.int .u32 0) :: (.int .u32 0) :: (.int .u32 0) :: [])))) := by kernel_rfl
theorem zc90 : (Try.prog.info? 90).map (fun i => i.zero.map Value.cells) = some (some (List.toArray ((.int .u32 0) :: (.int .u32 0) :: (.int .u32 0) :: (.int .u32 0) :: (.int .u32 0) :: (.int .u32 0) :: (.int .u32 0) :: (.int .u32 0) :: (.int .u32 0) :: (.int .u32 0) :: (.int .u32 0) :: (.int .u32 0) :: (.int .u32 0) :: (.int .u32 0) :: (.int .u32 0) :: (.int .u32 0) :: (.int .u32 0) :: (.int .u32 0) :: (.int .u32 0) :: (.int .u32 0) :: (.int .u32 0) :: (.int .u32 0) :: (.int .u32 0) :: (.int .u32 0) :: (.int .u32 0) :: (.int .u32 0) :: (.int .u32 0) :: (.int .u32 0) :: (.int .u32 0) :: (.int .u32 0) :: (.int .u32 0) :: (.int .u32 0) :: (.int .u32 0) :: (.int .u32 0) :: (.int .u32 0) :: (.int .u32 0) :: (.int .u32 0) :: (.int .u32 0) :: (.int .u32 0) :: (.int .u32 0) :: (.int .u32 0) :: (.int .u32 0) :: (.int .u32 0) :: (.int .u32 0) :: (.int .u32 0) :: (.int .u32 0) :: (.int .u32 0) :: (.int .u32 0) :: (.int .u32 0) :: (.int .u32 0) :: (.int .u32 0) :: (.int .u32 0) :: (.int .u32 0) :: (.int .u32 0) :: (.int .u32 0) :: (.int .u32 0) :: (.int .u32 0) :: (.int .u32 0) :: (.int .u32 0) :: (.int .u32 0) :: (.int .u32 0) :: (.int .u32 0) :: (.int .u32 0) :: (.int .u32 0) :: []))) := by kernel_rfl
theorem eo90 : elemOK Try.prog 90 64 256 = true := by kernel_rfl
theorem sz91 : (Try.prog.info? 91).map (·.size) = some 1 := by kernel_rfl
theorem zr91 : (Try.prog.info? 91).map (·.zero) = some (some .nilFunc) := by kernel_rfl
theorem zc91 : (Try.prog.info? 91).map (fun i => i.zero.map Value.cells) = some (some #[.nilFunc]) := by kernel_rfl
theorem eo91 : elemOK Try.prog 91 1 8 = true := by kernel_rfl
theorem sz92 : (Try.prog.info? 92).map (·.size) = some 1 := by kernel_rfl
theorem zr92 : (Try.prog.info? 92).map (·.zero) = some (some .nilFunc) := by kernel_rfl
theorem zc92 : (Try.prog.info? 92).map (fun i => i.zero.map Value.cells) = some (some #[.nilFunc]) := by kernel_rfl
theorem eo92 : elemOK Try.prog 92 1 8 = true := by kernel_rfl
theorem sz93 : (Try.prog.info? 93).map (·.size) = some 1 := by kernel_rfl
theorem zr93 : (Try.prog.info? 93).map (·.zero) = some (some .nilFunc) := by kernel_rfl
theorem zc93 : (Try.prog.info? 93).map (fun i => i.zero.map Value.cells) = some (some #[.nilFunc]) := by kernel_rfl
theorem eo93 : elemOK Try.prog 93 1 8 = true := by kernel_rfl
theorem sz94 : (Try.prog.info? 94).map (·.size) = some 1 := by kernel_rfl
theorem zr94 : (Try.prog.info? 94).map (·.zero) = some (some .nilFunc) := by kernel_rfl
theorem zc94 : (Try.prog.info? 94).map (fun i => i.zero.map Value.cells) = some (some #[.nilFunc]) := by kernel_rfl
theorem eo94 : elemOK Try.prog 94 1 8 = true := by kernel_rfl
theorem sz95 : (Try.prog.info? 95).map (·.size) = some 1 := by kernel_rfl
theorem sz96 : (Try.prog.info? 96).map (·.size) = some 1 := by kernel_rfl
theorem zr96 : (Try.prog.info? 96).map (·.zero) = some (some .nilFunc) := by kernel_rfl
theorem zc96 : (Try.prog.info? 96).map (fun i => i.zero.map Value.cells) = some (some #[.nilFunc]) := by kernel_rfl
theorem eo96 : elemOK Try.prog 96 1 8 = true := by kernel_rfl
theorem sz97 : (Try.prog.info? 97).map (·.size) = some 4 := by kernel_rfl
theorem zr97 : (Try.prog.info? 97).map (·.zero) = some (some (.agg #[(.pointer none), (.pointer none), (.pointer none), (.string ⟨#[]⟩)])) := by kernel_rfl
theorem zc97 : (Try.prog.info? 97).map (fun i => i.zero.map Value.cells) = some (some #[(.pointer none), (.pointer none), (.pointer none), (.string ⟨#[]⟩)]) := by kernel_rfl
theorem eo97 : elemOK Try.prog 97 4 40 = true := by kernel_rfl
theorem fi97_0 : fieldInfo Try.prog 97 0 = some (0, 1) := by kernel_rfl
theorem fp97_0 : fieldPart Try.prog 97 0 = some (false, 0, 1) := by kernel_rfl
theorem fi97_1 : fieldInfo Try.prog 97 1 = some (1, 1) := by kernel_rfl
theorem fp97_1 : fieldPart Try.prog 97 1 = some (false, 1, 1) := by kernel_rfl
theorem fi97_2 : fieldInfo Try.prog 97 2 = some (2, 1) := by kernel_rfl
theorem fp97_2 : fieldPart Try.prog 97 2 = some (false, 2, 1) := by kernel_rfl
theorem fi97_3 : fieldInfo Try.prog 97 3 = some (3, 1) := by kernel_rfl
theorem fp97_3 : fieldPart Try.prog 97 3 = some (false, 3, 1) := by kernel_rfl
theorem pl97 : placesOf Try.prog 97 = some [(0, 1), (1, 1), (2, 1), (3, 1)] := by kernel_rfl
theorem sz98 : (Try.prog.info? 98).map (·.size) = some 4 := by kernel_rfl
theorem zr98 : (Try.prog.info? 98).map (·.zero) = some (some (.agg #[(.pointer none), (.pointer none), (.pointer none), (.string ⟨#[]⟩)])) := by kernel_rfl
theorem zc98 : (Try.prog.info? 98).map (fun i => i.zero.map Value.cells) = some (some #[(.pointer none), (.pointer none), (.pointer none), (.string ⟨#[]⟩)]) := by kernel_rfl
theorem eo98 : elemOK Try.prog 98 4 40 = true := by kernel_rfl
theorem fi98_0 : fieldInfo Try.prog 98 0 = some (0, 1) := by kernel_rfl
theorem fp98_0 : fieldPart Try.prog 98 0 = some (false, 0, 1) := by kernel_rfl
theorem fi98_1 : fieldInfo Try.prog 98 1 = some (1, 1) := by kernel_rfl
theorem fp98_1 : fieldPart Try.prog 98 1 = some (false, 1, 1) := by kernel_rfl
theorem fi98_2 : fieldInfo Try.prog 98 2 = some (2, 1) := by kernel_rfl
theorem fp98_2 : fieldPart Try.prog 98 2 = some (false, 2, 1) := by kernel_rfl
theorem fi98_3 : fieldInfo Try.prog 98 3 = some (3, 1) := by kernel_rfl
theorem fp98_3 : fieldPart Try.prog 98 3 = some (false, 3, 1) := by kernel_rfl
theorem pl98 : placesOf Try.prog 98 = some [(0, 1), (1, 1), (2, 1), (3, 1)] := by kernel_rfl
theorem sz99 : (Try.prog.info? 99).map (·.size) = some 0 := by kernel_rfl
theorem zr99 : (Try.prog.info? 99).map (·.zero) = some (some (.agg #[])) := by kernel_rfl
theorem sz100 : (Try.prog.info? 100).map (·.size) = some 0 := by kernel_rfl
theorem zr100 : (Try.prog.info? 100).map (·.zero) = some (some (.agg #[])) := by kernel_rfl
theorem fi100_0 : fieldInfo Try.prog 100 0 = some (0, 0) := by kernel_rfl
theorem fp100_0 : fieldPart Try.prog 100 0 = some (true, 0, 0) := by kernel_rfl
theorem pl100 : placesOf Try.prog 100 = some [(0, 0)] := by kernel_rfl
theorem sz101 : (Try.prog.info? 101).map (·.size) = some 0 := by kernel_rfl
theorem zr101 : (Try.prog.info? 101).map (·.zero) = some (some (.agg #[])) := by kernel_rfl
theorem fi101_0 : fieldInfo Try.prog 101 0 = some (0, 0) := by kernel_rfl
theorem fp101_0 : fieldPart Try.prog 101 0 = some (true, 0, 0) := by kernel_rfl
theorem pl101 : placesOf Try.prog 101 = some [(0, 0)] := by kernel_rfl
theorem sz102 : (Try.prog.info? 102).map (·.size) = some 1 := by kernel_rfl
theorem zr102 : (Try.prog.info? 102).map (·.zero) = some (some .nilFunc) := by kernel_rfl
theorem zc102 : (Try.prog.info? 102).map (fun i => i.zero.map Value.cells) = some (some #[.nilFunc]) := by kernel_rfl
theorem eo102 : elemOK Try.prog 102 1 8 = true := by kernel_rfl
theorem sz103 : (Try.prog.info? 103).map (·.size) = some 1 := by kernel_rfl
theorem zr103 : (Try.prog.info? 103).map (·.zero) = some (some (.int .u8 0)) := by kernel_rfl
theorem zc103 : (Try.prog.info? 103).map (fun i => i.zero.map Value.cells) = some (some #[(.int .u8 0)]) := by kernel_rfl
theorem eo103 : elemOK Try.prog 103 1 1 = true := by kernel_rfl
theorem sz104 : (Try.prog.info? 104).map (·.size) = some 1 := by kernel_rfl
theorem zr104 : (Try.prog.info? 104).map (·.zero) = some (some (.int .u8 0)) := by kernel_rfl
theorem zc104 : (Try.prog.info? 104).map (fun i => i.zero.map Value.cells) = some (some #[(.int .u8 0)]) := by kernel_rfl
theorem eo104 : elemOK Try.prog 104 1 1 = true := by kernel_rfl
theorem sz105 : (Try.prog.info? 105).map (·.size) = some 1 := by kernel_rfl
theorem zr105 : (Try.prog.info? 105).map (·.zero) = some (some .nilFunc) := by kernel_rfl
theorem zc105 : (Try.prog.info? 105).map (fun i => i.zero.map Value.cells) = some (some #[.nilFunc]) := by kernel_rfl
theorem eo105 : elemOK Try.prog 105 1 8 = true := by kernel_rfl
theorem sz106 : (Try.prog.info? 106).map (·.size) = some 1 := by kernel_rfl
theorem zr106 : (Try.prog.info? 106).map (·.zero) = some (some (.int .i32 0)) := by kernel_rfl
theorem zc106 : (Try.prog.info? 106).map (fun i => i.zero.map Value.cells) = some (some #[(.int .i32 0)]) := by kernel_rfl
theorem eo106 : elemOK Try.prog 106 1 4 = true := by kernel_rfl
theorem sz107 : (Try.prog.info? 107).map (·.size) = some 1 := by kernel_rfl
theorem zr107 : (Try.prog.info? 107).map (·.zero) = some (some (.int .i32 0)) := by kernel_rfl
theorem zc107 : (Try.prog.info? 107).map (fun i => i.zero.map Value.cells) = some (some #[(.int .i32 0)]) := by kernel_rfl
theorem eo107 : elemOK Try.prog 107 1 4 = true := by kernel_rfl
theorem sz108 : (Try.prog.info? 108).map (·.size) = some 11 := by kernel_rfl
theorem zr108 : (Try.prog.info? 108).map (·.zero) = some (some (.agg #[(.int .u64 0), (.int .u64 0), (.int .u32 0), (.int .u8 0), (.int .u8 0), (.int .u8 0), (.int .u8 0), .nilFunc, (.pointer none), (.int .i32 0), (.int .i32 0)])) := by kernel_rfl
theorem zc108 : (Try.prog.info? 108).map (fun i => i.zero.map Value.cells) = some (some #[(.int .u64 0), (.int .u64 0), (.int .u32 0), (.int .u8 0), (.int .u8 0), (.int .u8 0), (.int .u8 0), .nilFunc, (.pointer none), (.int .i32 0), (.int .i32 0)]) := by kernel_rfl
theorem eo108 : elemOK Try.prog 108 11 48 = true := by kernel_rfl
theorem fi108_0 : fieldInfo Try.prog 108 0 = some (0, 1) := by kernel_rfl
theorem fp108_0 : fieldPart Try.prog 108 0 = some (false, 0, 1) := by kernel_rfl
theorem fi108_1 : fieldInfo Try.prog 108 1 = some (1, 1) := by kernel_rfl
theorem fp108_1 : fieldPart Try.prog 108 1 = some (false, 1, 1) := by kernel_rfl
theorem fi108_2 : fieldInfo Try.prog 108 2 = some (2, 1) := by kernel_rfl
theorem fp108_2 : fieldPart Try.prog 108 2 = some (false, 2, 1) := by kernel_rfl
theorem fi108_3 : fieldInfo Try.prog 108 3 = some (3, 1) := by kernel_rfl
theorem fp108_3 : fieldPart Try.prog 108 3 = some (false, 3, 1) := by kernel_rfl
theorem fi108_4 : fieldInfo Try.prog 108 4 = some (4, 1) := by kernel_rfl
theorem fp108_4 : fieldPart Try.prog 108 4 = some (false, 4, 1) := by kernel_rfl
theorem fi108_5 : fieldInfo Try.prog 108 5 = some (5, 1) := by kernel_rfl
theorem fp108_5 : fieldPart Try.prog 108 5 = some (false, 5, 1) := by kernel_rfl
theorem fi108_6 : fieldInfo Try.prog 108 6 = some (6, 1) := by kernel_rfl
theorem fp108_6 : fieldPart Try.prog 108 6 = some (false, 6, 1) := by kernel_rfl
theorem fi108_7 : fieldInfo Try.prog 108 7 = some (7, 1) := by kernel_rfl
theorem fp108_7 : fieldPart Try.prog 108 7 = some (false, 7, 1) := by kernel_rfl
theorem fi108_8 : fieldInfo Try.prog 108 8 = some (8, 1) := by kernel_rfl
theorem fp108_8 : fieldPart Try.prog 108 8 = some (false, 8, 1) := by kernel_rfl
theorem fi108_9 : fieldInfo Try.prog 108 9 = some (9, 1) := by kernel_rfl
theorem fp108_9 : fieldPart Try.prog 108 9 = some (false, 9, 1) := by kernel_rfl
theorem fi108_10 : fieldInfo Try.prog 108 10 = some (10, 1) := by kernel_rfl
theorem fp108_10 : fieldPart Try.prog 108 10 = some (false, 10, 1) := by kernel_rfl
theorem pl108 : placesOf Try.prog 108 = some [(0, 1), (1, 1), (2, 1), (3, 1), (4, 1), (5, 1), (6, 1), (7, 1), (8, 1), (9, 1), (10, 1)] := by kernel_rfl
theorem sz109 : (Try.prog.info? 109).map (·.size) = some 11 := by kernel_rfl
theorem zr109 : (Try.prog.info? 109).map (·.zero) = some (some (.agg #[(.int .u64 0), (.int .u64 0), (.int .u32 0), (.int .u8 0), (.int .u8 0), (.int .u8 0), (.int .u8 0), .nilFunc, (.pointer none), (.int .i32 0), (.int .i32 0)])) := by kernel_rfl
theorem zc109 : (Try.prog.info? 109).map (fun i => i.zero.map Value.cells) = some (some #[(.int .u64 0), (.int .u64 0), (.int .u32 0), (.int .u8 0), (.int .u8 0), (.int .u8 0), (.int .u8 0), .nilFunc, (.pointer none), (.int .i32 0), (.int .i32 0)]) := by kernel_rfl
theorem eo109 : elemOK Try.prog 109 11 48 = true := by kernel_rfl
theorem fi109_0 : fieldInfo Try.prog 109 0 = some (0, 1) := by kernel_rfl
theorem fp109_0 : fieldPart Try.prog 109 0 = some (false, 0, 1) := by kernel_rfl
theorem fi109_1 : fieldInfo Try.prog 109 1 = some (1, 1) := by kernel_rfl
theorem fp109_1 : fieldPart Try.prog 109 1 = some (false, 1, 1) := by kernel_rfl
theorem fi109_2 : fieldInfo Try.prog 109 2 = some (2, 1) := by kernel_rfl
theorem fp109_2 : fieldPart Try.prog 109 2 = some (false, 2, 1) := by kernel_rfl
theorem fi109_3 : fieldInfo Try.prog 109 3 = some (3, 1) := by kernel_rfl
theorem fp109_3 : fieldPart Try.prog 109 3 = some (false, 3, 1) := by kernel_rfl
theorem fi109_4 : fieldInfo Try.prog 109 4 = some (4, 1) := by kernel_rfl
theorem fp109_4 : fieldPart Try.prog 109 4 = some (false, 4, 1) := by kernel_rfl
theorem fi109_5 : fieldInfo Try.prog 109 5 = some (5, 1) := by kernel_rfl
theorem fp109_5 : fieldPart Try.prog 109 5 = some (false, 5, 1) := by kernel_rfl
theorem fi109_6 : fieldInfo Try.prog 109 6 = some (6, 1) := by kernel_rfl
theorem fp109_6 : fieldPart Try.prog 109 6 = some (false, 6, 1) := by kernel_rfl
theorem fi109_7 : fieldInfo Try.prog 109 7 = some (7, 1) := by kernel_rfl
theorem fp109_7 : fieldPart Try.prog 109 7 = some (false, 7, 1) := by kernel_rfl
theorem fi109_8 : fieldInfo Try.prog 109 8 = some (8, 1) := by kernel_rfl
theorem fp109_8 : fieldPart Try.prog 109 8 = some (false, 8, 1) := by kernel_rfl
theorem fi109_9 : fieldInfo Try.prog 109 9 = some (9, 1) := by kernel_rfl
theorem fp109_9 : fieldPart Try.prog 109 9 = some (false, 9, 1) := by kernel_rfl
theorem fi109_10 : fieldInfo Try.prog 109 10 = some (10, 1) := by kernel_rfl
theorem fp109_10 : fieldPart Try.prog 109 10 = some (false, 10, 1) := by kernel_rfl
theorem pl109 : placesOf Try.prog 109 = some [(0, 1), (1, 1), (2, 1), (3, 1), (4, 1), (5, 1), (6, 1), (7, 1), (8, 1), (9, 1), (10, 1)] := by kernel_rfl
end Go.Proofs.Ytmdkfhmmhiofbaa

