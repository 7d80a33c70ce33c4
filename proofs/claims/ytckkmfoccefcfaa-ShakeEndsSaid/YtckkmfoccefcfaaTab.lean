/- Facts on the types of the program: sizes, zero values, fields. -/
import Derived.Test.YtckkmfoccefcfaaProg
import Derived.Test.YtckkmfoccefcfaaMa2
namespace Go.Proofs.Ytckkmfoccefcfaa
set_option linter.unusedVariables false
theorem sz0 : (Try.prog.info? 0).map (·.size) = some 1 := by kernel_rfl
theorem sz1 : (Try.prog.info? 1).map (·.size) = some 1 := by kernel_rfl
theorem zr1 : (Try.prog.info? 1).map (·.zero) = some (some .nilFunc) := by kernel_rfl
theorem zc1 : (Try.prog.info? 1).map (fun i => i.zero.map Value.cells) = some (some #[.nilFunc]) := by kernel_rfl
theorem eo1 : elemOK Try.prog 1 1 8 = true := by kernel_rfl
theorem sz2 : (Try.prog.info? 2).map (·.size) = some 1 := by kernel_rfl
theorem zr2 : (Try.prog.info? 2).map (·.zero) = some (some (.int .i64 0)) := by kernel_rfl
theorem zc2 : (Try.prog.info? 2).map (fun i => i.zero.map Value.cells) = some (some #[(.int .i64 0)]) := by kernel_rfl
theorem eo2 : elemOK Try.prog 2 1 8 = true := by kernel_rfl
theorem sz3 : (Try.prog.info? 3).map (·.size) = some 1 := by kernel_rfl
theorem zr3 : (Try.prog.info? 3).map (·.zero) = some (some (.int .i64 0)) := by kernel_rfl
theorem zc3 : (Try.prog.info? 3).map (fun i => i.zero.map Value.cells) = some (some #[(.int .i64 0)]) := by kernel_rfl
theorem eo3 : elemOK Try.prog 3 1 8 = true := by kernel_rfl
theorem sz4 : (Try.prog.info? 4).map (·.size) = some 1 := by kernel_rfl
theorem zr4 : (Try.prog.info? 4).map (·.zero) = some (some (.bool false)) := by kernel_rfl
theorem zc4 : (Try.prog.info? 4).map (fun i => i.zero.map Value.cells) = some (some #[(.bool false)]) := by kernel_rfl
theorem eo4 : elemOK Try.prog 4 1 1 = true := by kernel_rfl
theorem sz5 : (Try.prog.info? 5).map (·.size) = some 1 := by kernel_rfl
theorem zr5 : (Try.prog.info? 5).map (·.zero) = some (some (.int .u8 0)) := by kernel_rfl
theorem zc5 : (Try.prog.info? 5).map (fun i => i.zero.map Value.cells) = some (some #[(.int .u8 0)]) := by kernel_rfl
theorem eo5 : elemOK Try.prog 5 1 1 = true := by kernel_rfl
theorem sz6 : (Try.prog.info? 6).map (·.size) = some 1 := by kernel_rfl
theorem zr6 : (Try.prog.info? 6).map (·.zero) = some (some (.int .u8 0)) := by kernel_rfl
theorem zc6 : (Try.prog.info? 6).map (fun i => i.zero.map Value.cells) = some (some #[(.int .u8 0)]) := by kernel_rfl
theorem eo6 : elemOK Try.prog 6 1 1 = true := by kernel_rfl
theorem sz7 : (Try.prog.info? 7).map (·.size) = some 4 := by kernel_rfl
theorem zr7 : (Try.prog.info? 7).map (·.zero) = some (some (.agg #[(.int .i64 0), (.int .i64 0), (.bool false), (.int .u8 0)])) := by kernel_rfl
theorem zc7 : (Try.prog.info? 7).map (fun i => i.zero.map Value.cells) = some (some #[(.int .i64 0), (.int .i64 0), (.bool false), (.int .u8 0)]) := by kernel_rfl
theorem eo7 : elemOK Try.prog 7 4 24 = true := by kernel_rfl
theorem fi7_0 : fieldInfo Try.prog 7 0 = some (0, 1) := by kernel_rfl
theorem fp7_0 : fieldPart Try.prog 7 0 = some (false, 0, 1) := by kernel_rfl
theorem fi7_1 : fieldInfo Try.prog 7 1 = some (1, 1) := by kernel_rfl
theorem fp7_1 : fieldPart Try.prog 7 1 = some (false, 1, 1) := by kernel_rfl
theorem fi7_2 : fieldInfo Try.prog 7 2 = some (2, 1) := by kernel_rfl
theorem fp7_2 : fieldPart Try.prog 7 2 = some (false, 2, 1) := by kernel_rfl
theorem fi7_3 : fieldInfo Try.prog 7 3 = some (3, 1) := by kernel_rfl
theorem fp7_3 : fieldPart Try.prog 7 3 = some (false, 3, 1) := by kernel_rfl
theorem pl7 : placesOf Try.prog 7 = some [(0, 1), (1, 1), (2, 1), (3, 1)] := by kernel_rfl
theorem sz8 : (Try.prog.info? 8).map (·.size) = some 4 := by kernel_rfl
theorem zr8 : (Try.prog.info? 8).map (·.zero) = some (some (.agg #[(.int .i64 0), (.int .i64 0), (.bool false), (.int .u8 0)])) := by kernel_rfl
theorem zc8 : (Try.prog.info? 8).map (fun i => i.zero.map Value.cells) = some (some #[(.int .i64 0), (.int .i64 0), (.bool false), (.int .u8 0)]) := by kernel_rfl
theorem eo8 : elemOK Try.prog 8 4 24 = true := by kernel_rfl
theorem fi8_0 : fieldInfo Try.prog 8 0 = some (0, 1) := by kernel_rfl
theorem fp8_0 : fieldPart Try.prog 8 0 = some (false, 0, 1) := by kernel_rfl
theorem fi8_1 : fieldInfo Try.prog 8 1 = some (1, 1) := by kernel_rfl
theorem fp8_1 : fieldPart Try.prog 8 1 = some (false, 1, 1) := by kernel_rfl
theorem fi8_2 : fieldInfo Try.prog 8 2 = some (2, 1) := by kernel_rfl
theorem fp8_2 : fieldPart Try.prog 8 2 = some (false, 2, 1) := by kernel_rfl
theorem fi8_3 : fieldInfo Try.prog 8 3 = some (3, 1) := by kernel_rfl
theorem fp8_3 : fieldPart Try.prog 8 3 = some (false, 3, 1) := by kernel_rfl
theorem pl8 : placesOf Try.prog 8 = some [(0, 1), (1, 1), (2, 1), (3, 1)] := by kernel_rfl
theorem sz9 : (Try.prog.info? 9).map (·.size) = some 1 := by kernel_rfl
theorem zr9 : (Try.prog.info? 9).map (·.zero) = some (some (.string ⟨#[]⟩)) := by kernel_rfl
theorem zc9 : (Try.prog.info? 9).map (fun i => i.zero.map Value.cells) = some (some #[(.string ⟨#[]⟩)]) := by kernel_rfl
theorem eo9 : elemOK Try.prog 9 1 16 = true := by kernel_rfl
theorem sz10 : (Try.prog.info? 10).map (·.size) = some 1 := by kernel_rfl
theorem zr10 : (Try.prog.info? 10).map (·.zero) = some (some (.string ⟨#[]⟩)) := by kernel_rfl
theorem zc10 : (Try.prog.info? 10).map (fun i => i.zero.map Value.cells) = some (some #[(.string ⟨#[]⟩)]) := by kernel_rfl
theorem eo10 : elemOK Try.prog 10 1 16 = true := by kernel_rfl
theorem sz11 : (Try.prog.info? 11).map (·.size) = some 1 := by kernel_rfl
theorem zr11 : (Try.prog.info? 11).map (·.zero) = some (some (.string ⟨#[]⟩)) := by kernel_rfl
theorem zc11 : (Try.prog.info? 11).map (fun i => i.zero.map Value.cells) = some (some #[(.string ⟨#[]⟩)]) := by kernel_rfl
theorem eo11 : elemOK Try.prog 11 1 16 = true := by kernel_rfl
theorem sz12 : (Try.prog.info? 12).map (·.size) = some 1 := by kernel_rfl
theorem zr12 : (Try.prog.info? 12).map (·.zero) = some (some (.int .u64 0)) := by kernel_rfl
theorem zc12 : (Try.prog.info? 12).map (fun i => i.zero.map Value.cells) = some (some #[(.int .u64 0)]) := by kernel_rfl
theorem eo12 : elemOK Try.prog 12 1 8 = true := by kernel_rfl
theorem sz13 : (Try.prog.info? 13).map (·.size) = some 2 := by kernel_rfl
theorem zr13 : (Try.prog.info? 13).map (·.zero) = some (some (.agg #[(.string ⟨#[]⟩), (.int .u64 0)])) := by kernel_rfl
theorem zc13 : (Try.prog.info? 13).map (fun i => i.zero.map Value.cells) = some (some #[(.string ⟨#[]⟩), (.int .u64 0)]) := by kernel_rfl
theorem eo13 : elemOK Try.prog 13 2 24 = true := by kernel_rfl
theorem fi13_0 : fieldInfo Try.prog 13 0 = some (0, 1) := by kernel_rfl
theorem fp13_0 : fieldPart Try.prog 13 0 = some (false, 0, 1) := by kernel_rfl
theorem fi13_1 : fieldInfo Try.prog 13 1 = some (1, 1) := by kernel_rfl
theorem fp13_1 : fieldPart Try.prog 13 1 = some (false, 1, 1) := by kernel_rfl
theorem pl13 : placesOf Try.prog 13 = some [(0, 1), (1, 1)] := by kernel_rfl
theorem sz14 : (Try.prog.info? 14).map (·.size) = some 2 := by kernel_rfl
theorem zr14 : (Try.prog.info? 14).map (·.zero) = some (some (.agg #[(.string ⟨#[]⟩), (.int .u64 0)])) := by kernel_rfl
theorem zc14 : (Try.prog.info? 14).map (fun i => i.zero.map Value.cells) = some (some #[(.string ⟨#[]⟩), (.int .u64 0)]) := by kernel_rfl
theorem eo14 : elemOK Try.prog 14 2 24 = true := by kernel_rfl
theorem fi14_0 : fieldInfo Try.prog 14 0 = some (0, 1) := by kernel_rfl
theorem fp14_0 : fieldPart Try.prog 14 0 = some (false, 0, 1) := by kernel_rfl
theorem fi14_1 : fieldInfo Try.prog 14 1 = some (1, 1) := by kernel_rfl
theorem fp14_1 : fieldPart Try.prog 14 1 = some (false, 1, 1) := by kernel_rfl
theorem pl14 : placesOf Try.prog 14 = some [(0, 1), (1, 1)] := by kernel_rfl
theorem sz15 : (Try.prog.info? 15).map (·.size) = some 1 := by kernel_rfl
theorem zr15 : (Try.prog.info? 15).map (·.zero) = some (some (.pointer none)) := by kernel_rfl
theorem zc15 : (Try.prog.info? 15).map (fun i => i.zero.map Value.cells) = some (some #[(.pointer none)]) := by kernel_rfl
theorem eo15 : elemOK Try.prog 15 1 8 = true := by kernel_rfl
theorem sz16 : (Try.prog.info? 16).map (·.size) = some 1 := by kernel_rfl
theorem zr16 : (Try.prog.info? 16).map (·.zero) = some (some (.pointer none)) := by kernel_rfl
theorem zc16 : (Try.prog.info? 16).map (fun i => i.zero.map Value.cells) = some (some #[(.pointer none)]) := by kernel_rfl
theorem eo16 : elemOK Try.prog 16 1 8 = true := by kernel_rfl
theorem sz17 : (Try.prog.info? 17).map (·.size) = some 1 := by kernel_rfl
theorem zr17 : (Try.prog.info? 17).map (·.zero) = some (some (.pointer none)) := by kernel_rfl
theorem zc17 : (Try.prog.info? 17).map (fun i => i.zero.map Value.cells) = some (some #[(.pointer none)]) := by kernel_rfl
theorem eo17 : elemOK Try.prog 17 1 8 = true := by kernel_rfl
theorem sz18 : (Try.prog.info? 18).map (·.size) = some 1 := by kernel_rfl
theorem zr18 : (Try.prog.info? 18).map (·.zero) = some (some (.agg #[(.pointer none)])) := by kernel_rfl
theorem zc18 : (Try.prog.info? 18).map (fun i => i.zero.map Value.cells) = some (some #[(.pointer none)]) := by kernel_rfl
theorem eo18 : elemOK Try.prog 18 1 8 = true := by kernel_rfl
theorem fi18_0 : fieldInfo Try.prog 18 0 = some (0, 1) := by kernel_rfl
theorem fp18_0 : fieldPart Try.prog 18 0 = some (false, 0, 1) := by kernel_rfl
theorem pl18 : placesOf Try.prog 18 = some [(0, 1)] := by kernel_rfl
theorem sz19 : (Try.prog.info? 19).map (·.size) = some 1 := by kernel_rfl
theorem zr19 : (Try.prog.info? 19).map (·.zero) = some (some (.agg #[(.pointer none)])) := by kernel_rfl
theorem zc19 : (Try.prog.info? 19).map (fun i => i.zero.map Value.cells) = some (some #[(.pointer none)]) := by kernel_rfl
theorem eo19 : elemOK Try.prog 19 1 8 = true := by kernel_rfl
theorem fi19_0 : fieldInfo Try.prog 19 0 = some (0, 1) := by kernel_rfl
theorem fp19_0 : fieldPart Try.prog 19 0 = some (false, 0, 1) := by kernel_rfl
theorem pl19 : placesOf Try.prog 19 = some [(0, 1)] := by kernel_rfl
theorem sz20 : (Try.prog.info? 20).map (·.size) = some 1 := by kernel_rfl
theorem zr20 : (Try.prog.info? 20).map (·.zero) = some (some .nilIface) := by kernel_rfl
theorem zc20 : (Try.prog.info? 20).map (fun i => i.zero.map Value.cells) = some (some #[.nilIface]) := by kernel_rfl
theorem eo20 : elemOK Try.prog 20 1 16 = true := by kernel_rfl
theorem sz21 : (Try.prog.info? 21).map (·.size) = some 1 := by kernel_rfl
theorem zr21 : (Try.prog.info? 21).map (·.zero) = some (some (.int .i32 0)) := by kernel_rfl
theorem zc21 : (Try.prog.info? 21).map (fun i => i.zero.map Value.cells) = some (some #[(.int .i32 0)]) := by kernel_rfl
theorem eo21 : elemOK Try.prog 21 1 4 = true := by kernel_rfl
theorem sz22 : (Try.prog.info? 22).map (·.size) = some 1 := by kernel_rfl
theorem zr22 : (Try.prog.info? 22).map (·.zero) = some (some (.slice none 0 0)) := by kernel_rfl
theorem zc22 : (Try.prog.info? 22).map (fun i => i.zero.map Value.cells) = some (some #[(.slice none 0 0)]) := by kernel_rfl
theorem eo22 : elemOK Try.prog 22 1 24 = true := by kernel_rfl
theorem sz23 : (Try.prog.info? 23).map (·.size) = some 1 := by kernel_rfl
theorem zr23 : (Try.prog.info? 23).map (·.zero) = some (some (.int .i64 0)) := by kernel_rfl
theorem zc23 : (Try.prog.info? 23).map (fun i => i.zero.map Value.cells) = some (some #[(.int .i64 0)]) := by kernel_rfl
theorem eo23 : elemOK Try.prog 23 1 8 = true := by kernel_rfl
theorem sz24 : (Try.prog.info? 24).map (·.size) = some 1 := by kernel_rfl
theorem zr24 : (Try.prog.info? 24).map (·.zero) = some (some .nilFunc) := by kernel_rfl
theorem zc24 : (Try.prog.info? 24).map (fun i => i.zero.map Value.cells) = some (some #[.nilFunc]) := by kernel_rfl
theorem eo24 : elemOK Try.prog 24 1 8 = true := by kernel_rfl
theorem sz25 : (Try.prog.info? 25).map (·.size) = some 1 := by kernel_rfl
theorem zr25 : (Try.prog.info? 25).map (·.zero) = some (some .nilFunc) := by kernel_rfl
theorem zc25 : (Try.prog.info? 25).map (fun i => i.zero.map Value.cells) = some (some #[.nilFunc]) := by kernel_rfl
theorem eo25 : elemOK Try.prog 25 1 8 = true := by kernel_rfl
theorem sz26 : (Try.prog.info? 26).map (·.size) = some 1 := by kernel_rfl
theorem zr26 : (Try.prog.info? 26).map (·.zero) = some (some (.int .u32 0)) := by kernel_rfl
theorem zc26 : (Try.prog.info? 26).map (fun i => i.zero.map Value.cells) = some (some #[(.int .u32 0)]) := by kernel_rfl
theorem eo26 : elemOK Try.prog 26 1 4 = true := by kernel_rfl
theorem sz27 : (Try.prog.info? 27).map (·.size) = some 1 := by kernel_rfl
theorem sz28 : (Try.prog.info? 28).map (·.size) = some 1 := by kernel_rfl
theorem zr28 : (Try.prog.info? 28).map (·.zero) = some (some .nilFunc) := by kernel_rfl
theorem zc28 : (Try.prog.info? 28).map (fun i => i.zero.map Value.cells) = some (some #[.nilFunc]) := by kernel_rfl
theorem eo28 : elemOK Try.prog 28 1 8 = true := by kernel_rfl
theorem sz29 : (Try.prog.info? 29).map (·.size) = some 1 := by kernel_rfl
theorem sz30 : (Try.prog.info? 30).map (·.size) = some 1 := by kernel_rfl
theorem zr30 : (Try.prog.info? 30).map (·.zero) = some (some .nilFunc) := by kernel_rfl
theorem zc30 : (Try.prog.info? 30).map (fun i => i.zero.map Value.cells) = some (some #[.nilFunc]) := by kernel_rfl
theorem eo30 : elemOK Try.prog 30 1 8 = true := by kernel_rfl
theorem sz31 : (Try.prog.info? 31).map (·.size) = some 1 := by kernel_rfl
theorem zr31 : (Try.prog.info? 31).map (·.zero) = some (some .nilFunc) := by kernel_rfl
theorem zc31 : (Try.prog.info? 31).map (fun i => i.zero.map Value.cells) = some (some #[.nilFunc]) := by kernel_rfl
theorem eo31 : elemOK Try.prog 31 1 8 = true := by kernel_rfl
theorem sz32 : (Try.prog.info? 32).map (·.size) = some 1 := by kernel_rfl
theorem zr32 : (Try.prog.info? 32).map (·.zero) = some (some .nilFunc) := by kernel_rfl
theorem zc32 : (Try.prog.info? 32).map (fun i => i.zero.map Value.cells) = some (some #[.nilFunc]) := by kernel_rfl
theorem eo32 : elemOK Try.prog 32 1 8 = true := by kernel_rfl
theorem sz33 : (Try.prog.info? 33).map (·.size) = some 1 := by kernel_rfl
theorem zr33 : (Try.prog.info? 33).map (·.zero) = some (some .nilFunc) := by kernel_rfl
theorem zc33 : (Try.prog.info? 33).map (fun i => i.zero.map Value.cells) = some (some #[.nilFunc]) := by kernel_rfl
theorem eo33 : elemOK Try.prog 33 1 8 = true := by kernel_rfl
theorem sz34 : (Try.prog.info? 34).map (·.size) = some 1 := by kernel_rfl
theorem zr34 : (Try.prog.info? 34).map (·.zero) = some (some .nilFunc) := by kernel_rfl
theorem zc34 : (Try.prog.info? 34).map (fun i => i.zero.map Value.cells) = some (some #[.nilFunc]) := by kernel_rfl
theorem eo34 : elemOK Try.prog 34 1 8 = true := by kernel_rfl
theorem sz35 : (Try.prog.info? 35).map (·.size) = some 2 := by kernel_rfl
theorem zr35 : (Try.prog.info? 35).map (·.zero) = some (some (.agg #[(.int .u32 0), (.int .i64 0)])) := by kernel_rfl
theorem zc35 : (Try.prog.info? 35).map (fun i => i.zero.map Value.cells) = some (some #[(.int .u32 0), (.int .i64 0)]) := by kernel_rfl
theorem eo35 : elemOK Try.prog 35 2 16 = true := by kernel_rfl
theorem fi35_0 : fieldInfo Try.prog 35 0 = some (0, 1) := by kernel_rfl
theorem fp35_0 : fieldPart Try.prog 35 0 = some (false, 0, 1) := by kernel_rfl
theorem fi35_1 : fieldInfo Try.prog 35 1 = some (1, 1) := by kernel_rfl
theorem fp35_1 : fieldPart Try.prog 35 1 = some (false, 1, 1) := by kernel_rfl
theorem pl35 : placesOf Try.prog 35 = some [(0, 1), (1, 1)] := by kernel_rfl
theorem sz36 : (Try.prog.info? 36).map (·.size) = some 2 := by kernel_rfl
theorem zr36 : (Try.prog.info? 36).map (·.zero) = some (some (.agg #[(.int .u32 0), (.int .i64 0)])) := by kernel_rfl
theorem zc36 : (Try.prog.info? 36).map (fun i => i.zero.map Value.cells) = some (some #[(.int .u32 0), (.int .i64 0)]) := by kernel_rfl
theorem eo36 : elemOK Try.prog 36 2 16 = true := by kernel_rfl
theorem fi36_0 : fieldInfo Try.prog 36 0 = some (0, 1) := by kernel_rfl
theorem fp36_0 : fieldPart Try.prog 36 0 = some (false, 0, 1) := by kernel_rfl
theorem fi36_1 : fieldInfo Try.prog 36 1 = some (1, 1) := by kernel_rfl
theorem fp36_1 : fieldPart Try.prog 36 1 = some (false, 1, 1) := by kernel_rfl
theorem pl36 : placesOf Try.prog 36 = some [(0, 1), (1, 1)] := by kernel_rfl
theorem sz37 : (Try.prog.info? 37).map (·.size) = some 1 := by kernel_rfl
theorem zr37 : (Try.prog.info? 37).map (·.zero) = some (some .nilFunc) := by kernel_rfl
theorem zc37 : (Try.prog.info? 37).map (fun i => i.zero.map Value.cells) = some (some #[.nilFunc]) := by kernel_rfl
theorem eo37 : elemOK Try.prog 37 1 8 = true := by kernel_rfl
theorem sz38 : (Try.prog.info? 38).map (·.size) = some 1 := by kernel_rfl
theorem zr38 : (Try.prog.info? 38).map (·.zero) = some (some .nilFunc) := by kernel_rfl
theorem zc38 : (Try.prog.info? 38).map (fun i => i.zero.map Value.cells) = some (some #[.nilFunc]) := by kernel_rfl
theorem eo38 : elemOK Try.prog 38 1 8 = true := by kernel_rfl
theorem sz39 : (Try.prog.info? 39).map (·.size) = some 1 := by kernel_rfl
theorem zr39 : (Try.prog.info? 39).map (·.zero) = some (some .nilFunc) := by kernel_rfl
theorem zc39 : (Try.prog.info? 39).map (fun i => i.zero.map Value.cells) = some (some #[.nilFunc]) := by kernel_rfl
theorem eo39 : elemOK Try.prog 39 1 8 = true := by kernel_rfl
theorem sz40 : (Try.prog.info? 40).map (·.size) = some 1 := by kernel_rfl
theorem zr40 : (Try.prog.info? 40).map (·.zero) = some (some .nilFunc) := by kernel_rfl
theorem zc40 : (Try.prog.info? 40).map (fun i => i.zero.map Value.cells) = some (some #[.nilFunc]) := by kernel_rfl
theorem eo40 : elemOK Try.prog 40 1 8 = true := by kernel_rfl
theorem sz41 : (Try.prog.info? 41).map (·.size) = some 1 := by kernel_rfl
theorem zr41 : (Try.prog.info? 41).map (·.zero) = some (some .nilFunc) := by kernel_rfl
theorem zc41 : (Try.prog.info? 41).map (fun i => i.zero.map Value.cells) = some (some #[.nilFunc]) := by kernel_rfl
theorem eo41 : elemOK Try.prog 41 1 8 = true := by kernel_rfl
theorem sz42 : (Try.prog.info? 42).map (·.size) = some 1 := by kernel_rfl
theorem zr42 : (Try.prog.info? 42).map (·.zero) = some (some (.int .u64 0)) := by kernel_rfl
theorem zc42 : (Try.prog.info? 42).map (fun i => i.zero.map Value.cells) = some (some #[(.int .u64 0)]) := by kernel_rfl
theorem eo42 : elemOK Try.prog 42 1 8 = true := by kernel_rfl
theorem sz43 : (Try.prog.info? 43).map (·.size) = some 3 := by kernel_rfl
theorem zr43 : (Try.prog.info? 43).map (·.zero) = some (some (.agg #[(.bool false), (.int .i64 0), (.int .u64 0)])) := by kernel_rfl
theorem zc43 : (Try.prog.info? 43).map (fun i => i.zero.map Value.cells) = some (some #[(.bool false), (.int .i64 0), (.int .u64 0)]) := by kernel_rfl
theorem eo43 : elemOK Try.prog 43 3 24 = true := by kernel_rfl
theorem fi43_0 : fieldInfo Try.prog 43 0 = some (0, 1) := by kernel_rfl
theorem fp43_0 : fieldPart Try.prog 43 0 = some (false, 0, 1) := by kernel_rfl
theorem fi43_1 : fieldInfo Try.prog 43 1 = some (1, 1) := by kernel_rfl
theorem fp43_1 : fieldPart Try.prog 43 1 = some (false, 1, 1) := by kernel_rfl
theorem fi43_2 : fieldInfo Try.prog 43 2 = some (2, 1) := by kernel_rfl
theorem fp43_2 : fieldPart Try.prog 43 2 = some (false, 2, 1) := by kernel_rfl
theorem pl43 : placesOf Try.prog 43 = some [(0, 1), (1, 1), (2, 1)] := by kernel_rfl
theorem sz44 : (Try.prog.info? 44).map (·.size) = some 3 := by kernel_rfl
theorem zr44 : (Try.prog.info? 44).map (·.zero) = some (some (.agg #[(.bool false), (.int .i64 0), (.int .u64 0)])) := by kernel_rfl
theorem zc44 : (Try.prog.info? 44).map (fun i => i.zero.map Value.cells) = some (some #[(.bool false), (.int .i64 0), (.int .u64 0)]) := by kernel_rfl
theorem eo44 : elemOK Try.prog 44 3 24 = true := by kernel_rfl
theorem fi44_0 : fieldInfo Try.prog 44 0 = some (0, 1) := by kernel_rfl
theorem fp44_0 : fieldPart Try.prog 44 0 = some (false, 0, 1) := by kernel_rfl
theorem fi44_1 : fieldInfo Try.prog 44 1 = some (1, 1) := by kernel_rfl
theorem fp44_1 : fieldPart Try.prog 44 1 = some (false, 1, 1) := by kernel_rfl
theorem fi44_2 : fieldInfo Try.prog 44 2 = some (2, 1) := by kernel_rfl
theorem fp44_2 : fieldPart Try.prog 44 2 = some (false, 2, 1) := by kernel_rfl
theorem pl44 : placesOf Try.prog 44 = some [(0, 1), (1, 1), (2, 1)] := by kernel_rfl
theorem sz45 : (Try.prog.info? 45).map (·.size) = some 11 := by kernel_rfl
theorem zr45 : (Try.prog.info? 45).map (·.zero) = some (some (.agg #[(.bool false), (.string ⟨#[]⟩), (.string ⟨#[]⟩), (.int .i64 0), (.int .i64 0), (.int .i64 0), (.int .i64 0), (.bool false), (.int .i64 0), (.int .u64 0), (.bool false)])) := by kernel_rfl
theorem zc45 : (Try.prog.info? 45).map (fun i => i.zero.map Value.cells) = some (some #[(.bool false), (.string ⟨#[]⟩), (.string ⟨#[]⟩), (.int .i64 0), (.int .i64 0), (.int .i64 0), (.int .i64 0), (.bool false), (.int .i64 0), (.int .u64 0), (.bool false)]) := by kernel_rfl
theorem eo45 : elemOK Try.prog 45 11 104 = true := by kernel_rfl
theorem fi45_0 : fieldInfo Try.prog 45 0 = some (0, 1) := by kernel_rfl
theorem fp45_0 : fieldPart Try.prog 45 0 = some (false, 0, 1) := by kernel_rfl
theorem fi45_1 : fieldInfo Try.prog 45 1 = some (1, 1) := by kernel_rfl
theorem fp45_1 : fieldPart Try.prog 45 1 = some (false, 1, 1) := by kernel_rfl
theorem fi45_2 : fieldInfo Try.prog 45 2 = some (2, 1) := by kernel_rfl
theorem fp45_2 : fieldPart Try.prog 45 2 = some (false, 2, 1) := by kernel_rfl
theorem fi45_3 : fieldInfo Try.prog 45 3 = some (3, 1) := by kernel_rfl
theorem fp45_3 : fieldPart Try.prog 45 3 = some (false, 3, 1) := by kernel_rfl
theorem fi45_4 : fieldInfo Try.prog 45 4 = some (4, 1) := by kernel_rfl
theorem fp45_4 : fieldPart Try.prog 45 4 = some (false, 4, 1) := by kernel_rfl
theorem fi45_5 : fieldInfo Try.prog 45 5 = some (5, 1) := by kernel_rfl
theorem fp45_5 : fieldPart Try.prog 45 5 = some (false, 5, 1) := by kernel_rfl
theorem fi45_6 : fieldInfo Try.prog 45 6 = some (6, 1) := by kernel_rfl
theorem fp45_6 : fieldPart Try.prog 45 6 = some (false, 6, 1) := by kernel_rfl
theorem fi45_7 : fieldInfo Try.prog 45 7 = some (7, 3) := by kernel_rfl
theorem fp45_7 : fieldPart Try.prog 45 7 = some (true, 7, 3) := by kernel_rfl
theorem fi45_8 : fieldInfo Try.prog 45 8 = some (10, 1) := by kernel_rfl
theorem fp45_8 : fieldPart Try.prog 45 8 = some (false, 10, 1) := by kernel_rfl
theorem pl45 : placesOf Try.prog 45 = some [(0, 1), (1, 1), (2, 1), (3, 1), (4, 1), (5, 1), (6, 1), (7, 3), (10, 1)] := by kernel_rfl
theorem sz46 : (Try.prog.info? 46).map (·.size) = some 11 := by kernel_rfl
theorem zr46 : (Try.prog.info? 46).map (·.zero) = some (some (.agg #[(.bool false), (.string ⟨#[]⟩), (.string ⟨#[]⟩), (.int .i64 0), (.int .i64 0), (.int .i64 0), (.int .i64 0), (.bool false), (.int .i64 0), (.int .u64 0), (.bool false)])) := by kernel_rfl
theorem zc46 : (Try.prog.info? 46).map (fun i => i.zero.map Value.cells) = some (some #[(.bool false), (.string ⟨#[]⟩), (.string ⟨#[]⟩), (.int .i64 0), (.int .i64 0), (.int .i64 0), (.int .i64 0), (.bool false), (.int .i64 0), (.int .u64 0), (.bool false)]) := by kernel_rfl
theorem eo46 : elemOK Try.prog 46 11 104 = true := by kernel_rfl
theorem fi46_0 : fieldInfo Try.prog 46 0 = some (0, 1) := by kernel_rfl
theorem fp46_0 : fieldPart Try.prog 46 0 = some (false, 0, 1) := by kernel_rfl
theorem fi46_1 : fieldInfo Try.prog 46 1 = some (1, 1) := by kernel_rfl
theorem fp46_1 : fieldPart Try.prog 46 1 = some (false, 1, 1) := by kernel_rfl
theorem fi46_2 : fieldInfo Try.prog 46 2 = some (2, 1) := by kernel_rfl
theorem fp46_2 : fieldPart Try.prog 46 2 = some (false, 2, 1) := by kernel_rfl
theorem fi46_3 : fieldInfo Try.prog 46 3 = some (3, 1) := by kernel_rfl
theorem fp46_3 : fieldPart Try.prog 46 3 = some (false, 3, 1) := by kernel_rfl
theorem fi46_4 : fieldInfo Try.prog 46 4 = some (4, 1) := by kernel_rfl
theorem fp46_4 : fieldPart Try.prog 46 4 = some (false, 4, 1) := by kernel_rfl
theorem fi46_5 : fieldInfo Try.prog 46 5 = some (5, 1) := by kernel_rfl
theorem fp46_5 : fieldPart Try.prog 46 5 = some (false, 5, 1) := by kernel_rfl
theorem fi46_6 : fieldInfo Try.prog 46 6 = some (6, 1) := by kernel_rfl
theorem fp46_6 : fieldPart Try.prog 46 6 = some (false, 6, 1) := by kernel_rfl
theorem fi46_7 : fieldInfo Try.prog 46 7 = some (7, 3) := by kernel_rfl
theorem fp46_7 : fieldPart Try.prog 46 7 = some (true, 7, 3) := by kernel_rfl
theorem fi46_8 : fieldInfo Try.prog 46 8 = some (10, 1) := by kernel_rfl
theorem fp46_8 : fieldPart Try.prog 46 8 = some (false, 10, 1) := by kernel_rfl
theorem pl46 : placesOf Try.prog 46 = some [(0, 1), (1, 1), (2, 1), (3, 1), (4, 1), (5, 1), (6, 1), (7, 3), (10, 1)] := by kernel_rfl
theorem sz47 : (Try.prog.info? 47).map (·.size) = some 1 := by kernel_rfl
theorem sz48 : (Try.prog.info? 48).map (·.size) = some 1 := by kernel_rfl
theorem zr48 : (Try.prog.info? 48).map (·.zero) = some (some .nilFunc) := by kernel_rfl
theorem zc48 : (Try.prog.info? 48).map (fun i => i.zero.map Value.cells) = some (some #[.nilFunc]) := by kernel_rfl
theorem eo48 : elemOK Try.prog 48 1 8 = true := by kernel_rfl
theorem sz49 : (Try.prog.info? 49).map (·.size) = some 1 := by kernel_rfl
theorem zr49 : (Try.prog.info? 49).map (·.zero) = some (some .nilFunc) := by kernel_rfl
theorem zc49 : (Try.prog.info? 49).map (fun i => i.zero.map Value.cells) = some (some #[.nilFunc]) := by kernel_rfl
theorem eo49 : elemOK Try.prog 49 1 8 = true := by kernel_rfl
theorem sz50 : (Try.prog.info? 50).map (·.size) = some 1 := by kernel_rfl
theorem zr50 : (Try.prog.info? 50).map (·.zero) = some (some (.slice none 0 0)) := by kernel_rfl
theorem zc50 : (Try.prog.info? 50).map (fun i => i.zero.map Value.cells) = some (some #[(.slice none 0 0)]) := by kernel_rfl
theorem eo50 : elemOK Try.prog 50 1 24 = true := by kernel_rfl
theorem sz51 : (Try.prog.info? 51).map (·.size) = some 1 := by kernel_rfl
theorem sz52 : (Try.prog.info? 52).map (·.size) = some 1 := by kernel_rfl
theorem zr52 : (Try.prog.info? 52).map (·.zero) = some (some .nilFunc) := by kernel_rfl
theorem zc52 : (Try.prog.info? 52).map (fun i => i.zero.map Value.cells) = some (some #[.nilFunc]) := by kernel_rfl
theorem eo52 : elemOK Try.prog 52 1 8 = true := by kernel_rfl
theorem sz53 : (Try.prog.info? 53).map (·.size) = some 1 := by kernel_rfl
theorem zr53 : (Try.prog.info? 53).map (·.zero) = some (some .nilFunc) := by kernel_rfl
theorem zc53 : (Try.prog.info? 53).map (fun i => i.zero.map Value.cells) = some (some #[.nilFunc]) := by kernel_rfl
theorem eo53 : elemOK Try.prog 53 1 8 = true := by kernel_rfl
theorem sz54 : (Try.prog.info? 54).map (·.size) = some 1 := by kernel_rfl
theorem zr54 : (Try.prog.info? 54).map (·.zero) = some (some .nilFunc) := by kernel_rfl
theorem zc54 : (Try.prog.info? 54).map (fun i => i.zero.map Value.cells) = some (some #[.nilFunc]) := by kernel_rfl
theorem eo54 : elemOK Try.prog 54 1 8 = true := by kernel_rfl
theorem sz55 : (Try.prog.info? 55).map (·.size) = some 1 := by kernel_rfl
theorem zr55 : (Try.prog.info? 55).map (·.zero) = some (some .nilFunc) := by kernel_rfl
theorem zc55 : (Try.prog.info? 55).map (fun i => i.zero.map Value.cells) = some (some #[.nilFunc]) := by kernel_rfl
theorem eo55 : elemOK Try.prog 55 1 8 = true := by kernel_rfl
theorem sz56 : (Try.prog.info? 56).map (·.size) = some 1 := by kernel_rfl
theorem zr56 : (Try.prog.info? 56).map (·.zero) = some (some .nilFunc) := by kernel_rfl
theorem zc56 : (Try.prog.info? 56).map (fun i => i.zero.map Value.cells) = some (some #[.nilFunc]) := by kernel_rfl
theorem eo56 : elemOK Try.prog 56 1 8 = true := by kernel_rfl
theorem sz57 : (Try.prog.info? 57).map (·.size) = some 5 := by kernel_rfl
theorem zr57 : (Try.prog.info? 57).map (·.zero) = some (some (.agg #[(.int .i64 0), (.int .i64 0), (.int .i64 0), (.int .i64 0), (.slice none 0 0)])) := by kernel_rfl
theorem zc57 : (Try.prog.info? 57).map (fun i => i.zero.map Value.cells) = some (some #[(.int .i64 0), (.int .i64 0), (.int .i64 0), (.int .i64 0), (.slice none 0 0)]) := by kernel_rfl
theorem eo57 : elemOK Try.prog 57 5 56 = true := by kernel_rfl
theorem fi57_0 : fieldInfo Try.prog 57 0 = some (0, 1) := by kernel_rfl
theorem fp57_0 : fieldPart Try.prog 57 0 = some (false, 0, 1) := by kernel_rfl
theorem fi57_1 : fieldInfo Try.prog 57 1 = some (1, 1) := by kernel_rfl
theorem fp57_1 : fieldPart Try.prog 57 1 = some (false, 1, 1) := by kernel_rfl
theorem fi57_2 : fieldInfo Try.prog 57 2 = some (2, 1) := by kernel_rfl
theorem fp57_2 : fieldPart Try.prog 57 2 = some (false, 2, 1) := by kernel_rfl
theorem fi57_3 : fieldInfo Try.prog 57 3 = some (3, 1) := by kernel_rfl
theorem fp57_3 : fieldPart Try.prog 57 3 = some (false, 3, 1) := by kernel_rfl
theorem fi57_4 : fieldInfo Try.prog 57 4 = some (4, 1) := by kernel_rfl
theorem fp57_4 : fieldPart Try.prog 57 4 = some (false, 4, 1) := by kernel_rfl
theorem pl57 : placesOf Try.prog 57 = some [(0, 1), (1, 1), (2, 1), (3, 1), (4, 1)] := by kernel_rfl
theorem sz58 : (Try.prog.info? 58).map (·.size) = some 5 := by kernel_rfl
theorem zr58 : (Try.prog.info? 58).map (·.zero) = some (some (.agg #[(.int .i64 0), (.int .i64 0), (.int .i64 0), (.int .i64 0), (.slice none 0 0)])) := by kernel_rfl
theorem zc58 : (Try.prog.info? 58).map (fun i => i.zero.map Value.cells) = some (some #[(.int .i64 0), (.int .i64 0), (.int .i64 0), (.int .i64 0), (.slice none 0 0)]) := by kernel_rfl
theorem eo58 : elemOK Try.prog 58 5 56 = true := by kernel_rfl
theorem fi58_0 : fieldInfo Try.prog 58 0 = some (0, 1) := by kernel_rfl
theorem fp58_0 : fieldPart Try.prog 58 0 = some (false, 0, 1) := by kernel_rfl
theorem fi58_1 : fieldInfo Try.prog 58 1 = some (1, 1) := by kernel_rfl
theorem fp58_1 : fieldPart Try.prog 58 1 = some (false, 1, 1) := by kernel_rfl
theorem fi58_2 : fieldInfo Try.prog 58 2 = some (2, 1) := by kernel_rfl
theorem fp58_2 : fieldPart Try.prog 58 2 = some (false, 2, 1) := by kernel_rfl
theorem fi58_3 : fieldInfo Try.prog 58 3 = some (3, 1) := by kernel_rfl
theorem fp58_3 : fieldPart Try.prog 58 3 = some (false, 3, 1) := by kernel_rfl
theorem fi58_4 : fieldInfo Try.prog 58 4 = some (4, 1) := by kernel_rfl
theorem fp58_4 : fieldPart Try.prog 58 4 = some (false, 4, 1) := by kernel_rfl
theorem pl58 : placesOf Try.prog 58 = some [(0, 1), (1, 1), (2, 1), (3, 1), (4, 1)] := by kernel_rfl
theorem sz59 : (Try.prog.info? 59).map (·.size) = some 1 := by kernel_rfl
theorem sz60 : (Try.prog.info? 60).map (·.size) = some 1 := by kernel_rfl
theorem zr60 : (Try.prog.info? 60).map (·.zero) = some (some .nilFunc) := by kernel_rfl
theorem zc60 : (Try.prog.info? 60).map (fun i => i.zero.map Value.cells) = some (some #[.nilFunc]) := by kernel_rfl
theorem eo60 : elemOK Try.prog 60 1 8 = true := by kernel_rfl
theorem sz61 : (Try.prog.info? 61).map (·.size) = some 1 := by kernel_rfl
theorem zr61 : (Try.prog.info? 61).map (·.zero) = some (some .nilFunc) := by kernel_rfl
theorem zc61 : (Try.prog.info? 61).map (fun i => i.zero.map Value.cells) = some (some #[.nilFunc]) := by kernel_rfl
theorem eo61 : elemOK Try.prog 61 1 8 = true := by kernel_rfl
theorem sz62 : (Try.prog.info? 62).map (·.size) = some 1 := by kernel_rfl
theorem zr62 : (Try.prog.info? 62).map (·.zero) = some (some .nilFunc) := by kernel_rfl
theorem zc62 : (Try.prog.info? 62).map (fun i => i.zero.map Value.cells) = some (some #[.nilFunc]) := by kernel_rfl
theorem eo62 : elemOK Try.prog 62 1 8 = true := by kernel_rfl
theorem sz63 : (Try.prog.info? 63).map (·.size) = some 5 := by kernel_rfl
theorem zr63 : (Try.prog.info? 63).map (·.zero) = some (some (.agg #[(.bool false), (.int .i64 0), (.string ⟨#[]⟩), (.int .i64 0), (.int .i64 0)])) := by kernel_rfl
theorem zc63 : (Try.prog.info? 63).map (fun i => i.zero.map Value.cells) = some (some #[(.bool false), (.int .i64 0), (.string ⟨#[]⟩), (.int .i64 0), (.int .i64 0)]) := by kernel_rfl
theorem eo63 : elemOK Try.prog 63 5 48 = true := by kernel_rfl
theorem fi63_0 : fieldInfo Try.prog 63 0 = some (0, 1) := by kernel_rfl
theorem fp63_0 : fieldPart Try.prog 63 0 = some (false, 0, 1) := by kernel_rfl
theorem fi63_1 : fieldInfo Try.prog 63 1 = some (1, 1) := by kernel_rfl
theorem fp63_1 : fieldPart Try.prog 63 1 = some (false, 1, 1) := by kernel_rfl
theorem fi63_2 : fieldInfo Try.prog 63 2 = some (2, 1) := by kernel_rfl
theorem fp63_2 : fieldPart Try.prog 63 2 = some (false, 2, 1) := by kernel_rfl
theorem fi63_3 : fieldInfo Try.prog 63 3 = some (3, 1) := by kernel_rfl
theorem fp63_3 : fieldPart Try.prog 63 3 = some (false, 3, 1) := by kernel_rfl
theorem fi63_4 : fieldInfo Try.prog 63 4 = some (4, 1) := by kernel_rfl
theorem fp63_4 : fieldPart Try.prog 63 4 = some (false, 4, 1) := by kernel_rfl
theorem pl63 : placesOf Try.prog 63 = some [(0, 1), (1, 1), (2, 1), (3, 1), (4, 1)] := by kernel_rfl
theorem sz64 : (Try.prog.info? 64).map (·.size) = some 5 := by kernel_rfl
theorem zr64 : (Try.prog.info? 64).map (·.zero) = some (some (.agg #[(.bool false), (.int .i64 0), (.string ⟨#[]⟩), (.int .i64 0), (.int .i64 0)])) := by kernel_rfl
theorem zc64 : (Try.prog.info? 64).map (fun i => i.zero.map Value.cells) = some (some #[(.bool false), (.int .i64 0), (.string ⟨#[]⟩), (.int .i64 0), (.int .i64 0)]) := by kernel_rfl
theorem eo64 : elemOK Try.prog 64 5 48 = true := by kernel_rfl
theorem fi64_0 : fieldInfo Try.prog 64 0 = some (0, 1) := by kernel_rfl
theorem fp64_0 : fieldPart Try.prog 64 0 = some (false, 0, 1) := by kernel_rfl
theorem fi64_1 : fieldInfo Try.prog 64 1 = some (1, 1) := by kernel_rfl
theorem fp64_1 : fieldPart Try.prog 64 1 = some (false, 1, 1) := by kernel_rfl
theorem fi64_2 : fieldInfo Try.prog 64 2 = some (2, 1) := by kernel_rfl
theorem fp64_2 : fieldPart Try.prog 64 2 = some (false, 2, 1) := by kernel_rfl
theorem fi64_3 : fieldInfo Try.prog 64 3 = some (3, 1) := by kernel_rfl
theorem fp64_3 : fieldPart Try.prog 64 3 = some (false, 3, 1) := by kernel_rfl
theorem fi64_4 : fieldInfo Try.prog 64 4 = some (4, 1) := by kernel_rfl
theorem fp64_4 : fieldPart Try.prog 64 4 = some (false, 4, 1) := by kernel_rfl
theorem pl64 : placesOf Try.prog 64 = some [(0, 1), (1, 1), (2, 1), (3, 1), (4, 1)] := by kernel_rfl
theorem sz65 : (Try.prog.info? 65).map (·.size) = some 1 := by kernel_rfl
theorem zr65 : (Try.prog.info? 65).map (·.zero) = some (some .nilFunc) := by kernel_rfl
theorem zc65 : (Try.prog.info? 65).map (fun i => i.zero.map Value.cells) = some (some #[.nilFunc]) := by kernel_rfl
theorem eo65 : elemOK Try.prog 65 1 8 = true := by kernel_rfl
theorem sz66 : (Try.prog.info? 66).map (·.size) = some 1 := by kernel_rfl
theorem zr66 : (Try.prog.info? 66).map (·.zero) = some (some .nilFunc) := by kernel_rfl
theorem zc66 : (Try.prog.info? 66).map (fun i => i.zero.map Value.cells) = some (some #[.nilFunc]) := by kernel_rfl
theorem eo66 : elemOK Try.prog 66 1 8 = true := by kernel_rfl
theorem sz67 : (Try.prog.info? 67).map (·.size) = some 1 := by kernel_rfl
theorem zr67 : (Try.prog.info? 67).map (·.zero) = some (some .nilFunc) := by kernel_rfl
theorem zc67 : (Try.prog.info? 67).map (fun i => i.zero.map Value.cells) = some (some #[.nilFunc]) := by kernel_rfl
theorem eo67 : elemOK Try.prog 67 1 8 = true := by kernel_rfl
theorem sz68 : (Try.prog.info? 68).map (·.size) = some 1 := by kernel_rfl
theorem sz69 : (Try.prog.info? 69).map (·.size) = some 1 := by kernel_rfl
theorem zr69 : (Try.prog.info? 69).map (·.zero) = some (some .nilFunc) := by kernel_rfl
theorem zc69 : (Try.prog.info? 69).map (fun i => i.zero.map Value.cells) = some (some #[.nilFunc]) := by kernel_rfl
theorem eo69 : elemOK Try.prog 69 1 8 = true := by kernel_rfl
theorem sz70 : (Try.prog.info? 70).map (·.size) = some 1 := by kernel_rfl
theorem zr70 : (Try.prog.info? 70).map (·.zero) = some (some .nilFunc) := by kernel_rfl
theorem zc70 : (Try.prog.info? 70).map (fun i => i.zero.map Value.cells) = some (some #[.nilFunc]) := by kernel_rfl
theorem eo70 : elemOK Try.prog 70 1 8 = true := by kernel_rfl
theorem sz71 : (Try.prog.info? 71).map (·.size) = some 4 := by kernel_rfl
theorem zr71 : (Try.prog.info? 71).map (·.zero) = some (some (.agg #[(.int .u32 0), (.int .i64 0), (.string ⟨#[]⟩), (.int .i64 0)])) := by kernel_rfl
theorem zc71 : (Try.prog.info? 71).map (fun i => i.zero.map Value.cells) = some (some #[(.int .u32 0), (.int .i64 0), (.string ⟨#[]⟩), (.int .i64 0)]) := by kernel_rfl
theorem eo71 : elemOK Try.prog 71 4 40 = true := by kernel_rfl
theorem fi71_0 : fieldInfo Try.prog 71 0 = some (0, 2) := by kernel_rfl
theorem fp71_0 : fieldPart Try.prog 71 0 = some (true, 0, 2) := by kernel_rfl
theorem fi71_1 : fieldInfo Try.prog 71 1 = some (2, 1) := by kernel_rfl
theorem fp71_1 : fieldPart Try.prog 71 1 = some (false, 2, 1) := by kernel_rfl
theorem fi71_2 : fieldInfo Try.prog 71 2 = some (3, 1) := by kernel_rfl
theorem fp71_2 : fieldPart Try.prog 71 2 = some (false, 3, 1) := by kernel_rfl
theorem pl71 : placesOf Try.prog 71 = some [(0, 2), (2, 1), (3, 1)] := by kernel_rfl
theorem sz72 : (Try.prog.info? 72).map (·.size) = some 4 := by kernel_rfl
theorem zr72 : (Try.prog.info? 72).map (·.zero) = some (some (.agg #[(.int .u32 0), (.int .i64 0), (.string ⟨#[]⟩), (.int .i64 0)])) := by kernel_rfl
theorem zc72 : (Try.prog.info? 72).map (fun i => i.zero.map Value.cells) = some (some #[(.int .u32 0), (.int .i64 0), (.string ⟨#[]⟩), (.int .i64 0)]) := by kernel_rfl
theorem eo72 : elemOK Try.prog 72 4 40 = true := by kernel_rfl
theorem fi72_0 : fieldInfo Try.prog 72 0 = some (0, 2) := by kernel_rfl
theorem fp72_0 : fieldPart Try.prog 72 0 = some (true, 0, 2) := by kernel_rfl
theorem fi72_1 : fieldInfo Try.prog 72 1 = some (2, 1) := by kernel_rfl
theorem fp72_1 : fieldPart Try.prog 72 1 = some (false, 2, 1) := by kernel_rfl
theorem fi72_2 : fieldInfo Try.prog 72 2 = some (3, 1) := by kernel_rfl
theorem fp72_2 : fieldPart Try.prog 72 2 = some (false, 3, 1) := by kernel_rfl
theorem pl72 : placesOf Try.prog 72 = some [(0, 2), (2, 1), (3, 1)] := by kernel_rfl
theorem sz73 : (Try.prog.info? 73).map (·.size) = some 1 := by kernel_rfl
theorem zr73 : (Try.prog.info? 73).map (·.zero) = some (some .nilFunc) := by kernel_rfl
theorem zc73 : (Try.prog.info? 73).map (fun i => i.zero.map Value.cells) = some (some #[.nilFunc]) := by kernel_rfl
theorem eo73 : elemOK Try.prog 73 1 8 = true := by kernel_rfl
theorem sz74 : (Try.prog.info? 74).map (·.size) = some 1 := by kernel_rfl
theorem zr74 : (Try.prog.info? 74).map (·.zero) = some (some (.pointer none)) := by kernel_rfl
theorem zc74 : (Try.prog.info? 74).map (fun i => i.zero.map Value.cells) = some (some #[(.pointer none)]) := by kernel_rfl
theorem eo74 : elemOK Try.prog 74 1 8 = true := by kernel_rfl
theorem sz75 : (Try.prog.info? 75).map (·.size) = some 1 := by kernel_rfl
theorem sz76 : (Try.prog.info? 76).map (·.size) = some 1 := by kernel_rfl
theorem zr76 : (Try.prog.info? 76).map (·.zero) = some (some .nilFunc) := by kernel_rfl
theorem zc76 : (Try.prog.info? 76).map (fun i => i.zero.map Value.cells) = some (some #[.nilFunc]) := by kernel_rfl
theorem eo76 : elemOK Try.prog 76 1 8 = true := by kernel_rfl
theorem sz77 : (Try.prog.info? 77).map (·.size) = some 1 := by kernel_rfl
theorem zr77 : (Try.prog.info? 77).map (·.zero) = some (some .nilFunc) := by kernel_rfl
theorem zc77 : (Try.prog.info? 77).map (fun i => i.zero.map Value.cells) = some (some #[.nilFunc]) := by kernel_rfl
theorem eo77 : elemOK Try.prog 77 1 8 = true := by kernel_rfl
theorem sz78 : (Try.prog.info? 78).map (·.size) = some 1 := by kernel_rfl
theorem zr78 : (Try.prog.info? 78).map (·.zero) = some (some .nilFunc) := by kernel_rfl
theorem zc78 : (Try.prog.info? 78).map (fun i => i.zero.map Value.cells) = some (some #[.nilFunc]) := by kernel_rfl
theorem eo78 : elemOK Try.prog 78 1 8 = true := by kernel_rfl
theorem sz79 : (Try.prog.info? 79).map (·.size) = some 1 := by kernel_rfl
theorem zr79 : (Try.prog.info? 79).map (·.zero) = some (some .nilFunc) := by kernel_rfl
theorem zc79 : (Try.prog.info? 79).map (fun i => i.zero.map Value.cells) = some (some #[.nilFunc]) := by kernel_rfl
theorem eo79 : elemOK Try.prog 79 1 8 = true := by kernel_rfl
theorem sz80 : (Try.prog.info? 80).map (·.size) = some 2 := by kernel_rfl
theorem zr80 : (Try.prog.info? 80).map (·.zero) = some (some (.agg #[(.pointer none), (.pointer none)])) := by kernel_rfl
theorem zc80 : (Try.prog.info? 80).map (fun i => i.zero.map Value.cells) = some (some #[(.pointer none), (.pointer none)]) := by kernel_rfl
theorem eo80 : elemOK Try.prog 80 2 16 = true := by kernel_rfl
theorem sz81 : (Try.prog.info? 81).map (·.size) = some 5 := by kernel_rfl
theorem zr81 : (Try.prog.info? 81).map (·.zero) = some (some (.agg #[(.int .u32 0), (.int .i64 0), (.string ⟨#[]⟩), (.pointer none), (.pointer none)])) := by kernel_rfl
theorem zc81 : (Try.prog.info? 81).map (fun i => i.zero.map Value.cells) = some (some #[(.int .u32 0), (.int .i64 0), (.string ⟨#[]⟩), (.pointer none), (.pointer none)]) := by kernel_rfl
theorem eo81 : elemOK Try.prog 81 5 48 = true := by kernel_rfl
theorem fi81_0 : fieldInfo Try.prog 81 0 = some (0, 2) := by kernel_rfl
theorem fp81_0 : fieldPart Try.prog 81 0 = some (true, 0, 2) := by kernel_rfl
theorem fi81_1 : fieldInfo Try.prog 81 1 = some (2, 1) := by kernel_rfl
theorem fp81_1 : fieldPart Try.prog 81 1 = some (false, 2, 1) := by kernel_rfl
theorem fi81_2 : fieldInfo Try.prog 81 2 = some (3, 2) := by kernel_rfl
theorem fp81_2 : fieldPart Try.prog 81 2 = some (true, 3, 2) := by kernel_rfl
theorem pl81 : placesOf Try.prog 81 = some [(0, 2), (2, 1), (3, 2)] := by kernel_rfl
theorem sz82 : (Try.prog.info? 82).map (·.size) = some 5 := by kernel_rfl
theorem zr82 : (Try.prog.info? 82).map (·.zero) = some (some (.agg #[(.int .u32 0), (.int .i64 0), (.string ⟨#[]⟩), (.pointer none), (.pointer none)])) := by kernel_rfl
theorem zc82 : (Try.prog.info? 82).map (fun i => i.zero.map Value.cells) = some (some #[(.int .u32 0), (.int .i64 0), (.string ⟨#[]⟩), (.pointer none), (.pointer none)]) := by kernel_rfl
theorem eo82 : elemOK Try.prog 82 5 48 = true := by kernel_rfl
theorem fi82_0 : fieldInfo Try.prog 82 0 = some (0, 2) := by kernel_rfl
theorem fp82_0 : fieldPart Try.prog 82 0 = some (true, 0, 2) := by kernel_rfl
theorem fi82_1 : fieldInfo Try.prog 82 1 = some (2, 1) := by kernel_rfl
theorem fp82_1 : fieldPart Try.prog 82 1 = some (false, 2, 1) := by kernel_rfl
theorem fi82_2 : fieldInfo Try.prog 82 2 = some (3, 2) := by kernel_rfl
theorem fp82_2 : fieldPart Try.prog 82 2 = some (true, 3, 2) := by kernel_rfl
theorem pl82 : placesOf Try.prog 82 = some [(0, 2), (2, 1), (3, 2)] := by kernel_rfl
theorem sz83 : (Try.prog.info? 83).map (·.size) = some 1 := by kernel_rfl
theorem zr83 : (Try.prog.info? 83).map (·.zero) = some (some .nilFunc) := by kernel_rfl
theorem zc83 : (Try.prog.info? 83).map (fun i => i.zero.map Value.cells) = some (some #[.nilFunc]) := by kernel_rfl
theorem eo83 : elemOK Try.prog 83 1 8 = true := by kernel_rfl
theorem sz84 : (Try.prog.info? 84).map (·.size) = some 1 := by kernel_rfl
theorem zr84 : (Try.prog.info? 84).map (·.zero) = some (some .nilFunc) := by kernel_rfl
theorem zc84 : (Try.prog.info? 84).map (fun i => i.zero.map Value.cells) = some (some #[.nilFunc]) := by kernel_rfl
theorem eo84 : elemOK Try.prog 84 1 8 = true := by kernel_rfl
theorem sz85 : (Try.prog.info? 85).map (·.size) = some 1 := by kernel_rfl
theorem zr85 : (Try.prog.info? 85).map (·.zero) = some (some .nilFunc) := by kernel_rfl
theorem zc85 : (Try.prog.info? 85).map (fun i => i.zero.map Value.cells) = some (some #[.nilFunc]) := by kernel_rfl
theorem eo85 : elemOK Try.prog 85 1 8 = true := by kernel_rfl
theorem sz86 : (Try.prog.info? 86).map (·.size) = some 1 := by kernel_rfl
theorem zr86 : (Try.prog.info? 86).map (·.zero) = some (some .nilFunc) := by kernel_rfl
theorem zc86 : (Try.prog.info? 86).map (fun i => i.zero.map Value.cells) = some (some #[.nilFunc]) := by kernel_rfl
theorem eo86 : elemOK Try.prog 86 1 8 = true := by kernel_rfl
theorem sz87 : (Try.prog.info? 87).map (·.size) = some 1 := by kernel_rfl
theorem zr87 : (Try.prog.info? 87).map (·.zero) = some (some .nilFunc) := by kernel_rfl
theorem zc87 : (Try.prog.info? 87).map (fun i => i.zero.map Value.cells) = some (some #[.nilFunc]) := by kernel_rfl
theorem eo87 : elemOK Try.prog 87 1 8 = true := by kernel_rfl
theorem sz88 : (Try.prog.info? 88).map (·.size) = some 1 := by kernel_rfl
theorem zr88 : (Try.prog.info? 88).map (·.zero) = some (some .nilFunc) := by kernel_rfl
theorem zc88 : (Try.prog.info? 88).map (fun i => i.zero.map Value.cells) = some (some #[.nilFunc]) := by kernel_rfl
theorem eo88 : elemOK Try.prog 88 1 8 = true := by kernel_rfl
theorem sz89 : (Try.prog.info? 89).map (·.size) = some 1 := by kernel_rfl
theorem zr89 : (Try.prog.info? 89).map (·.zero) = some (some .nilFunc) := by kernel_rfl
theorem zc89 : (Try.prog.info? 89).map (fun i => i.zero.map Value.cells) = some (some #[.nilFunc]) := by kernel_rfl
theorem eo89 : elemOK Try.prog 89 1 8 = true := by kernel_rfl
theorem sz90 : (Try.prog.info? 90).map (·.size) = some 1 := by kernel_rfl
theorem zr90 : (Try.prog.info? 90).map (·.zero) = some (some .nilFunc) := by kernel_rfl
theorem zc90 : (Try.prog.info? 90).map (fun i => i.zero.map Value.cells) = some (some #[.nilFunc]) := by kernel_rfl
theorem eo90 : elemOK Try.prog 90 1 8 = true := by kernel_rfl
theorem sz91 : (Try.prog.info? 91).map (·.size) = some 1 := by kernel_rfl
theorem zr91 : (Try.prog.info? 91).map (·.zero) = some (some .nilFunc) := by kernel_rfl
theorem zc91 : (Try.prog.info? 91).map (fun i => i.zero.map Value.cells) = some (some #[.nilFunc]) := by kernel_rfl
theorem eo91 : elemOK Try.prog 91 1 8 = true := by kernel_rfl
theorem sz92 : (Try.prog.info? 92).map (·.size) = some 1 := by kernel_rfl
theorem zr92 : (Try.prog.info? 92).map (·.zero) = some (some .nilFunc) := by kernel_rfl
theorem zc92 : (Try.prog.info? 92).map (fun i => i.zero.map Value.cells) = some (some #[.nilFunc]) := by kernel_rfl
theorem eo92 : elemOK Try.prog 92 1 8 = true := by kernel_rfl
theorem sz93 : (Try.prog.info? 93).map (·.size) = some 1 := by kernel_rfl
theorem zr93 : (Try.prog.info? 93).map (·.zero) = some (some .nilFunc) := by kernel_rfl
theorem zc93 : (Try.prog.info? 93).map (fun i => i.zero.map Value.cells) = some (some #[.nilFunc]) := by kernel_rfl
theorem eo93 : elemOK Try.prog 93 1 8 = true := by kernel_rfl
theorem sz94 : (Try.prog.info? 94).map (·.size) = some 1 := by kernel_rfl
theorem zr94 : (Try.prog.info? 94).map (·.zero) = some (some (.map none)) := by kernel_rfl
theorem zc94 : (Try.prog.info? 94).map (fun i => i.zero.map Value.cells) = some (some #[(.map none)]) := by kernel_rfl
theorem eo94 : elemOK Try.prog 94 1 8 = true := by kernel_rfl
theorem sz95 : (Try.prog.info? 95).map (·.size) = some 1 := by kernel_rfl
theorem zr95 : (Try.prog.info? 95).map (·.zero) = some (some .nilFunc) := by kernel_rfl
theorem zc95 : (Try.prog.info? 95).map (fun i => i.zero.map Value.cells) = some (some #[.nilFunc]) := by kernel_rfl
theorem eo95 : elemOK Try.prog 95 1 8 = true := by kernel_rfl
theorem sz96 : (Try.prog.info? 96).map (·.size) = some 1 := by kernel_rfl
theorem sz97 : (Try.prog.info? 97).map (·.size) = some 1 := by kernel_rfl
theorem zr97 : (Try.prog.info? 97).map (·.zero) = some (some .nilFunc) := by kernel_rfl
theorem zc97 : (Try.prog.info? 97).map (fun i => i.zero.map Value.cells) = some (some #[.nilFunc]) := by kernel_rfl
theorem eo97 : elemOK Try.prog 97 1 8 = true := by kernel_rfl
theorem sz98 : (Try.prog.info? 98).map (·.size) = some 1 := by kernel_rfl
theorem sz99 : (Try.prog.info? 99).map (·.size) = some 1 := by kernel_rfl
theorem zr99 : (Try.prog.info? 99).map (·.zero) = some (some .nilFunc) := by kernel_rfl
theorem zc99 : (Try.prog.info? 99).map (fun i => i.zero.map Value.cells) = some (some #[.nilFunc]) := by kernel_rfl
theorem eo99 : elemOK Try.prog 99 1 8 = true := by kernel_rfl
theorem sz100 : (Try.prog.info? 100).map (·.size) = some 1 := by kernel_rfl
theorem zr100 : (Try.prog.info? 100).map (·.zero) = some (some .nilFunc) := by kernel_rfl
theorem zc100 : (Try.prog.info? 100).map (fun i => i.zero.map Value.cells) = some (some #[.nilFunc]) := by kernel_rfl
theorem eo100 : elemOK Try.prog 100 1 8 = true := by kernel_rfl
theorem sz101 : (Try.prog.info? 101).map (·.size) = some 1 := by kernel_rfl
theorem zr101 : (Try.prog.info? 101).map (·.zero) = some (some .nilFunc) := by kernel_rfl
theorem zc101 : (Try.prog.info? 101).map (fun i => i.zero.map Value.cells) = some (some #[.nilFunc]) := by kernel_rfl
theorem eo101 : elemOK Try.prog 101 1 8 = true := by kernel_rfl
theorem sz102 : (Try.prog.info? 102).map (·.size) = some 1 := by kernel_rfl
theorem zr102 : (Try.prog.info? 102).map (·.zero) = some (some .nilFunc) := by kernel_rfl
theorem zc102 : (Try.prog.info? 102).map (fun i => i.zero.map Value.cells) = some (some #[.nilFunc]) := by kernel_rfl
theorem eo102 : elemOK Try.prog 102 1 8 = true := by kernel_rfl
theorem sz103 : (Try.prog.info? 103).map (·.size) = some 1 := by kernel_rfl
theorem zr103 : (Try.prog.info? 103).map (·.zero) = some (some .nilFunc) := by kernel_rfl
theorem zc103 : (Try.prog.info? 103).map (fun i => i.zero.map Value.cells) = some (some #[.nilFunc]) := by kernel_rfl
theorem eo103 : elemOK Try.prog 103 1 8 = true := by kernel_rfl
theorem sz104 : (Try.prog.info? 104).map (·.size) = some 1 := by kernel_rfl
theorem zr104 : (Try.prog.info? 104).map (·.zero) = some (some .nilFunc) := by kernel_rfl
theorem zc104 : (Try.prog.info? 104).map (fun i => i.zero.map Value.cells) = some (some #[.nilFunc]) := by kernel_rfl
theorem eo104 : elemOK Try.prog 104 1 8 = true := by kernel_rfl
theorem sz105 : (Try.prog.info? 105).map (·.size) = some 1 := by kernel_rfl
theorem zr105 : (Try.prog.info? 105).map (·.zero) = some (some (.slice none 0 0)) := by kernel_rfl
theorem zc105 : (Try.prog.info? 105).map (fun i => i.zero.map Value.cells) = some (some #[(.slice none 0 0)]) := by kernel_rfl
theorem eo105 : elemOK Try.prog 105 1 24 = true := by kernel_rfl
theorem sz106 : (Try.prog.info? 106).map (·.size) = some 1 := by kernel_rfl
theorem zr106 : (Try.prog.info? 106).map (·.zero) = some (some .nilFunc) := by kernel_rfl
theorem zc106 : (Try.prog.info? 106).map (fun i => i.zero.map Value.cells) = some (some #[.nilFunc]) := by kernel_rfl
theorem eo106 : elemOK Try.prog 106 1 8 = true := by kernel_rfl
theorem sz107 : (Try.prog.info? 107).map (·.size) = some 1 := by kernel_rfl
theorem zr107 : (Try.prog.info? 107).map (·.zero) = some (some .nilFunc) := by kernel_rfl
theorem zc107 : (Try.prog.info? 107).map (fun i => i.zero.map Value.cells) = some (some #[.nilFunc]) := by kernel_rfl
theorem eo107 : elemOK Try.prog 107 1 8 = true := by kernel_rfl
theorem sz108 : (Try.prog.info? 108).map (·.size) = some 1 := by kernel_rfl
theorem zr108 : (Try.prog.info? 108).map (·.zero) = some (some .nilFunc) := by kernel_rfl
theorem zc108 : (Try.prog.info? 108).map (fun i => i.zero.map Value.cells) = some (some #[.nilFunc]) := by kernel_rfl
theorem eo108 : elemOK Try.prog 108 1 8 = true := by kernel_rfl
theorem sz109 : (Try.prog.info? 109).map (·.size) = some 1 := by kernel_rfl
theorem zr109 : (Try.prog.info? 109).map (·.zero) = some (some .nilFunc) := by kernel_rfl
theorem zc109 : (Try.prog.info? 109).map (fun i => i.zero.map Value.cells) = some (some #[.nilFunc]) := by kernel_rfl
theorem eo109 : elemOK Try.prog 109 1 8 = true := by kernel_rfl
theorem sz110 : (Try.prog.info? 110).map (·.size) = some 1 := by kernel_rfl
theorem zr110 : (Try.prog.info? 110).map (·.zero) = some (some .nilFunc) := by kernel_rfl
theorem zc110 : (Try.prog.info? 110).map (fun i => i.zero.map Value.cells) = some (some #[.nilFunc]) := by kernel_rfl
theorem eo110 : elemOK Try.prog 110 1 8 = true := by kernel_rfl
theorem sz111 : (Try.prog.info? 111).map (·.size) = some 1 := by kernel_rfl
theorem zr111 : (Try.prog.info? 111).map (·.zero) = some (some .nilFunc) := by kernel_rfl
theorem zc111 : (Try.prog.info? 111).map (fun i => i.zero.map Value.cells) = some (some #[.nilFunc]) := by kernel_rfl
theorem eo111 : elemOK Try.prog 111 1 8 = true := by kernel_rfl
theorem sz112 : (Try.prog.info? 112).map (·.size) = some 1 := by kernel_rfl
theorem zr112 : (Try.prog.info? 112).map (·.zero) = some (some .nilFunc) := by kernel_rfl
theorem zc112 : (Try.prog.info? 112).map (fun i => i.zero.map Value.cells) = some (some #[.nilFunc]) := by kernel_rfl
theorem eo112 : elemOK Try.prog 112 1 8 = true := by kernel_rfl
theorem sz113 : (Try.prog.info? 113).map (·.size) = some 1 := by kernel_rfl
theorem zr113 : (Try.prog.info? 113).map (·.zero) = some (some .nilFunc) := by kernel_rfl
theorem zc113 : (Try.prog.info? 113).map (fun i => i.zero.map Value.cells) = some (some #[.nilFunc]) := by kernel_rfl
theorem eo113 : elemOK Try.prog 113 1 8 = true := by kernel_rfl
theorem sz114 : (Try.prog.info? 114).map (·.size) = some 1 := by kernel_rfl
theorem sz115 : (Try.prog.info? 115).map (·.size) = some 1 := by kernel_rfl
theorem zr115 : (Try.prog.info? 115).map (·.zero) = some (some .nilFunc) := by kernel_rfl
theorem zc115 : (Try.prog.info? 115).map (fun i => i.zero.map Value.cells) = some (some #[.nilFunc]) := by kernel_rfl
theorem eo115 : elemOK Try.prog 115 1 8 = true := by kernel_rfl
theorem sz116 : (Try.prog.info? 116).map (·.size) = some 1 := by kernel_rfl
theorem zr116 : (Try.prog.info? 116).map (·.zero) = some (some .nilFunc) := by kernel_rfl
theorem zc116 : (Try.prog.info? 116).map (fun i => i.zero.map Value.cells) = some (some #[.nilFunc]) := by kernel_rfl
theorem eo116 : elemOK Try.prog 116 1 8 = true := by kernel_rfl
theorem sz117 : (Try.prog.info? 117).map (·.size) = some 2 := by kernel_rfl
theorem zr117 : (Try.prog.info? 117).map (·.zero) = some (some (.agg #[(.string ⟨#[]⟩), (.string ⟨#[]⟩)])) := by kernel_rfl
theorem zc117 : (Try.prog.info? 117).map (fun i => i.zero.map Value.cells) = some (some #[(.string ⟨#[]⟩), (.string ⟨#[]⟩)]) := by kernel_rfl
theorem eo117 : elemOK Try.prog 117 2 32 = true := by kernel_rfl
theorem sz118 : (Try.prog.info? 118).map (·.size) = some 1 := by kernel_rfl
theorem zr118 : (Try.prog.info? 118).map (·.zero) = some (some .nilFunc) := by kernel_rfl
theorem zc118 : (Try.prog.info? 118).map (fun i => i.zero.map Value.cells) = some (some #[.nilFunc]) := by kernel_rfl
theorem eo118 : elemOK Try.prog 118 1 8 = true := by kernel_rfl
theorem sz119 : (Try.prog.info? 119).map (·.size) = some 1 := by kernel_rfl
theorem zr119 : (Try.prog.info? 119).map (·.zero) = some (some .nilFunc) := by kernel_rfl
theorem zc119 : (Try.prog.info? 119).map (fun i => i.zero.map Value.cells) = some (some #[.nilFunc]) := by kernel_rfl
theorem eo119 : elemOK Try.prog 119 1 8 = true := by kernel_rfl
theorem sz120 : (Try.prog.info? 120).map (·.size) = some 1 := by kernel_rfl
theorem zr120 : (Try.prog.info? 120).map (·.zero) = some (some .nilFunc) := by kernel_rfl
theorem zc120 : (Try.prog.info? 120).map (fun i => i.zero.map Value.cells) = some (some #[.nilFunc]) := by kernel_rfl
theorem eo120 : elemOK Try.prog 120 1 8 = true := by kernel_rfl
theorem sz121 : (Try.prog.info? 121).map (·.size) = some 1 := by kernel_rfl
theorem zr121 : (Try.prog.info? 121).map (·.zero) = some (some .nilFunc) := by kernel_rfl
theorem zc121 : (Try.prog.info? 121).map (fun i => i.zero.map Value.cells) = some (some #[.nilFunc]) := by kernel_rfl
theorem eo121 : elemOK Try.prog 121 1 8 = true := by kernel_rfl
theorem sz122 : (Try.prog.info? 122).map (·.size) = some 1 := by kernel_rfl
theorem zr122 : (Try.prog.info? 122).map (·.zero) = some (some .nilFunc) := by kernel_rfl
theorem zc122 : (Try.prog.info? 122).map (fun i => i.zero.map Value.cells) = some (some #[.nilFunc]) := by kernel_rfl
theorem eo122 : elemOK Try.prog 122 1 8 = true := by kernel_rfl
theorem sz123 : (Try.prog.info? 123).map (·.size) = some 1 := by kernel_rfl
theorem sz124 : (Try.prog.info? 124).map (·.size) = some 1 := by kernel_rfl
theorem zr124 : (Try.prog.info? 124).map (·.zero) = some (some .nilFunc) := by kernel_rfl
theorem zc124 : (Try.prog.info? 124).map (fun i => i.zero.map Value.cells) = some (some #[.nilFunc]) := by kernel_rfl
theorem eo124 : elemOK Try.prog 124 1 8 = true := by kernel_rfl
theorem sz125 : (Try.prog.info? 125).map (·.size) = some 1 := by kernel_rfl
theorem zr125 : (Try.prog.info? 125).map (·.zero) = some (some .nilFunc) := by kernel_rfl
theorem zc125 : (Try.prog.info? 125).map (fun i => i.zero.map Value.cells) = some (some #[.nilFunc]) := by kernel_rfl
theorem eo125 : elemOK Try.prog 125 1 8 = true := by kernel_rfl
theorem sz126 : (Try.prog.info? 126).map (·.size) = some 1 := by kernel_rfl
theorem zr126 : (Try.prog.info? 126).map (·.zero) = some (some .nilFunc) := by kernel_rfl
theorem zc126 : (Try.prog.info? 126).map (fun i => i.zero.map Value.cells) = some (some #[.nilFunc]) := by kernel_rfl
theorem eo126 : elemOK Try.prog 126 1 8 = true := by kernel_rfl
theorem sz127 : (Try.prog.info? 127).map (·.size) = some 1 := by kernel_rfl
theorem zr127 : (Try.prog.info? 127).map (·.zero) = some (some (.int .u64 0)) := by kernel_rfl
theorem zc127 : (Try.prog.info? 127).map (fun i => i.zero.map Value.cells) = some (some #[(.int .u64 0)]) := by kernel_rfl
theorem eo127 : elemOK Try.prog 127 1 8 = true := by kernel_rfl
theorem sz128 : (Try.prog.info? 128).map (·.size) = some 5 := by kernel_rfl
theorem zr128 : (Try.prog.info? 128).map (·.zero) = some (some (.agg #[(.int .i64 0), (.int .i64 0), (.bool false), (.bool false), (.bool false)])) := by kernel_rfl
theorem zc128 : (Try.prog.info? 128).map (fun i => i.zero.map Value.cells) = some (some #[(.int .i64 0), (.int .i64 0), (.bool false), (.bool false), (.bool false)]) := by kernel_rfl
theorem eo128 : elemOK Try.prog 128 5 24 = true := by kernel_rfl
theorem fi128_0 : fieldInfo Try.prog 128 0 = some (0, 1) := by kernel_rfl
theorem fp128_0 : fieldPart Try.prog 128 0 = some (false, 0, 1) := by kernel_rfl
theorem fi128_1 : fieldInfo Try.prog 128 1 = some (1, 1) := by kernel_rfl
theorem fp128_1 : fieldPart Try.prog 128 1 = some (false, 1, 1) := by kernel_rfl
theorem fi128_2 : fieldInfo Try.prog 128 2 = some (2, 1) := by kernel_rfl
theorem fp128_2 : fieldPart Try.prog 128 2 = some (false, 2, 1) := by kernel_rfl
theorem fi128_3 : fieldInfo Try.prog 128 3 = some (3, 1) := by kernel_rfl
theorem fp128_3 : fieldPart Try.prog 128 3 = some (false, 3, 1) := by kernel_rfl
theorem fi128_4 : fieldInfo Try.prog 128 4 = some (4, 1) := by kernel_rfl
theorem fp128_4 : fieldPart Try.prog 128 4 = some (false, 4, 1) := by kernel_rfl
theorem pl128 : placesOf Try.prog 128 = some [(0, 1), (1, 1), (2, 1), (3, 1), (4, 1)] := by kernel_rfl
theorem sz129 : (Try.prog.info? 129).map (·.size) = some 5 := by kernel_rfl
theorem zr129 : (Try.prog.info? 129).map (·.zero) = some (some (.agg #[(.int .i64 0), (.int .i64 0), (.bool false), (.bool false), (.bool false)])) := by kernel_rfl
theorem zc129 : (Try.prog.info? 129).map (fun i => i.zero.map Value.cells) = some (some #[(.int .i64 0), (.int .i64 0), (.bool false), (.bool false), (.bool false)]) := by kernel_rfl
theorem eo129 : elemOK Try.prog 129 5 24 = true := by kernel_rfl
theorem fi129_0 : fieldInfo Try.prog 129 0 = some (0, 1) := by kernel_rfl
theorem fp129_0 : fieldPart Try.prog 129 0 = some (false, 0, 1) := by kernel_rfl
theorem fi129_1 : fieldInfo Try.prog 129 1 = some (1, 1) := by kernel_rfl
theorem fp129_1 : fieldPart Try.prog 129 1 = some (false, 1, 1) := by kernel_rfl
theorem fi129_2 : fieldInfo Try.prog 129 2 = some (2, 1) := by kernel_rfl
theorem fp129_2 : fieldPart Try.prog 129 2 = some (false, 2, 1) := by kernel_rfl
theorem fi129_3 : fieldInfo Try.prog 129 3 = some (3, 1) := by kernel_rfl
theorem fp129_3 : fieldPart Try.prog 129 3 = some (false, 3, 1) := by kernel_rfl
theorem fi129_4 : fieldInfo Try.prog 129 4 = some (4, 1) := by kernel_rfl
theorem fp129_4 : fieldPart Try.prog 129 4 = some (false, 4, 1) := by kernel_rfl
theorem pl129 : placesOf Try.prog 129 = some [(0, 1), (1, 1), (2, 1), (3, 1), (4, 1)] := by kernel_rfl
theorem sz130 : (Try.prog.info? 130).map (·.size) = some 1 := by kernel_rfl
theorem sz131 : (Try.prog.info? 131).map (·.size) = some 1 := by kernel_rfl
theorem zr131 : (Try.prog.info? 131).map (·.zero) = some (some .nilFunc) := by kernel_rfl
theorem zc131 : (Try.prog.info? 131).map (fun i => i.zero.map Value.cells) = some (some #[.nilFunc]) := by kernel_rfl
theorem eo131 : elemOK Try.prog 131 1 8 = true := by kernel_rfl
theorem sz132 : (Try.prog.info? 132).map (·.size) = some 1 := by kernel_rfl
theorem zr132 : (Try.prog.info? 132).map (·.zero) = some (some .nilFunc) := by kernel_rfl
theorem zc132 : (Try.prog.info? 132).map (fun i => i.zero.map Value.cells) = some (some #[.nilFunc]) := by kernel_rfl
theorem eo132 : elemOK Try.prog 132 1 8 = true := by kernel_rfl
theorem sz133 : (Try.prog.info? 133).map (·.size) = some 2 := by kernel_rfl
theorem zr133 : (Try.prog.info? 133).map (·.zero) = some (some (.agg #[(.string ⟨#[]⟩), (.int .i64 0)])) := by kernel_rfl
theorem zc133 : (Try.prog.info? 133).map (fun i => i.zero.map Value.cells) = some (some #[(.string ⟨#[]⟩), (.int .i64 0)]) := by kernel_rfl
theorem eo133 : elemOK Try.prog 133 2 24 = true := by kernel_rfl
theorem fi133_0 : fieldInfo Try.prog 133 0 = some (0, 1) := by kernel_rfl
theorem fp133_0 : fieldPart Try.prog 133 0 = some (false, 0, 1) := by kernel_rfl
theorem fi133_1 : fieldInfo Try.prog 133 1 = some (1, 1) := by kernel_rfl
theorem fp133_1 : fieldPart Try.prog 133 1 = some (false, 1, 1) := by kernel_rfl
theorem pl133 : placesOf Try.prog 133 = some [(0, 1), (1, 1)] := by kernel_rfl
theorem sz134 : (Try.prog.info? 134).map (·.size) = some 1 := by kernel_rfl
theorem zr134 : (Try.prog.info? 134).map (·.zero) = some (some (.slice none 0 0)) := by kernel_rfl
theorem zc134 : (Try.prog.info? 134).map (fun i => i.zero.map Value.cells) = some (some #[(.slice none 0 0)]) := by kernel_rfl
theorem eo134 : elemOK Try.prog 134 1 24 = true := by kernel_rfl
theorem sz135 : (Try.prog.info? 135).map (·.size) = some 1 := by kernel_rfl
theorem zr135 : (Try.prog.info? 135).map (·.zero) = some (some .nilFunc) := by kernel_rfl
theorem zc135 : (Try.prog.info? 135).map (fun i => i.zero.map Value.cells) = some (some #[.nilFunc]) := by kernel_rfl
theorem eo135 : elemOK Try.prog 135 1 8 = true := by kernel_rfl
theorem sz136 : (Try.prog.info? 136).map (·.size) = some 1 := by kernel_rfl
theorem zr136 : (Try.prog.info? 136).map (·.zero) = some (some (.pointer none)) := by kernel_rfl
theorem zc136 : (Try.prog.info? 136).map (fun i => i.zero.map Value.cells) = some (some #[(.pointer none)]) := by kernel_rfl
theorem eo136 : elemOK Try.prog 136 1 8 = true := by kernel_rfl
theorem sz137 : (Try.prog.info? 137).map (·.size) = some 2 := by kernel_rfl
theorem zr137 : (Try.prog.info? 137).map (·.zero) = some (some (.agg #[(.pointer none), (.slice none 0 0)])) := by kernel_rfl
theorem zc137 : (Try.prog.info? 137).map (fun i => i.zero.map Value.cells) = some (some #[(.pointer none), (.slice none 0 0)]) := by kernel_rfl
theorem eo137 : elemOK Try.prog 137 2 32 = true := by kernel_rfl
theorem fi137_0 : fieldInfo Try.prog 137 0 = some (0, 1) := by kernel_rfl
theorem fp137_0 : fieldPart Try.prog 137 0 = some (false, 0, 1) := by kernel_rfl
theorem fi137_1 : fieldInfo Try.prog 137 1 = some (1, 1) := by kernel_rfl
theorem fp137_1 : fieldPart Try.prog 137 1 = some (false, 1, 1) := by kernel_rfl
theorem pl137 : placesOf Try.prog 137 = some [(0, 1), (1, 1)] := by kernel_rfl
theorem sz138 : (Try.prog.info? 138).map (·.size) = some 2 := by kernel_rfl
theorem zr138 : (Try.prog.info? 138).map (·.zero) = some (some (.agg #[(.pointer none), (.slice none 0 0)])) := by kernel_rfl
theorem zc138 : (Try.prog.info? 138).map (fun i => i.zero.map Value.cells) = some (some #[(.pointer none), (.slice none 0 0)]) := by kernel_rfl
theorem eo138 : elemOK Try.prog 138 2 32 = true := by kernel_rfl
theorem fi138_0 : fieldInfo Try.prog 138 0 = some (0, 1) := by kernel_rfl
theorem fp138_0 : fieldPart Try.prog 138 0 = some (false, 0, 1) := by kernel_rfl
theorem fi138_1 : fieldInfo Try.prog 138 1 = some (1, 1) := by kernel_rfl
theorem fp138_1 : fieldPart Try.prog 138 1 = some (false, 1, 1) := by kernel_rfl
theorem pl138 : placesOf Try.prog 138 = some [(0, 1), (1, 1)] := by kernel_rfl
theorem sz139 : (Try.prog.info? 139).map (·.size) = some 1 := by kernel_rfl
theorem zr139 : (Try.prog.info? 139).map (·.zero) = some (some .nilIface) := by kernel_rfl
theorem zc139 : (Try.prog.info? 139).map (fun i => i.zero.map Value.cells) = some (some #[.nilIface]) := by kernel_rfl
theorem eo139 : elemOK Try.prog 139 1 16 = true := by kernel_rfl
theorem sz140 : (Try.prog.info? 140).map (·.size) = some 1 := by kernel_rfl
theorem zr140 : (Try.prog.info? 140).map (·.zero) = some (some .nilIface) := by kernel_rfl
theorem zc140 : (Try.prog.info? 140).map (fun i => i.zero.map Value.cells) = some (some #[.nilIface]) := by kernel_rfl
theorem eo140 : elemOK Try.prog 140 1 16 = true := by kernel_rfl
theorem sz141 : (Try.prog.info? 141).map (·.size) = some 1 := by kernel_rfl
theorem zr141 : (Try.prog.info? 141).map (·.zero) = some (some .nilFunc) := by kernel_rfl
theorem zc141 : (Try.prog.info? 141).map (fun i => i.zero.map Value.cells) = some (some #[.nilFunc]) := by kernel_rfl
theorem eo141 : elemOK Try.prog 141 1 8 = true := by kernel_rfl
theorem sz142 : (Try.prog.info? 142).map (·.size) = some 1 := by kernel_rfl
theorem zr142 : (Try.prog.info? 142).map (·.zero) = some (some .nilFunc) := by kernel_rfl
theorem zc142 : (Try.prog.info? 142).map (fun i => i.zero.map Value.cells) = some (some #[.nilFunc]) := by kernel_rfl
theorem eo142 : elemOK Try.prog 142 1 8 = true := by kernel_rfl
theorem sz143 : (Try.prog.info? 143).map (·.size) = some 4 := by kernel_rfl
theorem zr143 : (Try.prog.info? 143).map (·.zero) = some (some (.agg #[(.int .u32 0), (.int .i64 0), (.int .u32 0), (.int .i64 0)])) := by kernel_rfl
theorem zc143 : (Try.prog.info? 143).map (fun i => i.zero.map Value.cells) = some (some #[(.int .u32 0), (.int .i64 0), (.int .u32 0), (.int .i64 0)]) := by kernel_rfl
theorem eo143 : elemOK Try.prog 143 4 32 = true := by kernel_rfl
theorem sz144 : (Try.prog.info? 144).map (·.size) = some 1 := by kernel_rfl
theorem zr144 : (Try.prog.info? 144).map (·.zero) = some (some .nilFunc) := by kernel_rfl
theorem zc144 : (Try.prog.info? 144).map (fun i => i.zero.map Value.cells) = some (some #[.nilFunc]) := by kernel_rfl
theorem eo144 : elemOK Try.prog 144 1 8 = true := by kernel_rfl
theorem sz145 : (Try.prog.info? 145).map (·.size) = some 1 := by kernel_rfl
theorem zr145 : (Try.prog.info? 145).map (·.zero) = some (some .nilFunc) := by kernel_rfl
theorem zc145 : (Try.prog.info? 145).map (fun i => i.zero.map Value.cells) = some (some #[.nilFunc]) := by kernel_rfl
theorem eo145 : elemOK Try.prog 145 1 8 = true := by kernel_rfl
theorem sz146 : (Try.prog.info? 146).map (·.size) = some 8 := by kernel_rfl
theorem zr146 : (Try.prog.info? 146).map (·.zero) = some (some (.agg #[(.int .u32 0), (.int .u32 0), (.int .u32 0), (.int .u32 0), (.int .u32 0), (.int .u32 0), (.int .u32 0), (.int .u32 0)])) := by kernel_rfl
theorem zc146 : (Try.prog.info? 146).map (fun i => i.zero.map Value.cells) = some (some #[(.int .u32 0), (.int .u32 0), (.int .u32 0), (.int .u32 0), (.int .u32 0), (.int .u32 0), (.int .u32 0), (.int .u32 0)]) := by kernel_rfl
theorem eo146 : elemOK Try.prog 146 8 32 = true := by kernel_rfl
theorem sz147 : (Try.prog.info? 147).map (·.size) = some 1 := by kernel_rfl
theorem zr147 : (Try.prog.info? 147).map (·.zero) = some (some .nilFunc) := by kernel_rfl
theorem zc147 : (Try.prog.info? 147).map (fun i => i.zero.map Value.cells) = some (some #[.nilFunc]) := by kernel_rfl
theorem eo147 : elemOK Try.prog 147 1 8 = true := by kernel_rfl
theorem sz148 : (Try.prog.info? 148).map (·.size) = some 1 := by kernel_rfl
theorem zr148 : (Try.prog.info? 148).map (·.zero) = some (some (.slice none 0 0)) := by kernel_rfl
theorem zc148 : (Try.prog.info? 148).map (fun i => i.zero.map Value.cells) = some (some #[(.slice none 0 0)]) := by kernel_rfl
theorem eo148 : elemOK Try.prog 148 1 24 = true := by kernel_rfl
theorem sz149 : (Try.prog.info? 149).map (·.size) = some 1 := by kernel_rfl
theorem zr149 : (Try.prog.info? 149).map (·.zero) = some (some .nilFunc) := by kernel_rfl
theorem zc149 : (Try.prog.info? 149).map (fun i => i.zero.map Value.cells) = some (some #[.nilFunc]) := by kernel_rfl
theorem eo149 : elemOK Try.prog 149 1 8 = true := by kernel_rfl
theorem sz150 : (Try.prog.info? 150).map (·.size) = some 1 := by kernel_rfl
theorem zr150 : (Try.prog.info? 150).map (·.zero) = some (some .nilFunc) := by kernel_rfl
theorem zc150 : (Try.prog.info? 150).map (fun i => i.zero.map Value.cells) = some (some #[.nilFunc]) := by kernel_rfl
theorem eo150 : elemOK Try.prog 150 1 8 = true := by kernel_rfl
theorem sz151 : (Try.prog.info? 151).map (·.size) = some 1 := by kernel_rfl
theorem zr151 : (Try.prog.info? 151).map (·.zero) = some (some .nilFunc) := by kernel_rfl
theorem zc151 : (Try.prog.info? 151).map (fun i => i.zero.map Value.cells) = some (some #[.nilFunc]) := by kernel_rfl
theorem eo151 : elemOK Try.prog 151 1 8 = true := by kernel_rfl
theorem sz152 : (Try.prog.info? 152).map (·.size) = some 1 := by kernel_rfl
theorem zr152 : (Try.prog.info? 152).map (·.zero) = some (some (.pointer none)) := by kernel_rfl
theorem zc152 : (Try.prog.info? 152).map (fun i => i.zero.map Value.cells) = some (some #[(.pointer none)]) := by kernel_rfl
theorem eo152 : elemOK Try.prog 152 1 8 = true := by kernel_rfl
theorem sz153 : (Try.prog.info? 153).map (·.size) = some 64 := by kernel_rfl
theorem zr153 : (Try.prog.info? 153).map (·.zero) = some (some (.agg (List.toArray ((.int .u32 0) :: (.int .u32 0) :: (.int .u32 0) :: (.int .u32 0) :: (.int .u32 0) :: (.int .u32 0) :: (.int .u32 0) :: (.int .u32 0) :: (.int .u32 0) :: (.int .u32 0) :: (.int .u32 0) :: (.int .u32 0) :: (.int .u32 0) :: (.int .u32 0) :: (.int .u32 0) :: (.int .u32 0) :: (.int .u32 0) :: (.int .u32 0) :: (.int .u32 0) :: (.int .u32 0) :: (.int .u32 0) :: (.int .u32 0) :: (.int .u32 0) :: (.int .u32 0) :: (.int .u32 0) :: (.int .u32 0) :: (.int .u32 0) :: (.int .u32 0) :: (.int .u32 0) :: (.int .u32 0) :: (.int .u32 0) :: (.int .u32 0) :: (.int .u32 0) :: (.int .u32 0) :: (.int .u32 0) :: (.int .u32 0) :: (.int .u32 0) :: (.int .u32 0) :: (.int .u32 0) :: (.int .u32 0) :: (.int .u32 0) :: (.int .u32 0) :: (.int .u32 0) :: (.int .u32 0) :: (.int .u32 0) :: (.int .u32 0) :: (.int .u32 0) :: (.int .u32 0) :: (.int .u32 0) :: (.int .u32 0) :: (.int .u32 0) :: (.int .u32 0) :: (.int .u32 0) :: (.int .u32 0) :: (.int .u32 0) :: (.int .u32 0) :: (.int .u32 0) :: (.int .u32 0) :: (.int .u32 0) :: (.int .u32 0) :: (.int .u32 0) :: (.int .u32 0) :: (.int .u32 0) :: (.int .u32 0) :: [])))) := by kernel_rfl
theorem zc153 : (Try.prog.info? 153).map (fun i => i.zero.map Value.cells) = some (some (List.toArray ((.int .u32 0) :: (.int .u32 0) :: (.int .u32 0) :: (.int .u32 0) :: (.int .u32 0) :: (.int .u32 0) :: (.int .u32 0) :: (.int .u32 0) :: (.int .u32 0) :: (.int .u32 0) :: (.int .u32 0) :: (.int .u32 0) :: (.int .u32 0) :: (.int .u32 0) :: (.int .u32 0) :: (.int .u32 0) :: (.int .u32 0) :: (.int .u32 0) :: (.int .u32 0) :: (.int .u32 0) :: (.int .u32 0) :: (.int .u32 0) :: (.int .u32 0) :: (.int .u32 0) :: (.int .u32 0) :: (.int .u32 0) :: (.int .u32 0) :: (.int .u32 0) :: (.int .u32 0) :: (.int .u32 0) :: (.int .u32 0) :: (.int .u32 0) :: (.int .u32 0) :: (.int .u32 0) :: (.int .u32 0) :: (.int .u32 0) :: (.int .u32 0) :: (.int .u32 0) :: (.int .u32 0) :: (.int .u32 0) :: (.int .u32 0) :: (.int .u32 0) :: (.int .u32 0) :: (.int .u32 0) :: (.int .u32 0) :: (.int .u32 0) :: (.int .u32 0) :: (.int .u32 0) :: (.int .u32 0) :: (.int .u32 0) :: (.int .u32 0) :: (.int .u32 0) :: (.int .u32 0) :: (.int .u32 0) :: (.int .u32 0) :: (.int .u32 0) :: (.int .u32 0) :: (.int .u32 0) :: (.int .u32 0) :: (.int .u32 0) :: (.int .u32 0) :: (.int .u32 0) :: (.int .u32 0) :: (.int .u32 0) :: []))) := by kernel_rfl
theorem eo153 : elemOK Try.prog 153 64 256 = true := by kernel_rfl
theorem sz154 : (Try.prog.info? 154).map (·.size) = some 1 := by kernel_rfl
theorem zr154 : (Try.prog.info? 154).map (·.zero) = some (some .nilFunc) := by kernel_rfl
theorem zc154 : (Try.prog.info? 154).map (fun i => i.zero.map Value.cells) = some (some #[.nilFunc]) := by kernel_rfl
theorem eo154 : elemOK Try.prog 154 1 8 = true := by kernel_rfl
theorem sz155 : (Try.prog.info? 155).map (·.size) = some 1 := by kernel_rfl
theorem zr155 : (Try.prog.info? 155).map (·.zero) = some (some .nilFunc) := by kernel_rfl
theorem zc155 : (Try.prog.info? 155).map (fun i => i.zero.map Value.cells) = some (some #[.nilFunc]) := by kernel_rfl
theorem eo155 : elemOK Try.prog 155 1 8 = true := by kernel_rfl
theorem sz156 : (Try.prog.info? 156).map (·.size) = some 1 := by kernel_rfl
theorem zr156 : (Try.prog.info? 156).map (·.zero) = some (some (.pointer none)) := by kernel_rfl
theorem zc156 : (Try.prog.info? 156).map (fun i => i.zero.map Value.cells) = some (some #[(.pointer none)]) := by kernel_rfl
theorem eo156 : elemOK Try.prog 156 1 8 = true := by kernel_rfl
theorem sz157 : (Try.prog.info? 157).map (·.size) = some 1 := by kernel_rfl
theorem zr157 : (Try.prog.info? 157).map (·.zero) = some (some .nilFunc) := by kernel_rfl
theorem zc157 : (Try.prog.info? 157).map (fun i => i.zero.map Value.cells) = some (some #[.nilFunc]) := by kernel_rfl
theorem eo157 : elemOK Try.prog 157 1 8 = true := by kernel_rfl
theorem sz158 : (Try.prog.info? 158).map (·.size) = some 1 := by kernel_rfl
theorem zr158 : (Try.prog.info? 158).map (·.zero) = some (some .nilFunc) := by kernel_rfl
theorem zc158 : (Try.prog.info? 158).map (fun i => i.zero.map Value.cells) = some (some #[.nilFunc]) := by kernel_rfl
theorem eo158 : elemOK Try.prog 158 1 8 = true := by kernel_rfl
theorem sz159 : (Try.prog.info? 159).map (·.size) = some 1 := by kernel_rfl
theorem sz160 : (Try.prog.info? 160).map (·.size) = some 1 := by kernel_rfl
theorem zr160 : (Try.prog.info? 160).map (·.zero) = some (some .nilFunc) := by kernel_rfl
theorem zc160 : (Try.prog.info? 160).map (fun i => i.zero.map Value.cells) = some (some #[.nilFunc]) := by kernel_rfl
theorem eo160 : elemOK Try.prog 160 1 8 = true := by kernel_rfl
theorem sz161 : (Try.prog.info? 161).map (·.size) = some 4 := by kernel_rfl
theorem zr161 : (Try.prog.info? 161).map (·.zero) = some (some (.agg #[(.pointer none), (.pointer none), (.pointer none), (.string ⟨#[]⟩)])) := by kernel_rfl
theorem zc161 : (Try.prog.info? 161).map (fun i => i.zero.map Value.cells) = some (some #[(.pointer none), (.pointer none), (.pointer none), (.string ⟨#[]⟩)]) := by kernel_rfl
theorem eo161 : elemOK Try.prog 161 4 40 = true := by kernel_rfl
theorem fi161_0 : fieldInfo Try.prog 161 0 = some (0, 1) := by kernel_rfl
theorem fp161_0 : fieldPart Try.prog 161 0 = some (false, 0, 1) := by kernel_rfl
theorem fi161_1 : fieldInfo Try.prog 161 1 = some (1, 1) := by kernel_rfl
theorem fp161_1 : fieldPart Try.prog 161 1 = some (false, 1, 1) := by kernel_rfl
theorem fi161_2 : fieldInfo Try.prog 161 2 = some (2, 1) := by kernel_rfl
theorem fp161_2 : fieldPart Try.prog 161 2 = some (false, 2, 1) := by kernel_rfl
theorem fi161_3 : fieldInfo Try.prog 161 3 = some (3, 1) := by kernel_rfl
theorem fp161_3 : fieldPart Try.prog 161 3 = some (false, 3, 1) := by kernel_rfl
theorem pl161 : placesOf Try.prog 161 = some [(0, 1), (1, 1), (2, 1), (3, 1)] := by kernel_rfl
theorem sz162 : (Try.prog.info? 162).map (·.size) = some 4 := by kernel_rfl
theorem zr162 : (Try.prog.info? 162).map (·.zero) = some (some (.agg #[(.pointer none), (.pointer none), (.pointer none), (.string ⟨#[]⟩)])) := by kernel_rfl
theorem zc162 : (Try.prog.info? 162).map (fun i => i.zero.map Value.cells) = some (some #[(.pointer none), (.pointer none), (.pointer none), (.string ⟨#[]⟩)]) := by kernel_rfl
theorem eo162 : elemOK Try.prog 162 4 40 = true := by kernel_rfl
theorem fi162_0 : fieldInfo Try.prog 162 0 = some (0, 1) := by kernel_rfl
theorem fp162_0 : fieldPart Try.prog 162 0 = some (false, 0, 1) := by kernel_rfl
theorem fi162_1 : fieldInfo Try.prog 162 1 = some (1, 1) := by kernel_rfl
theorem fp162_1 : fieldPart Try.prog 162 1 = some (false, 1, 1) := by kernel_rfl
theorem fi162_2 : fieldInfo Try.prog 162 2 = some (2, 1) := by kernel_rfl
theorem fp162_2 : fieldPart Try.prog 162 2 = some (false, 2, 1) := by kernel_rfl
theorem fi162_3 : fieldInfo Try.prog 162 3 = some (3, 1) := by kernel_rfl
theorem fp162_3 : fieldPart Try.prog 162 3 = some (false, 3, 1) := by kernel_rfl
theorem pl162 : placesOf Try.prog 162 = some [(0, 1), (1, 1), (2, 1), (3, 1)] := by kernel_rfl
theorem sz163 : (Try.prog.info? 163).map (·.size) = some 0 := by kernel_rfl
theorem zr163 : (Try.prog.info? 163).map (·.zero) = some (some (.agg #[])) := by kernel_rfl
theorem sz164 : (Try.prog.info? 164).map (·.size) = some 0 := by kernel_rfl
theorem zr164 : (Try.prog.info? 164).map (·.zero) = some (some (.agg #[])) := by kernel_rfl
theorem fi164_0 : fieldInfo Try.prog 164 0 = some (0, 0) := by kernel_rfl
theorem fp164_0 : fieldPart Try.prog 164 0 = some (true, 0, 0) := by kernel_rfl
theorem pl164 : placesOf Try.prog 164 = some [(0, 0)] := by kernel_rfl
theorem sz165 : (Try.prog.info? 165).map (·.size) = some 0 := by kernel_rfl
theorem zr165 : (Try.prog.info? 165).map (·.zero) = some (some (.agg #[])) := by kernel_rfl
theorem fi165_0 : fieldInfo Try.prog 165 0 = some (0, 0) := by kernel_rfl
theorem fp165_0 : fieldPart Try.prog 165 0 = some (true, 0, 0) := by kernel_rfl
theorem pl165 : placesOf Try.prog 165 = some [(0, 0)] := by kernel_rfl
theorem sz166 : (Try.prog.info? 166).map (·.size) = some 1 := by kernel_rfl
theorem zr166 : (Try.prog.info? 166).map (·.zero) = some (some .nilFunc) := by kernel_rfl
theorem zc166 : (Try.prog.info? 166).map (fun i => i.zero.map Value.cells) = some (some #[.nilFunc]) := by kernel_rfl
theorem eo166 : elemOK Try.prog 166 1 8 = true := by kernel_rfl
theorem sz167 : (Try.prog.info? 167).map (·.size) = some 1 := by kernel_rfl
theorem zr167 : (Try.prog.info? 167).map (·.zero) = some (some (.int .u8 0)) := by kernel_rfl
theorem zc167 : (Try.prog.info? 167).map (fun i => i.zero.map Value.cells) = some (some #[(.int .u8 0)]) := by kernel_rfl
theorem eo167 : elemOK Try.prog 167 1 1 = true := by kernel_rfl
theorem sz168 : (Try.prog.info? 168).map (·.size) = some 1 := by kernel_rfl
theorem zr168 : (Try.prog.info? 168).map (·.zero) = some (some (.int .u8 0)) := by kernel_rfl
theorem zc168 : (Try.prog.info? 168).map (fun i => i.zero.map Value.cells) = some (some #[(.int .u8 0)]) := by kernel_rfl
theorem eo168 : elemOK Try.prog 168 1 1 = true := by kernel_rfl
theorem sz169 : (Try.prog.info? 169).map (·.size) = some 1 := by kernel_rfl
theorem zr169 : (Try.prog.info? 169).map (·.zero) = some (some .nilFunc) := by kernel_rfl
theorem zc169 : (Try.prog.info? 169).map (fun i => i.zero.map Value.cells) = some (some #[.nilFunc]) := by kernel_rfl
theorem eo169 : elemOK Try.prog 169 1 8 = true := by kernel_rfl
theorem sz170 : (Try.prog.info? 170).map (·.size) = some 1 := by kernel_rfl
theorem zr170 : (Try.prog.info? 170).map (·.zero) = some (some (.int .i32 0)) := by kernel_rfl
theorem zc170 : (Try.prog.info? 170).map (fun i => i.zero.map Value.cells) = some (some #[(.int .i32 0)]) := by kernel_rfl
theorem eo170 : elemOK Try.prog 170 1 4 = true := by kernel_rfl
theorem sz171 : (Try.prog.info? 171).map (·.size) = some 1 := by kernel_rfl
theorem zr171 : (Try.prog.info? 171).map (·.zero) = some (some (.int .i32 0)) := by kernel_rfl
theorem zc171 : (Try.prog.info? 171).map (fun i => i.zero.map Value.cells) = some (some #[(.int .i32 0)]) := by kernel_rfl
theorem eo171 : elemOK Try.prog 171 1 4 = true := by kernel_rfl
theorem sz172 : (Try.prog.info? 172).map (·.size) = some 11 := by kernel_rfl
theorem zr172 : (Try.prog.info? 172).map (·.zero) = some (some (.agg #[(.int .u64 0), (.int .u64 0), (.int .u32 0), (.int .u8 0), (.int .u8 0), (.int .u8 0), (.int .u8 0), .nilFunc, (.pointer none), (.int .i32 0), (.int .i32 0)])) := by kernel_rfl
theorem zc172 : (Try.prog.info? 172).map (fun i => i.zero.map Value.cells) = some (some #[(.int .u64 0), (.int .u64 0), (.int .u32 0), (.int .u8 0), (.int .u8 0), (.int .u8 0), (.int .u8 0), .nilFunc, (.pointer none), (.int .i32 0), (.int .i32 0)]) := by kernel_rfl
theorem eo172 : elemOK Try.prog 172 11 48 = true := by kernel_rfl
theorem fi172_0 : fieldInfo Try.prog 172 0 = some (0, 1) := by kernel_rfl
theorem fp172_0 : fieldPart Try.prog 172 0 = some (false, 0, 1) := by kernel_rfl
theorem fi172_1 : fieldInfo Try.prog 172 1 = some (1, 1) := by kernel_rfl
theorem fp172_1 : fieldPart Try.prog 172 1 = some (false, 1, 1) := by kernel_rfl
theorem fi172_2 : fieldInfo Try.prog 172 2 = some (2, 1) := by kernel_rfl
theorem fp172_2 : fieldPart Try.prog 172 2 = some (false, 2, 1) := by kernel_rfl
theorem fi172_3 : fieldInfo Try.prog 172 3 = some (3, 1) := by kernel_rfl
theorem fp172_3 : fieldPart Try.prog 172 3 = some (false, 3, 1) := by kernel_rfl
theorem fi172_4 : fieldInfo Try.prog 172 4 = some (4, 1) := by kernel_rfl
theorem fp172_4 : fieldPart Try.prog 172 4 = some (false, 4, 1) := by kernel_rfl
theorem fi172_5 : fieldInfo Try.prog 172 5 = some (5, 1) := by kernel_rfl
theorem fp172_5 : fieldPart Try.prog 172 5 = some (false, 5, 1) := by kernel_rfl
theorem fi172_6 : fieldInfo Try.prog 172 6 = some (6, 1) := by kernel_rfl
theorem fp172_6 : fieldPart Try.prog 172 6 = some (false, 6, 1) := by kernel_rfl
theorem fi172_7 : fieldInfo Try.prog 172 7 = some (7, 1) := by kernel_rfl
theorem fp172_7 : fieldPart Try.prog 172 7 = some (false, 7, 1) := by kernel_rfl
theorem fi172_8 : fieldInfo Try.prog 172 8 = some (8, 1) := by kernel_rfl
theorem fp172_8 : fieldPart Try.prog 172 8 = some (false, 8, 1) := by kernel_rfl
theorem fi172_9 : fieldInfo Try.prog 172 9 = some (9, 1) := by kernel_rfl
theorem fp172_9 : fieldPart Try.prog 172 9 = some (false, 9, 1) := by kernel_rfl
theorem fi172_10 : fieldInfo Try.prog 172 10 = some (10, 1) := by kernel_rfl
theorem fp172_10 : fieldPart Try.prog 172 10 = some (false, 10, 1) := by kernel_rfl
theorem pl172 : placesOf Try.prog 172 = some [(0, 1), (1, 1), (2, 1), (3, 1), (4, 1), (5, 1), (6, 1), (7, 1), (8, 1), (9, 1), (10, 1)] := by kernel_rfl
theorem sz173 : (Try.prog.info? 173).map (·.size) = some 11 := by kernel_rfl
theorem zr173 : (Try.prog.info? 173).map (·.zero) = some (some (.agg #[(.int .u64 0), (.int .u64 0), (.int .u32 0), (.int .u8 0), (.int .u8 0), (.int .u8 0), (.int .u8 0), .nilFunc, (.pointer none), (.int .i32 0), (.int .i32 0)])) := by kernel_rfl
theorem zc173 : (Try.prog.info? 173).map (fun i => i.zero.map Value.cells) = some (some #[(.int .u64 0), (.int .u64 0), (.int .u32 0), (.int .u8 0), (.int .u8 0), (.int .u8 0), (.int .u8 0), .nilFunc, (.pointer none), (.int .i32 0), (.int .i32 0)]) := by kernel_rfl
theorem eo173 : elemOK Try.prog 173 11 48 = true := by kernel_rfl
theorem fi173_0 : fieldInfo Try.prog 173 0 = some (0, 1) := by kernel_rfl
theorem fp173_0 : fieldPart Try.prog 173 0 = some (false, 0, 1) := by kernel_rfl
theorem fi173_1 : fieldInfo Try.prog 173 1 = some (1, 1) := by kernel_rfl
theorem fp173_1 : fieldPart Try.prog 173 1 = some (false, 1, 1) := by kernel_rfl
theorem fi173_2 : fieldInfo Try.prog 173 2 = some (2, 1) := by kernel_rfl
theorem fp173_2 : fieldPart Try.prog 173 2 = some (false, 2, 1) := by kernel_rfl
theorem fi173_3 : fieldInfo Try.prog 173 3 = some (3, 1) := by kernel_rfl
theorem fp173_3 : fieldPart Try.prog 173 3 = some (false, 3, 1) := by kernel_rfl
theorem fi173_4 : fieldInfo Try.prog 173 4 = some (4, 1) := by kernel_rfl
theorem fp173_4 : fieldPart Try.prog 173 4 = some (false, 4, 1) := by kernel_rfl
theorem fi173_5 : fieldInfo Try.prog 173 5 = some (5, 1) := by kernel_rfl
theorem fp173_5 : fieldPart Try.prog 173 5 = some (false, 5, 1) := by kernel_rfl
theorem fi173_6 : fieldInfo Try.prog 173 6 = some (6, 1) := by kernel_rfl
theorem fp173_6 : fieldPart Try.prog 173 6 = some (false, 6, 1) := by kernel_rfl
theorem fi173_7 : fieldInfo Try.prog 173 7 = some (7, 1) := by kernel_rfl
theorem fp173_7 : fieldPart Try.prog 173 7 = some (false, 7, 1) := by kernel_rfl
theorem fi173_8 : fieldInfo Try.prog 173 8 = some (8, 1) := by kernel_rfl
theorem fp173_8 : fieldPart Try.prog 173 8 = some (false, 8, 1) := by kernel_rfl
theorem fi173_9 : fieldInfo Try.prog 173 9 = some (9, 1) := by kernel_rfl
theorem fp173_9 : fieldPart Try.prog 173 9 = some (false, 9, 1) := by kernel_rfl
theorem fi173_10 : fieldInfo Try.prog 173 10 = some (10, 1) := by kernel_rfl
theorem fp173_10 : fieldPart Try.prog 173 10 = some (false, 10, 1) := by kernel_rfl
theorem pl173 : placesOf Try.prog 173 = some [(0, 1), (1, 1), (2, 1), (3, 1), (4, 1), (5, 1), (6, 1), (7, 1), (8, 1), (9, 1), (10, 1)] := by kernel_rfl
end Go.Proofs.Ytckkmfoccefcfaa

