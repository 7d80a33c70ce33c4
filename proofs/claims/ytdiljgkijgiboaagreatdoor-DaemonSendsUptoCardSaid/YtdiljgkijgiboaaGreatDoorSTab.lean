/- Used. -/
import Derived.Test.YtdiljgkijgiboaaGreatDoorProg
import Derived.Test.YtdiljgkijgiboaaGreatDoorSMa2
set_option linter.all false
namespace Go.Proofs.YtdiljgkijgiboaaGreatDoor
open Tryz
theorem sz3:(prog.info? 3).map (·.size)=some 1:=qq
instance:SZ prog 3 1:=⟨qq⟩
instance:RW prog 3 false:=⟨_,underlying3,rfl⟩
instance:IK prog 3 .i64:=⟨underlying3⟩
theorem zc3:(prog.info? 3).map (fun i=>i.zero.map Value.cells)=some (some #[(.int .i64 0)]):=qq
theorem eo3:zcO prog 3 1 8=true:=qq
instance:RW prog 4 false:=⟨_,underlying4,rfl⟩
instance:BL prog 4:=⟨underlying4⟩
theorem zr4:(prog.info? 4).map (·.zero)=some (some (.bool false)):=qq
theorem sz5:(prog.info? 5).map (·.size)=some 1:=qq
instance:SZ prog 5 1:=⟨qq⟩
instance:RW prog 5 false:=⟨_,underlying5,rfl⟩
instance:IK prog 5 .u8:=⟨underlying5⟩
theorem zr5:(prog.info? 5).map (·.zero)=some (some (.int .u8 0)):=qq
theorem zc5:(prog.info? 5).map (fun i=>i.zero.map Value.cells)=some (some #[(.int .u8 0)]):=qq
theorem eo5:zcO prog 5 1 1=true:=qq
theorem sz9:(prog.info? 9).map (·.size)=some 1:=qq
instance:SZ prog 9 1:=⟨qq⟩
instance:RW prog 9 false:=⟨_,underlying9,rfl⟩
instance:SR prog 9:=⟨underlying9⟩
theorem zc9:(prog.info? 9).map (fun i=>i.zero.map Value.cells)=some (some #[(.string ⟨#[]⟩)]):=qq
instance:SZ prog 22 1:=⟨qq⟩
instance:RW prog 22 false:=⟨_,underlying22,rfl⟩
instance:SL prog 22 98:=⟨underlying22⟩
theorem sz24:(prog.info? 24).map (·.size)=some 3:=qq
instance:SZ prog 24 3:=⟨qq⟩
instance:RW prog 24 true:=⟨_,underlying24,rfl⟩
instance:SU prog 24:=⟨_,underlying24⟩
instance:ZR prog 24 (.agg #[(.string ⟨#[]⟩),(.int .i64 0),(.slice none 0 0)]):=⟨qq⟩
instance:FI prog 24 0 (0,1):=⟨qq⟩
instance:FI prog 24 1 (1,1):=⟨qq⟩
instance:FI prog 24 2 (2,1):=⟨qq⟩
instance:PL prog 24 [(0,1),(1,1),(2,1)]:=⟨qq⟩
theorem sz25:(prog.info? 25).map (·.size)=some 1:=qq
instance:RW prog 25 false:=⟨_,underlying25,rfl⟩
instance:SL prog 25 103:=⟨underlying25⟩
theorem sz26:(prog.info? 26).map (·.size)=some 1:=qq
instance:RW prog 26 false:=⟨_,underlying26,rfl⟩
instance:SL prog 26 66:=⟨underlying26⟩
instance:SZ prog 27 1:=⟨qq⟩
instance:RW prog 27 false:=⟨_,underlying27,rfl⟩
instance:SL prog 27 153:=⟨underlying27⟩
theorem sz28:(prog.info? 28).map (·.size)=some 1:=qq
instance:RW prog 28 false:=⟨_,underlying28,rfl⟩
instance:IK prog 28 .i64:=⟨underlying28⟩
theorem sz30:(prog.info? 30).map (·.size)=some 7:=qq
instance:SZ prog 30 7:=⟨qq⟩
instance:RW prog 30 true:=⟨_,underlying30,rfl⟩
instance:SU prog 30:=⟨_,underlying30⟩
instance:ZR prog 30 (.agg #[(.bool false),(.slice none 0 0),(.string ⟨#[]⟩),(.int .i64 0),(.slice none 0 0),(.string ⟨#[]⟩),(.int .i64 0)]):=⟨qq⟩
instance:FI prog 30 0 (0,1):=⟨qq⟩
instance:FI prog 30 1 (1,1):=⟨qq⟩
instance:FI prog 30 2 (2,3):=⟨qq⟩
theorem fi30_2:zaS prog 30 2=some (2,3):=qq
instance:FI prog 30 3 (5,1):=⟨qq⟩
instance:FI prog 30 4 (6,1):=⟨qq⟩
instance:PL prog 30 [(0,1),(1,1),(2,3),(5,1),(6,1)]:=⟨qq⟩
theorem sz32:(prog.info? 32).map (·.size)=some 15:=qq
instance:SZ prog 32 15:=⟨qq⟩
instance:RW prog 32 true:=⟨_,underlying32,rfl⟩
instance:SU prog 32:=⟨_,underlying32⟩
instance:ZR prog 32 (.agg (List.toArray ((.string ⟨#[]⟩)::(.int .i64 0)::(.slice none 0 0)::(.slice none 0 0)::(.slice none 0 0)::(.bool false)::(.slice none 0 0)::(.string ⟨#[]⟩)::(.int .i64 0)::(.slice none 0 0)::(.string ⟨#[]⟩)::(.int .i64 0)::(.int .i64 0)::(.int .i64 0)::(.int .i64 0)::[]))):=⟨qq⟩
theorem zr32:(prog.info? 32).map (·.zero)=some (some (.agg (List.toArray ((.string ⟨#[]⟩)::(.int .i64 0)::(.slice none 0 0)::(.slice none 0 0)::(.slice none 0 0)::(.bool false)::(.slice none 0 0)::(.string ⟨#[]⟩)::(.int .i64 0)::(.slice none 0 0)::(.string ⟨#[]⟩)::(.int .i64 0)::(.int .i64 0)::(.int .i64 0)::(.int .i64 0)::[])))):=qq
instance:FI prog 32 0 (0,3):=⟨qq⟩
theorem fi32_0:zaS prog 32 0=some (0,3):=qq
instance:FI prog 32 1 (3,1):=⟨qq⟩
theorem fi32_1:zaS prog 32 1=some (3,1):=qq
instance:FI prog 32 2 (4,1):=⟨qq⟩
theorem fi32_2:zaS prog 32 2=some (4,1):=qq
instance:FI prog 32 3 (5,7):=⟨qq⟩
theorem zii:zaS prog 32 3=some (5,7):=qq
instance:FI prog 32 4 (12,1):=⟨qq⟩
instance:FI prog 32 5 (13,1):=⟨qq⟩
instance:FI prog 32 6 (14,1):=⟨qq⟩
theorem fi32_6:zaS prog 32 6=some (14,1):=qq
instance:PL prog 32 [(0,3),(3,1),(4,1),(5,7),(12,1),(13,1),(14,1)]:=⟨qq⟩
theorem sz33:(prog.info? 33).map (·.size)=some 1:=qq
instance:SZ prog 33 1:=⟨qq⟩
instance:RW prog 33 false:=⟨_,underlying33,rfl⟩
instance:IK prog 33 .u32:=⟨underlying33⟩
theorem zr33:(prog.info? 33).map (·.zero)=some (some (.int .u32 0)):=qq
theorem zc33:(prog.info? 33).map (fun i=>i.zero.map Value.cells)=some (some #[(.int .u32 0)]):=qq
theorem eo33:zcO prog 33 1 4=true:=qq
theorem sz34:(prog.info? 34).map (·.size)=some 1:=qq
instance:SZ prog 34 1:=⟨qq⟩
instance:RW prog 34 false:=⟨_,underlying34,rfl⟩
instance:SL prog 34 5:=⟨underlying34⟩
theorem zc34:(prog.info? 34).map (fun i=>i.zero.map Value.cells)=some (some #[(.slice none 0 0)]):=qq
theorem sz36:(prog.info? 36).map (·.size)=some 3:=qq
instance:SZ prog 36 3:=⟨qq⟩
instance:RW prog 36 true:=⟨_,underlying36,rfl⟩
instance:SU prog 36:=⟨_,underlying36⟩
instance:ZR prog 36 (.agg #[(.int .u32 0),(.int .u32 0),(.slice none 0 0)]):=⟨qq⟩
theorem zr36:(prog.info? 36).map (·.zero)=some (some (.agg #[(.int .u32 0),(.int .u32 0),(.slice none 0 0)])):=qq
theorem zc36:(prog.info? 36).map (fun i=>i.zero.map Value.cells)=some (some #[(.int .u32 0),(.int .u32 0),(.slice none 0 0)]):=qq
theorem eo36:zcO prog 36 3 32=true:=qq
instance:FI prog 36 0 (0,1):=⟨qq⟩
instance:FI prog 36 1 (1,1):=⟨qq⟩
instance:FI prog 36 2 (2,1):=⟨qq⟩
theorem pl36:zdJ prog 36=some [(0,1),(1,1),(2,1)]:=qq
instance:SZ prog 37 1:=⟨qq⟩
instance:RW prog 37 false:=⟨_,underlying37,rfl⟩
instance:SL prog 37 75:=⟨underlying37⟩
theorem zr53:(prog.info? 53).map (·.zero)=some (some (.agg (List.toArray ((.string ⟨#[]⟩)::(.int .i64 0)::(.slice none 0 0)::(.slice none 0 0)::(.slice none 0 0)::(.bool false)::(.slice none 0 0)::(.string ⟨#[]⟩)::(.int .i64 0)::(.slice none 0 0)::(.string ⟨#[]⟩)::(.int .i64 0)::(.int .i64 0)::(.int .i64 0)::(.int .i64 0)::(.slice none 0 0)::[])))):=qq
instance:FI prog 53 0 (0,15):=⟨qq⟩
instance:FI prog 53 1 (15,1):=⟨qq⟩
theorem pl53:zdJ prog 53=some [(0,15),(15,1)]:=qq
instance:SZ prog 57 3:=⟨qq⟩
instance:RW prog 57 true:=⟨_,underlying57,rfl⟩
instance:SU prog 57:=⟨_,underlying57⟩
theorem sz59:(prog.info? 59).map (·.size)=some 11:=qq
instance:SZ prog 59 11:=⟨qq⟩
instance:RW prog 59 true:=⟨_,underlying59,rfl⟩
instance:SU prog 59:=⟨_,underlying59⟩
instance:ZR prog 59 (.agg #[(.bool false),(.string ⟨#[]⟩),(.string ⟨#[]⟩),(.int .i64 0),(.int .i64 0),(.int .i64 0),(.int .i64 0),(.bool false),(.int .i64 0),(.int .u64 0),(.bool false)]):=⟨qq⟩
theorem zr59:(prog.info? 59).map (·.zero)=some (some (.agg #[(.bool false),(.string ⟨#[]⟩),(.string ⟨#[]⟩),(.int .i64 0),(.int .i64 0),(.int .i64 0),(.int .i64 0),(.bool false),(.int .i64 0),(.int .u64 0),(.bool false)])):=qq
theorem zc59:(prog.info? 59).map (fun i=>i.zero.map Value.cells)=some (some #[(.bool false),(.string ⟨#[]⟩),(.string ⟨#[]⟩),(.int .i64 0),(.int .i64 0),(.int .i64 0),(.int .i64 0),(.bool false),(.int .i64 0),(.int .u64 0),(.bool false)]):=qq
instance:FI prog 59 0 (0,1):=⟨qq⟩
instance:FI prog 59 1 (1,1):=⟨qq⟩
instance:FI prog 59 2 (2,1):=⟨qq⟩
instance:FI prog 59 3 (3,1):=⟨qq⟩
theorem zi9:zaS prog 59 3=some (3,1):=qq
instance:FI prog 59 4 (4,1):=⟨qq⟩
instance:FI prog 59 5 (5,1):=⟨qq⟩
instance:FI prog 59 6 (6,1):=⟨qq⟩
instance:FI prog 59 7 (7,3):=⟨qq⟩
instance:FI prog 59 8 (10,1):=⟨qq⟩
instance:PL prog 59 [(0,1),(1,1),(2,1),(3,1),(4,1),(5,1),(6,1),(7,3),(10,1)]:=⟨qq⟩
theorem sz61:(prog.info? 61).map (·.size)=some 33:=qq
theorem zr61:(prog.info? 61).map (·.zero)=some (some (.agg (List.toArray ((.bool false)::(.string ⟨#[]⟩)::(.string ⟨#[]⟩)::(.int .i64 0)::(.int .i64 0)::(.int .i64 0)::(.int .i64 0)::(.bool false)::(.int .i64 0)::(.int .u64 0)::(.bool false)::(.bool false)::(.string ⟨#[]⟩)::(.string ⟨#[]⟩)::(.int .i64 0)::(.int .i64 0)::(.int .i64 0)::(.int .i64 0)::(.bool false)::(.int .i64 0)::(.int .u64 0)::(.bool false)::(.bool false)::(.string ⟨#[]⟩)::(.string ⟨#[]⟩)::(.int .i64 0)::(.int .i64 0)::(.int .i64 0)::(.int .i64 0)::(.bool false)::(.int .i64 0)::(.int .u64 0)::(.bool false)::[])))):=qq
instance:FI prog 61 0 (0,11):=⟨qq⟩
theorem fi61_0:zaS prog 61 0=some (0,11):=qq
instance:FI prog 61 1 (11,11):=⟨qq⟩
theorem fi61_1:zaS prog 61 1=some (11,11):=qq
instance:FI prog 61 2 (22,11):=⟨qq⟩
theorem fi61_2:zaS prog 61 2=some (22,11):=qq
theorem pl61:zdJ prog 61=some [(0,11),(11,11),(22,11)]:=qq
theorem sz63:(prog.info? 63).map (·.size)=some 5:=qq
instance:ZR prog 63 (.agg #[(.bool false),(.int .i64 0),(.string ⟨#[]⟩),(.int .i64 0),(.int .i64 0)]):=⟨qq⟩
theorem zr63:(prog.info? 63).map (·.zero)=some (some (.agg #[(.bool false),(.int .i64 0),(.string ⟨#[]⟩),(.int .i64 0),(.int .i64 0)])):=qq
instance:FI prog 63 0 (0,1):=⟨qq⟩
instance:FI prog 63 1 (1,1):=⟨qq⟩
theorem fi63_1:zaS prog 63 1=some (1,1):=qq
instance:FI prog 63 2 (2,1):=⟨qq⟩
instance:FI prog 63 3 (3,1):=⟨qq⟩
instance:FI prog 63 4 (4,1):=⟨qq⟩
instance:PL prog 63 [(0,1),(1,1),(2,1),(3,1),(4,1)]:=⟨qq⟩
theorem pl63:zdJ prog 63=some [(0,1),(1,1),(2,1),(3,1),(4,1)]:=qq
theorem sz64:(prog.info? 64).map (·.size)=some 1:=qq
instance:SZ prog 64 1:=⟨qq⟩
instance:RW prog 64 false:=⟨_,underlying64,rfl⟩
instance:SL prog 64 36:=⟨underlying64⟩
theorem sz66:(prog.info? 66).map (·.size)=some 41:=qq
instance:SZ prog 66 41:=⟨qq⟩
instance:RW prog 66 true:=⟨_,underlying66,rfl⟩
instance:SU prog 66:=⟨_,underlying66⟩
instance:ZR prog 66 (.agg (List.toArray ((.string ⟨#[]⟩)::(.string ⟨#[]⟩)::(.bool false)::(.string ⟨#[]⟩)::(.string ⟨#[]⟩)::(.int .i64 0)::(.int .i64 0)::(.int .i64 0)::(.int .i64 0)::(.bool false)::(.int .i64 0)::(.int .u64 0)::(.bool false)::(.bool false)::(.string ⟨#[]⟩)::(.string ⟨#[]⟩)::(.int .i64 0)::(.int .i64 0)::(.int .i64 0)::(.int .i64 0)::(.bool false)::(.int .i64 0)::(.int .u64 0)::(.bool false)::(.bool false)::(.string ⟨#[]⟩)::(.string ⟨#[]⟩)::(.int .i64 0)::(.int .i64 0)::(.int .i64 0)::(.int .i64 0)::(.bool false)::(.int .i64 0)::(.int .u64 0)::(.bool false)::(.bool false)::(.int .i64 0)::(.string ⟨#[]⟩)::(.int .i64 0)::(.int .i64 0)::(.slice none 0 0)::[]))):=⟨qq⟩
theorem zr66:(prog.info? 66).map (·.zero)=some (some (.agg (List.toArray ((.string ⟨#[]⟩)::(.string ⟨#[]⟩)::(.bool false)::(.string ⟨#[]⟩)::(.string ⟨#[]⟩)::(.int .i64 0)::(.int .i64 0)::(.int .i64 0)::(.int .i64 0)::(.bool false)::(.int .i64 0)::(.int .u64 0)::(.bool false)::(.bool false)::(.string ⟨#[]⟩)::(.string ⟨#[]⟩)::(.int .i64 0)::(.int .i64 0)::(.int .i64 0)::(.int .i64 0)::(.bool false)::(.int .i64 0)::(.int .u64 0)::(.bool false)::(.bool false)::(.string ⟨#[]⟩)::(.string ⟨#[]⟩)::(.int .i64 0)::(.int .i64 0)::(.int .i64 0)::(.int .i64 0)::(.bool false)::(.int .i64 0)::(.int .u64 0)::(.bool false)::(.bool false)::(.int .i64 0)::(.string ⟨#[]⟩)::(.int .i64 0)::(.int .i64 0)::(.slice none 0 0)::[])))):=qq
theorem zc66:(prog.info? 66).map (fun i=>i.zero.map Value.cells)=some (some (List.toArray ((.string ⟨#[]⟩)::(.string ⟨#[]⟩)::(.bool false)::(.string ⟨#[]⟩)::(.string ⟨#[]⟩)::(.int .i64 0)::(.int .i64 0)::(.int .i64 0)::(.int .i64 0)::(.bool false)::(.int .i64 0)::(.int .u64 0)::(.bool false)::(.bool false)::(.string ⟨#[]⟩)::(.string ⟨#[]⟩)::(.int .i64 0)::(.int .i64 0)::(.int .i64 0)::(.int .i64 0)::(.bool false)::(.int .i64 0)::(.int .u64 0)::(.bool false)::(.bool false)::(.string ⟨#[]⟩)::(.string ⟨#[]⟩)::(.int .i64 0)::(.int .i64 0)::(.int .i64 0)::(.int .i64 0)::(.bool false)::(.int .i64 0)::(.int .u64 0)::(.bool false)::(.bool false)::(.int .i64 0)::(.string ⟨#[]⟩)::(.int .i64 0)::(.int .i64 0)::(.slice none 0 0)::[]))):=qq
theorem eo66:zcO prog 66 41 416=true:=qq
instance:FI prog 66 0 (0,1):=⟨qq⟩
theorem fi66_0:zaS prog 66 0=some (0,1):=qq
instance:FI prog 66 1 (1,1):=⟨qq⟩
theorem fi66_1:zaS prog 66 1=some (1,1):=qq
instance:FI prog 66 2 (2,33):=⟨qq⟩
theorem zih:zaS prog 66 2=some (2,33):=qq
instance:FI prog 66 3 (35,5):=⟨qq⟩
theorem fi66_3:zaS prog 66 3=some (35,5):=qq
instance:FI prog 66 4 (40,1):=⟨qq⟩
theorem zig:zaS prog 66 4=some (40,1):=qq
theorem sz75:(prog.info? 75).map (·.size)=some 3:=qq
instance:SZ prog 75 3:=⟨qq⟩
instance:RW prog 75 true:=⟨_,underlying75,rfl⟩
instance:SU prog 75:=⟨_,underlying75⟩
instance:ZR prog 75 (.agg #[(.string ⟨#[]⟩),(.string ⟨#[]⟩),(.slice none 0 0)]):=⟨qq⟩
theorem zc75:(prog.info? 75).map (fun i=>i.zero.map Value.cells)=some (some #[(.string ⟨#[]⟩),(.string ⟨#[]⟩),(.slice none 0 0)]):=qq
theorem eo75:zcO prog 75 3 56=true:=qq
instance:FI prog 75 0 (0,1):=⟨qq⟩
instance:FI prog 75 1 (1,1):=⟨qq⟩
instance:FI prog 75 2 (2,1):=⟨qq⟩
instance:PL prog 75 [(0,1),(1,1),(2,1)]:=⟨qq⟩
theorem zr91:(prog.info? 91).map (·.zero)=some (some (.agg #[(.int .i64 0),(.int .i64 0),(.int .i64 0)])):=qq
instance:SZ prog 96 1:=⟨qq⟩
instance:RW prog 96 false:=⟨_,underlying96,rfl⟩
instance:SL prog 96 101:=⟨underlying96⟩
theorem sz98:(prog.info? 98).map (·.size)=some 5:=qq
instance:SZ prog 98 5:=⟨qq⟩
instance:RW prog 98 true:=⟨_,underlying98,rfl⟩
instance:SU prog 98:=⟨_,underlying98⟩
instance:ZR prog 98 (.agg #[(.string ⟨#[]⟩),(.string ⟨#[]⟩),(.string ⟨#[]⟩),(.int .i64 0),(.slice none 0 0)]):=⟨qq⟩
theorem zr98:(prog.info? 98).map (·.zero)=some (some (.agg #[(.string ⟨#[]⟩),(.string ⟨#[]⟩),(.string ⟨#[]⟩),(.int .i64 0),(.slice none 0 0)])):=qq
theorem zc98:(prog.info? 98).map (fun i=>i.zero.map Value.cells)=some (some #[(.string ⟨#[]⟩),(.string ⟨#[]⟩),(.string ⟨#[]⟩),(.int .i64 0),(.slice none 0 0)]):=qq
theorem eo98:zcO prog 98 5 80=true:=qq
instance:FI prog 98 0 (0,1):=⟨qq⟩
theorem zhd:zaS prog 98 0=some (0,1):=qq
instance:FI prog 98 1 (1,1):=⟨qq⟩
instance:FI prog 98 2 (2,1):=⟨qq⟩
instance:FI prog 98 3 (3,1):=⟨qq⟩
instance:FI prog 98 4 (4,1):=⟨qq⟩
theorem zbw:(prog.info? 101).map (·.size)=some 2:=qq
instance:SZ prog 101 2:=⟨qq⟩
instance:RW prog 101 true:=⟨_,underlying101,rfl⟩
instance:SU prog 101:=⟨_,underlying101⟩
instance:ZR prog 101 (.agg #[(.int .u32 0),(.int .i64 0)]):=⟨qq⟩
theorem zc101:(prog.info? 101).map (fun i=>i.zero.map Value.cells)=some (some #[(.int .u32 0),(.int .i64 0)]):=qq
theorem eo101:zcO prog 101 2 16=true:=qq
instance:FI prog 101 0 (0,1):=⟨qq⟩
instance:FI prog 101 1 (1,1):=⟨qq⟩
theorem fi101_1:zaS prog 101 1=some (1,1):=qq
instance:PL prog 101 [(0,1),(1,1)]:=⟨qq⟩
theorem zcZ:(prog.info? 103).map (·.size)=some 4:=qq
instance:SZ prog 103 4:=⟨qq⟩
instance:RW prog 103 true:=⟨_,underlying103,rfl⟩
instance:SU prog 103:=⟨_,underlying103⟩
instance:ZR prog 103 (.agg #[(.int .u32 0),(.int .i64 0),(.string ⟨#[]⟩),(.int .i64 0)]):=⟨qq⟩
theorem zr103:(prog.info? 103).map (·.zero)=some (some (.agg #[(.int .u32 0),(.int .i64 0),(.string ⟨#[]⟩),(.int .i64 0)])):=qq
theorem zc103:(prog.info? 103).map (fun i=>i.zero.map Value.cells)=some (some #[(.int .u32 0),(.int .i64 0),(.string ⟨#[]⟩),(.int .i64 0)]):=qq
theorem zhj:zcO prog 103 4 40=true:=qq
instance:FI prog 103 0 (0,2):=⟨qq⟩
theorem zgV:zaS prog 103 0=some (0,2):=qq
instance:FI prog 103 1 (2,1):=⟨qq⟩
theorem fi103_1:zaS prog 103 1=some (2,1):=qq
instance:FI prog 103 2 (3,1):=⟨qq⟩
theorem zj1:zaS prog 103 2=some (3,1):=qq
instance:PL prog 103 [(0,2),(2,1),(3,1)]:=⟨qq⟩
theorem pl103:zdJ prog 103=some [(0,2),(2,1),(3,1)]:=qq
instance:RW prog 105 false:=⟨_,underlying105,rfl⟩
instance:IK prog 105 .u64:=⟨underlying105⟩
theorem zde:(prog.info? 110).map (·.size)=some 1:=qq
instance:SZ prog 110 1:=⟨qq⟩
theorem sz113:(prog.info? 113).map (·.size)=some 2:=qq
theorem sz115:(prog.info? 115).map (·.size)=some 5:=qq
instance:SZ prog 115 5:=⟨qq⟩
instance:ZR prog 115 (.agg #[(.int .u32 0),(.int .i64 0),(.string ⟨#[]⟩),(.pointer none),(.pointer none)]):=⟨qq⟩
instance:FI prog 115 0 (0,2):=⟨qq⟩
theorem zb5:zaS prog 115 0=some (0,2):=qq
instance:FI prog 115 1 (2,1):=⟨qq⟩
theorem fi115_1:zaS prog 115 1=some (2,1):=qq
instance:FI prog 115 2 (3,2):=⟨qq⟩
theorem zcV:zaS prog 115 2=some (3,2):=qq
instance:PL prog 115 [(0,2),(2,1),(3,2)]:=⟨qq⟩
theorem sz129:(prog.info? 129).map (·.size)=some 5:=qq
instance:SZ prog 129 5:=⟨qq⟩
instance:RW prog 129 true:=⟨_,underlying129,rfl⟩
instance:SU prog 129:=⟨_,underlying129⟩
instance:ZR prog 129 (.agg #[(.int .i64 0),(.int .i64 0),(.int .i64 0),(.int .i64 0),(.slice none 0 0)]):=⟨qq⟩
instance:FI prog 129 0 (0,1):=⟨qq⟩
instance:FI prog 129 1 (1,1):=⟨qq⟩
instance:FI prog 129 2 (2,1):=⟨qq⟩
instance:FI prog 129 3 (3,1):=⟨qq⟩
instance:FI prog 129 4 (4,1):=⟨qq⟩
instance:PL prog 129 [(0,1),(1,1),(2,1),(3,1),(4,1)]:=⟨qq⟩
instance:RW prog 147 false:=⟨_,underlying147,rfl⟩
instance:SL prog 147 3:=⟨underlying147⟩
theorem sz149:(prog.info? 149).map (·.size)=some 5:=qq
theorem zr149:(prog.info? 149).map (·.zero)=some (some (.agg #[(.int .i64 0),(.int .i64 0),(.int .i64 0),(.int .i64 0),(.int .i64 0)])):=qq
theorem sz153:(prog.info? 153).map (·.size)=some 5:=qq
instance:SZ prog 153 5:=⟨qq⟩
instance:RW prog 153 true:=⟨_,underlying153,rfl⟩
instance:SU prog 153:=⟨_,underlying153⟩
instance:ZR prog 153 (.agg #[(.int .i64 0),(.string ⟨#[]⟩),(.int .i64 0),(.int .u32 0),(.int .i64 0)]):=⟨qq⟩
theorem eo153:zcO prog 153 5 48=true:=qq
instance:FI prog 153 0 (0,1):=⟨qq⟩
instance:FI prog 153 1 (1,1):=⟨qq⟩
instance:FI prog 153 2 (2,1):=⟨qq⟩
instance:FI prog 153 3 (3,2):=⟨qq⟩
theorem zr162:(prog.info? 162).map (·.zero)=some (some (.agg #[(.string ⟨#[]⟩),(.string ⟨#[]⟩)])):=qq
theorem zr181:(prog.info? 181).map (·.zero)=some (some (.agg (List.toArray ((.bool false)::(.string ⟨#[]⟩)::(.string ⟨#[]⟩)::(.int .i64 0)::(.int .i64 0)::(.int .i64 0)::(.int .i64 0)::(.bool false)::(.int .i64 0)::(.int .u64 0)::(.bool false)::(.bool false)::(.string ⟨#[]⟩)::(.string ⟨#[]⟩)::(.int .i64 0)::(.int .i64 0)::(.int .i64 0)::(.int .i64 0)::(.bool false)::(.int .i64 0)::(.int .u64 0)::(.bool false)::(.bool false)::(.string ⟨#[]⟩)::(.string ⟨#[]⟩)::(.int .i64 0)::(.int .i64 0)::(.int .i64 0)::(.int .i64 0)::(.bool false)::(.int .i64 0)::(.int .u64 0)::(.bool false)::[])))):=qq
instance:SZ prog 191 5:=⟨qq⟩
instance:RW prog 191 true:=⟨_,underlying191,rfl⟩
instance:SU prog 191:=⟨_,underlying191⟩
instance:ZR prog 191 (.agg #[(.int .i64 0),(.int .i64 0),(.bool false),(.bool false),(.bool false)]):=⟨qq⟩
instance:FI prog 191 0 (0,1):=⟨qq⟩
instance:FI prog 191 1 (1,1):=⟨qq⟩
instance:FI prog 191 2 (2,1):=⟨qq⟩
instance:FI prog 191 3 (3,1):=⟨qq⟩
instance:FI prog 191 4 (4,1):=⟨qq⟩
instance:PL prog 191 [(0,1),(1,1),(2,1),(3,1),(4,1)]:=⟨qq⟩
theorem sz196:(prog.info? 196).map (·.size)=some 1:=qq
instance:RW prog 196 false:=⟨_,underlying196,rfl⟩
theorem sz198:(prog.info? 198).map (·.size)=some 2:=qq
instance:ZR prog 198 (.agg #[(.pointer none),(.slice none 0 0)]):=⟨qq⟩
instance:FI prog 198 0 (0,1):=⟨qq⟩
instance:FI prog 198 1 (1,1):=⟨qq⟩
instance:RW prog 207 false:=⟨_,underlying207,rfl⟩
instance:SL prog 207 59:=⟨underlying207⟩
instance:RW prog 208 false:=⟨_,underlying208,rfl⟩
instance:SL prog 208 9:=⟨underlying208⟩
instance:RW prog 213 false:=⟨_,underlying213,rfl⟩
instance:SL prog 213 33:=⟨underlying213⟩
theorem sz217:(prog.info? 217).map (·.size)=some 2:=qq
instance:ZR prog 217 (.agg #[(.string ⟨#[]⟩),(.int .i64 0)]):=⟨qq⟩
theorem zr217:(prog.info? 217).map (·.zero)=some (some (.agg #[(.string ⟨#[]⟩),(.int .i64 0)])):=qq
theorem zc217:(prog.info? 217).map (fun i=>i.zero.map Value.cells)=some (some #[(.string ⟨#[]⟩),(.int .i64 0)]):=qq
instance:FI prog 217 0 (0,1):=⟨qq⟩
instance:FI prog 217 1 (1,1):=⟨qq⟩
instance:PL prog 217 [(0,1),(1,1)]:=⟨qq⟩
instance:RW prog 218 false:=⟨_,underlying218,rfl⟩
instance:SL prog 218 217:=⟨underlying218⟩
theorem sz233:(prog.info? 233).map (·.size)=some 8:=qq
instance:SZ prog 233 8:=⟨qq⟩
instance:RW prog 233 true:=⟨_,underlying233,rfl⟩
instance:ZR prog 233 (.agg #[(.int .u32 0),(.int .u32 0),(.int .u32 0),(.int .u32 0),(.int .u32 0),(.int .u32 0),(.int .u32 0),(.int .u32 0)]):=⟨qq⟩
theorem zr233:(prog.info? 233).map (·.zero)=some (some (.agg #[(.int .u32 0),(.int .u32 0),(.int .u32 0),(.int .u32 0),(.int .u32 0),(.int .u32 0),(.int .u32 0),(.int .u32 0)])):=qq
theorem zr245:(prog.info? 245).map (·.zero)=some (some (.agg #[(.int .u32 0),(.int .i64 0),(.int .u32 0),(.int .i64 0)])):=qq
theorem sz247:(prog.info? 247).map (·.size)=some 64:=qq
instance:SZ prog 247 64:=⟨qq⟩
instance:RW prog 247 true:=⟨_,underlying247,rfl⟩
instance:ZR prog 247 (.agg (List.toArray ((.int .u32 0)::(.int .u32 0)::(.int .u32 0)::(.int .u32 0)::(.int .u32 0)::(.int .u32 0)::(.int .u32 0)::(.int .u32 0)::(.int .u32 0)::(.int .u32 0)::(.int .u32 0)::(.int .u32 0)::(.int .u32 0)::(.int .u32 0)::(.int .u32 0)::(.int .u32 0)::(.int .u32 0)::(.int .u32 0)::(.int .u32 0)::(.int .u32 0)::(.int .u32 0)::(.int .u32 0)::(.int .u32 0)::(.int .u32 0)::(.int .u32 0)::(.int .u32 0)::(.int .u32 0)::(.int .u32 0)::(.int .u32 0)::(.int .u32 0)::(.int .u32 0)::(.int .u32 0)::(.int .u32 0)::(.int .u32 0)::(.int .u32 0)::(.int .u32 0)::(.int .u32 0)::(.int .u32 0)::(.int .u32 0)::(.int .u32 0)::(.int .u32 0)::(.int .u32 0)::(.int .u32 0)::(.int .u32 0)::(.int .u32 0)::(.int .u32 0)::(.int .u32 0)::(.int .u32 0)::(.int .u32 0)::(.int .u32 0)::(.int .u32 0)::(.int .u32 0)::(.int .u32 0)::(.int .u32 0)::(.int .u32 0)::(.int .u32 0)::(.int .u32 0)::(.int .u32 0)::(.int .u32 0)::(.int .u32 0)::(.int .u32 0)::(.int .u32 0)::(.int .u32 0)::(.int .u32 0)::[]))):=⟨qq⟩
theorem zr247:(prog.info? 247).map (·.zero)=some (some (.agg (List.toArray ((.int .u32 0)::(.int .u32 0)::(.int .u32 0)::(.int .u32 0)::(.int .u32 0)::(.int .u32 0)::(.int .u32 0)::(.int .u32 0)::(.int .u32 0)::(.int .u32 0)::(.int .u32 0)::(.int .u32 0)::(.int .u32 0)::(.int .u32 0)::(.int .u32 0)::(.int .u32 0)::(.int .u32 0)::(.int .u32 0)::(.int .u32 0)::(.int .u32 0)::(.int .u32 0)::(.int .u32 0)::(.int .u32 0)::(.int .u32 0)::(.int .u32 0)::(.int .u32 0)::(.int .u32 0)::(.int .u32 0)::(.int .u32 0)::(.int .u32 0)::(.int .u32 0)::(.int .u32 0)::(.int .u32 0)::(.int .u32 0)::(.int .u32 0)::(.int .u32 0)::(.int .u32 0)::(.int .u32 0)::(.int .u32 0)::(.int .u32 0)::(.int .u32 0)::(.int .u32 0)::(.int .u32 0)::(.int .u32 0)::(.int .u32 0)::(.int .u32 0)::(.int .u32 0)::(.int .u32 0)::(.int .u32 0)::(.int .u32 0)::(.int .u32 0)::(.int .u32 0)::(.int .u32 0)::(.int .u32 0)::(.int .u32 0)::(.int .u32 0)::(.int .u32 0)::(.int .u32 0)::(.int .u32 0)::(.int .u32 0)::(.int .u32 0)::(.int .u32 0)::(.int .u32 0)::(.int .u32 0)::[])))):=qq
instance:FU prog 3 f3:=⟨func3⟩
instance:FU prog 4 f4:=⟨func4⟩
instance:FU prog 5 f5:=⟨func5⟩
instance:FU prog 6 f6:=⟨func6⟩
instance:FU prog 7 f7:=⟨func7⟩
instance:FU prog 8 f8:=⟨func8⟩
instance:FU prog 9 f9:=⟨func9⟩
instance:FU prog 10 f10:=⟨func10⟩
instance:FU prog 11 f11:=⟨func11⟩
instance:FU prog 12 f12:=⟨func12⟩
instance:FU prog 13 f13:=⟨func13⟩
instance:FU prog 14 f14:=⟨func14⟩
instance:FU prog 15 f15:=⟨func15⟩
instance:FU prog 16 f16:=⟨func16⟩
instance:FU prog 17 f17:=⟨func17⟩
instance:FU prog 18 f18:=⟨func18⟩
instance:FU prog 19 f19:=⟨func19⟩
instance:FU prog 20 f20:=⟨func20⟩
instance:FU prog 21 f21:=⟨func21⟩
instance:FU prog 22 f22:=⟨func22⟩
instance:FU prog 23 f23:=⟨func23⟩
instance:FU prog 24 f24:=⟨func24⟩
instance:FU prog 25 f25:=⟨func25⟩
instance:FU prog 26 f26:=⟨func26⟩
instance:FU prog 27 f27:=⟨func27⟩
instance:FU prog 28 f28:=⟨func28⟩
instance:FU prog 29 f29:=⟨func29⟩
instance:FU prog 30 f30:=⟨func30⟩
instance:FU prog 31 f31:=⟨func31⟩
instance:FU prog 32 f32:=⟨func32⟩
instance:FU prog 33 f33:=⟨func33⟩
instance:FU prog 34 f34:=⟨func34⟩
instance:FU prog 35 f35:=⟨func35⟩
instance:FU prog 36 f36:=⟨func36⟩
instance:FU prog 38 f38:=⟨func38⟩
instance:FU prog 39 f39:=⟨func39⟩
instance:FU prog 40 f40:=⟨func40⟩
instance:FU prog 42 f42:=⟨func42⟩
instance:FU prog 43 f43:=⟨func43⟩
instance:FU prog 44 f44:=⟨func44⟩
instance:FU prog 45 f45:=⟨func45⟩
instance:FU prog 46 f46:=⟨func46⟩
instance:FU prog 47 f47:=⟨func47⟩
instance:FU prog 48 f48:=⟨func48⟩
instance:FU prog 49 f49:=⟨func49⟩
instance:FU prog 50 f50:=⟨func50⟩
instance:FU prog 51 f51:=⟨func51⟩
instance:FU prog 52 f52:=⟨func52⟩
instance:FU prog 53 f53:=⟨func53⟩
instance:FU prog 54 f54:=⟨func54⟩
instance:FU prog 55 f55:=⟨func55⟩
instance:FU prog 56 f56:=⟨func56⟩
instance:FU prog 57 f57:=⟨func57⟩
instance:FU prog 58 f58:=⟨func58⟩
instance:FU prog 59 f59:=⟨func59⟩
instance:FU prog 60 f60:=⟨func60⟩
instance:FU prog 61 f61:=⟨func61⟩
instance:FU prog 62 f62:=⟨func62⟩
instance:FU prog 63 f63:=⟨func63⟩
instance:FU prog 64 f64:=⟨func64⟩
instance:FU prog 65 f65:=⟨func65⟩
instance:FU prog 66 f66:=⟨func66⟩
instance:FU prog 67 f67:=⟨func67⟩
instance:FU prog 69 f69:=⟨func69⟩
instance:FU prog 70 f70:=⟨func70⟩
instance:FU prog 71 f71:=⟨func71⟩
instance:FU prog 72 f72:=⟨func72⟩
instance:FU prog 73 f73:=⟨func73⟩
instance:FU prog 74 f74:=⟨func74⟩
instance:FU prog 75 f75:=⟨func75⟩
instance:FU prog 76 f76:=⟨func76⟩
instance:FU prog 77 f77:=⟨func77⟩
instance:FU prog 78 f78:=⟨func78⟩
instance:FU prog 79 f79:=⟨func79⟩
instance:FU prog 80 f80:=⟨func80⟩
instance:FU prog 81 f81:=⟨func81⟩
instance:FU prog 82 f82:=⟨func82⟩
instance:FU prog 83 f83:=⟨func83⟩
instance:FU prog 84 f84:=⟨func84⟩
instance:FU prog 85 f85:=⟨func85⟩
instance:FU prog 86 f86:=⟨func86⟩
instance:FU prog 87 f87:=⟨func87⟩
instance:FU prog 88 f88:=⟨func88⟩
instance:FU prog 89 f89:=⟨func89⟩
instance:FU prog 90 f90:=⟨func90⟩
instance:FU prog 91 f91:=⟨func91⟩
instance:FU prog 92 f92:=⟨func92⟩
instance:FU prog 93 f93:=⟨func93⟩
instance:FU prog 94 f94:=⟨func94⟩
instance:FU prog 95 f95:=⟨func95⟩
instance:FU prog 96 f96:=⟨func96⟩
instance:FU prog 97 f97:=⟨func97⟩
instance:FU prog 98 f98:=⟨func98⟩
instance:FU prog 99 f99:=⟨func99⟩
instance:FU prog 100 f100:=⟨func100⟩
instance:FU prog 101 f101:=⟨func101⟩
instance:FU prog 102 f102:=⟨func102⟩
instance:FU prog 103 f103:=⟨func103⟩
instance:FU prog 104 f104:=⟨func104⟩
instance:FU prog 105 f105:=⟨func105⟩
instance:FU prog 106 f106:=⟨func106⟩
instance:FU prog 107 f107:=⟨func107⟩
instance:FU prog 108 f108:=⟨func108⟩
instance:FU prog 109 f109:=⟨func109⟩
instance:FU prog 110 f110:=⟨func110⟩
instance:FU prog 111 f111:=⟨func111⟩
instance:FU prog 112 f112:=⟨func112⟩
instance:FU prog 113 f113:=⟨func113⟩
instance:FU prog 114 f114:=⟨func114⟩
instance:FU prog 115 f115:=⟨func115⟩
instance:FU prog 116 f116:=⟨func116⟩
instance:FU prog 117 f117:=⟨func117⟩
instance:FU prog 118 f118:=⟨func118⟩
instance:FU prog 119 f119:=⟨func119⟩
instance:FU prog 120 f120:=⟨func120⟩
instance:FU prog 121 f121:=⟨func121⟩
instance:FU prog 122 f122:=⟨func122⟩
instance:FU prog 123 f123:=⟨func123⟩
instance:FU prog 124 f124:=⟨func124⟩
instance:FU prog 125 f125:=⟨func125⟩
instance:FU prog 126 f126:=⟨func126⟩
instance:FU prog 127 f127:=⟨func127⟩
instance:FU prog 128 f128:=⟨func128⟩
instance:FU prog 129 f129:=⟨func129⟩
instance:FU prog 130 f130:=⟨func130⟩
instance:FU prog 131 f131:=⟨func131⟩
instance:FU prog 132 f132:=⟨func132⟩
instance:FU prog 133 f133:=⟨func133⟩
instance:FU prog 134 f134:=⟨func134⟩
instance:FU prog 135 f135:=⟨func135⟩
instance:FU prog 136 f136:=⟨func136⟩
instance:FU prog 137 f137:=⟨func137⟩
instance:FU prog 138 f138:=⟨func138⟩
instance:FU prog 139 f139:=⟨func139⟩
instance:FU prog 140 f140:=⟨func140⟩
instance:FU prog 141 f141:=⟨func141⟩
instance:FU prog 142 f142:=⟨func142⟩
instance:FU prog 144 f144:=⟨func144⟩
instance:FU prog 145 f145:=⟨func145⟩
instance:FU prog 146 f146:=⟨func146⟩
instance:FU prog 147 f147:=⟨func147⟩
instance:FU prog 148 f148:=⟨func148⟩
instance:FU prog 149 f149:=⟨func149⟩
instance:FU prog 150 f150:=⟨func150⟩
instance:FU prog 151 f151:=⟨func151⟩
instance:FU prog 152 f152:=⟨func152⟩
instance:FU prog 153 f153:=⟨func153⟩
instance:FU prog 154 f154:=⟨func154⟩
instance:FU prog 155 f155:=⟨func155⟩
instance:FU prog 156 f156:=⟨func156⟩
instance:FU prog 157 f157:=⟨func157⟩
instance:FU prog 158 f158:=⟨func158⟩
instance:FU prog 159 f159:=⟨func159⟩
instance:FU prog 160 f160:=⟨func160⟩
instance:FU prog 161 f161:=⟨func161⟩
instance:FU prog 162 f162:=⟨func162⟩
instance:FU prog 163 f163:=⟨func163⟩
instance:FU prog 164 f164:=⟨func164⟩
instance:FU prog 165 f165:=⟨func165⟩
instance:FU prog 166 f166:=⟨func166⟩
instance:FU prog 172 f172:=⟨func172⟩
instance:FU prog 173 f173:=⟨func173⟩
instance:FU prog 174 f174:=⟨func174⟩
instance:FU prog 175 f175:=⟨func175⟩
instance:FU prog 176 f176:=⟨func176⟩
instance:FU prog 177 f177:=⟨func177⟩
instance:FU prog 178 f178:=⟨func178⟩
instance:FU prog 179 f179:=⟨func179⟩
instance:FU prog 180 f180:=⟨func180⟩
instance:FU prog 181 f181:=⟨func181⟩
instance:FU prog 183 f183:=⟨func183⟩
instance:FU prog 184 f184:=⟨func184⟩
instance:FU prog 186 f186:=⟨func186⟩
instance:FU prog 187 f187:=⟨func187⟩
instance:FU prog 188 f188:=⟨func188⟩
instance:FU prog 189 f189:=⟨func189⟩
instance:FU prog 191 f191:=⟨func191⟩
instance:FU prog 196 f196:=⟨func196⟩
instance:FU prog 197 f197:=⟨func197⟩
instance:FU prog 198 f198:=⟨func198⟩
instance:FU prog 201 f201:=⟨func201⟩
instance:FU prog 202 f202:=⟨func202⟩
instance:FU prog 203 f203:=⟨func203⟩
instance:FU prog 205 f205:=⟨func205⟩
instance:FU prog 207 f207:=⟨func207⟩
instance:FU prog 208 f208:=⟨func208⟩
instance:FU prog 211 f211:=⟨func211⟩
theorem F110:type_of%func110:=func110
theorem F205:type_of%func205:=func205
theorem U3:type_of%underlying3:=underlying3
theorem U4:type_of%underlying4:=underlying4
theorem U5:type_of%underlying5:=underlying5
theorem U9:type_of%underlying9:=underlying9
theorem U22:type_of%underlying22:=underlying22
theorem U24:type_of%underlying24:=underlying24
theorem U25:type_of%underlying25:=underlying25
theorem U26:type_of%underlying26:=underlying26
theorem U27:type_of%underlying27:=underlying27
theorem U30:type_of%underlying30:=underlying30
theorem U32:type_of%underlying32:=underlying32
theorem U33:type_of%underlying33:=underlying33
theorem U34:type_of%underlying34:=underlying34
theorem U36:type_of%underlying36:=underlying36
theorem U37:type_of%underlying37:=underlying37
theorem U59:type_of%underlying59:=underlying59
theorem U61:type_of%underlying61:=underlying61
theorem U63:type_of%underlying63:=underlying63
theorem U64:type_of%underlying64:=underlying64
theorem U66:type_of%underlying66:=underlying66
theorem U75:type_of%underlying75:=underlying75
theorem U96:type_of%underlying96:=underlying96
theorem U98:type_of%underlying98:=underlying98
theorem U101:type_of%underlying101:=underlying101
theorem U103:type_of%underlying103:=underlying103
theorem U110:type_of%underlying110:=underlying110
theorem U113:type_of%underlying113:=underlying113
theorem U147:type_of%underlying147:=underlying147
theorem U208:type_of%underlying208:=underlying208
theorem U213:type_of%underlying213:=underlying213
theorem U233:type_of%underlying233:=underlying233
theorem U247:type_of%underlying247:=underlying247
end Go.Proofs.YtdiljgkijgiboaaGreatDoor
