/- Packed: Facts, C25, T1, C29. -/
import Derived.Test.YtegjjdhgffnkhaaGreatDoorProg
import Derived.KernelRfl
import Derived.Test.YtegjjdhgffnkhaaGreatDoorZ1
/- Facts on the types of the program, by the kernel. -/
namespace Go.BM
open Go.Proofs
theorem lay2 : lay Tryz.prog 2 = some (false, 1) := by kernel_rfl
theorem und2 : Tryz.prog.underlying 2 = some (.int .i64) := by kernel_rfl
theorem zer2 : zeroV Tryz.prog 2 = some (.int .i64 0) := by kernel_rfl
theorem lay3 : lay Tryz.prog 3 = some (false, 1) := by kernel_rfl
theorem und3 : Tryz.prog.underlying 3 = some (.int .i64) := by kernel_rfl
theorem zer3 : zeroV Tryz.prog 3 = some (.int .i64 0) := by kernel_rfl
theorem lay4 : lay Tryz.prog 4 = some (false, 1) := by kernel_rfl
theorem und4 : Tryz.prog.underlying 4 = some .bool := by kernel_rfl
theorem zer4 : zeroV Tryz.prog 4 = some (.bool false) := by kernel_rfl
theorem lay5 : lay Tryz.prog 5 = some (false, 1) := by kernel_rfl
theorem und5 : Tryz.prog.underlying 5 = some (.int .u8) := by kernel_rfl
theorem zer5 : zeroV Tryz.prog 5 = some (.int .u8 0) := by kernel_rfl
theorem lay9 : lay Tryz.prog 9 = some (false, 1) := by kernel_rfl
theorem und9 : Tryz.prog.underlying 9 = some .string := by kernel_rfl
theorem zer9 : zeroV Tryz.prog 9 = some (.string ⟨#[]⟩) := by kernel_rfl
theorem lay21 : lay Tryz.prog 21 = some (false, 1) := by kernel_rfl
theorem und21 : Tryz.prog.underlying 21 = some (.int .i32) := by kernel_rfl
theorem zer21 : zeroV Tryz.prog 21 = some (.int .i32 0) := by kernel_rfl
theorem lay22 : lay Tryz.prog 22 = some (false, 1) := by kernel_rfl
theorem elZ22 : elZ Tryz.prog 22 = some (5, 1, 1) := by kernel_rfl
theorem zOk22 : zOk Tryz.prog 5 1 = true := by kernel_rfl
theorem zer22 : zeroV Tryz.prog 22 = some (.slice none 0 0) := by kernel_rfl
theorem lay24 : lay Tryz.prog 24 = some (false, 1) := by kernel_rfl
theorem elZ24 : elZ Tryz.prog 24 = some (9, 1, 16) := by kernel_rfl
theorem zOk24 : zOk Tryz.prog 9 1 = true := by kernel_rfl
theorem zer24 : zeroV Tryz.prog 24 = some (.slice none 0 0) := by kernel_rfl
theorem lay25 : lay Tryz.prog 25 = some (false, 1) := by kernel_rfl
theorem elZ25 : elZ Tryz.prog 25 = some (72, 2, 16) := by kernel_rfl
theorem zOk25 : zOk Tryz.prog 72 2 = true := by kernel_rfl
theorem zer25 : zeroV Tryz.prog 25 = some (.slice none 0 0) := by kernel_rfl
theorem lay27 : lay Tryz.prog 27 = some (true, 2) := by kernel_rfl
theorem fld27_0 : fldOff Tryz.prog 27 0 = some 0 := by kernel_rfl
theorem fla27_0 : fldAt Tryz.prog 27 0 = some (0, false, 1) := by kernel_rfl
theorem fld27_1 : fldOff Tryz.prog 27 1 = some 1 := by kernel_rfl
theorem fla27_1 : fldAt Tryz.prog 27 1 = some (1, false, 1) := by kernel_rfl
theorem str27 : strT Tryz.prog 27 = some ([.slice none 0 0, .slice none 0 0], [(0, 1), (1, 1)]) := by kernel_rfl
theorem zer27 : zeroV Tryz.prog 27 = some (.agg #[.slice none 0 0, .slice none 0 0]) := by kernel_rfl
theorem lay28 : lay Tryz.prog 28 = some (false, 1) := by kernel_rfl
theorem elZ28 : elZ Tryz.prog 28 = some (2, 1, 8) := by kernel_rfl
theorem zOk28 : zOk Tryz.prog 2 1 = true := by kernel_rfl
theorem zer28 : zeroV Tryz.prog 28 = some (.slice none 0 0) := by kernel_rfl
theorem lay30 : lay Tryz.prog 30 = some (true, 3) := by kernel_rfl
theorem fld30_0 : fldOff Tryz.prog 30 0 = some 0 := by kernel_rfl
theorem fla30_0 : fldAt Tryz.prog 30 0 = some (0, false, 1) := by kernel_rfl
theorem fld30_1 : fldOff Tryz.prog 30 1 = some 1 := by kernel_rfl
theorem fla30_1 : fldAt Tryz.prog 30 1 = some (1, false, 1) := by kernel_rfl
theorem fld30_2 : fldOff Tryz.prog 30 2 = some 2 := by kernel_rfl
theorem fla30_2 : fldAt Tryz.prog 30 2 = some (2, false, 1) := by kernel_rfl
theorem str30 : strT Tryz.prog 30 = some ([.slice none 0 0, .int .i64 0, .int .i64 0], [(0, 1), (1, 1), (2, 1)]) := by kernel_rfl
theorem zer30 : zeroV Tryz.prog 30 = some (.agg #[.slice none 0 0, .int .i64 0, .int .i64 0]) := by kernel_rfl
theorem lay36 : lay Tryz.prog 36 = some (true, 4) := by kernel_rfl
theorem fld36_0 : fldOff Tryz.prog 36 0 = some 0 := by kernel_rfl
theorem fla36_0 : fldAt Tryz.prog 36 0 = some (0, false, 1) := by kernel_rfl
theorem fld36_1 : fldOff Tryz.prog 36 1 = some 1 := by kernel_rfl
theorem fla36_1 : fldAt Tryz.prog 36 1 = some (1, true, 3) := by kernel_rfl
theorem str36 : strT Tryz.prog 36 = some ([.int .i64 0, .slice none 0 0, .int .i64 0, .int .i64 0], [(0, 1), (1, 3)]) := by kernel_rfl
theorem zer36 : zeroV Tryz.prog 36 = some (.agg #[.int .i64 0, .slice none 0 0, .int .i64 0, .int .i64 0]) := by kernel_rfl
theorem lay39 : lay Tryz.prog 39 = some (true, 2) := by kernel_rfl
theorem fld39_0 : fldOff Tryz.prog 39 0 = some 0 := by kernel_rfl
theorem fla39_0 : fldAt Tryz.prog 39 0 = some (0, false, 1) := by kernel_rfl
theorem fld39_1 : fldOff Tryz.prog 39 1 = some 1 := by kernel_rfl
theorem fla39_1 : fldAt Tryz.prog 39 1 = some (1, false, 1) := by kernel_rfl
theorem str39 : strT Tryz.prog 39 = some ([.int .i64 0, .string ⟨#[]⟩], [(0, 1), (1, 1)]) := by kernel_rfl
theorem zer39 : zeroV Tryz.prog 39 = some (.agg #[.int .i64 0, .string ⟨#[]⟩]) := by kernel_rfl
theorem lay44 : lay Tryz.prog 44 = some (true, 4) := by kernel_rfl
theorem fld44_0 : fldOff Tryz.prog 44 0 = some 0 := by kernel_rfl
theorem fla44_0 : fldAt Tryz.prog 44 0 = some (0, false, 1) := by kernel_rfl
theorem fld44_1 : fldOff Tryz.prog 44 1 = some 1 := by kernel_rfl
theorem fla44_1 : fldAt Tryz.prog 44 1 = some (1, false, 1) := by kernel_rfl
theorem fld44_2 : fldOff Tryz.prog 44 2 = some 2 := by kernel_rfl
theorem fla44_2 : fldAt Tryz.prog 44 2 = some (2, true, 2) := by kernel_rfl
theorem str44 : strT Tryz.prog 44 = some ([.int .i64 0, .int .i64 0, .slice none 0 0, .slice none 0 0], [(0, 1), (1, 1), (2, 2)]) := by kernel_rfl
theorem zer44 : zeroV Tryz.prog 44 = some (.agg #[.int .i64 0, .int .i64 0, .slice none 0 0, .slice none 0 0]) := by kernel_rfl
theorem lay72 : lay Tryz.prog 72 = some (true, 2) := by kernel_rfl
theorem fld72_0 : fldOff Tryz.prog 72 0 = some 0 := by kernel_rfl
theorem fla72_0 : fldAt Tryz.prog 72 0 = some (0, false, 1) := by kernel_rfl
theorem fld72_1 : fldOff Tryz.prog 72 1 = some 1 := by kernel_rfl
theorem fla72_1 : fldAt Tryz.prog 72 1 = some (1, false, 1) := by kernel_rfl
theorem str72 : strT Tryz.prog 72 = some ([.int .i64 0, .int .i64 0], [(0, 1), (1, 1)]) := by kernel_rfl
theorem zer72 : zeroV Tryz.prog 72 = some (.agg #[.int .i64 0, .int .i64 0]) := by kernel_rfl
theorem lay74 : lay Tryz.prog 74 = some (true, 2) := by kernel_rfl
theorem fld74_0 : fldOff Tryz.prog 74 0 = some 0 := by kernel_rfl
theorem fla74_0 : fldAt Tryz.prog 74 0 = some (0, false, 1) := by kernel_rfl
theorem fld74_1 : fldOff Tryz.prog 74 1 = some 1 := by kernel_rfl
theorem fla74_1 : fldAt Tryz.prog 74 1 = some (1, false, 1) := by kernel_rfl
theorem str74 : strT Tryz.prog 74 = some ([.slice none 0 0, .int .i64 0], [(0, 1), (1, 1)]) := by kernel_rfl
theorem zer74 : zeroV Tryz.prog 74 = some (.agg #[.slice none 0 0, .int .i64 0]) := by kernel_rfl
theorem lay97 : lay Tryz.prog 97 = some (false, 1) := by kernel_rfl
theorem zer97 : zeroV Tryz.prog 97 = some (.nilIface) := by kernel_rfl
theorem lay106 : lay Tryz.prog 106 = some (false, 1) := by kernel_rfl
theorem zer106 : zeroV Tryz.prog 106 = some (.pointer none) := by kernel_rfl
theorem lay108 : lay Tryz.prog 108 = some (true, 2) := by kernel_rfl
theorem fld108_0 : fldOff Tryz.prog 108 0 = some 0 := by kernel_rfl
theorem fla108_0 : fldAt Tryz.prog 108 0 = some (0, false, 1) := by kernel_rfl
theorem fld108_1 : fldOff Tryz.prog 108 1 = some 1 := by kernel_rfl
theorem fla108_1 : fldAt Tryz.prog 108 1 = some (1, false, 1) := by kernel_rfl
theorem str108 : strT Tryz.prog 108 = some ([.pointer none, .slice none 0 0], [(0, 1), (1, 1)]) := by kernel_rfl
theorem zer108 : zeroV Tryz.prog 108 = some (.agg #[.pointer none, .slice none 0 0]) := by kernel_rfl
theorem lay117 : lay Tryz.prog 117 = some (false, 1) := by kernel_rfl
theorem und117 : Tryz.prog.underlying 117 = some (.int .i64) := by kernel_rfl
theorem zer117 : zeroV Tryz.prog 117 = some (.int .i64 0) := by kernel_rfl
theorem lay118 : lay Tryz.prog 118 = some (false, 1) := by kernel_rfl
theorem und118 : Tryz.prog.underlying 118 = some (.int .u64) := by kernel_rfl
theorem zer118 : zeroV Tryz.prog 118 = some (.int .u64 0) := by kernel_rfl
theorem lay121 : lay Tryz.prog 121 = some (false, 1) := by kernel_rfl
theorem und121 : Tryz.prog.underlying 121 = some (.int .u64) := by kernel_rfl
theorem zer121 : zeroV Tryz.prog 121 = some (.int .u64 0) := by kernel_rfl
theorem lay122 : lay Tryz.prog 122 = some (false, 1) := by kernel_rfl
theorem zer122 : zeroV Tryz.prog 122 = some (.pointer none) := by kernel_rfl
theorem lay126 : lay Tryz.prog 126 = some (true, 24) := by kernel_rfl
theorem zer126 : zeroV Tryz.prog 126 = some (.agg #[.int .u8 0, .int .u8 0, .int .u8 0, .int .u8 0, .int .u8 0, .int .u8 0, .int .u8 0, .int .u8 0, .int .u8 0, .int .u8 0, .int .u8 0, .int .u8 0, .int .u8 0, .int .u8 0, .int .u8 0, .int .u8 0, .int .u8 0, .int .u8 0, .int .u8 0, .int .u8 0, .int .u8 0, .int .u8 0, .int .u8 0, .int .u8 0]) := by kernel_rfl
theorem lay131 : lay Tryz.prog 131 = some (false, 1) := by kernel_rfl
theorem zer131 : zeroV Tryz.prog 131 = some (.pointer none) := by kernel_rfl
theorem lay136 : lay Tryz.prog 136 = some (true, 3) := by kernel_rfl
theorem fld136_0 : fldOff Tryz.prog 136 0 = some 0 := by kernel_rfl
theorem fla136_0 : fldAt Tryz.prog 136 0 = some (0, false, 1) := by kernel_rfl
theorem fld136_1 : fldOff Tryz.prog 136 1 = some 1 := by kernel_rfl
theorem fla136_1 : fldAt Tryz.prog 136 1 = some (1, false, 1) := by kernel_rfl
theorem fld136_2 : fldOff Tryz.prog 136 2 = some 2 := by kernel_rfl
theorem fla136_2 : fldAt Tryz.prog 136 2 = some (2, false, 1) := by kernel_rfl
theorem str136 : strT Tryz.prog 136 = some ([.string ⟨#[]⟩, .string ⟨#[]⟩, .nilIface], [(0, 1), (1, 1), (2, 1)]) := by kernel_rfl
theorem zer136 : zeroV Tryz.prog 136 = some (.agg #[.string ⟨#[]⟩, .string ⟨#[]⟩, .nilIface]) := by kernel_rfl
theorem lay139 : lay Tryz.prog 139 = some (true, 20) := by kernel_rfl
theorem zer139 : zeroV Tryz.prog 139 = some (.agg #[.int .u64 0, .int .u64 0, .int .u64 0, .int .u64 0, .int .u64 0, .int .u64 0, .int .u64 0, .int .u64 0, .int .u64 0, .int .u64 0, .int .u64 0, .int .u64 0, .int .u64 0, .int .u64 0, .int .u64 0, .int .u64 0, .int .u64 0, .int .u64 0, .int .u64 0, .int .u64 0]) := by kernel_rfl
theorem lay140 : lay Tryz.prog 140 = some (false, 1) := by kernel_rfl
theorem und140 : Tryz.prog.underlying 140 = some (.int .u32) := by kernel_rfl
theorem zer140 : zeroV Tryz.prog 140 = some (.int .u32 0) := by kernel_rfl
theorem lay141 : lay Tryz.prog 141 = some (true, 65) := by kernel_rfl
theorem zer141 : zeroV Tryz.prog 141 = some (.agg #[.int .u8 0, .int .u8 0, .int .u8 0, .int .u8 0, .int .u8 0, .int .u8 0, .int .u8 0, .int .u8 0, .int .u8 0, .int .u8 0, .int .u8 0, .int .u8 0, .int .u8 0, .int .u8 0, .int .u8 0, .int .u8 0, .int .u8 0, .int .u8 0, .int .u8 0, .int .u8 0, .int .u8 0, .int .u8 0, .int .u8 0, .int .u8 0, .int .u8 0, .int .u8 0, .int .u8 0, .int .u8 0, .int .u8 0, .int .u8 0, .int .u8 0, .int .u8 0, .int .u8 0, .int .u8 0, .int .u8 0, .int .u8 0, .int .u8 0, .int .u8 0, .int .u8 0, .int .u8 0, .int .u8 0, .int .u8 0, .int .u8 0, .int .u8 0, .int .u8 0, .int .u8 0, .int .u8 0, .int .u8 0, .int .u8 0, .int .u8 0, .int .u8 0, .int .u8 0, .int .u8 0, .int .u8 0, .int .u8 0, .int .u8 0, .int .u8 0, .int .u8 0, .int .u8 0, .int .u8 0, .int .u8 0, .int .u8 0, .int .u8 0, .int .u8 0, .int .u8 0]) := by kernel_rfl
theorem lay144 : lay Tryz.prog 144 = some (false, 1) := by kernel_rfl
theorem zer144 : zeroV Tryz.prog 144 = some (.pointer none) := by kernel_rfl
theorem lay147 : lay Tryz.prog 147 = some (true, 256) := by kernel_rfl
theorem zer147 : zeroV Tryz.prog 147 = some (.agg #[.int .u8 0, .int .u8 0, .int .u8 0, .int .u8 0, .int .u8 0, .int .u8 0, .int .u8 0, .int .u8 0, .int .u8 0, .int .u8 0, .int .u8 0, .int .u8 0, .int .u8 0, .int .u8 0, .int .u8 0, .int .u8 0, .int .u8 0, .int .u8 0, .int .u8 0, .int .u8 0, .int .u8 0, .int .u8 0, .int .u8 0, .int .u8 0, .int .u8 0, .int .u8 0, .int .u8 0, .int .u8 0, .int .u8 0, .int .u8 0, .int .u8 0, .int .u8 0, .int .u8 0, .int .u8 0, .int .u8 0, .int .u8 0, .int .u8 0, .int .u8 0, .int .u8 0, .int .u8 0, .int .u8 0, .int .u8 0, .int .u8 0, .int .u8 0, .int .u8 0, .int .u8 0, .int .u8 0, .int .u8 0, .int .u8 0, .int .u8 0, .int .u8 0, .int .u8 0, .int .u8 0, .int .u8 0, .int .u8 0, .int .u8 0, .int .u8 0, .int .u8 0, .int .u8 0, .int .u8 0, .int .u8 0, .int .u8 0, .int .u8 0, .int .u8 0, .int .u8 0, .int .u8 0, .int .u8 0, .int .u8 0, .int .u8 0, .int .u8 0, .int .u8 0, .int .u8 0, .int .u8 0, .int .u8 0, .int .u8 0, .int .u8 0, .int .u8 0, .int .u8 0, .int .u8 0, .int .u8 0, .int .u8 0, .int .u8 0, .int .u8 0, .int .u8 0, .int .u8 0, .int .u8 0, .int .u8 0, .int .u8 0, .int .u8 0, .int .u8 0, .int .u8 0, .int .u8 0, .int .u8 0, .int .u8 0, .int .u8 0, .int .u8 0, .int .u8 0, .int .u8 0, .int .u8 0, .int .u8 0, .int .u8 0, .int .u8 0, .int .u8 0, .int .u8 0, .int .u8 0, .int .u8 0, .int .u8 0, .int .u8 0, .int .u8 0, .int .u8 0, .int .u8 0, .int .u8 0, .int .u8 0, .int .u8 0, .int .u8 0, .int .u8 0, .int .u8 0, .int .u8 0, .int .u8 0, .int .u8 0, .int .u8 0, .int .u8 0, .int .u8 0, .int .u8 0, .int .u8 0, .int .u8 0, .int .u8 0, .int .u8 0, .int .u8 0, .int .u8 0, .int .u8 0, .int .u8 0, .int .u8 0, .int .u8 0, .int .u8 0, .int .u8 0, .int .u8 0, .int .u8 0, .int .u8 0, .int .u8 0, .int .u8 0, .int .u8 0, .int .u8 0, .int .u8 0, .int .u8 0, .int .u8 0, .int .u8 0, .int .u8 0, .int .u8 0, .int .u8 0, .int .u8 0, .int .u8 0, .int .u8 0, .int .u8 0, .int .u8 0, .int .u8 0, .int .u8 0, .int .u8 0, .int .u8 0, .int .u8 0, .int .u8 0, .int .u8 0, .int .u8 0, .int .u8 0, .int .u8 0, .int .u8 0, .int .u8 0, .int .u8 0, .int .u8 0, .int .u8 0, .int .u8 0, .int .u8 0, .int .u8 0, .int .u8 0, .int .u8 0, .int .u8 0, .int .u8 0, .int .u8 0, .int .u8 0, .int .u8 0, .int .u8 0, .int .u8 0, .int .u8 0, .int .u8 0, .int .u8 0, .int .u8 0, .int .u8 0, .int .u8 0, .int .u8 0, .int .u8 0, .int .u8 0, .int .u8 0, .int .u8 0, .int .u8 0, .int .u8 0, .int .u8 0, .int .u8 0, .int .u8 0, .int .u8 0, .int .u8 0, .int .u8 0, .int .u8 0, .int .u8 0, .int .u8 0, .int .u8 0, .int .u8 0, .int .u8 0, .int .u8 0, .int .u8 0, .int .u8 0, .int .u8 0, .int .u8 0, .int .u8 0, .int .u8 0, .int .u8 0, .int .u8 0, .int .u8 0, .int .u8 0, .int .u8 0, .int .u8 0, .int .u8 0, .int .u8 0, .int .u8 0, .int .u8 0, .int .u8 0, .int .u8 0, .int .u8 0, .int .u8 0, .int .u8 0, .int .u8 0, .int .u8 0, .int .u8 0, .int .u8 0, .int .u8 0, .int .u8 0, .int .u8 0, .int .u8 0, .int .u8 0, .int .u8 0, .int .u8 0, .int .u8 0, .int .u8 0, .int .u8 0, .int .u8 0, .int .u8 0, .int .u8 0, .int .u8 0, .int .u8 0, .int .u8 0, .int .u8 0, .int .u8 0, .int .u8 0, .int .u8 0, .int .u8 0, .int .u8 0, .int .u8 0]) := by kernel_rfl
theorem lay149 : lay Tryz.prog 149 = some (true, 2) := by kernel_rfl
theorem fld149_0 : fldOff Tryz.prog 149 0 = some 0 := by kernel_rfl
theorem fla149_0 : fldAt Tryz.prog 149 0 = some (0, false, 1) := by kernel_rfl
theorem fld149_1 : fldOff Tryz.prog 149 1 = some 1 := by kernel_rfl
theorem fla149_1 : fldAt Tryz.prog 149 1 = some (1, false, 1) := by kernel_rfl
theorem str149 : strT Tryz.prog 149 = some ([.int .u8 0, .int .u8 0], [(0, 1), (1, 1)]) := by kernel_rfl
theorem zer149 : zeroV Tryz.prog 149 = some (.agg #[.int .u8 0, .int .u8 0]) := by kernel_rfl
theorem lay150 : lay Tryz.prog 150 = some (true, 32) := by kernel_rfl
theorem zer150 : zeroV Tryz.prog 150 = some (.agg #[.int .u8 0, .int .u8 0, .int .u8 0, .int .u8 0, .int .u8 0, .int .u8 0, .int .u8 0, .int .u8 0, .int .u8 0, .int .u8 0, .int .u8 0, .int .u8 0, .int .u8 0, .int .u8 0, .int .u8 0, .int .u8 0, .int .u8 0, .int .u8 0, .int .u8 0, .int .u8 0, .int .u8 0, .int .u8 0, .int .u8 0, .int .u8 0, .int .u8 0, .int .u8 0, .int .u8 0, .int .u8 0, .int .u8 0, .int .u8 0, .int .u8 0, .int .u8 0]) := by kernel_rfl
theorem lay153 : lay Tryz.prog 153 = some (false, 1) := by kernel_rfl
theorem zer153 : zeroV Tryz.prog 153 = some (.pointer none) := by kernel_rfl
theorem lay155 : lay Tryz.prog 155 = some (true, 1) := by kernel_rfl
theorem fld155_0 : fldOff Tryz.prog 155 0 = some 0 := by kernel_rfl
theorem fla155_0 : fldAt Tryz.prog 155 0 = some (0, false, 1) := by kernel_rfl
theorem str155 : strT Tryz.prog 155 = some ([.string ⟨#[]⟩], [(0, 1)]) := by kernel_rfl
theorem zer155 : zeroV Tryz.prog 155 = some (.agg #[.string ⟨#[]⟩]) := by kernel_rfl
theorem lay157 : lay Tryz.prog 157 = some (true, 32) := by kernel_rfl
theorem zer157 : zeroV Tryz.prog 157 = some (.agg #[.int .u8 0, .int .u8 0, .int .u8 0, .int .u8 0, .int .u8 0, .int .u8 0, .int .u8 0, .int .u8 0, .int .u8 0, .int .u8 0, .int .u8 0, .int .u8 0, .int .u8 0, .int .u8 0, .int .u8 0, .int .u8 0, .int .u8 0, .int .u8 0, .int .u8 0, .int .u8 0, .int .u8 0, .int .u8 0, .int .u8 0, .int .u8 0, .int .u8 0, .int .u8 0, .int .u8 0, .int .u8 0, .int .u8 0, .int .u8 0, .int .u8 0, .int .u8 0]) := by kernel_rfl
theorem lay158 : lay Tryz.prog 158 = some (true, 64) := by kernel_rfl
theorem zer158 : zeroV Tryz.prog 158 = some (.agg #[.int .u8 0, .int .u8 0, .int .u8 0, .int .u8 0, .int .u8 0, .int .u8 0, .int .u8 0, .int .u8 0, .int .u8 0, .int .u8 0, .int .u8 0, .int .u8 0, .int .u8 0, .int .u8 0, .int .u8 0, .int .u8 0, .int .u8 0, .int .u8 0, .int .u8 0, .int .u8 0, .int .u8 0, .int .u8 0, .int .u8 0, .int .u8 0, .int .u8 0, .int .u8 0, .int .u8 0, .int .u8 0, .int .u8 0, .int .u8 0, .int .u8 0, .int .u8 0, .int .u8 0, .int .u8 0, .int .u8 0, .int .u8 0, .int .u8 0, .int .u8 0, .int .u8 0, .int .u8 0, .int .u8 0, .int .u8 0, .int .u8 0, .int .u8 0, .int .u8 0, .int .u8 0, .int .u8 0, .int .u8 0, .int .u8 0, .int .u8 0, .int .u8 0, .int .u8 0, .int .u8 0, .int .u8 0, .int .u8 0, .int .u8 0, .int .u8 0, .int .u8 0, .int .u8 0, .int .u8 0, .int .u8 0, .int .u8 0, .int .u8 0, .int .u8 0]) := by kernel_rfl
theorem eqA72 (d : Nat) (w : World) (a_0 : Int) (a_1 : Int) (b_0 : Int) (b_1 : Int) : (Op.equalIn (d + 2) 72 (.agg #[.int .i64 a_0, .int .i64 a_1]) (.agg #[.int .i64 b_0, .int .i64 b_1])).run Tryz.prog w = .ok ((a_0 == b_0) && (a_1 == b_1)) w := by
  refine eqs_of Tryz.underlying72 (by kernel_rfl) ?_
  refine eqf_more (by rfl) (by go_simp; try rfl) (by go_simp; try rfl) (by go_simp) ?_
  exact eqf_one (by rfl) (by go_simp; try rfl) (by go_simp; try rfl) (by go_simp)
theorem eql72 (xo yo : Operand) (a_0 : Int) (a_1 : Int) (b_0 : Int) (b_1 : Int) : binS Tryz.prog .eql 72 xo yo (.agg #[.int .i64 a_0, .int .i64 a_1]) (.agg #[.int .i64 b_0, .int .i64 b_1]) = some (.bool (((a_0 == b_0) && (a_1 == b_1)))) := eql_of 2 (by decide) (by simp [pureV, flatV]) (by simp [pureV, flatV]) (by kernel_rfl) fun d w => eqA72 d w _ _ _ _
theorem neq72 (xo yo : Operand) (a_0 : Int) (a_1 : Int) (b_0 : Int) (b_1 : Int) : binS Tryz.prog .neq 72 xo yo (.agg #[.int .i64 a_0, .int .i64 a_1]) (.agg #[.int .i64 b_0, .int .i64 b_1]) = some (.bool (!((a_0 == b_0) && (a_1 == b_1)))) := neq_of 2 (by decide) (by simp [pureV, flatV]) (by simp [pureV, flatV]) (by kernel_rfl) fun d w => eqA72 d w _ _ _ _
theorem tys : type_of% (And.intro (And.intro (And.intro (And.intro (And.intro (And.intro (And.intro (@lay2) (@und2)) (And.intro (@zer2) (@lay3))) (And.intro (And.intro (@und3) (@zer3)) (And.intro (@lay4) (And.intro (@und4) (@zer4))))) (And.intro (And.intro (And.intro (@lay5) (@und5)) (And.intro (@zer5) (And.intro (@lay9) (@und9)))) (And.intro (And.intro (@zer9) (@lay21)) (And.intro (@und21) (And.intro (@zer21) (@lay22)))))) (And.intro (And.intro (And.intro (And.intro (@elZ22) (@zOk22)) (And.intro (@zer22) (@lay24))) (And.intro (And.intro (@elZ24) (@zOk24)) (And.intro (@zer24) (And.intro (@lay25) (@elZ25))))) (And.intro (And.intro (And.intro (@zOk25) (@zer25)) (And.intro (@lay27) (And.intro (@fld27_0) (@fla27_0)))) (And.intro (And.intro (@fld27_1) (@fla27_1)) (And.intro (@str27) (And.intro (@zer27) (@lay28))))))) (And.intro (And.intro (And.intro (And.intro (And.intro (@elZ28) (@zOk28)) (And.intro (@zer28) (@lay30))) (And.intro (And.intro (@fld30_0) (@fla30_0)) (And.intro (@fld30_1) (And.intro (@fla30_1) (@fld30_2))))) (And.intro (And.intro (And.intro (@fla30_2) (@str30)) (And.intro (@zer30) (And.intro (@lay36) (@fld36_0)))) (And.intro (And.intro (@fla36_0) (@fld36_1)) (And.intro (@fla36_1) (And.intro (@str36) (@zer36)))))) (And.intro (And.intro (And.intro (And.intro (@lay39) (@fld39_0)) (And.intro (@fla39_0) (And.intro (@fld39_1) (@fla39_1)))) (And.intro (And.intro (@str39) (@zer39)) (And.intro (@lay44) (And.intro (@fld44_0) (@fla44_0))))) (And.intro (And.intro (And.intro (@fld44_1) (@fla44_1)) (And.intro (@fld44_2) (And.intro (@fla44_2) (@str44)))) (And.intro (And.intro (@zer44) (@lay72)) (And.intro (@fld72_0) (And.intro (@fla72_0) (@fld72_1)))))))) (And.intro (And.intro (And.intro (And.intro (And.intro (And.intro (@fla72_1) (@str72)) (And.intro (@zer72) (@lay74))) (And.intro (And.intro (@fld74_0) (@fla74_0)) (And.intro (@fld74_1) (And.intro (@fla74_1) (@str74))))) (And.intro (And.intro (And.intro (@zer74) (@lay97)) (And.intro (@zer97) (And.intro (@lay106) (@zer106)))) (And.intro (And.intro (@lay108) (@fld108_0)) (And.intro (@fla108_0) (And.intro (@fld108_1) (@fla108_1)))))) (And.intro (And.intro (And.intro (And.intro (@str108) (@zer108)) (And.intro (@lay117) (And.intro (@und117) (@zer117)))) (And.intro (And.intro (@lay118) (@und118)) (And.intro (@zer118) (And.intro (@lay121) (@und121))))) (And.intro (And.intro (And.intro (@zer121) (@lay122)) (And.intro (@zer122) (And.intro (@lay126) (@zer126)))) (And.intro (And.intro (@lay131) (@zer131)) (And.intro (@lay136) (And.intro (@fld136_0) (@fla136_0))))))) (And.intro (And.intro (And.intro (And.intro (And.intro (@fld136_1) (@fla136_1)) (And.intro (@fld136_2) (@fla136_2))) (And.intro (And.intro (@str136) (@zer136)) (And.intro (@lay139) (And.intro (@zer139) (@lay140))))) (And.intro (And.intro (And.intro (@und140) (@zer140)) (And.intro (@lay141) (And.intro (@zer141) (@lay144)))) (And.intro (And.intro (@zer144) (@lay147)) (And.intro (@zer147) (And.intro (@lay149) (@fld149_0)))))) (And.intro (And.intro (And.intro (And.intro (@fla149_0) (@fld149_1)) (And.intro (@fla149_1) (And.intro (@str149) (@zer149)))) (And.intro (And.intro (@lay150) (@zer150)) (And.intro (@lay153) (And.intro (@zer153) (@lay155))))) (And.intro (And.intro (And.intro (@fld155_0) (@fla155_0)) (And.intro (@str155) (And.intro (@zer155) (@lay157)))) (And.intro (And.intro (@zer157) (@lay158)) (And.intro (@zer158) (And.intro (@eql72) (@neq72))))))))) := And.intro (And.intro (And.intro (And.intro (And.intro (And.intro (And.intro (@lay2) (@und2)) (And.intro (@zer2) (@lay3))) (And.intro (And.intro (@und3) (@zer3)) (And.intro (@lay4) (And.intro (@und4) (@zer4))))) (And.intro (And.intro (And.intro (@lay5) (@und5)) (And.intro (@zer5) (And.intro (@lay9) (@und9)))) (And.intro (And.intro (@zer9) (@lay21)) (And.intro (@und21) (And.intro (@zer21) (@lay22)))))) (And.intro (And.intro (And.intro (And.intro (@elZ22) (@zOk22)) (And.intro (@zer22) (@lay24))) (And.intro (And.intro (@elZ24) (@zOk24)) (And.intro (@zer24) (And.intro (@lay25) (@elZ25))))) (And.intro (And.intro (And.intro (@zOk25) (@zer25)) (And.intro (@lay27) (And.intro (@fld27_0) (@fla27_0)))) (And.intro (And.intro (@fld27_1) (@fla27_1)) (And.intro (@str27) (And.intro (@zer27) (@lay28))))))) (And.intro (And.intro (And.intro (And.intro (And.intro (@elZ28) (@zOk28)) (And.intro (@zer28) (@lay30))) (And.intro (And.intro (@fld30_0) (@fla30_0)) (And.intro (@fld30_1) (And.intro (@fla30_1) (@fld30_2))))) (And.intro (And.intro (And.intro (@fla30_2) (@str30)) (And.intro (@zer30) (And.intro (@lay36) (@fld36_0)))) (And.intro (And.intro (@fla36_0) (@fld36_1)) (And.intro (@fla36_1) (And.intro (@str36) (@zer36)))))) (And.intro (And.intro (And.intro (And.intro (@lay39) (@fld39_0)) (And.intro (@fla39_0) (And.intro (@fld39_1) (@fla39_1)))) (And.intro (And.intro (@str39) (@zer39)) (And.intro (@lay44) (And.intro (@fld44_0) (@fla44_0))))) (And.intro (And.intro (And.intro (@fld44_1) (@fla44_1)) (And.intro (@fld44_2) (And.intro (@fla44_2) (@str44)))) (And.intro (And.intro (@zer44) (@lay72)) (And.intro (@fld72_0) (And.intro (@fla72_0) (@fld72_1)))))))) (And.intro (And.intro (And.intro (And.intro (And.intro (And.intro (@fla72_1) (@str72)) (And.intro (@zer72) (@lay74))) (And.intro (And.intro (@fld74_0) (@fla74_0)) (And.intro (@fld74_1) (And.intro (@fla74_1) (@str74))))) (And.intro (And.intro (And.intro (@zer74) (@lay97)) (And.intro (@zer97) (And.intro (@lay106) (@zer106)))) (And.intro (And.intro (@lay108) (@fld108_0)) (And.intro (@fla108_0) (And.intro (@fld108_1) (@fla108_1)))))) (And.intro (And.intro (And.intro (And.intro (@str108) (@zer108)) (And.intro (@lay117) (And.intro (@und117) (@zer117)))) (And.intro (And.intro (@lay118) (@und118)) (And.intro (@zer118) (And.intro (@lay121) (@und121))))) (And.intro (And.intro (And.intro (@zer121) (@lay122)) (And.intro (@zer122) (And.intro (@lay126) (@zer126)))) (And.intro (And.intro (@lay131) (@zer131)) (And.intro (@lay136) (And.intro (@fld136_0) (@fla136_0))))))) (And.intro (And.intro (And.intro (And.intro (And.intro (@fld136_1) (@fla136_1)) (And.intro (@fld136_2) (@fla136_2))) (And.intro (And.intro (@str136) (@zer136)) (And.intro (@lay139) (And.intro (@zer139) (@lay140))))) (And.intro (And.intro (And.intro (@und140) (@zer140)) (And.intro (@lay141) (And.intro (@zer141) (@lay144)))) (And.intro (And.intro (@zer144) (@lay147)) (And.intro (@zer147) (And.intro (@lay149) (@fld149_0)))))) (And.intro (And.intro (And.intro (And.intro (@fla149_0) (@fld149_1)) (And.intro (@fla149_1) (And.intro (@str149) (@zer149)))) (And.intro (And.intro (@lay150) (@zer150)) (And.intro (@lay153) (And.intro (@zer153) (@lay155))))) (And.intro (And.intro (And.intro (@fld155_0) (@fla155_0)) (And.intro (@str155) (And.intro (@zer155) (@lay157)))) (And.intro (And.intro (@zer157) (@lay158)) (And.intro (@zer158) (And.intro (@eql72) (@neq72))))))))
end Go.BM
/- The engine: texts C20, C21, C22, C23, C24, C25. -/
/- The data of the program, as Lean structures, and how they lie in cells. -/
set_option linter.unusedVariables false
namespace Go.BM
structure TSign where
  key : Int
  id : Int
  deriving DecidableEq
def signE : Enc TSign := ⟨fun x => .agg #[.int .i64 x.key, .int .i64 x.id], 2, true, fun _ => rfl, fun _ => rfl, by decide, fun _ => Ok.cons (.int _ _) (Ok.cons (.int _ _) (Ok.nil))⟩
theorem signE_sz : signE.sz = 2 := rfl
theorem signE_val (x : TSign) : signE.val x = .agg #[.int .i64 x.key, .int .i64 x.id] := rfl
structure TRef where
  tx : Int
  at' : Int
  deriving DecidableEq
def refE : Enc TRef := ⟨fun x => .agg #[.int .i64 x.tx, .int .i64 x.at'], 2, true, fun _ => rfl, fun _ => rfl, by decide, fun _ => Ok.cons (.int _ _) (Ok.cons (.int _ _) (Ok.nil))⟩
theorem refE_sz : refE.sz = 2 := rfl
theorem refE_val (x : TRef) : refE.val x = .agg #[.int .i64 x.tx, .int .i64 x.at'] := rfl
structure TNode where
  id : Int
  prev : Int
  height : Int
  deriving DecidableEq
def nodeE : Enc TNode := ⟨fun x => .agg #[.int .i64 x.id, .int .i64 x.prev, .int .i64 x.height], 3, true, fun _ => rfl, fun _ => rfl, by decide, fun _ => Ok.cons (.int _ _) (Ok.cons (.int _ _) (Ok.cons (.int _ _) (Ok.nil)))⟩
structure TLedger where
  texts : List ByteArray
  signs : List TSign
  deriving DecidableEq
def ledgerE : Enc TLedger := ⟨fun x => .agg #[islE strE x.texts, islE signE x.signs], 2, true, fun _ => rfl, fun _ => rfl, by decide, fun _ => Ok.cons (islE_ok _ _) (Ok.cons (islE_ok _ _) (Ok.nil))⟩
theorem ledgerE_sz : ledgerE.sz = 2 := rfl
theorem ledgerE_val (x : TLedger) : ledgerE.val x = .agg #[islE strE x.texts, islE signE x.signs] := rfl
structure TRule where
  keys : List Int
  need : Int
  after : Int
  deriving DecidableEq
def ruleE : Enc TRule := ⟨fun x => .agg #[islE intE x.keys, .int .i64 x.need, .int .i64 x.after], 3, true, fun _ => rfl, fun _ => rfl, by decide, fun _ => Ok.cons (islE_ok _ _) (Ok.cons (.int _ _) (Ok.cons (.int _ _) (Ok.nil)))⟩
theorem ruleE_sz : ruleE.sz = 3 := rfl
theorem ruleE_val (x : TRule) : ruleE.val x = .agg #[islE intE x.keys, .int .i64 x.need, .int .i64 x.after] := rfl
structure TOut where
  value : Int
  rule : TRule
  deriving DecidableEq
def outE : Enc TOut := ⟨fun x => .agg #[.int .i64 x.value, islE intE x.rule.keys, .int .i64 x.rule.need, .int .i64 x.rule.after], 4, true, fun _ => rfl, fun _ => rfl, by decide, fun _ => Ok.cons (.int _ _) (Ok.cons (islE_ok _ _) (Ok.cons (.int _ _) (Ok.cons (.int _ _) (Ok.nil))))⟩
structure TQuorum where
  keys : List Int
  need : Int
  deriving DecidableEq
def quorumE : Enc TQuorum := ⟨fun x => .agg #[islE intE x.keys, .int .i64 x.need], 2, true, fun _ => rfl, fun _ => rfl, by decide, fun _ => Ok.cons (islE_ok _ _) (Ok.cons (.int _ _) (Ok.nil))⟩
theorem quorumE_sz : quorumE.sz = 2 := rfl
theorem quorumE_val (x : TQuorum) : quorumE.val x = .agg #[islE intE x.keys, .int .i64 x.need] := rfl
structure TIntsResult where
  code : Int
  list : List Int
  deriving DecidableEq
structure TTextResult where
  code : Int
  text : ByteArray
  deriving DecidableEq
def textResultE : Enc TTextResult := ⟨fun x => .agg #[.int .i64 x.code, .string x.text], 2, true, fun _ => rfl, fun _ => rfl, by decide, fun _ => Ok.cons (.int _ _) (Ok.cons (.str _) (Ok.nil))⟩
theorem textResultE_sz : textResultE.sz = 2 := rfl
theorem textResultE_val (x : TTextResult) : textResultE.val x = .agg #[.int .i64 x.code, .string x.text] := rfl
structure TLedgerResult where
  code : Int
  id : Int
  ledger : TLedger
  deriving DecidableEq
def ledgerResultE : Enc TLedgerResult := ⟨fun x => .agg #[.int .i64 x.code, .int .i64 x.id, islE strE x.ledger.texts, islE signE x.ledger.signs], 4, true, fun _ => rfl, fun _ => rfl, by decide, fun _ => Ok.cons (.int _ _) (Ok.cons (.int _ _) (Ok.cons (islE_ok _ _) (Ok.cons (islE_ok _ _) (Ok.nil))))⟩
theorem ledgerResultE_val (x : TLedgerResult) : ledgerResultE.val x = .agg #[.int .i64 x.code, .int .i64 x.id, islE strE x.ledger.texts, islE signE x.ledger.signs] := rfl
end Go.BM

/- Trees, as plain lists. -/
set_option linter.unusedVariables false
namespace Go.BM

def inB (a b c : Int) : Bool := decide (b ≤ a) && decide (a ≤ c)
def ndAt (xs : List TNode) (id : Int) : Int := findI (fun n => n.id == id) xs
def hOf (xs : List TNode) (i : Int) : Int := ((xs[i.toNat]?).getD ⟨0, 0, 0⟩).height
def upOf (xs : List TNode) (prev : Int) : Int := if (prev == 0) then 1 else if decide (ndAt xs prev < 0) then 1 else IntKind.i64.wrap (hOf xs (ndAt xs prev) + 1)
def nodeFault (xs : List TNode) (n : TNode) : Int :=
  if !inB n.id 1 60 || !inB n.height 1 40 then 3
  else if decide (0 ≤ ndAt xs n.id) then 7
  else if !(n.prev == 0) && decide (ndAt xs n.prev < 0) then 4
  else if !(n.height == upOf xs n.prev) then 1 else 0
/-- A tree without a fault. -/
structure Right (xs : List TNode) : Prop where
  len : xs.length ≤ 60
  ok : ∀ k (hk : k < xs.length), nodeFault (xs.take k) xs[k] = 0
section
variable {xs : List TNode} (R : Right xs)
include R
end

section
variable {xs : List TNode} (R : Right xs)
include R
end
end Go.BM

/- Quorums: plain facts; slices of what is ours; a list thinned in its place. -/
set_option linter.unusedVariables false
set_option linter.unusedSimpArgs false
namespace Go.BM
open Go.RowKit
section
variable {P : Program} {B : Nat} {H : AH} {α : Type} {E : Enc α}
theorem slV_ownHi {t el by_ r ver i n : Nat} {kd : IntKind} {b : Blk} (hz : elZ P t = some (el, E.sz, by_)) (hb : H[r]? = some b) (hv : b.ver = ver) (ho : b.own = true) (hs : b.sz = E.sz) (hi : i ≤ n) :
    slV P H t (.slice (some ⟨r, 0, none⟩) n ver) none (some (.int kd (i : Int))) none = some (.slice (some ⟨r, 0, some n⟩) i ver) := by
  rw [slV_own, hz, hb]
  simp only [Option.bind_some, boundV, Option.getD_none]
  rw [if_pos ⟨hv, ho, hs, by omega, by omega, by omega, by omega, by simp⟩]
  have e1 : ((i : Int) - 0).toNat = i := by omega
  have e2 : ((n : Int) - 0).toNat = n := by omega
  rw [e1, e2]
  simp
end
/-! ### thinning -/
/-! ### quorums -/
def keysB (xs : List Int) : Bool := xs.all fun a => inB a 1 999
def risB : List Int → Bool
  | a :: b :: l => decide (a < b) && risB (b :: l)
  | _ => true
theorem risB_iff : ∀ xs : List Int, risB xs = true ↔ ∀ k (h : k + 1 < xs.length), xs[k] < xs[k + 1]
  | [] => by simp [risB]
  | [a] => by simp [risB]
  | a :: b :: l => by
    have ih := risB_iff (b :: l)
    simp only [risB, Bool.and_eq_true, decide_eq_true_eq, ih]
    constructor
    · rintro ⟨h1, h2⟩ k hk
      cases k with
      | zero => exact h1
      | succ k => exact h2 k (by simpa using hk)
    · intro h
      exact ⟨h 0 (by simp), fun k hk => h (k + 1) (by simpa using hk)⟩
theorem risB_false {xs : List Int} {k : Nat} (h : k + 1 < xs.length) (h2 : xs[k + 1] ≤ xs[k]) : risB xs = false := by
  cases hr : risB xs with
  | false => rfl
  | true => have := (risB_iff xs).1 hr k h; omega
theorem keysB_false {xs : List Int} {k : Nat} (hk : k < xs.length) (h : inB xs[k] 1 999 = false) : keysB xs = false := by
  unfold keysB
  rw [List.all_eq_false]
  exact ⟨xs[k], List.getElem_mem hk, by simp [h]⟩
theorem keysB_true {xs : List Int} (h : ∀ k (hk : k < xs.length), inB xs[k] 1 999 = true) : keysB xs = true := by
  unfold keysB
  rw [List.all_eq_true]
  intro x hx
  obtain ⟨k, hk, rfl⟩ := List.getElem_of_mem hx
  exact h k hk
end Go.BM

/- A contract in an empty heap, used anywhere: what is handed back stands behind our blocks. -/
set_option linter.unusedVariables false
set_option linter.unusedSimpArgs false
namespace Go.BM
open Go.RowKit

/-- A value handed back, with the numbers of its blocks made anew. -/
inductive Lif (N : AH) (ρ : Nat → Nat) (q : Nat → Prop) (k : Nat) : Value → Value → Prop
  | flat (v : Value) (h : flatV v = true) : Lif N ρ q k v v
  | nil : Lif N ρ q k (.slice none 0 0) (.slice none 0 0)
  | gone (r off : Nat) (sp : Option Nat) (ver : Nat) (b : Blk) (h : N[r]? = some b) (hv : b.ver = ver) (ho : b.own = false) : Lif N ρ q k (.slice (some ⟨r, off, sp⟩) 0 ver) (.slice none 0 0)
  | slice (i off : Nat) (sp : Option Nat) (len ver : Nat) (hi : q i) : Lif N ρ q k (.slice (some ⟨ρ i, off, sp⟩) len ver) (.slice (some ⟨k + i, off, sp⟩) len ver)
  | agg (xs ys : Array Value) (hs : xs.size = ys.size) (h : ∀ i (h1 : i < xs.size) (h2 : i < ys.size), Lif N ρ q k xs[i] ys[i]) : Lif N ρ q k (.agg xs) (.agg ys)
  | tuple (xs ys : Array Value) (hs : xs.size = ys.size) (h : ∀ i (h1 : i < xs.size) (h2 : i < ys.size), Lif N ρ q k xs[i] ys[i]) : Lif N ρ q k (.tuple xs) (.tuple ys)

/-- A block handed back. -/
structure LifB (N : AH) (ρ : Nat → Nat) (q : Nat → Prop) (k : Nat) (b b' : Blk) : Prop where
  el : b'.el = b.el
  sz : b'.sz = b.sz
  ver : b'.ver = b.ver
  own : b'.own = b.own
  len : b'.cs.length ≤ b.cs.length
  cs : ∀ (j : Nat) v', b'.cs[j]? = some v' → ∃ v, b.cs[j]? = some v ∧ Lif N ρ q k v v'

section
variable {P : Program} {σ σ' σ'' : Sg} {N M H : AH} {ρ : Nat → Nat} {q : Nat → Prop} {k : Nat}

theorem lif_vr (hM : ∀ i, q i → ∃ b b', N[ρ i]? = some b ∧ M[i]? = some b' ∧ LifB N ρ q k b b') (hk : H.length = k) (hσ : ∀ i, q i → σ'' (k + i) = σ' (ρ i))
    {d d' : Value} (h : Lif N ρ q k d d') : ∀ v, VR σ' N v d → VR σ'' (H ++ M) v d' := by
  have get : ∀ i, q i → (H ++ M)[k + i]? = M[i]? := fun i hi => by subst hk; rw [List.getElem?_append_right (by omega), Nat.add_sub_cancel_left]
  induction h with
  | flat d h => 
    intro v hv
    have := hv.im (σ' := σ'') (H' := H ++ M) (.flat _ h)
    cases hv with
    | flat _ _ => exact .flat _ h
    | tuple xs ys hs h' =>
      have h0 : ys.size = 0 := by simpa [flatV] using h
      exact .tuple xs ys hs fun i h1 h2 => by omega
    | _ => simp [flatV] at h
  | nil =>
    intro v hv
    cases hv with
    | flat _ h => simp [flatV] at h
    | mt a _ _ hd => exact .mt a none 0 hd
  | gone r off sp ver b hb hbv hbo =>
    intro v hv
    cases hv with
    | flat _ h => simp [flatV] at h
    | mt a _ _ hd => exact .mt a none 0 (fun x hx => by cases hx)
    | slice _ _ _ cap _ _ blk h hv ho hl hsp hm hc => rw [hb] at h; cases h; rw [hbo] at ho; cases ho
    | stale _ _ _ _ _ blk h hv a l c => rw [hb] at h; cases h; omega
  | slice i off sp len ver hi =>
    intro v hv
    obtain ⟨b, b', h1, h2, hb⟩ := hM i hi
    cases hv with
    | flat _ h => simp [flatV] at h
    | mt a _ _ hd =>
      have hs := hd ⟨ρ i, off, sp⟩ rfl
      exact .mt a _ _ fun x hx => by cases hx; exact hs
    | slice _ _ _ cap _ _ blk h hv ho hl hsp hm hc =>
      rw [h1] at h
      cases h
      rw [← hσ i hi] at hc ⊢
      exact .slice (k + i) off len cap ver sp b' (by rw [get i hi]; exact h2) (hb.ver.trans hv) (hb.own.trans ho) hl hsp hm (by rw [hb.sz]; exact hc)
    | stale _ _ _ _ _ blk h hv a l c =>
      rw [h1] at h
      cases h
      exact .stale (k + i) off len ver sp b' (by rw [get i hi]; exact h2) (by rw [hb.ver]; exact hv) a l c
  | agg xs ys hs h ih =>
    intro v hv
    obtain ⟨zs, rfl, hz, hv⟩ := hv.aggI
    exact .agg _ _ (hz.trans hs) fun i h1 h2 => ih i (by omega) h2 _ (hv i h1 (by omega))
  | tuple xs ys hs h ih =>
    intro v hv
    obtain ⟨zs, rfl, hz, hv⟩ := hv.tupleI
    exact .tuple _ _ (hz.trans hs) fun i h1 h2 => ih i (by omega) h2 _ (hv i h1 (by omega))

/-- A call by its contract in an empty heap, with lent arguments: of what it made stands what is handed back, and no more. -/
theorem ACalls.lift {f : FuncId} {args args' : List Value} {post post' : Value → AH → Prop} (h : ACalls P 0 f args' [] post) (hb : BorL H args args')
    (hp : ∀ d N, post d N → ∃ (ρ : Nat → Nat) (q : Nat → Prop) (M : AH) (d' : Value), (∀ i j, q i → q j → ρ i = ρ j → i = j) ∧ Lif N ρ q H.length d d' ∧ (∀ i b', M[i]? = some b' → b'.own = true → q i) ∧
      (∀ i, q i → ∃ b b', N[ρ i]? = some b ∧ M[i]? = some b' ∧ LifB N ρ q H.length b b') ∧ post' d' (H ++ M)) : ACalls P H.length f args H post' :=
  ⟨h.1, fun σ w vals hS hB hvl => (h.2 (snap σ H w) w vals (snap_sim hS) (Nat.le_refl _) (hb.vr hS _ hvl)).mono fun e w' ⟨v, he, σ', N, d, F, S, V, hd⟩ => by
    obtain ⟨ρ, q, M, d', hinj, hl, hown, hM, hpost⟩ := hp d N hd
    have b := F.below0
    have hnew : ∀ i, q i → ∀ nb, N[ρ i]? = some nb → nb.own = true → w.heap.size ≤ (σ' (ρ i)).b := fun i hi nb h1 h2 => by
      rcases F.loc (ρ i) nb h1 h2 with ⟨b0, g, _⟩ | g
      · simp at g
      · exact g
    let σ'' : Sg := ⟨fun q => if q < H.length then σ q else σ' (ρ (q - H.length)), σ.im⟩
    have so : ∀ q, q < H.length → σ'' q = σ q := fun q hq => if_pos hq
    have sn : ∀ i, σ'' (H.length + i) = σ' (ρ i) := fun i => by show (if _ then _ else _) = _; rw [if_neg (by omega), Nat.add_sub_cancel_left]
    have old : ∀ r blk, (H ++ M)[r]? = some blk → r < H.length → H[r]? = some blk := fun r blk h1 h2 => by rwa [List.getElem?_append_left h2] at h1
    have new : ∀ r blk, (H ++ M)[r]? = some blk → ¬ r < H.length → blk.own = true → ∃ i, r = H.length + i ∧ q i ∧ M[i]? = some blk := fun r blk h1 h2 h3 => by
      rw [List.getElem?_append_right (by omega)] at h1
      exact ⟨r - H.length, by omega, hown _ _ h1 h3, h1⟩
    have F2 : Fut H.length σ H w σ'' (H ++ M) w' := {
      os := b.os
      tape := b.tape
      output := b.output
      size := b.size
      frame := fun k hk _ => b.block k hk
      pre := fun r hr => List.getElem?_append_left hr
      preσ := fun r hr _ => so r hr
      keep := fun r blk h => ⟨blk, by rw [List.getElem?_append_left (lt_of_some h)]; exact h, Nat.le_refl _, fun _ => ⟨so r (lt_of_some h), rfl, rfl⟩⟩
      loc := fun r blk' hr ho => by
        by_cases hlt : r < H.length
        · exact .inl ⟨blk', old r blk' hr hlt, ho, so r hlt⟩
        · obtain ⟨i, rfl, hi, hmi⟩ := new r blk' hr hlt ho
          obtain ⟨nb, nb', h1, h2, h3⟩ := hM i hi
          rw [hmi] at h2
          cases h2
          exact .inr (by rw [sn]; exact hnew i hi nb h1 (h3.own.symm.trans ho))
      imk := fun _ _ h => h
      imn := fun _ _ h => .inl h }
    have S2 : Sim σ'' (H ++ M) w' := ⟨fun r blk hr ho => by
        by_cases hlt : r < H.length
        · have hr' := old r blk hr hlt
          obtain ⟨c, h1, h2, h3, h4, h5⟩ := hS.own r blk hr' ho
          refine ⟨c, by rw [so r hlt, b.block _ (hS.lt hr' ho)]; exact h1, by rw [so r hlt]; exact h2, by rw [so r hlt]; exact h3, h4, fun j v hj => ?_⟩
          obtain ⟨u, a1, a2, a3⟩ := h5 j v hj
          exact ⟨u, a1, a2.fut F2, a3⟩
        · obtain ⟨i, rfl, hi, hmi⟩ := new r blk hr hlt ho
          obtain ⟨nb, nb', h1, h2, h3⟩ := hM i hi
          rw [hmi] at h2
          cases h2
          obtain ⟨c, k1, k2, k3, k4, k5⟩ := S.own (ρ i) nb h1 (h3.own.symm.trans ho)
          refine ⟨c, by rw [sn, h3.el]; exact k1, by rw [sn]; exact k2, by rw [sn]; exact k3, Nat.le_trans h3.len k4, fun j v hj => ?_⟩
          obtain ⟨v0, g1, g2⟩ := h3.cs j v hj
          obtain ⟨u, a1, a2, a3⟩ := k5 j v0 g1
          exact ⟨u, a1, lif_vr (fun i hi => hM i hi) rfl (fun i _ => sn i) g2 _ a2, a3⟩,
      fun a u ha => by
        obtain ⟨h1, h2⟩ := hS.im a u ha
        exact ⟨by rw [b.cell (p := a) (hS.imlt ha)]; exact h1, h2⟩,
      fun a u ha r blk hr ho => by
        by_cases hlt : r < H.length
        · rw [so r hlt]; exact hS.sep a u ha r blk (old r blk hr hlt) ho
        · obtain ⟨i, rfl, hi, hmi⟩ := new r blk hr hlt ho
          obtain ⟨nb, nb', h1, h2, h3⟩ := hM i hi
          rw [hmi] at h2
          cases h2
          rw [sn]
          have := hnew i hi nb h1 (h3.own.symm.trans ho)
          have := hS.imlt ha
          omega,
      fun r r' blk blk' hr hr' hne ho ho' => by
        by_cases hlt : r < H.length
        · have h1 := old r blk hr hlt
          rw [so r hlt]
          by_cases hlt' : r' < H.length
          · rw [so r' hlt']; exact hS.inj r r' blk blk' h1 (old r' blk' hr' hlt') hne ho ho'
          · obtain ⟨i, rfl, hi, hmi⟩ := new r' blk' hr' hlt' ho'
            obtain ⟨nb, nb', g1, g2, g3⟩ := hM i hi
            rw [hmi] at g2
            cases g2
            rw [sn]
            have := hnew i hi nb g1 (g3.own.symm.trans ho')
            have := hS.lt h1 ho
            omega
        · obtain ⟨i, rfl, hi, hmi⟩ := new r blk hr hlt ho
          obtain ⟨nb, nb', g1, g2, g3⟩ := hM i hi
          rw [hmi] at g2
          cases g2
          rw [sn]
          by_cases hlt' : r' < H.length
          · rw [so r' hlt']
            have := hnew i hi nb g1 (g3.own.symm.trans ho)
            have := hS.lt (old r' blk' hr' hlt') ho'
            omega
          · obtain ⟨j, rfl, hj, hmj⟩ := new r' blk' hr' hlt' ho'
            obtain ⟨nc, nc', f1, f2, f3⟩ := hM j hj
            rw [hmj] at f2
            cases f2
            rw [sn]
            exact S.inj (ρ i) (ρ j) nb nc g1 f1 (fun e => hne (by rw [hinj i j hi hj e])) (g3.own.symm.trans ho) (f3.own.symm.trans ho'),
      F2.glob hS⟩
    exact ⟨v, he, σ'', H ++ M, d', F2, S2, lif_vr (fun i hi => hM i hi) rfl (fun i _ => sn i) hl _ V, hpost⟩⟩


/-! ### Who owns what -/
/-- Cells that lead to blocks of their own: each block is told once. 'x': the blocks hold no more than what is told. -/
inductive OwnL (x : Bool) (H : AH) : List Value → List Value → List Nat → Prop
  | nil : OwnL x H [] [] []
  | flat {v : Value} {l l' : List Value} {S : List Nat} (h : flatV v = true) (t : OwnL x H l l' S) : OwnL x H (v :: l) (v :: l') S
  | nils {l l' : List Value} {S : List Nat} (t : OwnL x H l l' S) : OwnL x H (.slice none 0 0 :: l) (isl 0 [] :: l') S
  | emp {r : Nat} {sp : Option Nat} {blk : Blk} {l l' : List Value} {S : List Nat} (h : H[r]? = some blk) (ho : x = true → blk.own = true ∧ blk.cs = []) (t : OwnL x H l l' S) :
      OwnL x H (.slice (some ⟨r, 0, sp⟩) 0 blk.ver :: l) (isl 0 [] :: l') (r :: S)
  | slice {r : Nat} {sp : Option Nat} {len : Nat} {blk : Blk} {cs l l' : List Value} {S T : List Nat} (h : H[r]? = some blk) (ho : blk.own = true) (hl : cs.length ≤ blk.cs.length) (hx : x = true → blk.cs.length = cs.length)
      (hn : len = 0 → cs = []) (hc : OwnL x H (blk.cs.take cs.length) cs S) (t : OwnL x H l l' T) : OwnL x H (.slice (some ⟨r, 0, sp⟩) len blk.ver :: l) (isl len cs :: l') (r :: (S ++ T))
  | agg {xs ys : Array Value} {S T : List Nat} {l l' : List Value} (hx : OwnL x H xs.toList ys.toList S) (t : OwnL x H l l' T) : OwnL x H (.agg xs :: l) (.agg ys :: l') (S ++ T)
  | tup {xs ys : Array Value} {S T : List Nat} {l l' : List Value} (hx : OwnL x H xs.toList ys.toList S) (t : OwnL x H l l' T) : OwnL x H (.tuple xs :: l) (.tuple ys :: l') (S ++ T)

theorem OwnL.bor {x : Bool} {H : AH} {l l' : List Value} {S : List Nat} (h : OwnL x H l l' S) : BorL H l l' := by
  induction h with
  | nil => exact .nil
  | flat h _ ih => exact .cons (.same _ (.flat _ h)) ih
  | nils _ ih => exact .cons .nil ih
  | emp h _ _ ih => exact .cons (.emp _ _ _ _ _ h rfl) ih
  | slice h ho hl hx hn hc t ihc iht => exact .cons (Bor.ownL h rfl ho hn ⟨_, ihc, rfl⟩) iht
  | agg hx _ ihx iht => exact .cons (by simpa using Bor.aggL ihx) iht
  | tup hx _ ihx iht => exact .cons (by simpa using Bor.tupleL ihx) iht
theorem OwnL.frame {x : Bool} {H H' : AH} {l l' : List Value} {S : List Nat} (h : OwnL x H l l' S) : (∀ r ∈ S, H'[r]? = H[r]?) → OwnL x H' l l' S := by
  induction h with
  | nil => exact fun _ => .nil
  | flat h _ ih => exact fun hf => .flat h (ih hf)
  | nils _ ih => exact fun hf => .nils (ih hf)
  | emp h ho _ ih => exact fun hf => .emp (by rw [hf _ (by simp)]; exact h) ho (ih fun r hr => hf r (by simp [hr]))
  | slice h ho hl hx hn hc t ihc iht => exact fun hf => .slice (by rw [hf _ (by simp)]; exact h) ho hl hx hn (ihc fun r hr => hf r (by simp [hr])) (iht fun r hr => hf r (by simp [hr]))
  | agg hx _ ihx iht => exact fun hf => .agg (ihx fun r hr => hf r (by simp [hr])) (iht fun r hr => hf r (by simp [hr]))
  | tup hx _ ihx iht => exact fun hf => .tup (ihx fun r hr => hf r (by simp [hr])) (iht fun r hr => hf r (by simp [hr]))
theorem OwnL.append {x : Bool} {H : AH} {l l' m m' : List Value} {S T : List Nat} (h : OwnL x H l l' S) (k : OwnL x H m m' T) : OwnL x H (l ++ m) (l' ++ m') (S ++ T) := by
  induction h with
  | nil => exact k
  | flat h _ ih => exact .flat h ih
  | nils _ ih => exact .nils ih
  | emp h ho _ ih => exact .emp h ho ih
  | slice h ho hl hx hn hc t ihc iht =>
    simp only [List.cons_append, List.append_assoc]
    exact .slice h ho hl hx hn hc iht
  | agg hx _ ihx iht =>
    rw [List.append_assoc]
    exact .agg hx iht
  | tup hx _ ihx iht =>
    rw [List.append_assoc]
    exact .tup hx iht
theorem OwnL.ofFlat {x : Bool} {H : AH} : ∀ {l : List Value}, (∀ c ∈ l, flatV c = true) → OwnL x H l l []
  | [], _ => .nil
  | v :: l, h => .flat (h v (by simp)) (OwnL.ofFlat fun c hc => h c (by simp [hc]))
theorem OwnL.ofF {x : Bool} {H : AH} {v : Value} (h : flatV v = true) : OwnL x H [v] [v] [] := .flat h .nil
inductive LifL (N : AH) (ρ : Nat → Nat) (q : Nat → Prop) (k : Nat) : List Value → List Value → Prop
  | nil : LifL N ρ q k [] []
  | cons {v d : Value} {l m : List Value} (h : Lif N ρ q k v d) (t : LifL N ρ q k l m) : LifL N ρ q k (v :: l) (d :: m)
theorem LifL.at {N : AH} {ρ : Nat → Nat} {q : Nat → Prop} {k : Nat} {l m : List Value} (h : LifL N ρ q k l m) : l.length = m.length ∧ ∀ (i : Nat) (h1 : i < l.length) (h2 : i < m.length), Lif N ρ q k l[i] m[i] := by
  induction h with
  | nil => exact ⟨rfl, fun i h1 => by simp at h1⟩
  | cons hx ht ih =>
    refine ⟨by simp [ih.1], fun i h1 h2 => ?_⟩
    cases i with
    | zero => exact hx
    | succ i => exact ih.2 i (by simpa using h1) (by simpa using h2)
theorem LifL.agg {N : AH} {ρ : Nat → Nat} {q : Nat → Prop} {k : Nat} {xs : Array Value} {m : List Value} (h : LifL N ρ q k xs.toList m) : Lif N ρ q k (.agg xs) (.agg m.toArray) :=
  .agg _ _ (by simpa using h.at.1) fun i h1 h2 => by
    have := h.at.2 i (by simpa using h1) (by simpa using h2)
    rw [Array.getElem_toList] at this
    simpa using this
/-- THE CONTRACT of a function that hands back new memory of its own. -/
def NCalls (P : Program) (f : FuncId) (args : List Value) (v : Value) : Prop := ACalls P 0 f args [] fun d N => ∃ S, S.Nodup ∧ OwnL false N [d] [v] S
/-- A value in new memory, in a heap that has grown. -/
structure New (H H' : AH) (d v : Value) (S : List Nat) : Prop where
  len : H.length ≤ H'.length
  old : ∀ r, r < H.length → H'[r]? = H[r]?
  own : OwnL true H' [d] [v] S
  nd : S.Nodup
  lo : ∀ r ∈ S, H.length ≤ r
theorem NCalls.p {f : FuncId} {args : List Value} {v : Value} (h : NCalls P f args v) : PCalls P f args v :=
  h.mono fun d N ⟨S, _, ho⟩ => by cases ho.bor; assumption
theorem intE_flat (ys : List Int) : ∀ c ∈ intE.flat ys, flatV c = true := fun c h => by
  obtain ⟨y, _, hy⟩ := List.mem_flatMap.1 h
  simp [intE, cellsV] at hy
  subst hy
  rfl
/-- A marked block, lent. -/
theorem Bor.mks {el sz m n r ver : Nat} {o : Bool} {sp : Option Nat} {q : Int} (hb : H[r]? = some ⟨el, sz, marksC q m, ver, o⟩) (ho : n ≠ 0 → o = true) (hm : n = 0 → m = 0) : Bor H (.slice (some ⟨r, 0, sp⟩) n ver) (isl n (marksC q m)) := by
  rcases Nat.eq_zero_or_pos n with h0 | h0
  · have := hm h0
    subst h0 this
    exact .emp r 0 sp ver _ hb rfl
  · exact Bor.ownL hb rfl (ho (by omega)) (fun h => by omega) ⟨marksC q m, .same fun d hd => (marksC_ok q m d hd).im, by simp⟩
end
end Go.BM

/- Marks, and what a law keeps in hand. -/
set_option linter.unusedVariables false
set_option linter.unusedSimpArgs false
namespace Go.BM
open Go.RowKit
section
variable {P : Program} {x : Bool} {H H' : AH} {l l' : List Value} {S T : List Nat} {d v y : Value} {α : Type} {E : Enc α}

theorem OwnL.aggL (h : OwnL x H l l' S) : OwnL x H [.agg l.toArray] [.agg l'.toArray] S := by
  have := OwnL.agg (xs := l.toArray) (ys := l'.toArray) (by simpa using h) OwnL.nil
  simpa using this
/-- A list of flat things in a block. -/
theorem OwnL.sl {ys : List α} {r el sz ver n : Nat} {o : Bool} {sp : Option Nat} {rest : List Value} (hb : H[r]? = some ⟨el, sz, E.flat ys ++ rest, ver, o⟩) (ho : ys.length ≠ 0 → o = true) (hn : n = ys.length) (hf : ∀ c ∈ E.flat ys, flatV c = true)
    (hr : x = true → o = true ∧ rest = []) : OwnL x H [.slice (some ⟨r, 0, sp⟩) n ver] [islE E ys] [r] := by
  subst hn
  cases h : ys with
  | nil =>
    subst h
    exact OwnL.emp hb (fun e => by obtain ⟨h1, h2⟩ := hr e; exact ⟨h1, by simpa [Enc.flat] using h2⟩) .nil
  | cons y l =>
    rw [← h]
    have := OwnL.slice (x := x) (H := H) (sp := sp) (len := ys.length) (cs := E.flat ys) (S := []) (T := []) (l := []) (l' := []) hb (ho (by rw [h]; simp)) (by simp) (fun e => by rw [(hr e).2]; simp) (fun h0 => by rw [h] at h0; simp at h0) (by simp; exact .ofFlat hf) .nil
    exact this
theorem OwnL.bor1 (h : OwnL x H [d] [v] S) : Bor H d v := by cases h.bor; assumption
theorem OwnL.im (h : OwnL x H l l' S) : ∀ c ∈ l', Im c := by
  induction h with
  | nil => exact fun c hc => by simp at hc
  | flat h _ ih => exact Im.consL (.flat _ h) ih
  | nils _ ih => exact Im.consL (Im.isl Im.nilL) ih
  | emp _ _ _ ih => exact Im.consL (Im.isl Im.nilL) ih
  | slice h ho hl hx hn hc t ihc iht => exact Im.consL (Im.isl ihc) iht
  | agg hx _ ihx iht => exact Im.consL (by simpa using Im.aggL ihx) iht
  | tup hx _ ihx iht => exact Im.consL (by simpa using Im.tupleL ihx) iht
theorem OwnL.im1 (h : OwnL x H [d] [v] S) : Im v := h.im v (by simp)
theorem NCalls.of {f : FuncId} {args : List Value} (h : ACalls P 0 f args [] fun d N => ∃ S, S.Nodup ∧ OwnL false N [d] [v] S) : NCalls P f args v := h
/-! ### marks -/
/-! ### what a walk keeps in hand: values of its own, boxes -/
theorem flatE_of (h : ∀ y, ∀ c ∈ cellsV (E.val y), flatV c = true) (ys : List α) : ∀ c ∈ E.flat ys, flatV c = true := fun c hc => by
  obtain ⟨y, _, hy⟩ := List.mem_flatMap.1 hc
  exact h y c hy
theorem strE_flat (ys : List ByteArray) : ∀ c ∈ strE.flat ys, flatV c = true := flatE_of (fun y c hc => by simp [strE, cellsV] at hc; subst hc; rfl) ys
end
end Go.BM

/- Lists that a loop makes: nil or a block, behind boxes. -/
set_option linter.unusedVariables false
set_option linter.unusedSimpArgs false
namespace Go.BM
open Go.RowKit
section
variable {P : Program} {B : Nat} {α : Type} {E : Enc α}
/-- A slice that is nil, or the whole of a block behind n boxes. -/
def SlM (n : Nat) (el : TypeId) (E : Enc α) (M : AH) (a : Option Addr) (len ver : Nat) (ys : List α) : Prop :=
  (a = none ∧ len = 0 ∧ ver = 0 ∧ ys = []) ∨ ∃ r, a = some ⟨n + r, 0, none⟩ ∧ len = ys.length ∧ M[r]? = some (sb el E ys ver true)
theorem SlM.nil (n : Nat) (el : TypeId) (E : Enc α) (M : AH) : SlM n el E M none 0 0 [] := .inl ⟨rfl, rfl, rfl, rfl⟩
theorem SlM.app {n el by_ : Nat} {M : AH} {a : Option Addr} {len ver t tx : Nat} {ys : List α} {z : TypeId × Nat × Nat} (h : SlM n el E M a len ver ys) (p : AH) (hp : p.length = n) (q : Nat) (hq : q = n + M.length) (hz : elZ P t = some (el, E.sz, by_)) (hzx : elZ P tx = some z) (hok : zOk P el E.sz = true) (hB : B ≤ n)
    (y : α) (h1 : (ys.length + 1) * by_ ≤ 140737488355328) (h2 : ys.length + 1 ≤ 140737488355328) :
    ∃ a' len' ver' M', appendH P B (p ++ (M ++ [⟨el, E.sz, cellsV (E.val y), 0, true⟩])) t tx (.slice a len ver) (.slice (some ⟨q, 0, none⟩) 1 0) = some (.slice a' len' ver', p ++ M') ∧ SlM n el E M' a' len' ver' (ys ++ [y]) ∧ M.length ≤ M'.length ∧
      ∀ i, i < M.length → a ≠ some ⟨n + i, 0, none⟩ → M'[i]? = M[i]? := by
  subst hq
  have hat : (p ++ (M ++ [⟨el, E.sz, cellsV (E.val y), 0, true⟩]))[n + M.length]? = some ⟨el, E.sz, cellsV (E.val y), 0, true⟩ := by
    rw [List.getElem?_append_right (by omega), List.getElem?_append_right (by omega)]
    simp [hp]
  have hsrc : srcV P (p ++ (M ++ [(⟨el, E.sz, cellsV (E.val y), 0, true⟩ : Blk)])) el E.sz tx (.slice (some ⟨n + M.length, 0, none⟩) 1 0) = some ([y].length, E.flat [y]) :=
    srcV_own hzx hat rfl rfl (by simp only [E.flat_one, List.drop_zero, List.length_cons, List.length_nil, Nat.zero_add, Nat.one_mul]; exact List.take_of_length_le (by rw [E.hsz]; exact Nat.le_refl _)) (by simp [E.hsz])
  rcases h with ⟨rfl, rfl, rfl, rfl⟩ | ⟨r, rfl, rfl, hr⟩
  · refine ⟨some ⟨n + (M.length + 1), 0, none⟩, 1, 0, M ++ [⟨el, E.sz, cellsV (E.val y), 0, true⟩] ++ [sb el E [y] 0 true], ?_, ?_, by simp, fun i hi _ => ?_⟩
    · rw [appendH_nil hz hok hsrc (by simp) (by simpa using h1) (by simp)]
      simp only [List.append_assoc, List.length_append, List.length_cons, List.length_nil, hp, Nat.zero_add]
    · refine .inr ⟨M.length + 1, rfl, rfl, ?_⟩
      · rw [List.getElem?_append_right (by simp)]
        simp
    · rw [List.append_assoc, List.getElem?_append_left hi]
  · have hrl : r < M.length := lt_of_some hr
    have hg : (p ++ (M ++ [⟨el, E.sz, cellsV (E.val y), 0, true⟩]))[n + r]? = some (sb el E ys ver true) := by
      rw [List.getElem?_append_right (by omega), show n + r - p.length = r by omega, List.getElem?_append_left hrl]
      exact hr
    refine ⟨some ⟨n + r, 0, none⟩, (ys ++ [y]).length, ver + 1, (M ++ [(⟨el, E.sz, cellsV (E.val y), 0, true⟩ : Blk)]).set r (sb el E (ys ++ [y]) (ver + 1) true), ?_, ?_, by simp, fun i hi hne => ?_⟩
    · rw [appendH_sb hz hok hg (by omega) hsrc h1 h2]
      rw [List.set_append_right _ _ (by omega), show n + r - p.length = r by omega]
      rfl
    · exact .inr ⟨r, rfl, rfl, List.getElem?_set_self (by simp; omega)⟩
    · have : r ≠ i := fun e => hne (by rw [e])
      rw [List.getElem?_set_ne this, List.getElem?_append_left hi]
theorem SlM.bor {n el : Nat} {M : AH} {a : Option Addr} {len ver : Nat} {ys : List α} (h : SlM n el E M a len ver ys) (p : AH) (hp : p.length = n) : Bor (p ++ M) (.slice a len ver) (islE E ys) := by
  rcases h with ⟨rfl, rfl, rfl, rfl⟩ | ⟨r, rfl, rfl, hr⟩
  · exact Bor.nil
  · refine Bor.sb (el := el) (o := true) ?_ (fun _ => rfl) rfl
    rw [List.getElem?_append_right (by omega), show n + r - p.length = r by omega]
    exact hr
theorem OwnL.sbO {H : AH} {r el ver n : Nat} {o : Bool} {sp : Option Nat} {ys : List α} (hb : H[r]? = some (sb el E ys ver o)) (ho : ys.length ≠ 0 → o = true) (hn : n = ys.length) (hf : ∀ c ∈ E.flat ys, flatV c = true) : OwnL false H [.slice (some ⟨r, 0, sp⟩) n ver] [islE E ys] [r] :=
  OwnL.sl (el := el) (sz := E.sz) (o := o) (rest := []) (by rw [List.append_nil]; exact hb) ho hn hf (fun e => by cases e)
theorem OwnL.slE {H : AH} {r el sz ver n : Nat} {o : Bool} {sp : Option Nat} {ys : List α} (hb : H[r]? = some ⟨el, sz, E.flat ys, ver, o⟩) (ho : ys.length ≠ 0 → o = true) (hn : n = ys.length) (hf : ∀ c ∈ E.flat ys, flatV c = true) : OwnL false H [.slice (some ⟨r, 0, sp⟩) n ver] [islE E ys] [r] :=
  OwnL.sl (el := el) (sz := sz) (o := o) (rest := []) (by rw [List.append_nil]; exact hb) ho hn hf (fun e => by cases e)
theorem Bor.sbE {H : AH} {r el ver n : Nat} {o : Bool} {sp : Option Nat} {ys : List α} (hb : H[r]? = some ⟨el, E.sz, E.flat ys, ver, o⟩) (ho : ys.length ≠ 0 → o = true) (hn : n = ys.length) : Bor H (.slice (some ⟨r, 0, sp⟩) n ver) (islE E ys) := Bor.sb (el := el) (o := o) hb ho hn
end
end Go.BM
/- Loops as functions of lists: the first code that is not 0. -/
set_option linter.unusedVariables false
namespace Go.BM
/-- The first code that is not 0, each thing judged with those ahead of it; K, if there is none. -/
def scanK {α : Type} (f : List α → α → Int) (K : Int) : List α → List α → Int
  | _, [] => K
  | pre, x :: l => if f pre x == 0 then scanK f K (pre ++ [x]) l else f pre x
theorem scanK_step {α : Type} (f : List α → α → Int) (K : Int) (xs : List α) (k : Nat) (hk : k < xs.length) : scanK f K (xs.take k) (xs.drop k) = if f (xs.take k) xs[k] == 0 then scanK f K (xs.take (k + 1)) (xs.drop (k + 1)) else f (xs.take k) xs[k] := by
  rw [List.drop_eq_getElem_cons hk, ← take_next xs k hk]
  rfl
theorem scanK_end {α : Type} (f : List α → α → Int) (K : Int) (xs : List α) (k : Nat) (hk : ¬ k < xs.length) : scanK f K (xs.take k) (xs.drop k) = K := by
  rw [List.drop_eq_nil_of_le (by omega)]
  rfl
theorem any_hit {α : Type} (p : α → Bool) (xs : List α) (k : Nat) (hk : k < xs.length) (h : p xs[k] = true) : xs.any p = true := List.any_eq_true.2 ⟨_, List.getElem_mem hk, h⟩
theorem any_none {α : Type} (p : α → Bool) (xs : List α) (h : ∀ j (hj : j < xs.length), p xs[j] = false) : xs.any p = false := List.any_eq_false.2 fun x hx => by
  obtain ⟨j, hj, rfl⟩ := List.getElem_of_mem hx
  rw [h j hj]
  exact Bool.false_ne_true
theorem any_findI {α : Type} (p : α → Bool) (xs : List α) : decide (0 < findI p xs + 1) = xs.any p := by
  rw [← findI_any]
  congr 1
  apply propext
  omega
theorem filter_step {α : Type} (q : α → Bool) (xs : List α) (k : Nat) (hk : k < xs.length) : (xs.take (k + 1)).filter q = if q xs[k] then (xs.take k).filter q ++ [xs[k]] else (xs.take k).filter q := by
  rw [← take_next xs k hk, List.filter_append]
  cases h : q xs[k] <;> simp [h]
theorem map_step {α β : Type} (g : α → β) (xs : List α) (k : Nat) (hk : k < xs.length) : (xs.take (k + 1)).map g = (xs.take k).map g ++ [g xs[k]] := by
  rw [← take_next xs k hk, List.map_append]
  rfl
end Go.BM
/- Numbers in decimal digits. -/
set_option linter.unusedVariables false
namespace Go.BM
/-- The digits of a number, none for 0. -/
def dgt (n : Nat) : List UInt8 := if n = 0 then [] else dgt (n / 10) ++ [UInt8.ofNat (48 + n % 10)]
termination_by n
decreasing_by omega
/-- The text of a mark. -/
def mt (k : Int) : ByteArray := if k ≤ 0 then bs [109, 48] else bs ([109] ++ dgt k.toNat)
theorem digit_u8 (n : Nat) : IntKind.u8.wrap (IntKind.i64.wrap (48 + ((n : Int)).tmod 10)) = ((48 + n % 10 : Nat) : Int) := by
  have h : ((n : Int)).tmod 10 = ((n % 10 : Nat) : Int) := by
    rw [Int.tmod_eq_emod_of_nonneg (by omega)]
    omega
  rw [h, wr (by omega) (by omega)]
  have h2 : n % 10 < 10 := Nat.mod_lt _ (by omega)
  generalize n % 10 = d at h2
  have : d = 0 ∨ d = 1 ∨ d = 2 ∨ d = 3 ∨ d = 4 ∨ d = 5 ∨ d = 6 ∨ d = 7 ∨ d = 8 ∨ d = 9 := by omega
  rcases this with rfl | rfl | rfl | rfl | rfl | rfl | rfl | rfl | rfl | rfl <;> decide
end Go.BM
/- Marks that nobody reads again. -/
set_option linter.unusedVariables false
set_option linter.unusedSimpArgs false
namespace Go.BM
open Go.RowKit
section
variable {P : Program} {x : Bool} {H H' : AH} {l l' : List Value} {S T : List Nat} {d v y : Value} {α : Type} {E : Enc α}

end
end Go.BM
/- The first functions: bounds, keys, refs; a search with a function value. -/
set_option linter.unusedVariables false
set_option linter.unusedSimpArgs false
set_option maxRecDepth 100000
set_option maxHeartbeats 4000000
namespace Go.BM
open Go.Proofs Go.RowKit
attribute [local irreducible] ACalls AWp aops qops optK optP cK gateA condK mops qcallK PCalls loadV fldV idxV lenV slV storeH binS
theorem impl_within (a b c : Int) : PCalls Tryz.prog 35 [.int .i64 a, .int .i64 b, .int .i64 c] (.bool (inB a b c)) := by
  unfold inB
  by_cases h1 : b ≤ a
  all_goals
    refine PCalls.flat rfl ?_; refine ACalls.enter (n := 15) (rs := [.tmp 6]) Tryz.func35 rfl rfl rfl (by kernel_rfl) (by kernel_rfl) (by kernel_rfl) (Nat.le_of_ble_eq_true rfl) ?_
    repeat' (first | (refine KV.run _ ?_) | (refine KQ.run _ ?_) | (refine KT.run _ ?_) | (refine AWp.seqH fun KC => ?_) | (refine AWp.block ?_) | (refine AWp.region ?_) | (refine mops_step0 rfl rfl fun KC => ?_) | (refine mops_step1 rfl fun KC => ?_) | (refine mops_step2 rfl fun KC => ?_) | (refine AWp.ret ?_) | (refine AWp.skip ?_) | (refine AWp.exit ?_) | (refine aops_callH rfl fun kC => ?_) | (refine qops_callH rfl fun kC => ?_) | (refine AWp.condB ?_) | (simp only [bse, wk, tys, storeH_ptr, Nat.reduceEqDiff, ↓reduceIte, reduceCtorEq, Nat.reduceAdd, Nat.reduceLeDiff, Int.reduceBEq, Int.reduceLT, Int.reduceLE, Int.reduceEq, ne_eq, not_false_eq_true, Nat.reduceMul, *]) | (refine condK_bool (fun hb => ?_) (fun hb => ?_) <;> ((try simp only [Bool.not_eq_true', Bool.not_eq_false'] at hb) <;> (try (have hbe := of_decide_eq_true hb)) <;> (try (have hbe := eq_of_beq hb)))) | (refine aops_partB ?_) | (refine qops_partB ?_))
    try simp
theorem impl_isKey (a : Int) : PCalls Tryz.prog 40 [.int .i64 a] (.bool (inB a 1 999)) := by
  refine PCalls.flat rfl ?_; refine ACalls.enter (n := 5) (rs := [.tmp 2]) Tryz.func40 rfl rfl rfl (by kernel_rfl) (by kernel_rfl) (by kernel_rfl) (Nat.le_of_ble_eq_true rfl) ?_
  repeat' (first | (refine ACalls.start ?_; first | (refine ACalls.ofJi (impl_within _ _ _) rfl ?_)) | (refine qcall_start ?_; first | (refine qcallFi (impl_within _ _ _) rfl ?_ ?_; (focus ((first | exact rfl | (simp [pureV, flatV]; done)))))) | (refine KV.run _ ?_) | (refine KQ.run _ ?_) | (refine KT.run _ ?_) | (refine AWp.seqH fun KC => ?_) | (refine AWp.block ?_) | (refine AWp.region ?_) | (refine mops_step0 rfl rfl fun KC => ?_) | (refine mops_step1 rfl fun KC => ?_) | (refine mops_step2 rfl fun KC => ?_) | (refine AWp.ret ?_) | (refine AWp.skip ?_) | (refine AWp.exit ?_) | (refine aops_callH rfl fun kC => ?_) | (refine qops_callH rfl fun kC => ?_) | (refine AWp.condB ?_) | (simp only [bse, wk, tys, storeH_ptr, Nat.reduceEqDiff, ↓reduceIte, reduceCtorEq, Nat.reduceAdd, Nat.reduceLeDiff, Int.reduceBEq, Int.reduceLT, Int.reduceLE, Int.reduceEq, ne_eq, not_false_eq_true, Nat.reduceMul, *]) | (refine condK_bool (fun hb => ?_) (fun hb => ?_) <;> ((try simp only [Bool.not_eq_true', Bool.not_eq_false'] at hb) <;> (try (have hbe := of_decide_eq_true hb)) <;> (try (have hbe := eq_of_beq hb)))) | (refine aops_partB ?_) | (refine qops_partB ?_))
theorem impl_areKeys1 (a : Int) : PCalls Tryz.prog 60 [.int .i64 a] (.bool (!inB a 1 999)) := by
  refine PCalls.flat rfl ?_; refine ACalls.enter (n := 6) (rs := [.tmp 2]) Tryz.func60 rfl rfl rfl (by kernel_rfl) (by kernel_rfl) (by kernel_rfl) (Nat.le_of_ble_eq_true rfl) ?_
  repeat' (first | (refine ACalls.start ?_; first | (refine ACalls.ofJi (impl_isKey _) rfl ?_)) | (refine qcall_start ?_; first | (refine qcallFi (impl_isKey _) rfl ?_ ?_; (focus ((first | exact rfl | (simp [pureV, flatV]; done)))))) | (refine KV.run _ ?_) | (refine KQ.run _ ?_) | (refine KT.run _ ?_) | (refine AWp.seqH fun KC => ?_) | (refine AWp.block ?_) | (refine AWp.region ?_) | (refine mops_step0 rfl rfl fun KC => ?_) | (refine mops_step1 rfl fun KC => ?_) | (refine mops_step2 rfl fun KC => ?_) | (refine AWp.ret ?_) | (refine AWp.skip ?_) | (refine AWp.exit ?_) | (refine aops_callH rfl fun kC => ?_) | (refine qops_callH rfl fun kC => ?_) | (refine AWp.condB ?_) | (simp only [bse, wk, tys, storeH_ptr, Nat.reduceEqDiff, ↓reduceIte, reduceCtorEq, Nat.reduceAdd, Nat.reduceLeDiff, Int.reduceBEq, Int.reduceLT, Int.reduceLE, Int.reduceEq, ne_eq, not_false_eq_true, Nat.reduceMul, *]) | (refine condK_bool (fun hb => ?_) (fun hb => ?_) <;> ((try simp only [Bool.not_eq_true', Bool.not_eq_false'] at hb) <;> (try (have hbe := of_decide_eq_true hb)) <;> (try (have hbe := eq_of_beq hb)))) | (refine aops_partB ?_) | (refine qops_partB ?_))
theorem lib_IndexFunc_int (xs : List Int) (hn : xs.length < 4611686018427387904) (g : FuncId) (caps : Array Value) (hc : ∀ c ∈ caps.toList, Im c) (p : Int → Bool)
    (hp : ∀ x ∈ xs, PCalls Tryz.prog g ([.int .i64 x] ++ caps.toList) (.bool (p x))) :
    PCalls Tryz.prog 72 [islE intE xs, .func (.func g) #[] caps] (.int .i64 (findI p xs)) := by
  haveI : ImLs caps.toList := ⟨hc⟩
  refine PCalls.flat rfl ?_; refine ACalls.enter (n := 19) (rs := [.tmp 4]) Tryz.func72 rfl rfl rfl (by kernel_rfl) (by kernel_rfl) (by kernel_rfl) (Nat.le_of_ble_eq_true rfl) ?_
  repeat' (first | (refine KV.run _ ?_) | (refine KQ.run _ ?_) | (refine KT.run _ ?_) | (refine AWp.seqH fun KC => ?_) | (refine AWp.block ?_) | (refine AWp.region ?_) | (refine mops_step0 rfl rfl fun KC => ?_) | (refine mops_step1 rfl fun KC => ?_) | (refine mops_step2 rfl fun KC => ?_) | (refine AWp.ret ?_) | (refine AWp.skip ?_) | (refine AWp.exit ?_) | (refine aops_callH rfl fun kC => ?_) | (refine qops_callH rfl fun kC => ?_) | (refine AWp.condB ?_) | (simp only [bse, wk, tys, storeH_ptr, Nat.reduceEqDiff, ↓reduceIte, reduceCtorEq, Nat.reduceAdd, Nat.reduceLeDiff, Int.reduceBEq, Int.reduceLT, Int.reduceLE, Int.reduceEq, ne_eq, not_false_eq_true, Nat.reduceMul, *]) | (refine condK_bool (fun hb => ?_) (fun hb => ?_) <;> ((try simp only [Bool.not_eq_true', Bool.not_eq_false'] at hb) <;> (try (have hbe := of_decide_eq_true hb)) <;> (try (have hbe := eq_of_beq hb)))) | (refine aops_partB ?_) | (refine qops_partB ?_))
  refine AWp.loopH [9, 10, 5, 11, 12, 13, 14, 15, 16, 17, 4, 18, 8] (fun m e' H' => ∃ k : Nat, k ≤ xs.length ∧ m = xs.length - k ∧ e' 8 = .int .i64 k ∧ H' = [] ∧ Hid (∀ j (hj : j < xs.length), j < k → p xs[j] = false)) xs.length ⟨0, by omega, by omega, rfl, rfl, fun j _ h => by omega⟩ ?_
  rintro m e' H' hA ⟨k, hk, rfl, h8, rfl, hno⟩ hJ
  have a0 := hA 0 rfl; have a1 := hA 1 rfl; have a7 := hA 7 rfl; try simp only [bse, wk, tys, storeH_ptr, Nat.reduceEqDiff, ↓reduceIte, reduceCtorEq, Nat.reduceAdd, Nat.reduceLeDiff, Int.reduceBEq, Int.reduceLT, Int.reduceLE, Int.reduceEq, ne_eq, not_false_eq_true, Nat.reduceMul] at a0 a1 a7; clear hA
  by_cases hlt : k < xs.length
  · have hlt' : (k : Int) < (xs.length : Int) := by omega
    have hw := wr_succ (k := k) (by omega)
    have hpk := hp _ (List.getElem_mem hlt)
    cases hc : p xs[k] with
    | true =>
      rw [hc] at hpk
      repeat' (first | (refine ACalls.start ?_; first | (refine ACalls.ofJi (hpk) rfl ?_)) | (refine qcall_start ?_; first | (refine qcallFi (hpk) rfl ?_ ?_; (focus ((first | exact rfl | (simp [pureV, flatV]; done)))))) | (refine KV.run _ ?_) | (refine KQ.run _ ?_) | (refine KT.run _ ?_) | (refine AWp.seqH fun KC => ?_) | (refine AWp.block ?_) | (refine AWp.region ?_) | (refine mops_step0 rfl rfl fun KC => ?_) | (refine mops_step1 rfl fun KC => ?_) | (refine mops_step2 rfl fun KC => ?_) | (refine AWp.ret ?_) | (refine AWp.skip ?_) | (refine AWp.exit ?_) | (refine aops_callH rfl fun kC => ?_) | (refine qops_callH rfl fun kC => ?_) | (refine AWp.condB ?_) | (simp only [bse, wk, tys, storeH_ptr, Nat.reduceEqDiff, ↓reduceIte, reduceCtorEq, Nat.reduceAdd, Nat.reduceLeDiff, Int.reduceBEq, Int.reduceLT, Int.reduceLE, Int.reduceEq, ne_eq, not_false_eq_true, Nat.reduceMul, *]) | (refine condK_bool (fun hb => ?_) (fun hb => ?_) <;> ((try simp only [Bool.not_eq_true', Bool.not_eq_false'] at hb) <;> (try (have hbe := of_decide_eq_true hb)) <;> (try (have hbe := eq_of_beq hb)))) | (refine aops_partB ?_) | (refine qops_partB ?_))
      rw [findI_hit p xs k hlt hno.out hc]
    | false =>
      rw [hc] at hpk
      repeat' (first | (refine ACalls.start ?_; first | (refine ACalls.ofJi (hpk) rfl ?_)) | (refine qcall_start ?_; first | (refine qcallFi (hpk) rfl ?_ ?_; (focus ((first | exact rfl | (simp [pureV, flatV]; done)))))) | (refine KV.run _ ?_) | (refine KQ.run _ ?_) | (refine KT.run _ ?_) | (refine AWp.seqH fun KC => ?_) | (refine AWp.block ?_) | (refine AWp.region ?_) | (refine mops_step0 rfl rfl fun KC => ?_) | (refine mops_step1 rfl fun KC => ?_) | (refine mops_step2 rfl fun KC => ?_) | (refine AWp.ret ?_) | (refine AWp.skip ?_) | (refine AWp.exit ?_) | (refine aops_callH rfl fun kC => ?_) | (refine qops_callH rfl fun kC => ?_) | (refine AWp.condB ?_) | (simp only [bse, wk, tys, storeH_ptr, Nat.reduceEqDiff, ↓reduceIte, reduceCtorEq, Nat.reduceAdd, Nat.reduceLeDiff, Int.reduceBEq, Int.reduceLT, Int.reduceLE, Int.reduceEq, ne_eq, not_false_eq_true, Nat.reduceMul, *]) | (refine condK_bool (fun hb => ?_) (fun hb => ?_) <;> ((try simp only [Bool.not_eq_true', Bool.not_eq_false'] at hb) <;> (try (have hbe := of_decide_eq_true hb)) <;> (try (have hbe := eq_of_beq hb)))) | (refine aops_partB ?_) | (refine qops_partB ?_))
      refine hJ.out _ _ ⟨xs.length - (k + 1), by omega, k + 1, by omega, rfl, rfl, rfl, fun j hj hjk => ?_⟩ (by repeat (first | exact Agree.refl _ _ | assumption | refine Agree.put ?_ rfl _))
      by_cases e : j = k
      · subst e; exact hc
      · exact hno.out j hj (by omega)
  · have hlt' : ¬ (k : Int) < (xs.length : Int) := by omega
    repeat' (first | (refine KV.run _ ?_) | (refine KQ.run _ ?_) | (refine KT.run _ ?_) | (refine AWp.seqH fun KC => ?_) | (refine AWp.block ?_) | (refine AWp.region ?_) | (refine mops_step0 rfl rfl fun KC => ?_) | (refine mops_step1 rfl fun KC => ?_) | (refine mops_step2 rfl fun KC => ?_) | (refine AWp.ret ?_) | (refine AWp.skip ?_) | (refine AWp.exit ?_) | (refine aops_callH rfl fun kC => ?_) | (refine qops_callH rfl fun kC => ?_) | (refine AWp.condB ?_) | (simp only [bse, wk, tys, storeH_ptr, Nat.reduceEqDiff, ↓reduceIte, reduceCtorEq, Nat.reduceAdd, Nat.reduceLeDiff, Int.reduceBEq, Int.reduceLT, Int.reduceLE, Int.reduceEq, ne_eq, not_false_eq_true, Nat.reduceMul, *]) | (refine condK_bool (fun hb => ?_) (fun hb => ?_) <;> ((try simp only [Bool.not_eq_true', Bool.not_eq_false'] at hb) <;> (try (have hbe := of_decide_eq_true hb)) <;> (try (have hbe := eq_of_beq hb)))) | (refine aops_partB ?_) | (refine qops_partB ?_))
    rw [findI_none p xs (fun j hj => hno.out j hj (by omega))]
end Go.BM
/- The engine: texts C29. -/
/- A source of draws: one block ahead that is written; what is drawn is new, or a value. -/
set_option linter.unusedVariables false
set_option linter.unusedSimpArgs false
namespace Go.BM
open Go.RowKit

/-- The source: its bytes, and how many draws there were. -/
def srcB (T : TypeId) (code : List UInt8) (a : Int) : Blk := ⟨T, 0, [islE byteE code, .int .i64 a], 0, true⟩
theorem srcB_im (T : TypeId) (code : List UInt8) (a : Int) : ∀ c ∈ (srcB T code a).cs, Im c := Im.consL (islE_im _ _) (Im.consL (.flat _ rfl) Im.nilL)
def ptr0 : Value := .pointer (some ⟨0, 0, some 0⟩)
section
variable {P : Program} {B : Nat} {σ σ' : Sg} {H N : AH} {w w' : World} {r : Nat} {T : TypeId} {code : List UInt8} {a a' : Int}

theorem one_get {b blk : Blk} {q : Nat} (h : [b][q]? = some blk) : q = 0 ∧ blk = b := by
  cases q with
  | zero => simp at h; exact ⟨rfl, h.symm⟩
  | succ q => simp at h

theorem src_sim (hS : Sim σ H w) (hr : H[r]? = some (srcB T code a)) : Sim ⟨fun _ => σ r, σ.im⟩ [srcB T code a] w where
  own := fun q blk hq ho => by
    obtain ⟨rfl, rfl⟩ := one_get hq
    obtain ⟨c, h1, h2, h3, h4, h5⟩ := hS.own r _ hr rfl
    refine ⟨c, h1, h2, h3, h4, fun j v hj => ?_⟩
    obtain ⟨u, g1, g2, g3⟩ := h5 j v hj
    exact ⟨u, g1, g2.im (srcB_im T code a v (List.mem_of_getElem? hj)) fun _ _ h => h, g3⟩
  im := hS.im
  sep := fun x u hx q blk hq ho => by
    obtain ⟨rfl, rfl⟩ := one_get hq
    exact hS.sep x u hx r _ hr rfl
  inj := fun q q' b b' h1 h2 hne => by
    obtain ⟨rfl, _⟩ := one_get h1
    obtain ⟨rfl, _⟩ := one_get h2
    exact absurd rfl hne
  glob := hS.glob

theorem src_args (hS : Sim σ H w) (hr : H[r]? = some (srcB T code a)) {vs args : List Value} (hi : ∀ d ∈ args, Im d) (h : VRL σ H vs (.pointer (some ⟨r, 0, some 0⟩) :: args)) :
    VRL ⟨fun _ => σ r, σ.im⟩ [srcB T code a] vs (ptr0 :: args) := by
  refine ⟨h.1, fun j u hu => ?_⟩
  cases j with
  | zero =>
    obtain ⟨x, h1, h2⟩ := h.2 0 _ rfl
    have hg : getB H r 0 = some (srcB T code a).cs := by simp [getB, hr, srcB]
    have := h2.ptrI hg
    subst this
    refine ⟨_, h1, ?_⟩
    simp only [List.getElem?_cons_zero, Option.some.injEq] at hu
    subst hu
    exact VR.ptr (σ := ⟨fun _ => σ r, σ.im⟩) (H := [srcB T code a]) 0 0 0 (srcB T code a) rfl rfl rfl
  | succ j =>
    obtain ⟨x, h1, h2⟩ := h.2 (j + 1) u (by simpa using hu)
    exact ⟨x, h1, h2.im (hi u (List.mem_of_getElem? (by simpa using hu))) fun _ _ h => h⟩

structure SrcF (σ : Sg) (r : Nat) (w : World) (σ' : Sg) (w' : World) : Prop where
  os : w'.os = w.os
  tape : w'.tape = w.tape
  output : w'.output = w.output
  size : w.heap.size ≤ w'.heap.size
  frame : ∀ k, k < w.heap.size → (σ r).b ≠ k → w'.heap[k]? = w.heap[k]?
  at0 : σ' 0 = σ r
  imk : ∀ a u, σ.im a = some u → σ'.im a = some u
  imn : ∀ a u, σ'.im a = some u → σ.im a = some u ∨ w.heap.size ≤ a.block
theorem src_fut (F : Fut 0 ⟨fun _ => σ r, σ.im⟩ [srcB T code a] w σ' N w') (S : Sim σ' N w') (hN : N[0]? = some (srcB T code a')) : SrcF σ r w σ' w' := by
  have h0 : σ' 0 = σ r := by
    obtain ⟨b, h1, h2, h3⟩ := F.keep 0 (srcB T code a) rfl
    rw [hN] at h1
    cases h1
    exact (h3 rfl).1
  refine ⟨F.os, F.tape, F.output, F.size, fun k hk hne => F.frame k hk fun q blk _ hq ho => ?_, h0, F.imk, fun x u hx => ?_⟩
  · obtain ⟨rfl, rfl⟩ := one_get hq
    exact hne
  · rcases F.imn x u hx with h | h | ⟨q, blk, _, hq, ho, he⟩
    · exact .inl h
    · exact .inr h
    · obtain ⟨rfl, rfl⟩ := one_get hq
      have := S.sep x u hx 0 _ hN rfl
      rw [h0] at this
      exact absurd he this

/-- A draw, used in any heap that holds the source: what is new stands behind our blocks. -/
theorem ACalls.liftS {f : FuncId} {args : List Value} {post post' : Value → AH → Prop} (h : ACalls P 0 f (ptr0 :: args) [srcB T code a] post) (hr : H[r]? = some (srcB T code a)) (hB : B ≤ r) (hi : ∀ d ∈ args, Im d)
    (hp : ∀ d N, post d N → ∃ (a' : Int) (ρ : Nat → Nat) (q : Nat → Prop) (M : AH) (d' : Value), N[0]? = some (srcB T code a') ∧ (∀ i j, q i → q j → ρ i = ρ j → i = j) ∧ (∀ i, q i → ρ i ≠ 0) ∧ Lif N ρ q H.length d d' ∧ (∀ i b', M[i]? = some b' → b'.own = true → q i) ∧
      (∀ i, q i → ∃ b b', N[ρ i]? = some b ∧ M[i]? = some b' ∧ LifB N ρ q H.length b b') ∧ post' d' (H.set r (srcB T code a') ++ M)) : ACalls P B f (.pointer (some ⟨r, 0, some 0⟩) :: args) H post' :=
  ⟨h.1, fun σ w vals hS hBl hvl => (h.2 ⟨fun _ => σ r, σ.im⟩ w vals (src_sim hS hr) (Nat.zero_le _) (src_args hS hr hi hvl)).mono fun e w' ⟨v, he, σ', N, d, F, S, V, hd⟩ => by
    obtain ⟨a', ρ, q, M, d', hN, hinj, h0, hl, hown, hM, hpost⟩ := hp d N hd
    have G := src_fut F S hN
    have hrl := lt_of_some hr
    have hnew : ∀ i, q i → ∀ nb, N[ρ i]? = some nb → nb.own = true → w.heap.size ≤ (σ' (ρ i)).b := fun i hi nb h1 h2 => by
      rcases F.loc (ρ i) nb h1 h2 with ⟨b0, g, _⟩ | g
      · obtain ⟨g0, _⟩ := one_get g
        exact absurd g0 (h0 i hi)
      · exact g
    let σ'' : Sg := ⟨fun q => if q < H.length then σ q else σ' (ρ (q - H.length)), σ'.im⟩
    have so : ∀ q, q < H.length → σ'' q = σ q := fun q hq => if_pos hq
    have sn : ∀ i, σ'' (H.length + i) = σ' (ρ i) := fun i => by show (if _ then _ else _) = _; rw [if_neg (by omega), Nat.add_sub_cancel_left]
    have hHl : (H.set r (srcB T code a')).length = H.length := by simp
    have old : ∀ q blk, (H.set r (srcB T code a') ++ M)[q]? = some blk → q < H.length → q ≠ r → H[q]? = some blk := fun q blk h1 h2 h3 => by rwa [List.getElem?_append_left (by omega), List.getElem?_set_ne (Ne.symm h3)] at h1
    have atr : (H.set r (srcB T code a') ++ M)[r]? = some (srcB T code a') := by rw [List.getElem?_append_left (by omega), List.getElem?_set_self hrl]
    have new : ∀ r' blk, (H.set r (srcB T code a') ++ M)[r']? = some blk → ¬ r' < H.length → blk.own = true → ∃ i, r' = H.length + i ∧ q i ∧ M[i]? = some blk := fun r' blk h1 h2 h3 => by
      rw [List.getElem?_append_right (by omega), hHl] at h1
      exact ⟨r' - H.length, by omega, hown _ _ h1 h3, h1⟩
    have F2 : Fut B σ H w σ'' (H.set r (srcB T code a') ++ M) w' := {
      os := G.os
      tape := G.tape
      output := G.output
      size := G.size
      frame := fun k hk hne => G.frame k hk (hne r _ hB hr rfl)
      pre := fun q hq => by rw [List.getElem?_append_left (by omega), List.getElem?_set_ne (by omega)]
      preσ := fun q hq hql => so q hql
      keep := fun q blk h => by
        by_cases e : q = r
        · subst e
          rw [hr] at h
          cases h
          exact ⟨_, atr, Nat.le_refl _, fun _ => ⟨so q hrl, rfl, rfl⟩⟩
        · exact ⟨blk, by rw [List.getElem?_append_left (by have := lt_of_some h; omega), List.getElem?_set_ne (Ne.symm e)]; exact h, Nat.le_refl _, fun _ => ⟨so q (lt_of_some h), rfl, rfl⟩⟩
      loc := fun q blk' hq ho => by
        by_cases hlt : q < H.length
        · by_cases e : q = r
          · subst e; exact .inl ⟨_, hr, rfl, so q hlt⟩
          · exact .inl ⟨blk', old q blk' hq hlt e, ho, so q hlt⟩
        · obtain ⟨i, rfl, hi, hmi⟩ := new q blk' hq hlt ho
          obtain ⟨nb, nb', h1, h2, h3⟩ := hM i hi
          rw [hmi] at h2
          cases h2
          exact .inr (by rw [sn]; exact hnew i hi nb h1 (h3.own.symm.trans ho))
      imk := G.imk
      imn := fun x u hx => by
        rcases G.imn x u hx with h | h
        · exact .inl h
        · exact .inr (.inl h) }
    have lift : ∀ {d d' : Value}, Lif N ρ q H.length d d' → ∀ v, VR σ' N v d → VR σ'' (H.set r (srcB T code a') ++ M) v d' := fun hL v hv => lif_vr (fun i hi => hM i hi) hHl (fun i _ => sn i) hL v hv
    have S2 : Sim σ'' (H.set r (srcB T code a') ++ M) w' := ⟨fun q' blk hq ho => by
        by_cases hlt : q' < H.length
        · by_cases e : q' = r
          · subst e
            rw [atr] at hq
            cases hq
            obtain ⟨c, h1, h2, h3, h4, h5⟩ := S.own 0 _ hN rfl
            rw [G.at0] at h1 h2 h3
            refine ⟨c, by rw [so q' hlt]; exact h1, by rw [so q' hlt]; exact h2, by rw [so q' hlt]; exact h3, h4, fun j v hj => ?_⟩
            obtain ⟨u, b1, b2, b3⟩ := h5 j v hj
            exact ⟨u, b1, b2.im (srcB_im T code a' v (List.mem_of_getElem? hj)) fun _ _ h => h, b3⟩
          · have hr' := old q' blk hq hlt e
            obtain ⟨c, h1, h2, h3, h4, h5⟩ := hS.own q' blk hr' ho
            refine ⟨c, by rw [so q' hlt, G.frame _ (hS.lt hr' ho) (hS.inj r q' _ _ hr hr' (Ne.symm e) rfl ho)]; exact h1, by rw [so q' hlt]; exact h2, by rw [so q' hlt]; exact h3, h4, fun j v hj => ?_⟩
            obtain ⟨u, b1, b2, b3⟩ := h5 j v hj
            exact ⟨u, b1, b2.fut F2, b3⟩
        · obtain ⟨i, rfl, hi, hmi⟩ := new q' blk hq hlt ho
          obtain ⟨nb, nb', h1, h2, h3⟩ := hM i hi
          rw [hmi] at h2
          cases h2
          obtain ⟨c, k1, k2, k3, k4, k5⟩ := S.own (ρ i) nb h1 (h3.own.symm.trans ho)
          refine ⟨c, by rw [sn, h3.el]; exact k1, by rw [sn]; exact k2, by rw [sn]; exact k3, Nat.le_trans h3.len k4, fun j v hj => ?_⟩
          obtain ⟨v0, g1, g2⟩ := h3.cs j v hj
          obtain ⟨u, b1, b2, b3⟩ := k5 j v0 g1
          exact ⟨u, b1, lift g2 _ b2, b3⟩,
      S.im,
      fun x u hx q' blk hq ho => by
        by_cases hlt : q' < H.length
        · rw [so q' hlt]
          by_cases e : q' = r
          · subst e
            have := S.sep x u hx 0 _ hN rfl
            rwa [G.at0] at this
          · have hr' := old q' blk hq hlt e
            rcases G.imn x u hx with h | h
            · exact hS.sep x u h q' blk hr' ho
            · have := hS.lt hr' ho
              omega
        · obtain ⟨i, rfl, hi, hmi⟩ := new q' blk hq hlt ho
          obtain ⟨nb, nb', h1, h2, h3⟩ := hM i hi
          rw [hmi] at h2
          cases h2
          rw [sn]
          exact S.sep x u hx (ρ i) nb h1 (h3.own.symm.trans ho),
      fun p p' blk blk' hp' hq' hne ho ho' => by
        have own_old : ∀ p blk, (H.set r (srcB T code a') ++ M)[p]? = some blk → p < H.length → blk.own = true → ∃ b0, H[p]? = some b0 ∧ b0.own = true := fun p blk h1 h2 h3 => by
          by_cases e : p = r
          · subst e; exact ⟨_, hr, rfl⟩
          · exact ⟨_, old p blk h1 h2 e, h3⟩
        by_cases hlt : p < H.length
        · obtain ⟨b0, h1, h1o⟩ := own_old p blk hp' hlt ho
          rw [so p hlt]
          by_cases hlt' : p' < H.length
          · obtain ⟨b1, h2, h2o⟩ := own_old p' blk' hq' hlt' ho'
            rw [so p' hlt']; exact hS.inj p p' b0 b1 h1 h2 hne h1o h2o
          · obtain ⟨i, rfl, hi, hmi⟩ := new p' blk' hq' hlt' ho'
            obtain ⟨nb, nb', g1, g2, g3⟩ := hM i hi
            rw [hmi] at g2
            cases g2
            rw [sn]
            have := hnew i hi nb g1 (g3.own.symm.trans ho')
            have := hS.lt h1 h1o
            omega
        · obtain ⟨i, rfl, hi, hmi⟩ := new p blk hp' hlt ho
          obtain ⟨nb, nb', g1, g2, g3⟩ := hM i hi
          rw [hmi] at g2
          cases g2
          rw [sn]
          by_cases hlt' : p' < H.length
          · obtain ⟨b1, h2, h2o⟩ := own_old p' blk' hq' hlt' ho'
            rw [so p' hlt']
            have := hnew i hi nb g1 (g3.own.symm.trans ho)
            have := hS.lt h2 h2o
            omega
          · obtain ⟨j, rfl, hj, hmj⟩ := new p' blk' hq' hlt' ho'
            obtain ⟨nc, nc', f1, f2, f3⟩ := hM j hj
            rw [hmj] at f2
            cases f2
            rw [sn]
            exact S.inj (ρ i) (ρ j) nb nc g1 f1 (fun e => hne (by rw [hinj i j hi hj e])) (g3.own.symm.trans ho) (f3.own.symm.trans ho'),
      F2.glob hS⟩
    exact ⟨v, he, σ'', _, d', F2, S2, lift hl _ V, hpost⟩⟩

/-- What a draw leaves. -/
def DOut (T : TypeId) (c : Nat) (R : Value → Prop) (code : List UInt8) (a : Int) (d : Value) (N : AH) : Prop :=
  ∃ v a' S, R v ∧ a ≤ a' ∧ a' ≤ a + (c : Nat) ∧ N[0]? = some (srcB T code a') ∧ S.Nodup ∧ 0 ∉ S ∧ OwnL false N [d] [v] S
theorem DOut.flat {c : Nat} {R : Value → Prop} {d : Value} {N : AH} (a' : Int) (hN : N[0]? = some (srcB T code a')) (hf : flatV d = true) (hR : R d) (h1 : a ≤ a') (h2 : a' ≤ a + (c : Nat)) : DOut T c R code a d N :=
  ⟨d, a', [], hR, h1, h2, hN, by simp, by simp, .ofF hf⟩
theorem DOut.mk {c : Nat} {R : Value → Prop} {d v : Value} {N : AH} (a' : Int) (S : List Nat) (hN : N[0]? = some (srcB T code a')) (ho : OwnL false N [d] [v] S) (hnd : S.Nodup) (h0 : 0 ∉ S) (hR : R v) (h1 : a ≤ a') (h2 : a' ≤ a + (c : Nat)) : DOut T c R code a d N :=
  ⟨v, a', S, hR, h1, h2, hN, hnd, h0, ho⟩
theorem srcB_eq (T : TypeId) (code : List UInt8) (a : Int) : srcB T code a = ⟨T, 0, [islE byteE code, .int .i64 a], 0, true⟩ := rfl
theorem get_setne {H : AH} {r q : Nat} {x : Blk} (h : H[q]? = some x) (hne : q ≠ r) (b : Blk) : (H.set r b)[q]? = some x := by rw [List.getElem?_set_ne (Ne.symm hne)]; exact h
theorem tmod_nat (m n : Nat) : ((m : Int)).tmod (n : Int) = ((m % n : Nat) : Int) := by
  rw [Int.tmod_eq_emod_of_nonneg (by omega)]
  rfl
theorem tdiv_nat (m n : Nat) : ((m : Int)).tdiv (n : Int) = ((m / n : Nat) : Int) := by
  rw [Int.tdiv_eq_ediv_of_nonneg (by omega)]
  rfl
theorem wr_nat {m : Nat} (h : m ≤ 9223372036854775807) : IntKind.i64.wrap (m : Int) = (m : Int) := by rw [wr] <;> omega
theorem wr_byte (x : UInt8) : IntKind.i64.wrap ((x.toNat : Nat) : Int) = ((x.toNat : Nat) : Int) := wr_nat (by have := x.toNat_lt; omega)
/-- THE CONTRACT of a draw: the source stands ahead; what comes is a value of which R holds, in new memory; c draws at most. -/
def DCalls (P : Program) (T : TypeId) (c : Nat) (f : FuncId) (args : List Value) (R : Value → Prop) : Prop :=
  ∀ (code : List UInt8) (a : Int), code.length ≤ 1048576 → 0 ≤ a → a + (c : Nat) ≤ 1000000 → ACalls P 0 f (ptr0 :: args) [srcB T code a] fun d N => DOut T c R code a d N

/-- What is drawn, as a value that nobody writes any more. -/
theorem DCalls.val {c : Nat} {f : FuncId} {args : List Value} {R : Value → Prop} (h : DCalls P T c f args R) (hr : H[r]? = some (srcB T code a)) (hB : B ≤ r) (hi : ∀ d ∈ args, Im d) (hc : code.length ≤ 1048576) (h0 : 0 ≤ a) (h1 : a + (c : Nat) ≤ 1000000) :
    ACalls P B f (.pointer (some ⟨r, 0, some 0⟩) :: args) H fun d H' => ∃ a', R d ∧ Im d ∧ a ≤ a' ∧ a' ≤ a + (c : Nat) ∧ H' = H.set r (srcB T code a') :=
  ⟨h code a hc h0 h1 |>.1, fun σ w vals hS hBl hvl => ((h code a hc h0 h1).2 ⟨fun _ => σ r, σ.im⟩ w vals (src_sim hS hr) (Nat.zero_le _) (src_args hS hr hi hvl)).mono fun e w' ⟨x, he, σ', N, d, F, S, V, v, a', Sb, hR, ha1, ha2, hN, hnd, h0S, ho⟩ => by
    have G := src_fut F S hN
    have hrl := lt_of_some hr
    -- the source put aside: the rest, as it stands
    obtain ⟨Fv, Sv⟩ := void_sound (B := 0) (blk' := ⟨T, 0, [], 1, false⟩) S hN (Nat.le_refl _) (by show (0 : Nat) < 1; omega) rfl
    have ho' : OwnL false (N.set 0 ⟨T, 0, [], 1, false⟩) [d] [v] Sb := ho.frame fun q hq => List.getElem?_set_ne fun e => h0S (by rw [e]; exact hq)
    have hVs := bor_vr Sv ho'.bor1 x (V.fut Fv)
    have hIm : Im v := ho.im1
    have hss := snap_sim Sv
    let σ'' : Sg := ⟨σ.loc, (snap σ' (N.set 0 ⟨T, 0, [], 1, false⟩) w').im⟩
    have imold : ∀ y u, (snap σ' (N.set 0 ⟨T, 0, [], 1, false⟩) w').im y = some u → σ.im y = some u ∨ w.heap.size ≤ y.block := fun y u hy => by
      unfold snap at hy
      dsimp only at hy
      cases him : σ'.im y with
      | some u' => rw [him] at hy; cases hy; exact G.imn y _ him
      | none =>
        rw [him] at hy
        dsimp only at hy
        split at hy
        case isFalse => cases hy
        rename_i hx
        obtain ⟨q, blk, hb, hbo, e1, e2, e3⟩ := hx
        by_cases e : q = 0
        · subst e
          rw [List.getElem?_set_self (lt_of_some hN)] at hb
          cases hb
          cases hbo
        · rw [List.getElem?_set_ne (Ne.symm e)] at hb
          rcases F.loc q blk hb hbo with ⟨b0, g, _⟩ | g
          · exact absurd (one_get g).1 e
          · exact .inr (by rw [e1] at g; exact g)
    have sepr : ∀ y u, (snap σ' (N.set 0 ⟨T, 0, [], 1, false⟩) w').im y = some u → (σ r).b ≠ y.block := fun y u hy => by
      rcases imold y u hy with h | h
      · exact hS.sep y u h r _ hr rfl
      · have := hS.lt hr rfl
        omega
    have F2 : Fut B σ H w σ'' (H.set r (srcB T code a')) w' := {
      os := G.os
      tape := G.tape
      output := G.output
      size := G.size
      frame := fun k hk hne => G.frame k hk (hne r _ hB hr rfl)
      pre := fun q hq => by rw [List.getElem?_set_ne (by omega)]
      preσ := fun q hq hql => rfl
      keep := fun q blk h => by
        by_cases e : q = r
        · subst e
          rw [hr] at h
          cases h
          exact ⟨_, List.getElem?_set_self hrl, Nat.le_refl _, fun _ => ⟨rfl, rfl, rfl⟩⟩
        · exact ⟨blk, by rw [List.getElem?_set_ne (Ne.symm e)]; exact h, Nat.le_refl _, fun _ => ⟨rfl, rfl, rfl⟩⟩
      loc := fun q blk' hq ho => by
        by_cases e : q = r
        · subst e; exact .inl ⟨_, hr, rfl, rfl⟩
        · rw [List.getElem?_set_ne (Ne.symm e)] at hq
          exact .inl ⟨blk', hq, ho, rfl⟩
      imk := fun y u hy => snap_im (G.imk y u hy)
      imn := fun y u hy => by
        rcases imold y u hy with h | h
        · exact .inl h
        · exact .inr (.inl h) }
    have S2 : Sim σ'' (H.set r (srcB T code a')) w' := ⟨fun q blk hq ho => by
        by_cases e : q = r
        · subst e
          rw [List.getElem?_set_self hrl] at hq
          cases hq
          obtain ⟨c, h1, h2, h3, h4, h5⟩ := S.own 0 _ hN rfl
          rw [G.at0] at h1 h2 h3
          refine ⟨c, h1, h2, h3, h4, fun j v hj => ?_⟩
          obtain ⟨u, b1, b2, b3⟩ := h5 j v hj
          exact ⟨u, b1, b2.im (srcB_im T code a' v (List.mem_of_getElem? hj)) fun _ _ h => snap_im h, b3⟩
        · rw [List.getElem?_set_ne (Ne.symm e)] at hq
          obtain ⟨c, h1, h2, h3, h4, h5⟩ := hS.own q blk hq ho
          refine ⟨c, by show w'.heap[(σ q).b]? = _; rw [G.frame _ (hS.lt hq ho) (hS.inj r q _ _ hr hq (Ne.symm e) rfl ho)]; exact h1, h2, h3, h4, fun j v hj => ?_⟩
          obtain ⟨u, b1, b2, b3⟩ := h5 j v hj
          exact ⟨u, b1, b2.fut F2, b3⟩,
      hss.im,
      fun y u hy q blk hq ho => by
        by_cases e : q = r
        · subst e; exact sepr y u hy
        · rw [List.getElem?_set_ne (Ne.symm e)] at hq
          rcases imold y u hy with h | h
          · exact hS.sep y u h q blk hq ho
          · have := hS.lt hq ho
            show (σ q).b ≠ _
            omega,
      fun p p' blk blk' hp' hq' hne ho ho' => by
        have own_old : ∀ (p : Nat) (blk : Blk), (H.set r (srcB T code a'))[p]? = some blk → blk.own = true → ∃ b0 : Blk, H[p]? = some b0 ∧ b0.own = true := fun p blk h1 h3 => by
          by_cases e : p = r
          · subst e; exact ⟨_, hr, rfl⟩
          · rw [List.getElem?_set_ne (Ne.symm e)] at h1
            exact ⟨_, h1, h3⟩
        obtain ⟨b0, h1, h1o⟩ := own_old p blk hp' ho
        obtain ⟨b1, h2, h2o⟩ := own_old p' blk' hq' ho'
        exact hS.inj p p' b0 b1 h1 h2 hne h1o h2o,
      F2.glob hS⟩
    exact ⟨x, he, σ'', _, v, F2, S2, hVs.im hIm fun _ _ h => h, a', hR, hIm, ha1, ha2, rfl⟩⟩
/-- A call by values, of which some value comes: at any heap. -/
theorem ACalls.ofE {f : FuncId} {args : List Value} {R : Value → Prop} (h : ACalls P 0 f args [] fun d N => ∃ v, R v ∧ Im v ∧ Bor N d v) (hi : ∀ d ∈ args, Im d) : ACalls P B f args H fun d H' => R d ∧ Im d ∧ H' = H :=
  ⟨h.1, fun σ w vals hS hB hvl => by
    have hS0 : Sim ⟨σ.loc, σ.im⟩ [] w := ⟨fun r blk h => by simp at h, hS.im, fun a u h r blk hb => by simp at hb, fun r r' blk blk' h => by simp at h, hS.glob⟩
    refine (h.2 ⟨σ.loc, σ.im⟩ w vals hS0 (Nat.le_refl _) (hvl.im hi fun _ _ h => h)).mono fun e w' ⟨x, he, σ', H', d, h1, h2, h3, v, hR, hIm, ho⟩ => ?_
    obtain ⟨F, S⟩ := keep_sim (B := B) hS (snap_fut h1) (snap_sim h2)
    exact ⟨x, he, _, H, v, F, S, (bor_vr h2 ho x h3).im hIm fun _ _ h => h, hR, hIm, rfl⟩⟩
end
end Go.BM
/- Cuts behind drawn regions: what is in hand, told anew. -/
set_option linter.unusedVariables false
set_option linter.unusedSimpArgs false
namespace Go.BM
open Go.RowKit
section
variable {P : Program} {n B : Nat} {c : Code} {Q : Exit → Env → AH → Prop} {e : Env} {H : AH} {f : FuncId} {args : List Value} {k : Value → AH → Prop} {os : List (Value × Value × List Nat)} {bs : List (Nat × Blk)} {b : Blk}
theorem get_c0 {N : AH} {b : Blk} : (N ++ [b])[N.length]? = some b := by simp
theorem get_c1 {b0 b : Blk} {N : AH} : (b0 :: (N ++ [b]))[N.length + 1]? = some b := by simp
theorem get_c2 {b0 b1 b : Blk} {N : AH} : (b0 :: b1 :: (N ++ [b]))[N.length + 1 + 1]? = some b := by simp
theorem get_c3 {b0 b1 b2 b : Blk} {N : AH} : (b0 :: b1 :: b2 :: (N ++ [b]))[N.length + 1 + 1 + 1]? = some b := by simp
theorem get_c4 {b0 b1 b2 b3 b : Blk} {N : AH} : (b0 :: b1 :: b2 :: b3 :: (N ++ [b]))[N.length + 1 + 1 + 1 + 1]? = some b := by simp
theorem get_c2m {b0 b1 b c : Blk} {N : AH} : (b0 :: b1 :: (N ++ [c, b]))[N.length + 1 + 1 + 1]? = some b := by rw [show N ++ [c, b] = (N ++ [c]) ++ [b] by simp, show N.length + 1 + 1 + 1 = (N ++ [c]).length + 1 + 1 by simp]; exact get_c2
theorem get_c3m {b0 b1 b2 b c : Blk} {N : AH} : (b0 :: b1 :: b2 :: (N ++ [c, b]))[N.length + 1 + 1 + 1 + 1]? = some b := by rw [show N ++ [c, b] = (N ++ [c]) ++ [b] by simp, show N.length + 1 + 1 + 1 + 1 = (N ++ [c]).length + 1 + 1 + 1 by simp]; exact get_c3
theorem DCalls.mono {T : TypeId} {c : Nat} {R R' : Value → Prop} (h : DCalls P T c f args R) (hR : ∀ v, R v → R' v) : DCalls P T c f args R' :=
  fun code a hc h0 h1 => (h code a hc h0 h1).mono fun d N ⟨v, a', S, g1, g2⟩ => ⟨v, a', S, hR v g1, g2⟩
def DFOut (T : TypeId) (c : Nat) (R : List Blk → ((Nat → Nat) → Value) → Prop) (code : List UInt8) (a : Int) (d : Value) (N : AH) : Prop :=
  ∃ bs F a' ρ, R bs F ∧ a ≤ a' ∧ a' ≤ a + (c : Nat) ∧ N[0]? = some (srcB T code a') ∧ d = F ρ ∧
    (∀ i, i < bs.length → ρ i ≠ 0 ∧ N[ρ i]? = bs[i]?) ∧ (∀ i j, i < bs.length → j < bs.length → ρ i = ρ j → i = j)
theorem DFOut.none {T : TypeId} {c : Nat} {R : List Blk → ((Nat → Nat) → Value) → Prop} {code : List UInt8} {a : Int} {d : Value} {N : AH} {F : (Nat → Nat) → Value} (a' : Int) (hN : N[0]? = some (srcB T code a')) (hR : R [] F) (hd : d = F fun _ => 0) (h1 : a ≤ a') (h2 : a' ≤ a + (c : Nat)) : DFOut T c R code a d N :=
  ⟨[], F, a', _, hR, h1, h2, hN, hd, fun i hi => by simp at hi, fun i j hi => by simp at hi⟩
theorem DFOut.one {T : TypeId} {c : Nat} {R : List Blk → ((Nat → Nat) → Value) → Prop} {code : List UInt8} {a : Int} {d : Value} {N : AH} {F : (Nat → Nat) → Value} {b : Blk} (a' : Int) (q : Nat) (hN : N[0]? = some (srcB T code a')) (hq : N[q]? = some b) (hR : R [b] F) (hd : d = F fun _ => q) (h0 : q ≠ 0) (h1 : a ≤ a') (h2 : a' ≤ a + (c : Nat)) : DFOut T c R code a d N :=
  ⟨[b], F, a', _, hR, h1, h2, hN, hd, fun i hi => by simp at hi; subst hi; exact ⟨h0, hq⟩, fun i j hi hj _ => by simp at hi hj; omega⟩
theorem DFOut.two {T : TypeId} {c : Nat} {R : List Blk → ((Nat → Nat) → Value) → Prop} {code : List UInt8} {a : Int} {d : Value} {N : AH} {F : (Nat → Nat) → Value} {b b' : Blk} (a' : Int) (q q' : Nat) (hN : N[0]? = some (srcB T code a')) (hq : N[q]? = some b) (hq' : N[q']? = some b') (hR : R [b, b'] F) (hd : d = F fun i => if i = 0 then q else q') (h0 : q ≠ 0) (h0' : q' ≠ 0) (hne : q ≠ q') (h1 : a ≤ a') (h2 : a' ≤ a + (c : Nat)) : DFOut T c R code a d N :=
  ⟨[b, b'], F, a', _, hR, h1, h2, hN, hd, fun i hi => by
    have : i = 0 ∨ i = 1 := by simp at hi; omega
    rcases this with rfl | rfl
    · exact ⟨h0, hq⟩
    · exact ⟨h0', hq'⟩, fun i j hi hj e => by
    have h1 : i = 0 ∨ i = 1 := by simp at hi; omega
    have h2 : j = 0 ∨ j = 1 := by simp at hj; omega
    rcases h1 with rfl | rfl <;> rcases h2 with rfl | rfl
    · rfl
    · simp at e; exact absurd e hne
    · simp at e; exact absurd e.symm hne
    · rfl⟩
/-- THE CONTRACT of a draw that hands back blocks of its own, each told: blocks, and the value out of their numbers. -/
def DFun (P : Program) (T : TypeId) (c : Nat) (f : FuncId) (args : List Value) (R : List Blk → ((Nat → Nat) → Value) → Prop) : Prop :=
  ∀ (code : List UInt8) (a : Int), code.length ≤ 1048576 → 0 ≤ a → a + (c : Nat) ≤ 1000000 → ACalls P 0 f (ptr0 :: args) [srcB T code a] fun d N => DFOut T c R code a d N
structure Shp (bs : List Blk) (F : (Nat → Nat) → Value) : Prop where
  fl : ∀ b ∈ bs, ∀ c ∈ b.cs, flatV c = true
  lif : ∀ N ρ k, Lif N ρ (fun i => i < bs.length) k (F ρ) (F fun i => k + i)
theorem DFun.use {T : TypeId} {c r : Nat} {R : List Blk → ((Nat → Nat) → Value) → Prop} {code : List UInt8} {a : Int} (h : DFun P T c f args R) (hsh : ∀ bs F, R bs F → Shp bs F) (hr : H[r]? = some (srcB T code a)) (hB : B ≤ r) (hi : ∀ d ∈ args, Im d) (hc : code.length ≤ 1048576) (h0 : 0 ≤ a) (h1 : a + (c : Nat) ≤ 1000000) :
    ACalls P B f (.pointer (some ⟨r, 0, some 0⟩) :: args) H fun d H' => ∃ bs F a', R bs F ∧ a ≤ a' ∧ a' ≤ a + (c : Nat) ∧ d = F (fun i => H.length + i) ∧ H' = H.set r (srcB T code a') ++ bs := by
  refine ACalls.liftS (h code a hc h0 h1) hr hB hi ?_
  rintro d N ⟨bs, F, a', ρ, hR, ha1, ha2, hN, rfl, hb, hinj⟩
  have sh := hsh bs F hR
  refine ⟨a', ρ, fun i => i < bs.length, bs, _, hN, fun i j hi hj e => hinj i j hi hj e, fun i hi => (hb i hi).1, sh.lif N ρ H.length, fun i b' hb' _ => lt_of_some hb', fun i hi => ?_, bs, F, a', hR, ha1, ha2, rfl, rfl⟩
  have hi' : i < bs.length := hi
  refine ⟨bs[i], bs[i], by rw [(hb i hi).2]; exact List.getElem?_eq_getElem hi', List.getElem?_eq_getElem hi', ⟨rfl, rfl, rfl, rfl, Nat.le_refl _, fun j v hj => ⟨v, hj, .flat v (sh.fl _ (List.getElem_mem hi') v (List.mem_of_getElem? hj))⟩⟩⟩
/-- One block: the value made of it. -/
theorem Shp.one {el sz ver : Nat} {o : Bool} {cs : List Value} {F : (Nat → Nat) → Value} (hf : ∀ c ∈ cs, flatV c = true) (hl : ∀ N ρ k, Lif N ρ (fun i => i < 1) k (F ρ) (F fun i => k + i)) : Shp [⟨el, sz, cs, ver, o⟩] F :=
  ⟨fun b hb c hc => by simp at hb; subst hb; exact hf c hc, hl⟩
theorem Shp.none {F : (Nat → Nat) → Value} (hl : ∀ N ρ k, Lif N ρ (fun i => i < 0) k (F ρ) (F fun i => k + i)) : Shp [] F := ⟨fun b hb => by simp at hb, hl⟩
theorem LifL.aggL {N : AH} {ρ : Nat → Nat} {q : Nat → Prop} {k : Nat} {xs m : List Value} (h : LifL N ρ q k xs m) : Lif N ρ q k (.agg xs.toArray) (.agg m.toArray) := LifL.agg (by simpa using h)
/-- One thing more, behind a list that is ours. -/
theorem appendH_one {α : Type} {E : Enc α} {H0 : AH} {t tx el by_ r ver : Nat} {z : TypeId × Nat × Nat} {ys : List α} (y : α) (hz : elZ P t = some (el, E.sz, by_)) (hzx : elZ P tx = some z) (hok : zOk P el E.sz = true) (hb : H0[r]? = some ⟨el, E.sz, E.flat ys, ver, true⟩) (hB : B ≤ r)
    (h1 : (ys.length + 1) * by_ ≤ 140737488355328) (h2 : ys.length + 1 ≤ 140737488355328) :
    appendH P B (H0 ++ [⟨el, E.sz, cellsV (E.val y), 0, true⟩]) t tx (.slice (some ⟨r, 0, none⟩) ys.length ver) (.slice (some ⟨H0.length, 0, none⟩) 1 0) = some (.slice (some ⟨r, 0, none⟩) (ys.length + 1) (ver + 1), H0.set r ⟨el, E.sz, E.flat (ys ++ [y]), ver + 1, true⟩ ++ [⟨el, E.sz, cellsV (E.val y), 0, true⟩]) := by
  have := appendH_sb (P := P) (B := B) (H := H0 ++ [⟨el, E.sz, cellsV (E.val y), 0, true⟩]) (E := E) (xs := ys) (ys := [y]) (r := r) (x := .slice (some ⟨H0.length, 0, none⟩) 1 0) (t := t) (tx := tx) (o := true) (ver := ver) hz hok (by rw [List.getElem?_append_left (lt_of_some hb)]; exact hb) hB
    (srcV_own hzx (by rw [List.getElem?_append_right (Nat.le_refl _), Nat.sub_self]; rfl) rfl rfl (by simp only [E.flat_one, List.drop_zero, List.length_cons, List.length_nil, Nat.zero_add, Nat.one_mul]; exact List.take_of_length_le (by rw [E.hsz]; exact Nat.le_refl _)) (by simp [E.hsz])) h1 h2
  rw [this, List.set_append_left _ _ (lt_of_some hb)]
  simp [sb]
end
end Go.BM
/- What comes in new memory, told as a value that nobody writes. -/
set_option linter.unusedVariables false
set_option linter.unusedSimpArgs false
namespace Go.BM
open Go.RowKit
section
variable {P : Program} {B : Nat} {σ σ' τ : Sg} {H N : AH} {w w' : World}

/-- Some value of which R holds. -/
def EOut (R : Value → Prop) (d : Value) (N : AH) : Prop := ∃ v, R v ∧ Im v ∧ Bor N d v
theorem EOut.val {R : Value → Prop} {d : Value} {N : AH} (h : Im d) (hR : R d) : EOut R d N := ⟨d, hR, h, .same d h⟩
/-- THE CONTRACT of a call by values of which some value comes. -/
def ECalls (P : Program) (f : FuncId) (args : List Value) (R : Value → Prop) : Prop := ACalls P 0 f args [] fun d N => EOut R d N
theorem ECalls.use {f : FuncId} {args : List Value} {R : Value → Prop} (h : ECalls P f args R) (hi : ∀ d ∈ args, Im d) : ACalls P B f args H fun d H' => R d ∧ Im d ∧ H' = H := ACalls.ofE h hi
end
end Go.BM
/- Functions that hand back blocks of their own, each told. -/
set_option linter.unusedVariables false
set_option linter.unusedSimpArgs false
namespace Go.BM
open Go.RowKit
section
variable {P : Program} {B : Nat} {H N : AH}
def NFOut (R : List Blk → ((Nat → Nat) → Value) → Prop) (d : Value) (N : AH) : Prop :=
  ∃ bs F ρ, R bs F ∧ d = F ρ ∧ (∀ i, i < bs.length → N[ρ i]? = bs[i]?) ∧ (∀ i j, i < bs.length → j < bs.length → ρ i = ρ j → i = j)
theorem NFOut.none {R : List Blk → ((Nat → Nat) → Value) → Prop} {d : Value} {F : (Nat → Nat) → Value} (hR : R [] F) (hd : d = F fun _ => 0) : NFOut R d N :=
  ⟨[], F, _, hR, hd, fun i hi => by simp at hi, fun i j hi => by simp at hi⟩
theorem NFOut.one {R : List Blk → ((Nat → Nat) → Value) → Prop} {d : Value} {F : (Nat → Nat) → Value} {b : Blk} (q : Nat) (hq : N[q]? = some b) (hR : R [b] F) (hd : d = F fun _ => q) : NFOut R d N :=
  ⟨[b], F, _, hR, hd, fun i hi => by simp at hi; subst hi; exact hq, fun i j hi hj _ => by simp at hi hj; omega⟩
theorem NFOut.two {R : List Blk → ((Nat → Nat) → Value) → Prop} {d : Value} {F : (Nat → Nat) → Value} {b b' : Blk} (q q' : Nat) (hq : N[q]? = some b) (hq' : N[q']? = some b') (hR : R [b, b'] F) (hd : d = F fun i => if i = 0 then q else q') (hne : q ≠ q') : NFOut R d N :=
  ⟨[b, b'], F, _, hR, hd, fun i hi => by
    have : i = 0 ∨ i = 1 := by simp at hi; omega
    rcases this with rfl | rfl
    · exact hq
    · exact hq', fun i j hi hj e => by
    have h1 : i = 0 ∨ i = 1 := by simp at hi; omega
    have h2 : j = 0 ∨ j = 1 := by simp at hj; omega
    rcases h1 with rfl | rfl <;> rcases h2 with rfl | rfl
    · rfl
    · simp at e; exact absurd e hne
    · simp at e; exact absurd e.symm hne
    · rfl⟩
/-- THE CONTRACT of a call by values that hands back blocks of its own, each told. -/
def NFun (P : Program) (f : FuncId) (args : List Value) (R : List Blk → ((Nat → Nat) → Value) → Prop) : Prop := ACalls P 0 f args [] fun d N => NFOut R d N
theorem NFun.use {f : FuncId} {args args' : List Value} {R : List Blk → ((Nat → Nat) → Value) → Prop} (h : NFun P f args' R) (hsh : ∀ bs F, R bs F → Shp bs F) (hb : BorL H args args') :
    ACalls P H.length f args H fun d H' => ∃ bs F, R bs F ∧ d = F (fun i => H.length + i) ∧ H' = H ++ bs := by
  refine ACalls.lift h hb ?_
  rintro d N ⟨bs, F, ρ, hR, rfl, hbs, hinj⟩
  have sh := hsh bs F hR
  refine ⟨ρ, fun i => i < bs.length, bs, _, fun i j hi hj e => hinj i j hi hj e, sh.lif N ρ H.length, fun i b' hb' _ => lt_of_some hb', fun i hi => ?_, bs, F, hR, rfl, rfl⟩
  have hi' : i < bs.length := hi
  exact ⟨bs[i], bs[i], by rw [hbs i hi]; exact List.getElem?_eq_getElem hi', List.getElem?_eq_getElem hi', ⟨rfl, rfl, rfl, rfl, Nat.le_refl _, fun j v hj => ⟨v, hj, .flat v (sh.fl _ (List.getElem_mem hi') v (List.mem_of_getElem? hj))⟩⟩⟩
end
end Go.BM
