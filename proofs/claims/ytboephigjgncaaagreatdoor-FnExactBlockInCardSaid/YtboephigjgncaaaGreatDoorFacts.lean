/- Facts on the types of the program, by the kernel. -/
import Derived.Test.YtboephigjgncaaaGreatDoorProg
import Derived.Test.YtboephigjgncaaaGreatDoorC19
import Derived.KernelRfl
namespace Go.BM
open Go.Proofs
theorem lay2 : lay Tryz.prog 2 = some (false, 1) := by kernel_rfl
theorem und2 : Tryz.prog.underlying 2 = some (.int .i64) := by kernel_rfl
theorem zer2 : zeroV Tryz.prog 2 = some (.int .i64 0) := by kernel_rfl
theorem lay3 : lay Tryz.prog 3 = some (false, 1) := by kernel_rfl
theorem und3 : Tryz.prog.underlying 3 = some (.int .i64) := by kernel_rfl
theorem zer3 : zeroV Tryz.prog 3 = some (.int .i64 0) := by kernel_rfl
theorem lay4 : lay Tryz.prog 4 = some (false, 1) := by kernel_rfl
theorem und4 : Tryz.prog.underlying 4 = some .bool := by kernel_rfl
theorem zer4 : zeroV Tryz.prog 4 = some (.bool false) := by kernel_rfl
theorem lay5 : lay Tryz.prog 5 = some (false, 1) := by kernel_rfl
theorem und5 : Tryz.prog.underlying 5 = some (.int .u8) := by kernel_rfl
theorem zer5 : zeroV Tryz.prog 5 = some (.int .u8 0) := by kernel_rfl
theorem lay9 : lay Tryz.prog 9 = some (false, 1) := by kernel_rfl
theorem und9 : Tryz.prog.underlying 9 = some .string := by kernel_rfl
theorem zer9 : zeroV Tryz.prog 9 = some (.string ⟨#[]⟩) := by kernel_rfl
theorem lay21 : lay Tryz.prog 21 = some (false, 1) := by kernel_rfl
theorem und21 : Tryz.prog.underlying 21 = some (.int .i32) := by kernel_rfl
theorem zer21 : zeroV Tryz.prog 21 = some (.int .i32 0) := by kernel_rfl
theorem lay22 : lay Tryz.prog 22 = some (false, 1) := by kernel_rfl
theorem elZ22 : elZ Tryz.prog 22 = some (9, 1, 16) := by kernel_rfl
theorem zOk22 : zOk Tryz.prog 9 1 = true := by kernel_rfl
theorem zer22 : zeroV Tryz.prog 22 = some (.slice none 0 0) := by kernel_rfl
theorem lay23 : lay Tryz.prog 23 = some (false, 1) := by kernel_rfl
theorem elZ23 : elZ Tryz.prog 23 = some (80, 2, 16) := by kernel_rfl
theorem zOk23 : zOk Tryz.prog 80 2 = true := by kernel_rfl
theorem zer23 : zeroV Tryz.prog 23 = some (.slice none 0 0) := by kernel_rfl
theorem lay25 : lay Tryz.prog 25 = some (true, 2) := by kernel_rfl
theorem fld25_0 : fldOff Tryz.prog 25 0 = some 0 := by kernel_rfl
theorem fla25_0 : fldAt Tryz.prog 25 0 = some (0, false, 1) := by kernel_rfl
theorem fld25_1 : fldOff Tryz.prog 25 1 = some 1 := by kernel_rfl
theorem fla25_1 : fldAt Tryz.prog 25 1 = some (1, false, 1) := by kernel_rfl
theorem str25 : strT Tryz.prog 25 = some ([.slice none 0 0, .slice none 0 0], [(0, 1), (1, 1)]) := by kernel_rfl
theorem zer25 : zeroV Tryz.prog 25 = some (.agg #[.slice none 0 0, .slice none 0 0]) := by kernel_rfl
theorem lay27 : lay Tryz.prog 27 = some (false, 1) := by kernel_rfl
theorem elZ27 : elZ Tryz.prog 27 = some (2, 1, 8) := by kernel_rfl
theorem zOk27 : zOk Tryz.prog 2 1 = true := by kernel_rfl
theorem zer27 : zeroV Tryz.prog 27 = some (.slice none 0 0) := by kernel_rfl
theorem lay29 : lay Tryz.prog 29 = some (true, 4) := by kernel_rfl
theorem fld29_0 : fldOff Tryz.prog 29 0 = some 0 := by kernel_rfl
theorem fla29_0 : fldAt Tryz.prog 29 0 = some (0, false, 1) := by kernel_rfl
theorem fld29_1 : fldOff Tryz.prog 29 1 = some 1 := by kernel_rfl
theorem fla29_1 : fldAt Tryz.prog 29 1 = some (1, false, 1) := by kernel_rfl
theorem fld29_2 : fldOff Tryz.prog 29 2 = some 2 := by kernel_rfl
theorem fla29_2 : fldAt Tryz.prog 29 2 = some (2, false, 1) := by kernel_rfl
theorem fld29_3 : fldOff Tryz.prog 29 3 = some 3 := by kernel_rfl
theorem fla29_3 : fldAt Tryz.prog 29 3 = some (3, false, 1) := by kernel_rfl
theorem str29 : strT Tryz.prog 29 = some ([.int .i64 0, .int .i64 0, .int .i64 0, .slice none 0 0], [(0, 1), (1, 1), (2, 1), (3, 1)]) := by kernel_rfl
theorem zer29 : zeroV Tryz.prog 29 = some (.agg #[.int .i64 0, .int .i64 0, .int .i64 0, .slice none 0 0]) := by kernel_rfl
theorem lay31 : lay Tryz.prog 31 = some (true, 5) := by kernel_rfl
theorem fld31_0 : fldOff Tryz.prog 31 0 = some 0 := by kernel_rfl
theorem fla31_0 : fldAt Tryz.prog 31 0 = some (0, false, 1) := by kernel_rfl
theorem fld31_1 : fldOff Tryz.prog 31 1 = some 1 := by kernel_rfl
theorem fla31_1 : fldAt Tryz.prog 31 1 = some (1, true, 4) := by kernel_rfl
theorem str31 : strT Tryz.prog 31 = some ([.int .i64 0, .int .i64 0, .int .i64 0, .int .i64 0, .slice none 0 0], [(0, 1), (1, 4)]) := by kernel_rfl
theorem zer31 : zeroV Tryz.prog 31 = some (.agg #[.int .i64 0, .int .i64 0, .int .i64 0, .int .i64 0, .slice none 0 0]) := by kernel_rfl
theorem lay33 : lay Tryz.prog 33 = some (false, 1) := by kernel_rfl
theorem elZ33 : elZ Tryz.prog 33 = some (78, 2, 16) := by kernel_rfl
theorem zOk33 : zOk Tryz.prog 78 2 = true := by kernel_rfl
theorem zer33 : zeroV Tryz.prog 33 = some (.slice none 0 0) := by kernel_rfl
theorem lay35 : lay Tryz.prog 35 = some (true, 2) := by kernel_rfl
theorem fld35_0 : fldOff Tryz.prog 35 0 = some 0 := by kernel_rfl
theorem fla35_0 : fldAt Tryz.prog 35 0 = some (0, false, 1) := by kernel_rfl
theorem fld35_1 : fldOff Tryz.prog 35 1 = some 1 := by kernel_rfl
theorem fla35_1 : fldAt Tryz.prog 35 1 = some (1, false, 1) := by kernel_rfl
theorem str35 : strT Tryz.prog 35 = some ([.slice none 0 0, .slice none 0 0], [(0, 1), (1, 1)]) := by kernel_rfl
theorem zer35 : zeroV Tryz.prog 35 = some (.agg #[.slice none 0 0, .slice none 0 0]) := by kernel_rfl
theorem lay42 : lay Tryz.prog 42 = some (false, 1) := by kernel_rfl
theorem elZ42 : elZ Tryz.prog 42 = some (128, 2, 16) := by kernel_rfl
theorem zOk42 : zOk Tryz.prog 128 2 = true := by kernel_rfl
theorem zer42 : zeroV Tryz.prog 42 = some (.slice none 0 0) := by kernel_rfl
theorem lay43 : lay Tryz.prog 43 = some (false, 1) := by kernel_rfl
theorem elZ43 : elZ Tryz.prog 43 = some (120, 4, 48) := by kernel_rfl
theorem zOk43 : zOk Tryz.prog 120 4 = true := by kernel_rfl
theorem zer43 : zeroV Tryz.prog 43 = some (.slice none 0 0) := by kernel_rfl
theorem lay45 : lay Tryz.prog 45 = some (true, 4) := by kernel_rfl
theorem fld45_0 : fldOff Tryz.prog 45 0 = some 0 := by kernel_rfl
theorem fla45_0 : fldAt Tryz.prog 45 0 = some (0, false, 1) := by kernel_rfl
theorem fld45_1 : fldOff Tryz.prog 45 1 = some 1 := by kernel_rfl
theorem fla45_1 : fldAt Tryz.prog 45 1 = some (1, false, 1) := by kernel_rfl
theorem fld45_2 : fldOff Tryz.prog 45 2 = some 2 := by kernel_rfl
theorem fla45_2 : fldAt Tryz.prog 45 2 = some (2, false, 1) := by kernel_rfl
theorem fld45_3 : fldOff Tryz.prog 45 3 = some 3 := by kernel_rfl
theorem fla45_3 : fldAt Tryz.prog 45 3 = some (3, false, 1) := by kernel_rfl
theorem str45 : strT Tryz.prog 45 = some ([.int .i64 0, .int .i64 0, .slice none 0 0, .slice none 0 0], [(0, 1), (1, 1), (2, 1), (3, 1)]) := by kernel_rfl
theorem zer45 : zeroV Tryz.prog 45 = some (.agg #[.int .i64 0, .int .i64 0, .slice none 0 0, .slice none 0 0]) := by kernel_rfl
theorem lay47 : lay Tryz.prog 47 = some (true, 5) := by kernel_rfl
theorem fld47_0 : fldOff Tryz.prog 47 0 = some 0 := by kernel_rfl
theorem fla47_0 : fldAt Tryz.prog 47 0 = some (0, false, 1) := by kernel_rfl
theorem fld47_1 : fldOff Tryz.prog 47 1 = some 1 := by kernel_rfl
theorem fla47_1 : fldAt Tryz.prog 47 1 = some (1, true, 4) := by kernel_rfl
theorem str47 : strT Tryz.prog 47 = some ([.int .i64 0, .int .i64 0, .int .i64 0, .slice none 0 0, .slice none 0 0], [(0, 1), (1, 4)]) := by kernel_rfl
theorem zer47 : zeroV Tryz.prog 47 = some (.agg #[.int .i64 0, .int .i64 0, .int .i64 0, .slice none 0 0, .slice none 0 0]) := by kernel_rfl
theorem lay54 : lay Tryz.prog 54 = some (true, 2) := by kernel_rfl
theorem fld54_0 : fldOff Tryz.prog 54 0 = some 0 := by kernel_rfl
theorem fla54_0 : fldAt Tryz.prog 54 0 = some (0, false, 1) := by kernel_rfl
theorem fld54_1 : fldOff Tryz.prog 54 1 = some 1 := by kernel_rfl
theorem fla54_1 : fldAt Tryz.prog 54 1 = some (1, false, 1) := by kernel_rfl
theorem str54 : strT Tryz.prog 54 = some ([.int .i64 0, .string ⟨#[]⟩], [(0, 1), (1, 1)]) := by kernel_rfl
theorem zer54 : zeroV Tryz.prog 54 = some (.agg #[.int .i64 0, .string ⟨#[]⟩]) := by kernel_rfl
theorem lay78 : lay Tryz.prog 78 = some (true, 2) := by kernel_rfl
theorem fld78_0 : fldOff Tryz.prog 78 0 = some 0 := by kernel_rfl
theorem fla78_0 : fldAt Tryz.prog 78 0 = some (0, false, 1) := by kernel_rfl
theorem fld78_1 : fldOff Tryz.prog 78 1 = some 1 := by kernel_rfl
theorem fla78_1 : fldAt Tryz.prog 78 1 = some (1, false, 1) := by kernel_rfl
theorem str78 : strT Tryz.prog 78 = some ([.int .i64 0, .int .i64 0], [(0, 1), (1, 1)]) := by kernel_rfl
theorem zer78 : zeroV Tryz.prog 78 = some (.agg #[.int .i64 0, .int .i64 0]) := by kernel_rfl
theorem lay80 : lay Tryz.prog 80 = some (true, 2) := by kernel_rfl
theorem fld80_0 : fldOff Tryz.prog 80 0 = some 0 := by kernel_rfl
theorem fla80_0 : fldAt Tryz.prog 80 0 = some (0, false, 1) := by kernel_rfl
theorem fld80_1 : fldOff Tryz.prog 80 1 = some 1 := by kernel_rfl
theorem fla80_1 : fldAt Tryz.prog 80 1 = some (1, false, 1) := by kernel_rfl
theorem str80 : strT Tryz.prog 80 = some ([.int .i64 0, .int .i64 0], [(0, 1), (1, 1)]) := by kernel_rfl
theorem zer80 : zeroV Tryz.prog 80 = some (.agg #[.int .i64 0, .int .i64 0]) := by kernel_rfl
theorem lay111 : lay Tryz.prog 111 = some (false, 1) := by kernel_rfl
theorem elZ111 : elZ Tryz.prog 111 = some (5, 1, 1) := by kernel_rfl
theorem zOk111 : zOk Tryz.prog 5 1 = true := by kernel_rfl
theorem zer111 : zeroV Tryz.prog 111 = some (.slice none 0 0) := by kernel_rfl
theorem lay115 : lay Tryz.prog 115 = some (true, 3) := by kernel_rfl
theorem fld115_0 : fldOff Tryz.prog 115 0 = some 0 := by kernel_rfl
theorem fla115_0 : fldAt Tryz.prog 115 0 = some (0, false, 1) := by kernel_rfl
theorem fld115_1 : fldOff Tryz.prog 115 1 = some 1 := by kernel_rfl
theorem fla115_1 : fldAt Tryz.prog 115 1 = some (1, false, 1) := by kernel_rfl
theorem fld115_2 : fldOff Tryz.prog 115 2 = some 2 := by kernel_rfl
theorem fla115_2 : fldAt Tryz.prog 115 2 = some (2, false, 1) := by kernel_rfl
theorem str115 : strT Tryz.prog 115 = some ([.slice none 0 0, .int .i64 0, .int .i64 0], [(0, 1), (1, 1), (2, 1)]) := by kernel_rfl
theorem zer115 : zeroV Tryz.prog 115 = some (.agg #[.slice none 0 0, .int .i64 0, .int .i64 0]) := by kernel_rfl
theorem lay120 : lay Tryz.prog 120 = some (true, 4) := by kernel_rfl
theorem fld120_0 : fldOff Tryz.prog 120 0 = some 0 := by kernel_rfl
theorem fla120_0 : fldAt Tryz.prog 120 0 = some (0, false, 1) := by kernel_rfl
theorem fld120_1 : fldOff Tryz.prog 120 1 = some 1 := by kernel_rfl
theorem fla120_1 : fldAt Tryz.prog 120 1 = some (1, true, 3) := by kernel_rfl
theorem str120 : strT Tryz.prog 120 = some ([.int .i64 0, .slice none 0 0, .int .i64 0, .int .i64 0], [(0, 1), (1, 3)]) := by kernel_rfl
theorem zer120 : zeroV Tryz.prog 120 = some (.agg #[.int .i64 0, .slice none 0 0, .int .i64 0, .int .i64 0]) := by kernel_rfl
theorem lay128 : lay Tryz.prog 128 = some (true, 2) := by kernel_rfl
theorem fld128_0 : fldOff Tryz.prog 128 0 = some 0 := by kernel_rfl
theorem fla128_0 : fldAt Tryz.prog 128 0 = some (0, false, 1) := by kernel_rfl
theorem fld128_1 : fldOff Tryz.prog 128 1 = some 1 := by kernel_rfl
theorem fla128_1 : fldAt Tryz.prog 128 1 = some (1, false, 1) := by kernel_rfl
theorem str128 : strT Tryz.prog 128 = some ([.int .i64 0, .int .i64 0], [(0, 1), (1, 1)]) := by kernel_rfl
theorem zer128 : zeroV Tryz.prog 128 = some (.agg #[.int .i64 0, .int .i64 0]) := by kernel_rfl
theorem lay138 : lay Tryz.prog 138 = some (false, 1) := by kernel_rfl
theorem zer138 : zeroV Tryz.prog 138 = some (.nilIface) := by kernel_rfl
theorem lay161 : lay Tryz.prog 161 = some (false, 1) := by kernel_rfl
theorem zer161 : zeroV Tryz.prog 161 = some (.pointer none) := by kernel_rfl
theorem lay163 : lay Tryz.prog 163 = some (true, 2) := by kernel_rfl
theorem fld163_0 : fldOff Tryz.prog 163 0 = some 0 := by kernel_rfl
theorem fla163_0 : fldAt Tryz.prog 163 0 = some (0, false, 1) := by kernel_rfl
theorem fld163_1 : fldOff Tryz.prog 163 1 = some 1 := by kernel_rfl
theorem fla163_1 : fldAt Tryz.prog 163 1 = some (1, false, 1) := by kernel_rfl
theorem str163 : strT Tryz.prog 163 = some ([.pointer none, .slice none 0 0], [(0, 1), (1, 1)]) := by kernel_rfl
theorem zer163 : zeroV Tryz.prog 163 = some (.agg #[.pointer none, .slice none 0 0]) := by kernel_rfl
theorem lay172 : lay Tryz.prog 172 = some (false, 1) := by kernel_rfl
theorem und172 : Tryz.prog.underlying 172 = some (.int .i64) := by kernel_rfl
theorem zer172 : zeroV Tryz.prog 172 = some (.int .i64 0) := by kernel_rfl
theorem lay173 : lay Tryz.prog 173 = some (false, 1) := by kernel_rfl
theorem und173 : Tryz.prog.underlying 173 = some (.int .u64) := by kernel_rfl
theorem zer173 : zeroV Tryz.prog 173 = some (.int .u64 0) := by kernel_rfl
theorem lay176 : lay Tryz.prog 176 = some (false, 1) := by kernel_rfl
theorem und176 : Tryz.prog.underlying 176 = some (.int .u64) := by kernel_rfl
theorem zer176 : zeroV Tryz.prog 176 = some (.int .u64 0) := by kernel_rfl
theorem lay177 : lay Tryz.prog 177 = some (false, 1) := by kernel_rfl
theorem zer177 : zeroV Tryz.prog 177 = some (.pointer none) := by kernel_rfl
theorem lay182 : lay Tryz.prog 182 = some (false, 1) := by kernel_rfl
theorem zer182 : zeroV Tryz.prog 182 = some (.pointer none) := by kernel_rfl
theorem lay186 : lay Tryz.prog 186 = some (true, 3) := by kernel_rfl
theorem fld186_0 : fldOff Tryz.prog 186 0 = some 0 := by kernel_rfl
theorem fla186_0 : fldAt Tryz.prog 186 0 = some (0, false, 1) := by kernel_rfl
theorem fld186_1 : fldOff Tryz.prog 186 1 = some 1 := by kernel_rfl
theorem fla186_1 : fldAt Tryz.prog 186 1 = some (1, false, 1) := by kernel_rfl
theorem fld186_2 : fldOff Tryz.prog 186 2 = some 2 := by kernel_rfl
theorem fla186_2 : fldAt Tryz.prog 186 2 = some (2, false, 1) := by kernel_rfl
theorem str186 : strT Tryz.prog 186 = some ([.string ⟨#[]⟩, .string ⟨#[]⟩, .nilIface], [(0, 1), (1, 1), (2, 1)]) := by kernel_rfl
theorem zer186 : zeroV Tryz.prog 186 = some (.agg #[.string ⟨#[]⟩, .string ⟨#[]⟩, .nilIface]) := by kernel_rfl
theorem lay188 : lay Tryz.prog 188 = some (true, 24) := by kernel_rfl
theorem zer188 : zeroV Tryz.prog 188 = some (.agg #[.int .u8 0, .int .u8 0, .int .u8 0, .int .u8 0, .int .u8 0, .int .u8 0, .int .u8 0, .int .u8 0, .int .u8 0, .int .u8 0, .int .u8 0, .int .u8 0, .int .u8 0, .int .u8 0, .int .u8 0, .int .u8 0, .int .u8 0, .int .u8 0, .int .u8 0, .int .u8 0, .int .u8 0, .int .u8 0, .int .u8 0, .int .u8 0]) := by kernel_rfl
theorem lay193 : lay Tryz.prog 193 = some (false, 1) := by kernel_rfl
theorem und193 : Tryz.prog.underlying 193 = some (.int .u32) := by kernel_rfl
theorem zer193 : zeroV Tryz.prog 193 = some (.int .u32 0) := by kernel_rfl
theorem lay197 : lay Tryz.prog 197 = some (false, 1) := by kernel_rfl
theorem zer197 : zeroV Tryz.prog 197 = some (.pointer none) := by kernel_rfl
theorem lay200 : lay Tryz.prog 200 = some (true, 256) := by kernel_rfl
theorem zer200 : zeroV Tryz.prog 200 = some (.agg #[.int .u8 0, .int .u8 0, .int .u8 0, .int .u8 0, .int .u8 0, .int .u8 0, .int .u8 0, .int .u8 0, .int .u8 0, .int .u8 0, .int .u8 0, .int .u8 0, .int .u8 0, .int .u8 0, .int .u8 0, .int .u8 0, .int .u8 0, .int .u8 0, .int .u8 0, .int .u8 0, .int .u8 0, .int .u8 0, .int .u8 0, .int .u8 0, .int .u8 0, .int .u8 0, .int .u8 0, .int .u8 0, .int .u8 0, .int .u8 0, .int .u8 0, .int .u8 0, .int .u8 0, .int .u8 0, .int .u8 0, .int .u8 0, .int .u8 0, .int .u8 0, .int .u8 0, .int .u8 0, .int .u8 0, .int .u8 0, .int .u8 0, .int .u8 0, .int .u8 0, .int .u8 0, .int .u8 0, .int .u8 0, .int .u8 0, .int .u8 0, .int .u8 0, .int .u8 0, .int .u8 0, .int .u8 0, .int .u8 0, .int .u8 0, .int .u8 0, .int .u8 0, .int .u8 0, .int .u8 0, .int .u8 0, .int .u8 0, .int .u8 0, .int .u8 0, .int .u8 0, .int .u8 0, .int .u8 0, .int .u8 0, .int .u8 0, .int .u8 0, .int .u8 0, .int .u8 0, .int .u8 0, .int .u8 0, .int .u8 0, .int .u8 0, .int .u8 0, .int .u8 0, .int .u8 0, .int .u8 0, .int .u8 0, .int .u8 0, .int .u8 0, .int .u8 0, .int .u8 0, .int .u8 0, .int .u8 0, .int .u8 0, .int .u8 0, .int .u8 0, .int .u8 0, .int .u8 0, .int .u8 0, .int .u8 0, .int .u8 0, .int .u8 0, .int .u8 0, .int .u8 0, .int .u8 0, .int .u8 0, .int .u8 0, .int .u8 0, .int .u8 0, .int .u8 0, .int .u8 0, .int .u8 0, .int .u8 0, .int .u8 0, .int .u8 0, .int .u8 0, .int .u8 0, .int .u8 0, .int .u8 0, .int .u8 0, .int .u8 0, .int .u8 0, .int .u8 0, .int .u8 0, .int .u8 0, .int .u8 0, .int .u8 0, .int .u8 0, .int .u8 0, .int .u8 0, .int .u8 0, .int .u8 0, .int .u8 0, .int .u8 0, .int .u8 0, .int .u8 0, .int .u8 0, .int .u8 0, .int .u8 0, .int .u8 0, .int .u8 0, .int .u8 0, .int .u8 0, .int .u8 0, .int .u8 0, .int .u8 0, .int .u8 0, .int .u8 0, .int .u8 0, .int .u8 0, .int .u8 0, .int .u8 0, .int .u8 0, .int .u8 0, .int .u8 0, .int .u8 0, .int .u8 0, .int .u8 0, .int .u8 0, .int .u8 0, .int .u8 0, .int .u8 0, .int .u8 0, .int .u8 0, .int .u8 0, .int .u8 0, .int .u8 0, .int .u8 0, .int .u8 0, .int .u8 0, .int .u8 0, .int .u8 0, .int .u8 0, .int .u8 0, .int .u8 0, .int .u8 0, .int .u8 0, .int .u8 0, .int .u8 0, .int .u8 0, .int .u8 0, .int .u8 0, .int .u8 0, .int .u8 0, .int .u8 0, .int .u8 0, .int .u8 0, .int .u8 0, .int .u8 0, .int .u8 0, .int .u8 0, .int .u8 0, .int .u8 0, .int .u8 0, .int .u8 0, .int .u8 0, .int .u8 0, .int .u8 0, .int .u8 0, .int .u8 0, .int .u8 0, .int .u8 0, .int .u8 0, .int .u8 0, .int .u8 0, .int .u8 0, .int .u8 0, .int .u8 0, .int .u8 0, .int .u8 0, .int .u8 0, .int .u8 0, .int .u8 0, .int .u8 0, .int .u8 0, .int .u8 0, .int .u8 0, .int .u8 0, .int .u8 0, .int .u8 0, .int .u8 0, .int .u8 0, .int .u8 0, .int .u8 0, .int .u8 0, .int .u8 0, .int .u8 0, .int .u8 0, .int .u8 0, .int .u8 0, .int .u8 0, .int .u8 0, .int .u8 0, .int .u8 0, .int .u8 0, .int .u8 0, .int .u8 0, .int .u8 0, .int .u8 0, .int .u8 0, .int .u8 0, .int .u8 0, .int .u8 0, .int .u8 0, .int .u8 0, .int .u8 0, .int .u8 0, .int .u8 0, .int .u8 0, .int .u8 0, .int .u8 0, .int .u8 0, .int .u8 0, .int .u8 0, .int .u8 0, .int .u8 0, .int .u8 0, .int .u8 0, .int .u8 0, .int .u8 0, .int .u8 0, .int .u8 0]) := by kernel_rfl
theorem lay202 : lay Tryz.prog 202 = some (true, 2) := by kernel_rfl
theorem fld202_0 : fldOff Tryz.prog 202 0 = some 0 := by kernel_rfl
theorem fla202_0 : fldAt Tryz.prog 202 0 = some (0, false, 1) := by kernel_rfl
theorem fld202_1 : fldOff Tryz.prog 202 1 = some 1 := by kernel_rfl
theorem fla202_1 : fldAt Tryz.prog 202 1 = some (1, false, 1) := by kernel_rfl
theorem str202 : strT Tryz.prog 202 = some ([.int .u8 0, .int .u8 0], [(0, 1), (1, 1)]) := by kernel_rfl
theorem zer202 : zeroV Tryz.prog 202 = some (.agg #[.int .u8 0, .int .u8 0]) := by kernel_rfl
theorem lay203 : lay Tryz.prog 203 = some (true, 32) := by kernel_rfl
theorem zer203 : zeroV Tryz.prog 203 = some (.agg #[.int .u8 0, .int .u8 0, .int .u8 0, .int .u8 0, .int .u8 0, .int .u8 0, .int .u8 0, .int .u8 0, .int .u8 0, .int .u8 0, .int .u8 0, .int .u8 0, .int .u8 0, .int .u8 0, .int .u8 0, .int .u8 0, .int .u8 0, .int .u8 0, .int .u8 0, .int .u8 0, .int .u8 0, .int .u8 0, .int .u8 0, .int .u8 0, .int .u8 0, .int .u8 0, .int .u8 0, .int .u8 0, .int .u8 0, .int .u8 0, .int .u8 0, .int .u8 0]) := by kernel_rfl
theorem lay204 : lay Tryz.prog 204 = some (false, 1) := by kernel_rfl
theorem zer204 : zeroV Tryz.prog 204 = some (.pointer none) := by kernel_rfl
theorem lay206 : lay Tryz.prog 206 = some (true, 1) := by kernel_rfl
theorem fld206_0 : fldOff Tryz.prog 206 0 = some 0 := by kernel_rfl
theorem fla206_0 : fldAt Tryz.prog 206 0 = some (0, false, 1) := by kernel_rfl
theorem str206 : strT Tryz.prog 206 = some ([.string ⟨#[]⟩], [(0, 1)]) := by kernel_rfl
theorem zer206 : zeroV Tryz.prog 206 = some (.agg #[.string ⟨#[]⟩]) := by kernel_rfl
theorem lay208 : lay Tryz.prog 208 = some (true, 20) := by kernel_rfl
theorem zer208 : zeroV Tryz.prog 208 = some (.agg #[.int .u64 0, .int .u64 0, .int .u64 0, .int .u64 0, .int .u64 0, .int .u64 0, .int .u64 0, .int .u64 0, .int .u64 0, .int .u64 0, .int .u64 0, .int .u64 0, .int .u64 0, .int .u64 0, .int .u64 0, .int .u64 0, .int .u64 0, .int .u64 0, .int .u64 0, .int .u64 0]) := by kernel_rfl
theorem lay209 : lay Tryz.prog 209 = some (true, 65) := by kernel_rfl
theorem zer209 : zeroV Tryz.prog 209 = some (.agg #[.int .u8 0, .int .u8 0, .int .u8 0, .int .u8 0, .int .u8 0, .int .u8 0, .int .u8 0, .int .u8 0, .int .u8 0, .int .u8 0, .int .u8 0, .int .u8 0, .int .u8 0, .int .u8 0, .int .u8 0, .int .u8 0, .int .u8 0, .int .u8 0, .int .u8 0, .int .u8 0, .int .u8 0, .int .u8 0, .int .u8 0, .int .u8 0, .int .u8 0, .int .u8 0, .int .u8 0, .int .u8 0, .int .u8 0, .int .u8 0, .int .u8 0, .int .u8 0, .int .u8 0, .int .u8 0, .int .u8 0, .int .u8 0, .int .u8 0, .int .u8 0, .int .u8 0, .int .u8 0, .int .u8 0, .int .u8 0, .int .u8 0, .int .u8 0, .int .u8 0, .int .u8 0, .int .u8 0, .int .u8 0, .int .u8 0, .int .u8 0, .int .u8 0, .int .u8 0, .int .u8 0, .int .u8 0, .int .u8 0, .int .u8 0, .int .u8 0, .int .u8 0, .int .u8 0, .int .u8 0, .int .u8 0, .int .u8 0, .int .u8 0, .int .u8 0, .int .u8 0]) := by kernel_rfl
theorem lay213 : lay Tryz.prog 213 = some (true, 32) := by kernel_rfl
theorem zer213 : zeroV Tryz.prog 213 = some (.agg #[.int .u8 0, .int .u8 0, .int .u8 0, .int .u8 0, .int .u8 0, .int .u8 0, .int .u8 0, .int .u8 0, .int .u8 0, .int .u8 0, .int .u8 0, .int .u8 0, .int .u8 0, .int .u8 0, .int .u8 0, .int .u8 0, .int .u8 0, .int .u8 0, .int .u8 0, .int .u8 0, .int .u8 0, .int .u8 0, .int .u8 0, .int .u8 0, .int .u8 0, .int .u8 0, .int .u8 0, .int .u8 0, .int .u8 0, .int .u8 0, .int .u8 0, .int .u8 0]) := by kernel_rfl
theorem lay214 : lay Tryz.prog 214 = some (true, 64) := by kernel_rfl
theorem zer214 : zeroV Tryz.prog 214 = some (.agg #[.int .u8 0, .int .u8 0, .int .u8 0, .int .u8 0, .int .u8 0, .int .u8 0, .int .u8 0, .int .u8 0, .int .u8 0, .int .u8 0, .int .u8 0, .int .u8 0, .int .u8 0, .int .u8 0, .int .u8 0, .int .u8 0, .int .u8 0, .int .u8 0, .int .u8 0, .int .u8 0, .int .u8 0, .int .u8 0, .int .u8 0, .int .u8 0, .int .u8 0, .int .u8 0, .int .u8 0, .int .u8 0, .int .u8 0, .int .u8 0, .int .u8 0, .int .u8 0, .int .u8 0, .int .u8 0, .int .u8 0, .int .u8 0, .int .u8 0, .int .u8 0, .int .u8 0, .int .u8 0, .int .u8 0, .int .u8 0, .int .u8 0, .int .u8 0, .int .u8 0, .int .u8 0, .int .u8 0, .int .u8 0, .int .u8 0, .int .u8 0, .int .u8 0, .int .u8 0, .int .u8 0, .int .u8 0, .int .u8 0, .int .u8 0, .int .u8 0, .int .u8 0, .int .u8 0, .int .u8 0, .int .u8 0, .int .u8 0, .int .u8 0, .int .u8 0]) := by kernel_rfl
theorem eqA78 (d : Nat) (w : World) (a_0 : Int) (a_1 : Int) (b_0 : Int) (b_1 : Int) : (Op.equalIn (d + 2) 78 (.agg #[.int .i64 a_0, .int .i64 a_1]) (.agg #[.int .i64 b_0, .int .i64 b_1])).run Tryz.prog w = .ok ((a_0 == b_0) && (a_1 == b_1)) w := by
  refine eqs_of Tryz.underlying78 (by kernel_rfl) ?_
  refine eqf_more (by rfl) (by go_simp; try rfl) (by go_simp; try rfl) (by go_simp) ?_
  exact eqf_one (by rfl) (by go_simp; try rfl) (by go_simp; try rfl) (by go_simp)
theorem eql78 (xo yo : Operand) (a_0 : Int) (a_1 : Int) (b_0 : Int) (b_1 : Int) : binS Tryz.prog .eql 78 xo yo (.agg #[.int .i64 a_0, .int .i64 a_1]) (.agg #[.int .i64 b_0, .int .i64 b_1]) = some (.bool (((a_0 == b_0) && (a_1 == b_1)))) := eql_of 2 (by decide) (by simp [pureV, flatV]) (by simp [pureV, flatV]) (by kernel_rfl) fun d w => eqA78 d w _ _ _ _
theorem neq78 (xo yo : Operand) (a_0 : Int) (a_1 : Int) (b_0 : Int) (b_1 : Int) : binS Tryz.prog .neq 78 xo yo (.agg #[.int .i64 a_0, .int .i64 a_1]) (.agg #[.int .i64 b_0, .int .i64 b_1]) = some (.bool (!((a_0 == b_0) && (a_1 == b_1)))) := neq_of 2 (by decide) (by simp [pureV, flatV]) (by simp [pureV, flatV]) (by kernel_rfl) fun d w => eqA78 d w _ _ _ _
theorem eqA128 (d : Nat) (w : World) (a_0 : Int) (a_1 : Int) (b_0 : Int) (b_1 : Int) : (Op.equalIn (d + 2) 128 (.agg #[.int .i64 a_0, .int .i64 a_1]) (.agg #[.int .i64 b_0, .int .i64 b_1])).run Tryz.prog w = .ok ((a_0 == b_0) && (a_1 == b_1)) w := by
  refine eqs_of Tryz.underlying128 (by kernel_rfl) ?_
  refine eqf_more (by rfl) (by go_simp; try rfl) (by go_simp; try rfl) (by go_simp) ?_
  exact eqf_one (by rfl) (by go_simp; try rfl) (by go_simp; try rfl) (by go_simp)
theorem eql128 (xo yo : Operand) (a_0 : Int) (a_1 : Int) (b_0 : Int) (b_1 : Int) : binS Tryz.prog .eql 128 xo yo (.agg #[.int .i64 a_0, .int .i64 a_1]) (.agg #[.int .i64 b_0, .int .i64 b_1]) = some (.bool (((a_0 == b_0) && (a_1 == b_1)))) := eql_of 2 (by decide) (by simp [pureV, flatV]) (by simp [pureV, flatV]) (by kernel_rfl) fun d w => eqA128 d w _ _ _ _
theorem neq128 (xo yo : Operand) (a_0 : Int) (a_1 : Int) (b_0 : Int) (b_1 : Int) : binS Tryz.prog .neq 128 xo yo (.agg #[.int .i64 a_0, .int .i64 a_1]) (.agg #[.int .i64 b_0, .int .i64 b_1]) = some (.bool (!((a_0 == b_0) && (a_1 == b_1)))) := neq_of 2 (by decide) (by simp [pureV, flatV]) (by simp [pureV, flatV]) (by kernel_rfl) fun d w => eqA128 d w _ _ _ _
theorem tys : type_of% (And.intro (And.intro (And.intro (And.intro (And.intro (And.intro (And.intro (@lay2) (And.intro (@und2) (@zer2))) (And.intro (@lay3) (And.intro (@und3) (@zer3)))) (And.intro (And.intro (@lay4) (And.intro (@und4) (@zer4))) (And.intro (And.intro (@lay5) (@und5)) (And.intro (@zer5) (@lay9))))) (And.intro (And.intro (And.intro (@und9) (And.intro (@zer9) (@lay21))) (And.intro (@und21) (And.intro (@zer21) (@lay22)))) (And.intro (And.intro (@elZ22) (And.intro (@zOk22) (@zer22))) (And.intro (And.intro (@lay23) (@elZ23)) (And.intro (@zOk23) (@zer23)))))) (And.intro (And.intro (And.intro (And.intro (@lay25) (And.intro (@fld25_0) (@fla25_0))) (And.intro (@fld25_1) (And.intro (@fla25_1) (@str25)))) (And.intro (And.intro (@zer25) (And.intro (@lay27) (@elZ27))) (And.intro (And.intro (@zOk27) (@zer27)) (And.intro (@lay29) (@fld29_0))))) (And.intro (And.intro (And.intro (@fla29_0) (And.intro (@fld29_1) (@fla29_1))) (And.intro (@fld29_2) (And.intro (@fla29_2) (@fld29_3)))) (And.intro (And.intro (@fla29_3) (And.intro (@str29) (@zer29))) (And.intro (And.intro (@lay31) (@fld31_0)) (And.intro (@fla31_0) (@fld31_1))))))) (And.intro (And.intro (And.intro (And.intro (And.intro (@fla31_1) (And.intro (@str31) (@zer31))) (And.intro (@lay33) (And.intro (@elZ33) (@zOk33)))) (And.intro (And.intro (@zer33) (And.intro (@lay35) (@fld35_0))) (And.intro (And.intro (@fla35_0) (@fld35_1)) (And.intro (@fla35_1) (@str35))))) (And.intro (And.intro (And.intro (@zer35) (And.intro (@lay42) (@elZ42))) (And.intro (@zOk42) (And.intro (@zer42) (@lay43)))) (And.intro (And.intro (@elZ43) (And.intro (@zOk43) (@zer43))) (And.intro (And.intro (@lay45) (@fld45_0)) (And.intro (@fla45_0) (@fld45_1)))))) (And.intro (And.intro (And.intro (And.intro (@fla45_1) (And.intro (@fld45_2) (@fla45_2))) (And.intro (@fld45_3) (And.intro (@fla45_3) (@str45)))) (And.intro (And.intro (@zer45) (And.intro (@lay47) (@fld47_0))) (And.intro (And.intro (@fla47_0) (@fld47_1)) (And.intro (@fla47_1) (@str47))))) (And.intro (And.intro (And.intro (@zer47) (And.intro (@lay54) (@fld54_0))) (And.intro (And.intro (@fla54_0) (@fld54_1)) (And.intro (@fla54_1) (@str54)))) (And.intro (And.intro (@zer54) (And.intro (@lay78) (@fld78_0))) (And.intro (And.intro (@fla78_0) (@fld78_1)) (And.intro (@fla78_1) (@str78)))))))) (And.intro (And.intro (And.intro (And.intro (And.intro (And.intro (@zer78) (And.intro (@lay80) (@fld80_0))) (And.intro (@fla80_0) (And.intro (@fld80_1) (@fla80_1)))) (And.intro (And.intro (@str80) (And.intro (@zer80) (@lay111))) (And.intro (And.intro (@elZ111) (@zOk111)) (And.intro (@zer111) (@lay115))))) (And.intro (And.intro (And.intro (@fld115_0) (And.intro (@fla115_0) (@fld115_1))) (And.intro (@fla115_1) (And.intro (@fld115_2) (@fla115_2)))) (And.intro (And.intro (@str115) (And.intro (@zer115) (@lay120))) (And.intro (And.intro (@fld120_0) (@fla120_0)) (And.intro (@fld120_1) (@fla120_1)))))) (And.intro (And.intro (And.intro (And.intro (@str120) (And.intro (@zer120) (@lay128))) (And.intro (@fld128_0) (And.intro (@fla128_0) (@fld128_1)))) (And.intro (And.intro (@fla128_1) (And.intro (@str128) (@zer128))) (And.intro (And.intro (@lay138) (@zer138)) (And.intro (@lay161) (@zer161))))) (And.intro (And.intro (And.intro (@lay163) (And.intro (@fld163_0) (@fla163_0))) (And.intro (@fld163_1) (And.intro (@fla163_1) (@str163)))) (And.intro (And.intro (@zer163) (And.intro (@lay172) (@und172))) (And.intro (And.intro (@zer172) (@lay173)) (And.intro (@und173) (@zer173))))))) (And.intro (And.intro (And.intro (And.intro (And.intro (@lay176) (And.intro (@und176) (@zer176))) (And.intro (@lay177) (And.intro (@zer177) (@lay182)))) (And.intro (And.intro (@zer182) (And.intro (@lay186) (@fld186_0))) (And.intro (And.intro (@fla186_0) (@fld186_1)) (And.intro (@fla186_1) (@fld186_2))))) (And.intro (And.intro (And.intro (@fla186_2) (And.intro (@str186) (@zer186))) (And.intro (@lay188) (And.intro (@zer188) (@lay193)))) (And.intro (And.intro (@und193) (And.intro (@zer193) (@lay197))) (And.intro (And.intro (@zer197) (@lay200)) (And.intro (@zer200) (@lay202)))))) (And.intro (And.intro (And.intro (And.intro (@fld202_0) (And.intro (@fla202_0) (@fld202_1))) (And.intro (@fla202_1) (And.intro (@str202) (@zer202)))) (And.intro (And.intro (@lay203) (And.intro (@zer203) (@lay204))) (And.intro (And.intro (@zer204) (@lay206)) (And.intro (@fld206_0) (@fla206_0))))) (And.intro (And.intro (And.intro (@str206) (And.intro (@zer206) (@lay208))) (And.intro (And.intro (@zer208) (@lay209)) (And.intro (@zer209) (@lay213)))) (And.intro (And.intro (@zer213) (And.intro (@lay214) (@zer214))) (And.intro (And.intro (@eql78) (@neq78)) (And.intro (@eql128) (@neq128))))))))) := And.intro (And.intro (And.intro (And.intro (And.intro (And.intro (And.intro (@lay2) (And.intro (@und2) (@zer2))) (And.intro (@lay3) (And.intro (@und3) (@zer3)))) (And.intro (And.intro (@lay4) (And.intro (@und4) (@zer4))) (And.intro (And.intro (@lay5) (@und5)) (And.intro (@zer5) (@lay9))))) (And.intro (And.intro (And.intro (@und9) (And.intro (@zer9) (@lay21))) (And.intro (@und21) (And.intro (@zer21) (@lay22)))) (And.intro (And.intro (@elZ22) (And.intro (@zOk22) (@zer22))) (And.intro (And.intro (@lay23) (@elZ23)) (And.intro (@zOk23) (@zer23)))))) (And.intro (And.intro (And.intro (And.intro (@lay25) (And.intro (@fld25_0) (@fla25_0))) (And.intro (@fld25_1) (And.intro (@fla25_1) (@str25)))) (And.intro (And.intro (@zer25) (And.intro (@lay27) (@elZ27))) (And.intro (And.intro (@zOk27) (@zer27)) (And.intro (@lay29) (@fld29_0))))) (And.intro (And.intro (And.intro (@fla29_0) (And.intro (@fld29_1) (@fla29_1))) (And.intro (@fld29_2) (And.intro (@fla29_2) (@fld29_3)))) (And.intro (And.intro (@fla29_3) (And.intro (@str29) (@zer29))) (And.intro (And.intro (@lay31) (@fld31_0)) (And.intro (@fla31_0) (@fld31_1))))))) (And.intro (And.intro (And.intro (And.intro (And.intro (@fla31_1) (And.intro (@str31) (@zer31))) (And.intro (@lay33) (And.intro (@elZ33) (@zOk33)))) (And.intro (And.intro (@zer33) (And.intro (@lay35) (@fld35_0))) (And.intro (And.intro (@fla35_0) (@fld35_1)) (And.intro (@fla35_1) (@str35))))) (And.intro (And.intro (And.intro (@zer35) (And.intro (@lay42) (@elZ42))) (And.intro (@zOk42) (And.intro (@zer42) (@lay43)))) (And.intro (And.intro (@elZ43) (And.intro (@zOk43) (@zer43))) (And.intro (And.intro (@lay45) (@fld45_0)) (And.intro (@fla45_0) (@fld45_1)))))) (And.intro (And.intro (And.intro (And.intro (@fla45_1) (And.intro (@fld45_2) (@fla45_2))) (And.intro (@fld45_3) (And.intro (@fla45_3) (@str45)))) (And.intro (And.intro (@zer45) (And.intro (@lay47) (@fld47_0))) (And.intro (And.intro (@fla47_0) (@fld47_1)) (And.intro (@fla47_1) (@str47))))) (And.intro (And.intro (And.intro (@zer47) (And.intro (@lay54) (@fld54_0))) (And.intro (And.intro (@fla54_0) (@fld54_1)) (And.intro (@fla54_1) (@str54)))) (And.intro (And.intro (@zer54) (And.intro (@lay78) (@fld78_0))) (And.intro (And.intro (@fla78_0) (@fld78_1)) (And.intro (@fla78_1) (@str78)))))))) (And.intro (And.intro (And.intro (And.intro (And.intro (And.intro (@zer78) (And.intro (@lay80) (@fld80_0))) (And.intro (@fla80_0) (And.intro (@fld80_1) (@fla80_1)))) (And.intro (And.intro (@str80) (And.intro (@zer80) (@lay111))) (And.intro (And.intro (@elZ111) (@zOk111)) (And.intro (@zer111) (@lay115))))) (And.intro (And.intro (And.intro (@fld115_0) (And.intro (@fla115_0) (@fld115_1))) (And.intro (@fla115_1) (And.intro (@fld115_2) (@fla115_2)))) (And.intro (And.intro (@str115) (And.intro (@zer115) (@lay120))) (And.intro (And.intro (@fld120_0) (@fla120_0)) (And.intro (@fld120_1) (@fla120_1)))))) (And.intro (And.intro (And.intro (And.intro (@str120) (And.intro (@zer120) (@lay128))) (And.intro (@fld128_0) (And.intro (@fla128_0) (@fld128_1)))) (And.intro (And.intro (@fla128_1) (And.intro (@str128) (@zer128))) (And.intro (And.intro (@lay138) (@zer138)) (And.intro (@lay161) (@zer161))))) (And.intro (And.intro (And.intro (@lay163) (And.intro (@fld163_0) (@fla163_0))) (And.intro (@fld163_1) (And.intro (@fla163_1) (@str163)))) (And.intro (And.intro (@zer163) (And.intro (@lay172) (@und172))) (And.intro (And.intro (@zer172) (@lay173)) (And.intro (@und173) (@zer173))))))) (And.intro (And.intro (And.intro (And.intro (And.intro (@lay176) (And.intro (@und176) (@zer176))) (And.intro (@lay177) (And.intro (@zer177) (@lay182)))) (And.intro (And.intro (@zer182) (And.intro (@lay186) (@fld186_0))) (And.intro (And.intro (@fla186_0) (@fld186_1)) (And.intro (@fla186_1) (@fld186_2))))) (And.intro (And.intro (And.intro (@fla186_2) (And.intro (@str186) (@zer186))) (And.intro (@lay188) (And.intro (@zer188) (@lay193)))) (And.intro (And.intro (@und193) (And.intro (@zer193) (@lay197))) (And.intro (And.intro (@zer197) (@lay200)) (And.intro (@zer200) (@lay202)))))) (And.intro (And.intro (And.intro (And.intro (@fld202_0) (And.intro (@fla202_0) (@fld202_1))) (And.intro (@fla202_1) (And.intro (@str202) (@zer202)))) (And.intro (And.intro (@lay203) (And.intro (@zer203) (@lay204))) (And.intro (And.intro (@zer204) (@lay206)) (And.intro (@fld206_0) (@fla206_0))))) (And.intro (And.intro (And.intro (@str206) (And.intro (@zer206) (@lay208))) (And.intro (And.intro (@zer208) (@lay209)) (And.intro (@zer209) (@lay213)))) (And.intro (And.intro (@zer213) (And.intro (@lay214) (@zer214))) (And.intro (And.intro (@eql78) (@neq78)) (And.intro (@eql128) (@neq128))))))))
end Go.BM
