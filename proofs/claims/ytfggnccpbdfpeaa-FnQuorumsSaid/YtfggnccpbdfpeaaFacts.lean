/- Facts on the types of the program, by the kernel. -/
import Derived.Test.YtfggnccpbdfpeaaProg
import Derived.Test.YtfggnccpbdfpeaaC19
import Derived.KernelRfl
namespace Go.BM
open Go.Proofs
theorem lay2 : lay Try.prog 2 = some (false, 1) := by kernel_rfl
theorem und2 : Try.prog.underlying 2 = some (.int .i64) := by kernel_rfl
theorem zer2 : zeroV Try.prog 2 = some (.int .i64 0) := by kernel_rfl
theorem lay3 : lay Try.prog 3 = some (false, 1) := by kernel_rfl
theorem und3 : Try.prog.underlying 3 = some (.int .i64) := by kernel_rfl
theorem zer3 : zeroV Try.prog 3 = some (.int .i64 0) := by kernel_rfl
theorem lay4 : lay Try.prog 4 = some (false, 1) := by kernel_rfl
theorem und4 : Try.prog.underlying 4 = some .bool := by kernel_rfl
theorem zer4 : zeroV Try.prog 4 = some (.bool false) := by kernel_rfl
theorem lay5 : lay Try.prog 5 = some (false, 1) := by kernel_rfl
theorem und5 : Try.prog.underlying 5 = some (.int .u8) := by kernel_rfl
theorem zer5 : zeroV Try.prog 5 = some (.int .u8 0) := by kernel_rfl
theorem lay9 : lay Try.prog 9 = some (false, 1) := by kernel_rfl
theorem und9 : Try.prog.underlying 9 = some .string := by kernel_rfl
theorem zer9 : zeroV Try.prog 9 = some (.string ⟨#[]⟩) := by kernel_rfl
theorem lay22 : lay Try.prog 22 = some (false, 1) := by kernel_rfl
theorem elZ22 : elZ Try.prog 22 = some (5, 1, 1) := by kernel_rfl
theorem zOk22 : zOk Try.prog 5 1 = true := by kernel_rfl
theorem zer22 : zeroV Try.prog 22 = some (.slice none 0 0) := by kernel_rfl
theorem lay24 : lay Try.prog 24 = some (false, 1) := by kernel_rfl
theorem elZ24 : elZ Try.prog 24 = some (32, 3, 24) := by kernel_rfl
theorem zOk24 : zOk Try.prog 32 3 = true := by kernel_rfl
theorem zer24 : zeroV Try.prog 24 = some (.slice none 0 0) := by kernel_rfl
theorem lay25 : lay Try.prog 25 = some (false, 1) := by kernel_rfl
theorem elZ25 : elZ Try.prog 25 = some (2, 1, 8) := by kernel_rfl
theorem zOk25 : zOk Try.prog 2 1 = true := by kernel_rfl
theorem zer25 : zeroV Try.prog 25 = some (.slice none 0 0) := by kernel_rfl
theorem lay29 : lay Try.prog 29 = some (true, 2) := by kernel_rfl
theorem fld29_0 : fldOff Try.prog 29 0 = some 0 := by kernel_rfl
theorem fla29_0 : fldAt Try.prog 29 0 = some (0, false, 1) := by kernel_rfl
theorem fld29_1 : fldOff Try.prog 29 1 = some 1 := by kernel_rfl
theorem fla29_1 : fldAt Try.prog 29 1 = some (1, false, 1) := by kernel_rfl
theorem str29 : strT Try.prog 29 = some ([.int .i64 0, .int .i64 0], [(0, 1), (1, 1)]) := by kernel_rfl
theorem zer29 : zeroV Try.prog 29 = some (.agg #[.int .i64 0, .int .i64 0]) := by kernel_rfl
theorem lay32 : lay Try.prog 32 = some (true, 3) := by kernel_rfl
theorem fld32_0 : fldOff Try.prog 32 0 = some 0 := by kernel_rfl
theorem fla32_0 : fldAt Try.prog 32 0 = some (0, false, 1) := by kernel_rfl
theorem fld32_1 : fldOff Try.prog 32 1 = some 1 := by kernel_rfl
theorem fla32_1 : fldAt Try.prog 32 1 = some (1, false, 1) := by kernel_rfl
theorem fld32_2 : fldOff Try.prog 32 2 = some 2 := by kernel_rfl
theorem fla32_2 : fldAt Try.prog 32 2 = some (2, false, 1) := by kernel_rfl
theorem str32 : strT Try.prog 32 = some ([.int .i64 0, .int .i64 0, .int .i64 0], [(0, 1), (1, 1), (2, 1)]) := by kernel_rfl
theorem zer32 : zeroV Try.prog 32 = some (.agg #[.int .i64 0, .int .i64 0, .int .i64 0]) := by kernel_rfl
theorem lay35 : lay Try.prog 35 = some (true, 2) := by kernel_rfl
theorem fld35_0 : fldOff Try.prog 35 0 = some 0 := by kernel_rfl
theorem fla35_0 : fldAt Try.prog 35 0 = some (0, false, 1) := by kernel_rfl
theorem fld35_1 : fldOff Try.prog 35 1 = some 1 := by kernel_rfl
theorem fla35_1 : fldAt Try.prog 35 1 = some (1, false, 1) := by kernel_rfl
theorem str35 : strT Try.prog 35 = some ([.int .i64 0, .slice none 0 0], [(0, 1), (1, 1)]) := by kernel_rfl
theorem zer35 : zeroV Try.prog 35 = some (.agg #[.int .i64 0, .slice none 0 0]) := by kernel_rfl
theorem lay37 : lay Try.prog 37 = some (false, 1) := by kernel_rfl
theorem elZ37 : elZ Try.prog 37 = some (9, 1, 16) := by kernel_rfl
theorem zOk37 : zOk Try.prog 9 1 = true := by kernel_rfl
theorem zer37 : zeroV Try.prog 37 = some (.slice none 0 0) := by kernel_rfl
theorem lay38 : lay Try.prog 38 = some (false, 1) := by kernel_rfl
theorem elZ38 : elZ Try.prog 38 = some (203, 2, 16) := by kernel_rfl
theorem zOk38 : zOk Try.prog 203 2 = true := by kernel_rfl
theorem zer38 : zeroV Try.prog 38 = some (.slice none 0 0) := by kernel_rfl
theorem lay40 : lay Try.prog 40 = some (true, 2) := by kernel_rfl
theorem fld40_0 : fldOff Try.prog 40 0 = some 0 := by kernel_rfl
theorem fla40_0 : fldAt Try.prog 40 0 = some (0, false, 1) := by kernel_rfl
theorem fld40_1 : fldOff Try.prog 40 1 = some 1 := by kernel_rfl
theorem fla40_1 : fldAt Try.prog 40 1 = some (1, false, 1) := by kernel_rfl
theorem str40 : strT Try.prog 40 = some ([.slice none 0 0, .slice none 0 0], [(0, 1), (1, 1)]) := by kernel_rfl
theorem zer40 : zeroV Try.prog 40 = some (.agg #[.slice none 0 0, .slice none 0 0]) := by kernel_rfl
theorem lay42 : lay Try.prog 42 = some (false, 1) := by kernel_rfl
theorem elZ42 : elZ Try.prog 42 = some (145, 2, 16) := by kernel_rfl
theorem zOk42 : zOk Try.prog 145 2 = true := by kernel_rfl
theorem zer42 : zeroV Try.prog 42 = some (.slice none 0 0) := by kernel_rfl
theorem lay44 : lay Try.prog 44 = some (true, 2) := by kernel_rfl
theorem fld44_0 : fldOff Try.prog 44 0 = some 0 := by kernel_rfl
theorem fla44_0 : fldAt Try.prog 44 0 = some (0, false, 1) := by kernel_rfl
theorem fld44_1 : fldOff Try.prog 44 1 = some 1 := by kernel_rfl
theorem fla44_1 : fldAt Try.prog 44 1 = some (1, false, 1) := by kernel_rfl
theorem str44 : strT Try.prog 44 = some ([.slice none 0 0, .slice none 0 0], [(0, 1), (1, 1)]) := by kernel_rfl
theorem zer44 : zeroV Try.prog 44 = some (.agg #[.slice none 0 0, .slice none 0 0]) := by kernel_rfl
theorem lay46 : lay Try.prog 46 = some (true, 4) := by kernel_rfl
theorem fld46_0 : fldOff Try.prog 46 0 = some 0 := by kernel_rfl
theorem fla46_0 : fldAt Try.prog 46 0 = some (0, false, 1) := by kernel_rfl
theorem fld46_1 : fldOff Try.prog 46 1 = some 1 := by kernel_rfl
theorem fla46_1 : fldAt Try.prog 46 1 = some (1, false, 1) := by kernel_rfl
theorem fld46_2 : fldOff Try.prog 46 2 = some 2 := by kernel_rfl
theorem fla46_2 : fldAt Try.prog 46 2 = some (2, true, 2) := by kernel_rfl
theorem str46 : strT Try.prog 46 = some ([.int .i64 0, .int .i64 0, .slice none 0 0, .slice none 0 0], [(0, 1), (1, 1), (2, 2)]) := by kernel_rfl
theorem zer46 : zeroV Try.prog 46 = some (.agg #[.int .i64 0, .int .i64 0, .slice none 0 0, .slice none 0 0]) := by kernel_rfl
theorem lay55 : lay Try.prog 55 = some (true, 3) := by kernel_rfl
theorem fld55_0 : fldOff Try.prog 55 0 = some 0 := by kernel_rfl
theorem fla55_0 : fldAt Try.prog 55 0 = some (0, false, 1) := by kernel_rfl
theorem fld55_1 : fldOff Try.prog 55 1 = some 1 := by kernel_rfl
theorem fla55_1 : fldAt Try.prog 55 1 = some (1, false, 1) := by kernel_rfl
theorem fld55_2 : fldOff Try.prog 55 2 = some 2 := by kernel_rfl
theorem fla55_2 : fldAt Try.prog 55 2 = some (2, false, 1) := by kernel_rfl
theorem str55 : strT Try.prog 55 = some ([.slice none 0 0, .int .i64 0, .int .i64 0], [(0, 1), (1, 1), (2, 1)]) := by kernel_rfl
theorem zer55 : zeroV Try.prog 55 = some (.agg #[.slice none 0 0, .int .i64 0, .int .i64 0]) := by kernel_rfl
theorem lay58 : lay Try.prog 58 = some (true, 3) := by kernel_rfl
theorem fld58_0 : fldOff Try.prog 58 0 = some 0 := by kernel_rfl
theorem fla58_0 : fldAt Try.prog 58 0 = some (0, false, 1) := by kernel_rfl
theorem fld58_1 : fldOff Try.prog 58 1 = some 1 := by kernel_rfl
theorem fla58_1 : fldAt Try.prog 58 1 = some (1, false, 1) := by kernel_rfl
theorem fld58_2 : fldOff Try.prog 58 2 = some 2 := by kernel_rfl
theorem fla58_2 : fldAt Try.prog 58 2 = some (2, false, 1) := by kernel_rfl
theorem str58 : strT Try.prog 58 = some ([.slice none 0 0, .int .i64 0, .int .i64 0], [(0, 1), (1, 1), (2, 1)]) := by kernel_rfl
theorem zer58 : zeroV Try.prog 58 = some (.agg #[.slice none 0 0, .int .i64 0, .int .i64 0]) := by kernel_rfl
theorem lay62 : lay Try.prog 62 = some (false, 1) := by kernel_rfl
theorem elZ62 : elZ Try.prog 62 = some (165, 3, 24) := by kernel_rfl
theorem zOk62 : zOk Try.prog 165 3 = true := by kernel_rfl
theorem zer62 : zeroV Try.prog 62 = some (.slice none 0 0) := by kernel_rfl
theorem lay64 : lay Try.prog 64 = some (true, 3) := by kernel_rfl
theorem fld64_0 : fldOff Try.prog 64 0 = some 0 := by kernel_rfl
theorem fla64_0 : fldAt Try.prog 64 0 = some (0, false, 1) := by kernel_rfl
theorem fld64_1 : fldOff Try.prog 64 1 = some 1 := by kernel_rfl
theorem fla64_1 : fldAt Try.prog 64 1 = some (1, false, 1) := by kernel_rfl
theorem fld64_2 : fldOff Try.prog 64 2 = some 2 := by kernel_rfl
theorem fla64_2 : fldAt Try.prog 64 2 = some (2, false, 1) := by kernel_rfl
theorem str64 : strT Try.prog 64 = some ([.int .i64 0, .int .i64 0, .slice none 0 0], [(0, 1), (1, 1), (2, 1)]) := by kernel_rfl
theorem zer64 : zeroV Try.prog 64 = some (.agg #[.int .i64 0, .int .i64 0, .slice none 0 0]) := by kernel_rfl
theorem lay68 : lay Try.prog 68 = some (true, 2) := by kernel_rfl
theorem fld68_0 : fldOff Try.prog 68 0 = some 0 := by kernel_rfl
theorem fla68_0 : fldAt Try.prog 68 0 = some (0, false, 1) := by kernel_rfl
theorem fld68_1 : fldOff Try.prog 68 1 = some 1 := by kernel_rfl
theorem fla68_1 : fldAt Try.prog 68 1 = some (1, false, 1) := by kernel_rfl
theorem str68 : strT Try.prog 68 = some ([.int .i64 0, .int .i64 0], [(0, 1), (1, 1)]) := by kernel_rfl
theorem zer68 : zeroV Try.prog 68 = some (.agg #[.int .i64 0, .int .i64 0]) := by kernel_rfl
theorem lay70 : lay Try.prog 70 = some (true, 6) := by kernel_rfl
theorem fld70_0 : fldOff Try.prog 70 0 = some 0 := by kernel_rfl
theorem fla70_0 : fldAt Try.prog 70 0 = some (0, false, 1) := by kernel_rfl
theorem fld70_1 : fldOff Try.prog 70 1 = some 1 := by kernel_rfl
theorem fla70_1 : fldAt Try.prog 70 1 = some (1, false, 1) := by kernel_rfl
theorem fld70_2 : fldOff Try.prog 70 2 = some 2 := by kernel_rfl
theorem fla70_2 : fldAt Try.prog 70 2 = some (2, false, 1) := by kernel_rfl
theorem fld70_3 : fldOff Try.prog 70 3 = some 3 := by kernel_rfl
theorem fla70_3 : fldAt Try.prog 70 3 = some (3, true, 2) := by kernel_rfl
theorem fld70_4 : fldOff Try.prog 70 4 = some 5 := by kernel_rfl
theorem fla70_4 : fldAt Try.prog 70 4 = some (5, false, 1) := by kernel_rfl
theorem str70 : strT Try.prog 70 = some ([.int .i64 0, .int .i64 0, .int .i64 0, .int .i64 0, .int .i64 0, .int .i64 0], [(0, 1), (1, 1), (2, 1), (3, 2), (5, 1)]) := by kernel_rfl
theorem zer70 : zeroV Try.prog 70 = some (.agg #[.int .i64 0, .int .i64 0, .int .i64 0, .int .i64 0, .int .i64 0, .int .i64 0]) := by kernel_rfl
theorem lay72 : lay Try.prog 72 = some (true, 10) := by kernel_rfl
theorem fld72_0 : fldOff Try.prog 72 0 = some 0 := by kernel_rfl
theorem fla72_0 : fldAt Try.prog 72 0 = some (0, false, 1) := by kernel_rfl
theorem fld72_1 : fldOff Try.prog 72 1 = some 1 := by kernel_rfl
theorem fla72_1 : fldAt Try.prog 72 1 = some (1, true, 6) := by kernel_rfl
theorem fld72_2 : fldOff Try.prog 72 2 = some 7 := by kernel_rfl
theorem fla72_2 : fldAt Try.prog 72 2 = some (7, true, 3) := by kernel_rfl
theorem str72 : strT Try.prog 72 = some ([.int .i64 0, .int .i64 0, .int .i64 0, .int .i64 0, .int .i64 0, .int .i64 0, .int .i64 0, .int .i64 0, .int .i64 0, .slice none 0 0], [(0, 1), (1, 6), (7, 3)]) := by kernel_rfl
theorem zer72 : zeroV Try.prog 72 = some (.agg #[.int .i64 0, .int .i64 0, .int .i64 0, .int .i64 0, .int .i64 0, .int .i64 0, .int .i64 0, .int .i64 0, .int .i64 0, .slice none 0 0]) := by kernel_rfl
theorem lay76 : lay Try.prog 76 = some (false, 1) := by kernel_rfl
theorem elZ76 : elZ Try.prog 76 = some (170, 3, 24) := by kernel_rfl
theorem zOk76 : zOk Try.prog 170 3 = true := by kernel_rfl
theorem zer76 : zeroV Try.prog 76 = some (.slice none 0 0) := by kernel_rfl
theorem lay77 : lay Try.prog 77 = some (false, 1) := by kernel_rfl
theorem elZ77 : elZ Try.prog 77 = some (217, 3, 24) := by kernel_rfl
theorem zOk77 : zOk Try.prog 217 3 = true := by kernel_rfl
theorem zer77 : zeroV Try.prog 77 = some (.slice none 0 0) := by kernel_rfl
theorem lay79 : lay Try.prog 79 = some (true, 3) := by kernel_rfl
theorem fld79_0 : fldOff Try.prog 79 0 = some 0 := by kernel_rfl
theorem fla79_0 : fldAt Try.prog 79 0 = some (0, false, 1) := by kernel_rfl
theorem fld79_1 : fldOff Try.prog 79 1 = some 1 := by kernel_rfl
theorem fla79_1 : fldAt Try.prog 79 1 = some (1, false, 1) := by kernel_rfl
theorem fld79_2 : fldOff Try.prog 79 2 = some 2 := by kernel_rfl
theorem fla79_2 : fldAt Try.prog 79 2 = some (2, false, 1) := by kernel_rfl
theorem str79 : strT Try.prog 79 = some ([.int .i64 0, .int .i64 0, .slice none 0 0], [(0, 1), (1, 1), (2, 1)]) := by kernel_rfl
theorem zer79 : zeroV Try.prog 79 = some (.agg #[.int .i64 0, .int .i64 0, .slice none 0 0]) := by kernel_rfl
theorem lay92 : lay Try.prog 92 = some (true, 2) := by kernel_rfl
theorem fld92_0 : fldOff Try.prog 92 0 = some 0 := by kernel_rfl
theorem fla92_0 : fldAt Try.prog 92 0 = some (0, false, 1) := by kernel_rfl
theorem fld92_1 : fldOff Try.prog 92 1 = some 1 := by kernel_rfl
theorem fla92_1 : fldAt Try.prog 92 1 = some (1, false, 1) := by kernel_rfl
theorem str92 : strT Try.prog 92 = some ([.slice none 0 0, .int .i64 0], [(0, 1), (1, 1)]) := by kernel_rfl
theorem zer92 : zeroV Try.prog 92 = some (.agg #[.slice none 0 0, .int .i64 0]) := by kernel_rfl
theorem lay94 : lay Try.prog 94 = some (true, 3) := by kernel_rfl
theorem fld94_0 : fldOff Try.prog 94 0 = some 0 := by kernel_rfl
theorem fla94_0 : fldAt Try.prog 94 0 = some (0, false, 1) := by kernel_rfl
theorem fld94_1 : fldOff Try.prog 94 1 = some 1 := by kernel_rfl
theorem fla94_1 : fldAt Try.prog 94 1 = some (1, true, 2) := by kernel_rfl
theorem str94 : strT Try.prog 94 = some ([.int .i64 0, .slice none 0 0, .int .i64 0], [(0, 1), (1, 2)]) := by kernel_rfl
theorem zer94 : zeroV Try.prog 94 = some (.agg #[.int .i64 0, .slice none 0 0, .int .i64 0]) := by kernel_rfl
theorem lay108 : lay Try.prog 108 = some (true, 2) := by kernel_rfl
theorem fld108_0 : fldOff Try.prog 108 0 = some 0 := by kernel_rfl
theorem fla108_0 : fldAt Try.prog 108 0 = some (0, false, 1) := by kernel_rfl
theorem fld108_1 : fldOff Try.prog 108 1 = some 1 := by kernel_rfl
theorem fla108_1 : fldAt Try.prog 108 1 = some (1, false, 1) := by kernel_rfl
theorem str108 : strT Try.prog 108 = some ([.slice none 0 0, .int .i64 0], [(0, 1), (1, 1)]) := by kernel_rfl
theorem zer108 : zeroV Try.prog 108 = some (.agg #[.slice none 0 0, .int .i64 0]) := by kernel_rfl
theorem lay110 : lay Try.prog 110 = some (false, 1) := by kernel_rfl
theorem elZ110 : elZ Try.prog 110 = some (64, 3, 40) := by kernel_rfl
theorem zOk110 : zOk Try.prog 64 3 = true := by kernel_rfl
theorem zer110 : zeroV Try.prog 110 = some (.slice none 0 0) := by kernel_rfl
theorem lay111 : lay Try.prog 111 = some (false, 1) := by kernel_rfl
theorem elZ111 : elZ Try.prog 111 = some (70, 6, 48) := by kernel_rfl
theorem zOk111 : zOk Try.prog 70 6 = true := by kernel_rfl
theorem zer111 : zeroV Try.prog 111 = some (.slice none 0 0) := by kernel_rfl
theorem lay112 : lay Try.prog 112 = some (false, 1) := by kernel_rfl
theorem elZ112 : elZ Try.prog 112 = some (25, 1, 24) := by kernel_rfl
theorem zOk112 : zOk Try.prog 25 1 = true := by kernel_rfl
theorem zer112 : zeroV Try.prog 112 = some (.slice none 0 0) := by kernel_rfl
theorem lay114 : lay Try.prog 114 = some (true, 7) := by kernel_rfl
theorem fld114_0 : fldOff Try.prog 114 0 = some 0 := by kernel_rfl
theorem fla114_0 : fldAt Try.prog 114 0 = some (0, true, 2) := by kernel_rfl
theorem fld114_1 : fldOff Try.prog 114 1 = some 2 := by kernel_rfl
theorem fla114_1 : fldAt Try.prog 114 1 = some (2, false, 1) := by kernel_rfl
theorem fld114_2 : fldOff Try.prog 114 2 = some 3 := by kernel_rfl
theorem fla114_2 : fldAt Try.prog 114 2 = some (3, false, 1) := by kernel_rfl
theorem fld114_3 : fldOff Try.prog 114 3 = some 4 := by kernel_rfl
theorem fla114_3 : fldAt Try.prog 114 3 = some (4, false, 1) := by kernel_rfl
theorem fld114_4 : fldOff Try.prog 114 4 = some 5 := by kernel_rfl
theorem fla114_4 : fldAt Try.prog 114 4 = some (5, false, 1) := by kernel_rfl
theorem fld114_5 : fldOff Try.prog 114 5 = some 6 := by kernel_rfl
theorem fla114_5 : fldAt Try.prog 114 5 = some (6, false, 1) := by kernel_rfl
theorem str114 : strT Try.prog 114 = some ([.slice none 0 0, .int .i64 0, .slice none 0 0, .slice none 0 0, .slice none 0 0, .slice none 0 0, .slice none 0 0], [(0, 2), (2, 1), (3, 1), (4, 1), (5, 1), (6, 1)]) := by kernel_rfl
theorem zer114 : zeroV Try.prog 114 = some (.agg #[.slice none 0 0, .int .i64 0, .slice none 0 0, .slice none 0 0, .slice none 0 0, .slice none 0 0, .slice none 0 0]) := by kernel_rfl
theorem lay116 : lay Try.prog 116 = some (true, 8) := by kernel_rfl
theorem fld116_0 : fldOff Try.prog 116 0 = some 0 := by kernel_rfl
theorem fla116_0 : fldAt Try.prog 116 0 = some (0, false, 1) := by kernel_rfl
theorem fld116_1 : fldOff Try.prog 116 1 = some 1 := by kernel_rfl
theorem fla116_1 : fldAt Try.prog 116 1 = some (1, true, 7) := by kernel_rfl
theorem str116 : strT Try.prog 116 = some ([.int .i64 0, .slice none 0 0, .int .i64 0, .slice none 0 0, .slice none 0 0, .slice none 0 0, .slice none 0 0, .slice none 0 0], [(0, 1), (1, 7)]) := by kernel_rfl
theorem zer116 : zeroV Try.prog 116 = some (.agg #[.int .i64 0, .slice none 0 0, .int .i64 0, .slice none 0 0, .slice none 0 0, .slice none 0 0, .slice none 0 0, .slice none 0 0]) := by kernel_rfl
theorem lay145 : lay Try.prog 145 = some (true, 2) := by kernel_rfl
theorem fld145_0 : fldOff Try.prog 145 0 = some 0 := by kernel_rfl
theorem fla145_0 : fldAt Try.prog 145 0 = some (0, false, 1) := by kernel_rfl
theorem fld145_1 : fldOff Try.prog 145 1 = some 1 := by kernel_rfl
theorem fla145_1 : fldAt Try.prog 145 1 = some (1, false, 1) := by kernel_rfl
theorem str145 : strT Try.prog 145 = some ([.int .i64 0, .int .i64 0], [(0, 1), (1, 1)]) := by kernel_rfl
theorem zer145 : zeroV Try.prog 145 = some (.agg #[.int .i64 0, .int .i64 0]) := by kernel_rfl
theorem lay165 : lay Try.prog 165 = some (true, 3) := by kernel_rfl
theorem fld165_0 : fldOff Try.prog 165 0 = some 0 := by kernel_rfl
theorem fla165_0 : fldAt Try.prog 165 0 = some (0, true, 2) := by kernel_rfl
theorem fld165_1 : fldOff Try.prog 165 1 = some 2 := by kernel_rfl
theorem fla165_1 : fldAt Try.prog 165 1 = some (2, false, 1) := by kernel_rfl
theorem str165 : strT Try.prog 165 = some ([.int .i64 0, .int .i64 0, .int .i64 0], [(0, 2), (2, 1)]) := by kernel_rfl
theorem zer165 : zeroV Try.prog 165 = some (.agg #[.int .i64 0, .int .i64 0, .int .i64 0]) := by kernel_rfl
theorem lay170 : lay Try.prog 170 = some (true, 3) := by kernel_rfl
theorem fld170_0 : fldOff Try.prog 170 0 = some 0 := by kernel_rfl
theorem fla170_0 : fldAt Try.prog 170 0 = some (0, false, 1) := by kernel_rfl
theorem fld170_1 : fldOff Try.prog 170 1 = some 1 := by kernel_rfl
theorem fla170_1 : fldAt Try.prog 170 1 = some (1, false, 1) := by kernel_rfl
theorem fld170_2 : fldOff Try.prog 170 2 = some 2 := by kernel_rfl
theorem fla170_2 : fldAt Try.prog 170 2 = some (2, false, 1) := by kernel_rfl
theorem str170 : strT Try.prog 170 = some ([.int .i64 0, .int .i64 0, .int .i64 0], [(0, 1), (1, 1), (2, 1)]) := by kernel_rfl
theorem zer170 : zeroV Try.prog 170 = some (.agg #[.int .i64 0, .int .i64 0, .int .i64 0]) := by kernel_rfl
theorem lay195 : lay Try.prog 195 = some (true, 2) := by kernel_rfl
theorem fld195_0 : fldOff Try.prog 195 0 = some 0 := by kernel_rfl
theorem fla195_0 : fldAt Try.prog 195 0 = some (0, false, 1) := by kernel_rfl
theorem fld195_1 : fldOff Try.prog 195 1 = some 1 := by kernel_rfl
theorem fla195_1 : fldAt Try.prog 195 1 = some (1, false, 1) := by kernel_rfl
theorem str195 : strT Try.prog 195 = some ([.slice none 0 0, .int .i64 0], [(0, 1), (1, 1)]) := by kernel_rfl
theorem zer195 : zeroV Try.prog 195 = some (.agg #[.slice none 0 0, .int .i64 0]) := by kernel_rfl
theorem lay203 : lay Try.prog 203 = some (true, 2) := by kernel_rfl
theorem fld203_0 : fldOff Try.prog 203 0 = some 0 := by kernel_rfl
theorem fla203_0 : fldAt Try.prog 203 0 = some (0, false, 1) := by kernel_rfl
theorem fld203_1 : fldOff Try.prog 203 1 = some 1 := by kernel_rfl
theorem fla203_1 : fldAt Try.prog 203 1 = some (1, false, 1) := by kernel_rfl
theorem str203 : strT Try.prog 203 = some ([.int .i64 0, .int .i64 0], [(0, 1), (1, 1)]) := by kernel_rfl
theorem zer203 : zeroV Try.prog 203 = some (.agg #[.int .i64 0, .int .i64 0]) := by kernel_rfl
theorem lay215 : lay Try.prog 215 = some (true, 2) := by kernel_rfl
theorem fld215_0 : fldOff Try.prog 215 0 = some 0 := by kernel_rfl
theorem fla215_0 : fldAt Try.prog 215 0 = some (0, false, 1) := by kernel_rfl
theorem fld215_1 : fldOff Try.prog 215 1 = some 1 := by kernel_rfl
theorem fla215_1 : fldAt Try.prog 215 1 = some (1, false, 1) := by kernel_rfl
theorem str215 : strT Try.prog 215 = some ([.int .i64 0, .int .i64 0], [(0, 1), (1, 1)]) := by kernel_rfl
theorem zer215 : zeroV Try.prog 215 = some (.agg #[.int .i64 0, .int .i64 0]) := by kernel_rfl
theorem lay217 : lay Try.prog 217 = some (true, 3) := by kernel_rfl
theorem fld217_0 : fldOff Try.prog 217 0 = some 0 := by kernel_rfl
theorem fla217_0 : fldAt Try.prog 217 0 = some (0, true, 2) := by kernel_rfl
theorem fld217_1 : fldOff Try.prog 217 1 = some 2 := by kernel_rfl
theorem fla217_1 : fldAt Try.prog 217 1 = some (2, false, 1) := by kernel_rfl
theorem str217 : strT Try.prog 217 = some ([.int .i64 0, .int .i64 0, .int .i64 0], [(0, 2), (2, 1)]) := by kernel_rfl
theorem zer217 : zeroV Try.prog 217 = some (.agg #[.int .i64 0, .int .i64 0, .int .i64 0]) := by kernel_rfl
theorem lay222 : lay Try.prog 222 = some (false, 1) := by kernel_rfl
theorem und222 : Try.prog.underlying 222 = some (.int .u64) := by kernel_rfl
theorem zer222 : zeroV Try.prog 222 = some (.int .u64 0) := by kernel_rfl
theorem lay223 : lay Try.prog 223 = some (false, 1) := by kernel_rfl
theorem elZ223 : elZ Try.prog 223 = some (3, 1, 8) := by kernel_rfl
theorem zOk223 : zOk Try.prog 3 1 = true := by kernel_rfl
theorem zer223 : zeroV Try.prog 223 = some (.slice none 0 0) := by kernel_rfl
theorem lay241 : lay Try.prog 241 = some (false, 1) := by kernel_rfl
theorem und241 : Try.prog.underlying 241 = some (.int .i64) := by kernel_rfl
theorem zer241 : zeroV Try.prog 241 = some (.int .i64 0) := by kernel_rfl
theorem lay249 : lay Try.prog 249 = some (false, 1) := by kernel_rfl
theorem und249 : Try.prog.underlying 249 = some (.int .u32) := by kernel_rfl
theorem zer249 : zeroV Try.prog 249 = some (.int .u32 0) := by kernel_rfl
theorem lay251 : lay Try.prog 251 = some (false, 1) := by kernel_rfl
theorem und251 : Try.prog.underlying 251 = some (.int .u64) := by kernel_rfl
theorem zer251 : zeroV Try.prog 251 = some (.int .u64 0) := by kernel_rfl
theorem lay262 : lay Try.prog 262 = some (false, 1) := by kernel_rfl
theorem und262 : Try.prog.underlying 262 = some (.int .u64) := by kernel_rfl
theorem zer262 : zeroV Try.prog 262 = some (.int .u64 0) := by kernel_rfl
theorem eqA68 (d : Nat) (w : World) (a_0 : Int) (a_1 : Int) (b_0 : Int) (b_1 : Int) : (Op.equalIn (d + 2) 68 (.agg #[.int .i64 a_0, .int .i64 a_1]) (.agg #[.int .i64 b_0, .int .i64 b_1])).run Try.prog w = .ok ((a_0 == b_0) && (a_1 == b_1)) w := by
  refine eqs_of Try.underlying68 (by kernel_rfl) ?_
  refine eqf_more (by rfl) (by go_simp; try rfl) (by go_simp; try rfl) (by go_simp) ?_
  exact eqf_one (by rfl) (by go_simp; try rfl) (by go_simp; try rfl) (by go_simp)
theorem eql68 (xo yo : Operand) (a_0 : Int) (a_1 : Int) (b_0 : Int) (b_1 : Int) : binS Try.prog .eql 68 xo yo (.agg #[.int .i64 a_0, .int .i64 a_1]) (.agg #[.int .i64 b_0, .int .i64 b_1]) = some (.bool (((a_0 == b_0) && (a_1 == b_1)))) := eql_of 2 (by decide) (by simp [pureV, flatV]) (by simp [pureV, flatV]) (by kernel_rfl) fun d w => eqA68 d w _ _ _ _
theorem neq68 (xo yo : Operand) (a_0 : Int) (a_1 : Int) (b_0 : Int) (b_1 : Int) : binS Try.prog .neq 68 xo yo (.agg #[.int .i64 a_0, .int .i64 a_1]) (.agg #[.int .i64 b_0, .int .i64 b_1]) = some (.bool (!((a_0 == b_0) && (a_1 == b_1)))) := neq_of 2 (by decide) (by simp [pureV, flatV]) (by simp [pureV, flatV]) (by kernel_rfl) fun d w => eqA68 d w _ _ _ _
theorem eqA145 (d : Nat) (w : World) (a_0 : Int) (a_1 : Int) (b_0 : Int) (b_1 : Int) : (Op.equalIn (d + 2) 145 (.agg #[.int .i64 a_0, .int .i64 a_1]) (.agg #[.int .i64 b_0, .int .i64 b_1])).run Try.prog w = .ok ((a_0 == b_0) && (a_1 == b_1)) w := by
  refine eqs_of Try.underlying145 (by kernel_rfl) ?_
  refine eqf_more (by rfl) (by go_simp; try rfl) (by go_simp; try rfl) (by go_simp) ?_
  exact eqf_one (by rfl) (by go_simp; try rfl) (by go_simp; try rfl) (by go_simp)
theorem eql145 (xo yo : Operand) (a_0 : Int) (a_1 : Int) (b_0 : Int) (b_1 : Int) : binS Try.prog .eql 145 xo yo (.agg #[.int .i64 a_0, .int .i64 a_1]) (.agg #[.int .i64 b_0, .int .i64 b_1]) = some (.bool (((a_0 == b_0) && (a_1 == b_1)))) := eql_of 2 (by decide) (by simp [pureV, flatV]) (by simp [pureV, flatV]) (by kernel_rfl) fun d w => eqA145 d w _ _ _ _
theorem neq145 (xo yo : Operand) (a_0 : Int) (a_1 : Int) (b_0 : Int) (b_1 : Int) : binS Try.prog .neq 145 xo yo (.agg #[.int .i64 a_0, .int .i64 a_1]) (.agg #[.int .i64 b_0, .int .i64 b_1]) = some (.bool (!((a_0 == b_0) && (a_1 == b_1)))) := neq_of 2 (by decide) (by simp [pureV, flatV]) (by simp [pureV, flatV]) (by kernel_rfl) fun d w => eqA145 d w _ _ _ _
theorem tys : type_of% (And.intro (And.intro (And.intro (And.intro (And.intro (And.intro (And.intro (And.intro (@lay2) (@und2)) (And.intro (@zer2) (@lay3))) (And.intro (And.intro (@und3) (@zer3)) (And.intro (@lay4) (And.intro (@und4) (@zer4))))) (And.intro (And.intro (And.intro (@lay5) (@und5)) (And.intro (@zer5) (@lay9))) (And.intro (And.intro (@und9) (@zer9)) (And.intro (@lay22) (And.intro (@elZ22) (@zOk22)))))) (And.intro (And.intro (And.intro (And.intro (@zer22) (@lay24)) (And.intro (@elZ24) (@zOk24))) (And.intro (And.intro (@zer24) (@lay25)) (And.intro (@elZ25) (And.intro (@zOk25) (@zer25))))) (And.intro (And.intro (And.intro (@lay29) (@fld29_0)) (And.intro (@fla29_0) (@fld29_1))) (And.intro (And.intro (@fla29_1) (@str29)) (And.intro (@zer29) (And.intro (@lay32) (@fld32_0))))))) (And.intro (And.intro (And.intro (And.intro (And.intro (@fla32_0) (@fld32_1)) (And.intro (@fla32_1) (@fld32_2))) (And.intro (And.intro (@fla32_2) (@str32)) (And.intro (@zer32) (And.intro (@lay35) (@fld35_0))))) (And.intro (And.intro (And.intro (@fla35_0) (@fld35_1)) (And.intro (@fla35_1) (@str35))) (And.intro (And.intro (@zer35) (@lay37)) (And.intro (@elZ37) (And.intro (@zOk37) (@zer37)))))) (And.intro (And.intro (And.intro (And.intro (@lay38) (@elZ38)) (And.intro (@zOk38) (@zer38))) (And.intro (And.intro (@lay40) (@fld40_0)) (And.intro (@fla40_0) (And.intro (@fld40_1) (@fla40_1))))) (And.intro (And.intro (And.intro (@str40) (@zer40)) (And.intro (@lay42) (@elZ42))) (And.intro (And.intro (@zOk42) (@zer42)) (And.intro (@lay44) (And.intro (@fld44_0) (@fla44_0)))))))) (And.intro (And.intro (And.intro (And.intro (And.intro (And.intro (@fld44_1) (@fla44_1)) (And.intro (@str44) (@zer44))) (And.intro (And.intro (@lay46) (@fld46_0)) (And.intro (@fla46_0) (And.intro (@fld46_1) (@fla46_1))))) (And.intro (And.intro (And.intro (@fld46_2) (@fla46_2)) (And.intro (@str46) (@zer46))) (And.intro (And.intro (@lay55) (@fld55_0)) (And.intro (@fla55_0) (And.intro (@fld55_1) (@fla55_1)))))) (And.intro (And.intro (And.intro (And.intro (@fld55_2) (@fla55_2)) (And.intro (@str55) (@zer55))) (And.intro (And.intro (@lay58) (@fld58_0)) (And.intro (@fla58_0) (And.intro (@fld58_1) (@fla58_1))))) (And.intro (And.intro (And.intro (@fld58_2) (@fla58_2)) (And.intro (@str58) (@zer58))) (And.intro (And.intro (@lay62) (@elZ62)) (And.intro (@zOk62) (And.intro (@zer62) (@lay64))))))) (And.intro (And.intro (And.intro (And.intro (And.intro (@fld64_0) (@fla64_0)) (And.intro (@fld64_1) (@fla64_1))) (And.intro (And.intro (@fld64_2) (@fla64_2)) (And.intro (@str64) (And.intro (@zer64) (@lay68))))) (And.intro (And.intro (And.intro (@fld68_0) (@fla68_0)) (And.intro (@fld68_1) (@fla68_1))) (And.intro (And.intro (@str68) (@zer68)) (And.intro (@lay70) (And.intro (@fld70_0) (@fla70_0)))))) (And.intro (And.intro (And.intro (And.intro (@fld70_1) (@fla70_1)) (And.intro (@fld70_2) (@fla70_2))) (And.intro (And.intro (@fld70_3) (@fla70_3)) (And.intro (@fld70_4) (And.intro (@fla70_4) (@str70))))) (And.intro (And.intro (And.intro (@zer70) (@lay72)) (And.intro (@fld72_0) (And.intro (@fla72_0) (@fld72_1)))) (And.intro (And.intro (@fla72_1) (@fld72_2)) (And.intro (@fla72_2) (And.intro (@str72) (@zer72))))))))) (And.intro (And.intro (And.intro (And.intro (And.intro (And.intro (And.intro (@lay76) (@elZ76)) (And.intro (@zOk76) (@zer76))) (And.intro (And.intro (@lay77) (@elZ77)) (And.intro (@zOk77) (And.intro (@zer77) (@lay79))))) (And.intro (And.intro (And.intro (@fld79_0) (@fla79_0)) (And.intro (@fld79_1) (@fla79_1))) (And.intro (And.intro (@fld79_2) (@fla79_2)) (And.intro (@str79) (And.intro (@zer79) (@lay92)))))) (And.intro (And.intro (And.intro (And.intro (@fld92_0) (@fla92_0)) (And.intro (@fld92_1) (@fla92_1))) (And.intro (And.intro (@str92) (@zer92)) (And.intro (@lay94) (And.intro (@fld94_0) (@fla94_0))))) (And.intro (And.intro (And.intro (@fld94_1) (@fla94_1)) (And.intro (@str94) (@zer94))) (And.intro (And.intro (@lay108) (@fld108_0)) (And.intro (@fla108_0) (And.intro (@fld108_1) (@fla108_1))))))) (And.intro (And.intro (And.intro (And.intro (And.intro (@str108) (@zer108)) (And.intro (@lay110) (@elZ110))) (And.intro (And.intro (@zOk110) (@zer110)) (And.intro (@lay111) (And.intro (@elZ111) (@zOk111))))) (And.intro (And.intro (And.intro (@zer111) (@lay112)) (And.intro (@elZ112) (@zOk112))) (And.intro (And.intro (@zer112) (@lay114)) (And.intro (@fld114_0) (And.intro (@fla114_0) (@fld114_1)))))) (And.intro (And.intro (And.intro (And.intro (@fla114_1) (@fld114_2)) (And.intro (@fla114_2) (@fld114_3))) (And.intro (And.intro (@fla114_3) (@fld114_4)) (And.intro (@fla114_4) (And.intro (@fld114_5) (@fla114_5))))) (And.intro (And.intro (And.intro (@str114) (@zer114)) (And.intro (@lay116) (And.intro (@fld116_0) (@fla116_0)))) (And.intro (And.intro (@fld116_1) (@fla116_1)) (And.intro (@str116) (And.intro (@zer116) (@lay145)))))))) (And.intro (And.intro (And.intro (And.intro (And.intro (And.intro (@fld145_0) (@fla145_0)) (And.intro (@fld145_1) (@fla145_1))) (And.intro (And.intro (@str145) (@zer145)) (And.intro (@lay165) (And.intro (@fld165_0) (@fla165_0))))) (And.intro (And.intro (And.intro (@fld165_1) (@fla165_1)) (And.intro (@str165) (@zer165))) (And.intro (And.intro (@lay170) (@fld170_0)) (And.intro (@fla170_0) (And.intro (@fld170_1) (@fla170_1)))))) (And.intro (And.intro (And.intro (And.intro (@fld170_2) (@fla170_2)) (And.intro (@str170) (@zer170))) (And.intro (And.intro (@lay195) (@fld195_0)) (And.intro (@fla195_0) (And.intro (@fld195_1) (@fla195_1))))) (And.intro (And.intro (And.intro (@str195) (@zer195)) (And.intro (@lay203) (@fld203_0))) (And.intro (And.intro (@fla203_0) (@fld203_1)) (And.intro (@fla203_1) (And.intro (@str203) (@zer203))))))) (And.intro (And.intro (And.intro (And.intro (And.intro (@lay215) (@fld215_0)) (And.intro (@fla215_0) (@fld215_1))) (And.intro (And.intro (@fla215_1) (@str215)) (And.intro (@zer215) (And.intro (@lay217) (@fld217_0))))) (And.intro (And.intro (And.intro (@fla217_0) (@fld217_1)) (And.intro (@fla217_1) (@str217))) (And.intro (And.intro (@zer217) (@lay222)) (And.intro (@und222) (And.intro (@zer222) (@lay223)))))) (And.intro (And.intro (And.intro (And.intro (@elZ223) (@zOk223)) (And.intro (@zer223) (@lay241))) (And.intro (And.intro (@und241) (@zer241)) (And.intro (@lay249) (And.intro (@und249) (@zer249))))) (And.intro (And.intro (And.intro (@lay251) (@und251)) (And.intro (@zer251) (And.intro (@lay262) (@und262)))) (And.intro (And.intro (@zer262) (@eql68)) (And.intro (@neq68) (And.intro (@eql145) (@neq145)))))))))) := And.intro (And.intro (And.intro (And.intro (And.intro (And.intro (And.intro (And.intro (@lay2) (@und2)) (And.intro (@zer2) (@lay3))) (And.intro (And.intro (@und3) (@zer3)) (And.intro (@lay4) (And.intro (@und4) (@zer4))))) (And.intro (And.intro (And.intro (@lay5) (@und5)) (And.intro (@zer5) (@lay9))) (And.intro (And.intro (@und9) (@zer9)) (And.intro (@lay22) (And.intro (@elZ22) (@zOk22)))))) (And.intro (And.intro (And.intro (And.intro (@zer22) (@lay24)) (And.intro (@elZ24) (@zOk24))) (And.intro (And.intro (@zer24) (@lay25)) (And.intro (@elZ25) (And.intro (@zOk25) (@zer25))))) (And.intro (And.intro (And.intro (@lay29) (@fld29_0)) (And.intro (@fla29_0) (@fld29_1))) (And.intro (And.intro (@fla29_1) (@str29)) (And.intro (@zer29) (And.intro (@lay32) (@fld32_0))))))) (And.intro (And.intro (And.intro (And.intro (And.intro (@fla32_0) (@fld32_1)) (And.intro (@fla32_1) (@fld32_2))) (And.intro (And.intro (@fla32_2) (@str32)) (And.intro (@zer32) (And.intro (@lay35) (@fld35_0))))) (And.intro (And.intro (And.intro (@fla35_0) (@fld35_1)) (And.intro (@fla35_1) (@str35))) (And.intro (And.intro (@zer35) (@lay37)) (And.intro (@elZ37) (And.intro (@zOk37) (@zer37)))))) (And.intro (And.intro (And.intro (And.intro (@lay38) (@elZ38)) (And.intro (@zOk38) (@zer38))) (And.intro (And.intro (@lay40) (@fld40_0)) (And.intro (@fla40_0) (And.intro (@fld40_1) (@fla40_1))))) (And.intro (And.intro (And.intro (@str40) (@zer40)) (And.intro (@lay42) (@elZ42))) (And.intro (And.intro (@zOk42) (@zer42)) (And.intro (@lay44) (And.intro (@fld44_0) (@fla44_0)))))))) (And.intro (And.intro (And.intro (And.intro (And.intro (And.intro (@fld44_1) (@fla44_1)) (And.intro (@str44) (@zer44))) (And.intro (And.intro (@lay46) (@fld46_0)) (And.intro (@fla46_0) (And.intro (@fld46_1) (@fla46_1))))) (And.intro (And.intro (And.intro (@fld46_2) (@fla46_2)) (And.intro (@str46) (@zer46))) (And.intro (And.intro (@lay55) (@fld55_0)) (And.intro (@fla55_0) (And.intro (@fld55_1) (@fla55_1)))))) (And.intro (And.intro (And.intro (And.intro (@fld55_2) (@fla55_2)) (And.intro (@str55) (@zer55))) (And.intro (And.intro (@lay58) (@fld58_0)) (And.intro (@fla58_0) (And.intro (@fld58_1) (@fla58_1))))) (And.intro (And.intro (And.intro (@fld58_2) (@fla58_2)) (And.intro (@str58) (@zer58))) (And.intro (And.intro (@lay62) (@elZ62)) (And.intro (@zOk62) (And.intro (@zer62) (@lay64))))))) (And.intro (And.intro (And.intro (And.intro (And.intro (@fld64_0) (@fla64_0)) (And.intro (@fld64_1) (@fla64_1))) (And.intro (And.intro (@fld64_2) (@fla64_2)) (And.intro (@str64) (And.intro (@zer64) (@lay68))))) (And.intro (And.intro (And.intro (@fld68_0) (@fla68_0)) (And.intro (@fld68_1) (@fla68_1))) (And.intro (And.intro (@str68) (@zer68)) (And.intro (@lay70) (And.intro (@fld70_0) (@fla70_0)))))) (And.intro (And.intro (And.intro (And.intro (@fld70_1) (@fla70_1)) (And.intro (@fld70_2) (@fla70_2))) (And.intro (And.intro (@fld70_3) (@fla70_3)) (And.intro (@fld70_4) (And.intro (@fla70_4) (@str70))))) (And.intro (And.intro (And.intro (@zer70) (@lay72)) (And.intro (@fld72_0) (And.intro (@fla72_0) (@fld72_1)))) (And.intro (And.intro (@fla72_1) (@fld72_2)) (And.intro (@fla72_2) (And.intro (@str72) (@zer72))))))))) (And.intro (And.intro (And.intro (And.intro (And.intro (And.intro (And.intro (@lay76) (@elZ76)) (And.intro (@zOk76) (@zer76))) (And.intro (And.intro (@lay77) (@elZ77)) (And.intro (@zOk77) (And.intro (@zer77) (@lay79))))) (And.intro (And.intro (And.intro (@fld79_0) (@fla79_0)) (And.intro (@fld79_1) (@fla79_1))) (And.intro (And.intro (@fld79_2) (@fla79_2)) (And.intro (@str79) (And.intro (@zer79) (@lay92)))))) (And.intro (And.intro (And.intro (And.intro (@fld92_0) (@fla92_0)) (And.intro (@fld92_1) (@fla92_1))) (And.intro (And.intro (@str92) (@zer92)) (And.intro (@lay94) (And.intro (@fld94_0) (@fla94_0))))) (And.intro (And.intro (And.intro (@fld94_1) (@fla94_1)) (And.intro (@str94) (@zer94))) (And.intro (And.intro (@lay108) (@fld108_0)) (And.intro (@fla108_0) (And.intro (@fld108_1) (@fla108_1))))))) (And.intro (And.intro (And.intro (And.intro (And.intro (@str108) (@zer108)) (And.intro (@lay110) (@elZ110))) (And.intro (And.intro (@zOk110) (@zer110)) (And.intro (@lay111) (And.intro (@elZ111) (@zOk111))))) (And.intro (And.intro (And.intro (@zer111) (@lay112)) (And.intro (@elZ112) (@zOk112))) (And.intro (And.intro (@zer112) (@lay114)) (And.intro (@fld114_0) (And.intro (@fla114_0) (@fld114_1)))))) (And.intro (And.intro (And.intro (And.intro (@fla114_1) (@fld114_2)) (And.intro (@fla114_2) (@fld114_3))) (And.intro (And.intro (@fla114_3) (@fld114_4)) (And.intro (@fla114_4) (And.intro (@fld114_5) (@fla114_5))))) (And.intro (And.intro (And.intro (@str114) (@zer114)) (And.intro (@lay116) (And.intro (@fld116_0) (@fla116_0)))) (And.intro (And.intro (@fld116_1) (@fla116_1)) (And.intro (@str116) (And.intro (@zer116) (@lay145)))))))) (And.intro (And.intro (And.intro (And.intro (And.intro (And.intro (@fld145_0) (@fla145_0)) (And.intro (@fld145_1) (@fla145_1))) (And.intro (And.intro (@str145) (@zer145)) (And.intro (@lay165) (And.intro (@fld165_0) (@fla165_0))))) (And.intro (And.intro (And.intro (@fld165_1) (@fla165_1)) (And.intro (@str165) (@zer165))) (And.intro (And.intro (@lay170) (@fld170_0)) (And.intro (@fla170_0) (And.intro (@fld170_1) (@fla170_1)))))) (And.intro (And.intro (And.intro (And.intro (@fld170_2) (@fla170_2)) (And.intro (@str170) (@zer170))) (And.intro (And.intro (@lay195) (@fld195_0)) (And.intro (@fla195_0) (And.intro (@fld195_1) (@fla195_1))))) (And.intro (And.intro (And.intro (@str195) (@zer195)) (And.intro (@lay203) (@fld203_0))) (And.intro (And.intro (@fla203_0) (@fld203_1)) (And.intro (@fla203_1) (And.intro (@str203) (@zer203))))))) (And.intro (And.intro (And.intro (And.intro (And.intro (@lay215) (@fld215_0)) (And.intro (@fla215_0) (@fld215_1))) (And.intro (And.intro (@fla215_1) (@str215)) (And.intro (@zer215) (And.intro (@lay217) (@fld217_0))))) (And.intro (And.intro (And.intro (@fla217_0) (@fld217_1)) (And.intro (@fla217_1) (@str217))) (And.intro (And.intro (@zer217) (@lay222)) (And.intro (@und222) (And.intro (@zer222) (@lay223)))))) (And.intro (And.intro (And.intro (And.intro (@elZ223) (@zOk223)) (And.intro (@zer223) (@lay241))) (And.intro (And.intro (@und241) (@zer241)) (And.intro (@lay249) (And.intro (@und249) (@zer249))))) (And.intro (And.intro (And.intro (@lay251) (@und251)) (And.intro (@zer251) (And.intro (@lay262) (@und262)))) (And.intro (And.intro (@zer262) (@eql68)) (And.intro (@neq68) (And.intro (@eql145) (@neq145)))))))))
end Go.BM
