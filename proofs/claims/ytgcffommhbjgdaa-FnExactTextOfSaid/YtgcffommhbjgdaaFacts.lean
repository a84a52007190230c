/- Facts on the types of the program, by the kernel. -/
import Derived.Test.YtgcffommhbjgdaaProg
import Derived.Test.YtgcffommhbjgdaaC16
import Derived.KernelRfl
namespace Go.BM
open Go.Proofs
theorem lay2 : lay Try.prog 2 = some (false, 1) := by kernel_rfl
theorem und2 : Try.prog.underlying 2 = some (.int .i64) := by kernel_rfl
theorem zer2 : zeroV Try.prog 2 = some (.int .i64 0) := by kernel_rfl
theorem lay3 : lay Try.prog 3 = some (false, 1) := by kernel_rfl
theorem und3 : Try.prog.underlying 3 = some (.int .i64) := by kernel_rfl
theorem zer3 : zeroV Try.prog 3 = some (.int .i64 0) := by kernel_rfl
theorem lay4 : lay Try.prog 4 = some (false, 1) := by kernel_rfl
theorem und4 : Try.prog.underlying 4 = some .bool := by kernel_rfl
theorem zer4 : zeroV Try.prog 4 = some (.bool false) := by kernel_rfl
theorem lay5 : lay Try.prog 5 = some (false, 1) := by kernel_rfl
theorem und5 : Try.prog.underlying 5 = some (.int .u8) := by kernel_rfl
theorem zer5 : zeroV Try.prog 5 = some (.int .u8 0) := by kernel_rfl
theorem lay9 : lay Try.prog 9 = some (false, 1) := by kernel_rfl
theorem und9 : Try.prog.underlying 9 = some .string := by kernel_rfl
theorem zer9 : zeroV Try.prog 9 = some (.string ⟨#[]⟩) := by kernel_rfl
theorem lay23 : lay Try.prog 23 = some (true, 2) := by kernel_rfl
theorem fld23_0 : fldOff Try.prog 23 0 = some 0 := by kernel_rfl
theorem fla23_0 : fldAt Try.prog 23 0 = some (0, false, 1) := by kernel_rfl
theorem fld23_1 : fldOff Try.prog 23 1 = some 1 := by kernel_rfl
theorem fla23_1 : fldAt Try.prog 23 1 = some (1, false, 1) := by kernel_rfl
theorem str23 : strT Try.prog 23 = some ([.int .i64 0, .int .i64 0], [(0, 1), (1, 1)]) := by kernel_rfl
theorem zer23 : zeroV Try.prog 23 = some (.agg #[.int .i64 0, .int .i64 0]) := by kernel_rfl
theorem lay25 : lay Try.prog 25 = some (true, 6) := by kernel_rfl
theorem fld25_0 : fldOff Try.prog 25 0 = some 0 := by kernel_rfl
theorem fla25_0 : fldAt Try.prog 25 0 = some (0, false, 1) := by kernel_rfl
theorem fld25_1 : fldOff Try.prog 25 1 = some 1 := by kernel_rfl
theorem fla25_1 : fldAt Try.prog 25 1 = some (1, false, 1) := by kernel_rfl
theorem fld25_2 : fldOff Try.prog 25 2 = some 2 := by kernel_rfl
theorem fla25_2 : fldAt Try.prog 25 2 = some (2, false, 1) := by kernel_rfl
theorem fld25_3 : fldOff Try.prog 25 3 = some 3 := by kernel_rfl
theorem fla25_3 : fldAt Try.prog 25 3 = some (3, true, 2) := by kernel_rfl
theorem fld25_4 : fldOff Try.prog 25 4 = some 5 := by kernel_rfl
theorem fla25_4 : fldAt Try.prog 25 4 = some (5, false, 1) := by kernel_rfl
theorem str25 : strT Try.prog 25 = some ([.int .i64 0, .int .i64 0, .int .i64 0, .int .i64 0, .int .i64 0, .int .i64 0], [(0, 1), (1, 1), (2, 1), (3, 2), (5, 1)]) := by kernel_rfl
theorem zer25 : zeroV Try.prog 25 = some (.agg #[.int .i64 0, .int .i64 0, .int .i64 0, .int .i64 0, .int .i64 0, .int .i64 0]) := by kernel_rfl
theorem lay27 : lay Try.prog 27 = some (true, 2) := by kernel_rfl
theorem fld27_0 : fldOff Try.prog 27 0 = some 0 := by kernel_rfl
theorem fla27_0 : fldAt Try.prog 27 0 = some (0, false, 1) := by kernel_rfl
theorem fld27_1 : fldOff Try.prog 27 1 = some 1 := by kernel_rfl
theorem fla27_1 : fldAt Try.prog 27 1 = some (1, false, 1) := by kernel_rfl
theorem str27 : strT Try.prog 27 = some ([.int .i64 0, .int .i64 0], [(0, 1), (1, 1)]) := by kernel_rfl
theorem zer27 : zeroV Try.prog 27 = some (.agg #[.int .i64 0, .int .i64 0]) := by kernel_rfl
theorem lay29 : lay Try.prog 29 = some (true, 6) := by kernel_rfl
theorem fld29_0 : fldOff Try.prog 29 0 = some 0 := by kernel_rfl
theorem fla29_0 : fldAt Try.prog 29 0 = some (0, false, 1) := by kernel_rfl
theorem fld29_1 : fldOff Try.prog 29 1 = some 1 := by kernel_rfl
theorem fla29_1 : fldAt Try.prog 29 1 = some (1, false, 1) := by kernel_rfl
theorem fld29_2 : fldOff Try.prog 29 2 = some 2 := by kernel_rfl
theorem fla29_2 : fldAt Try.prog 29 2 = some (2, false, 1) := by kernel_rfl
theorem fld29_3 : fldOff Try.prog 29 3 = some 3 := by kernel_rfl
theorem fla29_3 : fldAt Try.prog 29 3 = some (3, true, 2) := by kernel_rfl
theorem fld29_4 : fldOff Try.prog 29 4 = some 5 := by kernel_rfl
theorem fla29_4 : fldAt Try.prog 29 4 = some (5, false, 1) := by kernel_rfl
theorem str29 : strT Try.prog 29 = some ([.int .i64 0, .int .i64 0, .int .i64 0, .int .i64 0, .int .i64 0, .int .i64 0], [(0, 1), (1, 1), (2, 1), (3, 2), (5, 1)]) := by kernel_rfl
theorem zer29 : zeroV Try.prog 29 = some (.agg #[.int .i64 0, .int .i64 0, .int .i64 0, .int .i64 0, .int .i64 0, .int .i64 0]) := by kernel_rfl
theorem lay32 : lay Try.prog 32 = some (false, 1) := by kernel_rfl
theorem elZ32 : elZ Try.prog 32 = some (2, 1, 8) := by kernel_rfl
theorem zOk32 : zOk Try.prog 2 1 = true := by kernel_rfl
theorem zer32 : zeroV Try.prog 32 = some (.slice none 0 0) := by kernel_rfl
theorem lay34 : lay Try.prog 34 = some (true, 2) := by kernel_rfl
theorem fld34_0 : fldOff Try.prog 34 0 = some 0 := by kernel_rfl
theorem fla34_0 : fldAt Try.prog 34 0 = some (0, false, 1) := by kernel_rfl
theorem fld34_1 : fldOff Try.prog 34 1 = some 1 := by kernel_rfl
theorem fla34_1 : fldAt Try.prog 34 1 = some (1, false, 1) := by kernel_rfl
theorem str34 : strT Try.prog 34 = some ([.slice none 0 0, .int .i64 0], [(0, 1), (1, 1)]) := by kernel_rfl
theorem zer34 : zeroV Try.prog 34 = some (.agg #[.slice none 0 0, .int .i64 0]) := by kernel_rfl
theorem lay37 : lay Try.prog 37 = some (true, 2) := by kernel_rfl
theorem fld37_0 : fldOff Try.prog 37 0 = some 0 := by kernel_rfl
theorem fla37_0 : fldAt Try.prog 37 0 = some (0, false, 1) := by kernel_rfl
theorem fld37_1 : fldOff Try.prog 37 1 = some 1 := by kernel_rfl
theorem fla37_1 : fldAt Try.prog 37 1 = some (1, false, 1) := by kernel_rfl
theorem str37 : strT Try.prog 37 = some ([.slice none 0 0, .int .i64 0], [(0, 1), (1, 1)]) := by kernel_rfl
theorem zer37 : zeroV Try.prog 37 = some (.agg #[.slice none 0 0, .int .i64 0]) := by kernel_rfl
theorem lay42 : lay Try.prog 42 = some (true, 2) := by kernel_rfl
theorem fld42_0 : fldOff Try.prog 42 0 = some 0 := by kernel_rfl
theorem fla42_0 : fldAt Try.prog 42 0 = some (0, false, 1) := by kernel_rfl
theorem fld42_1 : fldOff Try.prog 42 1 = some 1 := by kernel_rfl
theorem fla42_1 : fldAt Try.prog 42 1 = some (1, false, 1) := by kernel_rfl
theorem str42 : strT Try.prog 42 = some ([.int .i64 0, .slice none 0 0], [(0, 1), (1, 1)]) := by kernel_rfl
theorem zer42 : zeroV Try.prog 42 = some (.agg #[.int .i64 0, .slice none 0 0]) := by kernel_rfl
theorem lay49 : lay Try.prog 49 = some (false, 1) := by kernel_rfl
theorem elZ49 : elZ Try.prog 49 = some (116, 3, 24) := by kernel_rfl
theorem zOk49 : zOk Try.prog 116 3 = true := by kernel_rfl
theorem zer49 : zeroV Try.prog 49 = some (.slice none 0 0) := by kernel_rfl
theorem lay51 : lay Try.prog 51 = some (true, 3) := by kernel_rfl
theorem fld51_0 : fldOff Try.prog 51 0 = some 0 := by kernel_rfl
theorem fla51_0 : fldAt Try.prog 51 0 = some (0, false, 1) := by kernel_rfl
theorem fld51_1 : fldOff Try.prog 51 1 = some 1 := by kernel_rfl
theorem fla51_1 : fldAt Try.prog 51 1 = some (1, false, 1) := by kernel_rfl
theorem fld51_2 : fldOff Try.prog 51 2 = some 2 := by kernel_rfl
theorem fla51_2 : fldAt Try.prog 51 2 = some (2, false, 1) := by kernel_rfl
theorem str51 : strT Try.prog 51 = some ([.int .i64 0, .int .i64 0, .slice none 0 0], [(0, 1), (1, 1), (2, 1)]) := by kernel_rfl
theorem zer51 : zeroV Try.prog 51 = some (.agg #[.int .i64 0, .int .i64 0, .slice none 0 0]) := by kernel_rfl
theorem lay53 : lay Try.prog 53 = some (true, 10) := by kernel_rfl
theorem fld53_0 : fldOff Try.prog 53 0 = some 0 := by kernel_rfl
theorem fla53_0 : fldAt Try.prog 53 0 = some (0, false, 1) := by kernel_rfl
theorem fld53_1 : fldOff Try.prog 53 1 = some 1 := by kernel_rfl
theorem fla53_1 : fldAt Try.prog 53 1 = some (1, true, 6) := by kernel_rfl
theorem fld53_2 : fldOff Try.prog 53 2 = some 7 := by kernel_rfl
theorem fla53_2 : fldAt Try.prog 53 2 = some (7, true, 3) := by kernel_rfl
theorem str53 : strT Try.prog 53 = some ([.int .i64 0, .int .i64 0, .int .i64 0, .int .i64 0, .int .i64 0, .int .i64 0, .int .i64 0, .int .i64 0, .int .i64 0, .slice none 0 0], [(0, 1), (1, 6), (7, 3)]) := by kernel_rfl
theorem zer53 : zeroV Try.prog 53 = some (.agg #[.int .i64 0, .int .i64 0, .int .i64 0, .int .i64 0, .int .i64 0, .int .i64 0, .int .i64 0, .int .i64 0, .int .i64 0, .slice none 0 0]) := by kernel_rfl
theorem lay58 : lay Try.prog 58 = some (false, 1) := by kernel_rfl
theorem elZ58 : elZ Try.prog 58 = some (158, 3, 24) := by kernel_rfl
theorem zOk58 : zOk Try.prog 158 3 = true := by kernel_rfl
theorem zer58 : zeroV Try.prog 58 = some (.slice none 0 0) := by kernel_rfl
theorem lay60 : lay Try.prog 60 = some (true, 3) := by kernel_rfl
theorem fld60_0 : fldOff Try.prog 60 0 = some 0 := by kernel_rfl
theorem fla60_0 : fldAt Try.prog 60 0 = some (0, false, 1) := by kernel_rfl
theorem fld60_1 : fldOff Try.prog 60 1 = some 1 := by kernel_rfl
theorem fla60_1 : fldAt Try.prog 60 1 = some (1, false, 1) := by kernel_rfl
theorem fld60_2 : fldOff Try.prog 60 2 = some 2 := by kernel_rfl
theorem fla60_2 : fldAt Try.prog 60 2 = some (2, false, 1) := by kernel_rfl
theorem str60 : strT Try.prog 60 = some ([.int .i64 0, .int .i64 0, .slice none 0 0], [(0, 1), (1, 1), (2, 1)]) := by kernel_rfl
theorem zer60 : zeroV Try.prog 60 = some (.agg #[.int .i64 0, .int .i64 0, .slice none 0 0]) := by kernel_rfl
theorem lay68 : lay Try.prog 68 = some (false, 1) := by kernel_rfl
theorem elZ68 : elZ Try.prog 68 = some (126, 3, 24) := by kernel_rfl
theorem zOk68 : zOk Try.prog 126 3 = true := by kernel_rfl
theorem zer68 : zeroV Try.prog 68 = some (.slice none 0 0) := by kernel_rfl
theorem lay71 : lay Try.prog 71 = some (false, 1) := by kernel_rfl
theorem elZ71 : elZ Try.prog 71 = some (124, 3, 24) := by kernel_rfl
theorem zOk71 : zOk Try.prog 124 3 = true := by kernel_rfl
theorem zer71 : zeroV Try.prog 71 = some (.slice none 0 0) := by kernel_rfl
theorem lay75 : lay Try.prog 75 = some (false, 1) := by kernel_rfl
theorem elZ75 : elZ Try.prog 75 = some (5, 1, 1) := by kernel_rfl
theorem zOk75 : zOk Try.prog 5 1 = true := by kernel_rfl
theorem zer75 : zeroV Try.prog 75 = some (.slice none 0 0) := by kernel_rfl
theorem lay81 : lay Try.prog 81 = some (true, 2) := by kernel_rfl
theorem fld81_0 : fldOff Try.prog 81 0 = some 0 := by kernel_rfl
theorem fla81_0 : fldAt Try.prog 81 0 = some (0, false, 1) := by kernel_rfl
theorem fld81_1 : fldOff Try.prog 81 1 = some 1 := by kernel_rfl
theorem fla81_1 : fldAt Try.prog 81 1 = some (1, false, 1) := by kernel_rfl
theorem str81 : strT Try.prog 81 = some ([.int .i64 0, .int .i64 0], [(0, 1), (1, 1)]) := by kernel_rfl
theorem zer81 : zeroV Try.prog 81 = some (.agg #[.int .i64 0, .int .i64 0]) := by kernel_rfl
theorem lay84 : lay Try.prog 84 = some (false, 1) := by kernel_rfl
theorem elZ84 : elZ Try.prog 84 = some (9, 1, 16) := by kernel_rfl
theorem zOk84 : zOk Try.prog 9 1 = true := by kernel_rfl
theorem zer84 : zeroV Try.prog 84 = some (.slice none 0 0) := by kernel_rfl
theorem lay85 : lay Try.prog 85 = some (false, 1) := by kernel_rfl
theorem elZ85 : elZ Try.prog 85 = some (174, 2, 16) := by kernel_rfl
theorem zOk85 : zOk Try.prog 174 2 = true := by kernel_rfl
theorem zer85 : zeroV Try.prog 85 = some (.slice none 0 0) := by kernel_rfl
theorem lay87 : lay Try.prog 87 = some (true, 2) := by kernel_rfl
theorem fld87_0 : fldOff Try.prog 87 0 = some 0 := by kernel_rfl
theorem fla87_0 : fldAt Try.prog 87 0 = some (0, false, 1) := by kernel_rfl
theorem fld87_1 : fldOff Try.prog 87 1 = some 1 := by kernel_rfl
theorem fla87_1 : fldAt Try.prog 87 1 = some (1, false, 1) := by kernel_rfl
theorem str87 : strT Try.prog 87 = some ([.slice none 0 0, .slice none 0 0], [(0, 1), (1, 1)]) := by kernel_rfl
theorem zer87 : zeroV Try.prog 87 = some (.agg #[.slice none 0 0, .slice none 0 0]) := by kernel_rfl
theorem lay90 : lay Try.prog 90 = some (true, 2) := by kernel_rfl
theorem fld90_0 : fldOff Try.prog 90 0 = some 0 := by kernel_rfl
theorem fla90_0 : fldAt Try.prog 90 0 = some (0, false, 1) := by kernel_rfl
theorem fld90_1 : fldOff Try.prog 90 1 = some 1 := by kernel_rfl
theorem fla90_1 : fldAt Try.prog 90 1 = some (1, false, 1) := by kernel_rfl
theorem str90 : strT Try.prog 90 = some ([.int .i64 0, .string ⟨#[]⟩], [(0, 1), (1, 1)]) := by kernel_rfl
theorem zer90 : zeroV Try.prog 90 = some (.agg #[.int .i64 0, .string ⟨#[]⟩]) := by kernel_rfl
theorem lay92 : lay Try.prog 92 = some (false, 1) := by kernel_rfl
theorem elZ92 : elZ Try.prog 92 = some (171, 2, 16) := by kernel_rfl
theorem zOk92 : zOk Try.prog 171 2 = true := by kernel_rfl
theorem zer92 : zeroV Try.prog 92 = some (.slice none 0 0) := by kernel_rfl
theorem lay94 : lay Try.prog 94 = some (true, 2) := by kernel_rfl
theorem fld94_0 : fldOff Try.prog 94 0 = some 0 := by kernel_rfl
theorem fla94_0 : fldAt Try.prog 94 0 = some (0, false, 1) := by kernel_rfl
theorem fld94_1 : fldOff Try.prog 94 1 = some 1 := by kernel_rfl
theorem fla94_1 : fldAt Try.prog 94 1 = some (1, false, 1) := by kernel_rfl
theorem str94 : strT Try.prog 94 = some ([.slice none 0 0, .slice none 0 0], [(0, 1), (1, 1)]) := by kernel_rfl
theorem zer94 : zeroV Try.prog 94 = some (.agg #[.slice none 0 0, .slice none 0 0]) := by kernel_rfl
theorem lay116 : lay Try.prog 116 = some (true, 3) := by kernel_rfl
theorem fld116_0 : fldOff Try.prog 116 0 = some 0 := by kernel_rfl
theorem fla116_0 : fldAt Try.prog 116 0 = some (0, true, 2) := by kernel_rfl
theorem fld116_1 : fldOff Try.prog 116 1 = some 2 := by kernel_rfl
theorem fla116_1 : fldAt Try.prog 116 1 = some (2, false, 1) := by kernel_rfl
theorem str116 : strT Try.prog 116 = some ([.int .i64 0, .int .i64 0, .int .i64 0], [(0, 2), (2, 1)]) := by kernel_rfl
theorem zer116 : zeroV Try.prog 116 = some (.agg #[.int .i64 0, .int .i64 0, .int .i64 0]) := by kernel_rfl
theorem lay124 : lay Try.prog 124 = some (true, 3) := by kernel_rfl
theorem fld124_0 : fldOff Try.prog 124 0 = some 0 := by kernel_rfl
theorem fla124_0 : fldAt Try.prog 124 0 = some (0, false, 1) := by kernel_rfl
theorem fld124_1 : fldOff Try.prog 124 1 = some 1 := by kernel_rfl
theorem fla124_1 : fldAt Try.prog 124 1 = some (1, false, 1) := by kernel_rfl
theorem fld124_2 : fldOff Try.prog 124 2 = some 2 := by kernel_rfl
theorem fla124_2 : fldAt Try.prog 124 2 = some (2, false, 1) := by kernel_rfl
theorem str124 : strT Try.prog 124 = some ([.int .i64 0, .int .i64 0, .int .i64 0], [(0, 1), (1, 1), (2, 1)]) := by kernel_rfl
theorem zer124 : zeroV Try.prog 124 = some (.agg #[.int .i64 0, .int .i64 0, .int .i64 0]) := by kernel_rfl
theorem lay126 : lay Try.prog 126 = some (true, 3) := by kernel_rfl
theorem fld126_0 : fldOff Try.prog 126 0 = some 0 := by kernel_rfl
theorem fla126_0 : fldAt Try.prog 126 0 = some (0, false, 1) := by kernel_rfl
theorem fld126_1 : fldOff Try.prog 126 1 = some 1 := by kernel_rfl
theorem fla126_1 : fldAt Try.prog 126 1 = some (1, false, 1) := by kernel_rfl
theorem fld126_2 : fldOff Try.prog 126 2 = some 2 := by kernel_rfl
theorem fla126_2 : fldAt Try.prog 126 2 = some (2, false, 1) := by kernel_rfl
theorem str126 : strT Try.prog 126 = some ([.int .i64 0, .int .i64 0, .int .i64 0], [(0, 1), (1, 1), (2, 1)]) := by kernel_rfl
theorem zer126 : zeroV Try.prog 126 = some (.agg #[.int .i64 0, .int .i64 0, .int .i64 0]) := by kernel_rfl
theorem lay158 : lay Try.prog 158 = some (true, 3) := by kernel_rfl
theorem fld158_0 : fldOff Try.prog 158 0 = some 0 := by kernel_rfl
theorem fla158_0 : fldAt Try.prog 158 0 = some (0, true, 2) := by kernel_rfl
theorem fld158_1 : fldOff Try.prog 158 1 = some 2 := by kernel_rfl
theorem fla158_1 : fldAt Try.prog 158 1 = some (2, false, 1) := by kernel_rfl
theorem str158 : strT Try.prog 158 = some ([.int .i64 0, .int .i64 0, .int .i64 0], [(0, 2), (2, 1)]) := by kernel_rfl
theorem zer158 : zeroV Try.prog 158 = some (.agg #[.int .i64 0, .int .i64 0, .int .i64 0]) := by kernel_rfl
theorem lay163 : lay Try.prog 163 = some (true, 2) := by kernel_rfl
theorem fld163_0 : fldOff Try.prog 163 0 = some 0 := by kernel_rfl
theorem fla163_0 : fldAt Try.prog 163 0 = some (0, false, 1) := by kernel_rfl
theorem fld163_1 : fldOff Try.prog 163 1 = some 1 := by kernel_rfl
theorem fla163_1 : fldAt Try.prog 163 1 = some (1, false, 1) := by kernel_rfl
theorem str163 : strT Try.prog 163 = some ([.slice none 0 0, .int .i64 0], [(0, 1), (1, 1)]) := by kernel_rfl
theorem zer163 : zeroV Try.prog 163 = some (.agg #[.slice none 0 0, .int .i64 0]) := by kernel_rfl
theorem lay171 : lay Try.prog 171 = some (true, 2) := by kernel_rfl
theorem fld171_0 : fldOff Try.prog 171 0 = some 0 := by kernel_rfl
theorem fla171_0 : fldAt Try.prog 171 0 = some (0, false, 1) := by kernel_rfl
theorem fld171_1 : fldOff Try.prog 171 1 = some 1 := by kernel_rfl
theorem fla171_1 : fldAt Try.prog 171 1 = some (1, false, 1) := by kernel_rfl
theorem str171 : strT Try.prog 171 = some ([.int .i64 0, .int .i64 0], [(0, 1), (1, 1)]) := by kernel_rfl
theorem zer171 : zeroV Try.prog 171 = some (.agg #[.int .i64 0, .int .i64 0]) := by kernel_rfl
theorem lay174 : lay Try.prog 174 = some (true, 2) := by kernel_rfl
theorem fld174_0 : fldOff Try.prog 174 0 = some 0 := by kernel_rfl
theorem fla174_0 : fldAt Try.prog 174 0 = some (0, false, 1) := by kernel_rfl
theorem fld174_1 : fldOff Try.prog 174 1 = some 1 := by kernel_rfl
theorem fla174_1 : fldAt Try.prog 174 1 = some (1, false, 1) := by kernel_rfl
theorem str174 : strT Try.prog 174 = some ([.int .i64 0, .int .i64 0], [(0, 1), (1, 1)]) := by kernel_rfl
theorem zer174 : zeroV Try.prog 174 = some (.agg #[.int .i64 0, .int .i64 0]) := by kernel_rfl
theorem eqA27 (d : Nat) (w : World) (a_0 : Int) (a_1 : Int) (b_0 : Int) (b_1 : Int) : (Op.equalIn (d + 2) 27 (.agg #[.int .i64 a_0, .int .i64 a_1]) (.agg #[.int .i64 b_0, .int .i64 b_1])).run Try.prog w = .ok ((a_0 == b_0) && (a_1 == b_1)) w := by
  refine eqs_of Try.underlying27 (by kernel_rfl) ?_
  refine eqf_more (by rfl) (by go_simp; try rfl) (by go_simp; try rfl) (by go_simp) ?_
  exact eqf_one (by rfl) (by go_simp; try rfl) (by go_simp; try rfl) (by go_simp)
theorem eql27 (xo yo : Operand) (a_0 : Int) (a_1 : Int) (b_0 : Int) (b_1 : Int) : binS Try.prog .eql 27 xo yo (.agg #[.int .i64 a_0, .int .i64 a_1]) (.agg #[.int .i64 b_0, .int .i64 b_1]) = some (.bool (((a_0 == b_0) && (a_1 == b_1)))) := eql_of 2 (by decide) (by simp [pureV, flatV]) (by simp [pureV, flatV]) (by kernel_rfl) fun d w => eqA27 d w _ _ _ _
theorem neq27 (xo yo : Operand) (a_0 : Int) (a_1 : Int) (b_0 : Int) (b_1 : Int) : binS Try.prog .neq 27 xo yo (.agg #[.int .i64 a_0, .int .i64 a_1]) (.agg #[.int .i64 b_0, .int .i64 b_1]) = some (.bool (!((a_0 == b_0) && (a_1 == b_1)))) := neq_of 2 (by decide) (by simp [pureV, flatV]) (by simp [pureV, flatV]) (by kernel_rfl) fun d w => eqA27 d w _ _ _ _
theorem eqA29 (d : Nat) (w : World) (a_0 : Int) (a_1 : Int) (a_2 : Int) (a_3_0 : Int) (a_3_1 : Int) (a_4 : Int) (b_0 : Int) (b_1 : Int) (b_2 : Int) (b_3_0 : Int) (b_3_1 : Int) (b_4 : Int) : (Op.equalIn (d + 3) 29 (.agg #[.int .i64 a_0, .int .i64 a_1, .int .i64 a_2, .int .i64 a_3_0, .int .i64 a_3_1, .int .i64 a_4]) (.agg #[.int .i64 b_0, .int .i64 b_1, .int .i64 b_2, .int .i64 b_3_0, .int .i64 b_3_1, .int .i64 b_4])).run Try.prog w = .ok ((a_0 == b_0) && ((a_1 == b_1) && ((a_2 == b_2) && (((a_3_0 == b_3_0) && (a_3_1 == b_3_1)) && (a_4 == b_4))))) w := by
  refine eqs_of Try.underlying29 (by kernel_rfl) ?_
  refine eqf_more (by rfl) (by go_simp; try rfl) (by go_simp; try rfl) (by go_simp) ?_
  refine eqf_more (by rfl) (by go_simp; try rfl) (by go_simp; try rfl) (by go_simp) ?_
  refine eqf_more (by rfl) (by go_simp; try rfl) (by go_simp; try rfl) (by go_simp) ?_
  refine eqf_more (by rfl) (by go_simp; try rfl) (by go_simp; try rfl) (eqA27 (d + 0) _ _ _ _ _) ?_
  exact eqf_one (by rfl) (by go_simp; try rfl) (by go_simp; try rfl) (by go_simp)
theorem eql29 (xo yo : Operand) (a_0 : Int) (a_1 : Int) (a_2 : Int) (a_3_0 : Int) (a_3_1 : Int) (a_4 : Int) (b_0 : Int) (b_1 : Int) (b_2 : Int) (b_3_0 : Int) (b_3_1 : Int) (b_4 : Int) : binS Try.prog .eql 29 xo yo (.agg #[.int .i64 a_0, .int .i64 a_1, .int .i64 a_2, .int .i64 a_3_0, .int .i64 a_3_1, .int .i64 a_4]) (.agg #[.int .i64 b_0, .int .i64 b_1, .int .i64 b_2, .int .i64 b_3_0, .int .i64 b_3_1, .int .i64 b_4]) = some (.bool (((a_0 == b_0) && ((a_1 == b_1) && ((a_2 == b_2) && (((a_3_0 == b_3_0) && (a_3_1 == b_3_1)) && (a_4 == b_4))))))) := eql_of 3 (by decide) (by simp [pureV, flatV]) (by simp [pureV, flatV]) (by kernel_rfl) fun d w => eqA29 d w _ _ _ _ _ _ _ _ _ _ _ _
theorem neq29 (xo yo : Operand) (a_0 : Int) (a_1 : Int) (a_2 : Int) (a_3_0 : Int) (a_3_1 : Int) (a_4 : Int) (b_0 : Int) (b_1 : Int) (b_2 : Int) (b_3_0 : Int) (b_3_1 : Int) (b_4 : Int) : binS Try.prog .neq 29 xo yo (.agg #[.int .i64 a_0, .int .i64 a_1, .int .i64 a_2, .int .i64 a_3_0, .int .i64 a_3_1, .int .i64 a_4]) (.agg #[.int .i64 b_0, .int .i64 b_1, .int .i64 b_2, .int .i64 b_3_0, .int .i64 b_3_1, .int .i64 b_4]) = some (.bool (!((a_0 == b_0) && ((a_1 == b_1) && ((a_2 == b_2) && (((a_3_0 == b_3_0) && (a_3_1 == b_3_1)) && (a_4 == b_4))))))) := neq_of 3 (by decide) (by simp [pureV, flatV]) (by simp [pureV, flatV]) (by kernel_rfl) fun d w => eqA29 d w _ _ _ _ _ _ _ _ _ _ _ _
theorem eqA171 (d : Nat) (w : World) (a_0 : Int) (a_1 : Int) (b_0 : Int) (b_1 : Int) : (Op.equalIn (d + 2) 171 (.agg #[.int .i64 a_0, .int .i64 a_1]) (.agg #[.int .i64 b_0, .int .i64 b_1])).run Try.prog w = .ok ((a_0 == b_0) && (a_1 == b_1)) w := by
  refine eqs_of Try.underlying171 (by kernel_rfl) ?_
  refine eqf_more (by rfl) (by go_simp; try rfl) (by go_simp; try rfl) (by go_simp) ?_
  exact eqf_one (by rfl) (by go_simp; try rfl) (by go_simp; try rfl) (by go_simp)
theorem eql171 (xo yo : Operand) (a_0 : Int) (a_1 : Int) (b_0 : Int) (b_1 : Int) : binS Try.prog .eql 171 xo yo (.agg #[.int .i64 a_0, .int .i64 a_1]) (.agg #[.int .i64 b_0, .int .i64 b_1]) = some (.bool (((a_0 == b_0) && (a_1 == b_1)))) := eql_of 2 (by decide) (by simp [pureV, flatV]) (by simp [pureV, flatV]) (by kernel_rfl) fun d w => eqA171 d w _ _ _ _
theorem neq171 (xo yo : Operand) (a_0 : Int) (a_1 : Int) (b_0 : Int) (b_1 : Int) : binS Try.prog .neq 171 xo yo (.agg #[.int .i64 a_0, .int .i64 a_1]) (.agg #[.int .i64 b_0, .int .i64 b_1]) = some (.bool (!((a_0 == b_0) && (a_1 == b_1)))) := neq_of 2 (by decide) (by simp [pureV, flatV]) (by simp [pureV, flatV]) (by kernel_rfl) fun d w => eqA171 d w _ _ _ _
theorem tys : type_of% (And.intro (And.intro (And.intro (And.intro (And.intro (And.intro (And.intro (@lay2) (And.intro (@und2) (@zer2))) (And.intro (And.intro (@lay3) (@und3)) (And.intro (@zer3) (@lay4)))) (And.intro (And.intro (@und4) (And.intro (@zer4) (@lay5))) (And.intro (And.intro (@und5) (@zer5)) (And.intro (@lay9) (@und9))))) (And.intro (And.intro (And.intro (@zer9) (And.intro (@lay23) (@fld23_0))) (And.intro (And.intro (@fla23_0) (@fld23_1)) (And.intro (@fla23_1) (@str23)))) (And.intro (And.intro (@zer23) (And.intro (@lay25) (@fld25_0))) (And.intro (And.intro (@fla25_0) (@fld25_1)) (And.intro (@fla25_1) (@fld25_2)))))) (And.intro (And.intro (And.intro (And.intro (@fla25_2) (And.intro (@fld25_3) (@fla25_3))) (And.intro (And.intro (@fld25_4) (@fla25_4)) (And.intro (@str25) (@zer25)))) (And.intro (And.intro (@lay27) (And.intro (@fld27_0) (@fla27_0))) (And.intro (And.intro (@fld27_1) (@fla27_1)) (And.intro (@str27) (@zer27))))) (And.intro (And.intro (And.intro (@lay29) (And.intro (@fld29_0) (@fla29_0))) (And.intro (And.intro (@fld29_1) (@fla29_1)) (And.intro (@fld29_2) (@fla29_2)))) (And.intro (And.intro (@fld29_3) (And.intro (@fla29_3) (@fld29_4))) (And.intro (And.intro (@fla29_4) (@str29)) (And.intro (@zer29) (@lay32))))))) (And.intro (And.intro (And.intro (And.intro (And.intro (@elZ32) (And.intro (@zOk32) (@zer32))) (And.intro (And.intro (@lay34) (@fld34_0)) (And.intro (@fla34_0) (@fld34_1)))) (And.intro (And.intro (@fla34_1) (And.intro (@str34) (@zer34))) (And.intro (And.intro (@lay37) (@fld37_0)) (And.intro (@fla37_0) (@fld37_1))))) (And.intro (And.intro (And.intro (@fla37_1) (And.intro (@str37) (@zer37))) (And.intro (And.intro (@lay42) (@fld42_0)) (And.intro (@fla42_0) (@fld42_1)))) (And.intro (And.intro (@fla42_1) (And.intro (@str42) (@zer42))) (And.intro (And.intro (@lay49) (@elZ49)) (And.intro (@zOk49) (@zer49)))))) (And.intro (And.intro (And.intro (And.intro (@lay51) (And.intro (@fld51_0) (@fla51_0))) (And.intro (And.intro (@fld51_1) (@fla51_1)) (And.intro (@fld51_2) (@fla51_2)))) (And.intro (And.intro (@str51) (And.intro (@zer51) (@lay53))) (And.intro (And.intro (@fld53_0) (@fla53_0)) (And.intro (@fld53_1) (@fla53_1))))) (And.intro (And.intro (And.intro (@fld53_2) (And.intro (@fla53_2) (@str53))) (And.intro (And.intro (@zer53) (@lay58)) (And.intro (@elZ58) (@zOk58)))) (And.intro (And.intro (And.intro (@zer58) (@lay60)) (And.intro (@fld60_0) (@fla60_0))) (And.intro (And.intro (@fld60_1) (@fla60_1)) (And.intro (@fld60_2) (@fla60_2)))))))) (And.intro (And.intro (And.intro (And.intro (And.intro (And.intro (@str60) (And.intro (@zer60) (@lay68))) (And.intro (And.intro (@elZ68) (@zOk68)) (And.intro (@zer68) (@lay71)))) (And.intro (And.intro (@elZ71) (And.intro (@zOk71) (@zer71))) (And.intro (And.intro (@lay75) (@elZ75)) (And.intro (@zOk75) (@zer75))))) (And.intro (And.intro (And.intro (@lay81) (And.intro (@fld81_0) (@fla81_0))) (And.intro (And.intro (@fld81_1) (@fla81_1)) (And.intro (@str81) (@zer81)))) (And.intro (And.intro (@lay84) (And.intro (@elZ84) (@zOk84))) (And.intro (And.intro (@zer84) (@lay85)) (And.intro (@elZ85) (@zOk85)))))) (And.intro (And.intro (And.intro (And.intro (@zer85) (And.intro (@lay87) (@fld87_0))) (And.intro (And.intro (@fla87_0) (@fld87_1)) (And.intro (@fla87_1) (@str87)))) (And.intro (And.intro (@zer87) (And.intro (@lay90) (@fld90_0))) (And.intro (And.intro (@fla90_0) (@fld90_1)) (And.intro (@fla90_1) (@str90))))) (And.intro (And.intro (And.intro (@zer90) (And.intro (@lay92) (@elZ92))) (And.intro (And.intro (@zOk92) (@zer92)) (And.intro (@lay94) (@fld94_0)))) (And.intro (And.intro (@fla94_0) (And.intro (@fld94_1) (@fla94_1))) (And.intro (And.intro (@str94) (@zer94)) (And.intro (@lay116) (@fld116_0))))))) (And.intro (And.intro (And.intro (And.intro (And.intro (@fla116_0) (And.intro (@fld116_1) (@fla116_1))) (And.intro (And.intro (@str116) (@zer116)) (And.intro (@lay124) (@fld124_0)))) (And.intro (And.intro (@fla124_0) (And.intro (@fld124_1) (@fla124_1))) (And.intro (And.intro (@fld124_2) (@fla124_2)) (And.intro (@str124) (@zer124))))) (And.intro (And.intro (And.intro (@lay126) (And.intro (@fld126_0) (@fla126_0))) (And.intro (And.intro (@fld126_1) (@fla126_1)) (And.intro (@fld126_2) (@fla126_2)))) (And.intro (And.intro (@str126) (And.intro (@zer126) (@lay158))) (And.intro (And.intro (@fld158_0) (@fla158_0)) (And.intro (@fld158_1) (@fla158_1)))))) (And.intro (And.intro (And.intro (And.intro (@str158) (And.intro (@zer158) (@lay163))) (And.intro (And.intro (@fld163_0) (@fla163_0)) (And.intro (@fld163_1) (@fla163_1)))) (And.intro (And.intro (@str163) (And.intro (@zer163) (@lay171))) (And.intro (And.intro (@fld171_0) (@fla171_0)) (And.intro (@fld171_1) (@fla171_1))))) (And.intro (And.intro (And.intro (@str171) (And.intro (@zer171) (@lay174))) (And.intro (And.intro (@fld174_0) (@fla174_0)) (And.intro (@fld174_1) (@fla174_1)))) (And.intro (And.intro (And.intro (@str174) (@zer174)) (And.intro (@eql27) (@neq27))) (And.intro (And.intro (@eql29) (@neq29)) (And.intro (@eql171) (@neq171))))))))) := And.intro (And.intro (And.intro (And.intro (And.intro (And.intro (And.intro (@lay2) (And.intro (@und2) (@zer2))) (And.intro (And.intro (@lay3) (@und3)) (And.intro (@zer3) (@lay4)))) (And.intro (And.intro (@und4) (And.intro (@zer4) (@lay5))) (And.intro (And.intro (@und5) (@zer5)) (And.intro (@lay9) (@und9))))) (And.intro (And.intro (And.intro (@zer9) (And.intro (@lay23) (@fld23_0))) (And.intro (And.intro (@fla23_0) (@fld23_1)) (And.intro (@fla23_1) (@str23)))) (And.intro (And.intro (@zer23) (And.intro (@lay25) (@fld25_0))) (And.intro (And.intro (@fla25_0) (@fld25_1)) (And.intro (@fla25_1) (@fld25_2)))))) (And.intro (And.intro (And.intro (And.intro (@fla25_2) (And.intro (@fld25_3) (@fla25_3))) (And.intro (And.intro (@fld25_4) (@fla25_4)) (And.intro (@str25) (@zer25)))) (And.intro (And.intro (@lay27) (And.intro (@fld27_0) (@fla27_0))) (And.intro (And.intro (@fld27_1) (@fla27_1)) (And.intro (@str27) (@zer27))))) (And.intro (And.intro (And.intro (@lay29) (And.intro (@fld29_0) (@fla29_0))) (And.intro (And.intro (@fld29_1) (@fla29_1)) (And.intro (@fld29_2) (@fla29_2)))) (And.intro (And.intro (@fld29_3) (And.intro (@fla29_3) (@fld29_4))) (And.intro (And.intro (@fla29_4) (@str29)) (And.intro (@zer29) (@lay32))))))) (And.intro (And.intro (And.intro (And.intro (And.intro (@elZ32) (And.intro (@zOk32) (@zer32))) (And.intro (And.intro (@lay34) (@fld34_0)) (And.intro (@fla34_0) (@fld34_1)))) (And.intro (And.intro (@fla34_1) (And.intro (@str34) (@zer34))) (And.intro (And.intro (@lay37) (@fld37_0)) (And.intro (@fla37_0) (@fld37_1))))) (And.intro (And.intro (And.intro (@fla37_1) (And.intro (@str37) (@zer37))) (And.intro (And.intro (@lay42) (@fld42_0)) (And.intro (@fla42_0) (@fld42_1)))) (And.intro (And.intro (@fla42_1) (And.intro (@str42) (@zer42))) (And.intro (And.intro (@lay49) (@elZ49)) (And.intro (@zOk49) (@zer49)))))) (And.intro (And.intro (And.intro (And.intro (@lay51) (And.intro (@fld51_0) (@fla51_0))) (And.intro (And.intro (@fld51_1) (@fla51_1)) (And.intro (@fld51_2) (@fla51_2)))) (And.intro (And.intro (@str51) (And.intro (@zer51) (@lay53))) (And.intro (And.intro (@fld53_0) (@fla53_0)) (And.intro (@fld53_1) (@fla53_1))))) (And.intro (And.intro (And.intro (@fld53_2) (And.intro (@fla53_2) (@str53))) (And.intro (And.intro (@zer53) (@lay58)) (And.intro (@elZ58) (@zOk58)))) (And.intro (And.intro (And.intro (@zer58) (@lay60)) (And.intro (@fld60_0) (@fla60_0))) (And.intro (And.intro (@fld60_1) (@fla60_1)) (And.intro (@fld60_2) (@fla60_2)))))))) (And.intro (And.intro (And.intro (And.intro (And.intro (And.intro (@str60) (And.intro (@zer60) (@lay68))) (And.intro (And.intro (@elZ68) (@zOk68)) (And.intro (@zer68) (@lay71)))) (And.intro (And.intro (@elZ71) (And.intro (@zOk71) (@zer71))) (And.intro (And.intro (@lay75) (@elZ75)) (And.intro (@zOk75) (@zer75))))) (And.intro (And.intro (And.intro (@lay81) (And.intro (@fld81_0) (@fla81_0))) (And.intro (And.intro (@fld81_1) (@fla81_1)) (And.intro (@str81) (@zer81)))) (And.intro (And.intro (@lay84) (And.intro (@elZ84) (@zOk84))) (And.intro (And.intro (@zer84) (@lay85)) (And.intro (@elZ85) (@zOk85)))))) (And.intro (And.intro (And.intro (And.intro (@zer85) (And.intro (@lay87) (@fld87_0))) (And.intro (And.intro (@fla87_0) (@fld87_1)) (And.intro (@fla87_1) (@str87)))) (And.intro (And.intro (@zer87) (And.intro (@lay90) (@fld90_0))) (And.intro (And.intro (@fla90_0) (@fld90_1)) (And.intro (@fla90_1) (@str90))))) (And.intro (And.intro (And.intro (@zer90) (And.intro (@lay92) (@elZ92))) (And.intro (And.intro (@zOk92) (@zer92)) (And.intro (@lay94) (@fld94_0)))) (And.intro (And.intro (@fla94_0) (And.intro (@fld94_1) (@fla94_1))) (And.intro (And.intro (@str94) (@zer94)) (And.intro (@lay116) (@fld116_0))))))) (And.intro (And.intro (And.intro (And.intro (And.intro (@fla116_0) (And.intro (@fld116_1) (@fla116_1))) (And.intro (And.intro (@str116) (@zer116)) (And.intro (@lay124) (@fld124_0)))) (And.intro (And.intro (@fla124_0) (And.intro (@fld124_1) (@fla124_1))) (And.intro (And.intro (@fld124_2) (@fla124_2)) (And.intro (@str124) (@zer124))))) (And.intro (And.intro (And.intro (@lay126) (And.intro (@fld126_0) (@fla126_0))) (And.intro (And.intro (@fld126_1) (@fla126_1)) (And.intro (@fld126_2) (@fla126_2)))) (And.intro (And.intro (@str126) (And.intro (@zer126) (@lay158))) (And.intro (And.intro (@fld158_0) (@fla158_0)) (And.intro (@fld158_1) (@fla158_1)))))) (And.intro (And.intro (And.intro (And.intro (@str158) (And.intro (@zer158) (@lay163))) (And.intro (And.intro (@fld163_0) (@fla163_0)) (And.intro (@fld163_1) (@fla163_1)))) (And.intro (And.intro (@str163) (And.intro (@zer163) (@lay171))) (And.intro (And.intro (@fld171_0) (@fla171_0)) (And.intro (@fld171_1) (@fla171_1))))) (And.intro (And.intro (And.intro (@str171) (And.intro (@zer171) (@lay174))) (And.intro (And.intro (@fld174_0) (@fla174_0)) (And.intro (@fld174_1) (@fla174_1)))) (And.intro (And.intro (And.intro (@str174) (@zer174)) (And.intro (@eql27) (@neq27))) (And.intro (And.intro (@eql29) (@neq29)) (And.intro (@eql171) (@neq171))))))))
end Go.BM
