/- Facts on the types of the program, by the kernel. -/
import Derived.Test.YtdhincmlefpfkaaProg
import Derived.Test.YtdhincmlefpfkaaC16
import Derived.KernelRfl
namespace Go.BM
open Go.Proofs
theorem lay2 : lay Try.prog 2 = some (false, 1) := by kernel_rfl
theorem und2 : Try.prog.underlying 2 = some (.int .i64) := by kernel_rfl
theorem zer2 : zeroV Try.prog 2 = some (.int .i64 0) := by kernel_rfl
theorem lay3 : lay Try.prog 3 = some (false, 1) := by kernel_rfl
theorem und3 : Try.prog.underlying 3 = some (.int .i64) := by kernel_rfl
theorem zer3 : zeroV Try.prog 3 = some (.int .i64 0) := by kernel_rfl
theorem lay4 : lay Try.prog 4 = some (false, 1) := by kernel_rfl
theorem und4 : Try.prog.underlying 4 = some .bool := by kernel_rfl
theorem zer4 : zeroV Try.prog 4 = some (.bool false) := by kernel_rfl
theorem lay5 : lay Try.prog 5 = some (false, 1) := by kernel_rfl
theorem und5 : Try.prog.underlying 5 = some (.int .u8) := by kernel_rfl
theorem zer5 : zeroV Try.prog 5 = some (.int .u8 0) := by kernel_rfl
theorem lay9 : lay Try.prog 9 = some (false, 1) := by kernel_rfl
theorem und9 : Try.prog.underlying 9 = some .string := by kernel_rfl
theorem zer9 : zeroV Try.prog 9 = some (.string ⟨#[]⟩) := by kernel_rfl
theorem lay22 : lay Try.prog 22 = some (false, 1) := by kernel_rfl
theorem elZ22 : elZ Try.prog 22 = some (5, 1, 1) := by kernel_rfl
theorem zOk22 : zOk Try.prog 5 1 = true := by kernel_rfl
theorem zer22 : zeroV Try.prog 22 = some (.slice none 0 0) := by kernel_rfl
theorem lay24 : lay Try.prog 24 = some (false, 1) := by kernel_rfl
theorem elZ24 : elZ Try.prog 24 = some (2, 1, 8) := by kernel_rfl
theorem zOk24 : zOk Try.prog 2 1 = true := by kernel_rfl
theorem zer24 : zeroV Try.prog 24 = some (.slice none 0 0) := by kernel_rfl
theorem lay26 : lay Try.prog 26 = some (true, 2) := by kernel_rfl
theorem fld26_0 : fldOff Try.prog 26 0 = some 0 := by kernel_rfl
theorem fla26_0 : fldAt Try.prog 26 0 = some (0, false, 1) := by kernel_rfl
theorem fld26_1 : fldOff Try.prog 26 1 = some 1 := by kernel_rfl
theorem fla26_1 : fldAt Try.prog 26 1 = some (1, false, 1) := by kernel_rfl
theorem str26 : strT Try.prog 26 = some ([.slice none 0 0, .int .i64 0], [(0, 1), (1, 1)]) := by kernel_rfl
theorem zer26 : zeroV Try.prog 26 = some (.agg #[.slice none 0 0, .int .i64 0]) := by kernel_rfl
theorem lay33 : lay Try.prog 33 = some (true, 2) := by kernel_rfl
theorem fld33_0 : fldOff Try.prog 33 0 = some 0 := by kernel_rfl
theorem fla33_0 : fldAt Try.prog 33 0 = some (0, false, 1) := by kernel_rfl
theorem fld33_1 : fldOff Try.prog 33 1 = some 1 := by kernel_rfl
theorem fla33_1 : fldAt Try.prog 33 1 = some (1, false, 1) := by kernel_rfl
theorem str33 : strT Try.prog 33 = some ([.int .i64 0, .slice none 0 0], [(0, 1), (1, 1)]) := by kernel_rfl
theorem zer33 : zeroV Try.prog 33 = some (.agg #[.int .i64 0, .slice none 0 0]) := by kernel_rfl
theorem lay36 : lay Try.prog 36 = some (false, 1) := by kernel_rfl
theorem elZ36 : elZ Try.prog 36 = some (38, 3, 24) := by kernel_rfl
theorem zOk36 : zOk Try.prog 38 3 = true := by kernel_rfl
theorem zer36 : zeroV Try.prog 36 = some (.slice none 0 0) := by kernel_rfl
theorem lay38 : lay Try.prog 38 = some (true, 3) := by kernel_rfl
theorem fld38_0 : fldOff Try.prog 38 0 = some 0 := by kernel_rfl
theorem fla38_0 : fldAt Try.prog 38 0 = some (0, false, 1) := by kernel_rfl
theorem fld38_1 : fldOff Try.prog 38 1 = some 1 := by kernel_rfl
theorem fla38_1 : fldAt Try.prog 38 1 = some (1, false, 1) := by kernel_rfl
theorem fld38_2 : fldOff Try.prog 38 2 = some 2 := by kernel_rfl
theorem fla38_2 : fldAt Try.prog 38 2 = some (2, false, 1) := by kernel_rfl
theorem str38 : strT Try.prog 38 = some ([.int .i64 0, .int .i64 0, .int .i64 0], [(0, 1), (1, 1), (2, 1)]) := by kernel_rfl
theorem zer38 : zeroV Try.prog 38 = some (.agg #[.int .i64 0, .int .i64 0, .int .i64 0]) := by kernel_rfl
theorem lay40 : lay Try.prog 40 = some (false, 1) := by kernel_rfl
theorem elZ40 : elZ Try.prog 40 = some (45, 3, 24) := by kernel_rfl
theorem zOk40 : zOk Try.prog 45 3 = true := by kernel_rfl
theorem zer40 : zeroV Try.prog 40 = some (.slice none 0 0) := by kernel_rfl
theorem lay42 : lay Try.prog 42 = some (true, 2) := by kernel_rfl
theorem fld42_0 : fldOff Try.prog 42 0 = some 0 := by kernel_rfl
theorem fla42_0 : fldAt Try.prog 42 0 = some (0, false, 1) := by kernel_rfl
theorem fld42_1 : fldOff Try.prog 42 1 = some 1 := by kernel_rfl
theorem fla42_1 : fldAt Try.prog 42 1 = some (1, false, 1) := by kernel_rfl
theorem str42 : strT Try.prog 42 = some ([.int .i64 0, .slice none 0 0], [(0, 1), (1, 1)]) := by kernel_rfl
theorem zer42 : zeroV Try.prog 42 = some (.agg #[.int .i64 0, .slice none 0 0]) := by kernel_rfl
theorem lay45 : lay Try.prog 45 = some (true, 3) := by kernel_rfl
theorem fld45_0 : fldOff Try.prog 45 0 = some 0 := by kernel_rfl
theorem fla45_0 : fldAt Try.prog 45 0 = some (0, false, 1) := by kernel_rfl
theorem fld45_1 : fldOff Try.prog 45 1 = some 1 := by kernel_rfl
theorem fla45_1 : fldAt Try.prog 45 1 = some (1, false, 1) := by kernel_rfl
theorem fld45_2 : fldOff Try.prog 45 2 = some 2 := by kernel_rfl
theorem fla45_2 : fldAt Try.prog 45 2 = some (2, false, 1) := by kernel_rfl
theorem str45 : strT Try.prog 45 = some ([.int .i64 0, .int .i64 0, .int .i64 0], [(0, 1), (1, 1), (2, 1)]) := by kernel_rfl
theorem zer45 : zeroV Try.prog 45 = some (.agg #[.int .i64 0, .int .i64 0, .int .i64 0]) := by kernel_rfl
theorem lay52 : lay Try.prog 52 = some (false, 1) := by kernel_rfl
theorem elZ52 : elZ Try.prog 52 = some (9, 1, 16) := by kernel_rfl
theorem zOk52 : zOk Try.prog 9 1 = true := by kernel_rfl
theorem zer52 : zeroV Try.prog 52 = some (.slice none 0 0) := by kernel_rfl
theorem lay53 : lay Try.prog 53 = some (false, 1) := by kernel_rfl
theorem elZ53 : elZ Try.prog 53 = some (161, 2, 16) := by kernel_rfl
theorem zOk53 : zOk Try.prog 161 2 = true := by kernel_rfl
theorem zer53 : zeroV Try.prog 53 = some (.slice none 0 0) := by kernel_rfl
theorem lay55 : lay Try.prog 55 = some (true, 2) := by kernel_rfl
theorem fld55_0 : fldOff Try.prog 55 0 = some 0 := by kernel_rfl
theorem fla55_0 : fldAt Try.prog 55 0 = some (0, false, 1) := by kernel_rfl
theorem fld55_1 : fldOff Try.prog 55 1 = some 1 := by kernel_rfl
theorem fla55_1 : fldAt Try.prog 55 1 = some (1, false, 1) := by kernel_rfl
theorem str55 : strT Try.prog 55 = some ([.slice none 0 0, .slice none 0 0], [(0, 1), (1, 1)]) := by kernel_rfl
theorem zer55 : zeroV Try.prog 55 = some (.agg #[.slice none 0 0, .slice none 0 0]) := by kernel_rfl
theorem lay59 : lay Try.prog 59 = some (true, 4) := by kernel_rfl
theorem fld59_0 : fldOff Try.prog 59 0 = some 0 := by kernel_rfl
theorem fla59_0 : fldAt Try.prog 59 0 = some (0, false, 1) := by kernel_rfl
theorem fld59_1 : fldOff Try.prog 59 1 = some 1 := by kernel_rfl
theorem fla59_1 : fldAt Try.prog 59 1 = some (1, false, 1) := by kernel_rfl
theorem fld59_2 : fldOff Try.prog 59 2 = some 2 := by kernel_rfl
theorem fla59_2 : fldAt Try.prog 59 2 = some (2, true, 2) := by kernel_rfl
theorem str59 : strT Try.prog 59 = some ([.int .i64 0, .int .i64 0, .slice none 0 0, .slice none 0 0], [(0, 1), (1, 1), (2, 2)]) := by kernel_rfl
theorem zer59 : zeroV Try.prog 59 = some (.agg #[.int .i64 0, .int .i64 0, .slice none 0 0, .slice none 0 0]) := by kernel_rfl
theorem lay62 : lay Try.prog 62 = some (true, 2) := by kernel_rfl
theorem fld62_0 : fldOff Try.prog 62 0 = some 0 := by kernel_rfl
theorem fla62_0 : fldAt Try.prog 62 0 = some (0, false, 1) := by kernel_rfl
theorem fld62_1 : fldOff Try.prog 62 1 = some 1 := by kernel_rfl
theorem fla62_1 : fldAt Try.prog 62 1 = some (1, false, 1) := by kernel_rfl
theorem str62 : strT Try.prog 62 = some ([.int .i64 0, .int .i64 0], [(0, 1), (1, 1)]) := by kernel_rfl
theorem zer62 : zeroV Try.prog 62 = some (.agg #[.int .i64 0, .int .i64 0]) := by kernel_rfl
theorem lay65 : lay Try.prog 65 = some (true, 2) := by kernel_rfl
theorem fld65_0 : fldOff Try.prog 65 0 = some 0 := by kernel_rfl
theorem fla65_0 : fldAt Try.prog 65 0 = some (0, false, 1) := by kernel_rfl
theorem fld65_1 : fldOff Try.prog 65 1 = some 1 := by kernel_rfl
theorem fla65_1 : fldAt Try.prog 65 1 = some (1, false, 1) := by kernel_rfl
theorem str65 : strT Try.prog 65 = some ([.int .i64 0, .string ⟨#[]⟩], [(0, 1), (1, 1)]) := by kernel_rfl
theorem zer65 : zeroV Try.prog 65 = some (.agg #[.int .i64 0, .string ⟨#[]⟩]) := by kernel_rfl
theorem lay82 : lay Try.prog 82 = some (false, 1) := by kernel_rfl
theorem elZ82 : elZ Try.prog 82 = some (86, 6, 48) := by kernel_rfl
theorem zOk82 : zOk Try.prog 86 6 = true := by kernel_rfl
theorem zer82 : zeroV Try.prog 82 = some (.slice none 0 0) := by kernel_rfl
theorem lay84 : lay Try.prog 84 = some (true, 2) := by kernel_rfl
theorem fld84_0 : fldOff Try.prog 84 0 = some 0 := by kernel_rfl
theorem fla84_0 : fldAt Try.prog 84 0 = some (0, false, 1) := by kernel_rfl
theorem fld84_1 : fldOff Try.prog 84 1 = some 1 := by kernel_rfl
theorem fla84_1 : fldAt Try.prog 84 1 = some (1, false, 1) := by kernel_rfl
theorem str84 : strT Try.prog 84 = some ([.int .i64 0, .int .i64 0], [(0, 1), (1, 1)]) := by kernel_rfl
theorem zer84 : zeroV Try.prog 84 = some (.agg #[.int .i64 0, .int .i64 0]) := by kernel_rfl
theorem lay86 : lay Try.prog 86 = some (true, 6) := by kernel_rfl
theorem fld86_0 : fldOff Try.prog 86 0 = some 0 := by kernel_rfl
theorem fla86_0 : fldAt Try.prog 86 0 = some (0, false, 1) := by kernel_rfl
theorem fld86_1 : fldOff Try.prog 86 1 = some 1 := by kernel_rfl
theorem fla86_1 : fldAt Try.prog 86 1 = some (1, false, 1) := by kernel_rfl
theorem fld86_2 : fldOff Try.prog 86 2 = some 2 := by kernel_rfl
theorem fla86_2 : fldAt Try.prog 86 2 = some (2, false, 1) := by kernel_rfl
theorem fld86_3 : fldOff Try.prog 86 3 = some 3 := by kernel_rfl
theorem fla86_3 : fldAt Try.prog 86 3 = some (3, true, 2) := by kernel_rfl
theorem fld86_4 : fldOff Try.prog 86 4 = some 5 := by kernel_rfl
theorem fla86_4 : fldAt Try.prog 86 4 = some (5, false, 1) := by kernel_rfl
theorem str86 : strT Try.prog 86 = some ([.int .i64 0, .int .i64 0, .int .i64 0, .int .i64 0, .int .i64 0, .int .i64 0], [(0, 1), (1, 1), (2, 1), (3, 2), (5, 1)]) := by kernel_rfl
theorem zer86 : zeroV Try.prog 86 = some (.agg #[.int .i64 0, .int .i64 0, .int .i64 0, .int .i64 0, .int .i64 0, .int .i64 0]) := by kernel_rfl
theorem lay96 : lay Try.prog 96 = some (false, 1) := by kernel_rfl
theorem elZ96 : elZ Try.prog 96 = some (100, 6, 48) := by kernel_rfl
theorem zOk96 : zOk Try.prog 100 6 = true := by kernel_rfl
theorem zer96 : zeroV Try.prog 96 = some (.slice none 0 0) := by kernel_rfl
theorem lay97 : lay Try.prog 97 = some (true, 2) := by kernel_rfl
theorem fld97_0 : fldOff Try.prog 97 0 = some 0 := by kernel_rfl
theorem fla97_0 : fldAt Try.prog 97 0 = some (0, false, 1) := by kernel_rfl
theorem fld97_1 : fldOff Try.prog 97 1 = some 1 := by kernel_rfl
theorem fla97_1 : fldAt Try.prog 97 1 = some (1, false, 1) := by kernel_rfl
theorem str97 : strT Try.prog 97 = some ([.slice none 0 0, .int .i64 0], [(0, 1), (1, 1)]) := by kernel_rfl
theorem zer97 : zeroV Try.prog 97 = some (.agg #[.slice none 0 0, .int .i64 0]) := by kernel_rfl
theorem lay98 : lay Try.prog 98 = some (true, 2) := by kernel_rfl
theorem fld98_0 : fldOff Try.prog 98 0 = some 0 := by kernel_rfl
theorem fla98_0 : fldAt Try.prog 98 0 = some (0, false, 1) := by kernel_rfl
theorem fld98_1 : fldOff Try.prog 98 1 = some 1 := by kernel_rfl
theorem fla98_1 : fldAt Try.prog 98 1 = some (1, false, 1) := by kernel_rfl
theorem str98 : strT Try.prog 98 = some ([.int .i64 0, .int .i64 0], [(0, 1), (1, 1)]) := by kernel_rfl
theorem zer98 : zeroV Try.prog 98 = some (.agg #[.int .i64 0, .int .i64 0]) := by kernel_rfl
theorem lay100 : lay Try.prog 100 = some (true, 6) := by kernel_rfl
theorem fld100_0 : fldOff Try.prog 100 0 = some 0 := by kernel_rfl
theorem fla100_0 : fldAt Try.prog 100 0 = some (0, false, 1) := by kernel_rfl
theorem fld100_1 : fldOff Try.prog 100 1 = some 1 := by kernel_rfl
theorem fla100_1 : fldAt Try.prog 100 1 = some (1, false, 1) := by kernel_rfl
theorem fld100_2 : fldOff Try.prog 100 2 = some 2 := by kernel_rfl
theorem fla100_2 : fldAt Try.prog 100 2 = some (2, false, 1) := by kernel_rfl
theorem fld100_3 : fldOff Try.prog 100 3 = some 3 := by kernel_rfl
theorem fla100_3 : fldAt Try.prog 100 3 = some (3, true, 2) := by kernel_rfl
theorem fld100_4 : fldOff Try.prog 100 4 = some 5 := by kernel_rfl
theorem fla100_4 : fldAt Try.prog 100 4 = some (5, false, 1) := by kernel_rfl
theorem str100 : strT Try.prog 100 = some ([.int .i64 0, .int .i64 0, .int .i64 0, .int .i64 0, .int .i64 0, .int .i64 0], [(0, 1), (1, 1), (2, 1), (3, 2), (5, 1)]) := by kernel_rfl
theorem zer100 : zeroV Try.prog 100 = some (.agg #[.int .i64 0, .int .i64 0, .int .i64 0, .int .i64 0, .int .i64 0, .int .i64 0]) := by kernel_rfl
theorem lay109 : lay Try.prog 109 = some (false, 1) := by kernel_rfl
theorem elZ109 : elZ Try.prog 109 = some (218, 2, 16) := by kernel_rfl
theorem zOk109 : zOk Try.prog 218 2 = true := by kernel_rfl
theorem zer109 : zeroV Try.prog 109 = some (.slice none 0 0) := by kernel_rfl
theorem lay111 : lay Try.prog 111 = some (true, 2) := by kernel_rfl
theorem fld111_0 : fldOff Try.prog 111 0 = some 0 := by kernel_rfl
theorem fla111_0 : fldAt Try.prog 111 0 = some (0, false, 1) := by kernel_rfl
theorem fld111_1 : fldOff Try.prog 111 1 = some 1 := by kernel_rfl
theorem fla111_1 : fldAt Try.prog 111 1 = some (1, false, 1) := by kernel_rfl
theorem str111 : strT Try.prog 111 = some ([.slice none 0 0, .slice none 0 0], [(0, 1), (1, 1)]) := by kernel_rfl
theorem zer111 : zeroV Try.prog 111 = some (.agg #[.slice none 0 0, .slice none 0 0]) := by kernel_rfl
theorem lay117 : lay Try.prog 117 = some (false, 1) := by kernel_rfl
theorem elZ117 : elZ Try.prog 117 = some (224, 3, 24) := by kernel_rfl
theorem zOk117 : zOk Try.prog 224 3 = true := by kernel_rfl
theorem zer117 : zeroV Try.prog 117 = some (.slice none 0 0) := by kernel_rfl
theorem lay119 : lay Try.prog 119 = some (true, 3) := by kernel_rfl
theorem fld119_0 : fldOff Try.prog 119 0 = some 0 := by kernel_rfl
theorem fla119_0 : fldAt Try.prog 119 0 = some (0, false, 1) := by kernel_rfl
theorem fld119_1 : fldOff Try.prog 119 1 = some 1 := by kernel_rfl
theorem fla119_1 : fldAt Try.prog 119 1 = some (1, false, 1) := by kernel_rfl
theorem fld119_2 : fldOff Try.prog 119 2 = some 2 := by kernel_rfl
theorem fla119_2 : fldAt Try.prog 119 2 = some (2, false, 1) := by kernel_rfl
theorem str119 : strT Try.prog 119 = some ([.int .i64 0, .int .i64 0, .slice none 0 0], [(0, 1), (1, 1), (2, 1)]) := by kernel_rfl
theorem zer119 : zeroV Try.prog 119 = some (.agg #[.int .i64 0, .int .i64 0, .slice none 0 0]) := by kernel_rfl
theorem lay121 : lay Try.prog 121 = some (false, 1) := by kernel_rfl
theorem elZ121 : elZ Try.prog 121 = some (195, 3, 24) := by kernel_rfl
theorem zOk121 : zOk Try.prog 195 3 = true := by kernel_rfl
theorem zer121 : zeroV Try.prog 121 = some (.slice none 0 0) := by kernel_rfl
theorem lay123 : lay Try.prog 123 = some (true, 3) := by kernel_rfl
theorem fld123_0 : fldOff Try.prog 123 0 = some 0 := by kernel_rfl
theorem fla123_0 : fldAt Try.prog 123 0 = some (0, false, 1) := by kernel_rfl
theorem fld123_1 : fldOff Try.prog 123 1 = some 1 := by kernel_rfl
theorem fla123_1 : fldAt Try.prog 123 1 = some (1, false, 1) := by kernel_rfl
theorem fld123_2 : fldOff Try.prog 123 2 = some 2 := by kernel_rfl
theorem fla123_2 : fldAt Try.prog 123 2 = some (2, false, 1) := by kernel_rfl
theorem str123 : strT Try.prog 123 = some ([.int .i64 0, .int .i64 0, .slice none 0 0], [(0, 1), (1, 1), (2, 1)]) := by kernel_rfl
theorem zer123 : zeroV Try.prog 123 = some (.agg #[.int .i64 0, .int .i64 0, .slice none 0 0]) := by kernel_rfl
theorem lay125 : lay Try.prog 125 = some (true, 10) := by kernel_rfl
theorem fld125_0 : fldOff Try.prog 125 0 = some 0 := by kernel_rfl
theorem fla125_0 : fldAt Try.prog 125 0 = some (0, false, 1) := by kernel_rfl
theorem fld125_1 : fldOff Try.prog 125 1 = some 1 := by kernel_rfl
theorem fla125_1 : fldAt Try.prog 125 1 = some (1, true, 6) := by kernel_rfl
theorem fld125_2 : fldOff Try.prog 125 2 = some 7 := by kernel_rfl
theorem fla125_2 : fldAt Try.prog 125 2 = some (7, true, 3) := by kernel_rfl
theorem str125 : strT Try.prog 125 = some ([.int .i64 0, .int .i64 0, .int .i64 0, .int .i64 0, .int .i64 0, .int .i64 0, .int .i64 0, .int .i64 0, .int .i64 0, .slice none 0 0], [(0, 1), (1, 6), (7, 3)]) := by kernel_rfl
theorem zer125 : zeroV Try.prog 125 = some (.agg #[.int .i64 0, .int .i64 0, .int .i64 0, .int .i64 0, .int .i64 0, .int .i64 0, .int .i64 0, .int .i64 0, .int .i64 0, .slice none 0 0]) := by kernel_rfl
theorem lay161 : lay Try.prog 161 = some (true, 2) := by kernel_rfl
theorem fld161_0 : fldOff Try.prog 161 0 = some 0 := by kernel_rfl
theorem fla161_0 : fldAt Try.prog 161 0 = some (0, false, 1) := by kernel_rfl
theorem fld161_1 : fldOff Try.prog 161 1 = some 1 := by kernel_rfl
theorem fla161_1 : fldAt Try.prog 161 1 = some (1, false, 1) := by kernel_rfl
theorem str161 : strT Try.prog 161 = some ([.int .i64 0, .int .i64 0], [(0, 1), (1, 1)]) := by kernel_rfl
theorem zer161 : zeroV Try.prog 161 = some (.agg #[.int .i64 0, .int .i64 0]) := by kernel_rfl
theorem lay195 : lay Try.prog 195 = some (true, 3) := by kernel_rfl
theorem fld195_0 : fldOff Try.prog 195 0 = some 0 := by kernel_rfl
theorem fla195_0 : fldAt Try.prog 195 0 = some (0, true, 2) := by kernel_rfl
theorem fld195_1 : fldOff Try.prog 195 1 = some 2 := by kernel_rfl
theorem fla195_1 : fldAt Try.prog 195 1 = some (2, false, 1) := by kernel_rfl
theorem str195 : strT Try.prog 195 = some ([.int .i64 0, .int .i64 0, .int .i64 0], [(0, 2), (2, 1)]) := by kernel_rfl
theorem zer195 : zeroV Try.prog 195 = some (.agg #[.int .i64 0, .int .i64 0, .int .i64 0]) := by kernel_rfl
theorem lay203 : lay Try.prog 203 = some (true, 2) := by kernel_rfl
theorem fld203_0 : fldOff Try.prog 203 0 = some 0 := by kernel_rfl
theorem fla203_0 : fldAt Try.prog 203 0 = some (0, false, 1) := by kernel_rfl
theorem fld203_1 : fldOff Try.prog 203 1 = some 1 := by kernel_rfl
theorem fla203_1 : fldAt Try.prog 203 1 = some (1, false, 1) := by kernel_rfl
theorem str203 : strT Try.prog 203 = some ([.slice none 0 0, .int .i64 0], [(0, 1), (1, 1)]) := by kernel_rfl
theorem zer203 : zeroV Try.prog 203 = some (.agg #[.slice none 0 0, .int .i64 0]) := by kernel_rfl
theorem lay218 : lay Try.prog 218 = some (true, 2) := by kernel_rfl
theorem fld218_0 : fldOff Try.prog 218 0 = some 0 := by kernel_rfl
theorem fla218_0 : fldAt Try.prog 218 0 = some (0, false, 1) := by kernel_rfl
theorem fld218_1 : fldOff Try.prog 218 1 = some 1 := by kernel_rfl
theorem fla218_1 : fldAt Try.prog 218 1 = some (1, false, 1) := by kernel_rfl
theorem str218 : strT Try.prog 218 = some ([.int .i64 0, .int .i64 0], [(0, 1), (1, 1)]) := by kernel_rfl
theorem zer218 : zeroV Try.prog 218 = some (.agg #[.int .i64 0, .int .i64 0]) := by kernel_rfl
theorem lay224 : lay Try.prog 224 = some (true, 3) := by kernel_rfl
theorem fld224_0 : fldOff Try.prog 224 0 = some 0 := by kernel_rfl
theorem fla224_0 : fldAt Try.prog 224 0 = some (0, true, 2) := by kernel_rfl
theorem fld224_1 : fldOff Try.prog 224 1 = some 2 := by kernel_rfl
theorem fla224_1 : fldAt Try.prog 224 1 = some (2, false, 1) := by kernel_rfl
theorem str224 : strT Try.prog 224 = some ([.int .i64 0, .int .i64 0, .int .i64 0], [(0, 2), (2, 1)]) := by kernel_rfl
theorem zer224 : zeroV Try.prog 224 = some (.agg #[.int .i64 0, .int .i64 0, .int .i64 0]) := by kernel_rfl
theorem eqA161 (d : Nat) (w : World) (a_0 : Int) (a_1 : Int) (b_0 : Int) (b_1 : Int) : (Op.equalIn (d + 2) 161 (.agg #[.int .i64 a_0, .int .i64 a_1]) (.agg #[.int .i64 b_0, .int .i64 b_1])).run Try.prog w = .ok ((a_0 == b_0) && (a_1 == b_1)) w := by
  refine eqs_of Try.underlying161 (by kernel_rfl) ?_
  refine eqf_more (by rfl) (by go_simp; try rfl) (by go_simp; try rfl) (by go_simp) ?_
  exact eqf_one (by rfl) (by go_simp; try rfl) (by go_simp; try rfl) (by go_simp)
theorem eql161 (xo yo : Operand) (a_0 : Int) (a_1 : Int) (b_0 : Int) (b_1 : Int) : binS Try.prog .eql 161 xo yo (.agg #[.int .i64 a_0, .int .i64 a_1]) (.agg #[.int .i64 b_0, .int .i64 b_1]) = some (.bool (((a_0 == b_0) && (a_1 == b_1)))) := eql_of 2 (by decide) (by simp [pureV, flatV]) (by simp [pureV, flatV]) (by kernel_rfl) fun d w => eqA161 d w _ _ _ _
theorem neq161 (xo yo : Operand) (a_0 : Int) (a_1 : Int) (b_0 : Int) (b_1 : Int) : binS Try.prog .neq 161 xo yo (.agg #[.int .i64 a_0, .int .i64 a_1]) (.agg #[.int .i64 b_0, .int .i64 b_1]) = some (.bool (!((a_0 == b_0) && (a_1 == b_1)))) := neq_of 2 (by decide) (by simp [pureV, flatV]) (by simp [pureV, flatV]) (by kernel_rfl) fun d w => eqA161 d w _ _ _ _
theorem eqA84 (d : Nat) (w : World) (a_0 : Int) (a_1 : Int) (b_0 : Int) (b_1 : Int) : (Op.equalIn (d + 2) 84 (.agg #[.int .i64 a_0, .int .i64 a_1]) (.agg #[.int .i64 b_0, .int .i64 b_1])).run Try.prog w = .ok ((a_0 == b_0) && (a_1 == b_1)) w := by
  refine eqs_of Try.underlying84 (by kernel_rfl) ?_
  refine eqf_more (by rfl) (by go_simp; try rfl) (by go_simp; try rfl) (by go_simp) ?_
  exact eqf_one (by rfl) (by go_simp; try rfl) (by go_simp; try rfl) (by go_simp)
theorem eql84 (xo yo : Operand) (a_0 : Int) (a_1 : Int) (b_0 : Int) (b_1 : Int) : binS Try.prog .eql 84 xo yo (.agg #[.int .i64 a_0, .int .i64 a_1]) (.agg #[.int .i64 b_0, .int .i64 b_1]) = some (.bool (((a_0 == b_0) && (a_1 == b_1)))) := eql_of 2 (by decide) (by simp [pureV, flatV]) (by simp [pureV, flatV]) (by kernel_rfl) fun d w => eqA84 d w _ _ _ _
theorem neq84 (xo yo : Operand) (a_0 : Int) (a_1 : Int) (b_0 : Int) (b_1 : Int) : binS Try.prog .neq 84 xo yo (.agg #[.int .i64 a_0, .int .i64 a_1]) (.agg #[.int .i64 b_0, .int .i64 b_1]) = some (.bool (!((a_0 == b_0) && (a_1 == b_1)))) := neq_of 2 (by decide) (by simp [pureV, flatV]) (by simp [pureV, flatV]) (by kernel_rfl) fun d w => eqA84 d w _ _ _ _
theorem eqA86 (d : Nat) (w : World) (a_0 : Int) (a_1 : Int) (a_2 : Int) (a_3_0 : Int) (a_3_1 : Int) (a_4 : Int) (b_0 : Int) (b_1 : Int) (b_2 : Int) (b_3_0 : Int) (b_3_1 : Int) (b_4 : Int) : (Op.equalIn (d + 3) 86 (.agg #[.int .i64 a_0, .int .i64 a_1, .int .i64 a_2, .int .i64 a_3_0, .int .i64 a_3_1, .int .i64 a_4]) (.agg #[.int .i64 b_0, .int .i64 b_1, .int .i64 b_2, .int .i64 b_3_0, .int .i64 b_3_1, .int .i64 b_4])).run Try.prog w = .ok ((a_0 == b_0) && ((a_1 == b_1) && ((a_2 == b_2) && (((a_3_0 == b_3_0) && (a_3_1 == b_3_1)) && (a_4 == b_4))))) w := by
  refine eqs_of Try.underlying86 (by kernel_rfl) ?_
  refine eqf_more (by rfl) (by go_simp; try rfl) (by go_simp; try rfl) (by go_simp) ?_
  refine eqf_more (by rfl) (by go_simp; try rfl) (by go_simp; try rfl) (by go_simp) ?_
  refine eqf_more (by rfl) (by go_simp; try rfl) (by go_simp; try rfl) (by go_simp) ?_
  refine eqf_more (by rfl) (by go_simp; try rfl) (by go_simp; try rfl) (eqA84 (d + 0) _ _ _ _ _) ?_
  exact eqf_one (by rfl) (by go_simp; try rfl) (by go_simp; try rfl) (by go_simp)
theorem eql86 (xo yo : Operand) (a_0 : Int) (a_1 : Int) (a_2 : Int) (a_3_0 : Int) (a_3_1 : Int) (a_4 : Int) (b_0 : Int) (b_1 : Int) (b_2 : Int) (b_3_0 : Int) (b_3_1 : Int) (b_4 : Int) : binS Try.prog .eql 86 xo yo (.agg #[.int .i64 a_0, .int .i64 a_1, .int .i64 a_2, .int .i64 a_3_0, .int .i64 a_3_1, .int .i64 a_4]) (.agg #[.int .i64 b_0, .int .i64 b_1, .int .i64 b_2, .int .i64 b_3_0, .int .i64 b_3_1, .int .i64 b_4]) = some (.bool (((a_0 == b_0) && ((a_1 == b_1) && ((a_2 == b_2) && (((a_3_0 == b_3_0) && (a_3_1 == b_3_1)) && (a_4 == b_4))))))) := eql_of 3 (by decide) (by simp [pureV, flatV]) (by simp [pureV, flatV]) (by kernel_rfl) fun d w => eqA86 d w _ _ _ _ _ _ _ _ _ _ _ _
theorem neq86 (xo yo : Operand) (a_0 : Int) (a_1 : Int) (a_2 : Int) (a_3_0 : Int) (a_3_1 : Int) (a_4 : Int) (b_0 : Int) (b_1 : Int) (b_2 : Int) (b_3_0 : Int) (b_3_1 : Int) (b_4 : Int) : binS Try.prog .neq 86 xo yo (.agg #[.int .i64 a_0, .int .i64 a_1, .int .i64 a_2, .int .i64 a_3_0, .int .i64 a_3_1, .int .i64 a_4]) (.agg #[.int .i64 b_0, .int .i64 b_1, .int .i64 b_2, .int .i64 b_3_0, .int .i64 b_3_1, .int .i64 b_4]) = some (.bool (!((a_0 == b_0) && ((a_1 == b_1) && ((a_2 == b_2) && (((a_3_0 == b_3_0) && (a_3_1 == b_3_1)) && (a_4 == b_4))))))) := neq_of 3 (by decide) (by simp [pureV, flatV]) (by simp [pureV, flatV]) (by kernel_rfl) fun d w => eqA86 d w _ _ _ _ _ _ _ _ _ _ _ _
theorem tys : type_of% (And.intro (And.intro (And.intro (And.intro (And.intro (And.intro (And.intro (@lay2) (And.intro (@und2) (@zer2))) (And.intro (And.intro (@lay3) (@und3)) (And.intro (@zer3) (@lay4)))) (And.intro (And.intro (And.intro (@und4) (@zer4)) (And.intro (@lay5) (@und5))) (And.intro (And.intro (@zer5) (@lay9)) (And.intro (@und9) (@zer9))))) (And.intro (And.intro (And.intro (And.intro (@lay22) (@elZ22)) (And.intro (@zOk22) (@zer22))) (And.intro (And.intro (@lay24) (@elZ24)) (And.intro (@zOk24) (@zer24)))) (And.intro (And.intro (And.intro (@lay26) (@fld26_0)) (And.intro (@fla26_0) (@fld26_1))) (And.intro (And.intro (@fla26_1) (@str26)) (And.intro (@zer26) (@lay33)))))) (And.intro (And.intro (And.intro (And.intro (@fld33_0) (And.intro (@fla33_0) (@fld33_1))) (And.intro (And.intro (@fla33_1) (@str33)) (And.intro (@zer33) (@lay36)))) (And.intro (And.intro (And.intro (@elZ36) (@zOk36)) (And.intro (@zer36) (@lay38))) (And.intro (And.intro (@fld38_0) (@fla38_0)) (And.intro (@fld38_1) (@fla38_1))))) (And.intro (And.intro (And.intro (And.intro (@fld38_2) (@fla38_2)) (And.intro (@str38) (@zer38))) (And.intro (And.intro (@lay40) (@elZ40)) (And.intro (@zOk40) (@zer40)))) (And.intro (And.intro (And.intro (@lay42) (@fld42_0)) (And.intro (@fla42_0) (@fld42_1))) (And.intro (And.intro (@fla42_1) (@str42)) (And.intro (@zer42) (@lay45))))))) (And.intro (And.intro (And.intro (And.intro (And.intro (@fld45_0) (And.intro (@fla45_0) (@fld45_1))) (And.intro (And.intro (@fla45_1) (@fld45_2)) (And.intro (@fla45_2) (@str45)))) (And.intro (And.intro (And.intro (@zer45) (@lay52)) (And.intro (@elZ52) (@zOk52))) (And.intro (And.intro (@zer52) (@lay53)) (And.intro (@elZ53) (@zOk53))))) (And.intro (And.intro (And.intro (And.intro (@zer53) (@lay55)) (And.intro (@fld55_0) (@fla55_0))) (And.intro (And.intro (@fld55_1) (@fla55_1)) (And.intro (@str55) (@zer55)))) (And.intro (And.intro (And.intro (@lay59) (@fld59_0)) (And.intro (@fla59_0) (@fld59_1))) (And.intro (And.intro (@fla59_1) (@fld59_2)) (And.intro (@fla59_2) (@str59)))))) (And.intro (And.intro (And.intro (And.intro (And.intro (@zer59) (@lay62)) (And.intro (@fld62_0) (@fla62_0))) (And.intro (And.intro (@fld62_1) (@fla62_1)) (And.intro (@str62) (@zer62)))) (And.intro (And.intro (And.intro (@lay65) (@fld65_0)) (And.intro (@fla65_0) (@fld65_1))) (And.intro (And.intro (@fla65_1) (@str65)) (And.intro (@zer65) (@lay82))))) (And.intro (And.intro (And.intro (And.intro (@elZ82) (@zOk82)) (And.intro (@zer82) (@lay84))) (And.intro (And.intro (@fld84_0) (@fla84_0)) (And.intro (@fld84_1) (@fla84_1)))) (And.intro (And.intro (And.intro (@str84) (@zer84)) (And.intro (@lay86) (@fld86_0))) (And.intro (And.intro (@fla86_0) (@fld86_1)) (And.intro (@fla86_1) (@fld86_2)))))))) (And.intro (And.intro (And.intro (And.intro (And.intro (And.intro (@fla86_2) (And.intro (@fld86_3) (@fla86_3))) (And.intro (And.intro (@fld86_4) (@fla86_4)) (And.intro (@str86) (@zer86)))) (And.intro (And.intro (And.intro (@lay96) (@elZ96)) (And.intro (@zOk96) (@zer96))) (And.intro (And.intro (@lay97) (@fld97_0)) (And.intro (@fla97_0) (@fld97_1))))) (And.intro (And.intro (And.intro (And.intro (@fla97_1) (@str97)) (And.intro (@zer97) (@lay98))) (And.intro (And.intro (@fld98_0) (@fla98_0)) (And.intro (@fld98_1) (@fla98_1)))) (And.intro (And.intro (And.intro (@str98) (@zer98)) (And.intro (@lay100) (@fld100_0))) (And.intro (And.intro (@fla100_0) (@fld100_1)) (And.intro (@fla100_1) (@fld100_2)))))) (And.intro (And.intro (And.intro (And.intro (@fla100_2) (And.intro (@fld100_3) (@fla100_3))) (And.intro (And.intro (@fld100_4) (@fla100_4)) (And.intro (@str100) (@zer100)))) (And.intro (And.intro (And.intro (@lay109) (@elZ109)) (And.intro (@zOk109) (@zer109))) (And.intro (And.intro (@lay111) (@fld111_0)) (And.intro (@fla111_0) (@fld111_1))))) (And.intro (And.intro (And.intro (And.intro (@fla111_1) (@str111)) (And.intro (@zer111) (@lay117))) (And.intro (And.intro (@elZ117) (@zOk117)) (And.intro (@zer117) (@lay119)))) (And.intro (And.intro (And.intro (@fld119_0) (@fla119_0)) (And.intro (@fld119_1) (@fla119_1))) (And.intro (And.intro (@fld119_2) (@fla119_2)) (And.intro (@str119) (@zer119))))))) (And.intro (And.intro (And.intro (And.intro (And.intro (@lay121) (And.intro (@elZ121) (@zOk121))) (And.intro (And.intro (@zer121) (@lay123)) (And.intro (@fld123_0) (@fla123_0)))) (And.intro (And.intro (And.intro (@fld123_1) (@fla123_1)) (And.intro (@fld123_2) (@fla123_2))) (And.intro (And.intro (@str123) (@zer123)) (And.intro (@lay125) (@fld125_0))))) (And.intro (And.intro (And.intro (And.intro (@fla125_0) (@fld125_1)) (And.intro (@fla125_1) (@fld125_2))) (And.intro (And.intro (@fla125_2) (@str125)) (And.intro (@zer125) (@lay161)))) (And.intro (And.intro (And.intro (@fld161_0) (@fla161_0)) (And.intro (@fld161_1) (@fla161_1))) (And.intro (And.intro (@str161) (@zer161)) (And.intro (@lay195) (@fld195_0)))))) (And.intro (And.intro (And.intro (And.intro (And.intro (@fla195_0) (@fld195_1)) (And.intro (@fla195_1) (@str195))) (And.intro (And.intro (@zer195) (@lay203)) (And.intro (@fld203_0) (@fla203_0)))) (And.intro (And.intro (And.intro (@fld203_1) (@fla203_1)) (And.intro (@str203) (@zer203))) (And.intro (And.intro (@lay218) (@fld218_0)) (And.intro (@fla218_0) (@fld218_1))))) (And.intro (And.intro (And.intro (And.intro (@fla218_1) (@str218)) (And.intro (@zer218) (@lay224))) (And.intro (And.intro (@fld224_0) (@fla224_0)) (And.intro (@fld224_1) (@fla224_1)))) (And.intro (And.intro (And.intro (@str224) (@zer224)) (And.intro (@eql161) (@neq161))) (And.intro (And.intro (@eql84) (@neq84)) (And.intro (@eql86) (@neq86))))))))) := And.intro (And.intro (And.intro (And.intro (And.intro (And.intro (And.intro (@lay2) (And.intro (@und2) (@zer2))) (And.intro (And.intro (@lay3) (@und3)) (And.intro (@zer3) (@lay4)))) (And.intro (And.intro (And.intro (@und4) (@zer4)) (And.intro (@lay5) (@und5))) (And.intro (And.intro (@zer5) (@lay9)) (And.intro (@und9) (@zer9))))) (And.intro (And.intro (And.intro (And.intro (@lay22) (@elZ22)) (And.intro (@zOk22) (@zer22))) (And.intro (And.intro (@lay24) (@elZ24)) (And.intro (@zOk24) (@zer24)))) (And.intro (And.intro (And.intro (@lay26) (@fld26_0)) (And.intro (@fla26_0) (@fld26_1))) (And.intro (And.intro (@fla26_1) (@str26)) (And.intro (@zer26) (@lay33)))))) (And.intro (And.intro (And.intro (And.intro (@fld33_0) (And.intro (@fla33_0) (@fld33_1))) (And.intro (And.intro (@fla33_1) (@str33)) (And.intro (@zer33) (@lay36)))) (And.intro (And.intro (And.intro (@elZ36) (@zOk36)) (And.intro (@zer36) (@lay38))) (And.intro (And.intro (@fld38_0) (@fla38_0)) (And.intro (@fld38_1) (@fla38_1))))) (And.intro (And.intro (And.intro (And.intro (@fld38_2) (@fla38_2)) (And.intro (@str38) (@zer38))) (And.intro (And.intro (@lay40) (@elZ40)) (And.intro (@zOk40) (@zer40)))) (And.intro (And.intro (And.intro (@lay42) (@fld42_0)) (And.intro (@fla42_0) (@fld42_1))) (And.intro (And.intro (@fla42_1) (@str42)) (And.intro (@zer42) (@lay45))))))) (And.intro (And.intro (And.intro (And.intro (And.intro (@fld45_0) (And.intro (@fla45_0) (@fld45_1))) (And.intro (And.intro (@fla45_1) (@fld45_2)) (And.intro (@fla45_2) (@str45)))) (And.intro (And.intro (And.intro (@zer45) (@lay52)) (And.intro (@elZ52) (@zOk52))) (And.intro (And.intro (@zer52) (@lay53)) (And.intro (@elZ53) (@zOk53))))) (And.intro (And.intro (And.intro (And.intro (@zer53) (@lay55)) (And.intro (@fld55_0) (@fla55_0))) (And.intro (And.intro (@fld55_1) (@fla55_1)) (And.intro (@str55) (@zer55)))) (And.intro (And.intro (And.intro (@lay59) (@fld59_0)) (And.intro (@fla59_0) (@fld59_1))) (And.intro (And.intro (@fla59_1) (@fld59_2)) (And.intro (@fla59_2) (@str59)))))) (And.intro (And.intro (And.intro (And.intro (And.intro (@zer59) (@lay62)) (And.intro (@fld62_0) (@fla62_0))) (And.intro (And.intro (@fld62_1) (@fla62_1)) (And.intro (@str62) (@zer62)))) (And.intro (And.intro (And.intro (@lay65) (@fld65_0)) (And.intro (@fla65_0) (@fld65_1))) (And.intro (And.intro (@fla65_1) (@str65)) (And.intro (@zer65) (@lay82))))) (And.intro (And.intro (And.intro (And.intro (@elZ82) (@zOk82)) (And.intro (@zer82) (@lay84))) (And.intro (And.intro (@fld84_0) (@fla84_0)) (And.intro (@fld84_1) (@fla84_1)))) (And.intro (And.intro (And.intro (@str84) (@zer84)) (And.intro (@lay86) (@fld86_0))) (And.intro (And.intro (@fla86_0) (@fld86_1)) (And.intro (@fla86_1) (@fld86_2)))))))) (And.intro (And.intro (And.intro (And.intro (And.intro (And.intro (@fla86_2) (And.intro (@fld86_3) (@fla86_3))) (And.intro (And.intro (@fld86_4) (@fla86_4)) (And.intro (@str86) (@zer86)))) (And.intro (And.intro (And.intro (@lay96) (@elZ96)) (And.intro (@zOk96) (@zer96))) (And.intro (And.intro (@lay97) (@fld97_0)) (And.intro (@fla97_0) (@fld97_1))))) (And.intro (And.intro (And.intro (And.intro (@fla97_1) (@str97)) (And.intro (@zer97) (@lay98))) (And.intro (And.intro (@fld98_0) (@fla98_0)) (And.intro (@fld98_1) (@fla98_1)))) (And.intro (And.intro (And.intro (@str98) (@zer98)) (And.intro (@lay100) (@fld100_0))) (And.intro (And.intro (@fla100_0) (@fld100_1)) (And.intro (@fla100_1) (@fld100_2)))))) (And.intro (And.intro (And.intro (And.intro (@fla100_2) (And.intro (@fld100_3) (@fla100_3))) (And.intro (And.intro (@fld100_4) (@fla100_4)) (And.intro (@str100) (@zer100)))) (And.intro (And.intro (And.intro (@lay109) (@elZ109)) (And.intro (@zOk109) (@zer109))) (And.intro (And.intro (@lay111) (@fld111_0)) (And.intro (@fla111_0) (@fld111_1))))) (And.intro (And.intro (And.intro (And.intro (@fla111_1) (@str111)) (And.intro (@zer111) (@lay117))) (And.intro (And.intro (@elZ117) (@zOk117)) (And.intro (@zer117) (@lay119)))) (And.intro (And.intro (And.intro (@fld119_0) (@fla119_0)) (And.intro (@fld119_1) (@fla119_1))) (And.intro (And.intro (@fld119_2) (@fla119_2)) (And.intro (@str119) (@zer119))))))) (And.intro (And.intro (And.intro (And.intro (And.intro (@lay121) (And.intro (@elZ121) (@zOk121))) (And.intro (And.intro (@zer121) (@lay123)) (And.intro (@fld123_0) (@fla123_0)))) (And.intro (And.intro (And.intro (@fld123_1) (@fla123_1)) (And.intro (@fld123_2) (@fla123_2))) (And.intro (And.intro (@str123) (@zer123)) (And.intro (@lay125) (@fld125_0))))) (And.intro (And.intro (And.intro (And.intro (@fla125_0) (@fld125_1)) (And.intro (@fla125_1) (@fld125_2))) (And.intro (And.intro (@fla125_2) (@str125)) (And.intro (@zer125) (@lay161)))) (And.intro (And.intro (And.intro (@fld161_0) (@fla161_0)) (And.intro (@fld161_1) (@fla161_1))) (And.intro (And.intro (@str161) (@zer161)) (And.intro (@lay195) (@fld195_0)))))) (And.intro (And.intro (And.intro (And.intro (And.intro (@fla195_0) (@fld195_1)) (And.intro (@fla195_1) (@str195))) (And.intro (And.intro (@zer195) (@lay203)) (And.intro (@fld203_0) (@fla203_0)))) (And.intro (And.intro (And.intro (@fld203_1) (@fla203_1)) (And.intro (@str203) (@zer203))) (And.intro (And.intro (@lay218) (@fld218_0)) (And.intro (@fla218_0) (@fld218_1))))) (And.intro (And.intro (And.intro (And.intro (@fla218_1) (@str218)) (And.intro (@zer218) (@lay224))) (And.intro (And.intro (@fld224_0) (@fla224_0)) (And.intro (@fld224_1) (@fla224_1)))) (And.intro (And.intro (And.intro (@str224) (@zer224)) (And.intro (@eql161) (@neq161))) (And.intro (And.intro (@eql84) (@neq84)) (And.intro (@eql86) (@neq86))))))))
end Go.BM
