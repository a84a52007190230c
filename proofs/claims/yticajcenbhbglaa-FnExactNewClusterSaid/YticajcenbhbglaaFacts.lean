/- Facts on the types of the program, by the kernel. -/
import Derived.Test.YticajcenbhbglaaProg
import Derived.Test.YticajcenbhbglaaC19
import Derived.KernelRfl
namespace Go.BM
open Go.Proofs
theorem lay2 : lay Try.prog 2 = some (false, 1) := by kernel_rfl
theorem und2 : Try.prog.underlying 2 = some (.int .i64) := by kernel_rfl
theorem zer2 : zeroV Try.prog 2 = some (.int .i64 0) := by kernel_rfl
theorem lay3 : lay Try.prog 3 = some (false, 1) := by kernel_rfl
theorem und3 : Try.prog.underlying 3 = some (.int .i64) := by kernel_rfl
theorem zer3 : zeroV Try.prog 3 = some (.int .i64 0) := by kernel_rfl
theorem lay4 : lay Try.prog 4 = some (false, 1) := by kernel_rfl
theorem und4 : Try.prog.underlying 4 = some .bool := by kernel_rfl
theorem zer4 : zeroV Try.prog 4 = some (.bool false) := by kernel_rfl
theorem lay5 : lay Try.prog 5 = some (false, 1) := by kernel_rfl
theorem und5 : Try.prog.underlying 5 = some (.int .u8) := by kernel_rfl
theorem zer5 : zeroV Try.prog 5 = some (.int .u8 0) := by kernel_rfl
theorem lay9 : lay Try.prog 9 = some (false, 1) := by kernel_rfl
theorem und9 : Try.prog.underlying 9 = some .string := by kernel_rfl
theorem zer9 : zeroV Try.prog 9 = some (.string ⟨#[]⟩) := by kernel_rfl
theorem lay22 : lay Try.prog 22 = some (false, 1) := by kernel_rfl
theorem elZ22 : elZ Try.prog 22 = some (2, 1, 8) := by kernel_rfl
theorem zOk22 : zOk Try.prog 2 1 = true := by kernel_rfl
theorem zer22 : zeroV Try.prog 22 = some (.slice none 0 0) := by kernel_rfl
theorem lay24 : lay Try.prog 24 = some (true, 2) := by kernel_rfl
theorem fld24_0 : fldOff Try.prog 24 0 = some 0 := by kernel_rfl
theorem fla24_0 : fldAt Try.prog 24 0 = some (0, false, 1) := by kernel_rfl
theorem fld24_1 : fldOff Try.prog 24 1 = some 1 := by kernel_rfl
theorem fla24_1 : fldAt Try.prog 24 1 = some (1, false, 1) := by kernel_rfl
theorem str24 : strT Try.prog 24 = some ([.slice none 0 0, .int .i64 0], [(0, 1), (1, 1)]) := by kernel_rfl
theorem zer24 : zeroV Try.prog 24 = some (.agg #[.slice none 0 0, .int .i64 0]) := by kernel_rfl
theorem lay26 : lay Try.prog 26 = some (true, 2) := by kernel_rfl
theorem fld26_0 : fldOff Try.prog 26 0 = some 0 := by kernel_rfl
theorem fla26_0 : fldAt Try.prog 26 0 = some (0, false, 1) := by kernel_rfl
theorem fld26_1 : fldOff Try.prog 26 1 = some 1 := by kernel_rfl
theorem fla26_1 : fldAt Try.prog 26 1 = some (1, false, 1) := by kernel_rfl
theorem str26 : strT Try.prog 26 = some ([.slice none 0 0, .int .i64 0], [(0, 1), (1, 1)]) := by kernel_rfl
theorem zer26 : zeroV Try.prog 26 = some (.agg #[.slice none 0 0, .int .i64 0]) := by kernel_rfl
theorem lay27 : lay Try.prog 27 = some (false, 1) := by kernel_rfl
theorem elZ27 : elZ Try.prog 27 = some (93, 3, 24) := by kernel_rfl
theorem zOk27 : zOk Try.prog 93 3 = true := by kernel_rfl
theorem zer27 : zeroV Try.prog 27 = some (.slice none 0 0) := by kernel_rfl
theorem lay28 : lay Try.prog 28 = some (false, 1) := by kernel_rfl
theorem elZ28 : elZ Try.prog 28 = some (53, 3, 40) := by kernel_rfl
theorem zOk28 : zOk Try.prog 53 3 = true := by kernel_rfl
theorem zer28 : zeroV Try.prog 28 = some (.slice none 0 0) := by kernel_rfl
theorem lay29 : lay Try.prog 29 = some (false, 1) := by kernel_rfl
theorem elZ29 : elZ Try.prog 29 = some (99, 6, 48) := by kernel_rfl
theorem zOk29 : zOk Try.prog 99 6 = true := by kernel_rfl
theorem zer29 : zeroV Try.prog 29 = some (.slice none 0 0) := by kernel_rfl
theorem lay30 : lay Try.prog 30 = some (false, 1) := by kernel_rfl
theorem elZ30 : elZ Try.prog 30 = some (22, 1, 24) := by kernel_rfl
theorem zOk30 : zOk Try.prog 22 1 = true := by kernel_rfl
theorem zer30 : zeroV Try.prog 30 = some (.slice none 0 0) := by kernel_rfl
theorem lay32 : lay Try.prog 32 = some (true, 7) := by kernel_rfl
theorem fld32_0 : fldOff Try.prog 32 0 = some 0 := by kernel_rfl
theorem fla32_0 : fldAt Try.prog 32 0 = some (0, true, 2) := by kernel_rfl
theorem fld32_1 : fldOff Try.prog 32 1 = some 2 := by kernel_rfl
theorem fla32_1 : fldAt Try.prog 32 1 = some (2, false, 1) := by kernel_rfl
theorem fld32_2 : fldOff Try.prog 32 2 = some 3 := by kernel_rfl
theorem fla32_2 : fldAt Try.prog 32 2 = some (3, false, 1) := by kernel_rfl
theorem fld32_3 : fldOff Try.prog 32 3 = some 4 := by kernel_rfl
theorem fla32_3 : fldAt Try.prog 32 3 = some (4, false, 1) := by kernel_rfl
theorem fld32_4 : fldOff Try.prog 32 4 = some 5 := by kernel_rfl
theorem fla32_4 : fldAt Try.prog 32 4 = some (5, false, 1) := by kernel_rfl
theorem fld32_5 : fldOff Try.prog 32 5 = some 6 := by kernel_rfl
theorem fla32_5 : fldAt Try.prog 32 5 = some (6, false, 1) := by kernel_rfl
theorem str32 : strT Try.prog 32 = some ([.slice none 0 0, .int .i64 0, .slice none 0 0, .slice none 0 0, .slice none 0 0, .slice none 0 0, .slice none 0 0], [(0, 2), (2, 1), (3, 1), (4, 1), (5, 1), (6, 1)]) := by kernel_rfl
theorem zer32 : zeroV Try.prog 32 = some (.agg #[.slice none 0 0, .int .i64 0, .slice none 0 0, .slice none 0 0, .slice none 0 0, .slice none 0 0, .slice none 0 0]) := by kernel_rfl
theorem lay34 : lay Try.prog 34 = some (true, 8) := by kernel_rfl
theorem fld34_0 : fldOff Try.prog 34 0 = some 0 := by kernel_rfl
theorem fla34_0 : fldAt Try.prog 34 0 = some (0, false, 1) := by kernel_rfl
theorem fld34_1 : fldOff Try.prog 34 1 = some 1 := by kernel_rfl
theorem fla34_1 : fldAt Try.prog 34 1 = some (1, true, 7) := by kernel_rfl
theorem str34 : strT Try.prog 34 = some ([.int .i64 0, .slice none 0 0, .int .i64 0, .slice none 0 0, .slice none 0 0, .slice none 0 0, .slice none 0 0, .slice none 0 0], [(0, 1), (1, 7)]) := by kernel_rfl
theorem zer34 : zeroV Try.prog 34 = some (.agg #[.int .i64 0, .slice none 0 0, .int .i64 0, .slice none 0 0, .slice none 0 0, .slice none 0 0, .slice none 0 0, .slice none 0 0]) := by kernel_rfl
theorem lay51 : lay Try.prog 51 = some (false, 1) := by kernel_rfl
theorem elZ51 : elZ Try.prog 51 = some (110, 3, 24) := by kernel_rfl
theorem zOk51 : zOk Try.prog 110 3 = true := by kernel_rfl
theorem zer51 : zeroV Try.prog 51 = some (.slice none 0 0) := by kernel_rfl
theorem lay53 : lay Try.prog 53 = some (true, 3) := by kernel_rfl
theorem fld53_0 : fldOff Try.prog 53 0 = some 0 := by kernel_rfl
theorem fla53_0 : fldAt Try.prog 53 0 = some (0, false, 1) := by kernel_rfl
theorem fld53_1 : fldOff Try.prog 53 1 = some 1 := by kernel_rfl
theorem fla53_1 : fldAt Try.prog 53 1 = some (1, false, 1) := by kernel_rfl
theorem fld53_2 : fldOff Try.prog 53 2 = some 2 := by kernel_rfl
theorem fla53_2 : fldAt Try.prog 53 2 = some (2, false, 1) := by kernel_rfl
theorem str53 : strT Try.prog 53 = some ([.int .i64 0, .int .i64 0, .slice none 0 0], [(0, 1), (1, 1), (2, 1)]) := by kernel_rfl
theorem zer53 : zeroV Try.prog 53 = some (.agg #[.int .i64 0, .int .i64 0, .slice none 0 0]) := by kernel_rfl
theorem lay67 : lay Try.prog 67 = some (false, 1) := by kernel_rfl
theorem und67 : Try.prog.underlying 67 = some (.int .u64) := by kernel_rfl
theorem zer67 : zeroV Try.prog 67 = some (.int .u64 0) := by kernel_rfl
theorem lay80 : lay Try.prog 80 = some (false, 1) := by kernel_rfl
theorem und80 : Try.prog.underlying 80 = some (.int .i64) := by kernel_rfl
theorem zer80 : zeroV Try.prog 80 = some (.int .i64 0) := by kernel_rfl
theorem lay88 : lay Try.prog 88 = some (false, 1) := by kernel_rfl
theorem und88 : Try.prog.underlying 88 = some (.int .u32) := by kernel_rfl
theorem zer88 : zeroV Try.prog 88 = some (.int .u32 0) := by kernel_rfl
theorem lay90 : lay Try.prog 90 = some (false, 1) := by kernel_rfl
theorem und90 : Try.prog.underlying 90 = some (.int .u64) := by kernel_rfl
theorem zer90 : zeroV Try.prog 90 = some (.int .u64 0) := by kernel_rfl
theorem lay93 : lay Try.prog 93 = some (true, 3) := by kernel_rfl
theorem fld93_0 : fldOff Try.prog 93 0 = some 0 := by kernel_rfl
theorem fla93_0 : fldAt Try.prog 93 0 = some (0, false, 1) := by kernel_rfl
theorem fld93_1 : fldOff Try.prog 93 1 = some 1 := by kernel_rfl
theorem fla93_1 : fldAt Try.prog 93 1 = some (1, false, 1) := by kernel_rfl
theorem fld93_2 : fldOff Try.prog 93 2 = some 2 := by kernel_rfl
theorem fla93_2 : fldAt Try.prog 93 2 = some (2, false, 1) := by kernel_rfl
theorem str93 : strT Try.prog 93 = some ([.int .i64 0, .int .i64 0, .int .i64 0], [(0, 1), (1, 1), (2, 1)]) := by kernel_rfl
theorem zer93 : zeroV Try.prog 93 = some (.agg #[.int .i64 0, .int .i64 0, .int .i64 0]) := by kernel_rfl
theorem lay97 : lay Try.prog 97 = some (true, 2) := by kernel_rfl
theorem fld97_0 : fldOff Try.prog 97 0 = some 0 := by kernel_rfl
theorem fla97_0 : fldAt Try.prog 97 0 = some (0, false, 1) := by kernel_rfl
theorem fld97_1 : fldOff Try.prog 97 1 = some 1 := by kernel_rfl
theorem fla97_1 : fldAt Try.prog 97 1 = some (1, false, 1) := by kernel_rfl
theorem str97 : strT Try.prog 97 = some ([.int .i64 0, .int .i64 0], [(0, 1), (1, 1)]) := by kernel_rfl
theorem zer97 : zeroV Try.prog 97 = some (.agg #[.int .i64 0, .int .i64 0]) := by kernel_rfl
theorem lay99 : lay Try.prog 99 = some (true, 6) := by kernel_rfl
theorem fld99_0 : fldOff Try.prog 99 0 = some 0 := by kernel_rfl
theorem fla99_0 : fldAt Try.prog 99 0 = some (0, false, 1) := by kernel_rfl
theorem fld99_1 : fldOff Try.prog 99 1 = some 1 := by kernel_rfl
theorem fla99_1 : fldAt Try.prog 99 1 = some (1, false, 1) := by kernel_rfl
theorem fld99_2 : fldOff Try.prog 99 2 = some 2 := by kernel_rfl
theorem fla99_2 : fldAt Try.prog 99 2 = some (2, false, 1) := by kernel_rfl
theorem fld99_3 : fldOff Try.prog 99 3 = some 3 := by kernel_rfl
theorem fla99_3 : fldAt Try.prog 99 3 = some (3, true, 2) := by kernel_rfl
theorem fld99_4 : fldOff Try.prog 99 4 = some 5 := by kernel_rfl
theorem fla99_4 : fldAt Try.prog 99 4 = some (5, false, 1) := by kernel_rfl
theorem str99 : strT Try.prog 99 = some ([.int .i64 0, .int .i64 0, .int .i64 0, .int .i64 0, .int .i64 0, .int .i64 0], [(0, 1), (1, 1), (2, 1), (3, 2), (5, 1)]) := by kernel_rfl
theorem zer99 : zeroV Try.prog 99 = some (.agg #[.int .i64 0, .int .i64 0, .int .i64 0, .int .i64 0, .int .i64 0, .int .i64 0]) := by kernel_rfl
theorem lay101 : lay Try.prog 101 = some (false, 1) := by kernel_rfl
theorem und101 : Try.prog.underlying 101 = some (.int .u64) := by kernel_rfl
theorem zer101 : zeroV Try.prog 101 = some (.int .u64 0) := by kernel_rfl
theorem lay110 : lay Try.prog 110 = some (true, 3) := by kernel_rfl
theorem fld110_0 : fldOff Try.prog 110 0 = some 0 := by kernel_rfl
theorem fla110_0 : fldAt Try.prog 110 0 = some (0, true, 2) := by kernel_rfl
theorem fld110_1 : fldOff Try.prog 110 1 = some 2 := by kernel_rfl
theorem fla110_1 : fldAt Try.prog 110 1 = some (2, false, 1) := by kernel_rfl
theorem str110 : strT Try.prog 110 = some ([.int .i64 0, .int .i64 0, .int .i64 0], [(0, 2), (2, 1)]) := by kernel_rfl
theorem zer110 : zeroV Try.prog 110 = some (.agg #[.int .i64 0, .int .i64 0, .int .i64 0]) := by kernel_rfl
theorem tys : type_of% (And.intro (And.intro (And.intro (And.intro (And.intro (And.intro (And.intro (@lay2) (@und2)) (And.intro (@zer2) (@lay3))) (And.intro (And.intro (@und3) (@zer3)) (And.intro (@lay4) (@und4)))) (And.intro (And.intro (And.intro (@zer4) (@lay5)) (And.intro (@und5) (@zer5))) (And.intro (And.intro (@lay9) (@und9)) (And.intro (@zer9) (@lay22))))) (And.intro (And.intro (And.intro (And.intro (@elZ22) (@zOk22)) (And.intro (@zer22) (@lay24))) (And.intro (And.intro (@fld24_0) (@fla24_0)) (And.intro (@fld24_1) (@fla24_1)))) (And.intro (And.intro (And.intro (@str24) (@zer24)) (And.intro (@lay26) (@fld26_0))) (And.intro (And.intro (@fla26_0) (@fld26_1)) (And.intro (@fla26_1) (And.intro (@str26) (@zer26))))))) (And.intro (And.intro (And.intro (And.intro (And.intro (@lay27) (@elZ27)) (And.intro (@zOk27) (@zer27))) (And.intro (And.intro (@lay28) (@elZ28)) (And.intro (@zOk28) (@zer28)))) (And.intro (And.intro (And.intro (@lay29) (@elZ29)) (And.intro (@zOk29) (@zer29))) (And.intro (And.intro (@lay30) (@elZ30)) (And.intro (@zOk30) (And.intro (@zer30) (@lay32)))))) (And.intro (And.intro (And.intro (And.intro (@fld32_0) (@fla32_0)) (And.intro (@fld32_1) (@fla32_1))) (And.intro (And.intro (@fld32_2) (@fla32_2)) (And.intro (@fld32_3) (@fla32_3)))) (And.intro (And.intro (And.intro (@fld32_4) (@fla32_4)) (And.intro (@fld32_5) (@fla32_5))) (And.intro (And.intro (@str32) (@zer32)) (And.intro (@lay34) (And.intro (@fld34_0) (@fla34_0)))))))) (And.intro (And.intro (And.intro (And.intro (And.intro (And.intro (@fld34_1) (@fla34_1)) (And.intro (@str34) (@zer34))) (And.intro (And.intro (@lay51) (@elZ51)) (And.intro (@zOk51) (@zer51)))) (And.intro (And.intro (And.intro (@lay53) (@fld53_0)) (And.intro (@fla53_0) (@fld53_1))) (And.intro (And.intro (@fla53_1) (@fld53_2)) (And.intro (@fla53_2) (And.intro (@str53) (@zer53)))))) (And.intro (And.intro (And.intro (And.intro (@lay67) (@und67)) (And.intro (@zer67) (@lay80))) (And.intro (And.intro (@und80) (@zer80)) (And.intro (@lay88) (@und88)))) (And.intro (And.intro (And.intro (@zer88) (@lay90)) (And.intro (@und90) (@zer90))) (And.intro (And.intro (@lay93) (@fld93_0)) (And.intro (@fla93_0) (And.intro (@fld93_1) (@fla93_1))))))) (And.intro (And.intro (And.intro (And.intro (And.intro (@fld93_2) (@fla93_2)) (And.intro (@str93) (@zer93))) (And.intro (And.intro (@lay97) (@fld97_0)) (And.intro (@fla97_0) (@fld97_1)))) (And.intro (And.intro (And.intro (@fla97_1) (@str97)) (And.intro (@zer97) (@lay99))) (And.intro (And.intro (@fld99_0) (@fla99_0)) (And.intro (@fld99_1) (And.intro (@fla99_1) (@fld99_2)))))) (And.intro (And.intro (And.intro (And.intro (@fla99_2) (@fld99_3)) (And.intro (@fla99_3) (@fld99_4))) (And.intro (And.intro (@fla99_4) (@str99)) (And.intro (@zer99) (@lay101)))) (And.intro (And.intro (And.intro (@und101) (@zer101)) (And.intro (@lay110) (@fld110_0))) (And.intro (And.intro (@fla110_0) (@fld110_1)) (And.intro (@fla110_1) (And.intro (@str110) (@zer110))))))))) := And.intro (And.intro (And.intro (And.intro (And.intro (And.intro (And.intro (@lay2) (@und2)) (And.intro (@zer2) (@lay3))) (And.intro (And.intro (@und3) (@zer3)) (And.intro (@lay4) (@und4)))) (And.intro (And.intro (And.intro (@zer4) (@lay5)) (And.intro (@und5) (@zer5))) (And.intro (And.intro (@lay9) (@und9)) (And.intro (@zer9) (@lay22))))) (And.intro (And.intro (And.intro (And.intro (@elZ22) (@zOk22)) (And.intro (@zer22) (@lay24))) (And.intro (And.intro (@fld24_0) (@fla24_0)) (And.intro (@fld24_1) (@fla24_1)))) (And.intro (And.intro (And.intro (@str24) (@zer24)) (And.intro (@lay26) (@fld26_0))) (And.intro (And.intro (@fla26_0) (@fld26_1)) (And.intro (@fla26_1) (And.intro (@str26) (@zer26))))))) (And.intro (And.intro (And.intro (And.intro (And.intro (@lay27) (@elZ27)) (And.intro (@zOk27) (@zer27))) (And.intro (And.intro (@lay28) (@elZ28)) (And.intro (@zOk28) (@zer28)))) (And.intro (And.intro (And.intro (@lay29) (@elZ29)) (And.intro (@zOk29) (@zer29))) (And.intro (And.intro (@lay30) (@elZ30)) (And.intro (@zOk30) (And.intro (@zer30) (@lay32)))))) (And.intro (And.intro (And.intro (And.intro (@fld32_0) (@fla32_0)) (And.intro (@fld32_1) (@fla32_1))) (And.intro (And.intro (@fld32_2) (@fla32_2)) (And.intro (@fld32_3) (@fla32_3)))) (And.intro (And.intro (And.intro (@fld32_4) (@fla32_4)) (And.intro (@fld32_5) (@fla32_5))) (And.intro (And.intro (@str32) (@zer32)) (And.intro (@lay34) (And.intro (@fld34_0) (@fla34_0)))))))) (And.intro (And.intro (And.intro (And.intro (And.intro (And.intro (@fld34_1) (@fla34_1)) (And.intro (@str34) (@zer34))) (And.intro (And.intro (@lay51) (@elZ51)) (And.intro (@zOk51) (@zer51)))) (And.intro (And.intro (And.intro (@lay53) (@fld53_0)) (And.intro (@fla53_0) (@fld53_1))) (And.intro (And.intro (@fla53_1) (@fld53_2)) (And.intro (@fla53_2) (And.intro (@str53) (@zer53)))))) (And.intro (And.intro (And.intro (And.intro (@lay67) (@und67)) (And.intro (@zer67) (@lay80))) (And.intro (And.intro (@und80) (@zer80)) (And.intro (@lay88) (@und88)))) (And.intro (And.intro (And.intro (@zer88) (@lay90)) (And.intro (@und90) (@zer90))) (And.intro (And.intro (@lay93) (@fld93_0)) (And.intro (@fla93_0) (And.intro (@fld93_1) (@fla93_1))))))) (And.intro (And.intro (And.intro (And.intro (And.intro (@fld93_2) (@fla93_2)) (And.intro (@str93) (@zer93))) (And.intro (And.intro (@lay97) (@fld97_0)) (And.intro (@fla97_0) (@fld97_1)))) (And.intro (And.intro (And.intro (@fla97_1) (@str97)) (And.intro (@zer97) (@lay99))) (And.intro (And.intro (@fld99_0) (@fla99_0)) (And.intro (@fld99_1) (And.intro (@fla99_1) (@fld99_2)))))) (And.intro (And.intro (And.intro (And.intro (@fla99_2) (@fld99_3)) (And.intro (@fla99_3) (@fld99_4))) (And.intro (And.intro (@fla99_4) (@str99)) (And.intro (@zer99) (@lay101)))) (And.intro (And.intro (And.intro (@und101) (@zer101)) (And.intro (@lay110) (@fld110_0))) (And.intro (And.intro (@fla110_0) (@fld110_1)) (And.intro (@fla110_1) (And.intro (@str110) (@zer110))))))))
end Go.BM
