/- Facts on the types of the program, by the kernel. -/
import Derived.Test.YtolecdkkecnkkaaProg
import Derived.Test.YtolecdkkecnkkaaC19
import Derived.KernelRfl
namespace Go.BM
open Go.Proofs
theorem lay2 : lay Try.prog 2 = some (false, 1) := by kernel_rfl
theorem und2 : Try.prog.underlying 2 = some (.int .i64) := by kernel_rfl
theorem zer2 : zeroV Try.prog 2 = some (.int .i64 0) := by kernel_rfl
theorem lay3 : lay Try.prog 3 = some (false, 1) := by kernel_rfl
theorem und3 : Try.prog.underlying 3 = some (.int .i64) := by kernel_rfl
theorem zer3 : zeroV Try.prog 3 = some (.int .i64 0) := by kernel_rfl
theorem lay4 : lay Try.prog 4 = some (false, 1) := by kernel_rfl
theorem und4 : Try.prog.underlying 4 = some .bool := by kernel_rfl
theorem zer4 : zeroV Try.prog 4 = some (.bool false) := by kernel_rfl
theorem lay5 : lay Try.prog 5 = some (false, 1) := by kernel_rfl
theorem und5 : Try.prog.underlying 5 = some (.int .u8) := by kernel_rfl
theorem zer5 : zeroV Try.prog 5 = some (.int .u8 0) := by kernel_rfl
theorem lay9 : lay Try.prog 9 = some (false, 1) := by kernel_rfl
theorem und9 : Try.prog.underlying 9 = some .string := by kernel_rfl
theorem zer9 : zeroV Try.prog 9 = some (.string ⟨#[]⟩) := by kernel_rfl
theorem lay22 : lay Try.prog 22 = some (false, 1) := by kernel_rfl
theorem elZ22 : elZ Try.prog 22 = some (5, 1, 1) := by kernel_rfl
theorem zOk22 : zOk Try.prog 5 1 = true := by kernel_rfl
theorem zer22 : zeroV Try.prog 22 = some (.slice none 0 0) := by kernel_rfl
theorem lay24 : lay Try.prog 24 = some (false, 1) := by kernel_rfl
theorem elZ24 : elZ Try.prog 24 = some (73, 3, 24) := by kernel_rfl
theorem zOk24 : zOk Try.prog 73 3 = true := by kernel_rfl
theorem zer24 : zeroV Try.prog 24 = some (.slice none 0 0) := by kernel_rfl
theorem lay26 : lay Try.prog 26 = some (true, 3) := by kernel_rfl
theorem fld26_0 : fldOff Try.prog 26 0 = some 0 := by kernel_rfl
theorem fla26_0 : fldAt Try.prog 26 0 = some (0, false, 1) := by kernel_rfl
theorem fld26_1 : fldOff Try.prog 26 1 = some 1 := by kernel_rfl
theorem fla26_1 : fldAt Try.prog 26 1 = some (1, false, 1) := by kernel_rfl
theorem fld26_2 : fldOff Try.prog 26 2 = some 2 := by kernel_rfl
theorem fla26_2 : fldAt Try.prog 26 2 = some (2, false, 1) := by kernel_rfl
theorem str26 : strT Try.prog 26 = some ([.int .i64 0, .int .i64 0, .slice none 0 0], [(0, 1), (1, 1), (2, 1)]) := by kernel_rfl
theorem zer26 : zeroV Try.prog 26 = some (.agg #[.int .i64 0, .int .i64 0, .slice none 0 0]) := by kernel_rfl
theorem lay28 : lay Try.prog 28 = some (true, 2) := by kernel_rfl
theorem fld28_0 : fldOff Try.prog 28 0 = some 0 := by kernel_rfl
theorem fla28_0 : fldAt Try.prog 28 0 = some (0, false, 1) := by kernel_rfl
theorem fld28_1 : fldOff Try.prog 28 1 = some 1 := by kernel_rfl
theorem fla28_1 : fldAt Try.prog 28 1 = some (1, false, 1) := by kernel_rfl
theorem str28 : strT Try.prog 28 = some ([.int .i64 0, .int .i64 0], [(0, 1), (1, 1)]) := by kernel_rfl
theorem zer28 : zeroV Try.prog 28 = some (.agg #[.int .i64 0, .int .i64 0]) := by kernel_rfl
theorem lay32 : lay Try.prog 32 = some (true, 6) := by kernel_rfl
theorem fld32_0 : fldOff Try.prog 32 0 = some 0 := by kernel_rfl
theorem fla32_0 : fldAt Try.prog 32 0 = some (0, false, 1) := by kernel_rfl
theorem fld32_1 : fldOff Try.prog 32 1 = some 1 := by kernel_rfl
theorem fla32_1 : fldAt Try.prog 32 1 = some (1, false, 1) := by kernel_rfl
theorem fld32_2 : fldOff Try.prog 32 2 = some 2 := by kernel_rfl
theorem fla32_2 : fldAt Try.prog 32 2 = some (2, false, 1) := by kernel_rfl
theorem fld32_3 : fldOff Try.prog 32 3 = some 3 := by kernel_rfl
theorem fla32_3 : fldAt Try.prog 32 3 = some (3, true, 2) := by kernel_rfl
theorem fld32_4 : fldOff Try.prog 32 4 = some 5 := by kernel_rfl
theorem fla32_4 : fldAt Try.prog 32 4 = some (5, false, 1) := by kernel_rfl
theorem str32 : strT Try.prog 32 = some ([.int .i64 0, .int .i64 0, .int .i64 0, .int .i64 0, .int .i64 0, .int .i64 0], [(0, 1), (1, 1), (2, 1), (3, 2), (5, 1)]) := by kernel_rfl
theorem zer32 : zeroV Try.prog 32 = some (.agg #[.int .i64 0, .int .i64 0, .int .i64 0, .int .i64 0, .int .i64 0, .int .i64 0]) := by kernel_rfl
theorem lay34 : lay Try.prog 34 = some (true, 10) := by kernel_rfl
theorem fld34_0 : fldOff Try.prog 34 0 = some 0 := by kernel_rfl
theorem fla34_0 : fldAt Try.prog 34 0 = some (0, false, 1) := by kernel_rfl
theorem fld34_1 : fldOff Try.prog 34 1 = some 1 := by kernel_rfl
theorem fla34_1 : fldAt Try.prog 34 1 = some (1, true, 6) := by kernel_rfl
theorem fld34_2 : fldOff Try.prog 34 2 = some 7 := by kernel_rfl
theorem fla34_2 : fldAt Try.prog 34 2 = some (7, true, 3) := by kernel_rfl
theorem str34 : strT Try.prog 34 = some ([.int .i64 0, .int .i64 0, .int .i64 0, .int .i64 0, .int .i64 0, .int .i64 0, .int .i64 0, .int .i64 0, .int .i64 0, .slice none 0 0], [(0, 1), (1, 6), (7, 3)]) := by kernel_rfl
theorem zer34 : zeroV Try.prog 34 = some (.agg #[.int .i64 0, .int .i64 0, .int .i64 0, .int .i64 0, .int .i64 0, .int .i64 0, .int .i64 0, .int .i64 0, .int .i64 0, .slice none 0 0]) := by kernel_rfl
theorem lay38 : lay Try.prog 38 = some (false, 1) := by kernel_rfl
theorem elZ38 : elZ Try.prog 38 = some (9, 1, 16) := by kernel_rfl
theorem zOk38 : zOk Try.prog 9 1 = true := by kernel_rfl
theorem zer38 : zeroV Try.prog 38 = some (.slice none 0 0) := by kernel_rfl
theorem lay39 : lay Try.prog 39 = some (false, 1) := by kernel_rfl
theorem elZ39 : elZ Try.prog 39 = some (91, 2, 16) := by kernel_rfl
theorem zOk39 : zOk Try.prog 91 2 = true := by kernel_rfl
theorem zer39 : zeroV Try.prog 39 = some (.slice none 0 0) := by kernel_rfl
theorem lay41 : lay Try.prog 41 = some (true, 2) := by kernel_rfl
theorem fld41_0 : fldOff Try.prog 41 0 = some 0 := by kernel_rfl
theorem fla41_0 : fldAt Try.prog 41 0 = some (0, false, 1) := by kernel_rfl
theorem fld41_1 : fldOff Try.prog 41 1 = some 1 := by kernel_rfl
theorem fla41_1 : fldAt Try.prog 41 1 = some (1, false, 1) := by kernel_rfl
theorem str41 : strT Try.prog 41 = some ([.slice none 0 0, .slice none 0 0], [(0, 1), (1, 1)]) := by kernel_rfl
theorem zer41 : zeroV Try.prog 41 = some (.agg #[.slice none 0 0, .slice none 0 0]) := by kernel_rfl
theorem lay45 : lay Try.prog 45 = some (true, 4) := by kernel_rfl
theorem fld45_0 : fldOff Try.prog 45 0 = some 0 := by kernel_rfl
theorem fla45_0 : fldAt Try.prog 45 0 = some (0, false, 1) := by kernel_rfl
theorem fld45_1 : fldOff Try.prog 45 1 = some 1 := by kernel_rfl
theorem fla45_1 : fldAt Try.prog 45 1 = some (1, false, 1) := by kernel_rfl
theorem fld45_2 : fldOff Try.prog 45 2 = some 2 := by kernel_rfl
theorem fla45_2 : fldAt Try.prog 45 2 = some (2, true, 2) := by kernel_rfl
theorem str45 : strT Try.prog 45 = some ([.int .i64 0, .int .i64 0, .slice none 0 0, .slice none 0 0], [(0, 1), (1, 1), (2, 2)]) := by kernel_rfl
theorem zer45 : zeroV Try.prog 45 = some (.agg #[.int .i64 0, .int .i64 0, .slice none 0 0, .slice none 0 0]) := by kernel_rfl
theorem lay48 : lay Try.prog 48 = some (true, 2) := by kernel_rfl
theorem fld48_0 : fldOff Try.prog 48 0 = some 0 := by kernel_rfl
theorem fla48_0 : fldAt Try.prog 48 0 = some (0, false, 1) := by kernel_rfl
theorem fld48_1 : fldOff Try.prog 48 1 = some 1 := by kernel_rfl
theorem fla48_1 : fldAt Try.prog 48 1 = some (1, false, 1) := by kernel_rfl
theorem str48 : strT Try.prog 48 = some ([.int .i64 0, .int .i64 0], [(0, 1), (1, 1)]) := by kernel_rfl
theorem zer48 : zeroV Try.prog 48 = some (.agg #[.int .i64 0, .int .i64 0]) := by kernel_rfl
theorem lay51 : lay Try.prog 51 = some (true, 2) := by kernel_rfl
theorem fld51_0 : fldOff Try.prog 51 0 = some 0 := by kernel_rfl
theorem fla51_0 : fldAt Try.prog 51 0 = some (0, false, 1) := by kernel_rfl
theorem fld51_1 : fldOff Try.prog 51 1 = some 1 := by kernel_rfl
theorem fla51_1 : fldAt Try.prog 51 1 = some (1, false, 1) := by kernel_rfl
theorem str51 : strT Try.prog 51 = some ([.int .i64 0, .string ⟨#[]⟩], [(0, 1), (1, 1)]) := by kernel_rfl
theorem zer51 : zeroV Try.prog 51 = some (.agg #[.int .i64 0, .string ⟨#[]⟩]) := by kernel_rfl
theorem lay59 : lay Try.prog 59 = some (false, 1) := by kernel_rfl
theorem elZ59 : elZ Try.prog 59 = some (2, 1, 8) := by kernel_rfl
theorem zOk59 : zOk Try.prog 2 1 = true := by kernel_rfl
theorem zer59 : zeroV Try.prog 59 = some (.slice none 0 0) := by kernel_rfl
theorem lay61 : lay Try.prog 61 = some (true, 2) := by kernel_rfl
theorem fld61_0 : fldOff Try.prog 61 0 = some 0 := by kernel_rfl
theorem fla61_0 : fldAt Try.prog 61 0 = some (0, false, 1) := by kernel_rfl
theorem fld61_1 : fldOff Try.prog 61 1 = some 1 := by kernel_rfl
theorem fla61_1 : fldAt Try.prog 61 1 = some (1, false, 1) := by kernel_rfl
theorem str61 : strT Try.prog 61 = some ([.int .i64 0, .slice none 0 0], [(0, 1), (1, 1)]) := by kernel_rfl
theorem zer61 : zeroV Try.prog 61 = some (.agg #[.int .i64 0, .slice none 0 0]) := by kernel_rfl
theorem lay73 : lay Try.prog 73 = some (true, 3) := by kernel_rfl
theorem fld73_0 : fldOff Try.prog 73 0 = some 0 := by kernel_rfl
theorem fla73_0 : fldAt Try.prog 73 0 = some (0, true, 2) := by kernel_rfl
theorem fld73_1 : fldOff Try.prog 73 1 = some 2 := by kernel_rfl
theorem fla73_1 : fldAt Try.prog 73 1 = some (2, false, 1) := by kernel_rfl
theorem str73 : strT Try.prog 73 = some ([.int .i64 0, .int .i64 0, .int .i64 0], [(0, 2), (2, 1)]) := by kernel_rfl
theorem zer73 : zeroV Try.prog 73 = some (.agg #[.int .i64 0, .int .i64 0, .int .i64 0]) := by kernel_rfl
theorem lay91 : lay Try.prog 91 = some (true, 2) := by kernel_rfl
theorem fld91_0 : fldOff Try.prog 91 0 = some 0 := by kernel_rfl
theorem fla91_0 : fldAt Try.prog 91 0 = some (0, false, 1) := by kernel_rfl
theorem fld91_1 : fldOff Try.prog 91 1 = some 1 := by kernel_rfl
theorem fla91_1 : fldAt Try.prog 91 1 = some (1, false, 1) := by kernel_rfl
theorem str91 : strT Try.prog 91 = some ([.int .i64 0, .int .i64 0], [(0, 1), (1, 1)]) := by kernel_rfl
theorem zer91 : zeroV Try.prog 91 = some (.agg #[.int .i64 0, .int .i64 0]) := by kernel_rfl
theorem lay96 : lay Try.prog 96 = some (true, 2) := by kernel_rfl
theorem fld96_0 : fldOff Try.prog 96 0 = some 0 := by kernel_rfl
theorem fla96_0 : fldAt Try.prog 96 0 = some (0, false, 1) := by kernel_rfl
theorem fld96_1 : fldOff Try.prog 96 1 = some 1 := by kernel_rfl
theorem fla96_1 : fldAt Try.prog 96 1 = some (1, false, 1) := by kernel_rfl
theorem str96 : strT Try.prog 96 = some ([.slice none 0 0, .int .i64 0], [(0, 1), (1, 1)]) := by kernel_rfl
theorem zer96 : zeroV Try.prog 96 = some (.agg #[.slice none 0 0, .int .i64 0]) := by kernel_rfl
theorem lay97 : lay Try.prog 97 = some (false, 1) := by kernel_rfl
theorem elZ97 : elZ Try.prog 97 = some (108, 3, 24) := by kernel_rfl
theorem zOk97 : zOk Try.prog 108 3 = true := by kernel_rfl
theorem zer97 : zeroV Try.prog 97 = some (.slice none 0 0) := by kernel_rfl
theorem lay108 : lay Try.prog 108 = some (true, 3) := by kernel_rfl
theorem fld108_0 : fldOff Try.prog 108 0 = some 0 := by kernel_rfl
theorem fla108_0 : fldAt Try.prog 108 0 = some (0, false, 1) := by kernel_rfl
theorem fld108_1 : fldOff Try.prog 108 1 = some 1 := by kernel_rfl
theorem fla108_1 : fldAt Try.prog 108 1 = some (1, false, 1) := by kernel_rfl
theorem fld108_2 : fldOff Try.prog 108 2 = some 2 := by kernel_rfl
theorem fla108_2 : fldAt Try.prog 108 2 = some (2, false, 1) := by kernel_rfl
theorem str108 : strT Try.prog 108 = some ([.int .i64 0, .int .i64 0, .int .i64 0], [(0, 1), (1, 1), (2, 1)]) := by kernel_rfl
theorem zer108 : zeroV Try.prog 108 = some (.agg #[.int .i64 0, .int .i64 0, .int .i64 0]) := by kernel_rfl
theorem eqA28 (d : Nat) (w : World) (a_0 : Int) (a_1 : Int) (b_0 : Int) (b_1 : Int) : (Op.equalIn (d + 2) 28 (.agg #[.int .i64 a_0, .int .i64 a_1]) (.agg #[.int .i64 b_0, .int .i64 b_1])).run Try.prog w = .ok ((a_0 == b_0) && (a_1 == b_1)) w := by
  refine eqs_of Try.underlying28 (by kernel_rfl) ?_
  refine eqf_more (by rfl) (by go_simp; try rfl) (by go_simp; try rfl) (by go_simp) ?_
  exact eqf_one (by rfl) (by go_simp; try rfl) (by go_simp; try rfl) (by go_simp)
theorem eql28 (xo yo : Operand) (a_0 : Int) (a_1 : Int) (b_0 : Int) (b_1 : Int) : binS Try.prog .eql 28 xo yo (.agg #[.int .i64 a_0, .int .i64 a_1]) (.agg #[.int .i64 b_0, .int .i64 b_1]) = some (.bool (((a_0 == b_0) && (a_1 == b_1)))) := eql_of 2 (by decide) (by simp [pureV, flatV]) (by simp [pureV, flatV]) (by kernel_rfl) fun d w => eqA28 d w _ _ _ _
theorem neq28 (xo yo : Operand) (a_0 : Int) (a_1 : Int) (b_0 : Int) (b_1 : Int) : binS Try.prog .neq 28 xo yo (.agg #[.int .i64 a_0, .int .i64 a_1]) (.agg #[.int .i64 b_0, .int .i64 b_1]) = some (.bool (!((a_0 == b_0) && (a_1 == b_1)))) := neq_of 2 (by decide) (by simp [pureV, flatV]) (by simp [pureV, flatV]) (by kernel_rfl) fun d w => eqA28 d w _ _ _ _
theorem eqA32 (d : Nat) (w : World) (a_0 : Int) (a_1 : Int) (a_2 : Int) (a_3_0 : Int) (a_3_1 : Int) (a_4 : Int) (b_0 : Int) (b_1 : Int) (b_2 : Int) (b_3_0 : Int) (b_3_1 : Int) (b_4 : Int) : (Op.equalIn (d + 3) 32 (.agg #[.int .i64 a_0, .int .i64 a_1, .int .i64 a_2, .int .i64 a_3_0, .int .i64 a_3_1, .int .i64 a_4]) (.agg #[.int .i64 b_0, .int .i64 b_1, .int .i64 b_2, .int .i64 b_3_0, .int .i64 b_3_1, .int .i64 b_4])).run Try.prog w = .ok ((a_0 == b_0) && ((a_1 == b_1) && ((a_2 == b_2) && (((a_3_0 == b_3_0) && (a_3_1 == b_3_1)) && (a_4 == b_4))))) w := by
  refine eqs_of Try.underlying32 (by kernel_rfl) ?_
  refine eqf_more (by rfl) (by go_simp; try rfl) (by go_simp; try rfl) (by go_simp) ?_
  refine eqf_more (by rfl) (by go_simp; try rfl) (by go_simp; try rfl) (by go_simp) ?_
  refine eqf_more (by rfl) (by go_simp; try rfl) (by go_simp; try rfl) (by go_simp) ?_
  refine eqf_more (by rfl) (by go_simp; try rfl) (by go_simp; try rfl) (eqA28 (d + 0) _ _ _ _ _) ?_
  exact eqf_one (by rfl) (by go_simp; try rfl) (by go_simp; try rfl) (by go_simp)
theorem eql32 (xo yo : Operand) (a_0 : Int) (a_1 : Int) (a_2 : Int) (a_3_0 : Int) (a_3_1 : Int) (a_4 : Int) (b_0 : Int) (b_1 : Int) (b_2 : Int) (b_3_0 : Int) (b_3_1 : Int) (b_4 : Int) : binS Try.prog .eql 32 xo yo (.agg #[.int .i64 a_0, .int .i64 a_1, .int .i64 a_2, .int .i64 a_3_0, .int .i64 a_3_1, .int .i64 a_4]) (.agg #[.int .i64 b_0, .int .i64 b_1, .int .i64 b_2, .int .i64 b_3_0, .int .i64 b_3_1, .int .i64 b_4]) = some (.bool (((a_0 == b_0) && ((a_1 == b_1) && ((a_2 == b_2) && (((a_3_0 == b_3_0) && (a_3_1 == b_3_1)) && (a_4 == b_4))))))) := eql_of 3 (by decide) (by simp [pureV, flatV]) (by simp [pureV, flatV]) (by kernel_rfl) fun d w => eqA32 d w _ _ _ _ _ _ _ _ _ _ _ _
theorem neq32 (xo yo : Operand) (a_0 : Int) (a_1 : Int) (a_2 : Int) (a_3_0 : Int) (a_3_1 : Int) (a_4 : Int) (b_0 : Int) (b_1 : Int) (b_2 : Int) (b_3_0 : Int) (b_3_1 : Int) (b_4 : Int) : binS Try.prog .neq 32 xo yo (.agg #[.int .i64 a_0, .int .i64 a_1, .int .i64 a_2, .int .i64 a_3_0, .int .i64 a_3_1, .int .i64 a_4]) (.agg #[.int .i64 b_0, .int .i64 b_1, .int .i64 b_2, .int .i64 b_3_0, .int .i64 b_3_1, .int .i64 b_4]) = some (.bool (!((a_0 == b_0) && ((a_1 == b_1) && ((a_2 == b_2) && (((a_3_0 == b_3_0) && (a_3_1 == b_3_1)) && (a_4 == b_4))))))) := neq_of 3 (by decide) (by simp [pureV, flatV]) (by simp [pureV, flatV]) (by kernel_rfl) fun d w => eqA32 d w _ _ _ _ _ _ _ _ _ _ _ _
theorem eqA91 (d : Nat) (w : World) (a_0 : Int) (a_1 : Int) (b_0 : Int) (b_1 : Int) : (Op.equalIn (d + 2) 91 (.agg #[.int .i64 a_0, .int .i64 a_1]) (.agg #[.int .i64 b_0, .int .i64 b_1])).run Try.prog w = .ok ((a_0 == b_0) && (a_1 == b_1)) w := by
  refine eqs_of Try.underlying91 (by kernel_rfl) ?_
  refine eqf_more (by rfl) (by go_simp; try rfl) (by go_simp; try rfl) (by go_simp) ?_
  exact eqf_one (by rfl) (by go_simp; try rfl) (by go_simp; try rfl) (by go_simp)
theorem eql91 (xo yo : Operand) (a_0 : Int) (a_1 : Int) (b_0 : Int) (b_1 : Int) : binS Try.prog .eql 91 xo yo (.agg #[.int .i64 a_0, .int .i64 a_1]) (.agg #[.int .i64 b_0, .int .i64 b_1]) = some (.bool (((a_0 == b_0) && (a_1 == b_1)))) := eql_of 2 (by decide) (by simp [pureV, flatV]) (by simp [pureV, flatV]) (by kernel_rfl) fun d w => eqA91 d w _ _ _ _
theorem neq91 (xo yo : Operand) (a_0 : Int) (a_1 : Int) (b_0 : Int) (b_1 : Int) : binS Try.prog .neq 91 xo yo (.agg #[.int .i64 a_0, .int .i64 a_1]) (.agg #[.int .i64 b_0, .int .i64 b_1]) = some (.bool (!((a_0 == b_0) && (a_1 == b_1)))) := neq_of 2 (by decide) (by simp [pureV, flatV]) (by simp [pureV, flatV]) (by kernel_rfl) fun d w => eqA91 d w _ _ _ _
theorem tys : type_of% (And.intro (And.intro (And.intro (And.intro (And.intro (And.intro (And.intro (@lay2) (@und2)) (And.intro (@zer2) (@lay3))) (And.intro (And.intro (@und3) (@zer3)) (And.intro (@lay4) (And.intro (@und4) (@zer4))))) (And.intro (And.intro (And.intro (@lay5) (@und5)) (And.intro (@zer5) (@lay9))) (And.intro (And.intro (@und9) (@zer9)) (And.intro (@lay22) (And.intro (@elZ22) (@zOk22)))))) (And.intro (And.intro (And.intro (And.intro (@zer22) (@lay24)) (And.intro (@elZ24) (@zOk24))) (And.intro (And.intro (@zer24) (@lay26)) (And.intro (@fld26_0) (And.intro (@fla26_0) (@fld26_1))))) (And.intro (And.intro (And.intro (@fla26_1) (@fld26_2)) (And.intro (@fla26_2) (And.intro (@str26) (@zer26)))) (And.intro (And.intro (@lay28) (@fld28_0)) (And.intro (@fla28_0) (And.intro (@fld28_1) (@fla28_1))))))) (And.intro (And.intro (And.intro (And.intro (And.intro (@str28) (@zer28)) (And.intro (@lay32) (@fld32_0))) (And.intro (And.intro (@fla32_0) (@fld32_1)) (And.intro (@fla32_1) (And.intro (@fld32_2) (@fla32_2))))) (And.intro (And.intro (And.intro (@fld32_3) (@fla32_3)) (And.intro (@fld32_4) (And.intro (@fla32_4) (@str32)))) (And.intro (And.intro (@zer32) (@lay34)) (And.intro (@fld34_0) (And.intro (@fla34_0) (@fld34_1)))))) (And.intro (And.intro (And.intro (And.intro (@fla34_1) (@fld34_2)) (And.intro (@fla34_2) (@str34))) (And.intro (And.intro (@zer34) (@lay38)) (And.intro (@elZ38) (And.intro (@zOk38) (@zer38))))) (And.intro (And.intro (And.intro (@lay39) (@elZ39)) (And.intro (@zOk39) (And.intro (@zer39) (@lay41)))) (And.intro (And.intro (@fld41_0) (@fla41_0)) (And.intro (@fld41_1) (And.intro (@fla41_1) (@str41)))))))) (And.intro (And.intro (And.intro (And.intro (And.intro (And.intro (@zer41) (@lay45)) (And.intro (@fld45_0) (@fla45_0))) (And.intro (And.intro (@fld45_1) (@fla45_1)) (And.intro (@fld45_2) (And.intro (@fla45_2) (@str45))))) (And.intro (And.intro (And.intro (@zer45) (@lay48)) (And.intro (@fld48_0) (@fla48_0))) (And.intro (And.intro (@fld48_1) (@fla48_1)) (And.intro (@str48) (And.intro (@zer48) (@lay51)))))) (And.intro (And.intro (And.intro (And.intro (@fld51_0) (@fla51_0)) (And.intro (@fld51_1) (@fla51_1))) (And.intro (And.intro (@str51) (@zer51)) (And.intro (@lay59) (And.intro (@elZ59) (@zOk59))))) (And.intro (And.intro (And.intro (@zer59) (@lay61)) (And.intro (@fld61_0) (And.intro (@fla61_0) (@fld61_1)))) (And.intro (And.intro (@fla61_1) (@str61)) (And.intro (@zer61) (And.intro (@lay73) (@fld73_0))))))) (And.intro (And.intro (And.intro (And.intro (And.intro (@fla73_0) (@fld73_1)) (And.intro (@fla73_1) (@str73))) (And.intro (And.intro (@zer73) (@lay91)) (And.intro (@fld91_0) (And.intro (@fla91_0) (@fld91_1))))) (And.intro (And.intro (And.intro (@fla91_1) (@str91)) (And.intro (@zer91) (And.intro (@lay96) (@fld96_0)))) (And.intro (And.intro (@fla96_0) (@fld96_1)) (And.intro (@fla96_1) (And.intro (@str96) (@zer96)))))) (And.intro (And.intro (And.intro (And.intro (@lay97) (@elZ97)) (And.intro (@zOk97) (@zer97))) (And.intro (And.intro (@lay108) (@fld108_0)) (And.intro (@fla108_0) (And.intro (@fld108_1) (@fla108_1))))) (And.intro (And.intro (And.intro (@fld108_2) (@fla108_2)) (And.intro (@str108) (And.intro (@zer108) (@eql28)))) (And.intro (And.intro (@neq28) (@eql32)) (And.intro (@neq32) (And.intro (@eql91) (@neq91))))))))) := And.intro (And.intro (And.intro (And.intro (And.intro (And.intro (And.intro (@lay2) (@und2)) (And.intro (@zer2) (@lay3))) (And.intro (And.intro (@und3) (@zer3)) (And.intro (@lay4) (And.intro (@und4) (@zer4))))) (And.intro (And.intro (And.intro (@lay5) (@und5)) (And.intro (@zer5) (@lay9))) (And.intro (And.intro (@und9) (@zer9)) (And.intro (@lay22) (And.intro (@elZ22) (@zOk22)))))) (And.intro (And.intro (And.intro (And.intro (@zer22) (@lay24)) (And.intro (@elZ24) (@zOk24))) (And.intro (And.intro (@zer24) (@lay26)) (And.intro (@fld26_0) (And.intro (@fla26_0) (@fld26_1))))) (And.intro (And.intro (And.intro (@fla26_1) (@fld26_2)) (And.intro (@fla26_2) (And.intro (@str26) (@zer26)))) (And.intro (And.intro (@lay28) (@fld28_0)) (And.intro (@fla28_0) (And.intro (@fld28_1) (@fla28_1))))))) (And.intro (And.intro (And.intro (And.intro (And.intro (@str28) (@zer28)) (And.intro (@lay32) (@fld32_0))) (And.intro (And.intro (@fla32_0) (@fld32_1)) (And.intro (@fla32_1) (And.intro (@fld32_2) (@fla32_2))))) (And.intro (And.intro (And.intro (@fld32_3) (@fla32_3)) (And.intro (@fld32_4) (And.intro (@fla32_4) (@str32)))) (And.intro (And.intro (@zer32) (@lay34)) (And.intro (@fld34_0) (And.intro (@fla34_0) (@fld34_1)))))) (And.intro (And.intro (And.intro (And.intro (@fla34_1) (@fld34_2)) (And.intro (@fla34_2) (@str34))) (And.intro (And.intro (@zer34) (@lay38)) (And.intro (@elZ38) (And.intro (@zOk38) (@zer38))))) (And.intro (And.intro (And.intro (@lay39) (@elZ39)) (And.intro (@zOk39) (And.intro (@zer39) (@lay41)))) (And.intro (And.intro (@fld41_0) (@fla41_0)) (And.intro (@fld41_1) (And.intro (@fla41_1) (@str41)))))))) (And.intro (And.intro (And.intro (And.intro (And.intro (And.intro (@zer41) (@lay45)) (And.intro (@fld45_0) (@fla45_0))) (And.intro (And.intro (@fld45_1) (@fla45_1)) (And.intro (@fld45_2) (And.intro (@fla45_2) (@str45))))) (And.intro (And.intro (And.intro (@zer45) (@lay48)) (And.intro (@fld48_0) (@fla48_0))) (And.intro (And.intro (@fld48_1) (@fla48_1)) (And.intro (@str48) (And.intro (@zer48) (@lay51)))))) (And.intro (And.intro (And.intro (And.intro (@fld51_0) (@fla51_0)) (And.intro (@fld51_1) (@fla51_1))) (And.intro (And.intro (@str51) (@zer51)) (And.intro (@lay59) (And.intro (@elZ59) (@zOk59))))) (And.intro (And.intro (And.intro (@zer59) (@lay61)) (And.intro (@fld61_0) (And.intro (@fla61_0) (@fld61_1)))) (And.intro (And.intro (@fla61_1) (@str61)) (And.intro (@zer61) (And.intro (@lay73) (@fld73_0))))))) (And.intro (And.intro (And.intro (And.intro (And.intro (@fla73_0) (@fld73_1)) (And.intro (@fla73_1) (@str73))) (And.intro (And.intro (@zer73) (@lay91)) (And.intro (@fld91_0) (And.intro (@fla91_0) (@fld91_1))))) (And.intro (And.intro (And.intro (@fla91_1) (@str91)) (And.intro (@zer91) (And.intro (@lay96) (@fld96_0)))) (And.intro (And.intro (@fla96_0) (@fld96_1)) (And.intro (@fla96_1) (And.intro (@str96) (@zer96)))))) (And.intro (And.intro (And.intro (And.intro (@lay97) (@elZ97)) (And.intro (@zOk97) (@zer97))) (And.intro (And.intro (@lay108) (@fld108_0)) (And.intro (@fla108_0) (And.intro (@fld108_1) (@fla108_1))))) (And.intro (And.intro (And.intro (@fld108_2) (@fla108_2)) (And.intro (@str108) (And.intro (@zer108) (@eql28)))) (And.intro (And.intro (@neq28) (@eql32)) (And.intro (@neq32) (And.intro (@eql91) (@neq91))))))))
end Go.BM
