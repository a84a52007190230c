/- Facts on the types of the program, by the kernel. -/
import Derived.Test.YtfggnccpbdfpeaaGreatProg
import Derived.Test.YtfggnccpbdfpeaaGreatC19
import Derived.KernelRfl
namespace Go.BM
open Go.Proofs
theorem lay2 : lay Tryz.prog 2 = some (false, 1) := by kernel_rfl
theorem und2 : Tryz.prog.underlying 2 = some (.int .i64) := by kernel_rfl
theorem zer2 : zeroV Tryz.prog 2 = some (.int .i64 0) := by kernel_rfl
theorem lay3 : lay Tryz.prog 3 = some (false, 1) := by kernel_rfl
theorem und3 : Tryz.prog.underlying 3 = some (.int .i64) := by kernel_rfl
theorem zer3 : zeroV Tryz.prog 3 = some (.int .i64 0) := by kernel_rfl
theorem lay4 : lay Tryz.prog 4 = some (false, 1) := by kernel_rfl
theorem und4 : Tryz.prog.underlying 4 = some .bool := by kernel_rfl
theorem zer4 : zeroV Tryz.prog 4 = some (.bool false) := by kernel_rfl
theorem lay22 : lay Tryz.prog 22 = some (false, 1) := by kernel_rfl
theorem elZ22 : elZ Tryz.prog 22 = some (2, 1, 8) := by kernel_rfl
theorem zOk22 : zOk Tryz.prog 2 1 = true := by kernel_rfl
theorem zer22 : zeroV Tryz.prog 22 = some (.slice none 0 0) := by kernel_rfl
theorem lay24 : lay Tryz.prog 24 = some (true, 2) := by kernel_rfl
theorem fld24_0 : fldOff Tryz.prog 24 0 = some 0 := by kernel_rfl
theorem fla24_0 : fldAt Tryz.prog 24 0 = some (0, false, 1) := by kernel_rfl
theorem fld24_1 : fldOff Tryz.prog 24 1 = some 1 := by kernel_rfl
theorem fla24_1 : fldAt Tryz.prog 24 1 = some (1, false, 1) := by kernel_rfl
theorem str24 : strT Tryz.prog 24 = some ([.slice none 0 0, .int .i64 0], [(0, 1), (1, 1)]) := by kernel_rfl
theorem zer24 : zeroV Tryz.prog 24 = some (.agg #[.slice none 0 0, .int .i64 0]) := by kernel_rfl
theorem lay25 : lay Tryz.prog 25 = some (false, 1) := by kernel_rfl
theorem elZ25 : elZ Tryz.prog 25 = some (76, 3, 24) := by kernel_rfl
theorem zOk25 : zOk Tryz.prog 76 3 = true := by kernel_rfl
theorem zer25 : zeroV Tryz.prog 25 = some (.slice none 0 0) := by kernel_rfl
theorem lay26 : lay Tryz.prog 26 = some (false, 1) := by kernel_rfl
theorem elZ26 : elZ Tryz.prog 26 = some (70, 3, 40) := by kernel_rfl
theorem zOk26 : zOk Tryz.prog 70 3 = true := by kernel_rfl
theorem zer26 : zeroV Tryz.prog 26 = some (.slice none 0 0) := by kernel_rfl
theorem lay27 : lay Tryz.prog 27 = some (false, 1) := by kernel_rfl
theorem elZ27 : elZ Tryz.prog 27 = some (88, 6, 48) := by kernel_rfl
theorem zOk27 : zOk Tryz.prog 88 6 = true := by kernel_rfl
theorem zer27 : zeroV Tryz.prog 27 = some (.slice none 0 0) := by kernel_rfl
theorem lay28 : lay Tryz.prog 28 = some (false, 1) := by kernel_rfl
theorem elZ28 : elZ Tryz.prog 28 = some (22, 1, 24) := by kernel_rfl
theorem zOk28 : zOk Tryz.prog 22 1 = true := by kernel_rfl
theorem zer28 : zeroV Tryz.prog 28 = some (.slice none 0 0) := by kernel_rfl
theorem lay30 : lay Tryz.prog 30 = some (true, 7) := by kernel_rfl
theorem fld30_0 : fldOff Tryz.prog 30 0 = some 0 := by kernel_rfl
theorem fla30_0 : fldAt Tryz.prog 30 0 = some (0, true, 2) := by kernel_rfl
theorem fld30_1 : fldOff Tryz.prog 30 1 = some 2 := by kernel_rfl
theorem fla30_1 : fldAt Tryz.prog 30 1 = some (2, false, 1) := by kernel_rfl
theorem fld30_2 : fldOff Tryz.prog 30 2 = some 3 := by kernel_rfl
theorem fla30_2 : fldAt Tryz.prog 30 2 = some (3, false, 1) := by kernel_rfl
theorem fld30_3 : fldOff Tryz.prog 30 3 = some 4 := by kernel_rfl
theorem fla30_3 : fldAt Tryz.prog 30 3 = some (4, false, 1) := by kernel_rfl
theorem fld30_4 : fldOff Tryz.prog 30 4 = some 5 := by kernel_rfl
theorem fla30_4 : fldAt Tryz.prog 30 4 = some (5, false, 1) := by kernel_rfl
theorem fld30_5 : fldOff Tryz.prog 30 5 = some 6 := by kernel_rfl
theorem fla30_5 : fldAt Tryz.prog 30 5 = some (6, false, 1) := by kernel_rfl
theorem str30 : strT Tryz.prog 30 = some ([.slice none 0 0, .int .i64 0, .slice none 0 0, .slice none 0 0, .slice none 0 0, .slice none 0 0, .slice none 0 0], [(0, 2), (2, 1), (3, 1), (4, 1), (5, 1), (6, 1)]) := by kernel_rfl
theorem zer30 : zeroV Tryz.prog 30 = some (.agg #[.slice none 0 0, .int .i64 0, .slice none 0 0, .slice none 0 0, .slice none 0 0, .slice none 0 0, .slice none 0 0]) := by kernel_rfl
theorem lay33 : lay Tryz.prog 33 = some (true, 2) := by kernel_rfl
theorem fld33_0 : fldOff Tryz.prog 33 0 = some 0 := by kernel_rfl
theorem fla33_0 : fldAt Tryz.prog 33 0 = some (0, false, 1) := by kernel_rfl
theorem fld33_1 : fldOff Tryz.prog 33 1 = some 1 := by kernel_rfl
theorem fla33_1 : fldAt Tryz.prog 33 1 = some (1, false, 1) := by kernel_rfl
theorem str33 : strT Tryz.prog 33 = some ([.slice none 0 0, .int .i64 0], [(0, 1), (1, 1)]) := by kernel_rfl
theorem zer33 : zeroV Tryz.prog 33 = some (.agg #[.slice none 0 0, .int .i64 0]) := by kernel_rfl
theorem lay34 : lay Tryz.prog 34 = some (false, 1) := by kernel_rfl
theorem elZ34 : elZ Tryz.prog 34 = some (74, 3, 24) := by kernel_rfl
theorem zOk34 : zOk Tryz.prog 74 3 = true := by kernel_rfl
theorem zer34 : zeroV Tryz.prog 34 = some (.slice none 0 0) := by kernel_rfl
theorem lay35 : lay Tryz.prog 35 = some (false, 1) := by kernel_rfl
theorem elZ35 : elZ Tryz.prog 35 = some (79, 3, 40) := by kernel_rfl
theorem zOk35 : zOk Tryz.prog 79 3 = true := by kernel_rfl
theorem zer35 : zeroV Tryz.prog 35 = some (.slice none 0 0) := by kernel_rfl
theorem lay36 : lay Tryz.prog 36 = some (false, 1) := by kernel_rfl
theorem elZ36 : elZ Tryz.prog 36 = some (84, 6, 48) := by kernel_rfl
theorem zOk36 : zOk Tryz.prog 84 6 = true := by kernel_rfl
theorem zer36 : zeroV Tryz.prog 36 = some (.slice none 0 0) := by kernel_rfl
theorem lay38 : lay Tryz.prog 38 = some (true, 7) := by kernel_rfl
theorem fld38_0 : fldOff Tryz.prog 38 0 = some 0 := by kernel_rfl
theorem fla38_0 : fldAt Tryz.prog 38 0 = some (0, true, 2) := by kernel_rfl
theorem fld38_1 : fldOff Tryz.prog 38 1 = some 2 := by kernel_rfl
theorem fla38_1 : fldAt Tryz.prog 38 1 = some (2, false, 1) := by kernel_rfl
theorem fld38_2 : fldOff Tryz.prog 38 2 = some 3 := by kernel_rfl
theorem fla38_2 : fldAt Tryz.prog 38 2 = some (3, false, 1) := by kernel_rfl
theorem fld38_3 : fldOff Tryz.prog 38 3 = some 4 := by kernel_rfl
theorem fla38_3 : fldAt Tryz.prog 38 3 = some (4, false, 1) := by kernel_rfl
theorem fld38_4 : fldOff Tryz.prog 38 4 = some 5 := by kernel_rfl
theorem fla38_4 : fldAt Tryz.prog 38 4 = some (5, false, 1) := by kernel_rfl
theorem fld38_5 : fldOff Tryz.prog 38 5 = some 6 := by kernel_rfl
theorem fla38_5 : fldAt Tryz.prog 38 5 = some (6, false, 1) := by kernel_rfl
theorem str38 : strT Tryz.prog 38 = some ([.slice none 0 0, .int .i64 0, .slice none 0 0, .slice none 0 0, .slice none 0 0, .slice none 0 0, .slice none 0 0], [(0, 2), (2, 1), (3, 1), (4, 1), (5, 1), (6, 1)]) := by kernel_rfl
theorem zer38 : zeroV Tryz.prog 38 = some (.agg #[.slice none 0 0, .int .i64 0, .slice none 0 0, .slice none 0 0, .slice none 0 0, .slice none 0 0, .slice none 0 0]) := by kernel_rfl
theorem lay49 : lay Tryz.prog 49 = some (false, 1) := by kernel_rfl
theorem zer49 : zeroV Tryz.prog 49 = some (.pointer none) := by kernel_rfl
theorem lay68 : lay Tryz.prog 68 = some (false, 1) := by kernel_rfl
theorem elZ68 : elZ Tryz.prog 68 = some (132, 3, 24) := by kernel_rfl
theorem zOk68 : zOk Tryz.prog 132 3 = true := by kernel_rfl
theorem zer68 : zeroV Tryz.prog 68 = some (.slice none 0 0) := by kernel_rfl
theorem lay70 : lay Tryz.prog 70 = some (true, 3) := by kernel_rfl
theorem fld70_0 : fldOff Tryz.prog 70 0 = some 0 := by kernel_rfl
theorem fla70_0 : fldAt Tryz.prog 70 0 = some (0, false, 1) := by kernel_rfl
theorem fld70_1 : fldOff Tryz.prog 70 1 = some 1 := by kernel_rfl
theorem fla70_1 : fldAt Tryz.prog 70 1 = some (1, false, 1) := by kernel_rfl
theorem fld70_2 : fldOff Tryz.prog 70 2 = some 2 := by kernel_rfl
theorem fla70_2 : fldAt Tryz.prog 70 2 = some (2, false, 1) := by kernel_rfl
theorem str70 : strT Tryz.prog 70 = some ([.int .i64 0, .int .i64 0, .slice none 0 0], [(0, 1), (1, 1), (2, 1)]) := by kernel_rfl
theorem zer70 : zeroV Tryz.prog 70 = some (.agg #[.int .i64 0, .int .i64 0, .slice none 0 0]) := by kernel_rfl
theorem lay74 : lay Tryz.prog 74 = some (true, 3) := by kernel_rfl
theorem fld74_0 : fldOff Tryz.prog 74 0 = some 0 := by kernel_rfl
theorem fla74_0 : fldAt Tryz.prog 74 0 = some (0, false, 1) := by kernel_rfl
theorem fld74_1 : fldOff Tryz.prog 74 1 = some 1 := by kernel_rfl
theorem fla74_1 : fldAt Tryz.prog 74 1 = some (1, false, 1) := by kernel_rfl
theorem fld74_2 : fldOff Tryz.prog 74 2 = some 2 := by kernel_rfl
theorem fla74_2 : fldAt Tryz.prog 74 2 = some (2, false, 1) := by kernel_rfl
theorem str74 : strT Tryz.prog 74 = some ([.int .i64 0, .int .i64 0, .int .i64 0], [(0, 1), (1, 1), (2, 1)]) := by kernel_rfl
theorem zer74 : zeroV Tryz.prog 74 = some (.agg #[.int .i64 0, .int .i64 0, .int .i64 0]) := by kernel_rfl
theorem lay76 : lay Tryz.prog 76 = some (true, 3) := by kernel_rfl
theorem fld76_0 : fldOff Tryz.prog 76 0 = some 0 := by kernel_rfl
theorem fla76_0 : fldAt Tryz.prog 76 0 = some (0, false, 1) := by kernel_rfl
theorem fld76_1 : fldOff Tryz.prog 76 1 = some 1 := by kernel_rfl
theorem fla76_1 : fldAt Tryz.prog 76 1 = some (1, false, 1) := by kernel_rfl
theorem fld76_2 : fldOff Tryz.prog 76 2 = some 2 := by kernel_rfl
theorem fla76_2 : fldAt Tryz.prog 76 2 = some (2, false, 1) := by kernel_rfl
theorem str76 : strT Tryz.prog 76 = some ([.int .i64 0, .int .i64 0, .int .i64 0], [(0, 1), (1, 1), (2, 1)]) := by kernel_rfl
theorem zer76 : zeroV Tryz.prog 76 = some (.agg #[.int .i64 0, .int .i64 0, .int .i64 0]) := by kernel_rfl
theorem lay77 : lay Tryz.prog 77 = some (false, 1) := by kernel_rfl
theorem elZ77 : elZ Tryz.prog 77 = some (116, 3, 24) := by kernel_rfl
theorem zOk77 : zOk Tryz.prog 116 3 = true := by kernel_rfl
theorem zer77 : zeroV Tryz.prog 77 = some (.slice none 0 0) := by kernel_rfl
theorem lay79 : lay Tryz.prog 79 = some (true, 3) := by kernel_rfl
theorem fld79_0 : fldOff Tryz.prog 79 0 = some 0 := by kernel_rfl
theorem fla79_0 : fldAt Tryz.prog 79 0 = some (0, false, 1) := by kernel_rfl
theorem fld79_1 : fldOff Tryz.prog 79 1 = some 1 := by kernel_rfl
theorem fla79_1 : fldAt Tryz.prog 79 1 = some (1, false, 1) := by kernel_rfl
theorem fld79_2 : fldOff Tryz.prog 79 2 = some 2 := by kernel_rfl
theorem fla79_2 : fldAt Tryz.prog 79 2 = some (2, false, 1) := by kernel_rfl
theorem str79 : strT Tryz.prog 79 = some ([.int .i64 0, .int .i64 0, .slice none 0 0], [(0, 1), (1, 1), (2, 1)]) := by kernel_rfl
theorem zer79 : zeroV Tryz.prog 79 = some (.agg #[.int .i64 0, .int .i64 0, .slice none 0 0]) := by kernel_rfl
theorem lay82 : lay Tryz.prog 82 = some (true, 2) := by kernel_rfl
theorem fld82_0 : fldOff Tryz.prog 82 0 = some 0 := by kernel_rfl
theorem fla82_0 : fldAt Tryz.prog 82 0 = some (0, false, 1) := by kernel_rfl
theorem fld82_1 : fldOff Tryz.prog 82 1 = some 1 := by kernel_rfl
theorem fla82_1 : fldAt Tryz.prog 82 1 = some (1, false, 1) := by kernel_rfl
theorem str82 : strT Tryz.prog 82 = some ([.int .i64 0, .int .i64 0], [(0, 1), (1, 1)]) := by kernel_rfl
theorem zer82 : zeroV Tryz.prog 82 = some (.agg #[.int .i64 0, .int .i64 0]) := by kernel_rfl
theorem lay84 : lay Tryz.prog 84 = some (true, 6) := by kernel_rfl
theorem fld84_0 : fldOff Tryz.prog 84 0 = some 0 := by kernel_rfl
theorem fla84_0 : fldAt Tryz.prog 84 0 = some (0, false, 1) := by kernel_rfl
theorem fld84_1 : fldOff Tryz.prog 84 1 = some 1 := by kernel_rfl
theorem fla84_1 : fldAt Tryz.prog 84 1 = some (1, false, 1) := by kernel_rfl
theorem fld84_2 : fldOff Tryz.prog 84 2 = some 2 := by kernel_rfl
theorem fla84_2 : fldAt Tryz.prog 84 2 = some (2, false, 1) := by kernel_rfl
theorem fld84_3 : fldOff Tryz.prog 84 3 = some 3 := by kernel_rfl
theorem fla84_3 : fldAt Tryz.prog 84 3 = some (3, true, 2) := by kernel_rfl
theorem fld84_4 : fldOff Tryz.prog 84 4 = some 5 := by kernel_rfl
theorem fla84_4 : fldAt Tryz.prog 84 4 = some (5, false, 1) := by kernel_rfl
theorem str84 : strT Tryz.prog 84 = some ([.int .i64 0, .int .i64 0, .int .i64 0, .int .i64 0, .int .i64 0, .int .i64 0], [(0, 1), (1, 1), (2, 1), (3, 2), (5, 1)]) := by kernel_rfl
theorem zer84 : zeroV Tryz.prog 84 = some (.agg #[.int .i64 0, .int .i64 0, .int .i64 0, .int .i64 0, .int .i64 0, .int .i64 0]) := by kernel_rfl
theorem lay86 : lay Tryz.prog 86 = some (true, 2) := by kernel_rfl
theorem fld86_0 : fldOff Tryz.prog 86 0 = some 0 := by kernel_rfl
theorem fla86_0 : fldAt Tryz.prog 86 0 = some (0, false, 1) := by kernel_rfl
theorem fld86_1 : fldOff Tryz.prog 86 1 = some 1 := by kernel_rfl
theorem fla86_1 : fldAt Tryz.prog 86 1 = some (1, false, 1) := by kernel_rfl
theorem str86 : strT Tryz.prog 86 = some ([.int .i64 0, .int .i64 0], [(0, 1), (1, 1)]) := by kernel_rfl
theorem zer86 : zeroV Tryz.prog 86 = some (.agg #[.int .i64 0, .int .i64 0]) := by kernel_rfl
theorem lay88 : lay Tryz.prog 88 = some (true, 6) := by kernel_rfl
theorem fld88_0 : fldOff Tryz.prog 88 0 = some 0 := by kernel_rfl
theorem fla88_0 : fldAt Tryz.prog 88 0 = some (0, false, 1) := by kernel_rfl
theorem fld88_1 : fldOff Tryz.prog 88 1 = some 1 := by kernel_rfl
theorem fla88_1 : fldAt Tryz.prog 88 1 = some (1, false, 1) := by kernel_rfl
theorem fld88_2 : fldOff Tryz.prog 88 2 = some 2 := by kernel_rfl
theorem fla88_2 : fldAt Tryz.prog 88 2 = some (2, false, 1) := by kernel_rfl
theorem fld88_3 : fldOff Tryz.prog 88 3 = some 3 := by kernel_rfl
theorem fla88_3 : fldAt Tryz.prog 88 3 = some (3, true, 2) := by kernel_rfl
theorem fld88_4 : fldOff Tryz.prog 88 4 = some 5 := by kernel_rfl
theorem fla88_4 : fldAt Tryz.prog 88 4 = some (5, false, 1) := by kernel_rfl
theorem str88 : strT Tryz.prog 88 = some ([.int .i64 0, .int .i64 0, .int .i64 0, .int .i64 0, .int .i64 0, .int .i64 0], [(0, 1), (1, 1), (2, 1), (3, 2), (5, 1)]) := by kernel_rfl
theorem zer88 : zeroV Tryz.prog 88 = some (.agg #[.int .i64 0, .int .i64 0, .int .i64 0, .int .i64 0, .int .i64 0, .int .i64 0]) := by kernel_rfl
theorem lay116 : lay Tryz.prog 116 = some (true, 3) := by kernel_rfl
theorem fld116_0 : fldOff Tryz.prog 116 0 = some 0 := by kernel_rfl
theorem fla116_0 : fldAt Tryz.prog 116 0 = some (0, true, 2) := by kernel_rfl
theorem fld116_1 : fldOff Tryz.prog 116 1 = some 2 := by kernel_rfl
theorem fla116_1 : fldAt Tryz.prog 116 1 = some (2, false, 1) := by kernel_rfl
theorem str116 : strT Tryz.prog 116 = some ([.int .i64 0, .int .i64 0, .int .i64 0], [(0, 2), (2, 1)]) := by kernel_rfl
theorem zer116 : zeroV Tryz.prog 116 = some (.agg #[.int .i64 0, .int .i64 0, .int .i64 0]) := by kernel_rfl
theorem lay132 : lay Tryz.prog 132 = some (true, 3) := by kernel_rfl
theorem fld132_0 : fldOff Tryz.prog 132 0 = some 0 := by kernel_rfl
theorem fla132_0 : fldAt Tryz.prog 132 0 = some (0, true, 2) := by kernel_rfl
theorem fld132_1 : fldOff Tryz.prog 132 1 = some 2 := by kernel_rfl
theorem fla132_1 : fldAt Tryz.prog 132 1 = some (2, false, 1) := by kernel_rfl
theorem str132 : strT Tryz.prog 132 = some ([.int .i64 0, .int .i64 0, .int .i64 0], [(0, 2), (2, 1)]) := by kernel_rfl
theorem zer132 : zeroV Tryz.prog 132 = some (.agg #[.int .i64 0, .int .i64 0, .int .i64 0]) := by kernel_rfl
theorem eqA82 (d : Nat) (w : World) (a_0 : Int) (a_1 : Int) (b_0 : Int) (b_1 : Int) : (Op.equalIn (d + 2) 82 (.agg #[.int .i64 a_0, .int .i64 a_1]) (.agg #[.int .i64 b_0, .int .i64 b_1])).run Tryz.prog w = .ok ((a_0 == b_0) && (a_1 == b_1)) w := by
  refine eqs_of Tryz.underlying82 (by kernel_rfl) ?_
  refine eqf_more (by rfl) (by go_simp; try rfl) (by go_simp; try rfl) (by go_simp) ?_
  exact eqf_one (by rfl) (by go_simp; try rfl) (by go_simp; try rfl) (by go_simp)
theorem eql82 (xo yo : Operand) (a_0 : Int) (a_1 : Int) (b_0 : Int) (b_1 : Int) : binS Tryz.prog .eql 82 xo yo (.agg #[.int .i64 a_0, .int .i64 a_1]) (.agg #[.int .i64 b_0, .int .i64 b_1]) = some (.bool (((a_0 == b_0) && (a_1 == b_1)))) := eql_of 2 (by decide) (by simp [pureV, flatV]) (by simp [pureV, flatV]) (by kernel_rfl) fun d w => eqA82 d w _ _ _ _
theorem neq82 (xo yo : Operand) (a_0 : Int) (a_1 : Int) (b_0 : Int) (b_1 : Int) : binS Tryz.prog .neq 82 xo yo (.agg #[.int .i64 a_0, .int .i64 a_1]) (.agg #[.int .i64 b_0, .int .i64 b_1]) = some (.bool (!((a_0 == b_0) && (a_1 == b_1)))) := neq_of 2 (by decide) (by simp [pureV, flatV]) (by simp [pureV, flatV]) (by kernel_rfl) fun d w => eqA82 d w _ _ _ _
theorem eqA84 (d : Nat) (w : World) (a_0 : Int) (a_1 : Int) (a_2 : Int) (a_3_0 : Int) (a_3_1 : Int) (a_4 : Int) (b_0 : Int) (b_1 : Int) (b_2 : Int) (b_3_0 : Int) (b_3_1 : Int) (b_4 : Int) : (Op.equalIn (d + 3) 84 (.agg #[.int .i64 a_0, .int .i64 a_1, .int .i64 a_2, .int .i64 a_3_0, .int .i64 a_3_1, .int .i64 a_4]) (.agg #[.int .i64 b_0, .int .i64 b_1, .int .i64 b_2, .int .i64 b_3_0, .int .i64 b_3_1, .int .i64 b_4])).run Tryz.prog w = .ok ((a_0 == b_0) && ((a_1 == b_1) && ((a_2 == b_2) && (((a_3_0 == b_3_0) && (a_3_1 == b_3_1)) && (a_4 == b_4))))) w := by
  refine eqs_of Tryz.underlying84 (by kernel_rfl) ?_
  refine eqf_more (by rfl) (by go_simp; try rfl) (by go_simp; try rfl) (by go_simp) ?_
  refine eqf_more (by rfl) (by go_simp; try rfl) (by go_simp; try rfl) (by go_simp) ?_
  refine eqf_more (by rfl) (by go_simp; try rfl) (by go_simp; try rfl) (by go_simp) ?_
  refine eqf_more (by rfl) (by go_simp; try rfl) (by go_simp; try rfl) (eqA82 (d + 0) _ _ _ _ _) ?_
  exact eqf_one (by rfl) (by go_simp; try rfl) (by go_simp; try rfl) (by go_simp)
theorem eql84 (xo yo : Operand) (a_0 : Int) (a_1 : Int) (a_2 : Int) (a_3_0 : Int) (a_3_1 : Int) (a_4 : Int) (b_0 : Int) (b_1 : Int) (b_2 : Int) (b_3_0 : Int) (b_3_1 : Int) (b_4 : Int) : binS Tryz.prog .eql 84 xo yo (.agg #[.int .i64 a_0, .int .i64 a_1, .int .i64 a_2, .int .i64 a_3_0, .int .i64 a_3_1, .int .i64 a_4]) (.agg #[.int .i64 b_0, .int .i64 b_1, .int .i64 b_2, .int .i64 b_3_0, .int .i64 b_3_1, .int .i64 b_4]) = some (.bool (((a_0 == b_0) && ((a_1 == b_1) && ((a_2 == b_2) && (((a_3_0 == b_3_0) && (a_3_1 == b_3_1)) && (a_4 == b_4))))))) := eql_of 3 (by decide) (by simp [pureV, flatV]) (by simp [pureV, flatV]) (by kernel_rfl) fun d w => eqA84 d w _ _ _ _ _ _ _ _ _ _ _ _
theorem neq84 (xo yo : Operand) (a_0 : Int) (a_1 : Int) (a_2 : Int) (a_3_0 : Int) (a_3_1 : Int) (a_4 : Int) (b_0 : Int) (b_1 : Int) (b_2 : Int) (b_3_0 : Int) (b_3_1 : Int) (b_4 : Int) : binS Tryz.prog .neq 84 xo yo (.agg #[.int .i64 a_0, .int .i64 a_1, .int .i64 a_2, .int .i64 a_3_0, .int .i64 a_3_1, .int .i64 a_4]) (.agg #[.int .i64 b_0, .int .i64 b_1, .int .i64 b_2, .int .i64 b_3_0, .int .i64 b_3_1, .int .i64 b_4]) = some (.bool (!((a_0 == b_0) && ((a_1 == b_1) && ((a_2 == b_2) && (((a_3_0 == b_3_0) && (a_3_1 == b_3_1)) && (a_4 == b_4))))))) := neq_of 3 (by decide) (by simp [pureV, flatV]) (by simp [pureV, flatV]) (by kernel_rfl) fun d w => eqA84 d w _ _ _ _ _ _ _ _ _ _ _ _
theorem tys : type_of% (And.intro (And.intro (And.intro (And.intro (And.intro (And.intro (And.intro (@lay2) (@und2)) (And.intro (@zer2) (And.intro (@lay3) (@und3)))) (And.intro (And.intro (@zer3) (And.intro (@lay4) (@und4))) (And.intro (@zer4) (And.intro (@lay22) (@elZ22))))) (And.intro (And.intro (And.intro (@zOk22) (And.intro (@zer22) (@lay24))) (And.intro (@fld24_0) (And.intro (@fla24_0) (@fld24_1)))) (And.intro (And.intro (@fla24_1) (And.intro (@str24) (@zer24))) (And.intro (@lay25) (And.intro (@elZ25) (@zOk25)))))) (And.intro (And.intro (And.intro (And.intro (@zer25) (And.intro (@lay26) (@elZ26))) (And.intro (@zOk26) (And.intro (@zer26) (@lay27)))) (And.intro (And.intro (@elZ27) (And.intro (@zOk27) (@zer27))) (And.intro (@lay28) (And.intro (@elZ28) (@zOk28))))) (And.intro (And.intro (And.intro (@zer28) (And.intro (@lay30) (@fld30_0))) (And.intro (@fla30_0) (And.intro (@fld30_1) (@fla30_1)))) (And.intro (And.intro (@fld30_2) (And.intro (@fla30_2) (@fld30_3))) (And.intro (@fla30_3) (And.intro (@fld30_4) (@fla30_4))))))) (And.intro (And.intro (And.intro (And.intro (And.intro (@fld30_5) (@fla30_5)) (And.intro (@str30) (And.intro (@zer30) (@lay33)))) (And.intro (And.intro (@fld33_0) (And.intro (@fla33_0) (@fld33_1))) (And.intro (@fla33_1) (And.intro (@str33) (@zer33))))) (And.intro (And.intro (And.intro (@lay34) (And.intro (@elZ34) (@zOk34))) (And.intro (@zer34) (And.intro (@lay35) (@elZ35)))) (And.intro (And.intro (@zOk35) (And.intro (@zer35) (@lay36))) (And.intro (@elZ36) (And.intro (@zOk36) (@zer36)))))) (And.intro (And.intro (And.intro (And.intro (@lay38) (And.intro (@fld38_0) (@fla38_0))) (And.intro (@fld38_1) (And.intro (@fla38_1) (@fld38_2)))) (And.intro (And.intro (@fla38_2) (And.intro (@fld38_3) (@fla38_3))) (And.intro (@fld38_4) (And.intro (@fla38_4) (@fld38_5))))) (And.intro (And.intro (And.intro (@fla38_5) (And.intro (@str38) (@zer38))) (And.intro (@lay49) (And.intro (@zer49) (@lay68)))) (And.intro (And.intro (@elZ68) (And.intro (@zOk68) (@zer68))) (And.intro (@lay70) (And.intro (@fld70_0) (@fla70_0)))))))) (And.intro (And.intro (And.intro (And.intro (And.intro (And.intro (@fld70_1) (@fla70_1)) (And.intro (@fld70_2) (And.intro (@fla70_2) (@str70)))) (And.intro (And.intro (@zer70) (And.intro (@lay74) (@fld74_0))) (And.intro (@fla74_0) (And.intro (@fld74_1) (@fla74_1))))) (And.intro (And.intro (And.intro (@fld74_2) (And.intro (@fla74_2) (@str74))) (And.intro (@zer74) (And.intro (@lay76) (@fld76_0)))) (And.intro (And.intro (@fla76_0) (And.intro (@fld76_1) (@fla76_1))) (And.intro (@fld76_2) (And.intro (@fla76_2) (@str76)))))) (And.intro (And.intro (And.intro (And.intro (@zer76) (And.intro (@lay77) (@elZ77))) (And.intro (@zOk77) (And.intro (@zer77) (@lay79)))) (And.intro (And.intro (@fld79_0) (And.intro (@fla79_0) (@fld79_1))) (And.intro (@fla79_1) (And.intro (@fld79_2) (@fla79_2))))) (And.intro (And.intro (And.intro (@str79) (And.intro (@zer79) (@lay82))) (And.intro (@fld82_0) (And.intro (@fla82_0) (@fld82_1)))) (And.intro (And.intro (@fla82_1) (And.intro (@str82) (@zer82))) (And.intro (@lay84) (And.intro (@fld84_0) (@fla84_0))))))) (And.intro (And.intro (And.intro (And.intro (And.intro (@fld84_1) (And.intro (@fla84_1) (@fld84_2))) (And.intro (@fla84_2) (And.intro (@fld84_3) (@fla84_3)))) (And.intro (And.intro (@fld84_4) (And.intro (@fla84_4) (@str84))) (And.intro (@zer84) (And.intro (@lay86) (@fld86_0))))) (And.intro (And.intro (And.intro (@fla86_0) (And.intro (@fld86_1) (@fla86_1))) (And.intro (@str86) (And.intro (@zer86) (@lay88)))) (And.intro (And.intro (@fld88_0) (And.intro (@fla88_0) (@fld88_1))) (And.intro (@fla88_1) (And.intro (@fld88_2) (@fla88_2)))))) (And.intro (And.intro (And.intro (And.intro (@fld88_3) (And.intro (@fla88_3) (@fld88_4))) (And.intro (@fla88_4) (And.intro (@str88) (@zer88)))) (And.intro (And.intro (@lay116) (And.intro (@fld116_0) (@fla116_0))) (And.intro (@fld116_1) (And.intro (@fla116_1) (@str116))))) (And.intro (And.intro (And.intro (@zer116) (And.intro (@lay132) (@fld132_0))) (And.intro (@fla132_0) (And.intro (@fld132_1) (@fla132_1)))) (And.intro (And.intro (@str132) (And.intro (@zer132) (@eql82))) (And.intro (@neq82) (And.intro (@eql84) (@neq84))))))))) := And.intro (And.intro (And.intro (And.intro (And.intro (And.intro (And.intro (@lay2) (@und2)) (And.intro (@zer2) (And.intro (@lay3) (@und3)))) (And.intro (And.intro (@zer3) (And.intro (@lay4) (@und4))) (And.intro (@zer4) (And.intro (@lay22) (@elZ22))))) (And.intro (And.intro (And.intro (@zOk22) (And.intro (@zer22) (@lay24))) (And.intro (@fld24_0) (And.intro (@fla24_0) (@fld24_1)))) (And.intro (And.intro (@fla24_1) (And.intro (@str24) (@zer24))) (And.intro (@lay25) (And.intro (@elZ25) (@zOk25)))))) (And.intro (And.intro (And.intro (And.intro (@zer25) (And.intro (@lay26) (@elZ26))) (And.intro (@zOk26) (And.intro (@zer26) (@lay27)))) (And.intro (And.intro (@elZ27) (And.intro (@zOk27) (@zer27))) (And.intro (@lay28) (And.intro (@elZ28) (@zOk28))))) (And.intro (And.intro (And.intro (@zer28) (And.intro (@lay30) (@fld30_0))) (And.intro (@fla30_0) (And.intro (@fld30_1) (@fla30_1)))) (And.intro (And.intro (@fld30_2) (And.intro (@fla30_2) (@fld30_3))) (And.intro (@fla30_3) (And.intro (@fld30_4) (@fla30_4))))))) (And.intro (And.intro (And.intro (And.intro (And.intro (@fld30_5) (@fla30_5)) (And.intro (@str30) (And.intro (@zer30) (@lay33)))) (And.intro (And.intro (@fld33_0) (And.intro (@fla33_0) (@fld33_1))) (And.intro (@fla33_1) (And.intro (@str33) (@zer33))))) (And.intro (And.intro (And.intro (@lay34) (And.intro (@elZ34) (@zOk34))) (And.intro (@zer34) (And.intro (@lay35) (@elZ35)))) (And.intro (And.intro (@zOk35) (And.intro (@zer35) (@lay36))) (And.intro (@elZ36) (And.intro (@zOk36) (@zer36)))))) (And.intro (And.intro (And.intro (And.intro (@lay38) (And.intro (@fld38_0) (@fla38_0))) (And.intro (@fld38_1) (And.intro (@fla38_1) (@fld38_2)))) (And.intro (And.intro (@fla38_2) (And.intro (@fld38_3) (@fla38_3))) (And.intro (@fld38_4) (And.intro (@fla38_4) (@fld38_5))))) (And.intro (And.intro (And.intro (@fla38_5) (And.intro (@str38) (@zer38))) (And.intro (@lay49) (And.intro (@zer49) (@lay68)))) (And.intro (And.intro (@elZ68) (And.intro (@zOk68) (@zer68))) (And.intro (@lay70) (And.intro (@fld70_0) (@fla70_0)))))))) (And.intro (And.intro (And.intro (And.intro (And.intro (And.intro (@fld70_1) (@fla70_1)) (And.intro (@fld70_2) (And.intro (@fla70_2) (@str70)))) (And.intro (And.intro (@zer70) (And.intro (@lay74) (@fld74_0))) (And.intro (@fla74_0) (And.intro (@fld74_1) (@fla74_1))))) (And.intro (And.intro (And.intro (@fld74_2) (And.intro (@fla74_2) (@str74))) (And.intro (@zer74) (And.intro (@lay76) (@fld76_0)))) (And.intro (And.intro (@fla76_0) (And.intro (@fld76_1) (@fla76_1))) (And.intro (@fld76_2) (And.intro (@fla76_2) (@str76)))))) (And.intro (And.intro (And.intro (And.intro (@zer76) (And.intro (@lay77) (@elZ77))) (And.intro (@zOk77) (And.intro (@zer77) (@lay79)))) (And.intro (And.intro (@fld79_0) (And.intro (@fla79_0) (@fld79_1))) (And.intro (@fla79_1) (And.intro (@fld79_2) (@fla79_2))))) (And.intro (And.intro (And.intro (@str79) (And.intro (@zer79) (@lay82))) (And.intro (@fld82_0) (And.intro (@fla82_0) (@fld82_1)))) (And.intro (And.intro (@fla82_1) (And.intro (@str82) (@zer82))) (And.intro (@lay84) (And.intro (@fld84_0) (@fla84_0))))))) (And.intro (And.intro (And.intro (And.intro (And.intro (@fld84_1) (And.intro (@fla84_1) (@fld84_2))) (And.intro (@fla84_2) (And.intro (@fld84_3) (@fla84_3)))) (And.intro (And.intro (@fld84_4) (And.intro (@fla84_4) (@str84))) (And.intro (@zer84) (And.intro (@lay86) (@fld86_0))))) (And.intro (And.intro (And.intro (@fla86_0) (And.intro (@fld86_1) (@fla86_1))) (And.intro (@str86) (And.intro (@zer86) (@lay88)))) (And.intro (And.intro (@fld88_0) (And.intro (@fla88_0) (@fld88_1))) (And.intro (@fla88_1) (And.intro (@fld88_2) (@fla88_2)))))) (And.intro (And.intro (And.intro (And.intro (@fld88_3) (And.intro (@fla88_3) (@fld88_4))) (And.intro (@fla88_4) (And.intro (@str88) (@zer88)))) (And.intro (And.intro (@lay116) (And.intro (@fld116_0) (@fla116_0))) (And.intro (@fld116_1) (And.intro (@fla116_1) (@str116))))) (And.intro (And.intro (And.intro (@zer116) (And.intro (@lay132) (@fld132_0))) (And.intro (@fla132_0) (And.intro (@fld132_1) (@fla132_1)))) (And.intro (And.intro (@str132) (And.intro (@zer132) (@eql82))) (And.intro (@neq82) (And.intro (@eql84) (@neq84))))))))
end Go.BM
