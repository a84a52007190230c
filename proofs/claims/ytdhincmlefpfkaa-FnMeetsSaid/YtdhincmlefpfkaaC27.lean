/- Numbers in decimal digits. -/
import Derived.Test.YtdhincmlefpfkaaC26
set_option linter.unusedVariables false
namespace Go.BM
/-- The digits of a number, none for 0. -/
def dgt (n : Nat) : List UInt8 := if n = 0 then [] else dgt (n / 10) ++ [UInt8.ofNat (48 + n % 10)]
termination_by n
decreasing_by omega
theorem dgt_zero : dgt 0 = [] := by unfold dgt; rfl
theorem dgt_pos {n : Nat} (h : 0 < n) : dgt n = dgt (n / 10) ++ [UInt8.ofNat (48 + n % 10)] := by rw [dgt, if_neg (by omega)]
/-- The text of a mark. -/
def mt (k : Int) : ByteArray := if k ≤ 0 then bs [109, 48] else bs ([109] ++ dgt k.toNat)
theorem digit_u8 (n : Nat) : IntKind.u8.wrap (IntKind.i64.wrap (48 + ((n : Int)).tmod 10)) = ((48 + n % 10 : Nat) : Int) := by
  have h : ((n : Int)).tmod 10 = ((n % 10 : Nat) : Int) := by
    rw [Int.tmod_eq_emod_of_nonneg (by omega)]
    omega
  rw [h, wr (by omega) (by omega)]
  have h2 : n % 10 < 10 := Nat.mod_lt _ (by omega)
  generalize n % 10 = d at h2
  have : d = 0 ∨ d = 1 ∨ d = 2 ∨ d = 3 ∨ d = 4 ∨ d = 5 ∨ d = 6 ∨ d = 7 ∨ d = 8 ∨ d = 9 := by omega
  rcases this with rfl | rfl | rfl | rfl | rfl | rfl | rfl | rfl | rfl | rfl <;> decide
theorem quo10 {n : Nat} (h : n ≤ 9223372036854775807) : IntKind.i64.wrap (((n : Int)).tdiv 10) = ((n / 10 : Nat) : Int) := by
  have e : ((n : Int)).tdiv 10 = ((n / 10 : Nat) : Int) := by
    rw [Int.tdiv_eq_ediv_of_nonneg (by omega)]
    omega
  rw [e, wr (by omega) (by omega)]
end Go.BM
