/- What an argument of bytes is. -/
import Derived.Test.YtolecdkkecnkkaaFacts
import Derived.Test.YtolecdkkecnkkaaC19
set_option linter.unusedVariables false
set_option linter.unusedSimpArgs false
set_option maxRecDepth 100000
set_option maxHeartbeats 4000000
namespace Go.BM
open Go.Proofs Go.RowKit
attribute [local irreducible] ACalls AWp aops qops optK optP cK gateA condK mops qcallK PCalls loadV fldV idxV lenV slV storeH binS
theorem wf_u8 {y : Int} (h : (Lit.int .u8 y).wf = true) : 0 ≤ y ∧ y < 256 := by
  unfold Lit.wf at h
  rw [Bool.and_eq_true, decide_eq_true_eq, decide_eq_true_eq] at h
  have e1 : IntKind.u8.min = 0 := by rfl
  have e2 : IntKind.u8.max = 255 := by rfl
  omega
theorem ab_ByteS {n : Nat} {cs : List Value} (h : Ab Try.prog (n + 2) 22 cs) : ∃ ys : List UInt8, cs = [islE byteE ys] ∧ ys.length ≤ 9223372036854775807 := by
  obtain ⟨ys, rfl, hn, hq⟩ := Ab.slE (E := byteE) (Q := fun y => True) Try.underlying22 (fun x hx => by
    obtain ⟨y, rfl, hy⟩ := Ab.int Try.underlying5 hx
    obtain ⟨h0, h1⟩ := wf_u8 hy
    refine ⟨UInt8.ofNat y.toNat, ?_, trivial⟩
    have : ((UInt8.ofNat y.toNat).toNat : Int) = y := by rw [UInt8.toNat_ofNat']; omega
    show [Value.int .u8 y] = [Value.int .u8 ((UInt8.ofNat y.toNat).toNat : Int)]
    rw [this]) h
  exact ⟨ys, rfl, hn⟩
end Go.BM
