/- For all arguments the program's NeedOf answers what the reference's NeedOf answers; no condition. -/
import Derived.Test.YtnimfjkhbgkdmaaPFnExactNeedOfx1
namespace Go.Proofs.Ytnimfjkhbgkdmaa.Pure
open Go.RowKit Go.Proofs.Ytnimfjkhbgkdmaa.PFnExactNeedOf Go.Proofs.YtnimfjkhbgkdmaaW.PrintWords Go.Proofs.YtnimfjkhbgkdmaaW.PrintLast

theorem FnExactNeedOf : laws_FnExactNeedOf.Pure := by
  intro a0 _
  unfold laws_FnExactNeedOf.f spec_NeedOf.f impl_NeedOf.f spec_l1In.f impl_within.f laws_eqIntResult.f
  by_cases h1 : a0 ≥ 1 <;> by_cases h2 : a0 ≤ 8 <;> simp [h1, h2, Int.mul_comm]

end Go.Proofs.Ytnimfjkhbgkdmaa.Pure
