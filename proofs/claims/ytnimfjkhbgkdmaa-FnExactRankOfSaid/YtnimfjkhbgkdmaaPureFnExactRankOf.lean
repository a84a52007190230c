/- For all arguments the program's RankOf answers what the reference's RankOf answers; no condition. -/
import Derived.Test.YtnimfjkhbgkdmaaPFnExactRankOfx1
namespace Go.Proofs.Ytnimfjkhbgkdmaa.Pure
open Go.RowKit Go.Proofs.Ytnimfjkhbgkdmaa.PFnExactRankOf Go.Proofs.YtnimfjkhbgkdmaaW.PrintWords Go.Proofs.YtnimfjkhbgkdmaaW.PrintLast

theorem rank_same (a0 a1 : Int) : impl_RankOf.f a0 a1 = spec_RankOf.f a0 a1 := by
  have h (b : Int) (c : Int) : (impl_within.f a1 b c) = (spec_l1In.f a1 b c) := rfl
  have h2 : impl_isKey.f a0 = spec_l1Key.f a0 := rfl
  unfold impl_RankOf.f spec_RankOf.f spec_l10Seed.f
  rw [h, h2]
  simp

theorem rank_some (a0 a1 : Int) : ∃ r, spec_RankOf.f a0 a1 = some r := by
  unfold spec_RankOf.f spec_l1Key.f spec_l10Seed.f spec_l1In.f
  by_cases h1 : a0 ≥ 1 <;> by_cases h2 : a1 ≥ 0 <;> by_cases h3 : a0 ≤ 999 <;> by_cases h4 : a1 ≤ 65535 <;> simp [h1, h2, h3, h4]

theorem FnExactRankOf : laws_FnExactRankOf.Pure := by
  intro a0 a1 _ _
  obtain ⟨r, hr⟩ := rank_some a0 a1
  unfold laws_FnExactRankOf.f
  rw [rank_same, hr]
  simp

end Go.Proofs.Ytnimfjkhbgkdmaa.Pure
