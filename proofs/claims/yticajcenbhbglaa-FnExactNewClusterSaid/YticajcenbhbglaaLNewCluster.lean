/- The row of FnExactNewCluster. -/
import Derived.Test.YticajcenbhbglaaRows
import Derived.Test.YticajcenbhbglaaT77
import Derived.Test.YticajcenbhbglaaR1
import Derived.Test.YticajcenbhbglaaR3
import Derived.Test.YticajcenbhbglaaC19
import Derived.WalkKit
import Derived.ProofKit
namespace Go.Proofs.Yticajcenbhbglaa.fnExactNewCluster
open Go.ChangeShapes Go.WideShapes Go.ChangeAt Go.RowKit Go.BM
set_option linter.unusedVariables false
set_option maxRecDepth 100000
theorem own : ownKnob Try.prog.godebug = none := by kernel_rfl
theorem claim (zs : List Value) (h : AbVs Try.prog 8 Try.f3.params.toList zs) : PCalls Try.prog 3 zs (.bool true) := by
  rw [Try.params3] at h
  obtain ⟨a0, zs0, rfl, g0, r0⟩ := h.uncons
  obtain ⟨a1, zs1, rfl, g1, r1⟩ := r0.uncons
  obtain ⟨a2, zs2, rfl, g2, r2⟩ := r1.uncons
  obtain rfl := r2.done
  obtain ⟨c0, rfl, r0⟩ := AbV.str Try.underlying24 g0
  obtain ⟨q, rfl, l0⟩ := ab_Quorum r0
  obtain ⟨bad, e1, l1, _⟩ := ab_Int64S (AbV.one Try.underlying22 (by intro fs h; cases h) g1)
  cases e1
  obtain ⟨n, e2, _⟩ := Ab.int Try.underlying2 (AbV.one Try.underlying2 (by intro fs h; cases h) g2)
  cases e2
  exact law_NewCluster q bad n l0 l1
theorem lifted (os : Os) (started : os.Started) (H : Type) (enc : TypeId × Value → H) :
    ReturnsInHanded {} Try.checked os 3 .any (Rows.fnExactNewClusterSpec.pre6 enc Try.prog Try.f3 Rows.fnExactNewClusterRow.domain false) (Rows.fnExactNewClusterSpec.post enc Try.prog Try.f3 false true false false) := by
  refine returnsInHanded_of_change_sized (C := Try.checked) own started (by kernel_rfl) Try.func3
    (ChangeSpec.witness6 (enc := enc) (C := Try.checked) false ⟨#[], #[.agg #[.slice none 0 0, .int .i64 0], .slice none 0 0, .int .i64 0], []⟩ 8 (by kernel_rfl) (by kernel_rfl) (by kernel_rfl) (by kernel_rfl)) ?_
  intro W base args ds gs before hval hW hcnd hsz0 _
  have hW' := hW
  obtain ⟨p, q, hA, hV, rfl, hfz, hnd⟩ := hW
  obtain ⟨zs, hvr, hab⟩ := open_args (n := 8) _ _ _ _ hA (fun j t v ht hv => hval j t v (by simpa using ht) (by simpa using hv)) (by kernel_rfl)
  obtain ⟨rfl, rfl⟩ := trodVars_none hV
  refine ((claim zs hab).run hvr).mono fun e W' ⟨he, bel⟩ => ?_
  subst he
  have hB := below_trodAll (by kernel_rfl) bel (by kernel_rfl) hA
  have hA2 := hA
  rw [Try.params3] at hA2
  obtain ⟨v0, vs0, d0, ds0, p0, q0, hargs0, rfl, rfl, h0, r0⟩ := trodAll_cons hA2
  obtain ⟨v1, vs1, d1, ds1, p1, q1, hargs1, rfl, rfl, h1, r1⟩ := trodAll_cons r0
  obtain ⟨v2, vs2, d2, ds2, p2, q2, hargs2, rfl, rfl, h2, r2⟩ := trodAll_cons r1
  obtain ⟨rfl, rfl, rfl⟩ := trodAll_nil r2
  exact ⟨_, rfl, _, _, _, [], _, [], hW', trodAll_mk1 (shut_bool Try.underlying4 _), hB, rfl, bel.frame _, fun h => by cases h⟩
theorem over : Rows.fnExactNewClusterRow.holds Try.pinned (OpenSpec.ofChange Rows.fnExactNewClusterSpec) :=
  OpenClaim.holds_of_wide 3 Try.f3 rfl rfl rfl rfl rfl rfl rfl ⟨rfl, rfl, rfl, rfl, rfl⟩ rfl rfl rfl rfl rfl (by kernel_rfl) Try.func3 (by kernel_rfl)
    (of_decide_eq_true (by kernel_rfl)) (by unfold Func.isWrapper; first | (rw [if_pos (by decide +kernel)]; kernel_rfl) | (rw [if_neg (by decide +kernel)]; exact ⟨rfl, rfl⟩))
    (fun os started H enc _ => lifted os started H enc)
theorem proved : Rows.FnExactNewClusterSaid := over
#print axioms proved
end Go.Proofs.Yticajcenbhbglaa.fnExactNewCluster
namespace Go.Proofs.Yticajcenbhbglaa
/-- The row, under a short name, for the claim. -/
theorem fnExactNewCluster_holds : Rows.FnExactNewClusterSaid := fnExactNewCluster.proved
end Go.Proofs.Yticajcenbhbglaa
