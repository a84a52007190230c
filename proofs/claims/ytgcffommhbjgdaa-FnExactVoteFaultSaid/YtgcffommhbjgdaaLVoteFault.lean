/- The row of FnExactVoteFault. -/
import Derived.Test.YtgcffommhbjgdaaRows
import Derived.Test.YtgcffommhbjgdaaT2
import Derived.Test.YtgcffommhbjgdaaA18
import Derived.WalkKit
import Derived.ProofKit
namespace Go.Proofs.Ytgcffommhbjgdaa.fnExactVoteFault
open Go.ChangeShapes Go.WideShapes Go.ChangeAt Go.RowKit Go.AM
set_option linter.unusedVariables false
set_option maxRecDepth 100000
theorem own : ownKnob Try.prog.godebug = none := by kernel_rfl
theorem claim (A : AH) (zs : List Value) (h : AbVs Try.prog A 4 Try.f3.params.toList zs) : ACalls Try.prog A.length 3 zs A fun d _ => d = .bool true := by
  rw [Try.params3] at h
  obtain ⟨a0, zs0, rfl, h0, r0⟩ := h.uncons
  obtain rfl := r0.done
  simp only [AbV, Ab, AbL, Try.underlying25, Try.underlying23, Try.underlying2] at h0
  obtain ⟨cs, rfl, h0⟩ := h0
  obtain ⟨p0, q0, rfl, ⟨k0, rfl, _⟩, p1, q1, rfl, ⟨k1, rfl, _⟩, p2, q2, rfl, ⟨k2, rfl, _⟩, p3, q3, rfl, ⟨p4, q4, rfl, ⟨k4, rfl, _⟩, p5, q5, rfl, ⟨k5, rfl, _⟩, rfl⟩, p6, q6, rfl, ⟨k6, rfl, _⟩, rfl⟩ := h0
  exact law_VoteFault A k0 k1 k2 k4 k5 k6
theorem lifted (os : Os) (started : os.Started) (H : Type) (enc : TypeId × Value → H) :
    ReturnsInHanded {} Try.checked os 3 .any (Rows.fnExactVoteFaultSpec.pre6 enc Try.prog Try.f3 Rows.fnExactVoteFaultRow.domain false) (Rows.fnExactVoteFaultSpec.post enc Try.prog Try.f3 false true false false) := by
  refine returnsInHanded_of_change_sized (C := Try.checked) own started (by kernel_rfl) Try.func3
    (ChangeSpec.witness6 (enc := enc) (C := Try.checked) false ⟨#[], #[.agg #[.int .i64 0, .int .i64 0, .int .i64 0, .int .i64 0, .int .i64 0, .int .i64 0]], []⟩ 8 (by kernel_rfl) (by kernel_rfl) (by kernel_rfl) (by kernel_rfl)) ?_
  intro W base args ds gs before hval hW hcnd hsz0 _
  have hW' := hW
  obtain ⟨p, q, hA, hV, rfl, hfz, hnd⟩ := hW
  obtain ⟨N, σ', zs, _, hro, hvr, hab⟩ := open_args (n := 4) _ _ _ _ hA (fun j t v ht hv => hval j t v (by simpa using ht) (by simpa using hv)) (by kernel_rfl) (fun _ => ⟨0, 0, 0⟩) [] (RO.nil _ _)
  obtain ⟨rfl, rfl⟩ := trodVars_none hV
  refine ((claim _ zs hab).run hro hvr).mono fun e W' ⟨he, bel⟩ => ?_
  subst he
  have hB := below_trodAll (by kernel_rfl) bel (by kernel_rfl) hA
  have hA2 := hA
  rw [Try.params3] at hA2
  obtain ⟨v0, vs0, d0, ds0, p0, q0, hargs, rfl, rfl, h0, r0⟩ := trodAll_cons hA2
  obtain ⟨rfl, rfl, rfl⟩ := trodAll_nil r0
  exact ⟨_, rfl, _, _, _, [], _, [], hW', trodAll_mk1 (shut_bool Try.underlying4 _), hB, rfl, bel.frame _, fun h => by cases h⟩
theorem over : Rows.fnExactVoteFaultRow.holds Try.pinned (OpenSpec.ofChange Rows.fnExactVoteFaultSpec) :=
  OpenClaim.holds_of_wide 3 Try.f3 rfl rfl rfl rfl rfl rfl rfl ⟨rfl, rfl, rfl, rfl, rfl⟩ rfl rfl rfl rfl rfl (by kernel_rfl) Try.func3 (by kernel_rfl)
    (of_decide_eq_true (by kernel_rfl)) (by unfold Func.isWrapper; first | (rw [if_pos (by decide +kernel)]; kernel_rfl) | (rw [if_neg (by decide +kernel)]; exact ⟨rfl, rfl⟩))
    (fun os started H enc _ => lifted os started H enc)
theorem proved : Rows.FnExactVoteFaultSaid := over
#print axioms proved
end Go.Proofs.Ytgcffommhbjgdaa.fnExactVoteFault
namespace Go.Proofs.Ytgcffommhbjgdaa
/-- The row, under a short name, for the claim. -/
theorem fnExactVoteFault_holds : Rows.FnExactVoteFaultSaid := fnExactVoteFault.proved
end Go.Proofs.Ytgcffommhbjgdaa
