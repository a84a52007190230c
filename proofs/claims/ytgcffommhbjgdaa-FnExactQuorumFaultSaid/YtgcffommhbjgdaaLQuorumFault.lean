/- The row of FnExactQuorumFault. -/
import Derived.Test.YtgcffommhbjgdaaRows
import Derived.Test.YtgcffommhbjgdaaT7
import Derived.Test.YtgcffommhbjgdaaA18
import Derived.WalkKit
import Derived.ProofKit
namespace Go.Proofs.Ytgcffommhbjgdaa.fnExactQuorumFault
open Go.ChangeShapes Go.WideShapes Go.ChangeAt Go.RowKit Go.AM
set_option linter.unusedVariables false
set_option maxRecDepth 100000
theorem own : ownKnob Try.prog.godebug = none := by kernel_rfl
theorem claim (A : AH) (zs : List Value) (h : AbVs Try.prog A 4 Try.f4.params.toList zs) : ACalls Try.prog A.length 4 zs A fun d _ => d = .bool true := by
  rw [Try.params4] at h
  obtain ⟨a0, zs0, rfl, h0, r0⟩ := h.uncons
  obtain rfl := r0.done
  obtain ⟨cs, rfl, hL⟩ := AbV.str Try.underlying34 h0
  obtain ⟨p0, q0, rfl, hs, p1, q1, rfl, h1, rfl⟩ := hL
  obtain ⟨need, rfl, _⟩ := Ab.int Try.underlying2 h1
  obtain ⟨v, xs, rfl, hv, ho, hone, hn⟩ := Ab.slE (E := intE) Try.underlying32 (by kernel_rfl) (fun x hx => by obtain ⟨i, rfl, _⟩ := Ab.int Try.underlying2 hx; exact ⟨i, rfl⟩) hs
  exact law_QuorumFault A v xs need hv ho hone hn
theorem lifted (os : Os) (started : os.Started) (H : Type) (enc : TypeId × Value → H) :
    ReturnsInHanded {} Try.checked os 4 .any (Rows.fnExactQuorumFaultSpec.pre6 enc Try.prog Try.f4 Rows.fnExactQuorumFaultRow.domain false) (Rows.fnExactQuorumFaultSpec.post enc Try.prog Try.f4 false true false false) := by
  refine returnsInHanded_of_change_sized (C := Try.checked) own started (by kernel_rfl) Try.func4
    (ChangeSpec.witness6 (enc := enc) (C := Try.checked) false ⟨#[], #[.agg #[.slice none 0 0, .int .i64 0]], []⟩ 8 (by kernel_rfl) (by kernel_rfl) (by kernel_rfl) (by kernel_rfl)) ?_
  intro W base args ds gs before hval hW hcnd hsz0 _
  have hW' := hW
  obtain ⟨p, q, hA, hV, rfl, hfz, hnd⟩ := hW
  obtain ⟨N, σ', zs, _, hro, hvr, hab⟩ := open_args (n := 4) _ _ _ _ hA (fun j t v ht hv => hval j t v (by simpa using ht) (by simpa using hv)) (by kernel_rfl) (fun _ => ⟨0, 0, 0⟩) [] (RO.nil _ _)
  obtain ⟨rfl, rfl⟩ := trodVars_none hV
  refine ((claim _ zs hab).run hro hvr).mono fun e W' ⟨he, bel⟩ => ?_
  subst he
  have hB := below_trodAll (by kernel_rfl) bel (by kernel_rfl) hA
  have hA2 := hA
  rw [Try.params4] at hA2
  obtain ⟨v0, vs0, d0, ds0, p0, q0, hargs0, rfl, rfl, h0, r0⟩ := trodAll_cons hA2
  obtain ⟨rfl, rfl, rfl⟩ := trodAll_nil r0
  exact ⟨_, rfl, _, _, _, [], _, [], hW', trodAll_mk1 (shut_bool Try.underlying4 _), hB, rfl, bel.frame _, fun h => by cases h⟩
theorem over : Rows.fnExactQuorumFaultRow.holds Try.pinned (OpenSpec.ofChange Rows.fnExactQuorumFaultSpec) :=
  OpenClaim.holds_of_wide 4 Try.f4 rfl rfl rfl rfl rfl rfl rfl ⟨rfl, rfl, rfl, rfl, rfl⟩ rfl rfl rfl rfl rfl (by kernel_rfl) Try.func4 (by kernel_rfl)
    (of_decide_eq_true (by kernel_rfl)) (by unfold Func.isWrapper; first | (rw [if_pos (by decide +kernel)]; kernel_rfl) | (rw [if_neg (by decide +kernel)]; exact ⟨rfl, rfl⟩))
    (fun os started H enc _ => lifted os started H enc)
theorem proved : Rows.FnExactQuorumFaultSaid := over
#print axioms proved
end Go.Proofs.Ytgcffommhbjgdaa.fnExactQuorumFault
namespace Go.Proofs.Ytgcffommhbjgdaa
/-- The row, under a short name, for the claim. -/
theorem fnExactQuorumFault_holds : Rows.FnExactQuorumFaultSaid := fnExactQuorumFault.proved
end Go.Proofs.Ytgcffommhbjgdaa
