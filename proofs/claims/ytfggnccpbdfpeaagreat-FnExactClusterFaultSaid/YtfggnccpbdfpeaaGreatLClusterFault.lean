/- The row of FnExactClusterFault. -/
import Derived.Test.YtfggnccpbdfpeaaGreatRows
import Derived.Test.YtfggnccpbdfpeaaGreatT54
import Derived.Test.YtfggnccpbdfpeaaGreatR6
import Derived.Test.YtfggnccpbdfpeaaGreatC19
import Derived.WalkKit
import Derived.ProofKit
namespace Go.Proofs.YtfggnccpbdfpeaaGreat.fnExactClusterFault
open Go.ChangeShapes Go.WideShapes Go.ChangeAt Go.RowKit Go.BM
set_option linter.unusedVariables false
set_option maxRecDepth 100000
theorem own : ownKnob Tryz.prog.godebug = none := by kernel_rfl
theorem claim (zs : List Value) (h : AbVs Tryz.prog 10 Tryz.f3.params.toList zs) : PCalls Tryz.prog 3 zs (.bool true) := by
  rw [Tryz.params3] at h
  obtain ⟨a0, zs0, rfl, g0, r0⟩ := h.uncons
  obtain rfl := r0.done
  obtain ⟨c0, rfl, r0⟩ := AbV.str Tryz.underlying30 g0
  obtain ⟨c, rfl, l0⟩ := ab_Cluster r0
  exact law_ClusterFault c l0
theorem lifted (os : Os) (started : os.Started) (H : Type) (enc : TypeId × Value → H) :
    ReturnsInHanded {} Tryz.checked os 3 .any (Rows.fnExactClusterFaultSpec.pre6 enc Tryz.prog Tryz.f3 Rows.fnExactClusterFaultRow.domain false) (Rows.fnExactClusterFaultSpec.post enc Tryz.prog Tryz.f3 false true false false) := by
  refine returnsInHanded_of_change_sized (C := Tryz.checked) own started (by kernel_rfl) Tryz.func3
    (ChangeSpec.witness6 (enc := enc) (C := Tryz.checked) false ⟨#[], #[.agg #[.slice none 0 0, .int .i64 0, .slice none 0 0, .slice none 0 0, .slice none 0 0, .slice none 0 0, .slice none 0 0]], []⟩ 8 (by kernel_rfl) (by kernel_rfl) (by kernel_rfl) (by kernel_rfl)) ?_
  intro W base args ds gs before hval hW hcnd hsz0 _
  have hW' := hW
  obtain ⟨p, q, hA, hV, rfl, hfz, hnd⟩ := hW
  obtain ⟨zs, hvr, hab⟩ := open_args (n := 10) _ _ _ _ hA (fun j t v ht hv => hval j t v (by simpa using ht) (by simpa using hv)) (by kernel_rfl)
  obtain ⟨rfl, rfl⟩ := trodVars_none hV
  refine ((claim zs hab).run hvr).mono fun e W' ⟨he, bel⟩ => ?_
  subst he
  have hB := below_trodAll (by kernel_rfl) bel (by kernel_rfl) hA
  have hA2 := hA
  rw [Tryz.params3] at hA2
  obtain ⟨v0, vs0, d0, ds0, p0, q0, hargs0, rfl, rfl, h0, r0⟩ := trodAll_cons hA2
  obtain ⟨rfl, rfl, rfl⟩ := trodAll_nil r0
  exact ⟨_, rfl, _, _, _, [], _, [], hW', trodAll_mk1 (shut_bool Tryz.underlying4 _), hB, rfl, bel.frame _, fun h => by cases h⟩
theorem over : Rows.fnExactClusterFaultRow.holds Tryz.pinned (OpenSpec.ofChange Rows.fnExactClusterFaultSpec) :=
  OpenClaim.holds_of_wide 3 Tryz.f3 rfl rfl rfl rfl rfl rfl rfl ⟨rfl, rfl, rfl, rfl, rfl⟩ rfl rfl rfl rfl rfl (by kernel_rfl) Tryz.func3 (by kernel_rfl)
    (of_decide_eq_true (by kernel_rfl)) (by unfold Func.isWrapper; first | (rw [if_pos (by decide +kernel)]; kernel_rfl) | (rw [if_neg (by decide +kernel)]; exact ⟨rfl, rfl⟩))
    (fun os started H enc _ => lifted os started H enc)
theorem proved : Rows.FnExactClusterFaultSaid := over
#print axioms proved
end Go.Proofs.YtfggnccpbdfpeaaGreat.fnExactClusterFault
namespace Go.Proofs.YtfggnccpbdfpeaaGreat
/-- The row, under a short name, for the claim. -/
theorem fnExactClusterFault_holds : Rows.FnExactClusterFaultSaid := fnExactClusterFault.proved
end Go.Proofs.YtfggnccpbdfpeaaGreat
