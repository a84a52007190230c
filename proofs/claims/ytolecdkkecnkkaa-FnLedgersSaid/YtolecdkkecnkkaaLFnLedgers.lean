/- The row of FnLedgers. -/
import Derived.Test.YtolecdkkecnkkaaRows
import Derived.Test.YtolecdkkecnkkaaT72
import Derived.Test.YtolecdkkecnkkaaRB
import Derived.Test.YtolecdkkecnkkaaC19
import Derived.WalkKit
import Derived.ProofKit
namespace Go.Proofs.Ytolecdkkecnkkaa.fnLedgers
open Go.ChangeShapes Go.WideShapes Go.ChangeAt Go.RowKit Go.BM
set_option linter.unusedVariables false
set_option maxRecDepth 100000
theorem own : ownKnob Try.prog.godebug = none := by kernel_rfl
theorem claim (zs : List Value) (h : AbVs Try.prog 6 Try.f4.params.toList zs) : PCalls Try.prog 4 zs (.bool true) := by
  rw [Try.params4] at h
  obtain ⟨a0, zs0, rfl, g0, r0⟩ := h.uncons
  obtain rfl := r0.done
  obtain ⟨code, e0, l0⟩ := ab_ByteS (AbV.one Try.underlying22 (by intro fs h; cases h) g0)
  cases e0
  exact law_FnLedgers code l0
theorem lifted (os : Os) (started : os.Started) (H : Type) (enc : TypeId × Value → H) :
    ReturnsInHanded {} Try.checked os 4 .any (Rows.fnLedgersSpec.pre6 enc Try.prog Try.f4 Rows.fnLedgersRow.domain false) (Rows.fnLedgersSpec.post enc Try.prog Try.f4 false true false false) := by
  refine returnsInHanded_of_change_sized (C := Try.checked) own started (by kernel_rfl) Try.func4
    (ChangeSpec.witness6 (enc := enc) (C := Try.checked) false ⟨#[], #[.slice none 0 0], []⟩ 8 (by kernel_rfl) (by kernel_rfl) (by kernel_rfl) (by kernel_rfl)) ?_
  intro W base args ds gs before hval hW hcnd hsz0 _
  have hW' := hW
  obtain ⟨p, q, hA, hV, rfl, hfz, hnd⟩ := hW
  obtain ⟨zs, hvr, hab⟩ := open_args (n := 6) _ _ _ _ hA (fun j t v ht hv => hval j t v (by simpa using ht) (by simpa using hv)) (by kernel_rfl)
  obtain ⟨rfl, rfl⟩ := trodVars_none hV
  refine ((claim zs hab).run hvr).mono fun e W' ⟨he, bel⟩ => ?_
  subst he
  have hB := below_trodAll (by kernel_rfl) bel (by kernel_rfl) hA
  have hA2 := hA
  rw [Try.params4] at hA2
  obtain ⟨v0, vs0, d0, ds0, p0, q0, hargs0, rfl, rfl, h0, r0⟩ := trodAll_cons hA2
  obtain ⟨rfl, rfl, rfl⟩ := trodAll_nil r0
  exact ⟨_, rfl, _, _, _, [], _, [], hW', trodAll_mk1 (shut_bool Try.underlying4 _), hB, rfl, bel.frame _, fun h => by cases h⟩
theorem over : Rows.fnLedgersRow.holds Try.pinned (OpenSpec.ofChange Rows.fnLedgersSpec) :=
  OpenClaim.holds_of_wide 4 Try.f4 rfl rfl rfl rfl rfl rfl rfl ⟨rfl, rfl, rfl, rfl, rfl⟩ rfl rfl rfl rfl rfl (by kernel_rfl) Try.func4 (by kernel_rfl)
    (of_decide_eq_true (by kernel_rfl)) (by unfold Func.isWrapper; first | (rw [if_pos (by decide +kernel)]; kernel_rfl) | (rw [if_neg (by decide +kernel)]; exact ⟨rfl, rfl⟩))
    (fun os started H enc _ => lifted os started H enc)
theorem proved : Rows.FnLedgersSaid := over
#print axioms proved
end Go.Proofs.Ytolecdkkecnkkaa.fnLedgers
namespace Go.Proofs.Ytolecdkkecnkkaa
/-- The row, under a short name, for the claim. -/
theorem fnLedgers_holds : Rows.FnLedgersSaid := fnLedgers.proved
end Go.Proofs.Ytolecdkkecnkkaa
