/- The row and the card of FnExactBlockIn. -/
import Derived.Test.YtboephigjgncaaaGreatDoorRows
import Derived.Test.YtboephigjgncaaaGreatDoorCards
import Derived.Test.YtboephigjgncaaaGreatDoorTie
import Derived.SevenTiedAt
import Derived.LaidMore
import Derived.Lay
import Derived.OpenShut
import Derived.Test.YtboephigjgncaaaGreatDoorK11
import Derived.Test.YtboephigjgncaaaGreatDoorK12
import Derived.Test.YtboephigjgncaaaGreatDoorR1
import Derived.Test.YtboephigjgncaaaGreatDoorR4
import Derived.Test.YtboephigjgncaaaGreatDoorC19
import Derived.WalkKit
import Derived.ProofKit
namespace Go.Proofs.YtboephigjgncaaaGreatDoor.fnExactBlockIn
open Go.ChangeShapes Go.WideShapes Go.ChangeAt Go.RowKit Go.BM
set_option linter.unusedVariables false
set_option maxRecDepth 100000
theorem own : ownKnob Tryz.prog.godebug = none := by kernel_rfl
theorem claim (zs : List Value) (h : AbVs Tryz.prog 8 Tryz.f3.params.toList zs) : PCalls Tryz.prog 3 zs (.bool true) := by
  rw [Tryz.params3] at h
  obtain ⟨a0, zs0, rfl, g0, r0⟩ := h.uncons
  obtain ⟨a1, zs1, rfl, g1, r1⟩ := r0.uncons
  obtain rfl := r1.done
  obtain ⟨c0, rfl, r0⟩ := AbV.str Tryz.underlying25 g0
  obtain ⟨l, rfl, l0⟩ := ab_Ledger r0
  obtain ⟨id, e1, _⟩ := Ab.int Tryz.underlying2 (AbV.one Tryz.underlying2 (by intro fs h; cases h) g1)
  cases e1
  exact law_BlockIn l id l0
theorem lifted (os : Os) (started : os.Started) (H : Type) (enc : TypeId × Value → H) :
    ReturnsInHanded {} Tryz.checked os 3 .any (fun w args => (Rows.fnExactBlockInSpec.pre enc Tryz.prog Tryz.f3 Rows.fnExactBlockInRow.domain false w args ∧ laidMetH Tryz.prog Rows.fnExactBlockInRow.laid w) ∧ sizedMet enc Tryz.prog Tryz.f3 (OpenSpec.ofChange Rows.fnExactBlockInSpec) false w args)
      (Rows.fnExactBlockInSpec.post enc Tryz.prog Tryz.f3 false true false false) := by
  refine returnsInHanded_of_change_andS (C := Tryz.checked) (X := fun w _ => laidMetH Tryz.prog Rows.fnExactBlockInRow.laid w) (fun _ _ _ hh h => h.of_heap hh) own started (by kernel_rfl) Tryz.func3
    (ChangeSpec.witness_shaped (enc := enc) (C := Tryz.checked) (os := os) (X := fun w _ => laidMetH Tryz.prog Rows.fnExactBlockInRow.laid w) false (World.laidAll Tryz.prog os Rows.fnExactBlockInRow.laid) #[.agg #[.slice none 0 0, .slice none 0 0], .int .i64 0] 8 (World.laidAll_os _ _ _) (World.shaped_of_ZipB (by kernel_rfl) (by kernel_rfl)) (by kernel_rfl) (by kernel_rfl) (by kernel_rfl)
      (by rw [MakeChecks.laidMetH_plain _ _ _ (by kernel_rfl)]; exact laidMet_laidAll _ (by kernel_rfl) (by kernel_rfl))) ?_
  intro W base args ds gs before hval hW hcnd hsz0 hsh hL _
  rw [MakeChecks.laidMetH_plain _ _ _ (by kernel_rfl)] at hL
  have hG : GI (allM W).im W := gi_of_list hsh hL
  have hW' := hW
  obtain ⟨p, q, hA, hV, rfl, hfz, hnd⟩ := hW
  obtain ⟨zs, hvr, hab⟩ := open_args (n := 8) _ _ _ _ hA (fun j t v ht hv => hval j t v (by simpa using ht) (by simpa using hv)) (by kernel_rfl)
  obtain ⟨rfl, rfl⟩ := trodVars_none hV
  refine ((claim zs hab).run hG hvr).mono fun e W' ⟨he, bel⟩ => ?_
  subst he
  have hB := below_trodAll (by kernel_rfl) bel (by kernel_rfl) hA
  have hA2 := hA
  rw [Tryz.params3] at hA2
  obtain ⟨v0, vs0, d0, ds0, p0, q0, hargs0, rfl, rfl, h0, r0⟩ := trodAll_cons hA2
  obtain ⟨v1, vs1, d1, ds1, p1, q1, hargs1, rfl, rfl, h1, r1⟩ := trodAll_cons r0
  obtain ⟨rfl, rfl, rfl⟩ := trodAll_nil r1
  exact ⟨_, rfl, _, _, _, [], _, [], hW', trodAll_mk1 (shut_bool Tryz.underlying4 _), hB, rfl, bel.frame _, fun h => by cases h⟩
theorem over : Rows.fnExactBlockInRow.holds Tryz.pinned (OpenSpec.ofChange Rows.fnExactBlockInSpec) :=
  OpenClaim.holds_of_wide 3 Tryz.f3 rfl rfl rfl rfl rfl rfl rfl ⟨rfl, rfl, rfl, rfl, rfl⟩ rfl rfl rfl rfl rfl (by kernel_rfl) Tryz.func3 (by kernel_rfl)
    (of_decide_eq_true (by kernel_rfl)) (by unfold Func.isWrapper; first | (rw [if_pos (by decide +kernel)]; kernel_rfl) | (rw [if_neg (by decide +kernel)]; exact ⟨rfl, rfl⟩))
    (fun os started H enc _ => lifted os started H enc)
theorem card_holds : Rows.FnExactBlockInCardSaid :=
  Claim7.holds_tied_plain_at .later [] [.data, .data, .data, .data, .sentinel, .sentinel, .pinned] true (true, "3724969dc245eae34e2e231c81f344224b400d3a3966c041219d1bf66e9023cf") true
    over (fun _ h => by cases h) (by kernel_rfl) (fun _ h => by cases h) fnExactBlockIn_row_tie rfl ⟨rfl, rfl⟩ (by kernel_rfl) rfl
    (fun f fn hf hfn => by
      obtain rfl : f = 3 := Option.some.inj ((show Tryz.prog.funcNamed "loop.example/g00304/laws.FnExactBlockIn" = some 3 by kernel_rfl).symm.trans hf) |>.symm
      obtain rfl : fn = Tryz.f3 := (Option.some.inj (Tryz.func3.symm.trans hfn)).symm
      exact ⟨by kernel_rfl, fun j t ht => by
        rw [Tryz.params3] at ht
        have hm : t ∈ [25, 2] := by simpa using Array.mem_of_getElem? ht
        have hall : ([25, 2].all fun u => !Tryz.prog.wantsStandIn u) = true := by kernel_rfl
        exact (show Tryz.prog.wantsStandIn t = false by simpa using List.all_eq_true.1 hall t hm)⟩)
    (by kernel_rfl)
#print axioms card_holds
end Go.Proofs.YtboephigjgncaaaGreatDoor.fnExactBlockIn
namespace Go.Proofs.YtboephigjgncaaaGreatDoor
/-- The card, under a short name, for the claim. -/
theorem fnExactBlockIn_holds : Rows.FnExactBlockInCardSaid := fnExactBlockIn.card_holds
end Go.Proofs.YtboephigjgncaaaGreatDoor
