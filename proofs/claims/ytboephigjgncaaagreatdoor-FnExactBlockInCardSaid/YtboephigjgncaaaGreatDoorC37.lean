/- The engine: texts C35, C36, C37. -/
import Derived.Test.YtboephigjgncaaaGreatDoorC34
/- A region that asks for its order and writes only what it made itself: what is read of the elder memory comes first. -/
set_option linter.unusedVariables false
set_option linter.unusedSimpArgs false
namespace Go.BM
open Go.RowKit
section
variable {P : Program} {ops : Array Oper} {Q : Exit → Act → World → Prop} {md : Region.Mode} {st : Nat → Bool} {I : World → Prop}
/-- As wpG; and behind each operation I stands. -/
def wpJ (P : Program) (md : Region.Mode) (ops : Array Oper) (Q : Exit → Act → World → Prop) (st : Nat → Bool) (I : World → Prop) : Nat → Array Bool → Act → World → Prop
  | 0, listed, a, w => Region.ready md ops listed = [] ∧ Q .normal a w
  | fuel + 1, listed, a, w =>
    (Region.ready md ops listed = [] → Q .normal a w) ∧
    ∀ i ∈ Region.ready md ops listed, wpOp P ops Q i (fun a' w' => (st i = true → Below w.heap.size w w') ∧ I w' ∧ wpJ P md ops Q st I fuel (listed.setIfInBounds i true) a' w') a w
theorem wpAny_of_J : ∀ (fuel : Nat) (listed : Array Bool) (a : Act) (w : World), wpJ P md ops Q st I fuel listed a w → wpAny P md ops Q fuel listed a w
  | 0, _, _, _, h => h
  | fuel + 1, _, _, _, h => ⟨h.1, fun i hi => wpOp_mono (fun a' w' h' => wpAny_of_J fuel _ a' w' h'.2.2) (h.2 i hi)⟩
theorem wpJ_first {i : Nat} {oi : Oper} {v : Value} (hi : ops[i]? = some oi) (hsel : ∀ (j : Nat) (o : Oper) cs b, ops[j]? = some o → o.op ≠ .select cs b)
    (hQ : ∀ c a w, Q (.panic c) (a.put oi.dst v) w → Q (.panic c) a w) (R : Array Bool) (hRi : R.getD i false = false)
    (hRc : ∀ (j : Nat) oj, ops[j]? = some oj → R.getD j false = false → j = i ∨ ∃ e ∈ oj.after, Region.binds md e = true ∧ R.getD e.on false = false) (wt : World) :
    ∀ (fuel : Nat) (listed : Array Bool) (a : Act) (w : World),
      (∀ k, listed.getD k false = true → R.getD k false = true) → (∀ k, R.getD k false = true → listed.getD k true = false → st k = true) →
      (∀ j oj, ops[j]? = some oj → j ≠ i → listed.getD j true = false → (∀ e ∈ oj.after, Region.binds md e = true → e.on ≠ i) → oi.apart ops oj = true) →
      i ∈ Region.ready md ops listed → YieldsIf P ops (fun w' => Below wt.heap.size wt w') oi v a → Below wt.heap.size wt w → I w →
      wpJ P md ops Q st I fuel (listed.setIfInBounds i true) (a.put oi.dst v) w → wpJ P md ops Q st I (fuel + 1) listed a w := by
  intro fuel
  induction fuel with
  | zero =>
    intro listed a w _ _ _ hr hy hS hI H
    refine ⟨fun h => (by rw [h] at hr; cases hr), fun j hj => ?_⟩
    by_cases hji : j = i
    · subst hji; exact hy.wpOp hi hS ⟨fun _ => Below.refl _ _, hI, H⟩
    · have := ready_mono hj hji
      rw [H.1] at this
      cases this
  | succ fuel ih =>
    intro listed a w hsub hst hfree hr hy hS hI H
    refine ⟨fun h => (by rw [h] at hr; cases hr), fun j hj => ?_⟩
    by_cases hji : j = i
    · subst hji; exact hy.wpOp hi hS ⟨fun _ => Below.refl _ _, hI, H⟩
    · have h1 := H.2 j (ready_mono hj hji)
      obtain ⟨hjun, oj, hoj, hall⟩ := mem_ready.1 hj
      have hnot : ∀ e ∈ oj.after, Region.binds md e = true → e.on ≠ i := fun e he hb heq => by
        have h1 := hall e he hb
        have h0 := (mem_ready.1 hr).1
        rw [heq] at h1
        rcases Nat.lt_or_ge i listed.size with h' | h'
        · simp [h'] at h0 h1; rw [h0] at h1; cases h1
        · simp [Array.getElem?_eq_none h'] at h1
      have hRj : R.getD j false = true := by
        cases hRj : R.getD j false with
        | true => rfl
        | false =>
          rcases hRc j oj hoj hRj with h | ⟨e, he, hb, hR⟩
          · exact absurd h hji
          · have := hsub _ (hall e he hb)
            rw [hR] at this
            cases this
      have hstj := hst j hRj hjun
      have h2 := wpOp_putIf hoj (hfree j oj hoj hji hjun hnot) (fun cs b => hsel i oi cs b hi) (fun cs b => hsel j oj cs b hoj) hQ hy h1
      have hfree' : ∀ k ok, ops[k]? = some ok → k ≠ i → (listed.setIfInBounds j true).getD k true = false →
          (∀ e ∈ ok.after, Region.binds md e = true → e.on ≠ i) → oi.apart ops ok = true := fun k ok hk hki hun hno => by
        refine hfree k ok hk hki ?_ hno
        by_cases hjk : j = k
        · subst hjk; exact hjun
        · rw [getD_set_ne true hjk] at hun; exact hun
      have hsub' : ∀ k, (listed.setIfInBounds j true).getD k false = true → R.getD k false = true := fun k hk => by
        by_cases hjk : j = k
        · subst hjk; exact hRj
        · rw [getD_set_ne false hjk] at hk; exact hsub k hk
      have hst' : ∀ k, R.getD k false = true → (listed.setIfInBounds j true).getD k true = false → st k = true := fun k hk hun => by
        refine hst k hk ?_
        by_cases hjk : j = k
        · subst hjk; exact hjun
        · rw [getD_set_ne true hjk] at hun; exact hun
      refine wpOp_mono (fun a' w' h3 => ?_) h2
      have hbj := h3.2.1 hstj
      have hS' : Below wt.heap.size wt w' := hS.trans (hbj.mono hS.size)
      refine ⟨fun _ => hbj, h3.2.2.1, ih (listed.setIfInBounds j true) a' w' hsub' hst' hfree' (ready_mono hr (Ne.symm hji)) h3.1 hS' h3.2.2.1 ?_⟩
      rw [Array.setIfInBounds_comm _ _ hji]
      exact h3.2.2.2

theorem wpJ_firstU {i : Nat} {oi : Oper} {v : Value} (hi : ops[i]? = some oi) (hsel : ∀ (j : Nat) (o : Oper) cs b, ops[j]? = some o → o.op ≠ .select cs b)
    (hQ : ∀ c a w, Q (.panic c) (a.put oi.dst v) w → Q (.panic c) a w) (R : Array Bool) (hRi : R.getD i false = false)
    (hRc : ∀ (j : Nat) oj, ops[j]? = some oj → R.getD j false = false → j = i ∨ ∃ e ∈ oj.after, Region.binds md e = true ∧ R.getD e.on false = false) :
    ∀ (fuel : Nat) (listed : Array Bool) (a : Act) (w : World),
      (∀ k, listed.getD k false = true → R.getD k false = true) →
      (∀ j oj, ops[j]? = some oj → j ≠ i → listed.getD j true = false → (∀ e ∈ oj.after, Region.binds md e = true → e.on ≠ i) → oi.apart ops oj = true) →
      i ∈ Region.ready md ops listed → YieldsIf P ops (fun _ => True) oi v a → I w →
      wpJ P md ops Q st I fuel (listed.setIfInBounds i true) (a.put oi.dst v) w → wpJ P md ops Q st I (fuel + 1) listed a w := by
  intro fuel
  induction fuel with
  | zero =>
    intro listed a w _ _ hr hy hI H
    refine ⟨fun h => (by rw [h] at hr; cases hr), fun j hj => ?_⟩
    by_cases hji : j = i
    · subst hji; exact hy.wpOp hi trivial ⟨fun _ => Below.refl _ _, hI, H⟩
    · have := ready_mono hj hji
      rw [H.1] at this
      cases this
  | succ fuel ih =>
    intro listed a w hsub hfree hr hy hI H
    refine ⟨fun h => (by rw [h] at hr; cases hr), fun j hj => ?_⟩
    by_cases hji : j = i
    · subst hji; exact hy.wpOp hi trivial ⟨fun _ => Below.refl _ _, hI, H⟩
    · have h1 := H.2 j (ready_mono hj hji)
      obtain ⟨hjun, oj, hoj, hall⟩ := mem_ready.1 hj
      have hnot : ∀ e ∈ oj.after, Region.binds md e = true → e.on ≠ i := fun e he hb heq => by
        have h1 := hall e he hb
        have h0 := (mem_ready.1 hr).1
        rw [heq] at h1
        rcases Nat.lt_or_ge i listed.size with h' | h'
        · simp [h'] at h0 h1; rw [h0] at h1; cases h1
        · simp [Array.getElem?_eq_none h'] at h1
      have hRj : R.getD j false = true := by
        cases hRj : R.getD j false with
        | true => rfl
        | false =>
          rcases hRc j oj hoj hRj with h | ⟨e, he, hb, hR⟩
          · exact absurd h hji
          · have := hsub _ (hall e he hb)
            rw [hR] at this
            cases this
      have h2 := wpOp_putIf hoj (hfree j oj hoj hji hjun hnot) (fun cs b => hsel i oi cs b hi) (fun cs b => hsel j oj cs b hoj) hQ hy h1
      have hfree' : ∀ k ok, ops[k]? = some ok → k ≠ i → (listed.setIfInBounds j true).getD k true = false →
          (∀ e ∈ ok.after, Region.binds md e = true → e.on ≠ i) → oi.apart ops ok = true := fun k ok hk hki hun hno => by
        refine hfree k ok hk hki ?_ hno
        by_cases hjk : j = k
        · subst hjk; exact hjun
        · rw [getD_set_ne true hjk] at hun; exact hun
      have hsub' : ∀ k, (listed.setIfInBounds j true).getD k false = true → R.getD k false = true := fun k hk => by
        by_cases hjk : j = k
        · subst hjk; exact hRj
        · rw [getD_set_ne false hjk] at hk; exact hsub k hk
      refine wpOp_mono (fun a' w' h3 => ?_) h2
      refine ⟨h3.2.1, h3.2.2.1, ih (listed.setIfInBounds j true) a' w' hsub' hfree' (ready_mono hr (Ne.symm hji)) h3.1 h3.2.2.1 ?_⟩
      rw [Array.setIfInBounds_comm _ _ hji]
      exact h3.2.2.2

theorem wpJ_done {listed : Array Bool} {a : Act} {w : World} (hr : Region.ready md ops listed = []) (h : Q .normal a w) :
    ∀ fuel, wpJ P md ops Q st I fuel listed a w
  | 0 => ⟨hr, h⟩
  | _ + 1 => ⟨fun _ => h, by rw [hr]; simp⟩

theorem wpJ_firstI {i : Nat} {oi : Oper} {v : Value} (hi : ops[i]? = some oi) (hsel : ∀ (j : Nat) (o : Oper) cs b, ops[j]? = some o → o.op ≠ .select cs b)
    (hQ : ∀ c a w, Q (.panic c) (a.put oi.dst v) w → Q (.panic c) a w) (R : Array Bool) (hRi : R.getD i false = false)
    (hRc : ∀ (j : Nat) oj, ops[j]? = some oj → R.getD j false = false → j = i ∨ ∃ e ∈ oj.after, Region.binds md e = true ∧ R.getD e.on false = false) :
    ∀ (fuel : Nat) (listed : Array Bool) (a : Act) (w : World),
      (∀ k, listed.getD k false = true → R.getD k false = true) →
      (∀ j oj, ops[j]? = some oj → j ≠ i → listed.getD j true = false → (∀ e ∈ oj.after, Region.binds md e = true → e.on ≠ i) → oi.apart ops oj = true) →
      i ∈ Region.ready md ops listed → YieldsIf P ops I oi v a → I w →
      wpJ P md ops Q st I fuel (listed.setIfInBounds i true) (a.put oi.dst v) w → wpJ P md ops Q st I (fuel + 1) listed a w := by
  intro fuel
  induction fuel with
  | zero =>
    intro listed a w _ _ hr hy hI H
    refine ⟨fun h => (by rw [h] at hr; cases hr), fun j hj => ?_⟩
    by_cases hji : j = i
    · subst hji; exact hy.wpOp hi hI ⟨fun _ => Below.refl _ _, hI, H⟩
    · have := ready_mono hj hji
      rw [H.1] at this
      cases this
  | succ fuel ih =>
    intro listed a w hsub hfree hr hy hI H
    refine ⟨fun h => (by rw [h] at hr; cases hr), fun j hj => ?_⟩
    by_cases hji : j = i
    · subst hji; exact hy.wpOp hi hI ⟨fun _ => Below.refl _ _, hI, H⟩
    · have h1 := H.2 j (ready_mono hj hji)
      obtain ⟨hjun, oj, hoj, hall⟩ := mem_ready.1 hj
      have hnot : ∀ e ∈ oj.after, Region.binds md e = true → e.on ≠ i := fun e he hb heq => by
        have h1 := hall e he hb
        have h0 := (mem_ready.1 hr).1
        rw [heq] at h1
        rcases Nat.lt_or_ge i listed.size with h' | h'
        · simp [h'] at h0 h1; rw [h0] at h1; cases h1
        · simp [Array.getElem?_eq_none h'] at h1
      have hRj : R.getD j false = true := by
        cases hRj : R.getD j false with
        | true => rfl
        | false =>
          rcases hRc j oj hoj hRj with h | ⟨e, he, hb, hR⟩
          · exact absurd h hji
          · have := hsub _ (hall e he hb)
            rw [hR] at this
            cases this
      have h2 := wpOp_putIf hoj (hfree j oj hoj hji hjun hnot) (fun cs b => hsel i oi cs b hi) (fun cs b => hsel j oj cs b hoj) hQ hy h1
      have hfree' : ∀ k ok, ops[k]? = some ok → k ≠ i → (listed.setIfInBounds j true).getD k true = false →
          (∀ e ∈ ok.after, Region.binds md e = true → e.on ≠ i) → oi.apart ops ok = true := fun k ok hk hki hun hno => by
        refine hfree k ok hk hki ?_ hno
        by_cases hjk : j = k
        · subst hjk; exact hjun
        · rw [getD_set_ne true hjk] at hun; exact hun
      have hsub' : ∀ k, (listed.setIfInBounds j true).getD k false = true → R.getD k false = true := fun k hk => by
        by_cases hjk : j = k
        · subst hjk; exact hRj
        · rw [getD_set_ne false hjk] at hk; exact hsub k hk
      refine wpOp_mono (fun a' w' h3 => ?_) h2
      refine ⟨h3.2.1, h3.2.2.1, ih (listed.setIfInBounds j true) a' w' hsub' hfree' (ready_mono hr (Ne.symm hji)) h3.1 h3.2.2.1 ?_⟩
      rw [Array.setIfInBounds_comm _ _ hji]
      exact h3.2.2.2
end
section
variable {P : Program} {B n : Nat} {σ0 : Sg} {H0 : AH} {w0 : World}
theorem mixJ_sound {ops : Array Oper} (hops : ops.all (operOk n) = true) (hsel : Region.noSelect ops = true) {st : Nat → Bool} {K : Env → AH → Prop} : ∀ (t : SchT) (listed : Array Bool) (e : Env) (H : AH) (σ : Sg) (w : World) (a : Act) (fuel : Nat),
    t.size ≤ fuel → Fut H0.length σ0 H0 w0 σ H w → Sim σ H w → H0.length ≤ H.length → ER n σ H a e → mopsT P H0.length ops K t e H →
      (mixF ops st true t listed = true → wpJ P .any ops (RelN n H0.length σ0 H0 w0 K) st (fun x => Below w0.heap.size w0 x) fuel listed a w) ∧
      (mixF ops st false t listed = true → ∀ f, fuel = f + 1 → ∀ j ∈ t.firsts, wpOp P ops (RelN n H0.length σ0 H0 w0 K) j (fun a' w' => (st j = true → Below w.heap.size w w') ∧ Below w0.heap.size w0 w' ∧ wpJ P .any ops (RelN n H0.length σ0 H0 w0 K) st (fun x => Below w0.heap.size w0 x) f (listed.setIfInBounds j true) a' w') a w)
  | .nil, listed, e, H, σ, w, a, fuel, hf, F, hS, hB, hE, h => by
    refine ⟨fun hm => ?_, fun hm => ?_⟩
    · simp only [mixF, Bool.true_and, List.isEmpty_iff] at hm
      exact wpJ_done hm ⟨σ, e, H, F, hS, hE, h⟩ fuel
    · simp [mixF] at hm
  | .cons i k t, listed, e, H, σ, w, a, 0, hf, F, hS, hB, hE, h => by simp [SchT.size] at hf
  | .cons i k t, listed, e, H, σ, w, a, fuel + 1, hf, F, hS, hB, hE, h => by
    have next : mixF ops st true t (listed.setIfInBounds i true) = true → ∀ o, ops[i]? = some o → dstOk n o.dst = true → ∀ v d w' σ' H', Fut H0.length σ H w σ' H' w' → Sim σ' H' w' → VR σ' H' v d → mopsT P H0.length ops K t (put e o.dst d) H' → wpJ P .any ops (RelN n H0.length σ0 H0 w0 K) st (fun x => Below w0.heap.size w0 x) fuel (listed.setIfInBounds i true) (a.put o.dst v) w' :=
      fun hm o ho hd v d w' σ' H' F' S' V' h' => (mixJ_sound hops hsel t _ _ _ σ' w' _ fuel (by simp [SchT.size] at hf; omega) (F.trans F') S' (Nat.le_trans hB F'.len) ((hE.fut F').put hd V') h').1 hm
    by_cases hk0 : k = 0
    · subst hk0
      refine ⟨fun hm => ?_, fun hm => by simp [mixF] at hm⟩
      simp only [mixF, beq_self_eq_true, if_true, Bool.true_and, Bool.and_eq_true] at hm
      obtain ⟨⟨⟨⟨hfree, hready⟩, hrel0⟩, _⟩, hm3⟩ := hm
      obtain ⟨o, ho, hoo, cases2⟩ := step_cases hops hE h
      have next := next hm3 o ho hoo.1
      rcases Bool.or_eq_true_iff.1 hrel0 with hrel | hmv
      case inr =>
        rw [Bool.and_eq_true] at hmv
        obtain ⟨hmv, hrel⟩ := hmv
        obtain ⟨r1, r2, r3, r4⟩ := relB_spec hrel
        unfold mvB at hmv
        rw [ho] at hmv
        dsimp only at hmv
        have take : ∀ v, YieldsIf P ops (fun _ => True) o v a → wpJ P .any ops (RelN n H0.length σ0 H0 w0 K) st (fun x => Below w0.heap.size w0 x) fuel (listed.setIfInBounds i true) (a.put o.dst v) w → wpJ P .any ops (RelN n H0.length σ0 H0 w0 K) st (fun x => Below w0.heap.size w0 x) (fuel + 1) listed a w := fun v hyv hn =>
          wpJ_firstU ho (Region.noSelect_spec hsel) (fun c a w hq => hq.elim) _ r1 r2 fuel listed a w r3 (Region.free_spec ho hfree) (by simpa using hready) hyv F.forget hn
        rcases cases2 with ⟨hw, hc⟩ | ⟨hw, hc⟩
        · simp only [mop, if_true] at hc
          by_cases hp : isPop o.op = true
          · rw [if_pos hp] at hc
            cases hv : popV P e H o.type o.op with
            | none => rw [hv] at hc; exact hc.elim
            | some d =>
              rw [hv] at hc
              obtain ⟨v, hvr, hrun⟩ := pop_sound hS hE hoo.2 hv
              refine take v (.inl ⟨hw, fun w' _ => ?_⟩) (next v d w σ H (.refl _ _ _ _) hS hvr hc)
              have hr0 := hrun w (Below.refl _ w)
              obtain ⟨dst, op, ty, pos0, af, g⟩ := o
              cases op <;> first | (cases hmv; done) | skip
              all_goals
                simp only [execOp] at hr0 ⊢
                injection hr0 with hr1
                simp_all
          · rw [if_neg hp] at hc; exact hc.elim
        · exact take undef (.inr ⟨hw, rfl⟩) (next undef undef w σ H (.refl _ _ _ _) hS (.flat _ rfl) hc)
      obtain ⟨r1, r2, r3, r4⟩ := relB_spec hrel
      have take : ∀ v, YieldsIf P ops (fun w' => Below w.heap.size w w') o v a → wpJ P .any ops (RelN n H0.length σ0 H0 w0 K) st (fun x => Below w0.heap.size w0 x) fuel (listed.setIfInBounds i true) (a.put o.dst v) w → wpJ P .any ops (RelN n H0.length σ0 H0 w0 K) st (fun x => Below w0.heap.size w0 x) (fuel + 1) listed a w := fun v hyv hn =>
        wpJ_first ho (Region.noSelect_spec hsel) (fun c a w hq => hq.elim) _ r1 r2 w fuel listed a w r3 r4 (Region.free_spec ho hfree) (by simpa using hready) hyv (Below.refl _ _) F.forget hn
      rcases cases2 with ⟨hw, hc⟩ | ⟨hw, hc⟩
      · simp only [mop, if_true] at hc
        by_cases hp : isPop o.op = true
        · rw [if_pos hp] at hc
          cases hv : popV P e H o.type o.op with
          | none => rw [hv] at hc; exact hc.elim
          | some d =>
            rw [hv] at hc
            obtain ⟨v, hvr, hrun⟩ := pop_sound hS hE hoo.2 hv
            exact take v (.inl ⟨hw, fun w' hb => hrun w' hb⟩) (next v d w σ H (.refl _ _ _ _) hS hvr hc)
        · rw [if_neg hp] at hc; exact hc.elim
      · exact take undef (.inr ⟨hw, rfl⟩) (next undef undef w σ H (.refl _ _ _ _) hS (.flat _ rfl) hc)
    · have hk0' : (k == 0) = false := by simpa using hk0
      have hst : (k == 0 || k == 1 || !st i) = true → k = 1 ∨ st i = false := fun h => by simp [hk0'] at h; exact h
      refine ⟨fun hm => ?_, fun hm f hfe j hj => ?_⟩
      · simp only [mixF, hk0', Bool.false_eq_true, if_false, Bool.not_true, Bool.false_or, beq_iff_eq, Bool.and_eq_true] at hm
        obtain ⟨⟨hm1, hm2⟩, hm3⟩ := hm
        refine ⟨fun h0 => (by rw [hm1] at h0; cases h0), fun j hj => ?_⟩
        rw [hm1] at hj
        obtain rfl : j = i := by simpa using hj
        exact eff_step hops hk0 (hst (by simpa [hk0'] using hm2)) hS hB hE h (fun o ho hd v d w' σ' H' F' S' V' h' => ⟨(F.trans F').forget, next hm3 o ho hd v d w' σ' H' F' S' V' h'⟩)
      · simp only [mixF, hk0', Bool.false_eq_true, if_false, Bool.not_false, Bool.true_or, Bool.true_and, Bool.and_eq_true] at hm
        obtain rfl : fuel = f := by omega
        obtain rfl : j = i := by simpa [SchT.firsts] using hj
        exact eff_step hops hk0 (hst (by simpa [hk0'] using hm.1)) hS hB hE h (fun o ho hd v d w' σ' H' F' S' V' h' => ⟨(F.trans F').forget, next hm.2 o ho hd v d w' σ' H' F' S' V' h'⟩)
  | .alt i k t r, listed, e, H, σ, w, a, 0, hf, F, hS, hB, hE, h => by simp [SchT.size] at hf
  | .alt i k t r, listed, e, H, σ, w, a, fuel + 1, hf, F, hS, hB, hE, h => by
    have next : mixF ops st true t (listed.setIfInBounds i true) = true → ∀ o, ops[i]? = some o → dstOk n o.dst = true → ∀ v d w' σ' H', Fut H0.length σ H w σ' H' w' → Sim σ' H' w' → VR σ' H' v d → mopsT P H0.length ops K t (put e o.dst d) H' → wpJ P .any ops (RelN n H0.length σ0 H0 w0 K) st (fun x => Below w0.heap.size w0 x) fuel (listed.setIfInBounds i true) (a.put o.dst v) w' :=
      fun hm o ho hd v d w' σ' H' F' S' V' h' => (mixJ_sound hops hsel t _ _ _ σ' w' _ fuel (by simp [SchT.size] at hf; omega) (F.trans F') S' (Nat.le_trans hB F'.len) ((hE.fut F').put hd V') h').1 hm
    have rest := (mixJ_sound (st := st) hops hsel r listed e H σ w a (fuel + 1) (by simp [SchT.size] at hf; omega) F hS hB hE h.2).2
    have main : (k != 0) = true → (k == 1 || !st i) = true → mixF ops st true t (listed.setIfInBounds i true) = true → mixF ops st false r listed = true → ∀ j ∈ i :: r.firsts, wpOp P ops (RelN n H0.length σ0 H0 w0 K) j (fun a' w' => (st j = true → Below w.heap.size w w') ∧ Below w0.heap.size w0 w' ∧ wpJ P .any ops (RelN n H0.length σ0 H0 w0 K) st (fun x => Below w0.heap.size w0 x) fuel (listed.setIfInBounds j true) a' w') a w := by
      intro c1 c2 c3 c4 j hj
      rcases List.mem_cons.1 hj with rfl | hj
      · exact eff_step hops (by simpa using c1) (by simpa using c2) hS hB hE h.1 (fun o ho hd v d w' σ' H' F' S' V' h' => ⟨(F.trans F').forget, next c3 o ho hd v d w' σ' H' F' S' V' h'⟩)
      · exact rest c4 fuel rfl j hj
    refine ⟨fun hm => ?_, fun hm f hfe j hj => ?_⟩
    · simp only [mixF, Bool.not_true, Bool.false_or, Bool.and_eq_true] at hm
      obtain ⟨⟨⟨⟨c1, c5, c6⟩, c2⟩, c3⟩, c4⟩ := hm
      refine ⟨fun h0 => by rw [h0] at c6; simp at c6, fun j hj => main c1 c2 c3 c4 j ?_⟩
      have := List.all_eq_true.1 c5 j hj
      simpa using this
    · simp only [mixF, Bool.not_false, Bool.true_or, Bool.and_eq_true] at hm
      obtain ⟨⟨⟨⟨c1, _⟩, c2⟩, c3⟩, c4⟩ := hm
      obtain rfl : fuel = f := by omega
      exact main c1 c2 c3 c4 j hj
/-- What is taken first as long as nothing was made; then a tree of orders. -/
def mixR0 (ops : Array Oper) (st : Nat → Bool) : SchT → Array Bool → Bool
  | .nil, listed => mixF ops st true .nil listed
  | .alt i k t r, listed => mixF ops st true (.alt i k t r) listed
  | .cons i 0 t, listed => (Region.free .any ops listed i && (Region.ready .any ops listed).contains i && relB ops (fun _ => true) listed i (reachB ops i)) && mixR0 ops st t (listed.setIfInBounds i true)
  | .cons i (k + 1) t, listed => mixF ops st true (.cons i (k + 1) t) listed
def mixR (ops : Array Oper) (t : SchT) : Bool := Region.noSelect ops && mixR0 ops (fun j => !t.writes j) t (Array.replicate ops.size false) && decide (t.size ≤ ops.size)
theorem mixR_sound {ops : Array Oper} (hops : ops.all (operOk n) = true) (hsel : Region.noSelect ops = true) {st : Nat → Bool} {K : Env → AH → Prop} (hS : Sim σ0 H0 w0) : ∀ (t : SchT) (listed : Array Bool) (e : Env) (a : Act) (fuel : Nat),
    t.size ≤ fuel → ER n σ0 H0 a e → mopsT P H0.length ops K t e H0 → mixR0 ops st t listed = true → wpJ P .any ops (RelN n H0.length σ0 H0 w0 K) st (fun x => Below w0.heap.size w0 x) fuel listed a w0
  | .nil, listed, e, a, fuel, hf, hE, h, hm => (mixJ_sound hops hsel .nil listed e H0 σ0 w0 a fuel hf (.refl _ _ _ _) hS (Nat.le_refl _) hE h).1 hm
  | .alt i k t r, listed, e, a, fuel, hf, hE, h, hm => (mixJ_sound hops hsel (.alt i k t r) listed e H0 σ0 w0 a fuel hf (.refl _ _ _ _) hS (Nat.le_refl _) hE h).1 hm
  | .cons i (k + 1) t, listed, e, a, fuel, hf, hE, h, hm => (mixJ_sound hops hsel (.cons i (k + 1) t) listed e H0 σ0 w0 a fuel hf (.refl _ _ _ _) hS (Nat.le_refl _) hE h).1 hm
  | .cons i 0 t, listed, e, a, 0, hf, hE, h, hm => by simp [SchT.size] at hf
  | .cons i 0 t, listed, e, a, fuel + 1, hf, hE, h, hm => by
    simp only [mixR0, Bool.and_eq_true] at hm
    obtain ⟨⟨⟨hfree, hready⟩, hrel⟩, hm3⟩ := hm
    obtain ⟨o, ho, hoo, cases2⟩ := step_cases hops hE h
    have next : ∀ v d, VR σ0 H0 v d → mopsT P H0.length ops K t (put e o.dst d) H0 → wpJ P .any ops (RelN n H0.length σ0 H0 w0 K) st (fun x => Below w0.heap.size w0 x) fuel (listed.setIfInBounds i true) (a.put o.dst v) w0 :=
      fun v d V' h' => mixR_sound hops hsel hS t _ _ _ fuel (by simp [SchT.size] at hf; omega) (hE.put hoo.1 V') h' hm3
    obtain ⟨r1, r2, r3, r4⟩ := relB_spec hrel
    have take : ∀ v, YieldsIf P ops (fun w' => Below w0.heap.size w0 w') o v a → wpJ P .any ops (RelN n H0.length σ0 H0 w0 K) st (fun x => Below w0.heap.size w0 x) fuel (listed.setIfInBounds i true) (a.put o.dst v) w0 → wpJ P .any ops (RelN n H0.length σ0 H0 w0 K) st (fun x => Below w0.heap.size w0 x) (fuel + 1) listed a w0 := fun v hyv hn =>
      wpJ_firstI ho (Region.noSelect_spec hsel) (fun c a w hq => hq.elim) _ r1 r2 fuel listed a w0 r3 (Region.free_spec ho hfree) (by simpa using hready) hyv (Below.refl _ _) hn
    rcases cases2 with ⟨hw, hc⟩ | ⟨hw, hc⟩
    · simp only [mop, if_true] at hc
      by_cases hp : isPop o.op = true
      · rw [if_pos hp] at hc
        cases hv : popV P e H0 o.type o.op with
        | none => rw [hv] at hc; exact hc.elim
        | some d =>
          rw [hv] at hc
          obtain ⟨v, hvr, hrun⟩ := pop_sound hS hE hoo.2 hv
          exact take v (.inl ⟨hw, fun w' hb => hrun w' hb⟩) (next v d hvr hc)
      · rw [if_neg hp] at hc; exact hc.elim
    · exact take undef (.inr ⟨hw, rfl⟩) (next undef undef (.flat _ rfl) hc)
/-- THE RULE for a region that asks the tape and writes only what it makes itself. -/
theorem AWp.mixedR {id : Nat} {ops : Array Oper} {e : Env} {H : AH} {Q : Exit → Env → AH → Prop} (t : SchT) (hm : P.follows .mixedOrders = true) (hc : mixR ops t = true)
    (h : mopsT P H.length ops (Q .normal) t e H) : AWp P n B (.region id ops true) Q e H := fun hok σ w a hS hB hE => by
  simp only [codeOk] at hok
  simp only [mixR, Bool.and_eq_true, decide_eq_true_eq] at hc
  have hb : Below w.heap.size w { w with drawn := w.drawn + 1 } := ⟨rfl, rfl, rfl, Nat.le_refl _, fun _ _ => rfl⟩
  have hS' := hS.below hb
  have := mixR_sound (P := P) (σ0 := σ) (H0 := H) (w0 := { w with drawn := w.drawn + 1 }) hok hc.1.1 (st := fun j => !t.writes j) (K := Q .normal) hS' t (Array.replicate ops.size false) e a ops.size hc.2 hE h hc.1.2
  refine wp_mono (wp_region_any hm (wpAny_of_J _ _ _ _ this)) fun ex a' w' hq => ?_
  cases ex with
  | normal =>
    obtain ⟨σ', e', H', F, S', E', hq⟩ := hq
    exact ⟨σ', e', H', ((Fut.of_below hb).trans F).base hB, S', E', hq⟩
  | _ => exact hq.elim
end
end Go.BM

/- A branch that is left by one way only: what is told behind it. -/
set_option linter.unusedVariables false
namespace Go.BM
/-- Left by its end only, where R stands. -/
def onlyN (R : Env → AH → Prop) : Exit → Env → AH → Prop
  | .normal, e, H => R e H
  | _, _, _ => False
structure Kept (p : Prop) : Prop where
  out : p
theorem onlyN_normal (R : Env → AH → Prop) (e : Env) (H : AH) : onlyN R .normal e H = R e H := rfl
theorem AWp.cutCond {P : Program} {n B id : Nat} {ops : Array Oper} {dr : Bool} {x : Operand} {c1 c2 b : Code} {Q : Exit → Env → AH → Prop} {e : Env} {H : AH} (R : Env → AH → Prop)
    (h1 : AWp P n B ((Code.region id ops dr).seq (.cond x c1 c2)) (onlyN R) e H) (h2 : Kept (∀ e' H', R e' H' → AWp P n B b Q e' H')) : AWp P n B (((Code.region id ops dr).seq (.cond x c1 c2)).seq b) Q e H :=
  AWp.seq (h1.mono fun ex e' H' h => by
    cases ex with
    | normal => exact h2.out _ _ h
    | _ => exact h.elim)
end Go.BM

/- Drawn regions: what no world turns is taken first wherever it stands. -/
set_option linter.unusedVariables false
set_option linter.unusedSimpArgs false
namespace Go.BM
open Go.RowKit
def isU : Op → Bool
  | .move _ | .assign _ | .pick .. | .binOp .. | .unOp .. | .fieldAddr .. | .field .. | .indexAddr .. | .index .. | .slice .. | .extract .. | .build .. => true
  | _ => false
def uB (ops : Array Oper) (i : Nat) : Bool := match ops[i]? with | some o => isU o.op | none => false
section
variable {P : Program} {B n : Nat} {σ : Sg} {H : AH} {w : World} {a : Act} {e : Env}
theorem popU_sound (hS : Sim σ H w) (hE : ER n σ H a e) {o : Oper} (hok : o.op.operands.all (opdOk n) = true) {d : Value} (h : popV P e H o.type o.op = some d) (hU : isU o.op = true) :
    ∃ v, VR σ H v d ∧ ∀ w', (execOp a.eval o).run P w' = .ok (.value v) w' := by
  obtain ⟨dst, op, ty, pos, af, g⟩ := o
  dsimp only at hok h hU
  have ok : ∀ x ∈ op.operands.toList, opdOk n x = true := fun x hx => Array.all_eq_true'.1 hok x (by simpa using hx)
  cases op <;> simp only [Op.operands] at ok <;> simp only [popV] at h <;> try (first | (cases h; done) | (cases hU; done))
  case move x => cases h; exact ⟨_, hE.eval (ok x (by simp)), fun w' => by simp [execOp]⟩
  case assign x => cases h; exact ⟨_, hE.eval (ok x (by simp)), fun w' => by simp [execOp]⟩
  case pick c x y =>
    obtain ⟨u, hu, hr⟩ := pick_sound (P := P) (hE.eval (ok c (by simp))) (hE.eval (ok x (by simp))) (hE.eval (ok y (by simp))) h
    exact ⟨u, hu, fun w' => by unfold execOp; exact hr w'⟩
  case binOp op t x y yt =>
    obtain ⟨hu, hr⟩ := bin_sound (hE.eval (ok x (by simp))) (hE.eval (ok y (by simp))) h
    exact ⟨d, hu, fun w' => by
      have := hr w'
      simp only [execOp, Sem.run_bind] at this ⊢
      rw [this]; rfl⟩
  case unOp op t x =>
    obtain ⟨hu, hr⟩ := un_sound (P := P) (hE.eval (ok x (by simp))) h
    exact ⟨d, hu, fun w' => by simp [execOp, hr w']⟩
  case fieldAddr s x f =>
    obtain ⟨u, hu, hr⟩ := fld_sound (P := P) (hE.eval (ok x (by simp))) h
    exact ⟨u, hu, fun w' => by simp [execOp, hr w']⟩
  case field s x f =>
    obtain ⟨u, hu, hr⟩ := field_sound (P := P) (hE.eval (ok x (by simp))) h
    exact ⟨u, hu, fun w' => by simp [execOp, hr w']⟩
  case indexAddr t x i =>
    obtain ⟨u, hu, hr⟩ := idx_sound (P := P) (hE.eval (ok x (by simp))) (hE.eval (ok i (by simp))) h
    exact ⟨u, hu, fun w' => by simp [execOp, hr w']⟩
  case index t x i =>
    obtain ⟨hu, hr⟩ := strIdx_sound (P := P) (hE.eval (ok x (by simp))) (hE.eval (ok i (by simp))) h
    exact ⟨d, hu, fun w' => by simp [execOp, hr w']⟩
  case slice t x lo hi mx =>
    have hv := hE.eval (ok x (by simp))
    have hlo := optEval hE (o := lo) (fun y hy => ok y (by simp; exact .inr (.inl (by simpa using hy))))
    have hhi := optEval hE (o := hi) (fun y hy => ok y (by simp; exact .inr (.inr (.inl (by simpa using hy)))))
    have hmx := optEval hE (o := mx) (fun y hy => ok y (by simp; exact .inr (.inr (.inr (by simpa using hy)))))
    unfold slV at h
    split at h
    · rename_i s hx
      rw [hx] at hv
      have hs := hv.str
      unfold strSliceS at h
      by_cases hp : pureV (.string s) = true ∧ ((lo.map (ev e)).all pureV && (hi.map (ev e)).all pureV && (mx.map (ev e)).all pureV) = true
      · rw [if_pos hp] at h
        obtain ⟨h1, h2⟩ := runV_some h
        obtain ⟨_, hp2⟩ := hp
        simp only [Bool.and_eq_true] at hp2
        obtain ⟨⟨p1, p2⟩, p3⟩ := hp2
        have same : ∀ (o : Option Operand), (∀ y ∈ o.toList, opdOk n y = true) → (o.map (ev e)).all pureV = true → o.map a.eval = o.map (ev e) := fun o ho hp => by
          cases o with
          | none => rfl
          | some y =>
            simp only [Option.map_some, Option.all_some] at hp ⊢
            rw [(hE.eval (ho y (by simp))).pureE hp]
        refine ⟨d, .ofPure h1, fun w' => ?_⟩
        have e1 := same lo (fun y hy => ok y (by simp; exact .inr (.inl (by simpa using hy)))) p1
        have e2 := same hi (fun y hy => ok y (by simp; exact .inr (.inr (.inl (by simpa using hy))))) p2
        have e3 := same mx (fun y hy => ok y (by simp; exact .inr (.inr (.inr (by simpa using hy))))) p3
        simp [execOp, hs, e1, e2, e3, h2 w']
      · rw [if_neg hp] at h; cases h
    · obtain ⟨u, hu, hr⟩ := slice_sound (P := P) hv hS (hlo 0) hhi hmx (by cases hi <;> rfl) (by cases mx <;> rfl) h
      exact ⟨u, hu, fun w' => by simp [execOp, hr w']⟩
  case extract x i =>
    obtain ⟨u, hu, hr⟩ := extract_sound (P := P) (hE.eval (ok x (by simp))) h
    exact ⟨u, hu, fun w' => by simp [execOp, hr w']⟩
  case build t ps =>
    obtain ⟨u, hu, hr⟩ := build_sound (P := P) hE (fun p hp => ok p.2 (by simp; exact ⟨p.1, by simpa using hp⟩)) h
    exact ⟨u, hu, fun w' => by
      have := hr w'
      simp [execOp, this]⟩
end
def mixU (ops : Array Oper) (st : Nat → Bool) : Bool → SchT → Array Bool → Bool
  | top, .nil, listed => top && (Region.ready .any ops listed).isEmpty
  | top, .cons i k t, listed =>
    (if k == 0 then top && (Region.free .any ops listed i && (Region.ready .any ops listed).contains i && (relB ops st listed i (reachB ops i) || uB ops i && relB ops (fun _ => true) listed i (reachB ops i))) else !top || Region.ready .any ops listed == [i]) &&
      (k == 0 || k == 1 || !st i) && mixU ops st true t (listed.setIfInBounds i true)
  | top, .alt i k t r, listed => k != 0 && (!top || (Region.ready .any ops listed).all (fun j => (i :: r.firsts).contains j) && !(Region.ready .any ops listed).isEmpty) && (k == 1 || !st i) && mixU ops st true t (listed.setIfInBounds i true) && mixU ops st false r listed
section
variable {P : Program} {B n : Nat} {σ0 : Sg} {H0 : AH} {w0 : World}
theorem mixU_sound {ops : Array Oper} (hops : ops.all (operOk n) = true) (hsel : Region.noSelect ops = true) {st : Nat → Bool} {K : Env → AH → Prop} {I : World → Prop} (hI : ∀ σ H w, Fut B σ0 H0 w0 σ H w → I w) : ∀ (t : SchT) (listed : Array Bool) (e : Env) (H : AH) (σ : Sg) (w : World) (a : Act) (fuel : Nat),
    t.size ≤ fuel → Fut B σ0 H0 w0 σ H w → Sim σ H w → B ≤ H.length → ER n σ H a e → mopsT P B ops K t e H →
      (mixU ops st true t listed = true → wpJ P .any ops (RelN n B σ0 H0 w0 K) st I fuel listed a w) ∧
      (mixU ops st false t listed = true → ∀ f, fuel = f + 1 → ∀ j ∈ t.firsts, wpOp P ops (RelN n B σ0 H0 w0 K) j (fun a' w' => (st j = true → Below w.heap.size w w') ∧ I w' ∧ wpJ P .any ops (RelN n B σ0 H0 w0 K) st I f (listed.setIfInBounds j true) a' w') a w)
  | .nil, listed, e, H, σ, w, a, fuel, hf, F, hS, hB, hE, h => by
    refine ⟨fun hm => ?_, fun hm => ?_⟩
    · simp only [mixU, Bool.true_and, List.isEmpty_iff] at hm
      exact wpJ_done hm ⟨σ, e, H, F, hS, hE, h⟩ fuel
    · simp [mixU] at hm
  | .cons i k t, listed, e, H, σ, w, a, 0, hf, F, hS, hB, hE, h => by simp [SchT.size] at hf
  | .cons i k t, listed, e, H, σ, w, a, fuel + 1, hf, F, hS, hB, hE, h => by
    have next : mixU ops st true t (listed.setIfInBounds i true) = true → ∀ o, ops[i]? = some o → dstOk n o.dst = true → ∀ v d w' σ' H', Fut B σ H w σ' H' w' → Sim σ' H' w' → VR σ' H' v d → mopsT P B ops K t (put e o.dst d) H' → wpJ P .any ops (RelN n B σ0 H0 w0 K) st I fuel (listed.setIfInBounds i true) (a.put o.dst v) w' :=
      fun hm o ho hd v d w' σ' H' F' S' V' h' => (mixU_sound hops hsel hI t _ _ _ σ' w' _ fuel (by simp [SchT.size] at hf; omega) (F.trans F') S' (Nat.le_trans hB F'.len) ((hE.fut F').put hd V') h').1 hm
    by_cases hk0 : k = 0
    · subst hk0
      refine ⟨fun hm => ?_, fun hm => by simp [mixU] at hm⟩
      simp only [mixU, beq_self_eq_true, if_true, Bool.true_and, Bool.and_eq_true] at hm
      obtain ⟨⟨⟨⟨hfree, hready⟩, hrel0⟩, _⟩, hm3⟩ := hm
      obtain ⟨o, ho, hoo, cases2⟩ := step_cases hops hE h
      have next := next hm3 o ho hoo.1
      rcases Bool.or_eq_true_iff.1 hrel0 with hrel | hmv
      case inr =>
        rw [Bool.and_eq_true] at hmv
        obtain ⟨hmv, hrel⟩ := hmv
        obtain ⟨r1, r2, r3, r4⟩ := relB_spec hrel
        unfold uB at hmv
        rw [ho] at hmv
        dsimp only at hmv
        have take : ∀ v, YieldsIf P ops (fun _ => True) o v a → wpJ P .any ops (RelN n B σ0 H0 w0 K) st I fuel (listed.setIfInBounds i true) (a.put o.dst v) w → wpJ P .any ops (RelN n B σ0 H0 w0 K) st I (fuel + 1) listed a w := fun v hyv hn =>
          wpJ_firstU ho (Region.noSelect_spec hsel) (fun c a w hq => hq.elim) _ r1 r2 fuel listed a w r3 (Region.free_spec ho hfree) (by simpa using hready) hyv (hI _ _ _ F) hn
        rcases cases2 with ⟨hw, hc⟩ | ⟨hw, hc⟩
        · simp only [mop, if_true] at hc
          by_cases hp : isPop o.op = true
          · rw [if_pos hp] at hc
            cases hv : popV P e H o.type o.op with
            | none => rw [hv] at hc; exact hc.elim
            | some d =>
              rw [hv] at hc
              obtain ⟨v, hvr, hrun⟩ := popU_sound (P := P) hS hE hoo.2 hv hmv
              exact take v (.inl ⟨hw, fun w' _ => hrun w'⟩) (next v d w σ H (.refl _ _ _ _) hS hvr hc)
          · rw [if_neg hp] at hc; exact hc.elim
        · exact take undef (.inr ⟨hw, rfl⟩) (next undef undef w σ H (.refl _ _ _ _) hS (.flat _ rfl) hc)
      obtain ⟨r1, r2, r3, r4⟩ := relB_spec hrel
      have take : ∀ v, YieldsIf P ops (fun w' => Below w.heap.size w w') o v a → wpJ P .any ops (RelN n B σ0 H0 w0 K) st I fuel (listed.setIfInBounds i true) (a.put o.dst v) w → wpJ P .any ops (RelN n B σ0 H0 w0 K) st I (fuel + 1) listed a w := fun v hyv hn =>
        wpJ_first ho (Region.noSelect_spec hsel) (fun c a w hq => hq.elim) _ r1 r2 w fuel listed a w r3 r4 (Region.free_spec ho hfree) (by simpa using hready) hyv (Below.refl _ _) (hI _ _ _ F) hn
      rcases cases2 with ⟨hw, hc⟩ | ⟨hw, hc⟩
      · simp only [mop, if_true] at hc
        by_cases hp : isPop o.op = true
        · rw [if_pos hp] at hc
          cases hv : popV P e H o.type o.op with
          | none => rw [hv] at hc; exact hc.elim
          | some d =>
            rw [hv] at hc
            obtain ⟨v, hvr, hrun⟩ := pop_sound hS hE hoo.2 hv
            exact take v (.inl ⟨hw, fun w' hb => hrun w' hb⟩) (next v d w σ H (.refl _ _ _ _) hS hvr hc)
        · rw [if_neg hp] at hc; exact hc.elim
      · exact take undef (.inr ⟨hw, rfl⟩) (next undef undef w σ H (.refl _ _ _ _) hS (.flat _ rfl) hc)
    · have hk0' : (k == 0) = false := by simpa using hk0
      have hst : (k == 0 || k == 1 || !st i) = true → k = 1 ∨ st i = false := fun h => by simp [hk0'] at h; exact h
      refine ⟨fun hm => ?_, fun hm f hfe j hj => ?_⟩
      · simp only [mixU, hk0', Bool.false_eq_true, if_false, Bool.not_true, Bool.false_or, beq_iff_eq, Bool.and_eq_true] at hm
        obtain ⟨⟨hm1, hm2⟩, hm3⟩ := hm
        refine ⟨fun h0 => (by rw [hm1] at h0; cases h0), fun j hj => ?_⟩
        rw [hm1] at hj
        obtain rfl : j = i := by simpa using hj
        exact eff_step hops hk0 (hst (by simpa [hk0'] using hm2)) hS hB hE h (fun o ho hd v d w' σ' H' F' S' V' h' => ⟨hI _ _ _ (F.trans F'), next hm3 o ho hd v d w' σ' H' F' S' V' h'⟩)
      · simp only [mixU, hk0', Bool.false_eq_true, if_false, Bool.not_false, Bool.true_or, Bool.true_and, Bool.and_eq_true] at hm
        obtain rfl : fuel = f := by omega
        obtain rfl : j = i := by simpa [SchT.firsts] using hj
        exact eff_step hops hk0 (hst (by simpa [hk0'] using hm.1)) hS hB hE h (fun o ho hd v d w' σ' H' F' S' V' h' => ⟨hI _ _ _ (F.trans F'), next hm.2 o ho hd v d w' σ' H' F' S' V' h'⟩)
  | .alt i k t r, listed, e, H, σ, w, a, 0, hf, F, hS, hB, hE, h => by simp [SchT.size] at hf
  | .alt i k t r, listed, e, H, σ, w, a, fuel + 1, hf, F, hS, hB, hE, h => by
    have next : mixU ops st true t (listed.setIfInBounds i true) = true → ∀ o, ops[i]? = some o → dstOk n o.dst = true → ∀ v d w' σ' H', Fut B σ H w σ' H' w' → Sim σ' H' w' → VR σ' H' v d → mopsT P B ops K t (put e o.dst d) H' → wpJ P .any ops (RelN n B σ0 H0 w0 K) st I fuel (listed.setIfInBounds i true) (a.put o.dst v) w' :=
      fun hm o ho hd v d w' σ' H' F' S' V' h' => (mixU_sound hops hsel hI t _ _ _ σ' w' _ fuel (by simp [SchT.size] at hf; omega) (F.trans F') S' (Nat.le_trans hB F'.len) ((hE.fut F').put hd V') h').1 hm
    have rest := (mixU_sound (st := st) hops hsel hI r listed e H σ w a (fuel + 1) (by simp [SchT.size] at hf; omega) F hS hB hE h.2).2
    have main : (k != 0) = true → (k == 1 || !st i) = true → mixU ops st true t (listed.setIfInBounds i true) = true → mixU ops st false r listed = true → ∀ j ∈ i :: r.firsts, wpOp P ops (RelN n B σ0 H0 w0 K) j (fun a' w' => (st j = true → Below w.heap.size w w') ∧ I w' ∧ wpJ P .any ops (RelN n B σ0 H0 w0 K) st I fuel (listed.setIfInBounds j true) a' w') a w := by
      intro c1 c2 c3 c4 j hj
      rcases List.mem_cons.1 hj with rfl | hj
      · exact eff_step hops (by simpa using c1) (by simpa using c2) hS hB hE h.1 (fun o ho hd v d w' σ' H' F' S' V' h' => ⟨hI _ _ _ (F.trans F'), next c3 o ho hd v d w' σ' H' F' S' V' h'⟩)
      · exact rest c4 fuel rfl j hj
    refine ⟨fun hm => ?_, fun hm f hfe j hj => ?_⟩
    · simp only [mixU, Bool.not_true, Bool.false_or, Bool.and_eq_true] at hm
      obtain ⟨⟨⟨⟨c1, c5, c6⟩, c2⟩, c3⟩, c4⟩ := hm
      refine ⟨fun h0 => by rw [h0] at c6; simp at c6, fun j hj => main c1 c2 c3 c4 j ?_⟩
      have := List.all_eq_true.1 c5 j hj
      simpa using this
    · simp only [mixU, Bool.not_false, Bool.true_or, Bool.and_eq_true] at hm
      obtain ⟨⟨⟨⟨c1, _⟩, c2⟩, c3⟩, c4⟩ := hm
      obtain rfl : fuel = f := by omega
      exact main c1 c2 c3 c4 j hj
/-- THE RULE for a region that asks the tape, with a tree of orders; what no world turns comes first. -/
def mixUT (ops : Array Oper) (t : SchT) : Bool := Region.noSelect ops && mixU ops (fun j => !t.writes j) true t (Array.replicate ops.size false) && decide (t.size ≤ ops.size)
theorem AWp.mixedU {id : Nat} {ops : Array Oper} {e : Env} {H : AH} {Q : Exit → Env → AH → Prop} (t : SchT) (hm : P.follows .mixedOrders = true) (hc : mixUT ops t = true)
    (h : mopsT P B ops (Q .normal) t e H) : AWp P n B (.region id ops true) Q e H := fun hok σ w a hS hB hE => by
  simp only [codeOk] at hok
  simp only [mixUT, Bool.and_eq_true, decide_eq_true_eq] at hc
  have hb : Below w.heap.size w { w with drawn := w.drawn + 1 } := ⟨rfl, rfl, rfl, Nat.le_refl _, fun _ _ => rfl⟩
  have := (mixU_sound (P := P) (B := B) (σ0 := σ) (H0 := H) (w0 := w) hok hc.1.1 (st := fun j => !t.writes j) (K := Q .normal) (I := fun _ => True) (fun _ _ _ _ => trivial) t (Array.replicate ops.size false) e H σ { w with drawn := w.drawn + 1 } a ops.size hc.2 (.of_below hb) (hS.below hb) hB hE h).1 hc.1.2
  refine wp_mono (wp_region_any hm (wpAny_of_J _ _ _ _ this)) fun ex a' w' hq => ?_
  cases ex with
  | normal => exact hq
  | _ => exact hq.elim
/-- What is taken first as long as nothing was made; then a tree of orders where what no world turns comes first. -/
def mixV0 (ops : Array Oper) (st : Nat → Bool) : SchT → Array Bool → Bool
  | .nil, listed => mixU ops st true .nil listed
  | .alt i k t r, listed => mixU ops st true (.alt i k t r) listed
  | .cons i 0 t, listed => (Region.free .any ops listed i && (Region.ready .any ops listed).contains i && relB ops (fun _ => true) listed i (reachB ops i)) && mixV0 ops st t (listed.setIfInBounds i true)
  | .cons i (k + 1) t, listed => mixU ops st true (.cons i (k + 1) t) listed
def mixV (ops : Array Oper) (t : SchT) : Bool := Region.noSelect ops && mixV0 ops (fun j => !t.writes j) t (Array.replicate ops.size false) && decide (t.size ≤ ops.size)
theorem mixV_sound {ops : Array Oper} (hops : ops.all (operOk n) = true) (hsel : Region.noSelect ops = true) {st : Nat → Bool} {K : Env → AH → Prop} (hS : Sim σ0 H0 w0) : ∀ (t : SchT) (listed : Array Bool) (e : Env) (a : Act) (fuel : Nat),
    t.size ≤ fuel → ER n σ0 H0 a e → mopsT P H0.length ops K t e H0 → mixV0 ops st t listed = true → wpJ P .any ops (RelN n H0.length σ0 H0 w0 K) st (fun x => Below w0.heap.size w0 x) fuel listed a w0
  | .nil, listed, e, a, fuel, hf, hE, h, hm => (mixU_sound hops hsel (fun _ _ _ F => F.forget) .nil listed e H0 σ0 w0 a fuel hf (.refl _ _ _ _) hS (Nat.le_refl _) hE h).1 hm
  | .alt i k t r, listed, e, a, fuel, hf, hE, h, hm => (mixU_sound hops hsel (fun _ _ _ F => F.forget) (.alt i k t r) listed e H0 σ0 w0 a fuel hf (.refl _ _ _ _) hS (Nat.le_refl _) hE h).1 hm
  | .cons i (k + 1) t, listed, e, a, fuel, hf, hE, h, hm => (mixU_sound hops hsel (fun _ _ _ F => F.forget) (.cons i (k + 1) t) listed e H0 σ0 w0 a fuel hf (.refl _ _ _ _) hS (Nat.le_refl _) hE h).1 hm
  | .cons i 0 t, listed, e, a, 0, hf, hE, h, hm => by simp [SchT.size] at hf
  | .cons i 0 t, listed, e, a, fuel + 1, hf, hE, h, hm => by
    simp only [mixV0, Bool.and_eq_true] at hm
    obtain ⟨⟨⟨hfree, hready⟩, hrel⟩, hm3⟩ := hm
    obtain ⟨o, ho, hoo, cases2⟩ := step_cases hops hE h
    have next : ∀ v d, VR σ0 H0 v d → mopsT P H0.length ops K t (put e o.dst d) H0 → wpJ P .any ops (RelN n H0.length σ0 H0 w0 K) st (fun x => Below w0.heap.size w0 x) fuel (listed.setIfInBounds i true) (a.put o.dst v) w0 :=
      fun v d V' h' => mixV_sound hops hsel hS t _ _ _ fuel (by simp [SchT.size] at hf; omega) (hE.put hoo.1 V') h' hm3
    obtain ⟨r1, r2, r3, r4⟩ := relB_spec hrel
    have take : ∀ v, YieldsIf P ops (fun w' => Below w0.heap.size w0 w') o v a → wpJ P .any ops (RelN n H0.length σ0 H0 w0 K) st (fun x => Below w0.heap.size w0 x) fuel (listed.setIfInBounds i true) (a.put o.dst v) w0 → wpJ P .any ops (RelN n H0.length σ0 H0 w0 K) st (fun x => Below w0.heap.size w0 x) (fuel + 1) listed a w0 := fun v hyv hn =>
      wpJ_firstI ho (Region.noSelect_spec hsel) (fun c a w hq => hq.elim) _ r1 r2 fuel listed a w0 r3 (Region.free_spec ho hfree) (by simpa using hready) hyv (Below.refl _ _) hn
    rcases cases2 with ⟨hw, hc⟩ | ⟨hw, hc⟩
    · simp only [mop, if_true] at hc
      by_cases hp : isPop o.op = true
      · rw [if_pos hp] at hc
        cases hv : popV P e H0 o.type o.op with
        | none => rw [hv] at hc; exact hc.elim
        | some d =>
          rw [hv] at hc
          obtain ⟨v, hvr, hrun⟩ := pop_sound hS hE hoo.2 hv
          exact take v (.inl ⟨hw, fun w' hb => hrun w' hb⟩) (next v d hvr hc)
      · rw [if_neg hp] at hc; exact hc.elim
    · exact take undef (.inr ⟨hw, rfl⟩) (next undef undef (.flat _ rfl) hc)
theorem AWp.mixedV {id : Nat} {ops : Array Oper} {e : Env} {H : AH} {Q : Exit → Env → AH → Prop} (t : SchT) (hm : P.follows .mixedOrders = true) (hc : mixV ops t = true)
    (h : mopsT P H.length ops (Q .normal) t e H) : AWp P n B (.region id ops true) Q e H := fun hok σ w a hS hB hE => by
  simp only [codeOk] at hok
  simp only [mixV, Bool.and_eq_true, decide_eq_true_eq] at hc
  have hb : Below w.heap.size w { w with drawn := w.drawn + 1 } := ⟨rfl, rfl, rfl, Nat.le_refl _, fun _ _ => rfl⟩
  have hS' := hS.below hb
  have := mixV_sound (P := P) (σ0 := σ) (H0 := H) (w0 := { w with drawn := w.drawn + 1 }) hok hc.1.1 (st := fun j => !t.writes j) (K := Q .normal) hS' t (Array.replicate ops.size false) e a ops.size hc.2 hE h hc.1.2
  refine wp_mono (wp_region_any hm (wpAny_of_J _ _ _ _ this)) fun ex a' w' hq => ?_
  cases ex with
  | normal =>
    obtain ⟨σ', e', H', F, S', E', hq⟩ := hq
    exact ⟨σ', e', H', ((Fut.of_below hb).trans F).base hB, S', E', hq⟩
  | _ => exact hq.elim
end
end Go.BM
