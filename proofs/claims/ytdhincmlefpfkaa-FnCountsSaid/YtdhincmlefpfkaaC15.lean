/- Regions that ask for their order and make, write or call as well: one order serves for all, where a static check says so. -/
import Derived.Test.YtdhincmlefpfkaaC14
import Derived.OrdersHeld
set_option linter.unusedVariables false
set_option linter.unusedSimpArgs false
namespace Go.BM
open Go.RowKit

section
variable {P : Program} {ops : Array Oper} {Q : Exit → Act → World → Prop} {md : Region.Mode} {st : Nat → Bool}

/-- Whatever order is picked from here on; behind an operation for which 'st' stands the older memory is as it was ahead of it. -/
def wpG (P : Program) (md : Region.Mode) (ops : Array Oper) (Q : Exit → Act → World → Prop) (st : Nat → Bool) : Nat → Array Bool → Act → World → Prop
  | 0, listed, a, w => Region.ready md ops listed = [] ∧ Q .normal a w
  | fuel + 1, listed, a, w =>
    (Region.ready md ops listed = [] → Q .normal a w) ∧
    ∀ i ∈ Region.ready md ops listed, wpOp P ops Q i (fun a' w' => (st i = true → Below w.heap.size w w') ∧ wpG P md ops Q st fuel (listed.setIfInBounds i true) a' w') a w

theorem wpAny_of_G : ∀ (fuel : Nat) (listed : Array Bool) (a : Act) (w : World), wpG P md ops Q st fuel listed a w → wpAny P md ops Q fuel listed a w
  | 0, _, _, _, h => h
  | fuel + 1, _, _, _, h => ⟨h.1, fun i hi => wpOp_mono (fun a' w' h' => wpAny_of_G fuel _ a' w' h'.2) (h.2 i hi)⟩

theorem wpG_first {i : Nat} {oi : Oper} {v : Value} (hi : ops[i]? = some oi) (hsel : ∀ (j : Nat) (o : Oper) cs b, ops[j]? = some o → o.op ≠ .select cs b)
    (hQ : ∀ c a w, Q (.panic c) (a.put oi.dst v) w → Q (.panic c) a w) (R : Array Bool) (hRi : R.getD i false = false)
    (hRc : ∀ (j : Nat) oj, ops[j]? = some oj → R.getD j false = false → j = i ∨ ∃ e ∈ oj.after, Region.binds md e = true ∧ R.getD e.on false = false) (wt : World) :
    ∀ (fuel : Nat) (listed : Array Bool) (a : Act) (w : World),
      (∀ k, listed.getD k false = true → R.getD k false = true) → (∀ k, R.getD k false = true → listed.getD k true = false → st k = true) →
      (∀ j oj, ops[j]? = some oj → j ≠ i → listed.getD j true = false → (∀ e ∈ oj.after, Region.binds md e = true → e.on ≠ i) → oi.apart ops oj = true) →
      i ∈ Region.ready md ops listed → YieldsIf P ops (fun w' => Below wt.heap.size wt w') oi v a → Below wt.heap.size wt w →
      wpG P md ops Q st fuel (listed.setIfInBounds i true) (a.put oi.dst v) w → wpG P md ops Q st (fuel + 1) listed a w := by
  intro fuel
  induction fuel with
  | zero =>
    intro listed a w _ _ _ hr hy hS H
    refine ⟨fun h => (by rw [h] at hr; cases hr), fun j hj => ?_⟩
    by_cases hji : j = i
    · subst hji; exact hy.wpOp hi hS ⟨fun _ => Below.refl _ _, H⟩
    · have := ready_mono hj hji
      rw [H.1] at this
      cases this
  | succ fuel ih =>
    intro listed a w hsub hst hfree hr hy hS H
    refine ⟨fun h => (by rw [h] at hr; cases hr), fun j hj => ?_⟩
    by_cases hji : j = i
    · subst hji; exact hy.wpOp hi hS ⟨fun _ => Below.refl _ _, H⟩
    · have h1 := H.2 j (ready_mono hj hji)
      obtain ⟨hjun, oj, hoj, hall⟩ := mem_ready.1 hj
      have hnot : ∀ e ∈ oj.after, Region.binds md e = true → e.on ≠ i := fun e he hb heq => by
        have h1 := hall e he hb
        have h0 := (mem_ready.1 hr).1
        rw [heq] at h1
        rcases Nat.lt_or_ge i listed.size with h' | h'
        · simp [h'] at h0 h1; rw [h0] at h1; cases h1
        · simp [Array.getElem?_eq_none h'] at h1
      have hRj : R.getD j false = true := by
        cases hRj : R.getD j false with
        | true => rfl
        | false =>
          rcases hRc j oj hoj hRj with h | ⟨e, he, hb, hR⟩
          · exact absurd h hji
          · have := hsub _ (hall e he hb)
            rw [hR] at this
            cases this
      have hstj := hst j hRj hjun
      have h2 := wpOp_putIf hoj (hfree j oj hoj hji hjun hnot) (fun cs b => hsel i oi cs b hi) (fun cs b => hsel j oj cs b hoj) hQ hy h1
      have hfree' : ∀ k ok, ops[k]? = some ok → k ≠ i → (listed.setIfInBounds j true).getD k true = false →
          (∀ e ∈ ok.after, Region.binds md e = true → e.on ≠ i) → oi.apart ops ok = true := fun k ok hk hki hun hno => by
        refine hfree k ok hk hki ?_ hno
        by_cases hjk : j = k
        · subst hjk; exact hjun
        · rw [getD_set_ne true hjk] at hun; exact hun
      have hsub' : ∀ k, (listed.setIfInBounds j true).getD k false = true → R.getD k false = true := fun k hk => by
        by_cases hjk : j = k
        · subst hjk; exact hRj
        · rw [getD_set_ne false hjk] at hk; exact hsub k hk
      have hst' : ∀ k, R.getD k false = true → (listed.setIfInBounds j true).getD k true = false → st k = true := fun k hk hun => by
        refine hst k hk ?_
        by_cases hjk : j = k
        · subst hjk; exact hjun
        · rw [getD_set_ne true hjk] at hun; exact hun
      refine wpOp_mono (fun a' w' h3 => ?_) h2
      have hbj := h3.2.1 hstj
      have hS' : Below wt.heap.size wt w' := hS.trans (hbj.mono hS.size)
      refine ⟨fun _ => hbj, ih (listed.setIfInBounds j true) a' w' hsub' hst' hfree' (ready_mono hr (Ne.symm hji)) h3.1 hS' ?_⟩
      rw [Array.setIfInBounds_comm _ _ hji]
      exact h3.2.2

theorem wpG_firstU {i : Nat} {oi : Oper} {v : Value} (hi : ops[i]? = some oi) (hsel : ∀ (j : Nat) (o : Oper) cs b, ops[j]? = some o → o.op ≠ .select cs b)
    (hQ : ∀ c a w, Q (.panic c) (a.put oi.dst v) w → Q (.panic c) a w) (R : Array Bool) (hRi : R.getD i false = false)
    (hRc : ∀ (j : Nat) oj, ops[j]? = some oj → R.getD j false = false → j = i ∨ ∃ e ∈ oj.after, Region.binds md e = true ∧ R.getD e.on false = false) :
    ∀ (fuel : Nat) (listed : Array Bool) (a : Act) (w : World),
      (∀ k, listed.getD k false = true → R.getD k false = true) →
      (∀ j oj, ops[j]? = some oj → j ≠ i → listed.getD j true = false → (∀ e ∈ oj.after, Region.binds md e = true → e.on ≠ i) → oi.apart ops oj = true) →
      i ∈ Region.ready md ops listed → YieldsIf P ops (fun _ => True) oi v a →
      wpG P md ops Q st fuel (listed.setIfInBounds i true) (a.put oi.dst v) w → wpG P md ops Q st (fuel + 1) listed a w := by
  intro fuel
  induction fuel with
  | zero =>
    intro listed a w _ _ hr hy H
    refine ⟨fun h => (by rw [h] at hr; cases hr), fun j hj => ?_⟩
    by_cases hji : j = i
    · subst hji; exact hy.wpOp hi trivial ⟨fun _ => Below.refl _ _, H⟩
    · have := ready_mono hj hji
      rw [H.1] at this
      cases this
  | succ fuel ih =>
    intro listed a w hsub hfree hr hy H
    refine ⟨fun h => (by rw [h] at hr; cases hr), fun j hj => ?_⟩
    by_cases hji : j = i
    · subst hji; exact hy.wpOp hi trivial ⟨fun _ => Below.refl _ _, H⟩
    · have h1 := H.2 j (ready_mono hj hji)
      obtain ⟨hjun, oj, hoj, hall⟩ := mem_ready.1 hj
      have hnot : ∀ e ∈ oj.after, Region.binds md e = true → e.on ≠ i := fun e he hb heq => by
        have h1 := hall e he hb
        have h0 := (mem_ready.1 hr).1
        rw [heq] at h1
        rcases Nat.lt_or_ge i listed.size with h' | h'
        · simp [h'] at h0 h1; rw [h0] at h1; cases h1
        · simp [Array.getElem?_eq_none h'] at h1
      have hRj : R.getD j false = true := by
        cases hRj : R.getD j false with
        | true => rfl
        | false =>
          rcases hRc j oj hoj hRj with h | ⟨e, he, hb, hR⟩
          · exact absurd h hji
          · have := hsub _ (hall e he hb)
            rw [hR] at this
            cases this
      have h2 := wpOp_putIf hoj (hfree j oj hoj hji hjun hnot) (fun cs b => hsel i oi cs b hi) (fun cs b => hsel j oj cs b hoj) hQ hy h1
      have hfree' : ∀ k ok, ops[k]? = some ok → k ≠ i → (listed.setIfInBounds j true).getD k true = false →
          (∀ e ∈ ok.after, Region.binds md e = true → e.on ≠ i) → oi.apart ops ok = true := fun k ok hk hki hun hno => by
        refine hfree k ok hk hki ?_ hno
        by_cases hjk : j = k
        · subst hjk; exact hjun
        · rw [getD_set_ne true hjk] at hun; exact hun
      have hsub' : ∀ k, (listed.setIfInBounds j true).getD k false = true → R.getD k false = true := fun k hk => by
        by_cases hjk : j = k
        · subst hjk; exact hRj
        · rw [getD_set_ne false hjk] at hk; exact hsub k hk
      refine wpOp_mono (fun a' w' h3 => ?_) h2
      refine ⟨h3.2.1, ih (listed.setIfInBounds j true) a' w' hsub' hfree' (ready_mono hr (Ne.symm hji)) h3.1 ?_⟩
      rw [Array.setIfInBounds_comm _ _ hji]
      exact h3.2.2

theorem wpG_done {listed : Array Bool} {a : Act} {w : World} (hr : Region.ready md ops listed = []) (h : Q .normal a w) :
    ∀ fuel, wpG P md ops Q st fuel listed a w
  | 0 => ⟨hr, h⟩
  | _ + 1 => ⟨fun _ => h, by rw [hr]; simp⟩

theorem wp_region_G {id : Nat} {a : Act} {w : World} (hm : P.follows .mixedOrders = true)
    (h : wpG P .any ops Q st ops.size (Array.replicate ops.size false) a { w with drawn := w.drawn + 1 }) : (Code.region id ops true).wp P Q a w :=
  wp_region_any hm (wpAny_of_G _ _ _ _ h)
end

/-! ### The static check -/
/-- Which operations may come up while number i has not: all but i and what waits for it. -/
def reachB (ops : Array Oper) (i : Nat) : Array Bool :=
  ops.toList.foldl (fun R o => R.push (!(R.size == i) && o.after.all fun e => !Region.binds .any e || R.getD e.on false)) #[]

def relB (ops : Array Oper) (st : Nat → Bool) (listed : Array Bool) (i : Nat) (R : Array Bool) : Bool :=
  !R.getD i false && ((List.range ops.size).all fun j => match ops[j]? with
    | some oj => (R.getD j false || j == i || oj.after.any fun e => Region.binds .any e && !R.getD e.on false) && (!R.getD j false || listed.getD j true || st j) && (!listed.getD j false || R.getD j false)
    | none => true) && decide (listed.size ≤ ops.size)

/-- An operation that no world turns. -/
def isMv : Op → Bool
  | .move _ | .assign _ => true
  | _ => false
def mvB (ops : Array Oper) (i : Nat) : Bool := match ops[i]? with | some o => isMv o.op | none => false
def mixB (ops : Array Oper) (st : Nat → Bool) : List (Nat × Nat) → Array Bool → Bool
  | [], listed => (Region.ready .any ops listed).isEmpty
  | (i, k) :: sch, listed =>
    (if k == 0 then Region.free .any ops listed i && (Region.ready .any ops listed).contains i && (relB ops st listed i (reachB ops i) || mvB ops i && relB ops (fun _ => true) listed i (reachB ops i)) else Region.ready .any ops listed == [i]) &&
      (k != 1 || true) && (k == 0 || k == 1 || !st i) && mixB ops st sch (listed.setIfInBounds i true)

def stOf (sch : List (Nat × Nat)) : Nat → Bool := fun j => !sch.any fun p => p.1 == j && p.2 == 2

def mixC (ops : Array Oper) (sch : List (Nat × Nat)) : Bool := Region.noSelect ops && mixB ops (stOf sch) sch (Array.replicate ops.size false) && decide (sch.length ≤ ops.size)

/-! ### What it comes to -/
noncomputable def mop (P : Program) (B : Nat) (k : Nat) (e : Env) (H : AH) (o : Oper) (K : Value → AH → Prop) : Prop :=
  if k = 0 then (if isPop o.op = true then optK (popV P e H o.type o.op) (fun v => K v H) else False)
  else if k = 1 then aop P H.length e H o K else aop P B e H o K

noncomputable def mops (P : Program) (B : Nat) (ops : Array Oper) (K : Env → AH → Prop) : List (Nat × Nat) → Env → AH → Prop
  | [], e, H => K e H
  | (i, k) :: sch, e, H =>
    match ops[i]? with
    | none => False
    | some o =>
      match o.guard with
      | none => mop P B k e H o fun v H' => mops P B ops K sch (put e o.dst v) H'
      | some (j, want) => gateA (yieldA ops e j) want (mop P B k e H o fun v H' => mops P B ops K sch (put e o.dst v) H') (mops P B ops K sch (put e o.dst undef) H)

section
variable {P : Program} {B n : Nat} {σ0 : Sg} {H0 : AH} {w0 : World}

def RelN (n B : Nat) (σ : Sg) (H : AH) (w : World) (Q : Env → AH → Prop) : Exit → Act → World → Prop
  | .normal, a', w' => ∃ σ' e' H', Fut B σ H w σ' H' w' ∧ Sim σ' H' w' ∧ ER n σ' H' a' e' ∧ Q e' H'
  | _, _, _ => False

theorem relB_spec {ops : Array Oper} {st : Nat → Bool} {listed : Array Bool} {i : Nat} {R : Array Bool} (h : relB ops st listed i R = true) :
    R.getD i false = false ∧ (∀ (j : Nat) oj, ops[j]? = some oj → R.getD j false = false → j = i ∨ ∃ e ∈ oj.after, Region.binds .any e = true ∧ R.getD e.on false = false) ∧
      (∀ k, listed.getD k false = true → R.getD k false = true) ∧ (∀ k, R.getD k false = true → listed.getD k true = false → st k = true) := by
  simp only [relB, Bool.and_eq_true, List.all_eq_true, List.mem_range, decide_eq_true_eq] at h
  obtain ⟨⟨h1, h2⟩, h3⟩ := h
  have at' : ∀ j, j < ops.size → ∃ oj, ops[j]? = some oj ∧ ((R.getD j false || j == i || oj.after.any fun e => Region.binds .any e && !R.getD e.on false) = true ∧ (!R.getD j false || listed.getD j true || st j) = true) ∧ (!listed.getD j false || R.getD j false) = true := fun j hj => by
    have := h2 j hj
    rw [Array.getElem?_eq_getElem hj] at this
    simp only [Bool.and_eq_true] at this
    exact ⟨_, Array.getElem?_eq_getElem hj, this⟩
  refine ⟨by simpa using h1, fun j oj hoj hR => ?_, fun k hk => ?_, fun k hk hl => ?_⟩
  · obtain ⟨o, ho, ⟨h4, _⟩, _⟩ := at' j (Array.getElem?_eq_some_iff.1 hoj).1
    rw [hoj] at ho
    cases ho
    rw [hR] at h4
    simp only [Bool.false_or, Bool.or_eq_true, beq_iff_eq, Array.any_eq_true, Bool.and_eq_true, Bool.not_eq_true'] at h4
    rcases h4 with h4 | ⟨x, hx, h5, h6⟩
    · exact .inl h4
    · exact .inr ⟨_, Array.getElem_mem hx, h5, h6⟩
  · have hk' : k < ops.size := by
      rcases Nat.lt_or_ge k listed.size with h' | h'
      · omega
      · simp [Array.getElem?_eq_none h'] at hk
    obtain ⟨o, ho, _, h5⟩ := at' k hk'
    rw [hk] at h5
    simpa using h5
  · have hk' : k < ops.size := by
      rcases Nat.lt_or_ge k listed.size with h' | h'
      · omega
      · simp [Array.getElem?_eq_none h'] at hl
    obtain ⟨o, ho, ⟨_, h4⟩, _⟩ := at' k hk'
    rw [hk, hl] at h4
    simpa using h4

theorem mix_sound {ops : Array Oper} (hops : ops.all (operOk n) = true) (hsel : Region.noSelect ops = true) {st : Nat → Bool} {K : Env → AH → Prop} : ∀ (sch : List (Nat × Nat)) (listed : Array Bool) (e : Env) (H : AH) (σ : Sg) (w : World) (a : Act) (fuel : Nat),
    mixB ops st sch listed = true → sch.length ≤ fuel → Fut B σ0 H0 w0 σ H w → Sim σ H w → B ≤ H.length → ER n σ H a e → mops P B ops K sch e H → wpG P .any ops (RelN n B σ0 H0 w0 K) st fuel listed a w
  | [], listed, e, H, σ, w, a, fuel, hm, hf, F, hS, hB, hE, h => by
    simp only [mixB, List.isEmpty_iff] at hm
    exact wpG_done hm ⟨σ, e, H, F, hS, hE, h⟩ fuel
  | (i, k) :: sch, listed, e, H, σ, w, a, 0, hm, hf, F, hS, hB, hE, h => by simp at hf
  | (i, k) :: sch, listed, e, H, σ, w, a, fuel + 1, hm, hf, F, hS, hB, hE, h => by
    simp only [mixB, Bool.and_eq_true] at hm
    obtain ⟨⟨⟨hm1, _⟩, hm2⟩, hm3⟩ := hm
    unfold mops at h
    cases ho : ops[i]? with
    | none => rw [ho] at h; exact h.elim
    | some o =>
      rw [ho] at h
      dsimp only at h
      have hoo : operOk n o = true := Array.all_eq_true'.1 hops o (Array.mem_of_getElem? ho)
      unfold operOk at hoo
      rw [Bool.and_eq_true] at hoo
      have hdst : ops.all (fun o => dstOk n o.dst) = true := by
        rw [Array.all_eq_true] at hops ⊢
        intro i hi
        have := hops i hi
        unfold operOk at this
        rw [Bool.and_eq_true] at this
        exact this.1
      have hy := yield_eq hE hdst
      have next : ∀ v d w' σ' H', Fut B σ H w σ' H' w' → Sim σ' H' w' → VR σ' H' v d → mops P B ops K sch (put e o.dst d) H' → wpG P .any ops (RelN n B σ0 H0 w0 K) st fuel (listed.setIfInBounds i true) (a.put o.dst v) w' := fun v d w' σ' H' F' S' V' h' =>
        mix_sound hops hsel sch _ _ _ σ' w' _ fuel hm3 (by simp at hf; omega) (F.trans F') S' (Nat.le_trans hB F'.len) ((hE.fut F').put hoo.1 V') h'
      -- what is wanted, and what comes of it
      have cases2 : (Region.wanted o (yielded ops a.tmps) = true ∧ mop P B k e H o (fun v H' => mops P B ops K sch (put e o.dst v) H')) ∨ (Region.wanted o (yielded ops a.tmps) = false ∧ mops P B ops K sch (put e o.dst undef) H) := by
        cases hg : o.guard with
        | none =>
          rw [hg] at h
          exact .inl ⟨by simp [Region.wanted, hg], h⟩
        | some jw =>
          obtain ⟨j, want⟩ := jw
          rw [hg] at h
          dsimp only at h
          unfold gateA at h
          by_cases hc : yieldA ops e j = some want
          · rw [if_pos hc] at h
            exact .inl ⟨by simp [Region.wanted, hg, hy, hc], h⟩
          · rw [if_neg hc] at h
            exact .inr ⟨by simp [Region.wanted, hg, hy, hc], h⟩
      by_cases hk0 : k = 0
      · -- taken first
        subst hk0
        simp only [beq_self_eq_true, if_true, Bool.and_eq_true] at hm1
        obtain ⟨⟨hfree, hready⟩, hrel0⟩ := hm1
        rcases Bool.or_eq_true_iff.1 hrel0 with hrel | hmv
        case inr =>
          rw [Bool.and_eq_true] at hmv
          obtain ⟨hmv, hrel⟩ := hmv
          obtain ⟨r1, r2, r3, r4⟩ := relB_spec hrel
          unfold mvB at hmv
          rw [ho] at hmv
          dsimp only at hmv
          have take : ∀ v, YieldsIf P ops (fun _ => True) o v a → wpG P .any ops (RelN n B σ0 H0 w0 K) st fuel (listed.setIfInBounds i true) (a.put o.dst v) w → wpG P .any ops (RelN n B σ0 H0 w0 K) st (fuel + 1) listed a w := fun v hyv hn =>
            wpG_firstU ho (Region.noSelect_spec hsel) (fun c a w hq => hq.elim) _ r1 r2 fuel listed a w r3 (Region.free_spec ho hfree) (by simpa using hready) hyv hn
          rcases cases2 with ⟨hw, hc⟩ | ⟨hw, hc⟩
          · simp only [mop, if_true] at hc
            by_cases hp : isPop o.op = true
            · rw [if_pos hp] at hc
              cases hv : popV P e H o.type o.op with
              | none => rw [hv] at hc; exact hc.elim
              | some d =>
                rw [hv] at hc
                obtain ⟨v, hvr, hrun⟩ := pop_sound hS hE hoo.2 hv
                refine take v (.inl ⟨hw, fun w' _ => ?_⟩) (next v d w σ H (.refl _ _ _ _) hS hvr hc)
                have hr0 := hrun w (Below.refl _ w)
                obtain ⟨dst, op, ty, pos0, af, g⟩ := o
                cases op <;> first | (cases hmv; done) | skip
                all_goals
                  simp only [execOp] at hr0 ⊢
                  injection hr0 with hr1
                  simp_all
            · rw [if_neg hp] at hc; exact hc.elim
          · exact take undef (.inr ⟨hw, rfl⟩) (next undef undef w σ H (.refl _ _ _ _) hS (.flat _ rfl) hc)
        obtain ⟨r1, r2, r3, r4⟩ := relB_spec hrel
        have take : ∀ v, YieldsIf P ops (fun w' => Below w.heap.size w w') o v a → wpG P .any ops (RelN n B σ0 H0 w0 K) st fuel (listed.setIfInBounds i true) (a.put o.dst v) w → wpG P .any ops (RelN n B σ0 H0 w0 K) st (fuel + 1) listed a w := fun v hyv hn =>
          wpG_first ho (Region.noSelect_spec hsel) (fun c a w hq => hq.elim) _ r1 r2 w fuel listed a w r3 r4 (Region.free_spec ho hfree) (by simpa using hready) hyv (Below.refl _ _) hn
        rcases cases2 with ⟨hw, hc⟩ | ⟨hw, hc⟩
        · simp only [mop, if_true] at hc
          by_cases hp : isPop o.op = true
          · rw [if_pos hp] at hc
            cases hv : popV P e H o.type o.op with
            | none => rw [hv] at hc; exact hc.elim
            | some d =>
              rw [hv] at hc
              obtain ⟨v, hvr, hrun⟩ := pop_sound hS hE hoo.2 hv
              exact take v (.inl ⟨hw, fun w' hb => hrun w' hb⟩) (next v d w σ H (.refl _ _ _ _) hS hvr hc)
          · rw [if_neg hp] at hc; exact hc.elim
        · exact take undef (.inr ⟨hw, rfl⟩) (next undef undef w σ H (.refl _ _ _ _) hS (.flat _ rfl) hc)
      · -- the only one that may come up
        have hk0' : (k == 0) = false := by simpa using hk0
        simp only [hk0', Bool.false_eq_true, if_false, beq_iff_eq] at hm1
        refine ⟨fun h0 => (by rw [hm1] at h0; cases h0), fun j hj => ?_⟩
        rw [hm1] at hj
        obtain rfl : j = i := by simpa using hj
        unfold wpOp
        simp only [ho]
        rcases cases2 with ⟨hw, hc⟩ | ⟨hw, hc⟩
        · rw [if_pos hw]
          left
          unfold mop at hc
          rw [if_neg hk0] at hc
          by_cases hk1 : k = 1
          · rw [if_pos hk1] at hc
            exact aop_sound hS (Nat.le_refl _) hE hoo.2 hc fun v w' σ' H' d F' S' V' h' => ⟨fun _ => F'.forget, next v d w' σ' H' (F'.base hB) S' V' h'⟩
          · rw [if_neg hk1] at hc
            have hst : st j = false := by
              have e1 : (k == 1) = false := by simpa using hk1
              rw [hk0', e1] at hm2
              simpa using hm2
            exact aop_sound hS hB hE hoo.2 hc fun v w' σ' H' d F' S' V' h' => ⟨fun hx => (by rw [hst] at hx; cases hx), next v d w' σ' H' F' S' V' h'⟩
        · rw [if_neg (by rw [hw]; decide)]
          exact ⟨fun _ => Below.refl _ _, next undef undef w σ H (.refl _ _ _ _) hS (.flat _ rfl) hc⟩

/-- THE RULE for a region that asks the tape. -/
theorem AWp.mixed {id : Nat} {ops : Array Oper} {e : Env} {H : AH} {Q : Exit → Env → AH → Prop} (sch : List (Nat × Nat)) (hm : P.follows .mixedOrders = true) (hc : mixC ops sch = true)
    (h : mops P B ops (Q .normal) sch e H) : AWp P n B (.region id ops true) Q e H := fun hok σ w a hS hB hE => by
  simp only [codeOk] at hok
  simp only [mixC, Bool.and_eq_true, decide_eq_true_eq] at hc
  have hb : Below w.heap.size w { w with drawn := w.drawn + 1 } := ⟨rfl, rfl, rfl, Nat.le_refl _, fun _ _ => rfl⟩
  have := mix_sound (P := P) (B := B) (σ0 := σ) (H0 := H) (w0 := w) hok hc.1.1 (st := stOf sch) (K := Q .normal) sch (Array.replicate ops.size false) e H σ { w with drawn := w.drawn + 1 } a ops.size hc.1.2 hc.2 (.of_below hb) (hS.below hb) hB hE h
  refine wp_mono (wp_region_G hm this) fun ex a' w' hq => ?_
  cases ex with
  | normal => exact hq
  | _ => exact hq.elim
end

/-! ### Orders told by a tree: where several operations may come up, each of them -/
inductive SchT
  | nil
  | cons (i k : Nat) (t : SchT)
  | alt (i k : Nat) (t r : SchT)
def SchT.firsts : SchT → List Nat
  | .nil => []
  | .cons i _ _ => [i]
  | .alt i _ _ r => i :: r.firsts
def SchT.size : SchT → Nat
  | .nil => 0
  | .cons _ _ t => t.size + 1
  | .alt _ _ t r => max (t.size + 1) r.size
def SchT.writes : SchT → Nat → Bool
  | .nil, _ => false
  | .cons i k t, j => (i == j && k == 2) || t.writes j
  | .alt i k t r, j => (i == j && k == 2) || t.writes j || r.writes j
def mixF (ops : Array Oper) (st : Nat → Bool) : Bool → SchT → Array Bool → Bool
  | top, .nil, listed => top && (Region.ready .any ops listed).isEmpty
  | top, .cons i k t, listed =>
    (if k == 0 then top && (Region.free .any ops listed i && (Region.ready .any ops listed).contains i && (relB ops st listed i (reachB ops i) || mvB ops i && relB ops (fun _ => true) listed i (reachB ops i))) else !top || Region.ready .any ops listed == [i]) &&
      (k == 0 || k == 1 || !st i) && mixF ops st true t (listed.setIfInBounds i true)
  | top, .alt i k t r, listed => k != 0 && (!top || (Region.ready .any ops listed).all (fun j => (i :: r.firsts).contains j) && !(Region.ready .any ops listed).isEmpty) && (k == 1 || !st i) && mixF ops st true t (listed.setIfInBounds i true) && mixF ops st false r listed
def mixT (ops : Array Oper) (t : SchT) : Bool := Region.noSelect ops && mixF ops (fun j => !t.writes j) true t (Array.replicate ops.size false) && decide (t.size ≤ ops.size)
noncomputable def stepP (P : Program) (B : Nat) (ops : Array Oper) (i k : Nat) (N : Env → AH → Prop) (e : Env) (H : AH) : Prop :=
  match ops[i]? with
  | none => False
  | some o =>
    match o.guard with
    | none => mop P B k e H o fun v H' => N (put e o.dst v) H'
    | some (j, want) => gateA (yieldA ops e j) want (mop P B k e H o fun v H' => N (put e o.dst v) H') (N (put e o.dst undef) H)
noncomputable def mopsT (P : Program) (B : Nat) (ops : Array Oper) (K : Env → AH → Prop) : SchT → Env → AH → Prop
  | .nil, e, H => K e H
  | .cons i k t, e, H => stepP P B ops i k (mopsT P B ops K t) e H
  | .alt i k t r, e, H => stepP P B ops i k (mopsT P B ops K t) e H ∧ mopsT P B ops K r e H
section
variable {P : Program} {B n : Nat} {σ0 : Sg} {H0 : AH} {w0 : World}
theorem step_cases {ops : Array Oper} (hops : ops.all (operOk n) = true) {i k : Nat} {N : Env → AH → Prop} {e : Env} {H : AH} {σ : Sg} {a : Act} (hE : ER n σ H a e) (h : stepP P B ops i k N e H) :
    ∃ o, ops[i]? = some o ∧ (dstOk n o.dst = true ∧ o.op.operands.all (opdOk n) = true) ∧
      ((Region.wanted o (yielded ops a.tmps) = true ∧ mop P B k e H o (fun v H' => N (put e o.dst v) H')) ∨ (Region.wanted o (yielded ops a.tmps) = false ∧ N (put e o.dst undef) H)) := by
  unfold stepP at h
  cases ho : ops[i]? with
  | none => rw [ho] at h; exact h.elim
  | some o =>
    rw [ho] at h
    dsimp only at h
    have hoo : operOk n o = true := Array.all_eq_true'.1 hops o (Array.mem_of_getElem? ho)
    unfold operOk at hoo
    rw [Bool.and_eq_true] at hoo
    have hdst : ops.all (fun o => dstOk n o.dst) = true := by
      rw [Array.all_eq_true] at hops ⊢
      intro i hi
      have := hops i hi
      unfold operOk at this
      rw [Bool.and_eq_true] at this
      exact this.1
    have hy := yield_eq hE hdst
    refine ⟨o, rfl, hoo, ?_⟩
    cases hg : o.guard with
    | none =>
      rw [hg] at h
      exact .inl ⟨by simp [Region.wanted, hg], h⟩
    | some jw =>
      obtain ⟨j, want⟩ := jw
      rw [hg] at h
      dsimp only at h
      unfold gateA at h
      by_cases hc : yieldA ops e j = some want
      · rw [if_pos hc] at h
        exact .inl ⟨by simp [Region.wanted, hg, hy, hc], h⟩
      · rw [if_neg hc] at h
        exact .inr ⟨by simp [Region.wanted, hg, hy, hc], h⟩

theorem eff_step {ops : Array Oper} (hops : ops.all (operOk n) = true) {st : Nat → Bool} {Q : Exit → Act → World → Prop} {i k : Nat} {N : Env → AH → Prop} {e : Env} {H : AH} {σ : Sg} {w : World} {a : Act} {W : Act → World → Prop} (hk0 : k ≠ 0) (hst : k = 1 ∨ st i = false)
    (hS : Sim σ H w) (hB : B ≤ H.length) (hE : ER n σ H a e) (h : stepP P B ops i k N e H)
    (next : ∀ o, ops[i]? = some o → dstOk n o.dst = true → ∀ v d w' σ' H', Fut B σ H w σ' H' w' → Sim σ' H' w' → VR σ' H' v d → N (put e o.dst d) H' → W (a.put o.dst v) w') :
    wpOp P ops Q i (fun a' w' => (st i = true → Below w.heap.size w w') ∧ W a' w') a w := by
  obtain ⟨o, ho, hoo, cases2⟩ := step_cases hops hE h
  unfold wpOp
  simp only [ho]
  rcases cases2 with ⟨hw, hc⟩ | ⟨hw, hc⟩
  · rw [if_pos hw]
    left
    unfold mop at hc
    rw [if_neg hk0] at hc
    by_cases hk1 : k = 1
    · rw [if_pos hk1] at hc
      exact aop_sound hS (Nat.le_refl _) hE hoo.2 hc fun v w' σ' H' d F' S' V' h' => ⟨fun _ => F'.forget, next o ho hoo.1 v d w' σ' H' (F'.base hB) S' V' h'⟩
    · rw [if_neg hk1] at hc
      have hst' : st i = false := by
        rcases hst with h | h
        · exact absurd h hk1
        · exact h
      exact aop_sound hS hB hE hoo.2 hc fun v w' σ' H' d F' S' V' h' => ⟨fun hx => (by rw [hst'] at hx; cases hx), next o ho hoo.1 v d w' σ' H' F' S' V' h'⟩
  · rw [if_neg (by rw [hw]; decide)]
    exact ⟨fun _ => Below.refl _ _, next o ho hoo.1 undef undef w σ H (.refl _ _ _ _) hS (.flat _ rfl) hc⟩

theorem mixF_sound {ops : Array Oper} (hops : ops.all (operOk n) = true) (hsel : Region.noSelect ops = true) {st : Nat → Bool} {K : Env → AH → Prop} : ∀ (t : SchT) (listed : Array Bool) (e : Env) (H : AH) (σ : Sg) (w : World) (a : Act) (fuel : Nat),
    t.size ≤ fuel → Fut B σ0 H0 w0 σ H w → Sim σ H w → B ≤ H.length → ER n σ H a e → mopsT P B ops K t e H →
      (mixF ops st true t listed = true → wpG P .any ops (RelN n B σ0 H0 w0 K) st fuel listed a w) ∧
      (mixF ops st false t listed = true → ∀ f, fuel = f + 1 → ∀ j ∈ t.firsts, wpOp P ops (RelN n B σ0 H0 w0 K) j (fun a' w' => (st j = true → Below w.heap.size w w') ∧ wpG P .any ops (RelN n B σ0 H0 w0 K) st f (listed.setIfInBounds j true) a' w') a w)
  | .nil, listed, e, H, σ, w, a, fuel, hf, F, hS, hB, hE, h => by
    refine ⟨fun hm => ?_, fun hm => ?_⟩
    · simp only [mixF, Bool.true_and, List.isEmpty_iff] at hm
      exact wpG_done hm ⟨σ, e, H, F, hS, hE, h⟩ fuel
    · simp [mixF] at hm
  | .cons i k t, listed, e, H, σ, w, a, 0, hf, F, hS, hB, hE, h => by simp [SchT.size] at hf
  | .cons i k t, listed, e, H, σ, w, a, fuel + 1, hf, F, hS, hB, hE, h => by
    have next : mixF ops st true t (listed.setIfInBounds i true) = true → ∀ o, ops[i]? = some o → dstOk n o.dst = true → ∀ v d w' σ' H', Fut B σ H w σ' H' w' → Sim σ' H' w' → VR σ' H' v d → mopsT P B ops K t (put e o.dst d) H' → wpG P .any ops (RelN n B σ0 H0 w0 K) st fuel (listed.setIfInBounds i true) (a.put o.dst v) w' :=
      fun hm o ho hd v d w' σ' H' F' S' V' h' => (mixF_sound hops hsel t _ _ _ σ' w' _ fuel (by simp [SchT.size] at hf; omega) (F.trans F') S' (Nat.le_trans hB F'.len) ((hE.fut F').put hd V') h').1 hm
    by_cases hk0 : k = 0
    · subst hk0
      refine ⟨fun hm => ?_, fun hm => by simp [mixF] at hm⟩
      simp only [mixF, beq_self_eq_true, if_true, Bool.true_and, Bool.and_eq_true] at hm
      obtain ⟨⟨⟨⟨hfree, hready⟩, hrel0⟩, _⟩, hm3⟩ := hm
      obtain ⟨o, ho, hoo, cases2⟩ := step_cases hops hE h
      have next := next hm3 o ho hoo.1
      rcases Bool.or_eq_true_iff.1 hrel0 with hrel | hmv
      case inr =>
        rw [Bool.and_eq_true] at hmv
        obtain ⟨hmv, hrel⟩ := hmv
        obtain ⟨r1, r2, r3, r4⟩ := relB_spec hrel
        unfold mvB at hmv
        rw [ho] at hmv
        dsimp only at hmv
        have take : ∀ v, YieldsIf P ops (fun _ => True) o v a → wpG P .any ops (RelN n B σ0 H0 w0 K) st fuel (listed.setIfInBounds i true) (a.put o.dst v) w → wpG P .any ops (RelN n B σ0 H0 w0 K) st (fuel + 1) listed a w := fun v hyv hn =>
          wpG_firstU ho (Region.noSelect_spec hsel) (fun c a w hq => hq.elim) _ r1 r2 fuel listed a w r3 (Region.free_spec ho hfree) (by simpa using hready) hyv hn
        rcases cases2 with ⟨hw, hc⟩ | ⟨hw, hc⟩
        · simp only [mop, if_true] at hc
          by_cases hp : isPop o.op = true
          · rw [if_pos hp] at hc
            cases hv : popV P e H o.type o.op with
            | none => rw [hv] at hc; exact hc.elim
            | some d =>
              rw [hv] at hc
              obtain ⟨v, hvr, hrun⟩ := pop_sound hS hE hoo.2 hv
              refine take v (.inl ⟨hw, fun w' _ => ?_⟩) (next v d w σ H (.refl _ _ _ _) hS hvr hc)
              have hr0 := hrun w (Below.refl _ w)
              obtain ⟨dst, op, ty, pos0, af, g⟩ := o
              cases op <;> first | (cases hmv; done) | skip
              all_goals
                simp only [execOp] at hr0 ⊢
                injection hr0 with hr1
                simp_all
          · rw [if_neg hp] at hc; exact hc.elim
        · exact take undef (.inr ⟨hw, rfl⟩) (next undef undef w σ H (.refl _ _ _ _) hS (.flat _ rfl) hc)
      obtain ⟨r1, r2, r3, r4⟩ := relB_spec hrel
      have take : ∀ v, YieldsIf P ops (fun w' => Below w.heap.size w w') o v a → wpG P .any ops (RelN n B σ0 H0 w0 K) st fuel (listed.setIfInBounds i true) (a.put o.dst v) w → wpG P .any ops (RelN n B σ0 H0 w0 K) st (fuel + 1) listed a w := fun v hyv hn =>
        wpG_first ho (Region.noSelect_spec hsel) (fun c a w hq => hq.elim) _ r1 r2 w fuel listed a w r3 r4 (Region.free_spec ho hfree) (by simpa using hready) hyv (Below.refl _ _) hn
      rcases cases2 with ⟨hw, hc⟩ | ⟨hw, hc⟩
      · simp only [mop, if_true] at hc
        by_cases hp : isPop o.op = true
        · rw [if_pos hp] at hc
          cases hv : popV P e H o.type o.op with
          | none => rw [hv] at hc; exact hc.elim
          | some d =>
            rw [hv] at hc
            obtain ⟨v, hvr, hrun⟩ := pop_sound hS hE hoo.2 hv
            exact take v (.inl ⟨hw, fun w' hb => hrun w' hb⟩) (next v d w σ H (.refl _ _ _ _) hS hvr hc)
        · rw [if_neg hp] at hc; exact hc.elim
      · exact take undef (.inr ⟨hw, rfl⟩) (next undef undef w σ H (.refl _ _ _ _) hS (.flat _ rfl) hc)
    · have hk0' : (k == 0) = false := by simpa using hk0
      have hst : (k == 0 || k == 1 || !st i) = true → k = 1 ∨ st i = false := fun h => by simp [hk0'] at h; exact h
      refine ⟨fun hm => ?_, fun hm f hfe j hj => ?_⟩
      · simp only [mixF, hk0', Bool.false_eq_true, if_false, Bool.not_true, Bool.false_or, beq_iff_eq, Bool.and_eq_true] at hm
        obtain ⟨⟨hm1, hm2⟩, hm3⟩ := hm
        refine ⟨fun h0 => (by rw [hm1] at h0; cases h0), fun j hj => ?_⟩
        rw [hm1] at hj
        obtain rfl : j = i := by simpa using hj
        exact eff_step hops hk0 (hst (by simpa [hk0'] using hm2)) hS hB hE h (next hm3)
      · simp only [mixF, hk0', Bool.false_eq_true, if_false, Bool.not_false, Bool.true_or, Bool.true_and, Bool.and_eq_true] at hm
        obtain rfl : fuel = f := by omega
        obtain rfl : j = i := by simpa [SchT.firsts] using hj
        exact eff_step hops hk0 (hst (by simpa [hk0'] using hm.1)) hS hB hE h (next hm.2)
  | .alt i k t r, listed, e, H, σ, w, a, 0, hf, F, hS, hB, hE, h => by simp [SchT.size] at hf
  | .alt i k t r, listed, e, H, σ, w, a, fuel + 1, hf, F, hS, hB, hE, h => by
    have next : mixF ops st true t (listed.setIfInBounds i true) = true → ∀ o, ops[i]? = some o → dstOk n o.dst = true → ∀ v d w' σ' H', Fut B σ H w σ' H' w' → Sim σ' H' w' → VR σ' H' v d → mopsT P B ops K t (put e o.dst d) H' → wpG P .any ops (RelN n B σ0 H0 w0 K) st fuel (listed.setIfInBounds i true) (a.put o.dst v) w' :=
      fun hm o ho hd v d w' σ' H' F' S' V' h' => (mixF_sound hops hsel t _ _ _ σ' w' _ fuel (by simp [SchT.size] at hf; omega) (F.trans F') S' (Nat.le_trans hB F'.len) ((hE.fut F').put hd V') h').1 hm
    have rest := (mixF_sound (st := st) hops hsel r listed e H σ w a (fuel + 1) (by simp [SchT.size] at hf; omega) F hS hB hE h.2).2
    have main : (k != 0) = true → (k == 1 || !st i) = true → mixF ops st true t (listed.setIfInBounds i true) = true → mixF ops st false r listed = true → ∀ j ∈ i :: r.firsts, wpOp P ops (RelN n B σ0 H0 w0 K) j (fun a' w' => (st j = true → Below w.heap.size w w') ∧ wpG P .any ops (RelN n B σ0 H0 w0 K) st fuel (listed.setIfInBounds j true) a' w') a w := by
      intro c1 c2 c3 c4 j hj
      rcases List.mem_cons.1 hj with rfl | hj
      · exact eff_step hops (by simpa using c1) (by simpa using c2) hS hB hE h.1 (next c3)
      · exact rest c4 fuel rfl j hj
    refine ⟨fun hm => ?_, fun hm f hfe j hj => ?_⟩
    · simp only [mixF, Bool.not_true, Bool.false_or, Bool.and_eq_true] at hm
      obtain ⟨⟨⟨⟨c1, c5, c6⟩, c2⟩, c3⟩, c4⟩ := hm
      refine ⟨fun h0 => by rw [h0] at c6; simp at c6, fun j hj => main c1 c2 c3 c4 j ?_⟩
      have := List.all_eq_true.1 c5 j hj
      simpa using this
    · simp only [mixF, Bool.not_false, Bool.true_or, Bool.and_eq_true] at hm
      obtain ⟨⟨⟨⟨c1, _⟩, c2⟩, c3⟩, c4⟩ := hm
      obtain rfl : fuel = f := by omega
      exact main c1 c2 c3 c4 j hj

/-- THE RULE for a region that asks the tape, with a tree of orders. -/
theorem AWp.mixedT {id : Nat} {ops : Array Oper} {e : Env} {H : AH} {Q : Exit → Env → AH → Prop} (t : SchT) (hm : P.follows .mixedOrders = true) (hc : mixT ops t = true)
    (h : mopsT P B ops (Q .normal) t e H) : AWp P n B (.region id ops true) Q e H := fun hok σ w a hS hB hE => by
  simp only [codeOk] at hok
  simp only [mixT, Bool.and_eq_true, decide_eq_true_eq] at hc
  have hb : Below w.heap.size w { w with drawn := w.drawn + 1 } := ⟨rfl, rfl, rfl, Nat.le_refl _, fun _ _ => rfl⟩
  have := (mixF_sound (P := P) (B := B) (σ0 := σ) (H0 := H) (w0 := w) hok hc.1.1 (st := fun j => !t.writes j) (K := Q .normal) t (Array.replicate ops.size false) e H σ { w with drawn := w.drawn + 1 } a ops.size hc.2 (.of_below hb) (hS.below hb) hB hE h).1 hc.1.2
  refine wp_mono (wp_region_G hm this) fun ex a' w' hq => ?_
  cases ex with
  | normal => exact hq
  | _ => exact hq.elim
end

theorem mop_zero {P : Program} {B : Nat} {e : Env} {H : AH} {o : Oper} {K : Value → AH → Prop} (hp : isPop o.op = true) : mop P B 0 e H o K = aop P B e H o K := by
  unfold mop aop
  rw [if_pos rfl, if_pos hp, if_pos hp]
section
variable {P : Program} {B : Nat} {ops : Array Oper} {K : Env → AH → Prop} {sch : List (Nat × Nat)} {e : Env} {H : AH} {i : Nat} {o : Oper}
theorem mops_nil : mops P B ops K [] e H = K e H := rfl
theorem mops_at (B' k : Nat) (ho : ops[i]? = some o) (hk : ∀ K', mop P B k e H o K' = aop P B' e H o K') (h : aops P B' ops (fun e' H' => mops P B ops K sch e' H') [o] e H) : mops P B ops K ((i, k) :: sch) e H := by
  unfold mops
  rw [ho]
  simp only [aops] at h
  dsimp only
  simp only [hk]
  exact h
/-- Number i of a list that stands written out. -/
def opAt : List Oper → Nat → Option Oper
  | [], _ => none
  | o :: _, 0 => some o
  | _ :: l, i + 1 => opAt l i
theorem opAt_eq : ∀ (l : List Oper) (i : Nat), opAt l i = l[i]?
  | [], _ => by simp [opAt]
  | o :: _, 0 => rfl
  | _ :: l, i + 1 => by simp [opAt, opAt_eq l i]
theorem opAt_ops (ho : opAt ops.toList i = some o) : ops[i]? = some o := by
  rw [opAt_eq] at ho
  simpa using ho
theorem mops_step0 (ho : opAt ops.toList i = some o) (hp : isPop o.op = true) (h : ∀ k : KT (mops P B ops K sch), aops P B ops k.K [o] e H) : mops P B ops K ((i, 0) :: sch) e H :=
  mops_at B 0 (opAt_ops ho) (fun K' => mop_zero hp) (h ⟨_, fun e H h => h⟩)
theorem mops_step1 (ho : opAt ops.toList i = some o) (h : ∀ k : KT (mops P B ops K sch), aops P H.length ops k.K [o] e H) : mops P B ops K ((i, 1) :: sch) e H :=
  mops_at H.length 1 (opAt_ops ho) (fun K' => rfl) (h ⟨_, fun e H h => h⟩)
theorem mops_step2 (ho : opAt ops.toList i = some o) (h : ∀ k : KT (mops P B ops K sch), aops P B ops k.K [o] e H) : mops P B ops K ((i, 2) :: sch) e H :=
  mops_at B 2 (opAt_ops ho) (fun K' => rfl) (h ⟨_, fun e H h => h⟩)
theorem stepP_at {N : Env → AH → Prop} (B' k : Nat) (ho : ops[i]? = some o) (hk : ∀ K', mop P B k e H o K' = aop P B' e H o K') (h : aops P B' ops N [o] e H) : stepP P B ops i k N e H := by
  unfold stepP
  rw [ho]
  simp only [aops] at h
  dsimp only
  simp only [hk]
  exact h
variable {t r : SchT}
theorem mopsT_nil : mopsT P B ops K .nil e H = K e H := rfl
theorem mopsT_step0 (ho : opAt ops.toList i = some o) (hp : isPop o.op = true) (h : ∀ k : KT (mopsT P B ops K t), aops P B ops k.K [o] e H) : mopsT P B ops K (.cons i 0 t) e H :=
  stepP_at B 0 (opAt_ops ho) (fun K' => mop_zero hp) (h ⟨_, fun e H h => h⟩)
theorem mopsT_step1 (ho : opAt ops.toList i = some o) (h : ∀ k : KT (mopsT P B ops K t), aops P H.length ops k.K [o] e H) : mopsT P B ops K (.cons i 1 t) e H :=
  stepP_at H.length 1 (opAt_ops ho) (fun K' => rfl) (h ⟨_, fun e H h => h⟩)
theorem mopsT_step2 (ho : opAt ops.toList i = some o) (h : ∀ k : KT (mopsT P B ops K t), aops P B ops k.K [o] e H) : mopsT P B ops K (.cons i 2 t) e H :=
  stepP_at B 2 (opAt_ops ho) (fun K' => rfl) (h ⟨_, fun e H h => h⟩)
theorem mopsT_alt1 (ho : opAt ops.toList i = some o) (h : ∀ k : KT (mopsT P B ops K t), aops P H.length ops k.K [o] e H) (h' : mopsT P B ops K r e H) : mopsT P B ops K (.alt i 1 t r) e H :=
  ⟨stepP_at H.length 1 (opAt_ops ho) (fun K' => rfl) (h ⟨_, fun e H h => h⟩), h'⟩
theorem mopsT_alt2 (ho : opAt ops.toList i = some o) (h : ∀ k : KT (mopsT P B ops K t), aops P B ops k.K [o] e H) (h' : mopsT P B ops K r e H) : mopsT P B ops K (.alt i 2 t r) e H :=
  ⟨stepP_at B 2 (opAt_ops ho) (fun K' => rfl) (h ⟨_, fun e H h => h⟩), h'⟩
theorem optK_mono {α : Type} {o : Option α} {k k' : α → Prop} (hk : ∀ v, k v → k' v) (h : optK o k) : optK o k' := by
  cases o with
  | none => exact h.elim
  | some v => exact hk v h
theorem optP_mono {o : Option (Value × AH)} {k k' : Value → AH → Prop} (hk : ∀ v H, k v H → k' v H) (h : optP o k) : optP o k' := by
  cases o with
  | none => exact h.elim
  | some v => exact hk _ _ h
theorem optH_mono {o : Option AH} {k k' : AH → Prop} (hk : ∀ H, k H → k' H) (h : optH o k) : optH o k' := by
  cases o with
  | none => exact h.elim
  | some v => exact hk _ h
theorem aop_mono {e : Env} {H : AH} {o : Oper} {k k' : Value → AH → Prop} (hk : ∀ v H, k v H → k' v H) (h : aop P B e H o k) : aop P B e H o k' := by
  unfold aop at h ⊢
  by_cases hp : isPop o.op = true
  · rw [if_pos hp] at h ⊢
    exact optK_mono (fun v h => hk v H h) h
  · rw [if_neg hp] at h ⊢
    unfold aopE at h ⊢
    split at h
    · split at h
      · unfold nilQ at h ⊢
        split at h
        · exact fun b hb => hk _ _ (h b hb)
        · exact h.elim
      · exact h.elim
    · exact ⟨h.1, hk _ _ h.2⟩
    · exact optK_mono (fun z h => ⟨h.1, hk _ _ h.2⟩) h
    · exact optH_mono (fun H h => hk _ H h) h
    · exact optP_mono hk h
    · exact optP_mono hk h
    · split at h
      · split at h
        · exact optP_mono hk h
        · exact h.elim
      · split at h
        · exact optH_mono (fun H h => hk _ H h) h
        · exact h.elim
      · split at h
        · exact ⟨h.1, h.2.mono hk⟩
        · exact h.elim
      · exact h.elim
    · exact h.elim
/-- Where an order led to. -/
structure AtEH (e' : Env) (H' : AH) (e : Env) (H : AH) : Prop where
  he : e = e'
  hH : H = H'
theorem stepP_mono {N N' : Env → AH → Prop} {k : Nat} (hN : ∀ e H, N e H → N' e H) (h : stepP P B ops i k N e H) : stepP P B ops i k N' e H := by
  unfold stepP at h ⊢
  cases ho : ops[i]? with
  | none => rw [ho] at h; exact h.elim
  | some o =>
    rw [ho] at h
    dsimp only at h ⊢
    have hm : mop P B k e H o (fun v H' => N (put e o.dst v) H') → mop P B k e H o (fun v H' => N' (put e o.dst v) H') := fun h => by
      unfold mop at h ⊢
      by_cases h0 : k = 0
      · rw [if_pos h0] at h ⊢
        by_cases hp : isPop o.op = true
        · rw [if_pos hp] at h ⊢
          cases hv : popV P e H o.type o.op with
          | none => rw [hv] at h; exact h.elim
          | some d => rw [hv] at h; exact hN _ _ h
        · rw [if_neg hp] at h; exact h.elim
      · rw [if_neg h0] at h ⊢
        by_cases h1 : k = 1
        · rw [if_pos h1] at h ⊢; exact aop_mono (fun v H' h => hN _ _ h) h
        · rw [if_neg h1] at h ⊢; exact aop_mono (fun v H' h => hN _ _ h) h
    cases hg : o.guard with
    | none => rw [hg] at h; exact hm h
    | some jw =>
      obtain ⟨q, want⟩ := jw
      rw [hg] at h
      dsimp only at h ⊢
      unfold gateA at h ⊢
      by_cases hc : yieldA ops e q = some want
      · rw [if_pos hc] at h ⊢; exact hm h
      · rw [if_neg hc] at h ⊢; exact hN _ _ h
theorem mopsT_mono {K K' : Env → AH → Prop} (hK : ∀ e H, K e H → K' e H) : ∀ (t : SchT) (e : Env) (H : AH), mopsT P B ops K t e H → mopsT P B ops K' t e H
  | .nil, e, H, h => hK e H h
  | .cons i k t, e, H, h => stepP_mono (fun e H h => mopsT_mono hK t e H h) h
  | .alt i k t r, e, H, h => ⟨stepP_mono (fun e H h => mopsT_mono hK t e H h) h.1, mopsT_mono hK r e H h.2⟩
/-- All orders lead to one end. -/
theorem mopsT_cut {e' : Env} {H' : AH} (h1 : mopsT P B ops (AtEH e' H') t e H) (h2 : K e' H') : mopsT P B ops K t e H :=
  mopsT_mono (fun e H h => by rw [h.he, h.hH]; exact h2) t e H h1
theorem mopsT_abs (h : ∀ e0 : Env, e0 = e → mopsT P B ops K t e0 H) : mopsT P B ops K t e H := h e rfl
theorem env_pt {e e' : Env} (s q : Nat) (h0 : e s = e' s) (h : ¬ q = s → e q = e' q) : e q = e' q := by
  by_cases hq : q = s
  · rw [hq]; exact h0
  · exact h hq
theorem put_sort {e : Env} {i j : Nat} {v w : Value} (h : j < i) : put (put e (some i) v) (some j) w = put (put e (some j) w) (some i) v := by
  funext q
  simp only [put]
  by_cases h1 : q = i <;> by_cases h2 : q = j
  · omega
  all_goals simp [h1, h2]
  all_goals (try omega)
end
end Go.BM
