/- Packed: C37, C39, K2, T2, K8. -/
import Derived.Lib.ConvBytes
import Derived.Lib.AtoiErrMem
import Derived.Test.YtegjjdhgffnkhaaGreatDoorZ0
import Derived.Test.YtegjjdhgffnkhaaGreatDoorZ2
/- The engine: texts C35, C36, C37. -/
/- A region that asks for its order and writes only what it made itself: what is read of the elder memory comes first. -/
set_option linter.unusedVariables false
set_option linter.unusedSimpArgs false
namespace Go.BM
open Go.RowKit
section
variable {P : Program} {ops : Array Oper} {Q : Exit → Act → World → Prop} {md : Region.Mode} {st : Nat → Bool} {I : World → Prop}
/-- As wpG; and behind each operation I stands. -/
def wpJ (P : Program) (md : Region.Mode) (ops : Array Oper) (Q : Exit → Act → World → Prop) (st : Nat → Bool) (I : World → Prop) : Nat → Array Bool → Act → World → Prop
  | 0, listed, a, w => Region.ready md ops listed = [] ∧ Q .normal a w
  | fuel + 1, listed, a, w =>
    (Region.ready md ops listed = [] → Q .normal a w) ∧
    ∀ i ∈ Region.ready md ops listed, wpOp P ops Q i (fun a' w' => (st i = true → Below w.heap.size w w') ∧ I w' ∧ wpJ P md ops Q st I fuel (listed.setIfInBounds i true) a' w') a w
theorem wpAny_of_J : ∀ (fuel : Nat) (listed : Array Bool) (a : Act) (w : World), wpJ P md ops Q st I fuel listed a w → wpAny P md ops Q fuel listed a w
  | 0, _, _, _, h => h
  | fuel + 1, _, _, _, h => ⟨h.1, fun i hi => wpOp_mono (fun a' w' h' => wpAny_of_J fuel _ a' w' h'.2.2) (h.2 i hi)⟩
theorem wpJ_first {i : Nat} {oi : Oper} {v : Value} (hi : ops[i]? = some oi) (hsel : ∀ (j : Nat) (o : Oper) cs b, ops[j]? = some o → o.op ≠ .select cs b)
    (hQ : ∀ c a w, Q (.panic c) (a.put oi.dst v) w → Q (.panic c) a w) (R : Array Bool) (hRi : R.getD i false = false)
    (hRc : ∀ (j : Nat) oj, ops[j]? = some oj → R.getD j false = false → j = i ∨ ∃ e ∈ oj.after, Region.binds md e = true ∧ R.getD e.on false = false) (wt : World) :
    ∀ (fuel : Nat) (listed : Array Bool) (a : Act) (w : World),
      (∀ k, listed.getD k false = true → R.getD k false = true) → (∀ k, R.getD k false = true → listed.getD k true = false → st k = true) →
      (∀ j oj, ops[j]? = some oj → j ≠ i → listed.getD j true = false → (∀ e ∈ oj.after, Region.binds md e = true → e.on ≠ i) → oi.apart ops oj = true) →
      i ∈ Region.ready md ops listed → YieldsIf P ops (fun w' => Below wt.heap.size wt w') oi v a → Below wt.heap.size wt w → I w →
      wpJ P md ops Q st I fuel (listed.setIfInBounds i true) (a.put oi.dst v) w → wpJ P md ops Q st I (fuel + 1) listed a w := by
  intro fuel
  induction fuel with
  | zero =>
    intro listed a w _ _ _ hr hy hS hI H
    refine ⟨fun h => (by rw [h] at hr; cases hr), fun j hj => ?_⟩
    by_cases hji : j = i
    · subst hji; exact hy.wpOp hi hS ⟨fun _ => Below.refl _ _, hI, H⟩
    · have := ready_mono hj hji
      rw [H.1] at this
      cases this
  | succ fuel ih =>
    intro listed a w hsub hst hfree hr hy hS hI H
    refine ⟨fun h => (by rw [h] at hr; cases hr), fun j hj => ?_⟩
    by_cases hji : j = i
    · subst hji; exact hy.wpOp hi hS ⟨fun _ => Below.refl _ _, hI, H⟩
    · have h1 := H.2 j (ready_mono hj hji)
      obtain ⟨hjun, oj, hoj, hall⟩ := mem_ready.1 hj
      have hnot : ∀ e ∈ oj.after, Region.binds md e = true → e.on ≠ i := fun e he hb heq => by
        have h1 := hall e he hb
        have h0 := (mem_ready.1 hr).1
        rw [heq] at h1
        rcases Nat.lt_or_ge i listed.size with h' | h'
        · simp [h'] at h0 h1; rw [h0] at h1; cases h1
        · simp [Array.getElem?_eq_none h'] at h1
      have hRj : R.getD j false = true := by
        cases hRj : R.getD j false with
        | true => rfl
        | false =>
          rcases hRc j oj hoj hRj with h | ⟨e, he, hb, hR⟩
          · exact absurd h hji
          · have := hsub _ (hall e he hb)
            rw [hR] at this
            cases this
      have hstj := hst j hRj hjun
      have h2 := wpOp_putIf hoj (hfree j oj hoj hji hjun hnot) (fun cs b => hsel i oi cs b hi) (fun cs b => hsel j oj cs b hoj) hQ hy h1
      have hfree' : ∀ k ok, ops[k]? = some ok → k ≠ i → (listed.setIfInBounds j true).getD k true = false →
          (∀ e ∈ ok.after, Region.binds md e = true → e.on ≠ i) → oi.apart ops ok = true := fun k ok hk hki hun hno => by
        refine hfree k ok hk hki ?_ hno
        by_cases hjk : j = k
        · subst hjk; exact hjun
        · rw [getD_set_ne true hjk] at hun; exact hun
      have hsub' : ∀ k, (listed.setIfInBounds j true).getD k false = true → R.getD k false = true := fun k hk => by
        by_cases hjk : j = k
        · subst hjk; exact hRj
        · rw [getD_set_ne false hjk] at hk; exact hsub k hk
      have hst' : ∀ k, R.getD k false = true → (listed.setIfInBounds j true).getD k true = false → st k = true := fun k hk hun => by
        refine hst k hk ?_
        by_cases hjk : j = k
        · subst hjk; exact hjun
        · rw [getD_set_ne true hjk] at hun; exact hun
      refine wpOp_mono (fun a' w' h3 => ?_) h2
      have hbj := h3.2.1 hstj
      have hS' : Below wt.heap.size wt w' := hS.trans (hbj.mono hS.size)
      refine ⟨fun _ => hbj, h3.2.2.1, ih (listed.setIfInBounds j true) a' w' hsub' hst' hfree' (ready_mono hr (Ne.symm hji)) h3.1 hS' h3.2.2.1 ?_⟩
      rw [Array.setIfInBounds_comm _ _ hji]
      exact h3.2.2.2

theorem wpJ_firstU {i : Nat} {oi : Oper} {v : Value} (hi : ops[i]? = some oi) (hsel : ∀ (j : Nat) (o : Oper) cs b, ops[j]? = some o → o.op ≠ .select cs b)
    (hQ : ∀ c a w, Q (.panic c) (a.put oi.dst v) w → Q (.panic c) a w) (R : Array Bool) (hRi : R.getD i false = false)
    (hRc : ∀ (j : Nat) oj, ops[j]? = some oj → R.getD j false = false → j = i ∨ ∃ e ∈ oj.after, Region.binds md e = true ∧ R.getD e.on false = false) :
    ∀ (fuel : Nat) (listed : Array Bool) (a : Act) (w : World),
      (∀ k, listed.getD k false = true → R.getD k false = true) →
      (∀ j oj, ops[j]? = some oj → j ≠ i → listed.getD j true = false → (∀ e ∈ oj.after, Region.binds md e = true → e.on ≠ i) → oi.apart ops oj = true) →
      i ∈ Region.ready md ops listed → YieldsIf P ops (fun _ => True) oi v a → I w →
      wpJ P md ops Q st I fuel (listed.setIfInBounds i true) (a.put oi.dst v) w → wpJ P md ops Q st I (fuel + 1) listed a w := by
  intro fuel
  induction fuel with
  | zero =>
    intro listed a w _ _ hr hy hI H
    refine ⟨fun h => (by rw [h] at hr; cases hr), fun j hj => ?_⟩
    by_cases hji : j = i
    · subst hji; exact hy.wpOp hi trivial ⟨fun _ => Below.refl _ _, hI, H⟩
    · have := ready_mono hj hji
      rw [H.1] at this
      cases this
  | succ fuel ih =>
    intro listed a w hsub hfree hr hy hI H
    refine ⟨fun h => (by rw [h] at hr; cases hr), fun j hj => ?_⟩
    by_cases hji : j = i
    · subst hji; exact hy.wpOp hi trivial ⟨fun _ => Below.refl _ _, hI, H⟩
    · have h1 := H.2 j (ready_mono hj hji)
      obtain ⟨hjun, oj, hoj, hall⟩ := mem_ready.1 hj
      have hnot : ∀ e ∈ oj.after, Region.binds md e = true → e.on ≠ i := fun e he hb heq => by
        have h1 := hall e he hb
        have h0 := (mem_ready.1 hr).1
        rw [heq] at h1
        rcases Nat.lt_or_ge i listed.size with h' | h'
        · simp [h'] at h0 h1; rw [h0] at h1; cases h1
        · simp [Array.getElem?_eq_none h'] at h1
      have hRj : R.getD j false = true := by
        cases hRj : R.getD j false with
        | true => rfl
        | false =>
          rcases hRc j oj hoj hRj with h | ⟨e, he, hb, hR⟩
          · exact absurd h hji
          · have := hsub _ (hall e he hb)
            rw [hR] at this
            cases this
      have h2 := wpOp_putIf hoj (hfree j oj hoj hji hjun hnot) (fun cs b => hsel i oi cs b hi) (fun cs b => hsel j oj cs b hoj) hQ hy h1
      have hfree' : ∀ k ok, ops[k]? = some ok → k ≠ i → (listed.setIfInBounds j true).getD k true = false →
          (∀ e ∈ ok.after, Region.binds md e = true → e.on ≠ i) → oi.apart ops ok = true := fun k ok hk hki hun hno => by
        refine hfree k ok hk hki ?_ hno
        by_cases hjk : j = k
        · subst hjk; exact hjun
        · rw [getD_set_ne true hjk] at hun; exact hun
      have hsub' : ∀ k, (listed.setIfInBounds j true).getD k false = true → R.getD k false = true := fun k hk => by
        by_cases hjk : j = k
        · subst hjk; exact hRj
        · rw [getD_set_ne false hjk] at hk; exact hsub k hk
      refine wpOp_mono (fun a' w' h3 => ?_) h2
      refine ⟨h3.2.1, h3.2.2.1, ih (listed.setIfInBounds j true) a' w' hsub' hfree' (ready_mono hr (Ne.symm hji)) h3.1 h3.2.2.1 ?_⟩
      rw [Array.setIfInBounds_comm _ _ hji]
      exact h3.2.2.2

theorem wpJ_done {listed : Array Bool} {a : Act} {w : World} (hr : Region.ready md ops listed = []) (h : Q .normal a w) :
    ∀ fuel, wpJ P md ops Q st I fuel listed a w
  | 0 => ⟨hr, h⟩
  | _ + 1 => ⟨fun _ => h, by rw [hr]; simp⟩

theorem wpJ_firstI {i : Nat} {oi : Oper} {v : Value} (hi : ops[i]? = some oi) (hsel : ∀ (j : Nat) (o : Oper) cs b, ops[j]? = some o → o.op ≠ .select cs b)
    (hQ : ∀ c a w, Q (.panic c) (a.put oi.dst v) w → Q (.panic c) a w) (R : Array Bool) (hRi : R.getD i false = false)
    (hRc : ∀ (j : Nat) oj, ops[j]? = some oj → R.getD j false = false → j = i ∨ ∃ e ∈ oj.after, Region.binds md e = true ∧ R.getD e.on false = false) :
    ∀ (fuel : Nat) (listed : Array Bool) (a : Act) (w : World),
      (∀ k, listed.getD k false = true → R.getD k false = true) →
      (∀ j oj, ops[j]? = some oj → j ≠ i → listed.getD j true = false → (∀ e ∈ oj.after, Region.binds md e = true → e.on ≠ i) → oi.apart ops oj = true) →
      i ∈ Region.ready md ops listed → YieldsIf P ops I oi v a → I w →
      wpJ P md ops Q st I fuel (listed.setIfInBounds i true) (a.put oi.dst v) w → wpJ P md ops Q st I (fuel + 1) listed a w := by
  intro fuel
  induction fuel with
  | zero =>
    intro listed a w _ _ hr hy hI H
    refine ⟨fun h => (by rw [h] at hr; cases hr), fun j hj => ?_⟩
    by_cases hji : j = i
    · subst hji; exact hy.wpOp hi hI ⟨fun _ => Below.refl _ _, hI, H⟩
    · have := ready_mono hj hji
      rw [H.1] at this
      cases this
  | succ fuel ih =>
    intro listed a w hsub hfree hr hy hI H
    refine ⟨fun h => (by rw [h] at hr; cases hr), fun j hj => ?_⟩
    by_cases hji : j = i
    · subst hji; exact hy.wpOp hi hI ⟨fun _ => Below.refl _ _, hI, H⟩
    · have h1 := H.2 j (ready_mono hj hji)
      obtain ⟨hjun, oj, hoj, hall⟩ := mem_ready.1 hj
      have hnot : ∀ e ∈ oj.after, Region.binds md e = true → e.on ≠ i := fun e he hb heq => by
        have h1 := hall e he hb
        have h0 := (mem_ready.1 hr).1
        rw [heq] at h1
        rcases Nat.lt_or_ge i listed.size with h' | h'
        · simp [h'] at h0 h1; rw [h0] at h1; cases h1
        · simp [Array.getElem?_eq_none h'] at h1
      have hRj : R.getD j false = true := by
        cases hRj : R.getD j false with
        | true => rfl
        | false =>
          rcases hRc j oj hoj hRj with h | ⟨e, he, hb, hR⟩
          · exact absurd h hji
          · have := hsub _ (hall e he hb)
            rw [hR] at this
            cases this
      have h2 := wpOp_putIf hoj (hfree j oj hoj hji hjun hnot) (fun cs b => hsel i oi cs b hi) (fun cs b => hsel j oj cs b hoj) hQ hy h1
      have hfree' : ∀ k ok, ops[k]? = some ok → k ≠ i → (listed.setIfInBounds j true).getD k true = false →
          (∀ e ∈ ok.after, Region.binds md e = true → e.on ≠ i) → oi.apart ops ok = true := fun k ok hk hki hun hno => by
        refine hfree k ok hk hki ?_ hno
        by_cases hjk : j = k
        · subst hjk; exact hjun
        · rw [getD_set_ne true hjk] at hun; exact hun
      have hsub' : ∀ k, (listed.setIfInBounds j true).getD k false = true → R.getD k false = true := fun k hk => by
        by_cases hjk : j = k
        · subst hjk; exact hRj
        · rw [getD_set_ne false hjk] at hk; exact hsub k hk
      refine wpOp_mono (fun a' w' h3 => ?_) h2
      refine ⟨h3.2.1, h3.2.2.1, ih (listed.setIfInBounds j true) a' w' hsub' hfree' (ready_mono hr (Ne.symm hji)) h3.1 h3.2.2.1 ?_⟩
      rw [Array.setIfInBounds_comm _ _ hji]
      exact h3.2.2.2
end
section
variable {P : Program} {B n : Nat} {σ0 : Sg} {H0 : AH} {w0 : World}
/-- What is taken first as long as nothing was made; then a tree of orders. -/
def mixR0 (ops : Array Oper) (st : Nat → Bool) : SchT → Array Bool → Bool
  | .nil, listed => mixF ops st true .nil listed
  | .alt i k t r, listed => mixF ops st true (.alt i k t r) listed
  | .cons i 0 t, listed => (Region.free .any ops listed i && (Region.ready .any ops listed).contains i && relB ops (fun _ => true) listed i (reachB ops i)) && mixR0 ops st t (listed.setIfInBounds i true)
  | .cons i (k + 1) t, listed => mixF ops st true (.cons i (k + 1) t) listed
end
end Go.BM

/- A branch that is left by one way only: what is told behind it. -/
set_option linter.unusedVariables false
namespace Go.BM
end Go.BM

/- Drawn regions: what no world turns is taken first wherever it stands. -/
set_option linter.unusedVariables false
set_option linter.unusedSimpArgs false
namespace Go.BM
open Go.RowKit
def isU : Op → Bool
  | .move _ | .assign _ | .pick .. | .binOp .. | .unOp .. | .fieldAddr .. | .field .. | .indexAddr .. | .index .. | .slice .. | .extract .. | .build .. => true
  | _ => false
def uB (ops : Array Oper) (i : Nat) : Bool := match ops[i]? with | some o => isU o.op | none => false
section
variable {P : Program} {B n : Nat} {σ : Sg} {H : AH} {w : World} {a : Act} {e : Env}
theorem popU_sound (hS : Sim σ H w) (hE : ER n σ H a e) {o : Oper} (hok : o.op.operands.all (opdOk n) = true) {d : Value} (h : popV P e H o.type o.op = some d) (hU : isU o.op = true) :
    ∃ v, VR σ H v d ∧ ∀ w', (execOp a.eval o).run P w' = .ok (.value v) w' := by
  obtain ⟨dst, op, ty, pos, af, g⟩ := o
  dsimp only at hok h hU
  have ok : ∀ x ∈ op.operands.toList, opdOk n x = true := fun x hx => Array.all_eq_true'.1 hok x (by simpa using hx)
  cases op <;> simp only [Op.operands] at ok <;> simp only [popV] at h <;> try (first | (cases h; done) | (cases hU; done))
  case move x => cases h; exact ⟨_, hE.eval (ok x (by simp)), fun w' => by simp [execOp]⟩
  case assign x => cases h; exact ⟨_, hE.eval (ok x (by simp)), fun w' => by simp [execOp]⟩
  case pick c x y =>
    obtain ⟨u, hu, hr⟩ := pick_sound (P := P) (hE.eval (ok c (by simp))) (hE.eval (ok x (by simp))) (hE.eval (ok y (by simp))) h
    exact ⟨u, hu, fun w' => by unfold execOp; exact hr w'⟩
  case binOp op t x y yt =>
    obtain ⟨hu, hr⟩ := bin_sound (hE.eval (ok x (by simp))) (hE.eval (ok y (by simp))) h
    exact ⟨d, hu, fun w' => by
      have := hr w'
      simp only [execOp, Sem.run_bind] at this ⊢
      rw [this]; rfl⟩
  case unOp op t x =>
    obtain ⟨hu, hr⟩ := un_sound (P := P) (hE.eval (ok x (by simp))) h
    exact ⟨d, hu, fun w' => by simp [execOp, hr w']⟩
  case fieldAddr s x f =>
    obtain ⟨u, hu, hr⟩ := fld_sound (P := P) (hE.eval (ok x (by simp))) h
    exact ⟨u, hu, fun w' => by simp [execOp, hr w']⟩
  case field s x f =>
    obtain ⟨u, hu, hr⟩ := field_sound (P := P) (hE.eval (ok x (by simp))) h
    exact ⟨u, hu, fun w' => by simp [execOp, hr w']⟩
  case indexAddr t x i =>
    obtain ⟨u, hu, hr⟩ := idx_sound (P := P) (hE.eval (ok x (by simp))) (hE.eval (ok i (by simp))) h
    exact ⟨u, hu, fun w' => by simp [execOp, hr w']⟩
  case index t x i =>
    obtain ⟨hu, hr⟩ := strIdx_sound (P := P) (hE.eval (ok x (by simp))) (hE.eval (ok i (by simp))) h
    exact ⟨d, hu, fun w' => by simp [execOp, hr w']⟩
  case slice t x lo hi mx =>
    have hv := hE.eval (ok x (by simp))
    have hlo := optEval hE (o := lo) (fun y hy => ok y (by simp; exact .inr (.inl (by simpa using hy))))
    have hhi := optEval hE (o := hi) (fun y hy => ok y (by simp; exact .inr (.inr (.inl (by simpa using hy)))))
    have hmx := optEval hE (o := mx) (fun y hy => ok y (by simp; exact .inr (.inr (.inr (by simpa using hy)))))
    unfold slV at h
    split at h
    · rename_i s hx
      rw [hx] at hv
      have hs := hv.str
      unfold strSliceS at h
      by_cases hp : pureV (.string s) = true ∧ ((lo.map (ev e)).all pureV && (hi.map (ev e)).all pureV && (mx.map (ev e)).all pureV) = true
      · rw [if_pos hp] at h
        obtain ⟨h1, h2⟩ := runV_some h
        obtain ⟨_, hp2⟩ := hp
        simp only [Bool.and_eq_true] at hp2
        obtain ⟨⟨p1, p2⟩, p3⟩ := hp2
        have same : ∀ (o : Option Operand), (∀ y ∈ o.toList, opdOk n y = true) → (o.map (ev e)).all pureV = true → o.map a.eval = o.map (ev e) := fun o ho hp => by
          cases o with
          | none => rfl
          | some y =>
            simp only [Option.map_some, Option.all_some] at hp ⊢
            rw [(hE.eval (ho y (by simp))).pureE hp]
        refine ⟨d, .ofPure h1, fun w' => ?_⟩
        have e1 := same lo (fun y hy => ok y (by simp; exact .inr (.inl (by simpa using hy)))) p1
        have e2 := same hi (fun y hy => ok y (by simp; exact .inr (.inr (.inl (by simpa using hy))))) p2
        have e3 := same mx (fun y hy => ok y (by simp; exact .inr (.inr (.inr (by simpa using hy))))) p3
        simp [execOp, hs, e1, e2, e3, h2 w']
      · rw [if_neg hp] at h; cases h
    · obtain ⟨u, hu, hr⟩ := slice_sound (P := P) hv hS (hlo 0) hhi hmx (by cases hi <;> rfl) (by cases mx <;> rfl) h
      exact ⟨u, hu, fun w' => by simp [execOp, hr w']⟩
  case extract x i =>
    obtain ⟨u, hu, hr⟩ := extract_sound (P := P) (hE.eval (ok x (by simp))) h
    exact ⟨u, hu, fun w' => by simp [execOp, hr w']⟩
  case build t ps =>
    obtain ⟨u, hu, hr⟩ := build_sound (P := P) hE (fun p hp => ok p.2 (by simp; exact ⟨p.1, by simpa using hp⟩)) h
    exact ⟨u, hu, fun w' => by
      have := hr w'
      simp [execOp, this]⟩
end
def mixU (ops : Array Oper) (st : Nat → Bool) : Bool → SchT → Array Bool → Bool
  | top, .nil, listed => top && (Region.ready .any ops listed).isEmpty
  | top, .cons i k t, listed =>
    (if k == 0 then top && (Region.free .any ops listed i && (Region.ready .any ops listed).contains i && (relB ops st listed i (reachB ops i) || uB ops i && relB ops (fun _ => true) listed i (reachB ops i))) else !top || Region.ready .any ops listed == [i]) &&
      (k == 0 || k == 1 || !st i) && mixU ops st true t (listed.setIfInBounds i true)
  | top, .alt i k t r, listed => k != 0 && (!top || (Region.ready .any ops listed).all (fun j => (i :: r.firsts).contains j) && !(Region.ready .any ops listed).isEmpty) && (k == 1 || !st i) && mixU ops st true t (listed.setIfInBounds i true) && mixU ops st false r listed
section
variable {P : Program} {B n : Nat} {σ0 : Sg} {H0 : AH} {w0 : World}
theorem mixU_sound {ops : Array Oper} (hops : ops.all (operOk n) = true) (hsel : Region.noSelect ops = true) {st : Nat → Bool} {K : Env → AH → Prop} {I : World → Prop} (hI : ∀ σ H w, Fut B σ0 H0 w0 σ H w → I w) : ∀ (t : SchT) (listed : Array Bool) (e : Env) (H : AH) (σ : Sg) (w : World) (a : Act) (fuel : Nat),
    t.size ≤ fuel → Fut B σ0 H0 w0 σ H w → Sim σ H w → B ≤ H.length → ER n σ H a e → mopsT P B ops K t e H →
      (mixU ops st true t listed = true → wpJ P .any ops (RelN n B σ0 H0 w0 K) st I fuel listed a w) ∧
      (mixU ops st false t listed = true → ∀ f, fuel = f + 1 → ∀ j ∈ t.firsts, wpOp P ops (RelN n B σ0 H0 w0 K) j (fun a' w' => (st j = true → Below w.heap.size w w') ∧ I w' ∧ wpJ P .any ops (RelN n B σ0 H0 w0 K) st I f (listed.setIfInBounds j true) a' w') a w)
  | .nil, listed, e, H, σ, w, a, fuel, hf, F, hS, hB, hE, h => by
    refine ⟨fun hm => ?_, fun hm => ?_⟩
    · simp only [mixU, Bool.true_and, List.isEmpty_iff] at hm
      exact wpJ_done hm ⟨σ, e, H, F, hS, hE, h⟩ fuel
    · simp [mixU] at hm
  | .cons i k t, listed, e, H, σ, w, a, 0, hf, F, hS, hB, hE, h => by simp [SchT.size] at hf
  | .cons i k t, listed, e, H, σ, w, a, fuel + 1, hf, F, hS, hB, hE, h => by
    have next : mixU ops st true t (listed.setIfInBounds i true) = true → ∀ o, ops[i]? = some o → dstOk n o.dst = true → ∀ v d w' σ' H', Fut B σ H w σ' H' w' → Sim σ' H' w' → VR σ' H' v d → mopsT P B ops K t (put e o.dst d) H' → wpJ P .any ops (RelN n B σ0 H0 w0 K) st I fuel (listed.setIfInBounds i true) (a.put o.dst v) w' :=
      fun hm o ho hd v d w' σ' H' F' S' V' h' => (mixU_sound hops hsel hI t _ _ _ σ' w' _ fuel (by simp [SchT.size] at hf; omega) (F.trans F') S' (Nat.le_trans hB F'.len) ((hE.fut F').put hd V') h').1 hm
    by_cases hk0 : k = 0
    · subst hk0
      refine ⟨fun hm => ?_, fun hm => by simp [mixU] at hm⟩
      simp only [mixU, beq_self_eq_true, if_true, Bool.true_and, Bool.and_eq_true] at hm
      obtain ⟨⟨⟨⟨hfree, hready⟩, hrel0⟩, _⟩, hm3⟩ := hm
      obtain ⟨o, ho, hoo, cases2⟩ := step_cases hops hE h
      have next := next hm3 o ho hoo.1
      rcases Bool.or_eq_true_iff.1 hrel0 with hrel | hmv
      case inr =>
        rw [Bool.and_eq_true] at hmv
        obtain ⟨hmv, hrel⟩ := hmv
        obtain ⟨r1, r2, r3, r4⟩ := relB_spec hrel
        unfold uB at hmv
        rw [ho] at hmv
        dsimp only at hmv
        have take : ∀ v, YieldsIf P ops (fun _ => True) o v a → wpJ P .any ops (RelN n B σ0 H0 w0 K) st I fuel (listed.setIfInBounds i true) (a.put o.dst v) w → wpJ P .any ops (RelN n B σ0 H0 w0 K) st I (fuel + 1) listed a w := fun v hyv hn =>
          wpJ_firstU ho (Region.noSelect_spec hsel) (fun c a w hq => hq.elim) _ r1 r2 fuel listed a w r3 (Region.free_spec ho hfree) (by simpa using hready) hyv (hI _ _ _ F) hn
        rcases cases2 with ⟨hw, hc⟩ | ⟨hw, hc⟩
        · simp only [mop, if_true] at hc
          by_cases hp : isPop o.op = true
          · rw [if_pos hp] at hc
            cases hv : popV P e H o.type o.op with
            | none => rw [hv] at hc; exact hc.elim
            | some d =>
              rw [hv] at hc
              obtain ⟨v, hvr, hrun⟩ := popU_sound (P := P) hS hE hoo.2 hv hmv
              exact take v (.inl ⟨hw, fun w' _ => hrun w'⟩) (next v d w σ H (.refl _ _ _ _) hS hvr hc)
          · rw [if_neg hp] at hc; exact hc.elim
        · exact take undef (.inr ⟨hw, rfl⟩) (next undef undef w σ H (.refl _ _ _ _) hS (.flat _ rfl) hc)
      obtain ⟨r1, r2, r3, r4⟩ := relB_spec hrel
      have take : ∀ v, YieldsIf P ops (fun w' => Below w.heap.size w w') o v a → wpJ P .any ops (RelN n B σ0 H0 w0 K) st I fuel (listed.setIfInBounds i true) (a.put o.dst v) w → wpJ P .any ops (RelN n B σ0 H0 w0 K) st I (fuel + 1) listed a w := fun v hyv hn =>
        wpJ_first ho (Region.noSelect_spec hsel) (fun c a w hq => hq.elim) _ r1 r2 w fuel listed a w r3 r4 (Region.free_spec ho hfree) (by simpa using hready) hyv (Below.refl _ _) (hI _ _ _ F) hn
      rcases cases2 with ⟨hw, hc⟩ | ⟨hw, hc⟩
      · simp only [mop, if_true] at hc
        by_cases hp : isPop o.op = true
        · rw [if_pos hp] at hc
          cases hv : popV P e H o.type o.op with
          | none => rw [hv] at hc; exact hc.elim
          | some d =>
            rw [hv] at hc
            obtain ⟨v, hvr, hrun⟩ := pop_sound hS hE hoo.2 hv
            exact take v (.inl ⟨hw, fun w' hb => hrun w' hb⟩) (next v d w σ H (.refl _ _ _ _) hS hvr hc)
        · rw [if_neg hp] at hc; exact hc.elim
      · exact take undef (.inr ⟨hw, rfl⟩) (next undef undef w σ H (.refl _ _ _ _) hS (.flat _ rfl) hc)
    · have hk0' : (k == 0) = false := by simpa using hk0
      have hst : (k == 0 || k == 1 || !st i) = true → k = 1 ∨ st i = false := fun h => by simp [hk0'] at h; exact h
      refine ⟨fun hm => ?_, fun hm f hfe j hj => ?_⟩
      · simp only [mixU, hk0', Bool.false_eq_true, if_false, Bool.not_true, Bool.false_or, beq_iff_eq, Bool.and_eq_true] at hm
        obtain ⟨⟨hm1, hm2⟩, hm3⟩ := hm
        refine ⟨fun h0 => (by rw [hm1] at h0; cases h0), fun j hj => ?_⟩
        rw [hm1] at hj
        obtain rfl : j = i := by simpa using hj
        exact eff_step hops hk0 (hst (by simpa [hk0'] using hm2)) hS hB hE h (fun o ho hd v d w' σ' H' F' S' V' h' => ⟨hI _ _ _ (F.trans F'), next hm3 o ho hd v d w' σ' H' F' S' V' h'⟩)
      · simp only [mixU, hk0', Bool.false_eq_true, if_false, Bool.not_false, Bool.true_or, Bool.true_and, Bool.and_eq_true] at hm
        obtain rfl : fuel = f := by omega
        obtain rfl : j = i := by simpa [SchT.firsts] using hj
        exact eff_step hops hk0 (hst (by simpa [hk0'] using hm.1)) hS hB hE h (fun o ho hd v d w' σ' H' F' S' V' h' => ⟨hI _ _ _ (F.trans F'), next hm.2 o ho hd v d w' σ' H' F' S' V' h'⟩)
  | .alt i k t r, listed, e, H, σ, w, a, 0, hf, F, hS, hB, hE, h => by simp [SchT.size] at hf
  | .alt i k t r, listed, e, H, σ, w, a, fuel + 1, hf, F, hS, hB, hE, h => by
    have next : mixU ops st true t (listed.setIfInBounds i true) = true → ∀ o, ops[i]? = some o → dstOk n o.dst = true → ∀ v d w' σ' H', Fut B σ H w σ' H' w' → Sim σ' H' w' → VR σ' H' v d → mopsT P B ops K t (put e o.dst d) H' → wpJ P .any ops (RelN n B σ0 H0 w0 K) st I fuel (listed.setIfInBounds i true) (a.put o.dst v) w' :=
      fun hm o ho hd v d w' σ' H' F' S' V' h' => (mixU_sound hops hsel hI t _ _ _ σ' w' _ fuel (by simp [SchT.size] at hf; omega) (F.trans F') S' (Nat.le_trans hB F'.len) ((hE.fut F').put hd V') h').1 hm
    have rest := (mixU_sound (st := st) hops hsel hI r listed e H σ w a (fuel + 1) (by simp [SchT.size] at hf; omega) F hS hB hE h.2).2
    have main : (k != 0) = true → (k == 1 || !st i) = true → mixU ops st true t (listed.setIfInBounds i true) = true → mixU ops st false r listed = true → ∀ j ∈ i :: r.firsts, wpOp P ops (RelN n B σ0 H0 w0 K) j (fun a' w' => (st j = true → Below w.heap.size w w') ∧ I w' ∧ wpJ P .any ops (RelN n B σ0 H0 w0 K) st I fuel (listed.setIfInBounds j true) a' w') a w := by
      intro c1 c2 c3 c4 j hj
      rcases List.mem_cons.1 hj with rfl | hj
      · exact eff_step hops (by simpa using c1) (by simpa using c2) hS hB hE h.1 (fun o ho hd v d w' σ' H' F' S' V' h' => ⟨hI _ _ _ (F.trans F'), next c3 o ho hd v d w' σ' H' F' S' V' h'⟩)
      · exact rest c4 fuel rfl j hj
    refine ⟨fun hm => ?_, fun hm f hfe j hj => ?_⟩
    · simp only [mixU, Bool.not_true, Bool.false_or, Bool.and_eq_true] at hm
      obtain ⟨⟨⟨⟨c1, c5, c6⟩, c2⟩, c3⟩, c4⟩ := hm
      refine ⟨fun h0 => by rw [h0] at c6; simp at c6, fun j hj => main c1 c2 c3 c4 j ?_⟩
      have := List.all_eq_true.1 c5 j hj
      simpa using this
    · simp only [mixU, Bool.not_false, Bool.true_or, Bool.and_eq_true] at hm
      obtain ⟨⟨⟨⟨c1, _⟩, c2⟩, c3⟩, c4⟩ := hm
      obtain rfl : fuel = f := by omega
      exact main c1 c2 c3 c4 j hj
/-- THE RULE for a region that asks the tape, with a tree of orders; what no world turns comes first. -/
def mixUT (ops : Array Oper) (t : SchT) : Bool := Region.noSelect ops && mixU ops (fun j => !t.writes j) true t (Array.replicate ops.size false) && decide (t.size ≤ ops.size)
theorem AWp.mixedU {id : Nat} {ops : Array Oper} {e : Env} {H : AH} {Q : Exit → Env → AH → Prop} (t : SchT) (hm : P.follows .mixedOrders = true) (hc : mixUT ops t = true)
    (h : mopsT P B ops (Q .normal) t e H) : AWp P n B (.region id ops true) Q e H := fun hok σ w a hS hB hE => by
  simp only [codeOk] at hok
  simp only [mixUT, Bool.and_eq_true, decide_eq_true_eq] at hc
  have hb : Below w.heap.size w { w with drawn := w.drawn + 1 } := ⟨rfl, rfl, rfl, Nat.le_refl _, fun _ _ => rfl⟩
  have := (mixU_sound (P := P) (B := B) (σ0 := σ) (H0 := H) (w0 := w) hok hc.1.1 (st := fun j => !t.writes j) (K := Q .normal) (I := fun _ => True) (fun _ _ _ _ => trivial) t (Array.replicate ops.size false) e H σ { w with drawn := w.drawn + 1 } a ops.size hc.2 (.of_below hb) (hS.below hb) hB hE h).1 hc.1.2
  refine wp_mono (wp_region_any hm (wpAny_of_J _ _ _ _ this)) fun ex a' w' hq => ?_
  cases ex with
  | normal => exact hq
  | _ => exact hq.elim
/-- What is taken first as long as nothing was made; then a tree of orders where what no world turns comes first. -/
def mixV0 (ops : Array Oper) (st : Nat → Bool) : SchT → Array Bool → Bool
  | .nil, listed => mixU ops st true .nil listed
  | .alt i k t r, listed => mixU ops st true (.alt i k t r) listed
  | .cons i 0 t, listed => (Region.free .any ops listed i && (Region.ready .any ops listed).contains i && relB ops (fun _ => true) listed i (reachB ops i)) && mixV0 ops st t (listed.setIfInBounds i true)
  | .cons i (k + 1) t, listed => mixU ops st true (.cons i (k + 1) t) listed
def mixV (ops : Array Oper) (t : SchT) : Bool := Region.noSelect ops && mixV0 ops (fun j => !t.writes j) t (Array.replicate ops.size false) && decide (t.size ≤ ops.size)
theorem mixV_sound {ops : Array Oper} (hops : ops.all (operOk n) = true) (hsel : Region.noSelect ops = true) {st : Nat → Bool} {K : Env → AH → Prop} (hS : Sim σ0 H0 w0) : ∀ (t : SchT) (listed : Array Bool) (e : Env) (a : Act) (fuel : Nat),
    t.size ≤ fuel → ER n σ0 H0 a e → mopsT P H0.length ops K t e H0 → mixV0 ops st t listed = true → wpJ P .any ops (RelN n H0.length σ0 H0 w0 K) st (fun x => Below w0.heap.size w0 x) fuel listed a w0
  | .nil, listed, e, a, fuel, hf, hE, h, hm => (mixU_sound hops hsel (fun _ _ _ F => F.forget) .nil listed e H0 σ0 w0 a fuel hf (.refl _ _ _ _) hS (Nat.le_refl _) hE h).1 hm
  | .alt i k t r, listed, e, a, fuel, hf, hE, h, hm => (mixU_sound hops hsel (fun _ _ _ F => F.forget) (.alt i k t r) listed e H0 σ0 w0 a fuel hf (.refl _ _ _ _) hS (Nat.le_refl _) hE h).1 hm
  | .cons i (k + 1) t, listed, e, a, fuel, hf, hE, h, hm => (mixU_sound hops hsel (fun _ _ _ F => F.forget) (.cons i (k + 1) t) listed e H0 σ0 w0 a fuel hf (.refl _ _ _ _) hS (Nat.le_refl _) hE h).1 hm
  | .cons i 0 t, listed, e, a, 0, hf, hE, h, hm => by simp [SchT.size] at hf
  | .cons i 0 t, listed, e, a, fuel + 1, hf, hE, h, hm => by
    simp only [mixV0, Bool.and_eq_true] at hm
    obtain ⟨⟨⟨hfree, hready⟩, hrel⟩, hm3⟩ := hm
    obtain ⟨o, ho, hoo, cases2⟩ := step_cases hops hE h
    have next : ∀ v d, VR σ0 H0 v d → mopsT P H0.length ops K t (put e o.dst d) H0 → wpJ P .any ops (RelN n H0.length σ0 H0 w0 K) st (fun x => Below w0.heap.size w0 x) fuel (listed.setIfInBounds i true) (a.put o.dst v) w0 :=
      fun v d V' h' => mixV_sound hops hsel hS t _ _ _ fuel (by simp [SchT.size] at hf; omega) (hE.put hoo.1 V') h' hm3
    obtain ⟨r1, r2, r3, r4⟩ := relB_spec hrel
    have take : ∀ v, YieldsIf P ops (fun w' => Below w0.heap.size w0 w') o v a → wpJ P .any ops (RelN n H0.length σ0 H0 w0 K) st (fun x => Below w0.heap.size w0 x) fuel (listed.setIfInBounds i true) (a.put o.dst v) w0 → wpJ P .any ops (RelN n H0.length σ0 H0 w0 K) st (fun x => Below w0.heap.size w0 x) (fuel + 1) listed a w0 := fun v hyv hn =>
      wpJ_firstI ho (Region.noSelect_spec hsel) (fun c a w hq => hq.elim) _ r1 r2 fuel listed a w0 r3 (Region.free_spec ho hfree) (by simpa using hready) hyv (Below.refl _ _) hn
    rcases cases2 with ⟨hw, hc⟩ | ⟨hw, hc⟩
    · simp only [mop, if_true] at hc
      by_cases hp : isPop o.op = true
      · rw [if_pos hp] at hc
        cases hv : popV P e H0 o.type o.op with
        | none => rw [hv] at hc; exact hc.elim
        | some d =>
          rw [hv] at hc
          obtain ⟨v, hvr, hrun⟩ := pop_sound hS hE hoo.2 hv
          exact take v (.inl ⟨hw, fun w' hb => hrun w' hb⟩) (next v d hvr hc)
      · rw [if_neg hp] at hc; exact hc.elim
    · exact take undef (.inr ⟨hw, rfl⟩) (next undef undef (.flat _ rfl) hc)
theorem AWp.mixedV {id : Nat} {ops : Array Oper} {e : Env} {H : AH} {Q : Exit → Env → AH → Prop} (t : SchT) (hm : P.follows .mixedOrders = true) (hc : mixV ops t = true)
    (h : mopsT P H.length ops (Q .normal) t e H) : AWp P n B (.region id ops true) Q e H := fun hok σ w a hS hB hE => by
  simp only [codeOk] at hok
  simp only [mixV, Bool.and_eq_true, decide_eq_true_eq] at hc
  have hb : Below w.heap.size w { w with drawn := w.drawn + 1 } := ⟨rfl, rfl, rfl, Nat.le_refl _, fun _ _ => rfl⟩
  have hS' := hS.below hb
  have := mixV_sound (P := P) (σ0 := σ) (H0 := H) (w0 := { w with drawn := w.drawn + 1 }) hok hc.1.1 (st := fun j => !t.writes j) (K := Q .normal) hS' t (Array.replicate ops.size false) e a ops.size hc.2 hE h hc.1.2
  refine wp_mono (wp_region_any hm (wpAny_of_J _ _ _ _ this)) fun ex a' w' hq => ?_
  cases ex with
  | normal =>
    obtain ⟨σ', e', H', F, S', E', hq⟩ := hq
    exact ⟨σ', e', H', ((Fut.of_below hb).trans F).base hB, S', E', hq⟩
  | _ => exact hq.elim
end
end Go.BM
/- The engine: texts C38, C39, C40, C41, C42, C43. -/
/- Drawn regions by what stands behind each operation: no order is told. -/
set_option linter.unusedVariables false
set_option linter.unusedSimpArgs false
namespace Go.BM
open Go.RowKit
def upL (L : Nat → Bool) (i : Nat) : Nat → Bool := fun q => if q = i then true else L q
theorem upL_self (L : Nat → Bool) (i : Nat) : upL L i i = true := by simp [upL]
theorem upL_ne (L : Nat → Bool) {i q : Nat} (h : q ≠ i) : upL L i q = L q := by simp [upL, h]
theorem cnt_lt {p p' : Nat → Bool} {i : Nat} (hle : ∀ x, p' x = true → p x = true) (hi : p i = true) (hi' : p' i = false) : ∀ l : List Nat, i ∈ l → l.countP p' + 1 ≤ l.countP p
  | x :: l, h => by
    have hm : l.countP p' ≤ l.countP p := List.countP_mono_left fun x _ => hle x
    rcases List.mem_cons.1 h with rfl | h
    · rw [List.countP_cons_of_neg (by simp [hi']), List.countP_cons_of_pos hi]; omega
    · have := cnt_lt hle hi hi' l h
      rw [List.countP_cons, List.countP_cons]
      by_cases hx : p' x = true
      · simp [hx, hle x hx]; omega
      · simp [hx]; split <;> omega
def acycB (ops : Array Oper) : Bool := (List.range ops.size).all fun i => match ops[i]? with | some o => o.after.all (fun e => !Region.binds .any e || decide (e.on < i)) | none => true
section
variable {P : Program} {B n : Nat} {σ0 : Sg} {H0 : AH} {w0 : World}
theorem mixI_sound {ops : Array Oper} (hops : ops.all (operOk n) = true) (hac : acycB ops = true) {I : (Nat → Bool) → Env → AH → Prop} {K : Env → AH → Prop}
    (hstep : ∀ L e H, I L e H → ∀ i o, ops[i]? = some o → L i = false → (∀ x ∈ o.after, Region.binds .any x = true → L x.on = true) → stepP P B ops i 2 (I (upL L i)) e H)
    (hend : ∀ L e H, I L e H → (∀ i, i < ops.size → L i = true) → K e H) : ∀ (fuel : Nat) (listed : Array Bool) (e : Env) (H : AH) (σ : Sg) (w : World) (a : Act),
      listed.size = ops.size → (List.range ops.size).countP (fun i => !listed.getD i true) ≤ fuel → Fut B σ0 H0 w0 σ H w → Sim σ H w → B ≤ H.length → ER n σ H a e → I (fun q => listed.getD q false) e H →
      wpAny P .any ops (RelN n B σ0 H0 w0 K) fuel listed a w := by
  have noReady : ∀ listed : Array Bool, listed.size = ops.size → Region.ready .any ops listed = [] → ∀ i, i < ops.size → listed.getD i false = true := fun listed hsz hr i => by
    induction i using Nat.strongRecOn with
    | _ i ih =>
      intro hi
      cases hl : listed.getD i false with
      | true => rfl
      | false =>
        exfalso
        have hl' : listed.getD i true = false := by
          have : i < listed.size := by omega
          simp [this] at hl ⊢; exact hl
        have hm : i ∈ Region.ready .any ops listed := mem_ready.2 ⟨hl', _, Array.getElem?_eq_getElem hi, fun x hx hb => by
          have h1 := List.all_eq_true.1 hac i (List.mem_range.2 hi)
          rw [Array.getElem?_eq_getElem hi] at h1
          dsimp only at h1
          have h2 := Array.all_eq_true'.1 h1 x hx
          rw [hb] at h2
          simp at h2
          exact ih x.on h2 (by omega)⟩
        rw [hr] at hm
        cases hm
  intro fuel
  induction fuel with
  | zero =>
    intro listed e H σ w a hsz hc F hS hB hE hI
    have hall : ∀ i, i < ops.size → listed.getD i true = true := fun i hi => by
      have h0 : (List.range ops.size).countP (fun i => !listed.getD i true) = 0 := by omega
      have := List.countP_eq_zero.1 h0 i (List.mem_range.2 hi)
      simpa using this
    have hr : Region.ready .any ops listed = [] := List.eq_nil_iff_forall_not_mem.2 fun i hi => by
      obtain ⟨h1, o, ho, _⟩ := mem_ready.1 hi
      rw [hall i (Array.getElem?_eq_some_iff.1 ho).1] at h1
      cases h1
    exact ⟨hr, ⟨σ, e, H, F, hS, hE, hend _ e H hI (noReady listed hsz hr)⟩⟩
  | succ fuel ih =>
    intro listed e H σ w a hsz hc F hS hB hE hI
    refine ⟨fun hr => ⟨σ, e, H, F, hS, hE, hend _ e H hI (noReady listed hsz hr)⟩, fun i hi => ?_⟩
    obtain ⟨h1, o, ho, hdep⟩ := mem_ready.1 hi
    have hi' : i < ops.size := (Array.getElem?_eq_some_iff.1 ho).1
    have hil : i < listed.size := by omega
    have h1f : listed.getD i false = false := by simp [hil] at h1 ⊢; exact h1
    have hst := hstep _ e H hI i o ho h1f hdep
    refine wpOp_mono (fun a' w' h => h.2) (eff_step (st := fun _ => false) hops (by omega) (.inr rfl) hS hB hE hst (W := fun a' w' => wpAny P .any ops (RelN n B σ0 H0 w0 K) fuel (listed.setIfInBounds i true) a' w') ?_)
    intro o' ho' hd v d w' σ' H' F' S' V' hI'
    refine ih _ _ H' σ' w' _ (by simp [hsz]) ?_ (F.trans F') S' (Nat.le_trans hB F'.len) ((hE.fut F').put hd V') ?_
    · have := cnt_lt (p := fun q => !listed.getD q true) (p' := fun q => !(listed.setIfInBounds i true).getD q true) (i := i) (fun x hx => by
        by_cases e : i = x
        · subst e; simp [hil] at hx
        · rw [getD_set_ne true e] at hx; exact hx) (by simpa using h1) (by simp [hil]) (List.range ops.size) (List.mem_range.2 hi')
      omega
    · have : (fun q => (listed.setIfInBounds i true).getD q false) = upL (fun q => listed.getD q false) i := funext fun q => by
        by_cases e : q = i
        · subst e; simp [upL, hil]
        · rw [upL_ne _ e, getD_set_ne false (Ne.symm e)]
      rw [this]
      exact hI'
end
def dstAt (ops : Array Oper) (i : Nat) : Option Tmp := (ops[i]?).bind (·.dst)
def dstsOf (ops : Array Oper) : List Nat := ops.toList.filterMap (·.dst)
/-- All that an operation waits for. -/
def depsF (ops : Array Oper) : Nat → Nat → List Nat
  | 0, _ => []
  | f + 1, i => match ops[i]? with
    | none => []
    | some o => (o.after.toList.filter (Region.binds .any)).flatMap fun x => x.on :: depsF ops f x.on
/-- kl: whose memory an operation takes over or writes; dl: whose facts it uses. -/
def factC (ops : Array Oper) (kl dl : List (List Nat)) : Bool :=
  acycB ops && decide ((dstsOf ops).Nodup) && (List.range ops.size).all (fun i => (dl.getD i []).all fun j => (depsF ops ops.size i).contains j && (List.range ops.size).all fun k => !(kl.getD k []).contains j || k == i || (depsF ops ops.size k).contains i) &&
    decide (kl.length ≤ ops.size) && (List.range ops.size).all (fun i => (kl.getD i []).all fun j => (dl.getD i []).contains j)
/-- What is in hand ahead of operation i. -/
structure SHyp (ops : Array Oper) (X : List Nat) (dl : List (List Nat)) (Base : (Nat → Bool) → AH → Prop) (Pf : Nat → Nat → Nat → Value → AH → Prop) (e0 : Env) (H0 : AH) (i : Nat) (L : Nat → Bool) (lo hi : Nat → Nat) (e : Env) (H : AH) : Prop where
  agree : Agree (dstsOf ops) e0 e
  base : Base L H
  nL : L i = false
  dL : ∀ j ∈ dl.getD i [], L j = true
  fact : ∀ j ∈ dl.getD i [], ∀ d, dstAt ops j = some d → Pf j (lo j) (hi j) (e d) H
  disj : ∀ j ∈ dl.getD i [], ∀ k ∈ dl.getD i [], j ≠ k → hi j ≤ lo k ∨ hi k ≤ lo j
  bnd : ∀ j ∈ dl.getD i [], H0.length ≤ lo j ∧ hi j ≤ H.length
  elder : ∀ q b, q ∉ X → H0[q]? = some b → H[q]? = some b
  len : H0.length ≤ H.length
/-- What must stand behind operation i. -/
structure KFact (X : List Nat) (kl : List (List Nat)) (Base : (Nat → Bool) → AH → Prop) (Pf : Nat → Nat → Nat → Value → AH → Prop) (i : Nat) (L : Nat → Bool) (lo hi : Nat → Nat) (e : Env) (H : AH) (d : Option Tmp) (e' : Env) (H' : AH) : Prop where
  ex : ∃ v l h, e' = put e d v ∧ Pf i l h v H' ∧ ((l = H.length ∧ h = H'.length) ∨ ∃ j ∈ kl.getD i [], l = lo j ∧ h = hi j)
  ext : ∀ q b, q ∉ X → (∀ j ∈ kl.getD i [], ¬ (lo j ≤ q ∧ q < hi j)) → H[q]? = some b → H'[q]? = some b
  base : Base (upL L i) H'
  len : H.length ≤ H'.length
/-- What is in hand behind all. -/
structure EHyp (ops : Array Oper) (X : List Nat) (kl : List (List Nat)) (Base : (Nat → Bool) → AH → Prop) (Pf : Nat → Nat → Nat → Value → AH → Prop) (e0 : Env) (H0 : AH) (lo hi : Nat → Nat) (e : Env) (H : AH) : Prop where
  agree : Agree (dstsOf ops) e0 e
  base : ∃ L : Nat → Bool, (∀ i, i < ops.size → L i = true) ∧ Base L H
  fact : ∀ j d, dstAt ops j = some d → (List.range ops.size).all (fun k => !(kl.getD k []).contains j) = true → Pf j (lo j) (hi j) (e d) H
  disj : ∀ j k, j < ops.size → k < ops.size → j ≠ k → (List.range ops.size).all (fun q => !(kl.getD q []).contains j && !(kl.getD q []).contains k) = true → hi j ≤ lo k ∨ hi k ≤ lo j
  bnd : ∀ j, j < ops.size → H0.length ≤ lo j ∧ hi j ≤ H.length
  elder : ∀ q b, q ∉ X → H0[q]? = some b → H[q]? = some b
  len : H0.length ≤ H.length
theorem nodup_dstL {d : Nat} : ∀ (l : List Oper), (l.filterMap (fun o => o.dst)).Nodup → ∀ {i j : Nat}, (l[i]?).bind (fun o : Oper => o.dst) = some d → (l[j]?).bind (fun o : Oper => o.dst) = some d → i = j
  | [], _, i, j, hi, hj => by simp at hi
  | o :: l, h, i, j, hi, hj => by
    have hmem : ∀ k : Nat, (l[k]?).bind (fun o : Oper => o.dst) = some d → d ∈ l.filterMap (fun o => o.dst) := fun k hk => by
      cases ho : l[k]? with
      | none => rw [ho] at hk; cases hk
      | some o' => rw [ho] at hk; exact List.mem_filterMap.2 ⟨o', List.mem_of_getElem? ho, hk⟩
    have hl : (l.filterMap (fun o => o.dst)).Nodup := by
      rw [List.filterMap_cons] at h
      split at h
      · exact h
      · exact (List.nodup_cons.1 h).2
    have hno : o.dst = some d → d ∉ l.filterMap (fun o => o.dst) := fun he => by
      rw [List.filterMap_cons, he] at h
      exact (List.nodup_cons.1 h).1
    cases i with
    | zero =>
      cases j with
      | zero => rfl
      | succ j => exact absurd (hmem j (by simpa using hj)) (hno (by simpa using hi))
    | succ i =>
      cases j with
      | zero => exact absurd (hmem i (by simpa using hi)) (hno (by simpa using hj))
      | succ j => rw [nodup_dstL l hl (i := i) (j := j) (by simpa using hi) (by simpa using hj)]
theorem nodup_dst {ops : Array Oper} (h : (dstsOf ops).Nodup) {i j d : Nat} (hi : dstAt ops i = some d) (hj : dstAt ops j = some d) : i = j := by
  unfold dstAt at hi hj
  unfold dstsOf at h
  rw [← Array.getElem?_toList] at hi hj
  exact nodup_dstL _ h hi hj
section
variable {P : Program} {B n : Nat}
structure IF (ops : Array Oper) (X : List Nat) (kl : List (List Nat)) (Base : (Nat → Bool) → AH → Prop) (Pf : Nat → Nat → Nat → Value → AH → Prop) (e0 : Env) (H0 : AH) (L : Nat → Bool) (lo hi : Nat → Nat) (e : Env) (H : AH) : Prop where
  agree : Agree (dstsOf ops) e0 e
  base : Base L H
  clos : ∀ j o, ops[j]? = some o → L j = true → ∀ x ∈ o.after, Region.binds .any x = true → L x.on = true
  fact : ∀ j d, L j = true → (∀ k, L k = true → j ∉ kl.getD k []) → dstAt ops j = some d → Pf j (lo j) (hi j) (e d) H
  disj : ∀ j k, L j = true → L k = true → (∀ q, L q = true → j ∉ kl.getD q []) → (∀ q, L q = true → k ∉ kl.getD q []) → j ≠ k → hi j ≤ lo k ∨ hi k ≤ lo j
  bnd : ∀ j, L j = true → H0.length ≤ lo j ∧ hi j ≤ H.length
  elder : ∀ q b, q ∉ X → H0[q]? = some b → H[q]? = some b
  len : H0.length ≤ H.length
theorem deps_listed {ops : Array Oper} {L : Nat → Bool} (hcl : ∀ j o, ops[j]? = some o → L j = true → ∀ x ∈ o.after, Region.binds .any x = true → L x.on = true) : ∀ (f i : Nat), (∀ o, ops[i]? = some o → ∀ x ∈ o.after, Region.binds .any x = true → L x.on = true) → ∀ j ∈ depsF ops f i, L j = true
  | 0, i, h, j, hj => by simp [depsF] at hj
  | f + 1, i, h, j, hj => by
    unfold depsF at hj
    cases ho : ops[i]? with
    | none => rw [ho] at hj; simp at hj
    | some o =>
      rw [ho] at hj
      dsimp only at hj
      obtain ⟨x, hx, hj⟩ := List.mem_flatMap.1 hj
      obtain ⟨hx1, hx2⟩ := List.mem_filter.1 hx
      have hLx := h o ho x (by simpa using hx1) hx2
      rcases List.mem_cons.1 hj with rfl | hj
      · exact hLx
      · exact deps_listed hcl f x.on (fun o' ho' y hy hb => hcl _ o' ho' hLx y hy hb) j hj
theorem AWp.mixedF {id : Nat} {ops : Array Oper} {e : Env} {H : AH} {Q : Exit → Env → AH → Prop} (X : List Nat) (kl dl : List (List Nat)) (Base : (Nat → Bool) → AH → Prop) (Pf : Nat → Nat → Nat → Value → AH → Prop) (N : Nat)
    (hm : P.follows .mixedOrders = true) (hN : (ops.size == N && factC ops kl dl) = true) (hX : ∀ q ∈ X, q < H.length)
    (hmono : ∀ i l h v H1 H2, (∀ q b, l ≤ q → q < h → H1[q]? = some b → H2[q]? = some b) → Pf i l h v H1 → Pf i l h v H2) (h0 : Base (fun _ => false) H)
    (hstep : ∀ i, i < N → ∀ L lo hi e' H', SHyp ops X dl Base Pf e H i L lo hi e' H' → stepP P B ops i 2 (KFact X kl Base Pf i L lo hi e' H' (dstAt ops i)) e' H')
    (hend : ∀ lo hi e' H', EHyp ops X kl Base Pf e H lo hi e' H' → Q .normal e' H') :
    AWp P n B (.region id ops true) Q e H := fun hok σ w a hS hB hE => by
  simp only [codeOk] at hok
  obtain ⟨hN, hc⟩ := Bool.and_eq_true_iff.1 hN
  have hN : ops.size = N := eq_of_beq hN
  simp only [factC, Bool.and_eq_true, decide_eq_true_eq] at hc
  obtain ⟨⟨⟨⟨hac, hnd⟩, hdl⟩, hkl⟩, hkd⟩ := hc
  have hdl' : ∀ i, i < ops.size → ∀ j ∈ dl.getD i [], j ∈ depsF ops ops.size i ∧ ∀ k, k < ops.size → j ∈ kl.getD k [] → k = i ∨ i ∈ depsF ops ops.size k := fun i hi j hj => by
    have h1 := List.all_eq_true.1 (List.all_eq_true.1 hdl i (List.mem_range.2 hi)) j hj
    rw [Bool.and_eq_true] at h1
    refine ⟨by simpa using h1.1, fun k hk hjk => ?_⟩
    have h2 := List.all_eq_true.1 h1.2 k (List.mem_range.2 hk)
    simp only [Bool.or_eq_true, Bool.not_eq_true', beq_iff_eq] at h2
    rcases h2 with (h2 | h2) | h2
    · rw [List.contains_eq_mem, decide_eq_false_iff_not] at h2; exact absurd hjk h2
    · exact .inl h2
    · exact .inr (by simpa using h2)
  have hkn : ∀ k, ops.size ≤ k → kl.getD k [] = [] := fun k hk => by
    rw [List.getD_eq_getElem?_getD, List.getElem?_eq_none (by omega)]; rfl
  have hb : Below w.heap.size w { w with drawn := w.drawn + 1 } := ⟨rfl, rfl, rfl, Nat.le_refl _, fun _ _ => rfl⟩
  let I : (Nat → Bool) → Env → AH → Prop := fun L e' H' => ∃ lo hi, IF ops X kl Base Pf e H L lo hi e' H'
  have := mixI_sound (P := P) (B := B) (σ0 := σ) (H0 := H) (w0 := w) hok hac (I := I) (K := Q .normal)
    (fun L e' H' ⟨lo, hi, hI⟩ i o ho hL hdep => by
      have hi' : i < ops.size := (Array.getElem?_eq_some_iff.1 ho).1
      have hdst : dstAt ops i = o.dst := by unfold dstAt; rw [ho]; rfl
      have hLd : ∀ j ∈ depsF ops ops.size i, L j = true := deps_listed hI.clos _ _ fun o' ho' => by rw [ho] at ho'; cases ho'; exact hdep
      have hal : ∀ j ∈ dl.getD i [], ∀ k, L k = true → j ∉ kl.getD k [] := fun j hj k hk hjk => by
        by_cases hks : k < ops.size
        · rcases (hdl' i hi' j hj).2 k hks hjk with h | h
          · rw [h, hL] at hk; cases hk
          · have := deps_listed hI.clos ops.size k (fun o' ho' x hx hb => hI.clos k o' ho' hk x hx hb) i h
            rw [hL] at this; cases this
        · rw [hkn k (by omega)] at hjk; cases hjk
      have hsh : SHyp ops X dl Base Pf e H i L lo hi e' H' := ⟨hI.agree, hI.base, hL, fun j hj => hLd j (hdl' i hi' j hj).1,
        fun j hj d hd => hI.fact j d (hLd j (hdl' i hi' j hj).1) (hal j hj) hd,
        fun j hj k hk hne => hI.disj j k (hLd j (hdl' i hi' j hj).1) (hLd k (hdl' i hi' k hk).1) (hal j hj) (hal k hk) hne,
        fun j hj => hI.bnd j (hLd j (hdl' i hi' j hj).1), hI.elder, hI.len⟩
      refine stepP_mono (fun e'' H'' hK => ?_) (hstep i (by omega) L lo hi e' H' hsh)
      rw [hdst] at hK
      obtain ⟨v, l, h, he, hp, hlh⟩ := hK.ex
      let lo' : Nat → Nat := fun q => if q = i then l else lo q
      let hi'' : Nat → Nat := fun q => if q = i then h else hi q
      have hkin : ∀ j ∈ kl.getD i [], j ∈ dl.getD i [] := fun j hj => by
        have := List.all_eq_true.1 (List.all_eq_true.1 hkd i (List.mem_range.2 hi')) j hj
        simpa using this
      have hlist : ∀ {j}, upL L i j = true → j ≠ i → L j = true := fun hj hne => by rw [upL_ne _ hne] at hj; exact hj
      have halive : ∀ {j}, (∀ k, upL L i k = true → j ∉ kl.getD k []) → (∀ k, L k = true → j ∉ kl.getD k []) ∧ j ∉ kl.getD i [] := fun hj =>
        ⟨fun k hk => hj k (by by_cases e : k = i; · rw [e, upL_self]
                              · rw [upL_ne _ e]; exact hk), hj i (upL_self _ _)⟩
      have hsep : ∀ j, L j = true → j ≠ i → (∀ k, L k = true → j ∉ kl.getD k []) → j ∉ kl.getD i [] → h ≤ lo j ∨ hi j ≤ l := fun j hj hne hal1 hal2 => by
        rcases hlh with ⟨rfl, rfl⟩ | ⟨k, hk, rfl, rfl⟩
        · exact .inr (hI.bnd j hj).2
        · have hkd' := hkin k hk
          have := hI.disj j k hj (hLd k (hdl' i hi' k hkd').1) hal1 (hal k hkd') (fun e => hal2 (e ▸ hk))
          omega
      refine ⟨lo', hi'', ?_, hK.base, fun j o' ho' hj x hx hb => ?_, fun j d hj hal' hd => ?_, fun j k hj hk haj hak hne => ?_, fun j hj => ?_, fun q b hq hb => ?_, Nat.le_trans hI.len hK.len⟩
      · rw [he]
        cases hd : o.dst with
        | none => exact hI.agree
        | some t => exact hI.agree.put (by
            rw [List.contains_iff_mem]
            exact List.mem_filterMap.2 ⟨o, Array.mem_toList_iff.2 (Array.mem_of_getElem? ho), hd⟩) _
      · by_cases hji : j = i
        · subst hji
          rw [ho] at ho'; cases ho'
          have := hdep x hx hb
          by_cases e : x.on = j
          · rw [e, upL_self]
          · rw [upL_ne _ e]; exact this
        · have := hI.clos j o' ho' (hlist hj hji) x hx hb
          by_cases e : x.on = i
          · rw [e, upL_self]
          · rw [upL_ne _ e]; exact this
      · by_cases hji : j = i
        · subst hji
          have hd' : o.dst = some d := by rw [← hdst]; exact hd
          rw [he, hd']
          simp only [lo', hi'', if_true]
          simpa [put] using hp
        · obtain ⟨ha1, ha2⟩ := halive hal'
          have hLj := hlist hj hji
          have hne : e'' d = e' d := by
            rw [he]
            cases hd' : o.dst with
            | none => rfl
            | some t =>
              have : d ≠ t := fun h => hji (nodup_dst hnd hd (by rw [hdst, h]; exact hd'))
              simp [put, this]
          rw [hne]
          simp only [lo', hi'', if_neg hji]
          refine hmono j _ _ _ _ _ (fun q b h1 h2 h3 => hK.ext q b (fun hx => ?_) (fun k hk => ?_) h3) (hI.fact j d hLj ha1 hd)
          · have := hX q hx
            have := (hI.bnd j hLj).1
            omega
          · have hkd' := hkin k hk
            have := hI.disj j k hLj (hLd k (hdl' i hi' k hkd').1) ha1 (hal k hkd') (fun e => ha2 (e ▸ hk))
            omega
      · obtain ⟨ha1, ha2⟩ := halive haj
        obtain ⟨hb1, hb2⟩ := halive hak
        by_cases hji : j = i
        · subst hji
          have hki : k ≠ j := Ne.symm hne
          simp only [lo', hi'', if_true, if_neg hki]
          exact hsep k (hlist hk hki) hki hb1 hb2
        · by_cases hki : k = i
          · subst hki
            simp only [lo', hi'', if_true, if_neg hji]
            have := hsep j (hlist hj hji) hji ha1 ha2
            omega
          · simp only [lo', hi'', if_neg hji, if_neg hki]
            exact hI.disj j k (hlist hj hji) (hlist hk hki) ha1 hb1 hne
      · by_cases hji : j = i
        · subst hji
          simp only [lo', hi'', if_true]
          rcases hlh with ⟨rfl, rfl⟩ | ⟨k, hk, rfl, rfl⟩
          · exact ⟨hI.len, Nat.le_refl _⟩
          · have := hI.bnd k (hLd k (hdl' j hi' k (hkin k hk)).1)
            have := hK.len
            omega
        · simp only [lo', hi'', if_neg hji]
          have := hI.bnd j (hlist hj hji)
          have := hK.len
          omega
      · refine hK.ext q b hq (fun j hj => ?_) (hI.elder q b hq hb)
        have := (hI.bnd j (hLd j (hdl' i hi' j (hkin j hj)).1)).1
        have := lt_of_some hb
        omega)
    (fun L e' H' ⟨lo, hi, hI⟩ hall => hend lo hi e' H' ⟨hI.agree, ⟨L, hall, hI.base⟩, fun j d hd hk => hI.fact j d (hall j (by
        unfold dstAt at hd
        cases ho : ops[j]? with
        | none => rw [ho] at hd; cases hd
        | some o => exact (Array.getElem?_eq_some_iff.1 ho).1)) (fun k _ hjk => by
        by_cases hks : k < ops.size
        · have := List.all_eq_true.1 hk k (List.mem_range.2 hks)
          rw [Bool.not_eq_true', List.contains_eq_mem, decide_eq_false_iff_not] at this
          exact this hjk
        · rw [hkn k (by omega)] at hjk; cases hjk) hd,
      fun j k hj hk hne hal => by
        have h1 : ∀ q, j ∉ kl.getD q [] ∧ k ∉ kl.getD q [] := fun q => by
          by_cases hqs : q < ops.size
          · have := List.all_eq_true.1 hal q (List.mem_range.2 hqs)
            simp only [Bool.and_eq_true, Bool.not_eq_true', List.contains_eq_mem, decide_eq_false_iff_not] at this
            exact this
          · rw [hkn q (by omega)]; simp
        exact hI.disj j k (hall j hj) (hall k hk) (fun q _ => (h1 q).1) (fun q _ => (h1 q).2) hne,
      fun j hj => hI.bnd j (hall j hj), hI.elder, hI.len⟩)
    ops.size (Array.replicate ops.size false) e H σ { w with drawn := w.drawn + 1 } a (by simp) (Nat.le_trans List.countP_le_length (by simp)) (.of_below hb) (hS.below hb) hB hE
    (by
      have : (fun q => (Array.replicate ops.size false).getD q false) = fun _ => false := funext fun q => by
        by_cases h : q < ops.size <;> simp [Array.getD, h]
      rw [this]
      exact ⟨fun _ => 0, fun _ => 0, Agree.refl _ _, h0, fun j o _ hj => (by cases hj), fun j d hj => (by cases hj), fun j k hj => (by cases hj), fun j hj => (by cases hj), fun q b _ h => h, Nat.le_refl _⟩)
  refine wp_mono (wp_region_any hm this) fun ex a' w' hq => ?_
  cases ex with
  | normal => exact hq
  | _ => exact hq.elim
end
/-- A continuation that a walk leaves alone. -/
structure KZ (A : Env → AH → Prop) where
  K : Env → AH → Prop
  go : ∀ e H, A e H → K e H
theorem KZ.run {A : Env → AH → Prop} (k : KZ A) {e : Env} {H : AH} (h : A e H) : k.K e H := k.go e H h
section
variable {P : Program} {B n : Nat} {ops : Array Oper} {e : Env} {H : AH}
theorem stepF {i : Nat} {o : Oper} {A : Env → AH → Prop} (ho : opAt ops.toList i = some o) (h : ∀ k : KZ A, aops P B ops k.K [o] e H) : stepP P B ops i 2 A e H :=
  stepP_at B 2 (opAt_ops ho) (fun K' => rfl) (h ⟨_, fun e H h => h⟩)
theorem AWp.absE {c : Code} {Q : Exit → Env → AH → Prop} (h : ∀ e0 : Env, e0 = e → AWp P n B c Q e0 H) : AWp P n B c Q e H := h e rfl
end
/-- Facts of common kinds: some number; a fresh slice of numbers; some text; a fresh slice of texts. -/
def FInt (v : Value) : Prop := ∃ k : Int, v = .int .i64 k
def FInts (T n l h : Nat) (v : Value) (H : AH) : Prop := v = .slice (some ⟨l, 0, none⟩) n 0 ∧ l < h ∧ ∃ xs : List Int, xs.length = n ∧ H[l]? = some ⟨T, 1, intE.flat xs, 0, true⟩
theorem FInts.mono {T n l h : Nat} {v : Value} {H1 H2 : AH} (hm : ∀ q b, l ≤ q → q < h → H1[q]? = some b → H2[q]? = some b) (hp : FInts T n l h v H1) : FInts T n l h v H2 := by
  obtain ⟨h1, h2, xs, h3, h4⟩ := hp
  exact ⟨h1, h2, xs, h3, hm l _ (Nat.le_refl _) h2 h4⟩
def FStrs (T n l h : Nat) (v : Value) (H : AH) : Prop := v = .slice (some ⟨l, 0, none⟩) n 0 ∧ l < h ∧ ∃ xs : List ByteArray, xs.length = n ∧ H[l]? = some ⟨T, 1, strE.flat xs, 0, true⟩
theorem FStrs.mono {T n l h : Nat} {v : Value} {H1 H2 : AH} (hm : ∀ q b, l ≤ q → q < h → H1[q]? = some b → H2[q]? = some b) (hp : FStrs T n l h v H1) : FStrs T n l h v H2 := by
  obtain ⟨h1, h2, xs, h3, h4⟩ := hp
  exact ⟨h1, h2, xs, h3, hm l _ (Nat.le_refl _) h2 h4⟩
end Go.BM

/- Places that are read: fewer cells of them; sizes of slices of slices; nil arguments. -/
set_option linter.unusedVariables false
set_option linter.unusedSimpArgs false
namespace Go.BM
open Go.RowKit
section
variable {P : Program} {B : Nat} {H : AH} {f : FuncId} {k : Value → AH → Prop}
end
end Go.BM

/- Those of the lowest ranks, in rising order. -/
set_option linter.unusedVariables false
set_option linter.unusedSimpArgs false
namespace Go.BM
/-! Sorting by insertion. -/
section
variable {α : Type} {κ : α → Int} {zs : List α} {j k : Nat}
end
end Go.BM

/- Drawn regions by what stands behind each operation: values may name the blocks of others, and outlive a kill. -/
set_option linter.unusedVariables false
set_option linter.unusedSimpArgs false
namespace Go.BM
open Go.RowKit
section
variable {P : Program} {B n : Nat}
end
end Go.BM

/- Lists of things that own what they lead to, made by a loop behind boxes. -/
set_option linter.unusedVariables false
set_option linter.unusedSimpArgs false
namespace Go.BM
open Go.RowKit
section
variable {P : Program} {B : Nat} {α : Type} {E : Enc α}
end
end Go.BM

/- A row of a text's bytes, made by '[]byte(text)': it is ours, its mark lies behind its end. -/
set_option linter.unusedVariables false
set_option linter.unusedSimpArgs false
namespace Go.BM
open Go.RowKit

def byteCs (s : List UInt8) : List Value := s.map fun b => .int .u8 b.toNat

theorem new_soundL {B : Nat} {σ : Sg} {H : AH} {w w' : World} (hS : Sim σ H w) (hB : B ≤ H.length) (hw : Below w.heap.size w w') (blk : Blk) (ho : blk.own = true) (c : Array Value) (L : Loc) (hLb : w.heap.size ≤ L.b) (h0 : L.base = 0) (hn : c.size = L.n)
    (hnew : w'.heap[L.b]? = some (.cells c blk.el L.fz)) (hle : blk.cs.length ≤ c.size)
    (hv : ∀ (j : Nat) v, blk.cs[j]? = some v → ∃ u, c[j]? = some u ∧ VR σ H u v ∧ u.oneCell' = true) :
    Fut B σ H w (σ.upd H.length L) (H ++ [blk]) w' ∧ Sim (σ.upd H.length L) (H ++ [blk]) w' := by
  have hsz := hw.size
  have hold : ∀ k, k < w.heap.size → w'.heap[k]? = w.heap[k]? := fun k hk => hw.block k hk
  have getq : ∀ q bq, (H ++ [blk])[q]? = some bq → (q = H.length ∧ bq = blk) ∨ (q ≠ H.length ∧ H[q]? = some bq) := fun q bq h => by
    rcases Nat.lt_or_ge q H.length with h1 | h1
    · rw [List.getElem?_append_left h1] at h; exact .inr ⟨by omega, h⟩
    · rw [List.getElem?_append_right h1] at h
      have : q - H.length = 0 := by
        rcases Nat.eq_zero_or_pos (q - H.length) with h0 | h0
        · exact h0
        · rw [List.getElem?_eq_none (by simp; omega)] at h; cases h
      rw [this] at h
      simp at h
      exact .inl ⟨by omega, h.symm⟩
  have F : Fut B σ H w (σ.upd H.length L) (H ++ [blk]) w' := {
    os := hw.os
    tape := hw.tape
    output := hw.output
    size := hsz
    frame := fun k hk _ => hold k hk
    pre := fun r hr => List.getElem?_append_left (by omega)
    preσ := fun r hr hl => by rw [Sg.upd_at, if_neg (by omega)]
    keep := fun r b hb => ⟨b, by rw [List.getElem?_append_left (lt_of_some hb)]; exact hb, Nat.le_refl _, fun _ => ⟨by have := lt_of_some hb; rw [Sg.upd_at, if_neg (by omega)], rfl, rfl⟩⟩
    loc := fun r b hb hob => by
      rcases getq r b hb with ⟨rfl, rfl⟩ | ⟨e, hb'⟩
      · exact .inr (by simp only [Sg.upd_at, if_true]; exact hLb)
      · exact .inl ⟨b, hb', hob, by rw [Sg.upd_at, if_neg e]⟩
    imk := fun _ _ h => h
    imn := fun _ _ h => .inl h }
  refine ⟨F, ⟨fun q bq hbq hoq => ?_, fun a u ha => ?_, fun a u ha q bq hbq hoq => ?_, fun q q' bq bq' hbq hbq' hqq hoq hlv => ?_, F.glob hS⟩⟩
  · rcases getq q bq hbq with ⟨rfl, rfl⟩ | ⟨e, hbq'⟩
    · simp only [Sg.upd_at, if_true]
      refine ⟨c, hnew, h0, hn, hle, fun j v hj => ?_⟩
      obtain ⟨u, h1, h2, h3⟩ := hv j v hj
      exact ⟨u, h1, h2.fut F, h3⟩
    · simp only [Sg.upd_at, e, if_false]
      obtain ⟨cq, h1, h2, h3, h4, h5⟩ := hS.own q bq hbq' hoq
      refine ⟨cq, by rw [hold _ (hS.lt hbq' hoq)]; exact h1, h2, h3, h4, fun j v hj => ?_⟩
      obtain ⟨u, a1, a2, a3⟩ := h5 j v hj
      exact ⟨u, a1, a2.fut F, a3⟩
  · rw [Sg.upd_im] at ha
    obtain ⟨h1, h2⟩ := hS.im a u ha
    exact ⟨by rw [World.cell?_of_block (w := w) (a := a) (hold _ (hS.imlt ha))]; exact h1, h2⟩
  · rw [Sg.upd_im] at ha
    rcases getq q bq hbq with ⟨rfl, rfl⟩ | ⟨e, hbq'⟩
    · have := hS.imlt ha
      simp only [Sg.upd_at, if_true]
      omega
    · simp only [Sg.upd_at, e, if_false]
      exact hS.sep a u ha q bq hbq' hoq
  · rcases getq q bq hbq with ⟨rfl, rfl⟩ | ⟨e, hbq1⟩
    · rcases getq q' bq' hbq' with ⟨rfl, rfl⟩ | ⟨e', hbq2⟩
      · omega
      · simp only [Sg.upd_at, if_true, e', if_false]
        have := hS.lt hbq2 hlv
        omega
    · rcases getq q' bq' hbq' with ⟨rfl, rfl⟩ | ⟨e', hbq2⟩
      · simp only [Sg.upd_at, if_true, e, if_false]
        have := hS.lt hbq1 hoq
        omega
      · simp only [Sg.upd_at, e, e', if_false]
        exact hS.inj q q' bq bq' hbq1 hbq2 hqq hoq hlv

def bytesBlk (e : TypeId) (str : ByteArray) : Blk := ⟨e, 1, byteCs str.data.toList, 0, true⟩

theorem bytes_sound {P : Program} {B : Nat} {σ : Sg} {H : AH} {w : World} (hS : Sim σ H w) (hB : B ≤ H.length) {src dst e : TypeId} {u : TypeDesc} (str : ByteArray) (hm : str.size ≤ maxLen)
    (hs : P.underlying src = some u) (hd : P.underlying dst = some (.slice e)) (he : P.underlying e = some (.int .u8)) :
    Goes P B σ H w ((convert src dst (.string str)).run P w) (.slice (some ⟨H.length, 0, none⟩) str.size 0) (H ++ [bytesBlk e str]) := by
  have hge := grownCap_ge w str.size 0 e
  have hle := grownCap_le_maxLen w str.size 0 e hm
  have hcs : (Lib.bytesCells w e str).size = grownCap w str.size 0 e := by
    simp only [Lib.bytesCells, Array.size_append, Array.size_map, Array.size_replicate]
    have : str.data.size = str.size := rfl
    omega
  have hlen : (byteCs str.data.toList).length = str.size := by simp [byteCs]
  obtain ⟨F, S⟩ := new_soundL (B := B) hS hB (Lib.bytesWorld_below w e str) (bytesBlk e str) rfl (Lib.bytesCells w e str) ⟨w.heap.size, 0, (Lib.bytesCells w e str).size, true⟩ (Nat.le_refl _) rfl rfl (Lib.bytesWorld_at_new w e str) (by show (byteCs str.data.toList).length ≤ _; omega) (by
    intro j v hj
    have hj' : (byteCs str.data.toList)[j]? = some v := hj
    have hlt : j < str.size := by have := lt_of_some' hj'; omega
    have hlt' : j < str.data.size := hlt
    refine ⟨v, ?_, ?_, ?_⟩
    · simp only [Lib.bytesCells]
      rw [Array.getElem?_append_left (by simpa using hlt')]
      simp only [byteCs, List.getElem?_map, Array.getElem?_toList] at hj'
      simpa using hj'
    · simp only [byteCs, List.getElem?_map, Array.getElem?_toList] at hj'
      rw [Array.getElem?_eq_getElem hlt'] at hj'
      cases hj'
      exact .flat _ rfl
    · simp only [byteCs, List.getElem?_map, Array.getElem?_toList] at hj'
      rw [Array.getElem?_eq_getElem hlt'] at hj'
      cases hj'
      rfl)
  refine ⟨_, _, _, Lib.run_convert_string_bytes w src dst e str hs hd he, F, S, ?_⟩
  have hb : (H ++ [bytesBlk e str])[H.length]? = some (bytesBlk e str) := by rw [List.getElem?_append_right (Nat.le_refl _)]; simp
  have := VR.slice (σ := σ.upd H.length ⟨w.heap.size, 0, (Lib.bytesCells w e str).size, true⟩) H.length 0 str.size (grownCap w str.size 0 e) 0 none (bytesBlk e str) hb rfl rfl hge (by simpa using hge) hle (by simp [Sg.upd_at, bytesBlk, hcs])
  simpa [Sg.upd_at] using this

section
variable {P : Program} {B n : Nat} {σ0 : Sg} {H0 : AH} {w0 : World}

theorem aops_sound_app {ops : Array Oper} (hops : ops.all (operOk n) = true) {Qw : Exit → Act → World → Prop} {rest : List Oper} {K : Env → AH → Prop}
    (hK : ∀ e H σ w a, Fut B σ0 H0 w0 σ H w → Sim σ H w → B ≤ H.length → ER n σ H a e → K e H → wpList P ops Qw rest a w) : ∀ (l : List Oper), (∀ o ∈ l, operOk n o = true) → ∀ (e : Env) (H : AH) (σ : Sg) (w : World) (a : Act),
    Fut B σ0 H0 w0 σ H w → Sim σ H w → B ≤ H.length → ER n σ H a e → aops P B ops K l e H → wpList P ops Qw (l ++ rest) a w
  | [], _, e, H, σ, w, a, f, hS, hB, hE, h => hK e H σ w a f hS hB hE h
  | o :: l, hl, e, H, σ, w, a, f, hS, hB, hE, h => by
    have ho := hl o (by simp)
    unfold operOk at ho
    rw [Bool.and_eq_true] at ho
    have hdst : ops.all (fun o => dstOk n o.dst) = true := by
      rw [Array.all_eq_true] at hops ⊢
      intro i hi
      have := hops i hi
      unfold operOk at this
      rw [Bool.and_eq_true] at this
      exact this.1
    have step : aop P B e H o (fun v H' => aops P B ops K l (put e o.dst v) H') → o.wp P a w (wpList P ops Qw (l ++ rest)) Qw := fun h' =>
      aop_sound hS hB hE ho.2 h' fun v w' σ' H' d F S V k =>
        aops_sound_app hops hK l (fun o ho => hl o (by simp [ho])) _ _ _ _ _ (f.trans F) S (Nat.le_trans hB F.len) ((hE.fut F).put ho.1 V) k
    have skip : aops P B ops K l (put e o.dst undef) H → wpList P ops Qw (l ++ rest) (a.put o.dst undef) w := fun h' =>
      aops_sound_app hops hK l (fun o ho => hl o (by simp [ho])) _ _ _ _ _ f hS hB (hE.put ho.1 (.flat _ rfl)) h'
    rw [List.cons_append]
    unfold wpList
    unfold aops at h
    cases hg : o.guard with
    | none =>
      rw [hg] at h
      rw [if_pos (by simp [Region.wanted, hg])]
      exact .inl (step h)
    | some jw =>
      obtain ⟨j, want⟩ := jw
      rw [hg] at h
      dsimp only at h
      unfold gateA at h
      have hy := yield_eq hE hdst j
      by_cases hc : yieldA ops e j = some want
      · rw [if_pos hc] at h
        rw [if_pos (by simp [Region.wanted, hg, hy, hc])]
        exact .inl (step h)
      · rw [if_neg hc] at h
        rw [if_neg (by simp [Region.wanted, hg, hy, hc])]
        exact skip h

/-- A region that makes a row of bytes of a text. -/
theorem AWp.regionB {Q : Exit → Env → AH → Prop} {e : Env} {H : AH} {id : Nat} {ops : Array Oper} (pre post : List Oper) (d : Option Nat) (s t el : TypeId) (x : Operand) (ty : TypeId) (ps : String) (af : Array Edge) (u : TypeDesc)
    (hops : ops.toList = pre ++ ⟨d, .convert s t x, ty, ps, af, none⟩ :: post) (hs : P.underlying s = some u) (ht : P.underlying t = some (.slice el)) (he : P.underlying el = some (.int .u8))
    (h : aops P B ops (fun e' H' => ∃ str : ByteArray, ev e' x = .string str ∧ str.size ≤ maxLen ∧ aops P B ops (Q .normal) post (put e' d (.slice (some ⟨H'.length, 0, none⟩) str.size 0)) (H' ++ [bytesBlk el str])) pre e H) :
    AWp P n B (.region id ops false) Q e H := fun hok σ w a hS hB hE => by
  simp only [codeOk] at hok
  have hall : ∀ o ∈ ops.toList, operOk n o = true := fun o ho => Array.all_eq_true'.1 hok o (by simpa using ho)
  refine wp_region_list ?_
  rw [hops] at hall ⊢
  refine aops_sound_app (σ0 := σ) (H0 := H) (w0 := w) hok ?_ pre (fun o ho => hall o (by simp [ho])) e H σ w a (.refl _ _ _ _) hS hB hE h
  rintro e1 H1 σ1 w1 a1 f1 hS1 hB1 hE1 ⟨str, hx, hm, hpost⟩
  have ho := hall ⟨d, .convert s t x, ty, ps, af, none⟩ (by simp)
  unfold operOk at ho
  rw [Bool.and_eq_true] at ho
  have hxo : opdOk n x = true := Array.all_eq_true'.1 ho.2 x (by simp [Op.operands])
  have hv := hE1.eval hxo
  rw [hx] at hv
  have hv' : a1.eval x = .string str := hv.str
  obtain ⟨v, w2, σ2, hrun, F, S, V⟩ := bytes_sound (P := P) (B := B) (σ := σ1) (H := H1) (w := w1) hS1 hB1 str hm hs ht he
  unfold wpList
  rw [if_pos (by simp [Region.wanted])]
  refine .inl ?_
  unfold Oper.wp
  have hex : (execOp a1.eval ⟨d, .convert s t x, ty, ps, af, none⟩).run P w1 = .ok (.value v) w2 := by
    simp [execOp, hv', hrun, Result.andThen]
  rw [hex, Oper.upon_value]
  exact aops_sound hok post (fun o ho => hall o (by simp [ho])) _ _ σ2 w2 _ (f1.trans F) S (Nat.le_trans hB1 F.len) ((hE1.fut F).put ho.1 V) hpost

end
end Go.BM
/- The reference's words: a text cut at a byte, a number of few digits. -/
set_option linter.unusedVariables false
set_option linter.unusedSimpArgs false
set_option maxRecDepth 100000
set_option maxHeartbeats 4000000
namespace Go.BM
open Go.Proofs Go.RowKit
attribute [local irreducible] ACalls AWp aops qops optK optP cK gateA condK mops qcallK PCalls loadV fldV idxV lenV slV storeH binS
/-- A text cut at a byte. -/
def cutL (c : UInt8) : List UInt8 → List (List UInt8)
  | [] => [[]]
  | x :: l => if x = c then [] :: cutL c l else match cutL c l with
    | [] => [[x]]
    | w :: ws => (x :: w) :: ws
theorem cutL_ne (c : UInt8) : ∀ l : List UInt8, cutL c l ≠ []
  | [] => by simp [cutL]
  | x :: l => by
    unfold cutL
    split
    · simp
    · split <;> simp
theorem cutL_app (c : UInt8) : ∀ (a l : List UInt8), (∀ x ∈ a, x ≠ c) → cutL c (a ++ c :: l) = a :: cutL c l
  | [], l, _ => by simp [cutL]
  | x :: a, l, h => by
    have hx := h x (by simp)
    rw [List.cons_append, cutL, if_neg hx, cutL_app c a l fun y hy => h y (by simp [hy])]
theorem cutL_one (c : UInt8) : ∀ (a : List UInt8), (∀ x ∈ a, x ≠ c) → cutL c a = [a]
  | [], _ => rfl
  | x :: a, h => by
    have hx := h x (by simp)
    rw [cutL, if_neg hx, cutL_one c a fun y hy => h y (by simp [hy])]
theorem cutL_mem (c : UInt8) : ∀ (l w : List UInt8), w ∈ cutL c l → w.length ≤ l.length
  | [], w, h => by simp [cutL] at h; simp [h]
  | x :: l, w, h => by
    have ih := cutL_mem c l
    unfold cutL at h
    split at h
    · rcases List.mem_cons.1 h with rfl | h
      · simp
      · have := ih w h; simp; omega
    · split at h
      · simp at h; subst h; simp
      · rename_i w0 ws he
        rcases List.mem_cons.1 h with rfl | h
        · have := ih w0 (by rw [he]; simp); simp; omega
        · have := ih w (by rw [he]; simp [h]); simp; omega
theorem cutL_len (c : UInt8) : ∀ l : List UInt8, (cutL c l).length ≤ l.length + 1
  | [] => by simp [cutL]
  | x :: l => by
    have ih := cutL_len c l
    unfold cutL
    split
    · simp; omega
    · split
      · simp
      · rename_i w0 ws he; rw [he] at ih; simp at ih ⊢; omega
def cutW (c : UInt8) (t : List UInt8) : List ByteArray := (cutL c t).map bs
def CutS (c : UInt8) (t : List UInt8) (i f : Nat) (ys : List ByteArray) : Prop :=
  (i ≤ t.length → (∀ x ∈ (t.drop f).take (i - f), x ≠ c) ∧ ys ++ (cutL c (t.drop f)).map bs = cutW c t) ∧ (t.length < i → ys = cutW c t)
theorem CutS.fin {c : UInt8} {t : List UInt8} {i f : Nat} {ys : List ByteArray} (h : CutS c t i f ys) (hf : f ≤ i) (hi : i = t.length) : CutS c t (i + 1) (i + 1) (ys ++ [bs ((t.drop f).take (i - f))]) := by
  subst hi
  obtain ⟨h1, h2⟩ := h.1 (Nat.le_refl _)
  have ht : (t.drop f).take (t.length - f) = t.drop f := List.take_of_length_le (by rw [List.length_drop]; exact Nat.le_refl _)
  rw [ht] at h1 ⊢
  refine ⟨fun h => by omega, fun _ => ?_⟩
  rw [cutL_one c _ h1] at h2
  exact h2
theorem CutS.hit {c : UInt8} {t : List UInt8} {i f : Nat} {ys : List ByteArray} (h : CutS c t i f ys) (hf : f ≤ i) (hi : i < t.length) (hc : t.getD i 0 = c) : CutS c t (i + 1) (i + 1) (ys ++ [bs ((t.drop f).take (i - f))]) := by
  obtain ⟨h1, h2⟩ := h.1 (by omega)
  refine ⟨fun _ => ⟨fun x hx => by simp at hx, ?_⟩, fun h => by omega⟩
  have hs : t.drop f = (t.drop f).take (i - f) ++ c :: t.drop (i + 1) := by
    conv => lhs; rw [← List.take_append_drop (i - f) (t.drop f)]
    congr 1
    rw [List.drop_drop, show f + (i - f) = i by omega, List.drop_eq_getElem_cons hi]
    rw [← hc]
    simp [List.getD, List.getElem?_eq_getElem hi]
  rw [hs, cutL_app c _ _ h1] at h2
  rw [← h2]
  simp
theorem CutS.miss {c : UInt8} {t : List UInt8} {i f : Nat} {ys : List ByteArray} (h : CutS c t i f ys) (hf : f ≤ i) (hi : i < t.length) (hc : t.getD i 0 ≠ c) : CutS c t (i + 1) f ys := by
  obtain ⟨h1, h2⟩ := h.1 (by omega)
  refine ⟨fun _ => ⟨fun x hx => ?_, h2⟩, fun h => by omega⟩
  rw [show i + 1 - f = (i - f) + 1 by omega] at hx
  have hlt : i - f < (t.drop f).length := by rw [List.length_drop]; omega
  rw [← take_next _ _ hlt] at hx
  rcases List.mem_append.1 hx with hx | hx
  · exact h1 x hx
  · rw [List.mem_singleton] at hx
    subst hx
    rw [List.getElem_drop]
    simp only [show f + (i - f) = i by omega]
    simpa [List.getD, List.getElem?_eq_getElem hi] using hc
theorem u8_eq (a b : UInt8) : (((a.toNat : Nat) : Int) == ((b.toNat : Nat) : Int)) = decide (a = b) := by
  by_cases h : a = b
  · subst h; simp
  · have : a.toNat ≠ b.toNat := fun e => h (UInt8.toNat_inj.1 e)
    simp [h]
    omega
theorem slV_bs2 {P : Program} {H : AH} {tt : TypeId} (h : P.underlying tt = some .string) (l : List UInt8) (i j : Nat) (hij : i ≤ j) (hj : j ≤ l.length) : slV P H tt (.string (bs l)) (some (.int .i64 (i : Int))) (some (.int .i64 (j : Int))) none = some (.string (bs ((l.drop i).take (j - i)))) := by
  unfold slV
  dsimp only
  rw [strSl2 _ l _ _ _ _ h, if_pos ⟨by omega, by omega, by omega⟩, Int.toNat_natCast, Int.toNat_natCast]
theorem spec_l2Cut (t : List UInt8) (c : UInt8) (cn : Int) (hcn : cn = ((c.toNat : Nat) : Int)) (hn : t.length ≤ 1048576) : PCalls Tryz.prog 57 [.string (bs t), .int .u8 cn] (islE strE (cutW c t)) := by
  subst hcn
  refine PCalls.of ?_; refine ACalls.enter (n := 36) (rs := [.tmp 4]) Tryz.func57 rfl rfl rfl (by kernel_rfl) (by kernel_rfl) (by kernel_rfl) (Nat.le_of_ble_eq_true rfl) ?_
  repeat' (first | (refine KT.run _ ?_) | (refine AWp.seqH fun KC => ?_) | (refine AWp.block ?_) | (refine AWp.region ?_) | (simp only [bse, wk, tys, storeH_ptr, Nat.reduceEqDiff, ↓reduceIte, reduceCtorEq, Nat.reduceAdd, Nat.reduceLeDiff, Int.reduceBEq, Int.reduceLT, Int.reduceLE, Int.reduceEq, ne_eq, not_false_eq_true, Nat.reduceMul, Int.reduceToNat, Int.toNat_zero, *]))
  refine AWp.loopH [9, 10, 11, 12, 15, 16, 17, 18, 19, 20, 21, 22, 23, 24, 25, 26, 27, 28, 29, 30, 31, 32, 5, 33, 34, 6, 13, 14, 7] (fun m e' H' => ∃ (i f ver : Nat) (ys : List ByteArray) (G : AH), i ≤ t.length + 1 ∧ m = t.length + 1 - i ∧ f ≤ i ∧ ys.length ≤ i ∧ e' 7 = .int .i64 i ∧ e' 6 = .int .i64 f ∧ e' 5 = .slice (some ⟨0, 0, none⟩) ys.length ver ∧ H' = ⟨9, 1, strE.flat ys, ver, true⟩ :: G ∧ Hid (CutS c t i f ys)) (t.length + 1) ⟨0, 0, 0, [], [], by omega, by omega, by omega, by simp, rfl, rfl, rfl, rfl, ⟨fun _ => ⟨fun x hx => by simp at hx, rfl⟩, fun h => by omega⟩⟩ ?_
  rintro m e' H' hA ⟨i, f, ver, ys, G, hi, rfl, hf, hy, e7, e6, e5, rfl, hF⟩ hJ
  have a0 := hA 0 rfl; have a1 := hA 1 rfl; have a4 := hA 4 rfl; try simp only [bse, wk, tys, storeH_ptr, Nat.reduceEqDiff, ↓reduceIte, reduceCtorEq, Nat.reduceAdd, Nat.reduceLeDiff, Int.reduceBEq, Int.reduceLT, Int.reduceLE, Int.reduceEq, ne_eq, not_false_eq_true, Nat.reduceMul] at a0 a1 a4; clear hA
  by_cases hle : i ≤ t.length
  · have hle' : (i : Int) ≤ (t.length : Int) := by omega
    have hw := wr_succ (k := i) (by omega)
    have hfi : (f : Int) ≤ (i : Int) := by omega
    have h0f : (0 : Int) ≤ (f : Int) := by omega
    have hap := fun y : ByteArray => appendH_one (P := Tryz.prog) (B := 0) (E := strE) (H0 := ⟨9, 1, strE.flat ys, ver, true⟩ :: G) (ys := ys) y elZ24 elZ24 zOk24 (r := 0) rfl (Nat.zero_le _) (by omega) (by omega)
    simp only [List.cons_append, List.length_cons, List.set_cons_succ, List.set_cons_zero, strE_sz, strE_val, cells_str] at hap
    have hsl := fun H : AH => slV_bs2 (P := Tryz.prog) (H := H) Tryz.underlying9 t f i hf hle
    by_cases hn : i = t.length
    · have hst : Hid _ := hF.out.fin hf hn
      clear hF
      have hn' : ((i : Int) == (t.length : Int)) = true := by simp [hn]
      have hil : (i : Int) = (t.length : Int) := by omega
      clear hn hil
      repeat' (first | (refine KT.run _ ?_) | (refine AWp.seqH fun KC => ?_) | (refine AWp.block ?_) | (refine AWp.region ?_) | (refine AWp.skip ?_) | (refine AWp.condB ?_) | (simp only [bse, wk, tys, storeH_ptr, Nat.reduceEqDiff, ↓reduceIte, reduceCtorEq, Nat.reduceAdd, Nat.reduceLeDiff, Int.reduceBEq, Int.reduceLT, Int.reduceLE, Int.reduceEq, ne_eq, not_false_eq_true, Nat.reduceMul, Int.reduceToNat, Int.toNat_zero, *]))
      exact hJ.out _ _ ⟨t.length + 1 - (i + 1), by omega, i + 1, i + 1, ver + 1, ys ++ [_], _, by omega, rfl, by omega, by simp; omega, rfl, rfl, by simp [put], rfl, hst⟩ (by repeat (first | exact Agree.refl _ _ | assumption | refine Agree.put ?_ rfl _))
    · have hlt : (i : Int) < (t.length : Int) := by omega
      have h0i : (0 : Int) ≤ (i : Int) := by omega
      have hn' : ((i : Int) == (t.length : Int)) = false := by simp; omega
      have hu := u8_eq (t.getD i 0) c
      by_cases hc : t.getD i 0 = c
      · have hst : Hid _ := hF.out.hit hf (by omega) hc
        have hu' : (((t.getD i 0).toNat : Int) == (c.toNat : Int)) = true := by rw [hu]; exact decide_eq_true hc
        clear hF hu hc hn
        repeat' (first | (refine KT.run _ ?_) | (refine AWp.seqH fun KC => ?_) | (refine AWp.block ?_) | (refine AWp.region ?_) | (refine AWp.skip ?_) | (refine AWp.condB ?_) | (simp only [bse, wk, tys, storeH_ptr, Nat.reduceEqDiff, ↓reduceIte, reduceCtorEq, Nat.reduceAdd, Nat.reduceLeDiff, Int.reduceBEq, Int.reduceLT, Int.reduceLE, Int.reduceEq, ne_eq, not_false_eq_true, Nat.reduceMul, Int.reduceToNat, Int.toNat_zero, *]))
        exact hJ.out _ _ ⟨t.length + 1 - (i + 1), by omega, i + 1, i + 1, ver + 1, ys ++ [_], _, by omega, rfl, by omega, by simp; omega, rfl, rfl, by simp [put], rfl, hst⟩ (by repeat (first | exact Agree.refl _ _ | assumption | refine Agree.put ?_ rfl _))
      · have hst : Hid _ := hF.out.miss hf (by omega) hc
        have hu' : (((t.getD i 0).toNat : Int) == (c.toNat : Int)) = false := by rw [hu]; exact decide_eq_false hc
        clear hF hu hc hn
        repeat' (first | (refine KT.run _ ?_) | (refine AWp.seqH fun KC => ?_) | (refine AWp.block ?_) | (refine AWp.region ?_) | (refine AWp.skip ?_) | (refine AWp.condB ?_) | (simp only [bse, wk, tys, storeH_ptr, Nat.reduceEqDiff, ↓reduceIte, reduceCtorEq, Nat.reduceAdd, Nat.reduceLeDiff, Int.reduceBEq, Int.reduceLT, Int.reduceLE, Int.reduceEq, ne_eq, not_false_eq_true, Nat.reduceMul, Int.reduceToNat, Int.toNat_zero, *]))
        exact hJ.out _ _ ⟨t.length + 1 - (i + 1), by omega, i + 1, f, ver, ys, _, by omega, rfl, by omega, by omega, rfl, e6, e5, rfl, hst⟩ (by repeat (first | exact Agree.refl _ _ | assumption | refine Agree.put ?_ rfl _))
  · have hle' : ¬ (i : Int) ≤ (t.length : Int) := by omega
    have hs : Hid (ys = cutW c t) := hF.out.2 (by omega)
    clear hF
    have hs2 := hs.out
    clear hs
    subst hs2
    repeat' (first | (refine KT.run _ ?_) | (refine AWp.seqH fun KC => ?_) | (refine AWp.region ?_) | (refine AWp.ret ?_) | (refine AWp.exit ?_) | (refine AWp.condB ?_) | (simp only [bse, wk, tys, storeH_ptr, Nat.reduceEqDiff, ↓reduceIte, reduceCtorEq, Nat.reduceAdd, Nat.reduceLeDiff, Int.reduceBEq, Int.reduceLT, Int.reduceLE, Int.reduceEq, ne_eq, not_false_eq_true, Nat.reduceMul, Int.reduceToNat, Int.toNat_zero, *]))
    exact Bor.sb (E := strE) rfl (fun _ => rfl) rfl
/-- The value of digits. -/
def valD (l : List UInt8) : Nat := l.foldl (fun v x => v * 10 + (x.toNat - 48)) 0
def digB (x : UInt8) : Bool := !(decide (((x.toNat : Nat) : Int) < 48)) && !(decide ((57 : Int) < ((x.toNat : Nat) : Int)))
theorem valD_step (l : List UInt8) (i : Nat) (hi : i < l.length) : valD (l.take (i + 1)) = valD (l.take i) * 10 + ((l.getD i 0).toNat - 48) := by
  unfold valD
  rw [← take_next l i hi, List.foldl_append]
  simp [List.getD, List.getElem?_eq_getElem hi]
theorem valD_lt : ∀ (l : List UInt8), (∀ x ∈ l, digB x = true) → ∀ i, i ≤ l.length → valD (l.take i) < 10 ^ i
  | l, h, 0, _ => by simp [valD]
  | l, h, i + 1, hi => by
    have ih := valD_lt l h i (by omega)
    rw [valD_step l i (by omega), Nat.pow_succ]
    have hd := h _ (List.getElem_mem (show i < l.length by omega))
    have : (l.getD i 0).toNat - 48 ≤ 9 := by
      unfold digB at hd
      simp at hd
      simp [List.getD, List.getElem?_eq_getElem (show i < l.length by omega)]
      omega
    omega
def numD (n : Nat) (l : List UInt8) : Int × Bool :=
  if decide ((l.length : Int) < 1) || decide ((n : Int) < (l.length : Int)) || (decide ((1 : Int) < (l.length : Int)) && decide (l.getD 0 0 = 48)) then (0, false)
  else if l.all digB then ((valD l : Nat), true) else (0, false)
theorem dig_wrap {x : UInt8} (h : digB x = true) : IntKind.u8.wrap (((x.toNat : Nat) : Int) - 48) = ((x.toNat - 48 : Nat) : Int) ∧ x.toNat - 48 ≤ 9 ∧ 48 ≤ x.toNat := by
  unfold digB at h
  simp at h
  refine ⟨?_, by omega, by omega⟩
  rw [show ((x.toNat : Nat) : Int) - 48 = ((x.toNat - 48 : Nat) : Int) by omega]
  unfold IntKind.wrap
  simp [IntKind.bits, IntKind.signed]
  omega
theorem dig_no {l : List UInt8} {i : Nat} (hi : i < l.length) (h : digB (l.getD i 0) = false) : l.all digB = false := by
  rw [List.all_eq_false]
  refine ⟨l[i], List.getElem_mem hi, ?_⟩
  rw [show l.getD i 0 = l[i] by simp [List.getD, List.getElem?_eq_getElem hi]] at h
  simp [h]
theorem dig_all {l : List UInt8} (h : ∀ j, j < l.length → digB (l.getD j 0) = true) : l.all digB = true := by
  rw [List.all_eq_true]
  intro x hx
  obtain ⟨j, hj, rfl⟩ := List.getElem_of_mem hx
  have := h j hj
  rwa [show l.getD j 0 = l[j] by simp [List.getD, List.getElem?_eq_getElem hj]] at this
theorem valD_lt' (l : List UInt8) (i : Nat) (hi : i ≤ l.length) (h : ∀ j, j < i → digB (l.getD j 0) = true) : valD (l.take i) < 10 ^ i := by
  have := valD_lt (l.take i) (fun x hx => by
    obtain ⟨j, hj, rfl⟩ := List.getElem_of_mem hx
    have hj' : j < i := by simp at hj; omega
    have := h j hj'
    rw [List.getElem_take]
    rwa [show l.getD j 0 = l[j]'(by omega) by simp [List.getD, List.getElem?_eq_getElem (show j < l.length by omega)]] at this) i (by simp; omega)
  rwa [List.take_take, Nat.min_self] at this
theorem spec_l2Number (l : List UInt8) (n : Nat) (hn : n ≤ 9) (hl : l.length ≤ 1048576) : PCalls Tryz.prog 58 [.string (bs l), .int .i64 n] (.tuple #[.int .i64 (numD n l).1, .bool (numD n l).2]) := by
  obtain ⟨R, hR⟩ : ∃ R : Int × Bool, R = numD n l := ⟨_, rfl⟩
  rw [← hR]
  have hRH : Hid (R = numD n l) := hR
  clear hR
  by_cases h1 : (l.length : Int) < 1
  · have : R = (0, false) := by rw [hRH.out]; unfold numD; simp only [h1, decide_true, Bool.true_or, if_true]
    subst this
    refine PCalls.val (by first | exact islE_im _ _ | exact Enc.val_im _ _ | exact Im.flat _ rfl | (repeat' (first | exact Im.nilL | refine Im.consL ?_ ?_ | exact Im.flat _ rfl | exact islE_im _ _ | exact Enc.val_im _ _ | refine Im.aggL ?_ | refine Im.tupleL ?_ | refine Im.isl ?_))) ?_; refine ACalls.enter (n := 52) (rs := [.tmp 4, .tmp 5]) Tryz.func58 rfl rfl rfl (by kernel_rfl) (by kernel_rfl) (by kernel_rfl) (Nat.le_of_ble_eq_true rfl) ?_
    repeat' (first | (refine KT.run _ ?_) | (refine AWp.seqH fun KC => ?_) | (refine AWp.region ?_) | (refine AWp.ret ?_) | (refine AWp.condB ?_) | (simp only [bse, wk, tys, storeH_ptr, Nat.reduceEqDiff, ↓reduceIte, reduceCtorEq, Nat.reduceAdd, Nat.reduceLeDiff, Int.reduceBEq, Int.reduceLT, Int.reduceLE, Int.reduceEq, ne_eq, not_false_eq_true, Nat.reduceMul, Int.reduceToNat, Int.toNat_zero, *]))
  by_cases h2 : (n : Int) < (l.length : Int)
  · have : R = (0, false) := by rw [hRH.out]; unfold numD; simp only [h2, decide_true, Bool.true_or, Bool.or_true, if_true]
    subst this
    refine PCalls.val (by first | exact islE_im _ _ | exact Enc.val_im _ _ | exact Im.flat _ rfl | (repeat' (first | exact Im.nilL | refine Im.consL ?_ ?_ | exact Im.flat _ rfl | exact islE_im _ _ | exact Enc.val_im _ _ | refine Im.aggL ?_ | refine Im.tupleL ?_ | refine Im.isl ?_))) ?_; refine ACalls.enter (n := 52) (rs := [.tmp 4, .tmp 5]) Tryz.func58 rfl rfl rfl (by kernel_rfl) (by kernel_rfl) (by kernel_rfl) (Nat.le_of_ble_eq_true rfl) ?_
    repeat' (first | (refine KT.run _ ?_) | (refine AWp.seqH fun KC => ?_) | (refine AWp.region ?_) | (refine AWp.ret ?_) | (refine AWp.condB ?_) | (simp only [bse, wk, tys, storeH_ptr, Nat.reduceEqDiff, ↓reduceIte, reduceCtorEq, Nat.reduceAdd, Nat.reduceLeDiff, Int.reduceBEq, Int.reduceLT, Int.reduceLE, Int.reduceEq, ne_eq, not_false_eq_true, Nat.reduceMul, Int.reduceToNat, Int.toNat_zero, *]))
  have hu := u8_eq (l.getD 0 0) 48
  by_cases h3 : (1 : Int) < (l.length : Int) ∧ l.getD 0 0 = 48
  · have : R = (0, false) := by rw [hRH.out]; unfold numD; simp only [h3.1, h3.2, decide_true, Bool.true_and, Bool.or_true, if_true]
    subst this
    obtain ⟨h4, h5⟩ := h3
    have hu' : (((l.getD 0 0).toNat : Int) == 48) = true := by rw [show ((48 : Int)) = (((48 : UInt8).toNat : Nat) : Int) from rfl, hu]; exact decide_eq_true h5
    have h0l : (0 : Int) < (l.length : Int) := by omega
    clear hu h5
    refine PCalls.val (by first | exact islE_im _ _ | exact Enc.val_im _ _ | exact Im.flat _ rfl | (repeat' (first | exact Im.nilL | refine Im.consL ?_ ?_ | exact Im.flat _ rfl | exact islE_im _ _ | exact Enc.val_im _ _ | refine Im.aggL ?_ | refine Im.tupleL ?_ | refine Im.isl ?_))) ?_; refine ACalls.enter (n := 52) (rs := [.tmp 4, .tmp 5]) Tryz.func58 rfl rfl rfl (by kernel_rfl) (by kernel_rfl) (by kernel_rfl) (Nat.le_of_ble_eq_true rfl) ?_
    repeat' (first | (refine KT.run _ ?_) | (refine AWp.seqH fun KC => ?_) | (refine AWp.region ?_) | (refine AWp.ret ?_) | (refine AWp.condB ?_) | (simp only [bse, wk, tys, storeH_ptr, Nat.reduceEqDiff, ↓reduceIte, reduceCtorEq, Nat.reduceAdd, Nat.reduceLeDiff, Int.reduceBEq, Int.reduceLT, Int.reduceLE, Int.reduceEq, ne_eq, not_false_eq_true, Nat.reduceMul, Int.reduceToNat, Int.toNat_zero, *]))
  have hRall : Hid (R = if l.all digB then (((valD l : Nat) : Int), true) else (0, false)) := by
    unfold Hid
    rw [hRH.out]
    unfold numD
    rw [if_neg]
    simp only [Bool.or_eq_true, Bool.and_eq_true, decide_eq_true_eq, not_or]
    exact ⟨⟨h1, h2⟩, h3⟩
  clear hRH
  have h0l : (0 : Int) < (l.length : Int) := by omega
  have hln : l.length ≤ 9 := by omega
  by_cases h4 : (1 : Int) < (l.length : Int)
  · have hz : (((l.getD 0 0).toNat : Int) == 48) = false := by
      rw [show ((48 : Int)) = (((48 : UInt8).toNat : Nat) : Int) from rfl, hu]
      exact decide_eq_false fun e => h3 ⟨h4, e⟩
    clear hu h3
    refine PCalls.val (by first | exact islE_im _ _ | exact Enc.val_im _ _ | exact Im.flat _ rfl | (repeat' (first | exact Im.nilL | refine Im.consL ?_ ?_ | exact Im.flat _ rfl | exact islE_im _ _ | exact Enc.val_im _ _ | refine Im.aggL ?_ | refine Im.tupleL ?_ | refine Im.isl ?_))) ?_; refine ACalls.enter (n := 52) (rs := [.tmp 4, .tmp 5]) Tryz.func58 rfl rfl rfl (by kernel_rfl) (by kernel_rfl) (by kernel_rfl) (Nat.le_of_ble_eq_true rfl) ?_
    repeat' (first | (refine KT.run _ ?_) | (refine AWp.seqH fun KC => ?_) | (refine AWp.block ?_) | (refine AWp.region ?_) | (refine AWp.skip ?_) | (refine AWp.condB ?_) | (simp only [bse, wk, tys, storeH_ptr, Nat.reduceEqDiff, ↓reduceIte, reduceCtorEq, Nat.reduceAdd, Nat.reduceLeDiff, Int.reduceBEq, Int.reduceLT, Int.reduceLE, Int.reduceEq, ne_eq, not_false_eq_true, Nat.reduceMul, Int.reduceToNat, Int.toNat_zero, *]))
    refine AWp.loopH [27, 28, 29, 30, 33, 34, 35, 36, 37, 38, 39, 40, 41, 42, 4, 5, 43, 44, 45, 46, 47, 48, 49, 50, 6, 31, 32, 7] (fun m e' H' => ∃ i : Nat, i ≤ l.length ∧ m = l.length - i ∧ e' 7 = .int .i64 i ∧ e' 6 = .int .i64 ((valD (l.take i) : Nat) : Int) ∧ H' = [] ∧ Hid (∀ j, j < i → digB (l.getD j 0) = true)) l.length ⟨0, by omega, by omega, rfl, rfl, rfl, fun j hj => by omega⟩ ?_
    rintro m e' H' hA ⟨i, hi, rfl, e7, e6, rfl, hF⟩ hJ
    have a0 := hA 0 rfl; try simp only [bse, wk, tys, storeH_ptr, Nat.reduceEqDiff, ↓reduceIte, reduceCtorEq, Nat.reduceAdd, Nat.reduceLeDiff, Int.reduceBEq, Int.reduceLT, Int.reduceLE, Int.reduceEq, ne_eq, not_false_eq_true, Nat.reduceMul] at a0; clear hA
    by_cases hlt : i < l.length
    · have hlt' : (i : Int) < (l.length : Int) := by omega
      have h0i : (0 : Int) ≤ (i : Int) := by omega
      have hw := wr_succ (k := i) (by omega)
      cases hd : digB (l.getD i 0) with
      | false =>
        have hRR : R = (0, false) := by rw [hRall.out, dig_no hlt hd]; rfl
        subst hRR
        by_cases hx : (((l.getD i 0).toNat : Nat) : Int) < 48
        · clear hd hRall hF
          repeat' (first | (refine KT.run _ ?_) | (refine AWp.seqH fun KC => ?_) | (refine AWp.block ?_) | (refine AWp.region ?_) | (refine AWp.ret ?_) | (refine AWp.skip ?_) | (refine AWp.condB ?_) | (simp only [bse, wk, tys, storeH_ptr, Nat.reduceEqDiff, ↓reduceIte, reduceCtorEq, Nat.reduceAdd, Nat.reduceLeDiff, Int.reduceBEq, Int.reduceLT, Int.reduceLE, Int.reduceEq, ne_eq, not_false_eq_true, Nat.reduceMul, Int.reduceToNat, Int.toNat_zero, *]))
        · have hx2 : (57 : Int) < (((l.getD i 0).toNat : Nat) : Int) := by
            unfold digB at hd
            rw [decide_eq_false hx] at hd
            simpa using hd
          clear hd hRall hF
          repeat' (first | (refine KT.run _ ?_) | (refine AWp.seqH fun KC => ?_) | (refine AWp.block ?_) | (refine AWp.region ?_) | (refine AWp.ret ?_) | (refine AWp.skip ?_) | (refine AWp.condB ?_) | (simp only [bse, wk, tys, storeH_ptr, Nat.reduceEqDiff, ↓reduceIte, reduceCtorEq, Nat.reduceAdd, Nat.reduceLeDiff, Int.reduceBEq, Int.reduceLT, Int.reduceLE, Int.reduceEq, ne_eq, not_false_eq_true, Nat.reduceMul, Int.reduceToNat, Int.toNat_zero, *]))
      | true =>
        obtain ⟨hs1, hs2, hs3⟩ := dig_wrap hd
        have hx1 : ¬ (((l.getD i 0).toNat : Nat) : Int) < 48 := by omega
        have hx2 : ¬ (57 : Int) < (((l.getD i 0).toNat : Nat) : Int) := by unfold digB at hd; simp at hd; simp; omega
        have hv := valD_lt' l i hi hF.out
        have hp : 10 ^ i ≤ 10 ^ 9 := Nat.pow_le_pow_right (by omega) (by omega)
        have hst : Hid (∀ j, j < i + 1 → digB (l.getD j 0) = true) := fun j hj => by
          by_cases e : j = i
          · rw [e]; exact hd
          · exact hF.out j (by omega)
        have hvs := valD_step l i hlt
        obtain ⟨v, hV⟩ : ∃ v, v = valD (l.take i) := ⟨_, rfl⟩
        rw [← hV] at hv hvs e6
        clear hV
        have hm : IntKind.i64.wrap ((v : Int) * 10) = ((v * 10 : Nat) : Int) := by rw [wr] <;> omega
        have hcv : IntKind.i64.wrap (((l.getD i 0).toNat - 48 : Nat) : Int) = (((l.getD i 0).toNat - 48 : Nat) : Int) := by rw [wr] <;> omega
        have ha : IntKind.i64.wrap (((v * 10 : Nat) : Int) + (((l.getD i 0).toNat - 48 : Nat) : Int)) = ((valD (l.take (i + 1)) : Nat) : Int) := by rw [hvs, wr] <;> omega
        clear hd hF hv hp hvs hs2 hs3
        repeat' (first | (refine KT.run _ ?_) | (refine AWp.seqH fun KC => ?_) | (refine AWp.block ?_) | (refine AWp.region ?_) | (refine AWp.skip ?_) | (refine AWp.condB ?_) | (simp only [bse, wk, tys, storeH_ptr, Nat.reduceEqDiff, ↓reduceIte, reduceCtorEq, Nat.reduceAdd, Nat.reduceLeDiff, Int.reduceBEq, Int.reduceLT, Int.reduceLE, Int.reduceEq, ne_eq, not_false_eq_true, Nat.reduceMul, Int.reduceToNat, Int.toNat_zero, *]))
        exact hJ.out _ _ ⟨l.length - (i + 1), by omega, i + 1, by omega, rfl, rfl, rfl, rfl, hst⟩ (by repeat (first | exact Agree.refl _ _ | assumption | refine Agree.put ?_ rfl _))
    · have hlt' : ¬ (i : Int) < (l.length : Int) := by omega
      have hRR : R = (((valD (l.take i) : Nat) : Int), true) := by
        have hil : i = l.length := by omega
        subst hil
        rw [hRall.out, dig_all hF.out, List.take_length]
        rfl
      subst hRR
      clear hRall hF
      repeat' (first | (refine KT.run _ ?_) | (refine AWp.seqH fun KC => ?_) | (refine AWp.region ?_) | (refine AWp.ret ?_) | (refine AWp.exit ?_) | (refine AWp.condB ?_) | (simp only [bse, wk, tys, storeH_ptr, Nat.reduceEqDiff, ↓reduceIte, reduceCtorEq, Nat.reduceAdd, Nat.reduceLeDiff, Int.reduceBEq, Int.reduceLT, Int.reduceLE, Int.reduceEq, ne_eq, not_false_eq_true, Nat.reduceMul, Int.reduceToNat, Int.toNat_zero, *]))
  · clear hu h3
    refine PCalls.val (by first | exact islE_im _ _ | exact Enc.val_im _ _ | exact Im.flat _ rfl | (repeat' (first | exact Im.nilL | refine Im.consL ?_ ?_ | exact Im.flat _ rfl | exact islE_im _ _ | exact Enc.val_im _ _ | refine Im.aggL ?_ | refine Im.tupleL ?_ | refine Im.isl ?_))) ?_; refine ACalls.enter (n := 52) (rs := [.tmp 4, .tmp 5]) Tryz.func58 rfl rfl rfl (by kernel_rfl) (by kernel_rfl) (by kernel_rfl) (Nat.le_of_ble_eq_true rfl) ?_
    repeat' (first | (refine KT.run _ ?_) | (refine AWp.seqH fun KC => ?_) | (refine AWp.block ?_) | (refine AWp.region ?_) | (refine AWp.skip ?_) | (refine AWp.condB ?_) | (simp only [bse, wk, tys, storeH_ptr, Nat.reduceEqDiff, ↓reduceIte, reduceCtorEq, Nat.reduceAdd, Nat.reduceLeDiff, Int.reduceBEq, Int.reduceLT, Int.reduceLE, Int.reduceEq, ne_eq, not_false_eq_true, Nat.reduceMul, Int.reduceToNat, Int.toNat_zero, *]))
    refine AWp.loopH [27, 28, 29, 30, 33, 34, 35, 36, 37, 38, 39, 40, 41, 42, 4, 5, 43, 44, 45, 46, 47, 48, 49, 50, 6, 31, 32, 7] (fun m e' H' => ∃ i : Nat, i ≤ l.length ∧ m = l.length - i ∧ e' 7 = .int .i64 i ∧ e' 6 = .int .i64 ((valD (l.take i) : Nat) : Int) ∧ H' = [] ∧ Hid (∀ j, j < i → digB (l.getD j 0) = true)) l.length ⟨0, by omega, by omega, rfl, rfl, rfl, fun j hj => by omega⟩ ?_
    rintro m e' H' hA ⟨i, hi, rfl, e7, e6, rfl, hF⟩ hJ
    have a0 := hA 0 rfl; try simp only [bse, wk, tys, storeH_ptr, Nat.reduceEqDiff, ↓reduceIte, reduceCtorEq, Nat.reduceAdd, Nat.reduceLeDiff, Int.reduceBEq, Int.reduceLT, Int.reduceLE, Int.reduceEq, ne_eq, not_false_eq_true, Nat.reduceMul] at a0; clear hA
    by_cases hlt : i < l.length
    · have hlt' : (i : Int) < (l.length : Int) := by omega
      have h0i : (0 : Int) ≤ (i : Int) := by omega
      have hw := wr_succ (k := i) (by omega)
      cases hd : digB (l.getD i 0) with
      | false =>
        have hRR : R = (0, false) := by rw [hRall.out, dig_no hlt hd]; rfl
        subst hRR
        by_cases hx : (((l.getD i 0).toNat : Nat) : Int) < 48
        · clear hd hRall hF
          repeat' (first | (refine KT.run _ ?_) | (refine AWp.seqH fun KC => ?_) | (refine AWp.block ?_) | (refine AWp.region ?_) | (refine AWp.ret ?_) | (refine AWp.skip ?_) | (refine AWp.condB ?_) | (simp only [bse, wk, tys, storeH_ptr, Nat.reduceEqDiff, ↓reduceIte, reduceCtorEq, Nat.reduceAdd, Nat.reduceLeDiff, Int.reduceBEq, Int.reduceLT, Int.reduceLE, Int.reduceEq, ne_eq, not_false_eq_true, Nat.reduceMul, Int.reduceToNat, Int.toNat_zero, *]))
        · have hx2 : (57 : Int) < (((l.getD i 0).toNat : Nat) : Int) := by
            unfold digB at hd
            rw [decide_eq_false hx] at hd
            simpa using hd
          clear hd hRall hF
          repeat' (first | (refine KT.run _ ?_) | (refine AWp.seqH fun KC => ?_) | (refine AWp.block ?_) | (refine AWp.region ?_) | (refine AWp.ret ?_) | (refine AWp.skip ?_) | (refine AWp.condB ?_) | (simp only [bse, wk, tys, storeH_ptr, Nat.reduceEqDiff, ↓reduceIte, reduceCtorEq, Nat.reduceAdd, Nat.reduceLeDiff, Int.reduceBEq, Int.reduceLT, Int.reduceLE, Int.reduceEq, ne_eq, not_false_eq_true, Nat.reduceMul, Int.reduceToNat, Int.toNat_zero, *]))
      | true =>
        obtain ⟨hs1, hs2, hs3⟩ := dig_wrap hd
        have hx1 : ¬ (((l.getD i 0).toNat : Nat) : Int) < 48 := by omega
        have hx2 : ¬ (57 : Int) < (((l.getD i 0).toNat : Nat) : Int) := by unfold digB at hd; simp at hd; simp; omega
        have hv := valD_lt' l i hi hF.out
        have hp : 10 ^ i ≤ 10 ^ 9 := Nat.pow_le_pow_right (by omega) (by omega)
        have hst : Hid (∀ j, j < i + 1 → digB (l.getD j 0) = true) := fun j hj => by
          by_cases e : j = i
          · rw [e]; exact hd
          · exact hF.out j (by omega)
        have hvs := valD_step l i hlt
        obtain ⟨v, hV⟩ : ∃ v, v = valD (l.take i) := ⟨_, rfl⟩
        rw [← hV] at hv hvs e6
        clear hV
        have hm : IntKind.i64.wrap ((v : Int) * 10) = ((v * 10 : Nat) : Int) := by rw [wr] <;> omega
        have hcv : IntKind.i64.wrap (((l.getD i 0).toNat - 48 : Nat) : Int) = (((l.getD i 0).toNat - 48 : Nat) : Int) := by rw [wr] <;> omega
        have ha : IntKind.i64.wrap (((v * 10 : Nat) : Int) + (((l.getD i 0).toNat - 48 : Nat) : Int)) = ((valD (l.take (i + 1)) : Nat) : Int) := by rw [hvs, wr] <;> omega
        clear hd hF hv hp hvs hs2 hs3
        repeat' (first | (refine KT.run _ ?_) | (refine AWp.seqH fun KC => ?_) | (refine AWp.block ?_) | (refine AWp.region ?_) | (refine AWp.skip ?_) | (refine AWp.condB ?_) | (simp only [bse, wk, tys, storeH_ptr, Nat.reduceEqDiff, ↓reduceIte, reduceCtorEq, Nat.reduceAdd, Nat.reduceLeDiff, Int.reduceBEq, Int.reduceLT, Int.reduceLE, Int.reduceEq, ne_eq, not_false_eq_true, Nat.reduceMul, Int.reduceToNat, Int.toNat_zero, *]))
        exact hJ.out _ _ ⟨l.length - (i + 1), by omega, i + 1, by omega, rfl, rfl, rfl, rfl, hst⟩ (by repeat (first | exact Agree.refl _ _ | assumption | refine Agree.put ?_ rfl _))
    · have hlt' : ¬ (i : Int) < (l.length : Int) := by omega
      have hRR : R = (((valD (l.take i) : Nat) : Int), true) := by
        have hil : i = l.length := by omega
        subst hil
        rw [hRall.out, dig_all hF.out, List.take_length]
        rfl
      subst hRR
      clear hRall hF
      repeat' (first | (refine KT.run _ ?_) | (refine AWp.seqH fun KC => ?_) | (refine AWp.region ?_) | (refine AWp.ret ?_) | (refine AWp.exit ?_) | (refine AWp.condB ?_) | (simp only [bse, wk, tys, storeH_ptr, Nat.reduceEqDiff, ↓reduceIte, reduceCtorEq, Nat.reduceAdd, Nat.reduceLeDiff, Int.reduceBEq, Int.reduceLT, Int.reduceLE, Int.reduceEq, ne_eq, not_false_eq_true, Nat.reduceMul, Int.reduceToNat, Int.toNat_zero, *]))
end Go.BM
/- Votes and voters: what is wrong with them. -/
set_option linter.unusedVariables false
set_option linter.unusedSimpArgs false
set_option maxRecDepth 100000
set_option maxHeartbeats 4000000
namespace Go.BM
open Go.Proofs Go.RowKit
attribute [local irreducible] ACalls AWp aops qops optK optP cK gateA condK mops qcallK PCalls loadV fldV idxV lenV slV storeH binS
theorem spec_l1In (a b c : Int) : PCalls Tryz.prog 48 [.int .i64 a, .int .i64 b, .int .i64 c] (.bool (inB a b c)) := by
  unfold inB
  by_cases h1 : b ≤ a
  all_goals
    refine PCalls.flat rfl ?_; refine ACalls.enter (n := 15) (rs := [.tmp 6]) Tryz.func48 rfl rfl rfl (by kernel_rfl) (by kernel_rfl) (by kernel_rfl) (Nat.le_of_ble_eq_true rfl) ?_
    repeat' (first | (refine KV.run _ ?_) | (refine KQ.run _ ?_) | (refine KT.run _ ?_) | (refine AWp.seqH fun KC => ?_) | (refine AWp.block ?_) | (refine AWp.region ?_) | (refine mops_step0 rfl rfl fun KC => ?_) | (refine mops_step1 rfl fun KC => ?_) | (refine mops_step2 rfl fun KC => ?_) | (refine AWp.ret ?_) | (refine AWp.skip ?_) | (refine AWp.exit ?_) | (refine aops_callH rfl fun kC => ?_) | (refine qops_callH rfl fun kC => ?_) | (refine AWp.condB ?_) | (simp only [bse, wk, tys, storeH_ptr, Nat.reduceEqDiff, ↓reduceIte, reduceCtorEq, Nat.reduceAdd, Nat.reduceLeDiff, Int.reduceBEq, Int.reduceLT, Int.reduceLE, Int.reduceEq, ne_eq, not_false_eq_true, Nat.reduceMul, *]) | (refine condK_bool (fun hb => ?_) (fun hb => ?_) <;> ((try simp only [Bool.not_eq_true', Bool.not_eq_false'] at hb) <;> (try (have hbe := of_decide_eq_true hb)) <;> (try (have hbe := eq_of_beq hb)))) | (refine aops_partB ?_) | (refine qops_partB ?_))
  all_goals (try simp)
theorem spec_l1Key (a : Int) : PCalls Tryz.prog 47 [.int .i64 a] (.bool (inB a 1 999)) := by
  refine PCalls.flat rfl ?_; refine ACalls.enter (n := 5) (rs := [.tmp 2]) Tryz.func47 rfl rfl rfl (by kernel_rfl) (by kernel_rfl) (by kernel_rfl) (Nat.le_of_ble_eq_true rfl) ?_
  repeat' (first | (refine ACalls.start ?_; first | (refine ACalls.ofJi (spec_l1In _ _ _) rfl ?_)) | (refine qcall_start ?_; first | (refine qcallFi (spec_l1In _ _ _) rfl ?_ ?_; (focus ((first | exact rfl | (simp [pureV, flatV]; done)))))) | (refine KV.run _ ?_) | (refine KQ.run _ ?_) | (refine KT.run _ ?_) | (refine AWp.seqH fun KC => ?_) | (refine AWp.block ?_) | (refine AWp.region ?_) | (refine mops_step0 rfl rfl fun KC => ?_) | (refine mops_step1 rfl fun KC => ?_) | (refine mops_step2 rfl fun KC => ?_) | (refine AWp.ret ?_) | (refine AWp.skip ?_) | (refine AWp.exit ?_) | (refine aops_callH rfl fun kC => ?_) | (refine qops_callH rfl fun kC => ?_) | (refine AWp.condB ?_) | (simp only [bse, wk, tys, storeH_ptr, Nat.reduceEqDiff, ↓reduceIte, reduceCtorEq, Nat.reduceAdd, Nat.reduceLeDiff, Int.reduceBEq, Int.reduceLT, Int.reduceLE, Int.reduceEq, ne_eq, not_false_eq_true, Nat.reduceMul, *]) | (refine condK_bool (fun hb => ?_) (fun hb => ?_) <;> ((try simp only [Bool.not_eq_true', Bool.not_eq_false'] at hb) <;> (try (have hbe := of_decide_eq_true hb)) <;> (try (have hbe := eq_of_beq hb)))) | (refine aops_partB ?_) | (refine qops_partB ?_))
end Go.BM
/- A block read out of a text: the reference. -/
set_option linter.unusedVariables false
set_option linter.unusedSimpArgs false
set_option maxRecDepth 100000
set_option maxHeartbeats 4000000
namespace Go.BM
open Go.Proofs Go.RowKit
attribute [local irreducible] ACalls AWp aops qops optK optP cK gateA condK mops qcallK PCalls loadV fldV idxV lenV slV storeH binS
theorem all_step {α : Type} (q : α → Bool) (xs : List α) (k : Nat) (hk : k < xs.length) : (xs.take (k + 1)).all q = ((xs.take k).all q && q xs[k]) := by
  rw [← take_next xs k hk, List.all_append]
  simp
end Go.BM
