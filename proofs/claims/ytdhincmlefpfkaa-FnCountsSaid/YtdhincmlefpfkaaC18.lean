/- From a row's reading to a walk over lists, and back. -/
import Derived.Test.YtdhincmlefpfkaaC17
set_option linter.unusedVariables false
namespace Go.BM
open Go.RowKit Go.ChangeShapes

def AbV (P : Program) (n : Nat) (t : TypeId) (v : Value) : Prop :=
  match P.underlying t with
  | some (.struct _) => ∃ cs : List Value, v = .agg cs.toArray ∧ Ab P n t cs
  | _ => Ab P n t [v]

def AbVs (P : Program) (n : Nat) : List TypeId → List Value → Prop
  | [], [] => True
  | t :: ts, v :: vs => AbV P n t v ∧ AbVs P n ts vs
  | _, _ => False

theorem AbV.str {P : Program} {n : Nat} {t : TypeId} {v : Value} {fs : Array Field} (hu : P.underlying t = some (.struct fs)) (h : AbV P n t v) : ∃ cs : List Value, v = .agg cs.toArray ∧ Ab P n t cs := by
  unfold AbV at h
  rw [hu] at h
  exact h
theorem AbV.one {P : Program} {n : Nat} {t : TypeId} {v : Value} {d : TypeDesc} (hu : P.underlying t = some d) (hd : ∀ fs, d ≠ .struct fs) (h : AbV P n t v) : Ab P n t [v] := by
  unfold AbV at h
  rw [hu] at h
  split at h
  · rename_i fs e; cases e; exact absurd rfl (hd fs)
  · exact h
theorem Ab.str {P : Program} {n : Nat} {t : TypeId} {cs : List Value} {fs : Array Field} (hu : P.underlying t = some (.struct fs)) (h : Ab P (n + 1) t cs) : AbL (fun u c => Ab P n u c) fs.toList cs := by
  unfold Ab at h
  rw [hu] at h
  exact h
theorem Ab.int {P : Program} {n : Nat} {t : TypeId} {cs : List Value} {k : IntKind} (hu : P.underlying t = some (.int k)) (h : Ab P (n + 1) t cs) : ∃ i, cs = [.int k i] ∧ (Lit.int k i).wf = true := by
  unfold Ab at h
  rw [hu] at h
  exact h
theorem Ab.bool {P : Program} {n : Nat} {t : TypeId} {cs : List Value} (hu : P.underlying t = some .bool) (h : Ab P (n + 1) t cs) : ∃ i, cs = [.bool i] := by
  unfold Ab at h
  rw [hu] at h
  exact h
theorem Ab.string {P : Program} {n : Nat} {t : TypeId} {cs : List Value} (hu : P.underlying t = some .string) (h : Ab P (n + 1) t cs) : ∃ s, cs = [.string s] ∧ s.size ≤ maxLen := by
  unfold Ab at h
  rw [hu] at h
  exact h
/-- A slice's reading, as a list of things. -/
theorem Ab.slE {α : Type} {E : Enc α} {Q : α → Prop} {P : Program} {n : Nat} {t e : TypeId} {cs : List Value} (hu : P.underlying t = some (.slice e)) (hel : ∀ x, Ab P n e x → ∃ y, x = cellsV (E.val y) ∧ Q y) (h : Ab P (n + 1) t cs) :
    ∃ ys : List α, cs = [islE E ys] ∧ ys.length ≤ maxLen ∧ ∀ y ∈ ys, Q y := by
  unfold Ab at h
  rw [hu] at h
  obtain ⟨xs, h1, h2, h3⟩ := h
  have hys : ∀ xs : List (List Value), (∀ x ∈ xs, ∃ y, x = cellsV (E.val y) ∧ Q y) → ∃ ys : List α, ys.length = xs.length ∧ xs.flatten = E.flat ys ∧ ∀ y ∈ ys, Q y := by
    intro xs
    induction xs with
    | nil => exact fun _ => ⟨[], rfl, rfl, fun y hy => by simp at hy⟩
    | cons x xs ih =>
      intro hx
      obtain ⟨y, rfl, hq⟩ := hx x (by simp)
      obtain ⟨ys, l1, l2, l3⟩ := ih fun z hz => hx z (by simp [hz])
      refine ⟨y :: ys, by simp [l1], by rw [List.flatten_cons, l2]; rfl, fun z hz => ?_⟩
      rcases List.mem_cons.1 hz with rfl | hz
      · exact hq
      · exact l3 z hz
  obtain ⟨ys, l1, l2, l3⟩ := hys xs fun x hx => hel x (h3 x hx).2
  exact ⟨ys, by rw [h1, l2, ← l1]; rfl, by omega, l3⟩
theorem AbVs.uncons {P : Program} {n : Nat} {t : TypeId} {ts : List TypeId} {vs : List Value} (h : AbVs P n (t :: ts) vs) : ∃ v vs', vs = v :: vs' ∧ AbV P n t v ∧ AbVs P n ts vs' := by
  cases vs with
  | nil => exact h.elim
  | cons v vs' => exact ⟨v, vs', rfl, h.1, h.2⟩
theorem AbVs.done {P : Program} {n : Nat} {vs : List Value} (h : AbVs P n [] vs) : vs = [] := by
  cases vs with
  | nil => rfl
  | cons v vs' => exact h.elim

section
variable {H : Type} {enc : TypeId × Value → H} {P : Program} {W : World}

theorem open_one {n : Nat} {t : TypeId} {v : Value} {d : DataW H} {p : List MemPlace} {base : Nat} (hp : plainT P n t = true) (hval : Value.okWide P W .any base t v) (h : DataW.Trod enc P W 0 (fun _ => true) true t v d p) :
    ∃ a : Value, VR (allM W) [] v a ∧ AbV P n t a := by
  obtain ⟨m, hm⟩ := h
  obtain ⟨as, h3, h4, h5⟩ := opens_all m n t _ _ hm hp
  by_cases hs : ∃ fs, P.underlying t = some (.struct fs)
  · obtain ⟨fs, hs⟩ := hs
    have hv : ∃ cs, v = .agg cs := by
      unfold Value.okWide at hval
      rw [hs] at hval
      obtain ⟨cs, rfl, _⟩ := hval
      exact ⟨cs, rfl⟩
    obtain ⟨cs, rfl⟩ := hv
    refine ⟨.agg as.toArray, ?_, by unfold AbV; rw [hs]; exact ⟨as, rfl, h5⟩⟩
    have := h3.toAgg
    simpa [Value.cells] using this
  · have hcell : v.cells.toList = [v] := by
      cases v <;> try rfl
      rename_i cs
      exfalso
      unfold Value.okWide at hval
      cases n with
      | zero => simp [plainT] at hp
      | succ n =>
        unfold plainT at hp
        cases hu : P.underlying t with
        | none => rw [hu] at hp; cases hp
        | some desc =>
          rw [hu] at hp hval
          cases desc <;> first | (cases hp; done) | (simp [Cell.okWide, Cell.ok, hu] at hval; done) | exact hs ⟨_, hu⟩
    rw [hcell] at h3
    have hl : as.length = 1 := h3.1.symm
    match as, hl with
    | [a], _ =>
      refine ⟨a, ?_, ?_⟩
      · obtain ⟨x, hx, hr⟩ := h3.2 0 a rfl
        simp at hx
        subst hx
        exact hr
      · unfold AbV
        split
        · rename_i fs e; exact absurd ⟨fs, e⟩ hs
        · exact h5

theorem open_args {n : Nat} {base : Nat} : ∀ (ts : List TypeId) (vs : List Value) (ds : List (DataW H)) (p : List MemPlace), DataW.TrodAll enc P W 0 (fun _ => true) true ts vs ds p → (∀ (j : Nat) t v, ts[j]? = some t → vs[j]? = some v → Value.okWide P W .any base t v) →
    ts.all (plainT P n) = true → ∃ as : List Value, VRL (allM W) [] vs as ∧ AbVs P n ts as
  | [], vs, ds, p, h, _, _ => by
    obtain ⟨rfl, rfl, rfl⟩ := trodAll_nil h
    exact ⟨[], ⟨rfl, fun j u hu => by simp at hu⟩, trivial⟩
  | t :: ts, vs, ds, p, h, hval, hp => by
    obtain ⟨v, vs', d, ds', p1, q1, rfl, rfl, rfl, h1, h2⟩ := trodAll_cons h
    simp only [List.all_cons, Bool.and_eq_true] at hp
    obtain ⟨a, v1, b1⟩ := open_one hp.1 (hval 0 t v rfl rfl) h1
    obtain ⟨as, v2, b2⟩ := open_args ts vs' ds' q1 h2 (fun j t' v' ht hv => hval (j + 1) t' v' (by simpa using ht) (by simpa using hv)) hp.2
    refine ⟨a :: as, ⟨by simp [v2.1], fun j u hu => ?_⟩, b1, b2⟩
    cases j with
    | zero => simp at hu; subst hu; exact ⟨v, rfl, v1⟩
    | succ j => simp at hu; obtain ⟨x, hx, hr⟩ := v2.2 j u hu; exact ⟨x, by simpa using hx, hr⟩

/-- THE RUN: a contract over values that are only read, at a real world. -/
theorem PCalls.run {f : FuncId} {args : Array Value} {as : List Value} (h : PCalls P f as (.bool true)) (hv : VRL (allM W) [] args.toList as) :
    Calls P f args W fun e W' => e = .returned (.bool true) ∧ Below W.heap.size W W' :=
  (h.2 (allM W) W args (allM_sim W) (Nat.le_refl _) hv).mono fun e W' ⟨v, he, σ', H', d, F, S, V, hd⟩ => by
    have := (bor_vr S hd v V).bool
    subst this
    exact ⟨he, F.below0⟩

theorem below_trodAll (hl : laidOutB P = true) {W' : World} (hb : Below W.heap.size W W') : ∀ {ts : List TypeId} {vs : List Value} {ds : List (DataW H)} {ps : List MemPlace}, (ts.all fun t => P.readableRec t && decide (t < P.types.size)) = true →
    DataW.TrodAll enc P W 0 (fun _ => true) true ts vs ds ps → DataW.TrodAll enc P W' 0 (fun b => decide (b < W.heap.size)) true ts vs ds ps
  | [], _, _, _, _, h => by
    obtain ⟨rfl, rfl, rfl⟩ := trodAll_nil h
    exact trodAll_mk0
  | t :: ts, vs, ds, ps, hr, h => by
    have hlt := h.lt
    obtain ⟨v, vs', d, ds', p1, q1, rfl, rfl, rfl, h1, h2⟩ := trodAll_cons h
    simp only [List.all_cons, Bool.and_eq_true, decide_eq_true_eq] at hr
    exact trodAll_cons_mk (Below.trod hl hr.1.1 hr.1.2 h1 hb fun x hx => hlt x (by simp [hx])) (below_trodAll hl hb hr.2 h2)
end
end Go.BM
