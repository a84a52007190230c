/- From a row's reading to a walk over lists, and back. -/
import Derived.Test.YtgcffommhbjgdaaA17
set_option linter.unusedVariables false
namespace Go.AM
open Go.RowKit Go.ChangeShapes

def AbV (P : Program) (A : AH) (n : Nat) (t : TypeId) (v : Value) : Prop :=
  match P.underlying t with
  | some (.struct _) => ∃ cs : List Value, v = .agg cs.toArray ∧ Ab P A n t cs
  | _ => Ab P A n t [v]

theorem AbV.more {P : Program} {A : AH} (N : AH) {n : Nat} {t : TypeId} {v : Value} (h : AbV P A n t v) : AbV P (A ++ N) n t v := by
  unfold AbV at h ⊢
  split at h
  · obtain ⟨cs, h1, h2⟩ := h; exact ⟨cs, h1, h2.more N⟩
  · exact h.more N

def AbVs (P : Program) (A : AH) (n : Nat) : List TypeId → List Value → Prop
  | [], [] => True
  | t :: ts, v :: vs => AbV P A n t v ∧ AbVs P A n ts vs
  | _, _ => False

theorem AbV.str {P : Program} {A : AH} {n : Nat} {t : TypeId} {v : Value} {fs : Array Field} (hu : P.underlying t = some (.struct fs)) (h : AbV P A (n + 1) t v) : ∃ cs : List Value, v = .agg cs.toArray ∧ AbL (fun u c => Ab P A n u c) fs.toList cs := by
  unfold AbV at h
  rw [hu] at h
  obtain ⟨cs, h1, h2⟩ := h
  unfold Ab at h2
  rw [hu] at h2
  exact ⟨cs, h1, h2⟩
theorem AbV.one {P : Program} {A : AH} {n : Nat} {t : TypeId} {v : Value} {d : TypeDesc} (hu : P.underlying t = some d) (hd : ∀ fs, d ≠ .struct fs) (h : AbV P A n t v) : Ab P A n t [v] := by
  unfold AbV at h
  rw [hu] at h
  split at h
  · rename_i fs e; cases e; exact absurd rfl (hd fs)
  · exact h
theorem Ab.str {P : Program} {A : AH} {n : Nat} {t : TypeId} {cs : List Value} {fs : Array Field} (hu : P.underlying t = some (.struct fs)) (h : Ab P A (n + 1) t cs) : AbL (fun u c => Ab P A n u c) fs.toList cs := by
  unfold Ab at h
  rw [hu] at h
  exact h
theorem Ab.int {P : Program} {A : AH} {n : Nat} {t : TypeId} {cs : List Value} {k : IntKind} (hu : P.underlying t = some (.int k)) (h : Ab P A (n + 1) t cs) : ∃ i, cs = [.int k i] ∧ (Lit.int k i).wf = true := by
  unfold Ab at h
  rw [hu] at h
  exact h
theorem Ab.string {P : Program} {A : AH} {n : Nat} {t : TypeId} {cs : List Value} (hu : P.underlying t = some .string) (h : Ab P A (n + 1) t cs) : ∃ s, cs = [.string s] ∧ s.size ≤ maxLen := by
  unfold Ab at h
  rw [hu] at h
  exact h
theorem Ab.slE {α : Type} {E : Enc α} {P : Program} {A : AH} {n : Nat} {t e : TypeId} {cs : List Value} (hu : P.underlying t = some (.slice e)) (hc : P.cellsOf e = E.sz) (hel : ∀ x, Ab P A n e x → ∃ y, x = cellsV (E.val y)) (h : Ab P A (n + 1) t cs) :
    ∃ v xs, cs = [v] ∧ SlE E A v xs ∧ cellsV v = [v] ∧ v.oneCell' = true ∧ xs.length ≤ maxLen := by
  unfold Ab at h
  rw [hu] at h
  rcases h with h | ⟨r, xs, blk, h1, h2, h3, h4, h5, h6, h7⟩
  · exact ⟨_, [], h, .inl ⟨rfl, rfl⟩, rfl, rfl, Nat.zero_le _⟩
  · have hys : ∀ xs : List (List Value), (∀ x ∈ xs, ∃ y, x = cellsV (E.val y)) → ∃ ys : List α, ys.length = xs.length ∧ xs.flatten = E.flat ys := by
      intro xs
      induction xs with
      | nil => exact fun _ => ⟨[], rfl, rfl⟩
      | cons x xs ih =>
        intro hx
        obtain ⟨y, rfl⟩ := hx x (by simp)
        obtain ⟨ys, l1, l2⟩ := ih fun z hz => hx z (by simp [hz])
        exact ⟨y :: ys, by simp [l1], by rw [List.flatten_cons, l2]; rfl⟩
    obtain ⟨ys, l1, l2⟩ := hys xs fun x hx => hel x (h7 x hx).2
    refine ⟨_, ys, h1, .inr ⟨r, 0, 0, blk, by rw [l1], h2, h3, by rw [h4, hc], ?_, ?_⟩, rfl, rfl, by omega⟩
    · rw [h5, l2, E.flat_length]; omega
    · rw [h5, l2, List.drop_zero, List.take_of_length_le (by rw [E.flat_length]; exact Nat.le_refl _)]

theorem AbVs.uncons {P : Program} {A : AH} {n : Nat} {t : TypeId} {ts : List TypeId} {vs : List Value} (h : AbVs P A n (t :: ts) vs) : ∃ v vs', vs = v :: vs' ∧ AbV P A n t v ∧ AbVs P A n ts vs' := by
  cases vs with
  | nil => exact h.elim
  | cons v vs' => exact ⟨v, vs', rfl, h.1, h.2⟩
theorem AbVs.done {P : Program} {A : AH} {n : Nat} {vs : List Value} (h : AbVs P A n [] vs) : vs = [] := by
  cases vs with
  | nil => rfl
  | cons v vs' => exact h.elim

section
variable {H : Type} {enc : TypeId × Value → H} {P : Program} {W : World}

theorem open_one {n : Nat} {t : TypeId} {v : Value} {d : DataW H} {p : List MemPlace} {base : Nat} (hp : plainT P n t = true) (hval : Value.okWide P W .any base t v) (h : DataW.Trod enc P W 0 (fun _ => true) true t v d p) (σ : Nat → Loc) (A : AH) (hA : RO σ A W) :
    ∃ (N : AH) (σ' : Nat → Loc) (a : Value), (∀ r, r < A.length → σ' r = σ r) ∧ RO σ' (A ++ N) W ∧ VR σ' (A ++ N) v a ∧ AbV P (A ++ N) n t a := by
  obtain ⟨m, hm⟩ := h
  obtain ⟨N, σ', as, h1, h2, h3, h4, h5⟩ := opens_all m n t _ _ hm hp σ A hA
  by_cases hs : ∃ fs, P.underlying t = some (.struct fs)
  · obtain ⟨fs, hs⟩ := hs
    have hv : ∃ cs, v = .agg cs := by
      unfold Value.okWide at hval
      rw [hs] at hval
      obtain ⟨cs, rfl, _⟩ := hval
      exact ⟨cs, rfl⟩
    obtain ⟨cs, rfl⟩ := hv
    refine ⟨N, σ', .agg as.toArray, h1, h2, ?_, by unfold AbV; rw [hs]; exact ⟨as, rfl, h5⟩⟩
    have := h3.toAgg
    simpa [Value.cells] using this
  · have hcell : v.cells.toList = [v] := by
      cases v <;> try rfl
      rename_i cs
      exfalso
      unfold Value.okWide at hval
      cases n with
      | zero => simp [plainT] at hp
      | succ n =>
        unfold plainT at hp
        cases hu : P.underlying t with
        | none => rw [hu] at hp; cases hp
        | some desc =>
          rw [hu] at hp hval
          cases desc <;> first | (cases hp; done) | (simp [Cell.okWide, Cell.ok, hu] at hval; done) | exact hs ⟨_, hu⟩
    rw [hcell] at h3
    have hl : as.length = 1 := h3.1.symm
    match as, hl with
    | [a], _ =>
      refine ⟨N, σ', a, h1, h2, ?_, ?_⟩
      · obtain ⟨x, hx, hr⟩ := h3.2 0 a rfl
        simp at hx
        subst hx
        exact hr
      · unfold AbV
        split
        · rename_i fs e; exact absurd ⟨fs, e⟩ hs
        · exact h5

theorem open_args {n : Nat} {base : Nat} : ∀ (ts : List TypeId) (vs : List Value) (ds : List (DataW H)) (p : List MemPlace), DataW.TrodAll enc P W 0 (fun _ => true) true ts vs ds p → (∀ (j : Nat) t v, ts[j]? = some t → vs[j]? = some v → Value.okWide P W .any base t v) →
    ts.all (plainT P n) = true → ∀ (σ : Nat → Loc) (A : AH), RO σ A W → ∃ (N : AH) (σ' : Nat → Loc) (as : List Value), (∀ r, r < A.length → σ' r = σ r) ∧ RO σ' (A ++ N) W ∧ VRL σ' (A ++ N) vs as ∧ AbVs P (A ++ N) n ts as
  | [], vs, ds, p, h, _, _, σ, A, hA => by
    obtain ⟨rfl, rfl, rfl⟩ := trodAll_nil h
    exact ⟨[], σ, [], fun _ _ => rfl, by rw [List.append_nil]; exact hA, ⟨rfl, fun j u hu => by simp at hu⟩, trivial⟩
  | t :: ts, vs, ds, p, h, hval, hp, σ, A, hA => by
    obtain ⟨v, vs', d, ds', p1, q1, rfl, rfl, rfl, h1, h2⟩ := trodAll_cons h
    simp only [List.all_cons, Bool.and_eq_true] at hp
    obtain ⟨N1, σ1, a, s1, r1, v1, b1⟩ := open_one hp.1 (hval 0 t v rfl rfl) h1 σ A hA
    obtain ⟨N2, σ2, as, s2, r2, v2, b2⟩ := open_args ts vs' ds' q1 h2 (fun j t' v' ht hv => hval (j + 1) t' v' (by simpa using ht) (by simpa using hv)) hp.2 σ1 (A ++ N1) r1
    have v1' := v1.ext (N := N2) s2
    have b1' := b1.more N2
    rw [List.append_assoc] at r2 v2 b2 v1' b1'
    refine ⟨N1 ++ N2, σ2, a :: as, fun r hr => by rw [s2 r (by simp; omega), s1 r hr], r2, ⟨by simp [v2.1], fun j u hu => ?_⟩, b1', b2⟩
    cases j with
    | zero => simp at hu; subst hu; exact ⟨v, rfl, v1'⟩
    | succ j => simp at hu; obtain ⟨x, hx, hr⟩ := v2.2 j u hu; exact ⟨x, by simpa using hx, hr⟩

/-- THE RUN: a contract over lists that are only read, at a real world. -/
theorem ACalls.run {f : FuncId} {σ : Nat → Loc} {A : AH} {args : Array Value} {as : List Value} (h : ACalls P A.length f as A fun d _ => d = .bool true) (hA : RO σ A W) (hv : VRL σ A args.toList as) :
    Calls P f args W fun e W' => e = .returned (.bool true) ∧ Below W.heap.size W W' :=
  (h.2 σ W args hA.sim (Nat.le_refl _) hv).mono fun e W' ⟨v, he, σ', H', d, F, S, V, hd⟩ => by
    subst hd
    have := V.bool
    subst this
    exact ⟨he, F.forget⟩

theorem below_trodAll (hl : laidOutB P = true) {W' : World} (hb : Below W.heap.size W W') : ∀ {ts : List TypeId} {vs : List Value} {ds : List (DataW H)} {ps : List MemPlace}, (ts.all fun t => P.readableRec t && decide (t < P.types.size)) = true →
    DataW.TrodAll enc P W 0 (fun _ => true) true ts vs ds ps → DataW.TrodAll enc P W' 0 (fun b => decide (b < W.heap.size)) true ts vs ds ps
  | [], _, _, _, _, h => by
    obtain ⟨rfl, rfl, rfl⟩ := trodAll_nil h
    exact trodAll_mk0
  | t :: ts, vs, ds, ps, hr, h => by
    have hlt := h.lt
    obtain ⟨v, vs', d, ds', p1, q1, rfl, rfl, rfl, h1, h2⟩ := trodAll_cons h
    simp only [List.all_cons, Bool.and_eq_true, decide_eq_true_eq] at hr
    exact trodAll_cons_mk (Below.trod hl hr.1.1 hr.1.2 h1 hb fun x hx => hlt x (by simp [hx])) (below_trodAll hl hb hr.2 h2)
end
end Go.AM
