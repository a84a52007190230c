/- The engine: texts C34. -/
import Derived.Test.YtboephigjgncaaaGreatDoorC29
/- Trees: ways down from the first node, and where two of them part. -/
set_option linter.unusedVariables false
namespace Go.BM
section
variable {xs : List TNode} (R : Right xs)
include R
theorem Right.path_drop : ∀ (j : Nat) (a : Int) (h : j < (path xs a).length), (path xs a).drop j = path xs (path xs a)[j]
  | 0, a, h => by
    have hn : 0 ≤ ndAt xs a := by
      rcases ltge (ndAt xs a) 0 with h' | h'
      · rw [path_none h'] at h; simp at h
      · exact h'
    have e := R.path_some hn
    have : (path xs a)[0] = a := by
      have := List.getElem_of_eq e h
      simpa using this
    rw [List.drop_zero, this]
  | j + 1, a, h => by
    have hn : 0 ≤ ndAt xs a := by
      rcases ltge (ndAt xs a) 0 with h' | h'
      · rw [path_none h'] at h; simp at h
      · exact h'
    have e := R.path_some hn
    have hl : j < (path xs (upId xs a)).length := by rw [e] at h; simpa using h
    have ih := Right.path_drop j (upId xs a) hl
    have e2 : (path xs a)[j + 1] = (path xs (upId xs a))[j] := by
      have := List.getElem_of_eq e h
      simpa using this
    rw [e2, ← ih]
    conv => lhs; rw [e]
    simp
theorem Right.path_in (a : Int) : ∀ c ∈ path xs a, 0 ≤ ndAt xs c := fun c hc => by
  obtain ⟨j, hj, rfl⟩ := List.getElem_of_mem hc
  have h := R.path_drop j a hj
  rcases ltge (ndAt xs (path xs a)[j]) 0 with h' | h'
  · rw [path_none h'] at h
    have := congrArg List.length h
    simp at this
    omega
  · exact h'
/-- A way down, cut behind one of its nodes, is the way down to that node. -/
theorem Right.down_take (a : Int) (i : Nat) (h : i < (path xs a).reverse.length) : (path xs a).reverse.take (i + 1) = (path xs (path xs a).reverse[i]).reverse := by
  have hl : i < (path xs a).length := by simpa using h
  have hj : (path xs a).length - 1 - i < (path xs a).length := by omega
  have e : (path xs a).reverse[i] = (path xs a)[(path xs a).length - 1 - i] := by rw [List.getElem_reverse]
  rw [e, ← R.path_drop _ a hj, List.take_reverse]
  congr 2
  omega
theorem Right.down_same {a b : Int} {i j : Nat} (hi : i < (path xs a).reverse.length) (hj : j < (path xs b).reverse.length) (h : (path xs a).reverse[i] = (path xs b).reverse[j]) : i = j ∧ (path xs a).reverse.take (i + 1) = (path xs b).reverse.take (i + 1) := by
  have h1 := R.down_take a i hi
  have h2 := R.down_take b j hj
  rw [h, ← h2] at h1
  have hl := congrArg List.length h1
  simp only [List.length_take] at hl
  have : i = j := by omega
  subst this
  exact ⟨rfl, h1⟩
omit R in
theorem above_mem (c b : Int) : above xs c b = true ↔ c ∈ (path xs b).reverse := by
  unfold above
  rw [List.any_eq_true, List.mem_reverse]
  constructor
  · rintro ⟨x, hx, e⟩
    rw [eq_of_beq e]
    exact hx
  · exact fun h => ⟨c, h, by simp⟩
/-- Two ways down part behind k nodes. -/
structure Parts (p q : List Int) (k : Nat) : Prop where
  lp : k ≤ p.length
  lq : k ≤ q.length
  same : ∀ j (h1 : j < p.length) (h2 : j < q.length), j < k → p[j] = q[j]
  part : k = p.length ∨ k = q.length ∨ ∃ (h1 : k < p.length) (h2 : k < q.length), p[k] ≠ q[k]
omit R in
theorem Parts.symm {p q : List Int} {k : Nat} (h : Parts p q k) : Parts q p k := ⟨h.lq, h.lp, fun j h1 h2 hj => (h.same j h2 h1 hj).symm, by
  rcases h.part with h1 | h1 | ⟨h1, h2, h3⟩
  · exact .inr (.inl h1)
  · exact .inl h1
  · exact .inr (.inr ⟨h2, h1, fun e => h3 e.symm⟩)⟩
theorem Right.parts_above {a b : Int} {k : Nat} (h : Parts (path xs a).reverse (path xs b).reverse k) (i : Nat) (hi : i < (path xs a).reverse.length) : above xs (path xs a).reverse[i] b = decide (i < k) := by
  by_cases hk : i < k
  · have hq : i < (path xs b).reverse.length := by have := h.lq; omega
    rw [(above_mem _ b).2 (by rw [h.same i hi hq hk]; exact List.getElem_mem hq), decide_eq_true hk]
  · rw [decide_eq_false hk]
    cases ha : above xs (path xs a).reverse[i] b with
    | false => rfl
    | true =>
      exfalso
      obtain ⟨j, hj, e⟩ := List.getElem_of_mem ((above_mem _ b).1 ha)
      obtain ⟨rfl, ht⟩ := R.down_same hi hj e.symm
      rcases h.part with h1 | h1 | ⟨h1, h2, h3⟩
      · omega
      · omega
      · apply h3
        have e1 : ((path xs a).reverse.take (i + 1))[k]? = ((path xs b).reverse.take (i + 1))[k]? := by rw [ht]
        rw [List.getElem?_take, List.getElem?_take, if_pos (by omega), if_pos (by omega), List.getElem?_eq_getElem h1, List.getElem?_eq_getElem h2] at e1
        exact Option.some.inj e1
theorem Right.parts_fork {a b : Int} {k : Nat} (h : Parts (path xs a).reverse (path xs b).reverse k) : forkAt (path xs a) (path xs b) = if k = 0 then 0 else (path xs a).reverse.getD (k - 1) 0 := by
  have hab := R.parts_above h
  have hp : path xs a = ((path xs a).reverse.drop k).reverse ++ ((path xs a).reverse.take k).reverse := by
    rw [← List.reverse_append, List.take_append_drop, List.reverse_reverse]
  have hno : (((path xs a).reverse.drop k).reverse.find? fun x => (path xs b).any fun y => x == y) = none := by
    rw [List.find?_eq_none]
    intro x hx
    rw [List.mem_reverse] at hx
    obtain ⟨j, hj, rfl⟩ := List.getElem_of_mem hx
    rw [List.getElem_drop]
    have := hab (k + j) (by simp at hj ⊢; omega)
    unfold above at this
    rw [this]
    simp
  unfold forkAt
  have hpf : (path xs a).find? (fun x => (path xs b).any fun y => x == y) = (((path xs a).reverse.take k).reverse.find? fun x => (path xs b).any fun y => x == y) := by
    conv => lhs; rw [hp]
    rw [List.find?_append, hno]
    rfl
  rw [hpf]
  by_cases hk : k = 0
  · subst hk
    rw [if_pos rfl]
    rfl
  · rw [if_neg hk]
    obtain ⟨m, rfl⟩ : ∃ m, k = m + 1 := ⟨k - 1, by omega⟩
    have hm : m < (path xs a).reverse.length := by have := h.lp; omega
    rw [← take_next (path xs a).reverse m hm, List.reverse_append, List.reverse_singleton, List.singleton_append, List.find?_cons]
    have := hab m hm
    unfold above at this
    rw [this, decide_eq_true (by omega)]
    simp [List.getD, List.getElem?_eq_getElem hm]
theorem Right.down_last {a : Int} (h : 0 ≤ ndAt xs a) : ∃ hl : 0 < (path xs a).reverse.length, (path xs a).reverse[(path xs a).reverse.length - 1]'(by omega) = a := by
  have e := R.path_some h
  have hl : 0 < (path xs a).reverse.length := by rw [e]; simp
  refine ⟨hl, ?_⟩
  rw [List.getElem_reverse]
  have h0 : 0 < (path xs a).length := by simpa using hl
  have e0 : (path xs a)[0] = a := by
    have := List.getElem_of_eq e h0
    simpa using this
  have : (path xs a).length - 1 - ((path xs a).reverse.length - 1) = 0 := by simp
  simp only [this]
  exact e0
theorem Right.parts_related {a b : Int} {k : Nat} (h : Parts (path xs a).reverse (path xs b).reverse k) (ha : 0 ≤ ndAt xs a) (hb : 0 ≤ ndAt xs b) : relatedT xs a b = (decide (k = (path xs a).reverse.length) || decide (k = (path xs b).reverse.length)) := by
  obtain ⟨l1, e1⟩ := R.down_last ha
  obtain ⟨l2, e2⟩ := R.down_last hb
  have h1 := R.parts_above h ((path xs a).reverse.length - 1) (by omega)
  have h2 := R.parts_above h.symm ((path xs b).reverse.length - 1) (by omega)
  rw [e1] at h1
  rw [e2] at h2
  unfold relatedT
  rw [h1, h2]
  have a1 := h.lp
  have a2 := h.lq
  congr 1 <;> (apply decide_eq_decide.2; omega)
end
end Go.BM
