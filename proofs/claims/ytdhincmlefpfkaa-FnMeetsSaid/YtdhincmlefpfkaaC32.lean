/- Quorums: two lots of as many as are needed have one in common who is not bad. -/
import Derived.Test.YtdhincmlefpfkaaC31
set_option linter.unusedVariables false
namespace Go.BM
theorem risB_lt {xs : List Int} (h : risB xs = true) : ∀ (d i : Nat) (hj : i + d + 1 < xs.length), xs[i] < xs[i + d + 1]
  | 0, i, hj => (risB_iff xs).1 h i hj
  | d + 1, i, hj => by
    have h1 := risB_lt h d i (by omega)
    have h2 := (risB_iff xs).1 h (i + d + 1) (by omega)
    have e : xs[i + (d + 1) + 1] = xs[i + d + 1 + 1] := rfl
    omega
theorem risB_ne {xs : List Int} (h : risB xs = true) {i j : Nat} (hi : i < xs.length) (hj : j < xs.length) (hne : i ≠ j) : xs.getD i 0 ≠ xs.getD j 0 := by
  have key : ∀ {i j : Nat} (hi : i < xs.length) (hj : j < xs.length), i < j → xs.getD i 0 ≠ xs.getD j 0 := fun {i j} hi hj hlt => by
    obtain ⟨d, rfl⟩ : ∃ d, j = i + d + 1 := ⟨j - i - 1, by omega⟩
    have := risB_lt h d i hj
    simp only [List.getD, List.getElem?_eq_getElem hi, List.getElem?_eq_getElem hj, Option.getD_some]
    omega
  rcases Nat.lt_or_gt_of_ne hne with h1 | h1
  · exact key hi hj h1
  · exact (key hj hi h1).symm
theorem quorum_zero {xs : List Int} {need : Int} (h : quorumFault xs need = 0) : 1 ≤ xs.length ∧ xs.length ≤ 8 ∧ 1 ≤ need ∧ need ≤ xs.length ∧ risB xs = true ∧ keysB xs = true := by
  unfold quorumFault at h
  split at h
  · cases h
  · rename_i h1
    split at h
    · cases h
    · rename_i h2
      split at h
      · cases h
      · rename_i h3
        simp only [inB, Bool.not_eq_true', Bool.not_eq_false, Bool.or_eq_true, Bool.and_eq_true, decide_eq_true_eq, not_or, Bool.and_eq_false_imp, Bool.not_eq_true, decide_eq_false_iff_not] at h1 h2 h3
        refine ⟨by omega, by omega, by omega, by omega, by simpa using h3, by simpa using h2.1⟩
theorem count_or (p q : Int → Bool) : ∀ xs : List Int, (∀ x ∈ xs, p x = true → q x = false) → xs.countP p + xs.countP q ≤ xs.countP fun x => p x || q x
  | [], _ => by simp
  | x :: l, h => by
    have ih := count_or p q l fun y hy => h y (by simp [hy])
    have hx := h x (by simp)
    simp only [List.countP_cons]
    cases hp : p x with
    | true => rw [hx hp]; simp; omega
    | false => cases hq : q x <;> simp <;> omega
theorem le_count : ∀ (S keys : List Int), S.Nodup → (∀ x ∈ S, x ∈ keys) → S.length ≤ keys.countP fun k => decide (k ∈ S)
  | [], _, _, _ => by simp
  | x :: l, keys, hn, hs => by
    obtain ⟨h1, h2⟩ := List.nodup_cons.1 hn
    have ih := le_count l keys h2 fun y hy => hs y (by simp [hy])
    have h3 := count_or (fun k => decide (k = x)) (fun k => decide (k ∈ l)) keys fun y _ hy => by simp at hy; subst hy; simpa using h1
    have h4 : 1 ≤ keys.countP fun k => decide (k = x) := List.countP_pos_iff.2 ⟨x, hs x (by simp), by simp⟩
    have h5 : (keys.countP fun k => decide (k ∈ x :: l)) = keys.countP fun k => decide (k = x) || decide (k ∈ l) := by
      congr 1; funext k; simp
    rw [h5, List.length_cons]
    omega
theorem count_both (p q r : Int → Bool) : ∀ xs : List Int, (∀ x ∈ xs, p x = true → q x = true → r x = true) → xs.countP p + xs.countP q ≤ xs.length + xs.countP r
  | [], _ => by simp
  | x :: l, h => by
    have ih := count_both p q r l fun y hy => h y (by simp [hy])
    have hx := h x (by simp)
    simp only [List.countP_cons, List.length_cons]
    cases hp : p x <;> cases hq : q x
    · simp; omega
    · simp; omega
    · simp; omega
    · rw [hx hp hq]; simp; omega
theorem meets {keys A B bad : List Int} {need : Nat} (hA : A.Nodup) (hB : B.Nodup) (sA : ∀ x ∈ A, x ∈ keys) (sB : ∀ x ∈ B, x ∈ keys) (lA : A.length = need) (lB : B.length = need)
    (h : (meetL keys bad).length + keys.length < 2 * need) : (meetL A B).any (fun x => !(bad.any fun y => y == x)) = true := by
  cases hg : (meetL A B).any (fun x => !(bad.any fun y => y == x)) with
  | true => rfl
  | false =>
    exfalso
    have hno := List.any_eq_false.1 hg
    have hc := count_both (fun k => decide (k ∈ A)) (fun k => decide (k ∈ B)) (fun k => bad.any fun y => k == y) keys fun x _ h1 h2 => by
      simp only [decide_eq_true_eq] at h1 h2
      have := hno x (List.mem_filter.2 ⟨h1, List.any_eq_true.2 ⟨x, h2, by simp⟩⟩)
      simp only [Bool.not_eq_true, Bool.not_eq_false'] at this
      obtain ⟨y, hy, e⟩ := List.any_eq_true.1 this
      exact List.any_eq_true.2 ⟨y, hy, by simp at e ⊢; exact e.symm⟩
    have h1 := le_count A keys hA sA
    have h2 := le_count B keys hB sB
    rw [lA] at h1
    rw [lB] at h2
    have h3 : (meetL keys bad).length = keys.countP fun k => bad.any fun y => k == y := by rw [List.countP_eq_length_filter]; rfl
    omega
/-- As many keys, from a place on, upward or downward. -/
def rotU (keys : List Int) (c k : Nat) : List Int := (List.range k).map fun i => keys.getD ((i + c) % keys.length) 0
def rotD (keys : List Int) (c k : Nat) : List Int := (List.range k).map fun i => keys.getD ((keys.length - 1 - i + c) % keys.length) 0
theorem rotU_step (keys : List Int) (c k : Nat) : rotU keys c (k + 1) = rotU keys c k ++ [keys.getD ((k + c) % keys.length) 0] := by simp [rotU, List.range_succ]
theorem rotD_step (keys : List Int) (c k : Nat) : rotD keys c (k + 1) = rotD keys c k ++ [keys.getD ((keys.length - 1 - k + c) % keys.length) 0] := by simp [rotD, List.range_succ]
theorem rotU_len (keys : List Int) (c k : Nat) : (rotU keys c k).length = k := by simp [rotU]
theorem rotD_len (keys : List Int) (c k : Nat) : (rotD keys c k).length = k := by simp [rotD]
theorem mod_cases {a n : Nat} (h : a < 2 * n) : a % n = if a < n then a else a - n := by
  split
  · rename_i h1; exact Nat.mod_eq_of_lt h1
  · rename_i h1
    rw [Nat.mod_eq_sub_mod (by omega)]
    exact Nat.mod_eq_of_lt (by omega)
theorem getD_mem {keys : List Int} {i : Nat} (hi : i < keys.length) : keys.getD i 0 ∈ keys := by
  simp only [List.getD, List.getElem?_eq_getElem hi, Option.getD_some]
  exact List.getElem_mem hi
theorem rot_nodup {keys : List Int} (h : risB keys = true) {k : Nat} (f : Nat → Nat) (hf : ∀ i, i < k → f i < keys.length) (hj : ∀ i j, i < k → j < k → i ≠ j → f i ≠ f j) : ((List.range k).map fun i => keys.getD (f i) 0).Nodup := by
  refine List.pairwise_map.2 ?_
  refine (List.pairwise_lt_range (n := k)).imp_of_mem fun hi hk hlt => ?_
  have h1 := List.mem_range.1 hi
  have h2 := List.mem_range.1 hk
  exact risB_ne h (hf _ h1) (hf _ h2) (hj _ _ h1 h2 (by omega))
theorem rot_meets {keys bad : List Int} {need c1 c2 : Nat} (h : risB keys = true) (hn : need ≤ keys.length) (h1 : c1 < keys.length) (h2 : c2 < keys.length) (hs : (meetL keys bad).length + keys.length < 2 * need) :
    (meetL (rotU keys c1 need) (rotD keys c2 need)).any (fun x => !(bad.any fun y => y == x)) = true := by
  have hp : 0 < keys.length := by omega
  have f1 : ∀ i, i < need → (i + c1) % keys.length < keys.length := fun i _ => Nat.mod_lt _ hp
  have f2 : ∀ i, i < need → (keys.length - 1 - i + c2) % keys.length < keys.length := fun i _ => Nat.mod_lt _ hp
  refine meets (need := need) (rot_nodup h _ f1 fun i j hi hj hne => ?_) (rot_nodup h _ f2 fun i j hi hj hne => ?_) ?_ ?_ (rotU_len _ _ _) (rotD_len _ _ _) hs
  · rw [mod_cases (by omega), mod_cases (by omega)]
    split <;> split <;> omega
  · rw [mod_cases (by omega), mod_cases (by omega)]
    split <;> split <;> omega
  · intro x hx
    obtain ⟨i, hi, rfl⟩ := List.mem_map.1 hx
    exact getD_mem (f1 i (List.mem_range.1 hi))
  · intro x hx
    obtain ⟨i, hi, rfl⟩ := List.mem_map.1 hx
    exact getD_mem (f2 i (List.mem_range.1 hi))
end Go.BM
