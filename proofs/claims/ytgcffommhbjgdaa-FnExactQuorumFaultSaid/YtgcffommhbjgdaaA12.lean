/- Plain facts on searches in lists. -/
import Derived.Test.YtgcffommhbjgdaaA11
set_option linter.unusedVariables false
namespace Go.AM

theorem Hid_go {α β : Type} {A K : α → β → Prop} {e : α} {H : β} (h : A e H) (hk : Go.RowKit.Hid (∀ e H, A e H → K e H)) : K e H := hk.out _ _ h

theorem findI_ge {α : Type} (p : α → Bool) : ∀ xs : List α, -1 ≤ findI p xs
  | [] => by simp [findI]
  | x :: xs => by
    have := findI_ge p xs
    unfold findI
    split
    · omega
    · dsimp only; split <;> omega

theorem findI_hit {α : Type} (p : α → Bool) : ∀ (xs : List α) (k : Nat) (hk : k < xs.length), (∀ j (hj : j < xs.length), j < k → p xs[j] = false) → p xs[k] = true → findI p xs = k
  | [], k, hk, _, _ => by simp at hk
  | x :: xs, 0, _, _, h => by simp at h; simp [findI, h]
  | x :: xs, k + 1, hk, hno, h => by
    have h0 := hno 0 (by simp) (by omega)
    simp at h0
    have ih := findI_hit p xs k (by simpa using hk) (fun j hj hjk => hno (j + 1) (by simpa using hj) (by omega)) h
    unfold findI
    rw [if_neg (by simp [h0])]
    dsimp only
    rw [ih, if_neg (by omega)]
    omega

theorem findI_none {α : Type} (p : α → Bool) : ∀ (xs : List α), (∀ j (hj : j < xs.length), p xs[j] = false) → findI p xs = -1
  | [], _ => rfl
  | x :: xs, h => by
    have h0 := h 0 (by simp)
    simp at h0
    have ih := findI_none p xs (fun j hj => h (j + 1) (by simpa using hj))
    unfold findI
    rw [if_neg (by simp [h0])]
    dsimp only
    rw [ih, if_pos (by omega)]

theorem findI_any {α : Type} (p : α → Bool) : ∀ (xs : List α), decide (0 ≤ findI p xs) = xs.any p
  | [] => rfl
  | x :: xs => by
    have ih := findI_any p xs
    unfold findI
    by_cases h : p x = true
    · simp [h]
    · rw [if_neg h]
      dsimp only
      have hx : p x = false := by simpa using h
      rw [List.any_cons, hx, Bool.false_or, ← ih]
      by_cases h2 : findI p xs < 0
      · rw [if_pos h2]; simp; omega
      · rw [if_neg h2]; simp; omega

theorem findI_lt {α : Type} (p : α → Bool) : ∀ (xs : List α), findI p xs < xs.length ∨ xs = []
  | [] => .inr rfl
  | x :: xs => by
    left
    have ih := findI_lt p xs
    unfold findI
    split
    · simp
    · dsimp only
      split
      · simp; omega
      · rcases ih with h | h
        · simp; omega
        · subst h; rename_i h2; simp [findI] at h2

theorem findI_spec {α : Type} (p : α → Bool) : ∀ (xs : List α), 0 ≤ findI p xs → ∃ (k : Nat) (hk : k < xs.length), findI p xs = k ∧ p xs[k] = true ∧ ∀ j (hj : j < xs.length), j < k → p xs[j] = false
  | [], h => by simp [findI] at h
  | x :: xs, h => by
    unfold findI at h ⊢
    by_cases hx : p x = true
    · rw [if_pos hx]
      exact ⟨0, by simp, rfl, by simpa using hx, fun j hj h0 => by omega⟩
    · rw [if_neg hx] at h ⊢
      dsimp only at h ⊢
      by_cases h2 : findI p xs < 0
      · rw [if_pos h2] at h; omega
      · rw [if_neg h2]
        obtain ⟨k, hk, e, hp, hno⟩ := findI_spec p xs (by omega)
        refine ⟨k + 1, by simpa using hk, by omega, by simpa using hp, fun j hj hjk => ?_⟩
        cases j with
        | zero => simpa using hx
        | succ j => simpa using hno j (by simpa using hj) (by omega)

end Go.AM
