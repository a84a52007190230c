/- Loops as functions of lists: the first code that is not 0. -/
import Derived.Test.YtdhincmlefpfkaaC25
set_option linter.unusedVariables false
namespace Go.BM
/-- The first code that is not 0, each thing judged with those ahead of it; K, if there is none. -/
def scanK {α : Type} (f : List α → α → Int) (K : Int) : List α → List α → Int
  | _, [] => K
  | pre, x :: l => if f pre x == 0 then scanK f K (pre ++ [x]) l else f pre x
theorem scanK_step {α : Type} (f : List α → α → Int) (K : Int) (xs : List α) (k : Nat) (hk : k < xs.length) : scanK f K (xs.take k) (xs.drop k) = if f (xs.take k) xs[k] == 0 then scanK f K (xs.take (k + 1)) (xs.drop (k + 1)) else f (xs.take k) xs[k] := by
  rw [List.drop_eq_getElem_cons hk, ← take_next xs k hk]
  rfl
theorem scanK_end {α : Type} (f : List α → α → Int) (K : Int) (xs : List α) (k : Nat) (hk : ¬ k < xs.length) : scanK f K (xs.take k) (xs.drop k) = K := by
  rw [List.drop_eq_nil_of_le (by omega)]
  rfl
theorem any_hit {α : Type} (p : α → Bool) (xs : List α) (k : Nat) (hk : k < xs.length) (h : p xs[k] = true) : xs.any p = true := List.any_eq_true.2 ⟨_, List.getElem_mem hk, h⟩
theorem any_none {α : Type} (p : α → Bool) (xs : List α) (h : ∀ j (hj : j < xs.length), p xs[j] = false) : xs.any p = false := List.any_eq_false.2 fun x hx => by
  obtain ⟨j, hj, rfl⟩ := List.getElem_of_mem hx
  rw [h j hj]
  exact Bool.false_ne_true
theorem any_findI {α : Type} (p : α → Bool) (xs : List α) : decide (0 < findI p xs + 1) = xs.any p := by
  rw [← findI_any]
  congr 1
  apply propext
  omega
/-- A loop's running value. -/
def foldN {α σ : Type} (f : σ → α → σ) (s : σ) (l : List α) : σ := l.foldl f s
theorem foldN_step {α σ : Type} (f : σ → α → σ) (s : σ) (xs : List α) (k : Nat) (hk : k < xs.length) : foldN f s (xs.take (k + 1)) = f (foldN f s (xs.take k)) xs[k] := by
  unfold foldN
  rw [← take_next xs k hk, List.foldl_append]
  rfl
theorem foldN_nil {α σ : Type} (f : σ → α → σ) (s : σ) : foldN f s [] = s := rfl
theorem filter_step {α : Type} (q : α → Bool) (xs : List α) (k : Nat) (hk : k < xs.length) : (xs.take (k + 1)).filter q = if q xs[k] then (xs.take k).filter q ++ [xs[k]] else (xs.take k).filter q := by
  rw [← take_next xs k hk, List.filter_append]
  cases h : q xs[k] <;> simp [h]
theorem map_step {α β : Type} (g : α → β) (xs : List α) (k : Nat) (hk : k < xs.length) : (xs.take (k + 1)).map g = (xs.take k).map g ++ [g xs[k]] := by
  rw [← take_next xs k hk, List.map_append]
  rfl
end Go.BM
