/- Quorums: plain facts; slices of what is ours; a list thinned in its place. -/
import Derived.Test.YtfggnccpbdfpeaaC21
set_option linter.unusedVariables false
set_option linter.unusedSimpArgs false
namespace Go.BM
open Go.RowKit
section
variable {P : Program} {B : Nat} {H : AH} {α : Type} {E : Enc α}
theorem slV_ownLo {t el el' by_ r ver i : Nat} {kd : IntKind} {ys : List α} (hz : elZ P t = some (el, E.sz, by_)) (hb : H[r]? = some (sb el' E ys ver true)) (hi : i ≤ ys.length) :
    slV P H t (.slice (some ⟨r, 0, none⟩) ys.length ver) (some (.int kd (i : Int))) none none = some (.slice (some ⟨r, i * E.sz, some (ys.length - i)⟩) (ys.length - i) ver) := by
  rw [slV_own, hz, hb]
  simp only [Option.bind_some, boundV, sb, Option.getD_none]
  rw [if_pos (by simp; omega)]
  have e1 : ((i : Int)).toNat = i := by omega
  have e2 : ((ys.length : Int) - (i : Int)).toNat = ys.length - i := by omega
  rw [e1, e2, Nat.zero_add]
theorem slV_ownHi {t el by_ r ver i n : Nat} {kd : IntKind} {b : Blk} (hz : elZ P t = some (el, E.sz, by_)) (hb : H[r]? = some b) (hv : b.ver = ver) (ho : b.own = true) (hs : b.sz = E.sz) (hi : i ≤ n) :
    slV P H t (.slice (some ⟨r, 0, none⟩) n ver) none (some (.int kd (i : Int))) none = some (.slice (some ⟨r, 0, some n⟩) i ver) := by
  rw [slV_own, hz, hb]
  simp only [Option.bind_some, boundV, Option.getD_none]
  rw [if_pos ⟨hv, ho, hs, by omega, by omega, by omega, by omega, by simp⟩]
  have e1 : ((i : Int) - 0).toNat = i := by omega
  have e2 : ((n : Int) - 0).toNat = n := by omega
  rw [e1, e2]
  simp
theorem clearH_tail {t el el' by_ r ver i : Nat} {sp : Option Nat} {z : Value} {ys : List α} (hz : elZ P t = some (el, E.sz, by_)) (hzv : zeroV P el = some z) (hok : zOk P el E.sz = true) (hb : H[r]? = some (sb el' E ys ver true)) (hB : B ≤ r) (hi : i ≤ ys.length) :
    ∃ rest, clearH P B H t (.slice (some ⟨r, i * E.sz, sp⟩) (ys.length - i) ver) = some (H.set r ⟨el', E.sz, E.flat (ys.take i) ++ rest, ver, true⟩) := by
  have hfit : i * E.sz + (ys.length - i) * E.sz ≤ (E.flat ys).length := by
    rw [E.flat_length, ← Nat.add_mul]
    exact Nat.mul_le_mul_right _ (by omega)
  unfold clearH
  dsimp only
  rw [hz, hb]
  dsimp only
  rw [hzv]
  dsimp only
  have hc : zOk P el E.sz = true ∧ (sb el' E ys ver true).ver = ver ∧ (sb el' E ys ver true).own = true ∧ B ≤ r ∧ i * E.sz + (ys.length - i) * E.sz ≤ (sb el' E ys ver true).cs.length := ⟨hok, rfl, rfl, hB, hfit⟩
  rw [if_pos hc, splice_eq]
  simp only [sb, E.flat_take, List.append_assoc]
  exact ⟨_, rfl⟩
theorem Bor.funcC {g : Fn} {xs ys : Array Value} (h : BorL H xs.toList ys.toList) : Bor H (.func g #[] xs) (.func g #[] ys) := by
  have := Bor.funcL (g := g) h
  simpa using this
theorem BorL.app {xs ys : List Value} : ∀ {l l' : List Value}, BorL H l l' → BorL H xs ys → BorL H (l ++ xs) (l' ++ ys)
  | _, _, .nil, h => h
  | _, _, .cons a t, h => .cons a (t.app h)
end
theorem szI_neg {n : Nat} {k : Int} (h : szI n k < 0) : szI n k = -1 := by unfold szI at *; split <;> simp_all
theorem szI_pos {n : Nat} {k : Int} (h : ¬ szI n k < 0) : (n : Int) ≤ k ∧ szI n k = k - n := by unfold szI at *; split at h <;> omega
/-! ### thinning -/
theorem dl_keep {α : Type} {xs zs : List α} {q : α → Bool} {i j : Nat} (hl : zs.length = xs.length) (hij : i ≤ j) (hj : j < xs.length) (h1 : zs.take i = (xs.take j).filter q) (h2 : zs.drop j = xs.drop j) (hq : q xs[j] = true) :
    (zs.set i xs[j]).take (i + 1) = (xs.take (j + 1)).filter q ∧ (zs.set i xs[j]).drop (j + 1) = xs.drop (j + 1) := by
  have e : zs.drop (j + 1) = xs.drop (j + 1) := by rw [← List.drop_drop, h2, List.drop_drop]
  constructor
  · rw [← List.take_append_getElem (l := xs) hj, List.filter_append, ← h1, List.take_set, List.set_eq_take_append_cons_drop]
    rw [if_pos (by simp; omega), List.take_take, Nat.min_eq_left (by omega), List.drop_take]
    simp [hq]
  · rw [List.drop_set_of_lt (by omega), e]
theorem dl_drop {α : Type} {xs zs : List α} {q : α → Bool} {i j : Nat} (hj : j < xs.length) (h1 : zs.take i = (xs.take j).filter q) (h2 : zs.drop j = xs.drop j) (hq : q xs[j] = false) :
    zs.take i = (xs.take (j + 1)).filter q ∧ zs.drop (j + 1) = xs.drop (j + 1) := by
  constructor
  · rw [← List.take_append_getElem (l := xs) hj, List.filter_append, ← h1]
    simp [hq]
  · rw [← List.drop_drop, h2, List.drop_drop]
theorem dl_at {α : Type} {xs zs : List α} {j : Nat} (hj : j < xs.length) (hz : j < zs.length) (h2 : zs.drop j = xs.drop j) : zs[j] = xs[j] := by
  have := congrArg (fun l => l[0]?) h2
  simp only [List.getElem?_drop, Nat.add_zero, List.getElem?_eq_getElem hj, List.getElem?_eq_getElem hz] at this
  exact Option.some.inj this
theorem dl_start {α : Type} {xs : List α} {q : α → Bool} {k : Nat} (hk : k < xs.length) (hno : ∀ j (hj : j < xs.length), j < k → q xs[j] = true) (hq : q xs[k] = false) : xs.take k = (xs.take (k + 1)).filter q := by
  rw [← List.take_append_getElem (l := xs) hk, List.filter_append]
  simp only [List.filter_cons, hq, List.filter_nil, List.append_nil, Bool.false_eq_true, if_false]
  symm
  rw [List.filter_eq_self]
  intro a ha
  obtain ⟨j, hj, rfl⟩ := List.getElem_of_mem ha
  simp at hj
  simpa using hno j (by omega) (by omega)
theorem dl_all {α : Type} {xs : List α} {q : α → Bool} (h : ∀ j (hj : j < xs.length), q xs[j] = true) : xs.filter q = xs := by
  rw [List.filter_eq_self]
  intro a ha
  obtain ⟨j, hj, rfl⟩ := List.getElem_of_mem ha
  exact h j hj
/-! ### quorums -/
def keysB (xs : List Int) : Bool := xs.all fun a => inB a 1 999
def risB : List Int → Bool
  | a :: b :: l => decide (a < b) && risB (b :: l)
  | _ => true
theorem risB_iff : ∀ xs : List Int, risB xs = true ↔ ∀ k (h : k + 1 < xs.length), xs[k] < xs[k + 1]
  | [] => by simp [risB]
  | [a] => by simp [risB]
  | a :: b :: l => by
    have ih := risB_iff (b :: l)
    simp only [risB, Bool.and_eq_true, decide_eq_true_eq, ih]
    constructor
    · rintro ⟨h1, h2⟩ k hk
      cases k with
      | zero => exact h1
      | succ k => exact h2 k (by simpa using hk)
    · intro h
      exact ⟨h 0 (by simp), fun k hk => h (k + 1) (by simpa using hk)⟩
theorem risB_false {xs : List Int} {k : Nat} (h : k + 1 < xs.length) (h2 : xs[k + 1] ≤ xs[k]) : risB xs = false := by
  cases hr : risB xs with
  | false => rfl
  | true => have := (risB_iff xs).1 hr k h; omega
def quorumFault (xs : List Int) (need : Int) : Int :=
  if !inB xs.length 1 8 then 2 else if !keysB xs || !inB need 1 xs.length then 3 else if !risB xs then 1 else 0
theorem keysB_false {xs : List Int} {k : Nat} (hk : k < xs.length) (h : inB xs[k] 1 999 = false) : keysB xs = false := by
  unfold keysB
  rw [List.all_eq_false]
  exact ⟨xs[k], List.getElem_mem hk, by simp [h]⟩
theorem keysB_true {xs : List Int} (h : ∀ k (hk : k < xs.length), inB xs[k] 1 999 = true) : keysB xs = true := by
  unfold keysB
  rw [List.all_eq_true]
  intro x hx
  obtain ⟨k, hk, rfl⟩ := List.getElem_of_mem hx
  exact h k hk
def meetL (a b : List Int) : List Int := a.filter fun x => b.any fun y => x == y
theorem any_swap (b : List Int) (x : Int) : (b.any fun y => y == x) = b.any fun y => x == y := by
  congr 1
  funext y
  exact Bool.beq_comm
theorem meetL_step (a b : List Int) (k : Nat) (hk : k < a.length) : meetL (a.take (k + 1)) b = if (b.any fun y => a[k] == y) then meetL (a.take k) b ++ [a[k]] else meetL (a.take k) b := by
  unfold meetL
  rw [← List.take_append_getElem (l := a) hk, List.filter_append]
  cases h : b.any fun y => a[k] == y <;> simp [h]
theorem meetL_len (a b : List Int) : (meetL a b).length ≤ a.length := List.length_filter_le _ _
end Go.BM
