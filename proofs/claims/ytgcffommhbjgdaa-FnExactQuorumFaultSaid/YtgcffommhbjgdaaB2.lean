/- New slices: made, written, read. -/
import Derived.Test.YtgcffommhbjgdaaB1
set_option linter.unusedVariables false
set_option linter.unusedSimpArgs false
namespace Go.AM
open Go.RowKit
section
variable {α : Type} {E : Enc α} {P : Program} {B : Nat} {H : AH}

theorem Enc.flat_rep (E : Enc α) (z : α) : ∀ n, E.flat (List.replicate n z) = (List.replicate n (cellsV (E.val z))).flatten
  | 0 => rfl
  | n + 1 => by
    have := E.flat_rep z n
    unfold Enc.flat at this ⊢
    simp only [List.replicate_succ, List.flatMap_cons, List.flatten_cons, this]

theorem zerosOf_eq (E : Enc α) (z : α) (n : Nat) : zerosOf (cellsV (E.val z)) (n * E.sz) = E.flat (List.replicate n z) := by
  apply List.ext_getElem?
  intro j
  have hl := E.hsz z
  have hp := E.hpos
  rcases Nat.lt_or_ge j (n * E.sz) with hj | hj
  · have hk : j / E.sz < n := by rw [Nat.div_lt_iff_lt_mul hp]; exact hj
    have hq : j % E.sz < E.sz := Nat.mod_lt _ hp
    have e : j / E.sz * E.sz + j % E.sz = j := Nat.div_add_mod' j _
    have := E.flat_cell (List.replicate n z) (j / E.sz) (j % E.sz) (by simpa using hk) hq
    rw [e] at this
    rw [this]
    unfold zerosOf
    rw [List.getElem?_map, List.getElem?_range hj]
    simp only [Option.map_some, List.getElem_replicate, hl]
    rw [List.getElem?_eq_getElem (by omega)]
    simp [List.getD, List.getElem?_eq_getElem (show j % E.sz < (cellsV (E.val z)).length by omega)]
  · rw [List.getElem?_eq_none (by simp [zerosOf]; exact hj), List.getElem?_eq_none (by rw [E.flat_length]; simpa using hj)]

theorem makeH_sb {t el by_ : Nat} {z : α} (hz : elZ P t = some (el, E.sz, by_)) (hv : zeroV P el = some (E.val z)) (ho : zOk P el E.sz = true) {n : Nat} (hb : by_ * n ≤ 140737488355328) (hn : n ≤ 140737488355328) :
    makeH P H t (.int .i64 n) (.int .i64 n) = some (slv H.length n, H ++ [sb el E (List.replicate n z) true]) := by
  unfold makeH
  dsimp only
  rw [hz]
  dsimp only
  rw [hv]
  dsimp only
  have h3 : ((by_ * n : Nat) : Int) ≤ 140737488355328 := by omega
  rw [Int.natCast_mul] at h3
  rw [if_pos ⟨ho, by omega, Int.le_refl _, h3, by omega⟩, cellsV_eq, Int.toNat_natCast, zerosOf_eq E z n]
  rfl

theorem Enc.flat_set (E : Enc α) (ys : List α) (k : Nat) (y : α) (hk : k < ys.length) : splice (E.flat ys) (k * E.sz) (cellsV (E.val y)) = E.flat (ys.set k y) := by
  have h : ys = ys.take k ++ (ys[k] :: ys.drop (k + 1)) := by simp
  have hl : (E.flat (ys.take k)).length = k * E.sz := by rw [E.flat_length]; congr 1; simp; omega
  have e1 : E.flat ys = E.flat (ys.take k) ++ (cellsV (E.val ys[k]) ++ E.flat (ys.drop (k + 1))) := by
    conv => lhs; rw [h]
    rw [E.flat_append]
    rfl
  have e2 : E.flat (ys.set k y) = E.flat (ys.take k) ++ (cellsV (E.val y) ++ E.flat (ys.drop (k + 1))) := by
    rw [List.set_eq_take_append_cons_drop, if_pos hk, E.flat_append]
    rfl
  rw [e1, e2, splice_eq, E.hsz, List.take_append_of_le_length (by omega), List.take_of_length_le (by omega), List.append_assoc, List.drop_append, List.drop_eq_nil_of_le (by omega), List.nil_append, hl]
  congr 2
  rw [show k * E.sz + E.sz - k * E.sz = E.sz by omega, List.drop_append_of_le_length (by rw [E.hsz]; exact Nat.le_refl _), List.drop_of_length_le (by rw [E.hsz]; exact Nat.le_refl _), List.nil_append]

theorem storeH_sb {T el r n k : Nat} {g o : Bool} {ys : List α} {y : α} (hb : H[r]? = some (sb el E ys o)) (ho : o = true) (hB : B ≤ r) (hl : lay P T = some (g, E.sz)) (hk : k < ys.length) (h1 : (cellsV (E.val y)).all Value.oneCell' = true) :
    storeH P B H T (elP (slv r n) (k * E.sz)) (E.val y) = some (H.set r (sb el E (ys.set k y) o)) := by
  subst ho
  have hfit : k * E.sz + E.sz ≤ (E.flat ys).length := by
    rw [E.flat_length, ← Nat.succ_mul]
    exact Nat.mul_le_mul_right _ hk
  unfold slv elP
  dsimp only
  rw [storeH_ptr, hl]
  simp only [Option.bind_some, hb]
  rw [if_pos ⟨rfl, rfl, hB, E.hsz y, by simpa [sb] using hfit, h1⟩]
  simp only [sb, Nat.zero_add, E.flat_set ys k y hk]

theorem elP_slv (r n k : Nat) : elP (slv r n) k = .pointer (some ⟨r, 0 + k, some 0⟩) := rfl
end

theorem int_one (x : Int) : (cellsV (intE.val x)).all Value.oneCell' = true := rfl
theorem str_one (x : ByteArray) : (cellsV (strE.val x)).all Value.oneCell' = true := rfl

/-- What a copying loop has in hand. -/
theorem take_set {α : Type} (xs : List α) (z : α) (k : Nat) (hk : k < xs.length) : (xs.take k ++ List.replicate (xs.length - k) z).set k xs[k] = xs.take (k + 1) ++ List.replicate (xs.length - (k + 1)) z := by
  apply List.ext_getElem?
  intro j
  by_cases hj : j = k
  · subst hj
    rw [List.getElem?_set_self (by simp; omega), List.getElem?_append_left (by simp; omega), List.getElem?_take, if_pos (by omega), List.getElem?_eq_getElem hk]
  · rw [List.getElem?_set_ne (Ne.symm hj)]
    rcases Nat.lt_or_ge j k with h | h
    · rw [List.getElem?_append_left (by simp; omega), List.getElem?_append_left (by simp; omega), List.getElem?_take, List.getElem?_take, if_pos h, if_pos (by omega)]
    · have e1 : (xs.take k).length = k := by simp; omega
      have e2 : (xs.take (k + 1)).length = k + 1 := by simp; omega
      rw [List.getElem?_append_right (by omega), List.getElem?_append_right (by omega), e1, e2, List.getElem?_replicate, List.getElem?_replicate]
      by_cases h2 : j < xs.length
      · rw [if_pos (by omega), if_pos (by omega)]
      · rw [if_neg (by omega), if_neg (by omega)]
theorem take_rep_len {α : Type} (xs : List α) (z : α) (k : Nat) (hk : k ≤ xs.length) : (xs.take k ++ List.replicate (xs.length - k) z).length = xs.length := by simp; omega
end Go.AM
