/- Slices read as lists. -/
import Derived.Test.YtgcffommhbjgdaaA10
set_option linter.unusedVariables false
set_option linter.unusedSimpArgs false
namespace Go.AM
open Go.RowKit

/-- How a thing lies in memory. -/
structure Enc (α : Type) where
  val : α → Value
  sz : Nat
  agg : Bool
  hsz : ∀ x, (cellsV (val x)).length = sz
  hval : ∀ x, (if agg = true then val x = .agg (cellsV (val x)).toArray else cellsV (val x) = [val x])
  hpos : 0 < sz

def intE : Enc Int := ⟨fun x => .int .i64 x, 1, false, fun _ => rfl, fun _ => rfl, by decide⟩
def strE : Enc ByteArray := ⟨fun x => .string x, 1, false, fun _ => rfl, fun _ => rfl, by decide⟩
def boolE : Enc Bool := ⟨fun x => .bool x, 1, false, fun _ => rfl, fun _ => rfl, by decide⟩

def Enc.flat {α : Type} (E : Enc α) (xs : List α) : List Value := xs.flatMap fun x => cellsV (E.val x)

theorem Enc.flat_length {α : Type} (E : Enc α) : ∀ xs : List α, (E.flat xs).length = xs.length * E.sz
  | [] => by simp [Enc.flat]
  | x :: xs => by
    have := E.flat_length xs
    unfold Enc.flat at this ⊢
    simp only [List.flatMap_cons, List.length_append, E.hsz, List.length_cons, this, Nat.add_mul, Nat.one_mul]
    omega

theorem Enc.flat_append {α : Type} (E : Enc α) (xs ys : List α) : E.flat (xs ++ ys) = E.flat xs ++ E.flat ys := by simp [Enc.flat]
theorem Enc.flat_nil {α : Type} (E : Enc α) : E.flat [] = [] := rfl
theorem Enc.flat_one {α : Type} (E : Enc α) (x : α) : E.flat [x] = cellsV (E.val x) := by simp [Enc.flat]

theorem Enc.flat_at {α : Type} (E : Enc α) (xs : List α) (k : Nat) (hk : k < xs.length) : ((E.flat xs).drop (k * E.sz)).take E.sz = cellsV (E.val xs[k]) := by
  have h : xs = xs.take k ++ (xs[k] :: xs.drop (k + 1)) := by simp
  have hl : (E.flat (xs.take k)).length = k * E.sz := by rw [E.flat_length]; congr 1; simp; omega
  conv => lhs; rw [h]
  rw [E.flat_append, List.drop_append, List.drop_eq_nil_of_le (by omega), List.nil_append, hl, Nat.sub_self, List.drop_zero]
  show List.take E.sz (cellsV (E.val xs[k]) ++ E.flat (xs.drop (k + 1))) = _
  rw [List.take_append_of_le_length (by rw [E.hsz]; exact Nat.le_refl _), List.take_of_length_le (by rw [E.hsz]; exact Nat.le_refl _)]

theorem Enc.flat_cell {α : Type} (E : Enc α) (xs : List α) (k j : Nat) (hk : k < xs.length) (hj : j < E.sz) : (E.flat xs)[k * E.sz + j]? = (cellsV (E.val xs[k]))[j]? := by
  have h := E.flat_at xs k hk
  rw [← h, List.getElem?_take, if_pos hj, List.getElem?_drop]

theorem Enc.flat_take {α : Type} (E : Enc α) (xs : List α) (k : Nat) (hk : k ≤ xs.length) : E.flat (xs.take k) = (E.flat xs).take (k * E.sz) := by
  have hkl : (E.flat (xs.take k)).length = k * E.sz := by rw [E.flat_length]; congr 1; simp; omega
  have h : E.flat xs = E.flat (xs.take k) ++ E.flat (xs.drop k) := by rw [← E.flat_append, List.take_append_drop]
  rw [h, List.take_left' hkl]

/-- A slice's value reads as a list. -/
def SlE {α : Type} (E : Enc α) (H : AH) (v : Value) (xs : List α) : Prop :=
  (v = .slice none 0 0 ∧ xs = []) ∨
  ∃ r off ver blk, v = .slice (some ⟨r, off, none⟩) xs.length ver ∧ H[r]? = some blk ∧ blk.ver = ver ∧ blk.sz = E.sz ∧ off + xs.length * E.sz ≤ blk.cs.length ∧ (blk.cs.drop off).take (xs.length * E.sz) = E.flat xs

/-- A place among a slice's cells. -/
def elP (v : Value) (off : Nat) : Value :=
  match v with
  | .slice (some ⟨r, o, _⟩) _ ver => .pointer (some ⟨r, o + off, some ver⟩)
  | _ => undef

section
variable {α : Type} {E : Enc α} {P : Program} {H : AH} {v : Value} {xs : List α}

theorem SlE.more (h : SlE E H v xs) (N : AH) : SlE E (H ++ N) v xs := by
  rcases h with h | ⟨r, off, ver, blk, h1, h2, h3⟩
  · exact .inl h
  · exact .inr ⟨r, off, ver, blk, h1, by rw [List.getElem?_append_left (lt_of_some h2)]; exact h2, h3⟩

theorem SlE.len (h : SlE E H v xs) {t : TypeId} {z : TypeId × Nat × Nat} (hz : elZ P t = some z) : lenV P H t v = some (.int .i64 xs.length) := by
  rcases h with ⟨rfl, rfl⟩ | ⟨r, off, ver, blk, rfl, h2, h3, h4⟩
  · simp [lenV, hz]
  · simp [lenV, hz, getB, h2, h3]

theorem SlE.idx (h : SlE E H v xs) {t e b : Nat} (hz : elZ P t = some (e, E.sz, b)) {k : Nat} (hk : k < xs.length) : idxV P H t v (.int .i64 k) = some (elP v (k * E.sz)) := by
  rcases h with ⟨rfl, rfl⟩ | ⟨r, off, ver, blk, rfl, h2, h3, h4⟩
  · simp at hk
  · have : (0 : Int) ≤ (k : Int) ∧ (k : Int) < (xs.length : Int) := by omega
    simp [idxV, hz, getB, h2, h3, hk, elP]

theorem SlE.load (h : SlE E H v xs) {T : TypeId} (hl : lay P T = some (E.agg, E.sz)) {k : Nat} (hk : k < xs.length) : loadV P H T (elP v (k * E.sz)) = some (E.val xs[k]) := by
  rcases h with ⟨rfl, rfl⟩ | ⟨r, off, ver, blk, rfl, h2, h3, h4, h5, h6⟩
  · simp at hk
  · have hk2 : k * E.sz + E.sz ≤ xs.length * E.sz := by
      have : (k + 1) * E.sz ≤ xs.length * E.sz := Nat.mul_le_mul_right _ hk
      rw [Nat.add_mul, Nat.one_mul] at this
      exact this
    have hcells : (blk.cs.drop (off + k * E.sz)).take E.sz = cellsV (E.val xs[k]) := by
      rw [← E.flat_at xs k hk, ← h6, List.drop_take, List.drop_drop, List.take_take]
      congr 1
      omega
    simp only [loadV, elP, hl, getB, h2, h3, if_true]
    unfold getVar
    have hv := E.hval xs[k]
    cases ha : E.agg with
    | true =>
      rw [ha] at hv
      simp only [if_true] at hv ⊢
      rw [if_pos (by omega), hcells, ← hv]
    | false =>
      rw [ha] at hv
      simp only [Bool.false_eq_true, if_false] at hv ⊢
      have hs : E.sz = 1 := by rw [← E.hsz xs[k], hv]; rfl
      have : blk.cs[off + k * E.sz]? = ((blk.cs.drop (off + k * E.sz)).take E.sz)[0]? := by
        rw [List.getElem?_take, if_pos (by omega), List.getElem?_drop]
        simp
      rw [this, hcells, hv]
      rfl

theorem SlE.cell (h : SlE E H v xs) {T n : Nat} (hl : lay P T = some (false, n)) {k j : Nat} (hk : k < xs.length) (hj : j < E.sz) {c : Value} (hc : (cellsV (E.val xs[k]))[j]? = some c) : loadV P H T (elP v (k * E.sz + j)) = some c := by
  rcases h with ⟨rfl, rfl⟩ | ⟨r, off, ver, blk, rfl, h2, h3, h4, h5, h6⟩
  · simp at hk
  · simp only [loadV, elP, hl, getB, h2, h3, if_true]
    unfold getVar
    simp only [Bool.false_eq_true, if_false]
    have hk2 : k * E.sz + E.sz ≤ xs.length * E.sz := by
      have : (k + 1) * E.sz ≤ xs.length * E.sz := Nat.mul_le_mul_right _ hk
      rw [Nat.add_mul, Nat.one_mul] at this
      exact this
    have : (E.flat xs)[k * E.sz + j]? = blk.cs[off + (k * E.sz + j)]? := by
      rw [← h6, List.getElem?_take, if_pos (by omega), List.getElem?_drop]
    rw [← this, E.flat_cell xs k j hk hj]
    exact hc

/-- A struct (or a part of one) among a slice's cells. -/
theorem SlE.part (h : SlE E H v xs) {T n : Nat} (hl : lay P T = some (true, n)) {k j : Nat} (hk : k < xs.length) (hj : j + n ≤ E.sz) : loadV P H T (elP v (k * E.sz + j)) = some (.agg (((cellsV (E.val xs[k])).drop j).take n).toArray) := by
  rcases h with ⟨rfl, rfl⟩ | ⟨r, off, ver, blk, rfl, h2, h3, h4, h5, h6⟩
  · simp at hk
  · have hk2 : k * E.sz + E.sz ≤ xs.length * E.sz := by
      have : (k + 1) * E.sz ≤ xs.length * E.sz := Nat.mul_le_mul_right _ hk
      rw [Nat.add_mul, Nat.one_mul] at this
      exact this
    simp only [loadV, elP, hl, getB, h2, h3, if_true]
    unfold getVar
    simp only [if_true]
    rw [if_pos (by omega)]
    congr 3
    rw [← E.flat_at xs k hk, ← h6]
    apply List.ext_getElem?
    intro i
    simp only [List.getElem?_take, List.getElem?_drop]
    by_cases hi : i < n
    · rw [if_pos hi, if_pos hi, if_pos (by omega), if_pos (by omega)]
      congr 1
      omega
    · rw [if_neg hi, if_neg hi]

theorem SlE.fld (h : SlE E H v xs) {s f o : Nat} (hf : fldOff P s f = some o) (off : Nat) (hn : 0 < xs.length) : fldV P H s (elP v off) f = some (elP v (off + o)) := by
  rcases h with ⟨rfl, rfl⟩ | ⟨r, off', ver, blk, rfl, h2, h3, h4⟩
  · simp at hn
  · simp [fldV, elP, hf, getB, h2, h3, Nat.add_assoc]

/-- A front part of a slice. -/
theorem SlE.front (h : SlE E H v xs) {t e b : Nat} (hz : elZ P t = some (e, E.sz, b)) {k : Nat} (hk : k ≤ xs.length) :
    ∃ u, sliceV P H t v none (some (.int .i64 k)) none = some u ∧ SlE E H u (xs.take k) := by
  rcases h with ⟨rfl, rfl⟩ | ⟨r, off, ver, blk, rfl, h2, h3, h4, h5, h6⟩
  · have : k = 0 := by simpa using hk
    subst this
    exact ⟨.slice none 0 0, by simp [sliceV, hz, boundV], .inl ⟨rfl, rfl⟩⟩
  · have h5' : off + k * E.sz ≤ blk.cs.length := by
      have : k * E.sz ≤ xs.length * E.sz := Nat.mul_le_mul_right _ hk
      omega
    have hkl : (xs.take k).length = k := by simp; omega
    refine ⟨.slice (some ⟨r, off, none⟩) k ver, ?_, .inr ⟨r, off, ver, blk, by rw [hkl], h2, h3, h4, by rw [hkl]; exact h5', ?_⟩⟩
    · have c : (0 : Int) ≤ 0 ∧ (0 : Int) ≤ (k : Int) ∧ (k : Int) ≤ (xs.length : Int) ∧ (xs.length : Int) ≤ (xs.length : Int) := by omega
      simp [sliceV, hz, boundV, h2, h3, h4, hk]
    · rw [hkl]
      rw [E.flat_take xs k hk, ← h6, List.take_take]
      congr 1
      have : k * E.sz ≤ xs.length * E.sz := Nat.mul_le_mul_right _ hk
      omega
end

/-! ### numbers -/
theorem wr {n : Int} (h0 : -9223372036854775808 ≤ n) (h1 : n ≤ 9223372036854775807) : IntKind.i64.wrap n = n := by
  rw [IntKind.wrap_i64]; omega
theorem wr_succ {k : Nat} (h : k < 4611686018427387904) : IntKind.i64.wrap ((k : Int) + 1) = ((k + 1 : Nat) : Int) := by rw [wr] <;> omega

/-! ### the first place -/
def findI {α : Type} (p : α → Bool) : List α → Int
  | [] => -1
  | x :: xs => if p x = true then 0 else (let r := findI p xs; if r < 0 then -1 else r + 1)

end Go.AM
