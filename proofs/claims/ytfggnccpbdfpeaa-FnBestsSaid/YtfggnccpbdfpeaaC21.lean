/- Trees, as plain lists. -/
import Derived.Test.YtfggnccpbdfpeaaC20
set_option linter.unusedVariables false
namespace Go.BM

def inB (a b c : Int) : Bool := decide (b ≤ a) && decide (a ≤ c)
theorem ltge (a b : Int) : a < b ∨ b ≤ a := by omega
def ndAt (xs : List TNode) (id : Int) : Int := findI (fun n => n.id == id) xs
def hOf (xs : List TNode) (i : Int) : Int := ((xs[i.toNat]?).getD ⟨0, 0, 0⟩).height
def pOf (xs : List TNode) (i : Int) : Int := ((xs[i.toNat]?).getD ⟨0, 0, 0⟩).prev
def upOf (xs : List TNode) (prev : Int) : Int := if (prev == 0) then 1 else if decide (ndAt xs prev < 0) then 1 else IntKind.i64.wrap (hOf xs (ndAt xs prev) + 1)
def nodeFault (xs : List TNode) (n : TNode) : Int :=
  if !inB n.id 1 60 || !inB n.height 1 40 then 3
  else if decide (0 ≤ ndAt xs n.id) then 7
  else if !(n.prev == 0) && decide (ndAt xs n.prev < 0) then 4
  else if !(n.height == upOf xs n.prev) then 1 else 0
def tfGo : List TNode → List TNode → Int
  | _, [] => 0
  | pre, n :: rest => if nodeFault pre n == 0 then tfGo (pre ++ [n]) rest else nodeFault pre n
def treeFault (xs : List TNode) : Int := if decide ((60 : Int) < (xs.length : Int)) then 2 else tfGo [] xs
theorem tfGo_step (xs : List TNode) (k : Nat) (hk : k < xs.length) : tfGo (xs.take k) (xs.drop k) = if nodeFault (xs.take k) xs[k] == 0 then tfGo (xs.take (k + 1)) (xs.drop (k + 1)) else nodeFault (xs.take k) xs[k] := by
  rw [List.drop_eq_getElem_cons hk, ← List.take_append_getElem hk]
  rfl
theorem ndAt_lt {xs : List TNode} {id : Int} (h : 0 ≤ ndAt xs id) : ∃ (k : Nat) (hk : k < xs.length), ndAt xs id = k ∧ xs[k].id = id ∧ ∀ j (hj : j < xs.length), j < k → xs[j].id ≠ id := by
  obtain ⟨k, hk, e, h1, h2⟩ := findI_spec _ xs h
  exact ⟨k, hk, e, by simpa using h1, fun j hj hjk => by simpa using h2 j hj hjk⟩
theorem ndAt_hit {xs : List TNode} {id : Int} {k : Nat} (hk : k < xs.length) (h1 : xs[k].id = id) (h2 : ∀ j (hj : j < xs.length), j < k → xs[j].id ≠ id) : ndAt xs id = k :=
  findI_hit _ xs k hk (fun j hj hjk => by simpa using h2 j hj hjk) (by simpa using h1)
theorem ndAt_ge (xs : List TNode) (id : Int) : -1 ≤ ndAt xs id := findI_ge _ xs
theorem hOf_at {xs : List TNode} {k : Nat} (hk : k < xs.length) : hOf xs k = xs[k].height := by simp [hOf, List.getElem?_eq_getElem hk]
theorem pOf_at {xs : List TNode} {k : Nat} (hk : k < xs.length) : pOf xs k = xs[k].prev := by simp [pOf, List.getElem?_eq_getElem hk]
theorem ndAt_take {xs : List TNode} {id : Int} {k : Nat} (h : 0 ≤ ndAt (xs.take k) id) : ndAt xs id = ndAt (xs.take k) id ∧ ndAt xs id < k := by
  obtain ⟨j, hj, e, h1, h2⟩ := ndAt_lt h
  have hj' : j < xs.length := by simp at hj; omega
  have hjk : j < k := by simp at hj; omega
  rw [e]
  have : ndAt xs id = j := ndAt_hit hj' (by simpa using h1) fun q hq hqj => by
    have := h2 q (by simp; omega) hqj
    simpa using this
  exact ⟨this, by omega⟩

/-- A tree without a fault. -/
structure Right (xs : List TNode) : Prop where
  len : xs.length ≤ 60
  ok : ∀ k (hk : k < xs.length), nodeFault (xs.take k) xs[k] = 0
theorem tfGo_zero (xs : List TNode) : ∀ n k, n = xs.length - k → k ≤ xs.length → tfGo (xs.take k) (xs.drop k) = 0 → ∀ j (hj : j < xs.length), k ≤ j → nodeFault (xs.take j) xs[j] = 0
  | 0, k, hn, hk, _, j, hj, hkj => by omega
  | n + 1, k, hn, hk, h, j, hj, hkj => by
    rw [tfGo_step xs k (by omega)] at h
    by_cases e : nodeFault (xs.take k) xs[k] = 0
    · have e' : (nodeFault (xs.take k) xs[k] == 0) = true := by simpa using e
      rw [e', if_pos rfl] at h
      rcases Nat.lt_or_ge k j with h1 | h1
      · exact tfGo_zero xs n (k + 1) (by omega) (by omega) h j hj (by omega)
      · have : j = k := by omega
        subst this
        exact e
    · have e' : (nodeFault (xs.take k) xs[k] == 0) = false := by simpa using e
      rw [e'] at h
      simp only [Bool.false_eq_true, if_false] at h
      exact absurd h e
theorem Right.of {xs : List TNode} (h : treeFault xs = 0) : Right xs := by
  unfold treeFault at h
  by_cases hl : (60 : Int) < (xs.length : Int)
  · rw [if_pos (by simpa using hl)] at h; cases h
  · rw [if_neg (by simpa using hl)] at h
    exact ⟨by omega, fun k hk => tfGo_zero xs xs.length 0 (by omega) (by omega) (by simpa using h) k hk (by omega)⟩
theorem nodeFault_zero {xs : List TNode} {n : TNode} (h : nodeFault xs n = 0) : 1 ≤ n.id ∧ n.id ≤ 60 ∧ 1 ≤ n.height ∧ n.height ≤ 40 ∧ ndAt xs n.id < 0 ∧ (n.prev = 0 ∨ 0 ≤ ndAt xs n.prev) ∧ n.height = upOf xs n.prev := by
  unfold nodeFault at h
  split at h
  · cases h
  · rename_i h1
    split at h
    · cases h
    · rename_i h2
      split at h
      · cases h
      · rename_i h3
        split at h
        · cases h
        · rename_i h4
          simp [inB] at h1 h2 h3 h4
          refine ⟨by omega, by omega, by omega, by omega, by omega, ?_, h4⟩
          by_cases hp : n.prev = 0
          · exact .inl hp
          · exact .inr (h3 hp)
section
variable {xs : List TNode} (R : Right xs)
include R
theorem Right.bounds (k : Nat) (hk : k < xs.length) : 1 ≤ xs[k].id ∧ xs[k].id ≤ 60 ∧ 1 ≤ xs[k].height ∧ xs[k].height ≤ 40 := by
  obtain ⟨a, b, c, d, _⟩ := nodeFault_zero (R.ok k hk)
  exact ⟨a, b, c, d⟩
theorem Right.zero : ndAt xs 0 < 0 := by
  rcases ltge (ndAt xs 0) 0 with h | h
  · exact h
  · obtain ⟨k, hk, _, h1, _⟩ := ndAt_lt h
    have := (R.bounds k hk).1
    omega
theorem Right.inj (j k : Nat) (hj : j < xs.length) (hk : k < xs.length) (h : xs[j].id = xs[k].id) : j = k := by
  have key : ∀ j k (hj : j < xs.length) (hk : k < xs.length), j < k → xs[j].id = xs[k].id → False := fun j k hj hk hjk h => by
    have := (nodeFault_zero (R.ok k hk)).2.2.2.2.1
    have h0 : 0 ≤ ndAt (xs.take k) xs[k].id := by
      rcases ltge (ndAt (xs.take k) xs[k].id) 0 with h' | h'
      · exfalso
        have hh : ∀ q (hq : q < (xs.take k).length), ((xs.take k)[q].id == xs[k].id) = false := fun q hq => by
          cases hx : ((xs.take k)[q].id == xs[k].id) with
          | false => rfl
          | true =>
            have hp : (xs.take k).any (fun n => n.id == xs[k].id) = true := List.any_eq_true.2 ⟨_, List.getElem_mem hq, hx⟩
            rw [← findI_any] at hp
            simp at hp
            unfold ndAt at h'
            omega
        have := hh j (by simp; omega)
        simp [h] at this
      · exact h'
    omega
  rcases Nat.lt_trichotomy j k with h1 | h1 | h1
  · exact (key j k hj hk h1 h).elim
  · exact h1
  · exact (key k j hk hj h1 h.symm).elim
theorem Right.at (k : Nat) (hk : k < xs.length) : ndAt xs xs[k].id = k := ndAt_hit hk rfl fun j hj hjk e => by
  have := R.inj j k hj hk e
  omega
/-- The node above. -/
theorem Right.up (k : Nat) (hk : k < xs.length) : (xs[k].prev = 0 ∧ xs[k].height = 1) ∨ ∃ (j : Nat) (hj : j < xs.length), j < k ∧ ndAt xs xs[k].prev = j ∧ xs[k].height = xs[j].height + 1 := by
  obtain ⟨a, b, c, d, e, f, g⟩ := nodeFault_zero (R.ok k hk)
  unfold upOf at g
  by_cases hp : xs[k].prev = 0
  · rw [if_pos (by simpa using hp)] at g
    exact .inl ⟨hp, g⟩
  · right
    have f' : 0 ≤ ndAt (xs.take k) xs[k].prev := by
      rcases f with f | f
      · exact absurd f hp
      · exact f
    rw [if_neg (by simpa using hp), if_neg (by simp; omega)] at g
    obtain ⟨h1, h2⟩ := ndAt_take f'
    obtain ⟨j, hj, e1, e2, e3⟩ := ndAt_lt f'
    have hj' : j < xs.length := by simp at hj; omega
    refine ⟨j, hj', by omega, by omega, ?_⟩
    rw [e1, hOf_at hj, wr] at g
    · simpa using g
    · have := (R.bounds j hj').2.2; simp; omega
    · have := (R.bounds j hj').2.2; simp; omega
end

/-- How high a number's node is; 0: there is none. -/
def hgt (xs : List TNode) (id : Int) : Nat := if ndAt xs id < 0 then 0 else (hOf xs (ndAt xs id)).toNat
def upId (xs : List TNode) (id : Int) : Int := pOf xs (ndAt xs id)
def anc (xs : List TNode) : Nat → Int → List Int
  | 0, _ => []
  | f + 1, id => if decide (ndAt xs id < 0) then [] else id :: anc xs f (upId xs id)
/-- From a node up to the first one. -/
def path (xs : List TNode) (id : Int) : List Int := anc xs 64 id
theorem path_none {xs : List TNode} {id : Int} (h : ndAt xs id < 0) : path xs id = [] := by
  unfold path anc
  rw [if_pos (by simpa using h)]
section
variable {xs : List TNode} (R : Right xs)
include R
theorem Right.hgt_up {id : Int} (h : 0 ≤ ndAt xs id) : hgt xs id = hgt xs (upId xs id) + 1 ∧ hgt xs id ≤ 40 ∧ (upId xs id = 0 ↔ ndAt xs (upId xs id) < 0) := by
  obtain ⟨k, hk, e, e1, e2⟩ := ndAt_lt h
  have hb := R.bounds k hk
  have hh : hgt xs id = xs[k].height.toNat := by unfold hgt; rw [if_neg (by omega), e, hOf_at hk]
  have hu : upId xs id = xs[k].prev := by unfold upId; rw [e, pOf_at hk]
  rw [hu]
  rcases R.up k hk with ⟨h1, h2⟩ | ⟨j, hj, h1, h2, h3⟩
  · have h0 : hgt xs xs[k].prev = 0 := by unfold hgt; rw [h1, if_pos R.zero]
    refine ⟨by omega, by omega, by rw [h1]; exact ⟨fun _ => R.zero, fun _ => rfl⟩⟩
  · have hj0 : hgt xs xs[k].prev = xs[j].height.toNat := by unfold hgt; rw [if_neg (by omega), h2, hOf_at hj]
    have := R.bounds j hj
    refine ⟨by omega, by omega, ⟨fun h => ?_, fun h => by omega⟩⟩
    rw [h] at h2
    have := R.zero
    omega
theorem Right.anc_fuel : ∀ (f g : Nat) (id : Int), hgt xs id ≤ f → hgt xs id ≤ g → anc xs f id = anc xs g id
  | 0, 0, _, _, _ => rfl
  | 0, g + 1, id, hf, _ => by
    unfold anc
    by_cases h : ndAt xs id < 0
    · rw [if_pos (by simpa using h)]
    · have := (R.hgt_up (id := id) (by omega)).1; omega
  | f + 1, 0, id, _, hg => by
    unfold anc
    by_cases h : ndAt xs id < 0
    · rw [if_pos (by simpa using h)]
    · have := (R.hgt_up (id := id) (by omega)).1; omega
  | f + 1, g + 1, id, hf, hg => by
    unfold anc
    by_cases h : ndAt xs id < 0
    · rw [if_pos (by simpa using h), if_pos (by simpa using h)]
    · rw [if_neg (by simpa using h), if_neg (by simpa using h)]
      have := (R.hgt_up (id := id) (by omega)).1
      rw [Right.anc_fuel f g (upId xs id) (by omega) (by omega)]
theorem Right.path_some {id : Int} (h : 0 ≤ ndAt xs id) : path xs id = id :: path xs (upId xs id) := by
  have hu := R.hgt_up h
  unfold path
  rw [show anc xs 64 id = id :: anc xs 63 (upId xs id) by
    conv => lhs; unfold anc
    rw [if_neg (by simp; omega)], R.anc_fuel 63 64 (upId xs id) (by omega) (by omega)]
theorem Right.path_len (id : Int) : (path xs id).length = hgt xs id := by
  have : ∀ n id, hgt xs id = n → (path xs id).length = n := by
    intro n
    induction n with
    | zero =>
      intro id h
      have hn : ndAt xs id < 0 := by
        rcases ltge (ndAt xs id) 0 with h' | h'
        · exact h'
        · have := (R.hgt_up h').1; omega
      rw [path_none hn]
      rfl
    | succ n ih =>
      intro id h
      have hn : 0 ≤ ndAt xs id := by
        rcases ltge (ndAt xs id) 0 with h' | h'
        · unfold hgt at h; rw [if_pos h'] at h; omega
        · exact h'
      have hu := R.hgt_up hn
      rw [R.path_some hn, List.length_cons, ih (upId xs id) (by omega)]
  exact this _ id rfl
theorem Right.hgt_le (id : Int) : hgt xs id ≤ 40 := by
  rcases ltge (ndAt xs id) 0 with h | h
  · unfold hgt; rw [if_pos h]; omega
  · exact (R.hgt_up h).2.1
end
/-- Is one node another one, or above it? -/
def above (xs : List TNode) (a b : Int) : Bool := (path xs b).any fun x => a == x
def relatedT (xs : List TNode) (a b : Int) : Bool := above xs a b || above xs b a
/-- Where the way up from one node first meets those above another one. -/
def forkAt (p q : List Int) : Int := (p.find? fun x => q.any fun y => x == y).getD 0
theorem forkAt_rev (q : List Int) : ∀ p : List Int, p.reverse.foldl (fun o x => if q.any (fun y => x == y) then x else o) 0 = forkAt p q
  | [] => rfl
  | x :: p => by
    rw [List.reverse_cons, List.foldl_append, forkAt_rev q p]
    simp only [List.foldl_cons, List.foldl_nil, forkAt, List.find?_cons]
    cases q.any (fun y => x == y) <;> rfl
end Go.BM
