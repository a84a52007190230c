/- New slices: made, written, marked. -/
import Derived.Test.YtdhincmlefpfkaaC16
set_option linter.unusedVariables false
set_option linter.unusedSimpArgs false
namespace Go.BM
open Go.RowKit
section
variable {α : Type} {E : Enc α} {P : Program} {B : Nat} {H : AH}

theorem zerosOf_eq (E : Enc α) (z : α) (n : Nat) : zerosOf (cellsV (E.val z)) (n * E.sz) = E.flat (List.replicate n z) := by
  apply List.ext_getElem?
  intro j
  have hl := E.hsz z
  have hp := E.hpos
  have hrep : ∀ n, E.flat (List.replicate n z) = (List.replicate n (cellsV (E.val z))).flatten := by
    intro n
    induction n with
    | zero => rfl
    | succ n ih => simp only [List.replicate_succ, E.flat_cons, List.flatten_cons, ih]
  rcases Nat.lt_or_ge j (n * E.sz) with hj | hj
  · have hk : j / E.sz < n := by rw [Nat.div_lt_iff_lt_mul hp]; exact hj
    have hq : j % E.sz < E.sz := Nat.mod_lt _ hp
    have e : j / E.sz * E.sz + j % E.sz = j := Nat.div_add_mod' j _
    have h2 : (E.flat (List.replicate n z))[j]? = (cellsV (E.val z))[j % E.sz]? := by
      have := congrArg (fun l => l[j % E.sz]?) (E.flat_drop (List.replicate n z) (j / E.sz))
      simp only [List.getElem?_drop, e] at this
      rw [this, E.drop_cons _ _ (by simpa using hk), List.getElem?_append_left (by rw [E.hsz]; exact hq)]
      simp
    rw [h2]
    unfold zerosOf
    rw [List.getElem?_map, List.getElem?_range hj]
    simp only [Option.map_some, hl]
    rw [List.getElem?_eq_getElem (by omega)]
    simp [List.getD, List.getElem?_eq_getElem (show j % E.sz < (cellsV (E.val z)).length by omega)]
  · rw [List.getElem?_eq_none (by simp [zerosOf]; exact hj), List.getElem?_eq_none (by rw [E.flat_length]; simpa using hj)]

theorem makeH_cells {t el sz by_ : Nat} {zv : Value} (hz : elZ P t = some (el, sz, by_)) (hv : zeroV P el = some zv) (ho : zOk P el sz = true) {n : Nat} (hb : by_ * n ≤ 140737488355328) (hn : n ≤ 140737488355328) :
    makeH P H t (.int .i64 n) (.int .i64 n) = some (.slice (some ⟨H.length, 0, none⟩) n 0, H ++ [⟨el, sz, zerosOf (cellsV zv) (n * sz), 0, true⟩]) := by
  unfold makeH
  dsimp only
  rw [hz]
  dsimp only
  rw [hv]
  dsimp only
  have h3 : ((by_ * n : Nat) : Int) ≤ 140737488355328 := by omega
  rw [Int.natCast_mul] at h3
  rw [if_pos ⟨ho, by omega, Int.le_refl _, h3, by omega⟩, cellsV_eq, Int.toNat_natCast]
  rfl
theorem zerosOf_len (z : List Value) (k : Nat) : (zerosOf z k).length = k := by simp [zerosOf]
theorem zerosOf_zero (z : List Value) : zerosOf z 0 = [] := rfl

/-- A whole element is written among cells. -/
theorem storeH_at {T r ver n el sz off : Nat} {g : Bool} {pre mid post : List Value} {v : Value} (hb : H[r]? = some ⟨el, sz, pre ++ mid ++ post, ver, true⟩) (hB : B ≤ r) (hl : lay P T = some (g, n)) (hp : off = pre.length) (hm : mid.length = n) (hv : (cellsV v).length = n) (h1 : (cellsV v).all Value.oneCell' = true) :
    storeH P B H T (.pointer (some ⟨r, off, some ver⟩)) v = some (H.set r ⟨el, sz, pre ++ cellsV v ++ post, ver, true⟩) := by
  subst hp
  rw [storeH_ptr, hl]
  simp only [Option.bind_some, hb]
  rw [if_pos ⟨trivial, trivial, hB, hv, by simp; omega, h1⟩]
  have e1 : List.take pre.length (pre ++ mid ++ post) = pre := by rw [List.append_assoc, List.take_left]
  have e2 : List.drop (pre.length + (cellsV v).length) (pre ++ mid ++ post) = post := by
    rw [hv, ← hm, show pre.length + mid.length = (pre ++ mid).length by simp, List.drop_left]
  unfold splice
  rw [e1, e2]
theorem cellsE_all (E : Enc α) (y : α) : (cellsV (E.val y)).all Value.oneCell' = true := E.one y
/-- The next element of a copy. -/
theorem store_next {T el r k ver n : Nat} {g : Bool} {ys : List α} {y : α} {z : List Value} (hb : H[r]? = some ⟨el, E.sz, E.flat ys ++ zerosOf z ((n - k) * E.sz), ver, true⟩) (hy : ys.length = k) (hk : k < n) (hB : B ≤ r) (hl : lay P T = some (g, E.sz)) (hz : z.length = E.sz) :
    storeH P B H T (.pointer (some ⟨r, k * E.sz, some ver⟩)) (E.val y) = some (H.set r ⟨el, E.sz, E.flat (ys ++ [y]) ++ zerosOf z ((n - (k + 1)) * E.sz), ver, true⟩) := by
  have e : zerosOf z ((n - k) * E.sz) = z ++ zerosOf z ((n - (k + 1)) * E.sz) := by
    have e1 : (n - k) * E.sz = E.sz + (n - (k + 1)) * E.sz := by
      rw [show n - k = (n - (k + 1)) + 1 by omega, Nat.add_mul, Nat.one_mul, Nat.add_comm]
    rw [e1]
    apply List.ext_getElem?
    intro j
    unfold zerosOf
    rcases Nat.lt_or_ge j (E.sz + (n - (k + 1)) * E.sz) with hj | hj
    · rw [List.getElem?_map, List.getElem?_range hj]
      rcases Nat.lt_or_ge j E.sz with h1 | h1
      · rw [List.getElem?_append_left (by omega)]
        simp [hz, Nat.mod_eq_of_lt h1, List.getD, List.getElem?_eq_getElem (show j < z.length by omega)]
      · rw [List.getElem?_append_right (by omega), List.getElem?_map, List.getElem?_range (by omega)]
        simp only [Option.map_some, hz]
        rw [Nat.mod_eq_sub_mod h1]
    · rw [List.getElem?_eq_none (by simp; omega), List.getElem?_eq_none (by simp; omega)]
  rw [e, ← List.append_assoc] at hb
  rw [storeH_at hb hB hl (by rw [E.flat_length, hy]) hz (E.hsz y) (E.one y)]
  rw [E.flat_append, E.flat_one]
end

/-! ### marks -/
def marksC (k : Int) (n : Nat) : List Value := (List.range n).map fun j => .int .i64 (k + (j : Nat))
theorem marksC_len (k : Int) (n : Nat) : (marksC k n).length = n := by simp [marksC]
theorem marksC_succ (k : Int) (n : Nat) : marksC k (n + 1) = marksC k n ++ [.int .i64 (k + n)] := by simp [marksC, List.range_succ]
theorem marksC_get (k : Int) {n j : Nat} (h : j < n) : (marksC k n)[j]? = some (.int .i64 (k + j)) := by simp [marksC, h]
theorem marksC_ok (k : Int) (n : Nat) : ∀ c ∈ marksC k n, Ok c := fun c h => by
  obtain ⟨j, _, rfl⟩ := List.mem_map.1 h
  exact .int _ _
def marksS (f : Int → ByteArray) (k : Int) (n : Nat) : List Value := (List.range n).map fun j => .string (f (k + (j : Nat)))
theorem marksS_len (f : Int → ByteArray) (k : Int) (n : Nat) : (marksS f k n).length = n := by simp [marksS]
theorem marksS_succ (f : Int → ByteArray) (k : Int) (n : Nat) : marksS f k (n + 1) = marksS f k n ++ [.string (f (k + n))] := by simp [marksS, List.range_succ]
theorem marksS_get (f : Int → ByteArray) (k : Int) {n j : Nat} (h : j < n) : (marksS f k n)[j]? = some (.string (f (k + j))) := by simp [marksS, h]
theorem marksS_ok (f : Int → ByteArray) (k : Int) (n : Nat) : ∀ c ∈ marksS f k n, Ok c := fun c h => by
  obtain ⟨j, _, rfl⟩ := List.mem_map.1 h
  exact .str _
section
variable {P : Program} {B : Nat} {H : AH}
/-- One more mark. -/
theorem mark_step {T r ver el sz p : Nat} {cs : List Value} {k : Int} (hb : H[r]? = some ⟨el, sz, marksC k p ++ cs.drop p, ver, true⟩) (hB : B ≤ r) (hl : lay P T = some (false, 1)) (hp : p < cs.length) :
    storeH P B H T (.pointer (some ⟨r, p, some ver⟩)) (.int .i64 (k + p)) = some (H.set r ⟨el, sz, marksC k (p + 1) ++ cs.drop (p + 1), ver, true⟩) := by
  rw [List.drop_eq_getElem_cons hp, show marksC k p ++ cs[p] :: cs.drop (p + 1) = marksC k p ++ [cs[p]] ++ cs.drop (p + 1) by simp] at hb
  rw [storeH_at hb hB hl (by rw [marksC_len]) rfl rfl rfl, marksC_succ]
  rfl
theorem markS_step {T r ver el sz p : Nat} {cs : List Value} {f : Int → ByteArray} {k : Int} (hb : H[r]? = some ⟨el, sz, marksS f k p ++ cs.drop p, ver, true⟩) (hB : B ≤ r) (hl : lay P T = some (false, 1)) (hp : p < cs.length) :
    storeH P B H T (.pointer (some ⟨r, p, some ver⟩)) (.string (f (k + p))) = some (H.set r ⟨el, sz, marksS f k (p + 1) ++ cs.drop (p + 1), ver, true⟩) := by
  rw [List.drop_eq_getElem_cons hp, show marksS f k p ++ cs[p] :: cs.drop (p + 1) = marksS f k p ++ [cs[p]] ++ cs.drop (p + 1) by simp] at hb
  rw [storeH_at hb hB hl (by rw [marksS_len]) rfl rfl rfl, marksS_succ]
  rfl
theorem set_same {r : Nat} {b : Blk} (h : H[r]? = some b) : H.set r b = H := by
  apply List.ext_getElem?
  intro j
  by_cases e : j = r
  · subst e
    rw [List.getElem?_set_self (lt_of_some h), h]
  · rw [List.getElem?_set_ne (Ne.symm e)]
theorem idxV_isl {t e s b n k : Nat} {cs : List Value} {kd : IntKind} (hz : elZ P t = some (e, s, b)) (hk : k < n) : idxV P H t (isl n cs) (.int kd (k : Int)) = some (ip (cs.drop (k * s))) := by
  unfold idxV
  rw [hz]
  simp only [asI_isl, Int.toNat_natCast]
  rw [if_pos (by omega)]
theorem lenV_isl {t n : Nat} {z : TypeId × Nat × Nat} {cs : List Value} (hz : elZ P t = some z) : lenV P H t (isl n cs) = some (.int .i64 (n : Nat)) := by
  unfold lenV
  split
  · rename_i s hs
    simp [isl] at hs
  · rw [hz]
    simp only [asI_isl]
theorem load_ip1 {T p : Nat} {cs : List Value} {v : Value} (hl : lay P T = some (false, 1)) (hv : cs[p]? = some v) : loadV P H T (ip (cs.drop p)) = some v := by
  rw [loadV_ip, hl]
  simp only [Option.bind_some, getVar_f, List.getElem?_drop, Nat.add_zero, hv]
theorem fld_ip {s f o p : Nat} {cs : List Value} (hf : fldOff P s f = some o) : fldV P H s (ip (cs.drop p)) f = some (ip (cs.drop (p + o))) := by
  rw [fldV_ip, hf]
  simp only [Option.bind_some, List.drop_drop]
end
/-! ### sizes -/
def szI (n : Nat) (k : Int) : Int := if k - n < 0 then -1 else k - n
/-- The next of what is copied. -/
theorem take_next {α : Type} (xs : List α) (k : Nat) (hk : k < xs.length) : xs.take k ++ [xs[k]] = xs.take (k + 1) := List.take_append_getElem hk
end Go.BM
namespace Go.BM
open Go.RowKit
section
variable {P : Program} {B : Nat} {H : AH} {α : Type} {E : Enc α} {xs : List α}
theorem srcV_isl' {el t e b : Nat} (hz : elZ P t = some (e, E.sz, b)) : srcV P H el E.sz t (islE E xs) = some (xs.length, E.flat xs) := by
  rw [srcV_islE, hz]
  simp only [Option.bind_some]
  rw [if_pos (by rw [E.flat_length]; exact Nat.le_refl _), E.flat_all]
theorem slen_islE : slen H (islE E xs) = some xs.length := by
  unfold slen islE
  simp only [asI_isl]
/-- A nil slice, told as a block that stands nowhere. -/
theorem ACalls.ghost {f : FuncId} {args : List Value} {post post' : Value → AH → Prop} (h : ACalls P B f args H post)
    (hp : ∀ d H', post d H' → post' d H' ∨ (d = .slice none 0 0 ∧ ∃ el sz, post' (.slice (some ⟨H'.length, 0, none⟩) 0 0) (H' ++ [⟨el, sz, [], 0, false⟩]))) : ACalls P B f args H post' :=
  ⟨h.1, fun σ w vals hS hB hv => (h.2 σ w vals hS hB hv).mono fun e w' ⟨v, he, σ', H', d, F, S, V, hd⟩ => by
    rcases hp d H' hd with h1 | ⟨rfl, el, sz, h1⟩
    · exact ⟨v, he, σ', H', d, F, S, V, h1⟩
    · have get : ∀ (q : Nat) (bq : Blk), (H' ++ [⟨el, sz, [], 0, false⟩])[q]? = some bq → bq.own = true → H'[q]? = some bq := fun q bq hbq hoq => by
        rcases Nat.lt_or_ge q H'.length with h1 | h1
        · rw [List.getElem?_append_left h1] at hbq; exact hbq
        · rw [List.getElem?_append_right h1] at hbq
          have := lt_of_some'' hbq
          simp at this
          have : q - H'.length = 0 := by omega
          rw [this] at hbq
          simp at hbq
          subst hbq
          cases hoq
      have F2 : Fut B σ' H' w' σ' (H' ++ [⟨el, sz, [], 0, false⟩]) w' := {
        os := rfl
        tape := rfl
        output := rfl
        size := Nat.le_refl _
        frame := fun _ _ _ => rfl
        pre := fun r hr => List.getElem?_append_left (by have := F.len; omega)
        preσ := fun _ _ _ => rfl
        keep := fun r b hb => ⟨b, by rw [List.getElem?_append_left (lt_of_some hb)]; exact hb, Nat.le_refl _, fun _ => ⟨rfl, rfl, rfl⟩⟩
        loc := fun r b hb hob => .inl ⟨b, get r b hb hob, hob, rfl⟩
        imk := fun _ _ h => h
        imn := fun _ _ h => .inl h }
      have S2 : Sim σ' (H' ++ [⟨el, sz, [], 0, false⟩]) w' := ⟨fun r b hb hob => by
          obtain ⟨c, h1, h2, h3, h4, h5⟩ := S.own r b (get r b hb hob) hob
          exact ⟨c, h1, h2, h3, h4, fun j v hj => by obtain ⟨u, a1, a2, a3⟩ := h5 j v hj; exact ⟨u, a1, a2.fut F2, a3⟩⟩,
        S.im, fun a u ha r b hb hob => S.sep a u ha r b (get r b hb hob) hob, fun r r' b b' hb hb' hrr ho ho' => S.inj r r' b b' (get r b hb ho) (get r' b' hb' ho') hrr ho ho'⟩
      obtain ⟨a, rfl⟩ := V.sliceNil rfl
      exact ⟨_, he, σ', _, _, F.trans F2, S2, .mt _ _ _ (fun x hx => by cases hx; rfl), h1⟩⟩
/-- The front of a block, lent as a slice. -/
theorem Bor.sbp {el r ver : Nat} {o : Bool} {sp : Option Nat} {ys : List α} {n : Nat} {rest : List Value} (hb : H[r]? = some ⟨el, E.sz, E.flat ys ++ rest, ver, o⟩) (ho : ys.length ≠ 0 → o = true) (hn : n = ys.length) : Bor H (.slice (some ⟨r, 0, sp⟩) n ver) (islE E ys) := by
  subst hn
  cases h : ys with
  | nil => subst h; exact .emp r 0 sp ver _ hb rfl
  | cons y l =>
    rw [← h]
    refine Bor.ownL hb rfl (ho (by rw [h]; simp)) (fun h0 => by rw [h] at h0; simp at h0) ⟨E.flat ys, .same fun d hd => (E.flat_ok ys d hd).im, by simp⟩
end
end Go.BM
