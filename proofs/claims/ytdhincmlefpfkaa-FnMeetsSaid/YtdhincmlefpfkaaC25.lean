/- Lists that a loop makes: nil or a block, behind boxes. -/
import Derived.Test.YtdhincmlefpfkaaC24
set_option linter.unusedVariables false
set_option linter.unusedSimpArgs false
namespace Go.BM
open Go.RowKit
section
variable {P : Program} {B : Nat} {α : Type} {E : Enc α}
/-- A slice that is nil, or the whole of a block behind n boxes. -/
def SlM (n : Nat) (el : TypeId) (E : Enc α) (M : AH) (a : Option Addr) (len ver : Nat) (ys : List α) : Prop :=
  (a = none ∧ len = 0 ∧ ver = 0 ∧ ys = []) ∨ ∃ r, a = some ⟨n + r, 0, none⟩ ∧ len = ys.length ∧ M[r]? = some (sb el E ys ver true)
theorem SlM.nil (n : Nat) (el : TypeId) (E : Enc α) (M : AH) : SlM n el E M none 0 0 [] := .inl ⟨rfl, rfl, rfl, rfl⟩
theorem SlM.blk {n el : Nat} {M : AH} {r q len ver : Nat} {ys : List α} (h : M[r]? = some (sb el E ys ver true)) (hq : q = n + r) (hl : len = ys.length) : SlM n el E M (some ⟨q, 0, none⟩) len ver ys := .inr ⟨r, by rw [hq], hl, h⟩
theorem SlM.app {n el by_ : Nat} {M : AH} {a : Option Addr} {len ver t tx : Nat} {ys : List α} {z : TypeId × Nat × Nat} (h : SlM n el E M a len ver ys) (p : AH) (hp : p.length = n) (q : Nat) (hq : q = n + M.length) (hz : elZ P t = some (el, E.sz, by_)) (hzx : elZ P tx = some z) (hok : zOk P el E.sz = true) (hB : B ≤ n)
    (y : α) (h1 : (ys.length + 1) * by_ ≤ 140737488355328) (h2 : ys.length + 1 ≤ 140737488355328) :
    ∃ a' len' ver' M', appendH P B (p ++ (M ++ [⟨el, E.sz, cellsV (E.val y), 0, true⟩])) t tx (.slice a len ver) (.slice (some ⟨q, 0, none⟩) 1 0) = some (.slice a' len' ver', p ++ M') ∧ SlM n el E M' a' len' ver' (ys ++ [y]) ∧ M.length ≤ M'.length ∧
      ∀ i, i < M.length → a ≠ some ⟨n + i, 0, none⟩ → M'[i]? = M[i]? := by
  subst hq
  have hat : (p ++ (M ++ [⟨el, E.sz, cellsV (E.val y), 0, true⟩]))[n + M.length]? = some ⟨el, E.sz, cellsV (E.val y), 0, true⟩ := by
    rw [List.getElem?_append_right (by omega), List.getElem?_append_right (by omega)]
    simp [hp]
  have hsrc : srcV P (p ++ (M ++ [(⟨el, E.sz, cellsV (E.val y), 0, true⟩ : Blk)])) el E.sz tx (.slice (some ⟨n + M.length, 0, none⟩) 1 0) = some ([y].length, E.flat [y]) :=
    srcV_own hzx hat rfl rfl (by simp only [E.flat_one, List.drop_zero, List.length_cons, List.length_nil, Nat.zero_add, Nat.one_mul]; exact List.take_of_length_le (by rw [E.hsz]; exact Nat.le_refl _)) (by simp [E.hsz])
  rcases h with ⟨rfl, rfl, rfl, rfl⟩ | ⟨r, rfl, rfl, hr⟩
  · refine ⟨some ⟨n + (M.length + 1), 0, none⟩, 1, 0, M ++ [⟨el, E.sz, cellsV (E.val y), 0, true⟩] ++ [sb el E [y] 0 true], ?_, ?_, by simp, fun i hi _ => ?_⟩
    · rw [appendH_nil hz hok hsrc (by simp) (by simpa using h1) (by simp)]
      simp only [List.append_assoc, List.length_append, List.length_cons, List.length_nil, hp, Nat.zero_add]
    · refine .inr ⟨M.length + 1, rfl, rfl, ?_⟩
      · rw [List.getElem?_append_right (by simp)]
        simp
    · rw [List.append_assoc, List.getElem?_append_left hi]
  · have hrl : r < M.length := lt_of_some hr
    have hg : (p ++ (M ++ [⟨el, E.sz, cellsV (E.val y), 0, true⟩]))[n + r]? = some (sb el E ys ver true) := by
      rw [List.getElem?_append_right (by omega), show n + r - p.length = r by omega, List.getElem?_append_left hrl]
      exact hr
    refine ⟨some ⟨n + r, 0, none⟩, (ys ++ [y]).length, ver + 1, (M ++ [(⟨el, E.sz, cellsV (E.val y), 0, true⟩ : Blk)]).set r (sb el E (ys ++ [y]) (ver + 1) true), ?_, ?_, by simp, fun i hi hne => ?_⟩
    · rw [appendH_sb hz hok hg (by omega) hsrc h1 h2]
      rw [List.set_append_right _ _ (by omega), show n + r - p.length = r by omega]
      rfl
    · exact .inr ⟨r, rfl, rfl, List.getElem?_set_self (by simp; omega)⟩
    · have : r ≠ i := fun e => hne (by rw [e])
      rw [List.getElem?_set_ne this, List.getElem?_append_left hi]
theorem SlM.bor {n el : Nat} {M : AH} {a : Option Addr} {len ver : Nat} {ys : List α} (h : SlM n el E M a len ver ys) (p : AH) (hp : p.length = n) : Bor (p ++ M) (.slice a len ver) (islE E ys) := by
  rcases h with ⟨rfl, rfl, rfl, rfl⟩ | ⟨r, rfl, rfl, hr⟩
  · exact Bor.nil
  · refine Bor.sb (el := el) (o := true) ?_ (fun _ => rfl) rfl
    rw [List.getElem?_append_right (by omega), show n + r - p.length = r by omega]
    exact hr
theorem SlM.own {n el : Nat} {M : AH} {a : Option Addr} {len ver : Nat} {ys : List α} (h : SlM n el E M a len ver ys) (hf : ∀ c ∈ E.flat ys, flatV c = true) (p : AH) (hp : p.length = n) : ∃ S : List Nat, S.Nodup ∧ OwnL true (p ++ M) [.slice a len ver] [islE E ys] S ∧ ∀ r ∈ S, n ≤ r := by
  rcases h with ⟨rfl, rfl, rfl, rfl⟩ | ⟨r, rfl, rfl, hr⟩
  · exact ⟨[], by simp, OwnL.slNil, by simp⟩
  · refine ⟨[n + r], by simp, OwnL.sl (el := el) (sz := E.sz) (o := true) (rest := []) ?_ (fun _ => rfl) rfl hf (fun _ => ⟨rfl, rfl⟩), by simp⟩
    rw [List.getElem?_append_right (by omega), show n + r - p.length = r by omega, List.append_nil]
    exact hr
theorem OwnL.sbO {H : AH} {r el ver n : Nat} {o : Bool} {sp : Option Nat} {ys : List α} (hb : H[r]? = some (sb el E ys ver o)) (ho : ys.length ≠ 0 → o = true) (hn : n = ys.length) (hf : ∀ c ∈ E.flat ys, flatV c = true) : OwnL false H [.slice (some ⟨r, 0, sp⟩) n ver] [islE E ys] [r] :=
  OwnL.sl (el := el) (sz := E.sz) (o := o) (rest := []) (by rw [List.append_nil]; exact hb) ho hn hf (fun e => by cases e)
theorem OwnL.slE {H : AH} {r el sz ver n : Nat} {o : Bool} {sp : Option Nat} {ys : List α} (hb : H[r]? = some ⟨el, sz, E.flat ys, ver, o⟩) (ho : ys.length ≠ 0 → o = true) (hn : n = ys.length) (hf : ∀ c ∈ E.flat ys, flatV c = true) : OwnL false H [.slice (some ⟨r, 0, sp⟩) n ver] [islE E ys] [r] :=
  OwnL.sl (el := el) (sz := sz) (o := o) (rest := []) (by rw [List.append_nil]; exact hb) ho hn hf (fun e => by cases e)
theorem Bor.sbE {H : AH} {r el ver n : Nat} {o : Bool} {sp : Option Nat} {ys : List α} (hb : H[r]? = some ⟨el, E.sz, E.flat ys, ver, o⟩) (ho : ys.length ≠ 0 → o = true) (hn : n = ys.length) : Bor H (.slice (some ⟨r, 0, sp⟩) n ver) (islE E ys) := Bor.sb (el := el) (o := o) hb ho hn
/-- A list is appended to a slice that is nil or a block, from a slice that is only read or a block. -/
theorem SlM.src {n el : Nat} {M : AH} {a : Option Addr} {len ver t : Nat} {ys : List α} {z : TypeId × Nat × Nat} (h : SlM n el E M a len ver ys) (hz : elZ P t = some z) (p : AH) (hp : p.length = n) (N : AH) (el' : TypeId) : srcV P (p ++ (M ++ N)) el' E.sz t (.slice a len ver) = some (ys.length, E.flat ys) := by
  rcases h with ⟨rfl, rfl, rfl, rfl⟩ | ⟨r, rfl, rfl, hr⟩
  · unfold srcV
    simp only [asI_slice]
    rw [hz]
    rfl
  · refine srcV_own hz (blk := sb el E ys ver true) ?_ rfl rfl (by simp [sb, E.flat_all]) (by simp [sb, E.flat_length])
    rw [List.getElem?_append_right (by omega), show n + r - p.length = r by omega, List.getElem?_append_left (lt_of_some hr)]
    exact hr
theorem SlM.grow {n el : Nat} {M : AH} {a : Option Addr} {len ver : Nat} {ys : List α} (h : SlM n el E M a len ver ys) (N : AH) : SlM n el E (M ++ N) a len ver ys := by
  rcases h with h | ⟨r, h1, h2, h3⟩
  · exact .inl h
  · exact .inr ⟨r, h1, h2, by rw [List.getElem?_append_left (lt_of_some h3)]; exact h3⟩
theorem SlM.len {n el : Nat} {M : AH} {a : Option Addr} {len ver : Nat} {ys : List α} (h : SlM n el E M a len ver ys) : len = ys.length := by
  rcases h with ⟨_, h, _, h'⟩ | ⟨r, h1, h2, h3⟩
  · rw [h, h']; rfl
  · exact h2
end
end Go.BM
