/- Lists that a loop makes: nil or a block, behind boxes. -/
import Derived.Test.YtdhincmlefpfkaaC24
set_option linter.unusedVariables false
set_option linter.unusedSimpArgs false
namespace Go.BM
open Go.RowKit
section
variable {P : Program} {B : Nat} {α : Type} {E : Enc α}
/-- A slice that is nil, or the whole of a block behind n boxes. -/
def SlM (n : Nat) (el : TypeId) (E : Enc α) (M : AH) (a : Option Addr) (len ver : Nat) (ys : List α) : Prop :=
  (a = none ∧ len = 0 ∧ ver = 0 ∧ ys = []) ∨ ∃ r, a = some ⟨n + r, 0, none⟩ ∧ len = ys.length ∧ M[r]? = some (sb el E ys ver true)
theorem SlM.nil (n : Nat) (el : TypeId) (E : Enc α) (M : AH) : SlM n el E M none 0 0 [] := .inl ⟨rfl, rfl, rfl, rfl⟩
theorem SlM.blk {n el : Nat} {M : AH} {r q len ver : Nat} {ys : List α} (h : M[r]? = some (sb el E ys ver true)) (hq : q = n + r) (hl : len = ys.length) : SlM n el E M (some ⟨q, 0, none⟩) len ver ys := .inr ⟨r, by rw [hq], hl, h⟩
theorem SlM.app {n el by_ : Nat} {M : AH} {a : Option Addr} {len ver t tx : Nat} {ys : List α} {z : TypeId × Nat × Nat} (h : SlM n el E M a len ver ys) (p : AH) (hp : p.length = n) (q : Nat) (hq : q = n + M.length) (hz : elZ P t = some (el, E.sz, by_)) (hzx : elZ P tx = some z) (hok : zOk P el E.sz = true) (hB : B ≤ n)
    (y : α) (h1 : (ys.length + 1) * by_ ≤ 140737488355328) (h2 : ys.length + 1 ≤ 140737488355328) :
    ∃ a' len' ver' M', appendH P B (p ++ (M ++ [⟨el, E.sz, cellsV (E.val y), 0, true⟩])) t tx (.slice a len ver) (.slice (some ⟨q, 0, none⟩) 1 0) = some (.slice a' len' ver', p ++ M') ∧ SlM n el E M' a' len' ver' (ys ++ [y]) ∧ M.length ≤ M'.length ∧
      ∀ i, i < M.length → a ≠ some ⟨n + i, 0, none⟩ → M'[i]? = M[i]? := by
  subst hq
  have hat : (p ++ (M ++ [⟨el, E.sz, cellsV (E.val y), 0, true⟩]))[n + M.length]? = some ⟨el, E.sz, cellsV (E.val y), 0, true⟩ := by
    rw [List.getElem?_append_right (by omega), List.getElem?_append_right (by omega)]
    simp [hp]
  have hsrc : srcV P (p ++ (M ++ [(⟨el, E.sz, cellsV (E.val y), 0, true⟩ : Blk)])) el E.sz tx (.slice (some ⟨n + M.length, 0, none⟩) 1 0) = some ([y].length, E.flat [y]) :=
    srcV_own hzx hat rfl rfl (by simp only [E.flat_one, List.drop_zero, List.length_cons, List.length_nil, Nat.zero_add, Nat.one_mul]; exact List.take_of_length_le (by rw [E.hsz]; exact Nat.le_refl _)) (by simp [E.hsz])
  rcases h with ⟨rfl, rfl, rfl, rfl⟩ | ⟨r, rfl, rfl, hr⟩
  · refine ⟨some ⟨n + (M.length + 1), 0, none⟩, 1, 0, M ++ [⟨el, E.sz, cellsV (E.val y), 0, true⟩] ++ [sb el E [y] 0 true], ?_, ?_, by simp, fun i hi _ => ?_⟩
    · rw [appendH_nil hz hok hsrc (by simp) (by simpa using h1) (by simp)]
      simp only [List.append_assoc, List.length_append, List.length_cons, List.length_nil, hp, Nat.zero_add]
    · refine .inr ⟨M.length + 1, rfl, rfl, ?_⟩
      · rw [List.getElem?_append_right (by simp)]
        simp
    · rw [List.append_assoc, List.getElem?_append_left hi]
  · have hrl : r < M.length := lt_of_some hr
    have hg : (p ++ (M ++ [⟨el, E.sz, cellsV (E.val y), 0, true⟩]))[n + r]? = some (sb el E ys ver true) := by
      rw [List.getElem?_append_right (by omega), show n + r - p.length = r by omega, List.getElem?_append_left hrl]
      exact hr
    refine ⟨some ⟨n + r, 0, none⟩, (ys ++ [y]).length, ver + 1, (M ++ [(⟨el, E.sz, cellsV (E.val y), 0, true⟩ : Blk)]).set r (sb el E (ys ++ [y]) (ver + 1) true), ?_, ?_, by simp, fun i hi hne => ?_⟩
    · rw [appendH_sb hz hok hg (by omega) hsrc h1 h2]
      rw [List.set_append_right _ _ (by omega), show n + r - p.length = r by omega]
      rfl
    · exact .inr ⟨r, rfl, rfl, List.getElem?_set_self (by simp; omega)⟩
    · have : r ≠ i := fun e => hne (by rw [e])
      rw [List.getElem?_set_ne this, List.getElem?_append_left hi]
theorem SlM.bor {n el : Nat} {M : AH} {a : Option Addr} {len ver : Nat} {ys : List α} (h : SlM n el E M a len ver ys) (p : AH) (hp : p.length = n) : Bor (p ++ M) (.slice a len ver) (islE E ys) := by
  rcases h with ⟨rfl, rfl, rfl, rfl⟩ | ⟨r, rfl, rfl, hr⟩
  · exact Bor.nil
  · refine Bor.sb (el := el) (o := true) ?_ (fun _ => rfl) rfl
    rw [List.getElem?_append_right (by omega), show n + r - p.length = r by omega]
    exact hr
theorem SlM.own {n el : Nat} {M : AH} {a : Option Addr} {len ver : Nat} {ys : List α} (h : SlM n el E M a len ver ys) (hf : ∀ c ∈ E.flat ys, flatV c = true) (p : AH) (hp : p.length = n) : ∃ S : List Nat, S.Nodup ∧ OwnL true (p ++ M) [.slice a len ver] [islE E ys] S ∧ ∀ r ∈ S, n ≤ r := by
  rcases h with ⟨rfl, rfl, rfl, rfl⟩ | ⟨r, rfl, rfl, hr⟩
  · exact ⟨[], by simp, OwnL.slNil, by simp⟩
  · refine ⟨[n + r], by simp, OwnL.sl (el := el) (sz := E.sz) (o := true) (rest := []) ?_ (fun _ => rfl) rfl hf (fun _ => ⟨rfl, rfl⟩), by simp⟩
    rw [List.getElem?_append_right (by omega), show n + r - p.length = r by omega, List.append_nil]
    exact hr
theorem OwnL.sbO {H : AH} {r el ver n : Nat} {o : Bool} {sp : Option Nat} {ys : List α} (hb : H[r]? = some (sb el E ys ver o)) (ho : ys.length ≠ 0 → o = true) (hn : n = ys.length) (hf : ∀ c ∈ E.flat ys, flatV c = true) : OwnL false H [.slice (some ⟨r, 0, sp⟩) n ver] [islE E ys] [r] :=
  OwnL.sl (el := el) (sz := E.sz) (o := o) (rest := []) (by rw [List.append_nil]; exact hb) ho hn hf (fun e => by cases e)
theorem OwnL.slE {H : AH} {r el sz ver n : Nat} {o : Bool} {sp : Option Nat} {ys : List α} (hb : H[r]? = some ⟨el, sz, E.flat ys, ver, o⟩) (ho : ys.length ≠ 0 → o = true) (hn : n = ys.length) (hf : ∀ c ∈ E.flat ys, flatV c = true) : OwnL false H [.slice (some ⟨r, 0, sp⟩) n ver] [islE E ys] [r] :=
  OwnL.sl (el := el) (sz := sz) (o := o) (rest := []) (by rw [List.append_nil]; exact hb) ho hn hf (fun e => by cases e)
theorem Bor.sbE {H : AH} {r el ver n : Nat} {o : Bool} {sp : Option Nat} {ys : List α} (hb : H[r]? = some ⟨el, E.sz, E.flat ys, ver, o⟩) (ho : ys.length ≠ 0 → o = true) (hn : n = ys.length) : Bor H (.slice (some ⟨r, 0, sp⟩) n ver) (islE E ys) := Bor.sb (el := el) (o := o) hb ho hn
/-- A list is appended to a slice that is nil or a block, from a slice that is only read or a block. -/
theorem SlM.src {n el : Nat} {M : AH} {a : Option Addr} {len ver t : Nat} {ys : List α} {z : TypeId × Nat × Nat} (h : SlM n el E M a len ver ys) (hz : elZ P t = some z) (p : AH) (hp : p.length = n) (N : AH) (el' : TypeId) : srcV P (p ++ (M ++ N)) el' E.sz t (.slice a len ver) = some (ys.length, E.flat ys) := by
  rcases h with ⟨rfl, rfl, rfl, rfl⟩ | ⟨r, rfl, rfl, hr⟩
  · unfold srcV
    simp only [asI_slice]
    rw [hz]
    rfl
  · refine srcV_own hz (blk := sb el E ys ver true) ?_ rfl rfl (by simp [sb, E.flat_all]) (by simp [sb, E.flat_length])
    rw [List.getElem?_append_right (by omega), show n + r - p.length = r by omega, List.getElem?_append_left (lt_of_some hr)]
    exact hr
theorem SlM.grow {n el : Nat} {M : AH} {a : Option Addr} {len ver : Nat} {ys : List α} (h : SlM n el E M a len ver ys) (N : AH) : SlM n el E (M ++ N) a len ver ys := by
  rcases h with h | ⟨r, h1, h2, h3⟩
  · exact .inl h
  · exact .inr ⟨r, h1, h2, by rw [List.getElem?_append_left (lt_of_some h3)]; exact h3⟩
theorem SlM.len {n el : Nat} {M : AH} {a : Option Addr} {len ver : Nat} {ys : List α} (h : SlM n el E M a len ver ys) : len = ys.length := by
  rcases h with ⟨_, h, _, h'⟩ | ⟨r, h1, h2, h3⟩
  · rw [h, h']; rfl
  · exact h2
end
end Go.BM
/- Loops as functions of lists: the first code that is not 0. -/
set_option linter.unusedVariables false
namespace Go.BM
/-- The first code that is not 0, each thing judged with those ahead of it; K, if there is none. -/
def scanK {α : Type} (f : List α → α → Int) (K : Int) : List α → List α → Int
  | _, [] => K
  | pre, x :: l => if f pre x == 0 then scanK f K (pre ++ [x]) l else f pre x
theorem scanK_step {α : Type} (f : List α → α → Int) (K : Int) (xs : List α) (k : Nat) (hk : k < xs.length) : scanK f K (xs.take k) (xs.drop k) = if f (xs.take k) xs[k] == 0 then scanK f K (xs.take (k + 1)) (xs.drop (k + 1)) else f (xs.take k) xs[k] := by
  rw [List.drop_eq_getElem_cons hk, ← take_next xs k hk]
  rfl
theorem scanK_end {α : Type} (f : List α → α → Int) (K : Int) (xs : List α) (k : Nat) (hk : ¬ k < xs.length) : scanK f K (xs.take k) (xs.drop k) = K := by
  rw [List.drop_eq_nil_of_le (by omega)]
  rfl
theorem any_hit {α : Type} (p : α → Bool) (xs : List α) (k : Nat) (hk : k < xs.length) (h : p xs[k] = true) : xs.any p = true := List.any_eq_true.2 ⟨_, List.getElem_mem hk, h⟩
theorem any_none {α : Type} (p : α → Bool) (xs : List α) (h : ∀ j (hj : j < xs.length), p xs[j] = false) : xs.any p = false := List.any_eq_false.2 fun x hx => by
  obtain ⟨j, hj, rfl⟩ := List.getElem_of_mem hx
  rw [h j hj]
  exact Bool.false_ne_true
theorem any_findI {α : Type} (p : α → Bool) (xs : List α) : decide (0 < findI p xs + 1) = xs.any p := by
  rw [← findI_any]
  congr 1
  apply propext
  omega
/-- A loop's running value. -/
def foldN {α σ : Type} (f : σ → α → σ) (s : σ) (l : List α) : σ := l.foldl f s
theorem foldN_step {α σ : Type} (f : σ → α → σ) (s : σ) (xs : List α) (k : Nat) (hk : k < xs.length) : foldN f s (xs.take (k + 1)) = f (foldN f s (xs.take k)) xs[k] := by
  unfold foldN
  rw [← take_next xs k hk, List.foldl_append]
  rfl
theorem foldN_nil {α σ : Type} (f : σ → α → σ) (s : σ) : foldN f s [] = s := rfl
theorem filter_step {α : Type} (q : α → Bool) (xs : List α) (k : Nat) (hk : k < xs.length) : (xs.take (k + 1)).filter q = if q xs[k] then (xs.take k).filter q ++ [xs[k]] else (xs.take k).filter q := by
  rw [← take_next xs k hk, List.filter_append]
  cases h : q xs[k] <;> simp [h]
theorem map_step {α β : Type} (g : α → β) (xs : List α) (k : Nat) (hk : k < xs.length) : (xs.take (k + 1)).map g = (xs.take k).map g ++ [g xs[k]] := by
  rw [← take_next xs k hk, List.map_append]
  rfl
end Go.BM
/- Numbers in decimal digits. -/
set_option linter.unusedVariables false
namespace Go.BM
/-- The digits of a number, none for 0. -/
def dgt (n : Nat) : List UInt8 := if n = 0 then [] else dgt (n / 10) ++ [UInt8.ofNat (48 + n % 10)]
termination_by n
decreasing_by omega
theorem dgt_zero : dgt 0 = [] := by unfold dgt; rfl
theorem dgt_pos {n : Nat} (h : 0 < n) : dgt n = dgt (n / 10) ++ [UInt8.ofNat (48 + n % 10)] := by rw [dgt, if_neg (by omega)]
/-- The text of a mark. -/
def mt (k : Int) : ByteArray := if k ≤ 0 then bs [109, 48] else bs ([109] ++ dgt k.toNat)
theorem digit_u8 (n : Nat) : IntKind.u8.wrap (IntKind.i64.wrap (48 + ((n : Int)).tmod 10)) = ((48 + n % 10 : Nat) : Int) := by
  have h : ((n : Int)).tmod 10 = ((n % 10 : Nat) : Int) := by
    rw [Int.tmod_eq_emod_of_nonneg (by omega)]
    omega
  rw [h, wr (by omega) (by omega)]
  have h2 : n % 10 < 10 := Nat.mod_lt _ (by omega)
  generalize n % 10 = d at h2
  have : d = 0 ∨ d = 1 ∨ d = 2 ∨ d = 3 ∨ d = 4 ∨ d = 5 ∨ d = 6 ∨ d = 7 ∨ d = 8 ∨ d = 9 := by omega
  rcases this with rfl | rfl | rfl | rfl | rfl | rfl | rfl | rfl | rfl | rfl <;> decide
theorem quo10 {n : Nat} (h : n ≤ 9223372036854775807) : IntKind.i64.wrap (((n : Int)).tdiv 10) = ((n / 10 : Nat) : Int) := by
  have e : ((n : Int)).tdiv 10 = ((n / 10 : Nat) : Int) := by
    rw [Int.tdiv_eq_ediv_of_nonneg (by omega)]
    omega
  rw [e, wr (by omega) (by omega)]
end Go.BM
/- Marks that nobody reads again. -/
set_option linter.unusedVariables false
set_option linter.unusedSimpArgs false
namespace Go.BM
open Go.RowKit
section
variable {P : Program} {x : Bool} {H H' : AH} {l l' : List Value} {S T : List Nat} {d v y : Value} {α : Type} {E : Enc α}

structure Mkd0 (H H' : AH) (d : Value) (S : List Nat) : Prop where
  len : H.length ≤ H'.length
  old : ∀ r, r < H.length → r ∉ S → H'[r]? = H[r]?
  own : ∃ y, OwnL true H' [d] [y] S
def MCalls0 (P : Program) (f : FuncId) (v : Value) (n : Nat) : Prop := ∀ (H : AH) (d : Value) (S : List Nat) (k : Int), OwnL true H [d] [v] S → S.Nodup → 0 ≤ k → k + (n : Nat) ≤ 1000000000000000 →
  ACalls P 0 f [d, .int .i64 k] H fun e H' => e = .int .i64 (k + (n : Nat)) ∧ Mkd0 H H' d S
theorem MCalls0.ofSl {xs : List α} {f : FuncId} {mk : Int → Nat → List Value} (hmk : ∀ k n, (mk k n).length = n) (hfl : ∀ k n c, c ∈ mk k n → flatV c = true) (hfE : ∀ c ∈ E.flat xs, flatV c = true)
    (h0 : ∀ k, PCalls P f [islE E [], .int .i64 k] (.int .i64 k))
    (hb : ∀ (H : AH) (r ver el sz : Nat) (cs : List Value) (sp : Option Nat) (k : Int), H[r]? = some ⟨el, sz, cs, ver, true⟩ → cs.length = xs.length * E.sz → 0 ≤ k → k ≤ 1000000000000000 →
      ACalls P 0 f [.slice (some ⟨r, 0, sp⟩) xs.length ver, .int .i64 k] H fun d H' => d = .int .i64 (k + (xs.length * E.sz : Nat)) ∧ H' = H.set r ⟨el, sz, mk k (xs.length * E.sz), ver, true⟩) : MCalls0 P f (islE E xs) (xs.length * E.sz) := by
  intro H d S k ho hnd hk hk2
  rcases ho.slI with ⟨rfl, rfl, rfl⟩ | ⟨r, sp, blk, rfl, hr, rfl, rfl, hx⟩ | ⟨r, sp, blk, S1, rfl, hr, hown, hl, hx, rfl, hc⟩
  · refine ACalls.ofP (h0 k) ho.bork rfl ⟨by simp, Nat.le_refl _, fun _ _ _ => rfl, islE E [], .nils .nil⟩
  · refine ACalls.ofP (h0 k) ho.bork rfl ⟨by simp, Nat.le_refl _, fun _ _ _ => rfl, islE E [], ho⟩
  · obtain ⟨rfl, hcs⟩ := hc.flatA hfE
    have hxl := hx rfl
    obtain ⟨el, sz, cs, ver, o⟩ := blk
    dsimp only at hown hl hxl hr hcs ⊢
    subst hown
    rw [E.flat_length] at hxl
    refine (hb H r ver el sz cs sp k hr hxl hk (by omega)).mono ?_
    rintro e H' ⟨rfl, rfl⟩
    refine ⟨rfl, by simp, fun q hq hqs => List.getElem?_set_ne (by simp at hqs; omega), isl xs.length (mk k (xs.length * E.sz)), ?_⟩
    have := OwnL.slice (x := true) (H := H.set r ⟨el, sz, mk k (xs.length * E.sz), ver, true⟩) (r := r) (sp := sp) (len := xs.length) (blk := ⟨el, sz, mk k (xs.length * E.sz), ver, true⟩) (cs := mk k (xs.length * E.sz)) (S := []) (T := []) (l := []) (l' := [])
      (List.getElem?_set_self (lt_of_some hr)) rfl (Nat.le_refl _) (fun _ => rfl) (fun h0 => List.eq_nil_of_length_eq_zero (by rw [hmk, h0]; simp)) (by rw [List.take_length]; exact .ofFlat (hfl k _)) .nil
    exact this

theorem Cx.mark0 {os : List (Value × Value × List Nat)} {bs : List (Nat × Blk)} (h : Cx H os bs) (i : Nat) (hi : os[i]? = some (d, v, S)) (hM : Mkd0 H H' d S) :
    ∃ y, Cx H' (os.set i (d, y, S)) bs := by
  obtain ⟨y, hy⟩ := hM.own
  obtain ⟨hlt, hget⟩ := List.getElem?_eq_some_iff.1 hi
  have hsp : os = os.take i ++ (d, v, S) :: os.drop (i + 1) := by rw [← hget]; simp
  have hse : os.set i (d, y, S) = os.take i ++ (d, y, S) :: os.drop (i + 1) := by rw [List.set_eq_take_append_cons_drop, if_pos hlt]
  have hfl : (os.set i (d, y, S)).flatMap (fun o => o.2.2) = os.flatMap (fun o => o.2.2) := by
    rw [hse]; conv => rhs; rw [hsp]
    simp
  have hnd := h.nd
  rw [hsp] at hnd
  simp only [List.flatMap_append, List.flatMap_cons, List.append_assoc] at hnd
  have hdis : ∀ o ∈ os.take i ++ os.drop (i + 1), ∀ r ∈ o.2.2, r ∉ S := fun o ho r hr hrS => by
    rw [List.nodup_append] at hnd
    obtain ⟨_, h2, h3⟩ := hnd
    rcases List.mem_append.1 ho with ho | ho
    · exact h3 r (List.mem_flatMap.2 ⟨o, ho, hr⟩) r (by simp [hrS]) rfl
    · rw [List.nodup_append] at h2
      exact h2.2.2 r hrS r (List.mem_append_left _ (List.mem_flatMap.2 ⟨o, ho, hr⟩)) rfl
  have hdisb : ∀ b ∈ bs, b.1 ∉ S := fun b hb hrS => by
    rw [List.nodup_append] at hnd
    obtain ⟨_, h2, _⟩ := hnd
    rw [List.nodup_append] at h2
    exact h2.2.2 b.1 hrS b.1 (List.mem_append_right _ (List.mem_map.2 ⟨b, hb, rfl⟩)) rfl
  have hold : ∀ o ∈ os, OwnL true H [o.1] [o.2.1] o.2.2 := h.own
  refine ⟨y, ⟨fun o ho => ?_, ?_, fun b hb => (hM.old _ (lt_of_some (h.box b hb)) (hdisb b hb)).trans (h.box b hb)⟩⟩
  · rw [hse] at ho
    have : o = (d, y, S) ∨ o ∈ os.take i ++ os.drop (i + 1) := by
      rcases List.mem_append.1 ho with ho | ho
      · exact .inr (List.mem_append_left _ ho)
      · rcases List.mem_cons.1 ho with rfl | ho
        · exact .inl rfl
        · exact .inr (List.mem_append_right _ ho)
    rcases this with rfl | hm
    · exact hy
    · have ho' : o ∈ os := by
        rcases List.mem_append.1 hm with h | h
        · exact List.mem_of_mem_take h
        · exact List.mem_of_mem_drop h
      exact (hold o ho').frame fun r hr => hM.old r ((hold o ho').lt r hr) (hdis o hm r hr)
  · rw [hfl]; exact h.nd
end
end Go.BM
