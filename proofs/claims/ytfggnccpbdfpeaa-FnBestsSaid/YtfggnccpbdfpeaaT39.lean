/- FnBests: the best node is above every lock, none is higher, and the next one behind it is the best. -/
import Derived.Test.YtfggnccpbdfpeaaT21
import Derived.Test.YtfggnccpbdfpeaaT17
import Derived.Test.YtfggnccpbdfpeaaT32
import Derived.Test.YtfggnccpbdfpeaaT35
import Derived.Test.YtfggnccpbdfpeaaC34
set_option linter.unusedVariables false
set_option linter.unusedSimpArgs false
set_option maxRecDepth 100000
set_option maxHeartbeats 4000000
namespace Go.BM
open Go.Proofs Go.RowKit
attribute [local irreducible] ACalls AWp aops qops optK optP cK gateA condK mops qcallK PCalls loadV fldV idxV lenV slV storeH binS
theorem tfGo_app : ∀ (rest pre : List TNode) (n : TNode), tfGo pre rest = 0 → nodeFault (pre ++ rest) n = 0 → tfGo pre (rest ++ [n]) = 0
  | [], pre, n, _, h => by
    rw [List.append_nil] at h
    show (if nodeFault pre n == 0 then tfGo (pre ++ [n]) [] else nodeFault pre n) = 0
    rw [h]; rfl
  | y :: rest, pre, n, h1, h2 => by
    have h1 : (if nodeFault pre y == 0 then tfGo (pre ++ [y]) rest else nodeFault pre y) = 0 := h1
    show (if nodeFault pre y == 0 then tfGo (pre ++ [y]) (rest ++ [n]) else nodeFault pre y) = 0
    cases e : (nodeFault pre y == 0) with
    | true =>
      rw [e, if_pos rfl] at h1
      rw [if_pos rfl]
      exact tfGo_app rest (pre ++ [y]) n h1 (by rw [List.append_assoc]; exact h2)
    | false =>
      rw [e] at h1
      simp at h1
      rw [h1] at e
      simp at e
theorem treeFault_app {xs : List TNode} {n : TNode} (h : treeFault xs = 0) (h1 : nodeFault xs n = 0) (h2 : xs.length < 60) : treeFault (xs ++ [n]) = 0 := by
  unfold treeFault at h ⊢
  rw [if_neg (by simp; omega)] at h
  rw [if_neg (by simp; omega)]
  exact tfGo_app xs [] n h h1
theorem ndAt_app {xs : List TNode} {id : Int} (n : TNode) (h : 0 ≤ ndAt xs id) : ndAt (xs ++ [n]) id = ndAt xs id := by
  have := ndAt_take (xs := xs ++ [n]) (id := id) (k := xs.length) (by rw [List.take_left']; exact h; rfl)
  rw [List.take_left' rfl] at this
  exact this.1
theorem get_app {xs : List TNode} {n : TNode} {id : Int} (h : 0 ≤ ndAt xs id) : (xs ++ [n])[(ndAt xs id).toNat]? = xs[(ndAt xs id).toNat]? := by
  obtain ⟨k, hk, e, _⟩ := ndAt_lt h
  rw [e, Int.toNat_natCast, List.getElem?_append_left hk]
theorem upId_app {xs : List TNode} {id : Int} (n : TNode) (h : 0 ≤ ndAt xs id) : upId (xs ++ [n]) id = upId xs id := by
  unfold upId pOf
  rw [ndAt_app n h, get_app h]
theorem hOf_app {xs : List TNode} {id : Int} (n : TNode) (h : 0 ≤ ndAt xs id) : hOf (xs ++ [n]) (ndAt (xs ++ [n]) id) = hOf xs (ndAt xs id) := by
  unfold hOf
  rw [ndAt_app n h, get_app h]
section
variable {xs : List TNode} (R : Right xs)
include R
theorem Right.anc_app {n : TNode} (R2 : Right (xs ++ [n])) : ∀ (f : Nat) (id : Int), id = 0 ∨ 0 ≤ ndAt xs id → anc (xs ++ [n]) f id = anc xs f id
  | 0, _, _ => rfl
  | f + 1, id, h => by
    unfold anc
    rcases h with rfl | h
    · have h1 := R.zero
      have h2 := R2.zero
      rw [if_pos (decide_eq_true h1), if_pos (decide_eq_true h2)]
    · have hu := (R.hgt_up h).2.2
      rw [upId_app n h, Right.anc_app R2 f (upId xs id) (by
        by_cases h0 : upId xs id = 0
        · exact .inl h0
        · exact .inr (by omega)), ndAt_app n h]
theorem Right.path_app {n : TNode} (R2 : Right (xs ++ [n])) {id : Int} (h : id = 0 ∨ 0 ≤ ndAt xs id) : path (xs ++ [n]) id = path xs id := R.anc_app R2 64 id h
theorem Right.related_app {n : TNode} (R2 : Right (xs ++ [n])) {a b : Int} (h1 : 0 ≤ ndAt xs a) (h2 : 0 ≤ ndAt xs b) : relatedT (xs ++ [n]) a b = relatedT xs a b := by
  unfold relatedT above
  rw [R.path_app R2 (.inr h1), R.path_app R2 (.inr h2)]
theorem Right.badL_app {n : TNode} (R2 : Right (xs ++ [n])) {x : TNode} {a : Int} (h1 : 0 ≤ ndAt xs a) (h2 : 0 ≤ ndAt xs x.id) : badL (xs ++ [n]) x a = badL xs x a := by
  unfold badL
  rw [R.related_app R2 h1 h2, hOf_app n h1]
theorem Right.above_hgt {a b : Int} (h : above xs a b = true) : 0 ≤ ndAt xs a ∧ hgt xs a ≤ hgt xs b ∧ (hgt xs a = hgt xs b → a = b) := by
  have hm := (above_mem a b).1 h
  rw [List.mem_reverse] at hm
  have h0 := R.path_in b a hm
  obtain ⟨j, hj, rfl⟩ := List.getElem_of_mem hm
  have e := congrArg List.length (R.path_drop j b hj)
  rw [List.length_drop, R.path_len, R.path_len] at e
  rw [R.path_len] at hj
  refine ⟨h0, by omega, fun e2 => ?_⟩
  have : j = 0 := by omega
  subst this
  have hb : 0 ≤ ndAt xs b := by
    rcases ltge (ndAt xs b) 0 with h' | h'
    · unfold hgt at hj; rw [if_pos h'] at hj; omega
    · exact h'
  have := List.getElem_of_eq (R.path_some hb) (by rw [R.path_len]; exact hj)
  simpa using this
theorem Right.hgt_hOf {a : Int} (h : 0 ≤ ndAt xs a) : hOf xs (ndAt xs a) = (hgt xs a : Int) := by
  obtain ⟨k, hk, e, _⟩ := ndAt_lt h
  have := R.bounds k hk
  unfold hgt
  rw [if_neg (by omega), e, hOf_at hk]
  omega
theorem Right.hgt_node {k : Nat} (hk : k < xs.length) : xs[k].height = (hgt xs xs[k].id : Int) := by
  have h : 0 ≤ ndAt xs xs[k].id := by rw [R.at k hk]; omega
  rw [← R.hgt_hOf h, R.at k hk, hOf_at hk]
end
theorem fold_best (xs : List TNode) (ls : List Int) : ∀ (ys : List TNode) (s : TNode), (ys.foldl (bestF xs ls) s = s ∨ (ys.foldl (bestF xs ls) s ∈ ys ∧ ls.any (badL xs (ys.foldl (bestF xs ls) s)) = false)) ∧ s.height ≤ (ys.foldl (bestF xs ls) s).height ∧ ∀ n ∈ ys, ls.any (badL xs n) = false → n.height ≤ (ys.foldl (bestF xs ls) s).height
  | [], s => ⟨.inl rfl, Int.le_refl _, fun n h => by cases h⟩
  | y :: ys, s => by
    have ih := fold_best xs ls ys (bestF xs ls s y)
    rw [List.foldl_cons]
    generalize ys.foldl (bestF xs ls) (bestF xs ls s y) = b at ih
    obtain ⟨i1, i2, i3⟩ := ih
    have hs : (bestF xs ls s y = s ∧ (ls.any (badL xs y) = false → y.height ≤ s.height)) ∨ (bestF xs ls s y = y ∧ ls.any (badL xs y) = false ∧ s.height ≤ y.height) := by
      unfold bestF
      cases hb : ls.any (badL xs y) with
      | true => exact .inl ⟨by simp, fun h => by cases h⟩
      | false =>
        by_cases hh : s.height < y.height
        · exact .inr ⟨by simp [hh], rfl, by omega⟩
        · exact .inl ⟨by simp [hh], fun _ => by omega⟩
    rcases hs with ⟨e, h1⟩ | ⟨e, h1, h2⟩
    · rw [e] at i1 i2
      refine ⟨?_, i2, fun n hn hb => ?_⟩
      · rcases i1 with h | ⟨h, h'⟩
        · exact .inl h
        · exact .inr ⟨List.mem_cons_of_mem _ h, h'⟩
      · rcases List.mem_cons.1 hn with rfl | hn
        · have := h1 hb; omega
        · exact i3 n hn hb
    · rw [e] at i1 i2
      refine ⟨?_, by omega, fun n hn hb => ?_⟩
      · rcases i1 with h | ⟨h, h'⟩
        · rw [h]; exact .inr ⟨List.mem_cons_self, h1⟩
        · exact .inr ⟨List.mem_cons_of_mem _ h, h'⟩
      · rcases List.mem_cons.1 hn with rfl | hn
        · exact i2
        · exact i3 n hn hb
theorem any_same {p q : Int → Bool} {ls : List Int} (h : ∀ a ∈ ls, p a = q a) : ls.any p = ls.any q := by
  rw [Bool.eq_iff_iff, List.any_eq_true, List.any_eq_true]
  exact ⟨fun ⟨a, ha, e⟩ => ⟨a, ha, by rwa [← h a ha]⟩, fun ⟨a, ha, e⟩ => ⟨a, ha, by rwa [h a ha]⟩⟩
theorem fold_app {xs : List TNode} {n : TNode} (R : Right xs) (R2 : Right (xs ++ [n])) {ls : List Int} (hl : ∀ a ∈ ls, 0 ≤ ndAt xs a) : ∀ (ys : List TNode) (s : TNode), (∀ y ∈ ys, 0 ≤ ndAt xs y.id) → ys.foldl (bestF (xs ++ [n]) ls) s = ys.foldl (bestF xs ls) s
  | [], s, _ => rfl
  | y :: ys, s, h => by
    rw [List.foldl_cons, List.foldl_cons]
    have : bestF (xs ++ [n]) ls s y = bestF xs ls s y := by
      unfold bestF
      rw [any_same (fun a ha => R.badL_app R2 (hl a ha) (h y List.mem_cons_self))]
    rw [this]
    exact fold_app R R2 hl ys _ fun z hz => h z (List.mem_cons_of_mem _ hz)
def highF (bid h : Int) (n : TNode) : Int := if n.id == bid then n.height else h
theorem highK_step (bid : Int) (xs : List TNode) (k : Nat) (hk : k < xs.length) : foldN (highF bid) 0 (xs.take (k + 1)) = if xs[k].id == bid then xs[k].height else foldN (highF bid) 0 (xs.take k) := foldN_step _ _ xs k hk
theorem all_step (f : Int → Bool) (ls : List Int) (k : Nat) (hk : k < ls.length) : (ls.take (k + 1)).all f = ((ls.take k).all f && f ls[k]) := by
  rw [← List.take_append_getElem hk, List.all_append]
  simp
theorem fold_high (bid v : Int) : ∀ (ys : List TNode) (s : Int), (∀ y ∈ ys, y.id = bid → y.height = v) → ys.foldl (highF bid) s = if ys.any (fun y => y.id == bid) then v else s
  | [], s, _ => rfl
  | y :: ys, s, h => by
    rw [List.foldl_cons, fold_high bid v ys _ fun z hz => h z (List.mem_cons_of_mem _ hz), List.any_cons]
    unfold highF
    cases e : (y.id == bid) with
    | true => rw [h y List.mem_cons_self (eq_of_beq e)]; simp
    | false => simp
/-- What is told of the best node. -/
theorem best_plain {xs : List TNode} {ls : List Int} (R : Right xs) (hin : ∀ a ∈ ls, 0 ≤ ndAt xs a) : ∃ b : TNode, b = bestK xs ls xs ∧ 0 ≤ b.height ∧ b.height ≤ 40 ∧ (b.id = 0 ∨ 0 ≤ ndAt xs b.id) ∧ foldN (highF b.id) 0 xs = b.height ∧ (b.id ≠ 0 → ∀ a ∈ ls, above xs a b.id = true) ∧ (∀ x ∈ xs, (∀ a ∈ ls, above xs a x.id = true) → x.height ≤ b.height) := by
  have hf := fold_best xs ls xs ⟨0, 0, 0⟩
  refine ⟨bestK xs ls xs, rfl, ?_⟩
  unfold bestK foldN
  generalize xs.foldl (bestF xs ls) ⟨0, 0, 0⟩ = b at hf
  obtain ⟨f1, f2, f3⟩ := hf
  have hmax : ∀ x ∈ xs, (∀ a ∈ ls, above xs a x.id = true) → x.height ≤ b.height := fun x hx ha => by
    refine f3 x hx ?_
    rw [List.any_eq_false]
    intro a hal
    have h1 := ha a hal
    have h2 := R.above_hgt h1
    have h3 := R.hgt_hOf h2.1
    obtain ⟨k, hk, rfl⟩ := List.getElem_of_mem hx
    have h4 := R.hgt_node hk
    unfold badL relatedT
    rw [h1]
    simp only [Bool.true_or, Bool.not_true, Bool.false_or, decide_eq_true_eq]
    omega
  rcases f1 with rfl | ⟨f1, f4⟩
  · refine ⟨by decide, by decide, .inl rfl, ?_, fun h => absurd rfl h, hmax⟩
    rw [fold_high 0 0 xs 0 (fun y hy e => ?_)]
    · simp
    · obtain ⟨k, hk, rfl⟩ := List.getElem_of_mem hy
      have := R.bounds k hk
      omega
  · obtain ⟨k, hk, rfl⟩ := List.getElem_of_mem f1
    have hb := R.bounds k hk
    have h0 : 0 ≤ ndAt xs xs[k].id := by rw [R.at k hk]; omega
    refine ⟨by omega, by omega, .inr h0, ?_, fun _ a ha => ?_, hmax⟩
    · rw [fold_high xs[k].id xs[k].height xs 0 (fun y hy e => ?_), if_pos (List.any_eq_true.2 ⟨xs[k], f1, by simp⟩)]
      obtain ⟨j, hj, rfl⟩ := List.getElem_of_mem hy
      have := R.inj j k hj hk e
      subst this
      rfl
    · have h1 := List.any_eq_false.1 f4 a ha
      unfold badL relatedT at h1
      simp only [Bool.or_eq_true, Bool.not_eq_true', Bool.or_eq_false_iff, decide_eq_true_eq, not_or, not_and, Bool.not_eq_false] at h1
      obtain ⟨h2, h3⟩ := h1
      cases ha1 : above xs a xs[k].id with
      | true => rfl
      | false =>
        have ha2 := h2 ha1
        have h5 := R.above_hgt ha2
        have h6 := R.hgt_hOf (hin a ha)
        have h7 := R.hgt_node hk
        have h8 := h5.2.2 (by omega)
        rw [h8] at ha1 ha2
        rw [ha1] at ha2
        cases ha2
theorem best_next {xs : List TNode} {ls : List Int} (ht : treeFault xs = 0) (hin : ∀ a ∈ ls, 0 ≤ ndAt xs a) (hl : ls.length ≤ 20) (b n : TNode) (e1 : n.id = 60) (e2 : n.prev = b.id) (e3 : n.height = b.height + 1) (hb : bestK xs ls xs = b) (h0 : b.id = 0 ∨ 0 ≤ ndAt xs b.id) (hab : b.id ≠ 0 → ∀ a ∈ ls, above xs a b.id = true) (hn : nodeFault xs n = 0) (hx : xs.length < 60) (hz : 0 < ls.length → b.id ≠ 0) : bestOfF (xs ++ [n]) ls = ⟨0, 60⟩ := by
  have R := Right.of ht
  have ht2 := treeFault_app ht hn hx
  have R2 := Right.of ht2
  have hbk : bestK (xs ++ [n]) ls (xs ++ [n]) = n := by
    unfold bestK foldN at hb ⊢
    rw [List.foldl_append, fold_app R R2 hin xs _ (fun y hy => by
      obtain ⟨k, hk, rfl⟩ := List.getElem_of_mem hy
      rw [R.at k hk]; omega), hb, List.foldl_cons, List.foldl_nil]
    unfold bestF
    have hno : ls.any (badL (xs ++ [n]) n) = false := by
      rw [List.any_eq_false]
      intro a ha
      have hlp : 0 < ls.length := List.length_pos_of_mem ha
      have hne := hz hlp
      have hb0 : 0 ≤ ndAt xs b.id := h0.resolve_left hne
      have h1 := hab hne a ha
      have hk : xs.length < (xs ++ [n]).length := by simp
      have hg : (xs ++ [n])[xs.length] = n := by simp
      have hat := R2.at xs.length hk
      rw [hg] at hat
      have hup : upId (xs ++ [n]) n.id = b.id := by
        unfold upId
        rw [hat, pOf_at hk, hg, e2]
      have h3 : above (xs ++ [n]) a n.id = true := by
        unfold above at h1 ⊢
        rw [R2.path_some (by rw [hat]; omega), hup, R.path_app R2 (.inr hb0), List.any_cons, h1, Bool.or_true]
      have h4 := R2.above_hgt h3
      have h5 := R2.hgt_hOf h4.1
      have h6 := R2.hgt_node hk
      rw [hg] at h6
      unfold badL relatedT
      rw [h3]
      simp only [Bool.true_or, Bool.not_true, Bool.false_or, decide_eq_true_eq]
      omega
    rw [hno, decide_eq_true (show b.height < n.height by omega)]
    rfl
  have ho : ls.any (outL (xs ++ [n])) = false := by
    rw [List.any_eq_false]
    intro a ha
    unfold outL
    rw [ndAt_app _ (hin a ha)]
    simp [hin a ha]
  unfold bestOfF
  rw [ht2, ho, hbk, e1, decide_eq_false (show ¬ (20 : Int) < (ls.length : Int) by omega)]
  rfl
theorem bests_facts (xs : List TNode) (ls : List Int) (hn : xs.length ≤ 61) (hl : ls.length ≤ 21) (hz : ((bestOfF xs ls).1 == 0) = true) : ∃ (bid hi c : Int) (ns : List TNode),
    PCalls Try.prog 13 [islE nodeE xs, islE intE ls] (.agg #[.int .i64 0, .int .i64 bid]) ∧ PCalls Try.prog 14 [islE nodeE xs, islE intE ls] (.agg #[.int .i64 0, .int .i64 bid]) ∧ 0 ≤ hi ∧ hi ≤ 40 ∧ foldN (highF bid) 0 (xs.take xs.length) = hi ∧
    (bid ≠ 0 → ∀ j (h : j < ls.length), PCalls Try.prog 15 [islE nodeE xs, .int .i64 ls[j], .int .i64 bid] (.bool true)) ∧
    (∀ i (h : i < xs.length), ((ls.take ls.length).all fun a => isAboveT xs a xs[i].id) = true → xs[i].height ≤ hi) ∧
    PCalls Try.prog 16 [islE nodeE xs, .agg #[.int .i64 60, .int .i64 bid, .int .i64 (hi + 1)]] (.agg #[.int .i64 c, islE nodeE ns]) ∧
    (c = 0 → (0 < ls.length ∧ bid = 0) ∨ PCalls Try.prog 13 [islE nodeE ns, islE intE ls] (.agg #[.int .i64 0, .int .i64 60])) := by
  have h1 := impl_BestOf xs ls (by omega) (by omega)
  have h2 := spec_BestOf xs ls (by omega) (by omega)
  have hz0 : treeFault xs = 0 ∧ ls.length ≤ 20 ∧ ls.any (outL xs) = false ∧ bestOfF xs ls = ⟨0, (bestK xs ls xs).id⟩ := by
    revert hz
    unfold bestOfF
    cases hc : (treeFault xs == 0) with
    | false => simp; intro h; simp [h] at hc
    | true =>
      simp only [if_true]
      by_cases hl2 : (20 : Int) < (ls.length : Int)
      · rw [if_pos (by simpa using hl2)]; intro h; cases h
      · rw [if_neg (by simpa using hl2)]
        cases ho : ls.any (outL xs) with
        | true => intro h; cases h
        | false => intro _; exact ⟨eq_of_beq hc, by omega, rfl, rfl⟩
  obtain ⟨ht, hl20, ho, he⟩ := hz0
  have R := Right.of ht
  have hin := outL_in ho
  obtain ⟨b, hb, b1, b2, b3, b4, b5, b6⟩ := best_plain R hin
  rw [he, ← hb] at h1 h2
  simp only [intResultE_val] at h1 h2
  have h3 := (impl_AddNode xs ⟨60, b.id, b.height + 1⟩ (by omega)).p
  simp only [treeResultE_val, nodeE_val] at h3
  refine ⟨b.id, b.height, (addNodeF xs ⟨60, b.id, b.height + 1⟩).1, (addNodeF xs ⟨60, b.id, b.height + 1⟩).2, h1, h2, b1, b2, ?_, ?_, ?_, h3, ?_⟩
  · rw [List.take_length]; exact b4
  · intro hne j hj
    have := impl_IsAbove xs ls[j] b.id (by omega)
    rwa [show isAboveT xs ls[j] b.id = true by unfold isAboveT; rw [ht, b5 hne _ (List.getElem_mem hj)]; rfl] at this
  · intro i hi ha
    refine b6 _ (List.getElem_mem hi) fun a hal => ?_
    rw [List.take_length, List.all_eq_true] at ha
    have := ha a hal
    unfold isAboveT at this
    rw [ht] at this
    simpa using this
  · intro hc
    by_cases hz : 0 < ls.length ∧ b.id = 0
    · exact .inl hz
    · refine .inr ?_
      have hnf : nodeFault xs ⟨60, b.id, b.height + 1⟩ = 0 ∧ xs.length < 60 := by
        revert hc
        unfold addNodeF addC
        rw [ht]
        simp only [beq_self_eq_true, if_true]
        cases hq : (nodeFault xs ⟨60, b.id, b.height + 1⟩ == 0) with
        | false => simp; intro h; simp [h] at hq
        | true =>
          simp only [if_true]
          by_cases h60 : 60 ≤ xs.length
          · simp [h60]
          · intro _; exact ⟨eq_of_beq hq, by omega⟩
      have hne := best_next ht hin hl20 b ⟨60, b.id, b.height + 1⟩ rfl rfl rfl hb.symm b3 b5 hnf.1 hnf.2 (fun hp e => hz ⟨hp, e⟩)
      have hns : (addNodeF xs ⟨60, b.id, b.height + 1⟩).2 = xs ++ [⟨60, b.id, b.height + 1⟩] := by
        have hq : decide (60 ≤ xs.length) = false := decide_eq_false (by omega)
        unfold addNodeF addL addC
        simp only [ht, hnf.1, hq, beq_self_eq_true, if_true, Bool.false_eq_true, if_false]
      have h4 := impl_BestOf (xs ++ [⟨60, b.id, b.height + 1⟩]) ls (by simp; omega) (by omega)
      rw [hne] at h4
      simp only [intResultE_val] at h4
      rw [hns]
      exact h4
theorem law_FnBests (code : List UInt8) (hl : code.length ≤ 9223372036854775807) : PCalls Try.prog 3 [islE byteE code] (.bool true) := by
  by_cases hbig : (1048576 : Int) < (code.length : Int)
  · refine PCalls.flat rfl ?_; refine ACalls.enter (n := 145) (rs := [.tmp 2]) Try.func3 rfl rfl rfl (by kernel_rfl) (by kernel_rfl) (by kernel_rfl) (Nat.le_of_ble_eq_true rfl) ?_
    repeat' (first | (refine AWp.quiet (id := 6) (by kernel_rfl) (by kernel_rfl) ?_) | (refine AWp.quiet (id := 11) (by kernel_rfl) (by kernel_rfl) ?_) | (refine AWp.quiet (id := 16) (by kernel_rfl) (by kernel_rfl) ?_) | (refine AWp.quiet (id := 25) (by kernel_rfl) (by kernel_rfl) ?_) | (refine AWp.quiet (id := 29) (by kernel_rfl) (by kernel_rfl) ?_) | (refine ACalls.start ?_; first | (refine ACalls.ofJi (laws_lwBig code hl) rfl ?_)) | (refine qcall_start ?_; first | (refine qcallFi (laws_lwBig code hl) rfl ?_ ?_; (focus ((first | exact rfl | (simp [pureV, flatV, srcB_eq, nodeE_val, nodeE_sz, intResultE_val, treeResultE_val]; done)))))) | (refine KV.run _ ?_) | (refine KQ.run _ ?_) | (refine KT.run _ ?_) | (refine AWp.seqH fun KC => ?_) | (refine AWp.block ?_) | (refine AWp.region ?_) | (refine mops_step0 rfl rfl fun KC => ?_) | (refine mops_step1 rfl fun KC => ?_) | (refine mops_step2 rfl fun KC => ?_) | (refine AWp.ret ?_) | (refine AWp.skip ?_) | (refine AWp.exit ?_) | (refine aops_callH rfl fun kC => ?_) | (refine qops_callH rfl fun kC => ?_) | (refine AWp.condB ?_) | (simp only [bse, wk, tys, storeH_ptr, Nat.reduceEqDiff, ↓reduceIte, reduceCtorEq, Nat.reduceAdd, Nat.reduceLeDiff, Int.reduceBEq, Int.reduceLT, Int.reduceLE, Int.reduceEq, ne_eq, not_false_eq_true, Nat.reduceMul, srcB_eq, nodeE_val, nodeE_sz, intResultE_val, treeResultE_val, *]) | (refine condK_bool (fun hb => ?_) (fun hb => ?_) <;> ((try simp only [Bool.not_eq_true', Bool.not_eq_false'] at hb) <;> (try (have hbe := of_decide_eq_true hb)) <;> (try (have hbe := eq_of_beq hb)))) | (refine aops_partB ?_) | (refine qops_partB ?_))
  have hcl : code.length ≤ 1048576 := by omega
  refine PCalls.flat rfl ?_; refine ACalls.enter (n := 145) (rs := [.tmp 2]) Try.func3 rfl rfl rfl (by kernel_rfl) (by kernel_rfl) (by kernel_rfl) (Nat.le_of_ble_eq_true rfl) ?_
  repeat' (first | (refine AWp.quiet (id := 6) (by kernel_rfl) (by kernel_rfl) ?_) | (refine AWp.quiet (id := 11) (by kernel_rfl) (by kernel_rfl) ?_) | (refine AWp.quiet (id := 16) (by kernel_rfl) (by kernel_rfl) ?_) | (refine AWp.quiet (id := 25) (by kernel_rfl) (by kernel_rfl) ?_) | (refine AWp.quiet (id := 29) (by kernel_rfl) (by kernel_rfl) ?_) | (refine ACalls.start ?_; first | (refine ACalls.ofJi (laws_lwBig code hl) rfl ?_)) | (refine qcall_start ?_; first | (refine qcallFi (laws_lwBig code hl) rfl ?_ ?_; (focus ((first | exact rfl | (simp [pureV, flatV, srcB_eq, nodeE_val, nodeE_sz, intResultE_val, treeResultE_val]; done)))))) | (refine KV.run _ ?_) | (refine KQ.run _ ?_) | (refine KT.run _ ?_) | (refine AWp.seqH fun KC => ?_) | (refine AWp.block ?_) | (refine AWp.region ?_) | (refine mops_step0 rfl rfl fun KC => ?_) | (refine mops_step1 rfl fun KC => ?_) | (refine mops_step2 rfl fun KC => ?_) | (refine AWp.ret ?_) | (refine AWp.skip ?_) | (refine AWp.exit ?_) | (refine aops_callH rfl fun kC => ?_) | (refine qops_callH rfl fun kC => ?_) | (refine AWp.condB ?_) | (simp only [bse, wk, tys, storeH_ptr, Nat.reduceEqDiff, ↓reduceIte, reduceCtorEq, Nat.reduceAdd, Nat.reduceLeDiff, Int.reduceBEq, Int.reduceLT, Int.reduceLE, Int.reduceEq, ne_eq, not_false_eq_true, Nat.reduceMul, srcB_eq, nodeE_val, nodeE_sz, intResultE_val, treeResultE_val, *]) | (refine condK_bool (fun hb => ?_) (fun hb => ?_) <;> ((try simp only [Bool.not_eq_true', Bool.not_eq_false'] at hb) <;> (try (have hbe := of_decide_eq_true hb)) <;> (try (have hbe := eq_of_beq hb)))) | (refine aops_partB ?_) | (refine qops_partB ?_))
  refine ACalls.get ((spec_DrawBestOf code hcl).use (by repeat' (first | exact Im.nilL | refine Im.consL ?_ ?_ | refine Im.appL ?_ ?_ | exact Im.flat _ rfl | exact islE_im _ _ | exact Enc.val_im _ _ | assumption | refine Im.aggL ?_ | refine Im.funcL ?_ | refine Im.funcA ?_ | refine Im.isl ?_ | refine Im.ip ?_))) (by first | exact Nat.le_refl _ | exact Nat.zero_le _ | (simp only [List.length_append, List.length_cons, List.length_nil]; omega) | (simp only [List.length_set]; omega) | omega) (by first | exact Nat.le_refl _ | exact Nat.zero_le _ | (simp only [List.length_append, List.length_cons, List.length_nil]; omega) | (simp only [List.length_set]; omega) | omega) ?_
  rintro _ _ ⟨⟨xs, ls, rfl, hx, hls⟩, _, rfl⟩
  cases hz : ((bestOfF xs ls).1 == 0) with
  | false =>
    have hf := impl_BestOf xs ls (by omega) (by omega)
    have hs := spec_BestOf xs ls (by omega) (by omega)
    repeat' (first | (refine AWp.quiet (id := 6) (by kernel_rfl) (by kernel_rfl) ?_) | (refine AWp.quiet (id := 11) (by kernel_rfl) (by kernel_rfl) ?_) | (refine AWp.quiet (id := 16) (by kernel_rfl) (by kernel_rfl) ?_) | (refine AWp.quiet (id := 25) (by kernel_rfl) (by kernel_rfl) ?_) | (refine AWp.quiet (id := 29) (by kernel_rfl) (by kernel_rfl) ?_) | (refine ACalls.start ?_; first | (refine ACalls.ofJi (hf) rfl ?_) | (refine ACalls.ofJi (hs) rfl ?_)) | (refine qcall_start ?_; first | (refine qcallFi (hf) rfl ?_ ?_; (focus ((first | exact rfl | (simp [pureV, flatV, srcB_eq, nodeE_val, nodeE_sz, intResultE_val, treeResultE_val]; done))))) | (refine qcallFi (hs) rfl ?_ ?_; (focus ((first | exact rfl | (simp [pureV, flatV, srcB_eq, nodeE_val, nodeE_sz, intResultE_val, treeResultE_val]; done)))))) | (refine KV.run _ ?_) | (refine KQ.run _ ?_) | (refine KT.run _ ?_) | (refine AWp.seqH fun KC => ?_) | (refine AWp.block ?_) | (refine AWp.region ?_) | (refine mops_step0 rfl rfl fun KC => ?_) | (refine mops_step1 rfl fun KC => ?_) | (refine mops_step2 rfl fun KC => ?_) | (refine AWp.ret ?_) | (refine AWp.skip ?_) | (refine AWp.exit ?_) | (refine aops_callH rfl fun kC => ?_) | (refine qops_callH rfl fun kC => ?_) | (refine AWp.condB ?_) | (simp only [bse, wk, tys, storeH_ptr, Nat.reduceEqDiff, ↓reduceIte, reduceCtorEq, Nat.reduceAdd, Nat.reduceLeDiff, Int.reduceBEq, Int.reduceLT, Int.reduceLE, Int.reduceEq, ne_eq, not_false_eq_true, Nat.reduceMul, srcB_eq, nodeE_val, nodeE_sz, intResultE_val, treeResultE_val, *]) | (refine condK_bool (fun hb => ?_) (fun hb => ?_) <;> ((try simp only [Bool.not_eq_true', Bool.not_eq_false'] at hb) <;> (try (have hbe := of_decide_eq_true hb)) <;> (try (have hbe := eq_of_beq hb)))) | (refine aops_partB ?_) | (refine qops_partB ?_))
  | true =>
    obtain ⟨bid, hi, c, ns, hf, hs, hi0, hi40, hhi, habv, hmax, hadd, hnext⟩ := bests_facts xs ls hx hls hz
    clear hz
    repeat' (first | (refine AWp.quiet (id := 6) (by kernel_rfl) (by kernel_rfl) ?_) | (refine AWp.quiet (id := 11) (by kernel_rfl) (by kernel_rfl) ?_) | (refine AWp.quiet (id := 16) (by kernel_rfl) (by kernel_rfl) ?_) | (refine AWp.quiet (id := 25) (by kernel_rfl) (by kernel_rfl) ?_) | (refine AWp.quiet (id := 29) (by kernel_rfl) (by kernel_rfl) ?_) | (refine ACalls.start ?_; first | (refine ACalls.ofJi (hf) rfl ?_)) | (refine qcall_start ?_; first | (refine qcallFi (hf) rfl ?_ ?_; (focus ((first | exact rfl | (simp [pureV, flatV, srcB_eq, nodeE_val, nodeE_sz, intResultE_val, treeResultE_val]; done)))))) | (refine KV.run _ ?_) | (refine KQ.run _ ?_) | (refine KT.run _ ?_) | (refine AWp.seqH fun KC => ?_) | (refine AWp.block ?_) | (refine AWp.region ?_) | (refine mops_step0 rfl rfl fun KC => ?_) | (refine mops_step1 rfl fun KC => ?_) | (refine mops_step2 rfl fun KC => ?_) | (refine AWp.ret ?_) | (refine AWp.skip ?_) | (refine AWp.exit ?_) | (refine aops_callH rfl fun kC => ?_) | (refine qops_callH rfl fun kC => ?_) | (refine AWp.condB ?_) | (simp only [bse, wk, tys, storeH_ptr, Nat.reduceEqDiff, ↓reduceIte, reduceCtorEq, Nat.reduceAdd, Nat.reduceLeDiff, Int.reduceBEq, Int.reduceLT, Int.reduceLE, Int.reduceEq, ne_eq, not_false_eq_true, Nat.reduceMul, srcB_eq, nodeE_val, nodeE_sz, intResultE_val, treeResultE_val, *]) | (refine condK_bool (fun hb => ?_) (fun hb => ?_) <;> ((try simp only [Bool.not_eq_true', Bool.not_eq_false'] at hb) <;> (try (have hbe := of_decide_eq_true hb)) <;> (try (have hbe := eq_of_beq hb)))) | (refine aops_partB ?_) | (refine qops_partB ?_))
    refine AWp.loopH [33, 34, 35, 36, 39, 40, 41, 42, 43, 44, 45, 46, 47, 48, 49, 50, 51, 6, 37, 38, 7] (fun m e' H' => ∃ (k : Nat) (h : Int), k ≤ xs.length ∧ m = xs.length - k ∧ e' 7 = .int .i64 k ∧ e' 6 = .int .i64 h ∧ H' = _ ∧ Hid (h = foldN (highF bid) 0 (xs.take k))) xs.length ⟨0, 0, by omega, by omega, rfl, rfl, rfl, rfl⟩ ?_
    rintro m e' H' hA ⟨k, h, hk, rfl, e7, e6, rfl, hF⟩ hJ
    have a2 := hA 2 rfl; have a3 := hA 3 rfl; have a4 := hA 4 rfl; have a5 := hA 5 rfl; try simp only [bse, wk, tys, storeH_ptr, Nat.reduceEqDiff, ↓reduceIte, reduceCtorEq, Nat.reduceAdd, Nat.reduceLeDiff, Int.reduceBEq, Int.reduceLT, Int.reduceLE, Int.reduceEq, ne_eq, not_false_eq_true, Nat.reduceMul] at a2 a3 a4 a5; clear hA
    by_cases hlt : k < xs.length
    · have hlt' : (k : Int) < (xs.length : Int) := by omega
      have hw := wr_succ (k := k) (by omega)
      have hst := highK_step bid xs k hlt
      rw [← hF.out] at hst
      cases hb : (xs[k].id == bid) with
      | true =>
        have hs2 : Hid (xs[k].height = foldN (highF bid) 0 (xs.take (k + 1))) := by rw [hb] at hst; exact hst.symm
        clear hst
        repeat' (first | (refine AWp.quiet (id := 6) (by kernel_rfl) (by kernel_rfl) ?_) | (refine AWp.quiet (id := 11) (by kernel_rfl) (by kernel_rfl) ?_) | (refine AWp.quiet (id := 16) (by kernel_rfl) (by kernel_rfl) ?_) | (refine AWp.quiet (id := 25) (by kernel_rfl) (by kernel_rfl) ?_) | (refine AWp.quiet (id := 29) (by kernel_rfl) (by kernel_rfl) ?_) | (refine KV.run _ ?_) | (refine KQ.run _ ?_) | (refine KT.run _ ?_) | (refine AWp.seqH fun KC => ?_) | (refine AWp.block ?_) | (refine AWp.region ?_) | (refine mops_step0 rfl rfl fun KC => ?_) | (refine mops_step1 rfl fun KC => ?_) | (refine mops_step2 rfl fun KC => ?_) | (refine AWp.ret ?_) | (refine AWp.skip ?_) | (refine AWp.exit ?_) | (refine aops_callH rfl fun kC => ?_) | (refine qops_callH rfl fun kC => ?_) | (refine AWp.condB ?_) | (simp only [bse, wk, tys, storeH_ptr, Nat.reduceEqDiff, ↓reduceIte, reduceCtorEq, Nat.reduceAdd, Nat.reduceLeDiff, Int.reduceBEq, Int.reduceLT, Int.reduceLE, Int.reduceEq, ne_eq, not_false_eq_true, Nat.reduceMul, srcB_eq, nodeE_val, nodeE_sz, intResultE_val, treeResultE_val, *]) | (refine condK_bool (fun hb => ?_) (fun hb => ?_) <;> ((try simp only [Bool.not_eq_true', Bool.not_eq_false'] at hb) <;> (try (have hbe := of_decide_eq_true hb)) <;> (try (have hbe := eq_of_beq hb)))) | (refine aops_partB ?_) | (refine qops_partB ?_))
        exact hJ.out _ _ ⟨xs.length - (k + 1), by omega, k + 1, xs[k].height, by omega, rfl, rfl, rfl, rfl, hs2⟩ (by repeat (first | exact Agree.refl _ _ | assumption | refine Agree.put ?_ rfl _))
      | false =>
        have hs2 : Hid (h = foldN (highF bid) 0 (xs.take (k + 1))) := by rw [hb] at hst; exact hst.symm
        clear hst
        repeat' (first | (refine AWp.quiet (id := 6) (by kernel_rfl) (by kernel_rfl) ?_) | (refine AWp.quiet (id := 11) (by kernel_rfl) (by kernel_rfl) ?_) | (refine AWp.quiet (id := 16) (by kernel_rfl) (by kernel_rfl) ?_) | (refine AWp.quiet (id := 25) (by kernel_rfl) (by kernel_rfl) ?_) | (refine AWp.quiet (id := 29) (by kernel_rfl) (by kernel_rfl) ?_) | (refine KV.run _ ?_) | (refine KQ.run _ ?_) | (refine KT.run _ ?_) | (refine AWp.seqH fun KC => ?_) | (refine AWp.block ?_) | (refine AWp.region ?_) | (refine mops_step0 rfl rfl fun KC => ?_) | (refine mops_step1 rfl fun KC => ?_) | (refine mops_step2 rfl fun KC => ?_) | (refine AWp.ret ?_) | (refine AWp.skip ?_) | (refine AWp.exit ?_) | (refine aops_callH rfl fun kC => ?_) | (refine qops_callH rfl fun kC => ?_) | (refine AWp.condB ?_) | (simp only [bse, wk, tys, storeH_ptr, Nat.reduceEqDiff, ↓reduceIte, reduceCtorEq, Nat.reduceAdd, Nat.reduceLeDiff, Int.reduceBEq, Int.reduceLT, Int.reduceLE, Int.reduceEq, ne_eq, not_false_eq_true, Nat.reduceMul, srcB_eq, nodeE_val, nodeE_sz, intResultE_val, treeResultE_val, *]) | (refine condK_bool (fun hb => ?_) (fun hb => ?_) <;> ((try simp only [Bool.not_eq_true', Bool.not_eq_false'] at hb) <;> (try (have hbe := of_decide_eq_true hb)) <;> (try (have hbe := eq_of_beq hb)))) | (refine aops_partB ?_) | (refine qops_partB ?_))
        exact hJ.out _ _ ⟨xs.length - (k + 1), by omega, k + 1, h, by omega, rfl, rfl, by simp [put, e6], rfl, hs2⟩ (by repeat (first | exact Agree.refl _ _ | assumption | refine Agree.put ?_ rfl _))
    · have hlt' : ¬ (k : Int) < (xs.length : Int) := by omega
      have hke : k = xs.length := by omega
      subst hke
      have hh := hF.out
      rw [hhi] at hh
      subst hh
      clear hF hhi hlt
      repeat' (first | (refine AWp.quiet (id := 6) (by kernel_rfl) (by kernel_rfl) ?_) | (refine AWp.quiet (id := 11) (by kernel_rfl) (by kernel_rfl) ?_) | (refine AWp.quiet (id := 16) (by kernel_rfl) (by kernel_rfl) ?_) | (refine AWp.quiet (id := 25) (by kernel_rfl) (by kernel_rfl) ?_) | (refine AWp.quiet (id := 29) (by kernel_rfl) (by kernel_rfl) ?_) | (refine KV.run _ ?_) | (refine KQ.run _ ?_) | (refine KT.run _ ?_) | (refine AWp.seqH fun KC => ?_) | (refine AWp.block ?_) | (refine AWp.region ?_) | (refine mops_step0 rfl rfl fun KC => ?_) | (refine mops_step1 rfl fun KC => ?_) | (refine mops_step2 rfl fun KC => ?_) | (refine AWp.ret ?_) | (refine AWp.skip ?_) | (refine AWp.exit ?_) | (refine aops_callH rfl fun kC => ?_) | (refine qops_callH rfl fun kC => ?_) | (refine AWp.condB ?_) | (simp only [bse, wk, tys, storeH_ptr, Nat.reduceEqDiff, ↓reduceIte, reduceCtorEq, Nat.reduceAdd, Nat.reduceLeDiff, Int.reduceBEq, Int.reduceLT, Int.reduceLE, Int.reduceEq, ne_eq, not_false_eq_true, Nat.reduceMul, srcB_eq, nodeE_val, nodeE_sz, intResultE_val, treeResultE_val, *]) | (refine condK_bool (fun hb => ?_) (fun hb => ?_) <;> ((try simp only [Bool.not_eq_true', Bool.not_eq_false'] at hb) <;> (try (have hbe := of_decide_eq_true hb)) <;> (try (have hbe := eq_of_beq hb)))) | (refine aops_partB ?_) | (refine qops_partB ?_))
      refine AWp.loopH [52, 53, 54, 55, 58, 59, 60, 61, 62, 63, 64, 65, 66, 67, 68, 69, 70, 71, 2, 56, 57, 8] (fun m e' H' => ∃ (k : Nat), k ≤ ls.length ∧ m = ls.length - k ∧ e' 8 = .int .i64 k ∧ H' = _) ls.length ⟨0, by omega, by omega, rfl, rfl⟩ ?_
      rintro m e' H' hA ⟨k, hk, rfl, e8, rfl⟩ hJ
      have a3 := hA 3 rfl; have a4 := hA 4 rfl; have a5 := hA 5 rfl; have a6 := hA 6 rfl; try simp only [bse, wk, tys, storeH_ptr, Nat.reduceEqDiff, ↓reduceIte, reduceCtorEq, Nat.reduceAdd, Nat.reduceLeDiff, Int.reduceBEq, Int.reduceLT, Int.reduceLE, Int.reduceEq, ne_eq, not_false_eq_true, Nat.reduceMul] at a3 a4 a5 a6; clear hA
      by_cases hlt : k < ls.length
      · have hlt' : (k : Int) < (ls.length : Int) := by omega
        have hw := wr_succ (k := k) (by omega)
        by_cases hb0 : bid = 0
        · have hb0' : (bid == 0) = true := by simp [hb0]
          clear hb0
          repeat' (first | (refine AWp.quiet (id := 6) (by kernel_rfl) (by kernel_rfl) ?_) | (refine AWp.quiet (id := 11) (by kernel_rfl) (by kernel_rfl) ?_) | (refine AWp.quiet (id := 16) (by kernel_rfl) (by kernel_rfl) ?_) | (refine AWp.quiet (id := 25) (by kernel_rfl) (by kernel_rfl) ?_) | (refine AWp.quiet (id := 29) (by kernel_rfl) (by kernel_rfl) ?_) | (refine KV.run _ ?_) | (refine KQ.run _ ?_) | (refine KT.run _ ?_) | (refine AWp.seqH fun KC => ?_) | (refine AWp.block ?_) | (refine AWp.region ?_) | (refine mops_step0 rfl rfl fun KC => ?_) | (refine mops_step1 rfl fun KC => ?_) | (refine mops_step2 rfl fun KC => ?_) | (refine AWp.ret ?_) | (refine AWp.skip ?_) | (refine AWp.exit ?_) | (refine aops_callH rfl fun kC => ?_) | (refine qops_callH rfl fun kC => ?_) | (refine AWp.condB ?_) | (simp only [bse, wk, tys, storeH_ptr, Nat.reduceEqDiff, ↓reduceIte, reduceCtorEq, Nat.reduceAdd, Nat.reduceLeDiff, Int.reduceBEq, Int.reduceLT, Int.reduceLE, Int.reduceEq, ne_eq, not_false_eq_true, Nat.reduceMul, srcB_eq, nodeE_val, nodeE_sz, intResultE_val, treeResultE_val, *]) | (refine condK_bool (fun hb => ?_) (fun hb => ?_) <;> ((try simp only [Bool.not_eq_true', Bool.not_eq_false'] at hb) <;> (try (have hbe := of_decide_eq_true hb)) <;> (try (have hbe := eq_of_beq hb)))) | (refine aops_partB ?_) | (refine qops_partB ?_))
          exact hJ.out _ _ ⟨ls.length - (k + 1), by omega, k + 1, by omega, rfl, rfl, rfl⟩ (by repeat (first | exact Agree.refl _ _ | assumption | refine Agree.put ?_ rfl _))
        · have hb0' : (bid == 0) = false := by simpa using hb0
          have hq := habv hb0 k hlt
          clear hb0
          repeat' (first | (refine AWp.quiet (id := 6) (by kernel_rfl) (by kernel_rfl) ?_) | (refine AWp.quiet (id := 11) (by kernel_rfl) (by kernel_rfl) ?_) | (refine AWp.quiet (id := 16) (by kernel_rfl) (by kernel_rfl) ?_) | (refine AWp.quiet (id := 25) (by kernel_rfl) (by kernel_rfl) ?_) | (refine AWp.quiet (id := 29) (by kernel_rfl) (by kernel_rfl) ?_) | (refine ACalls.start ?_; first | (refine ACalls.ofJi (hq) rfl ?_)) | (refine qcall_start ?_; first | (refine qcallFi (hq) rfl ?_ ?_; (focus ((first | exact rfl | (simp [pureV, flatV, srcB_eq, nodeE_val, nodeE_sz, intResultE_val, treeResultE_val]; done)))))) | (refine KV.run _ ?_) | (refine KQ.run _ ?_) | (refine KT.run _ ?_) | (refine AWp.seqH fun KC => ?_) | (refine AWp.block ?_) | (refine AWp.region ?_) | (refine mops_step0 rfl rfl fun KC => ?_) | (refine mops_step1 rfl fun KC => ?_) | (refine mops_step2 rfl fun KC => ?_) | (refine AWp.ret ?_) | (refine AWp.skip ?_) | (refine AWp.exit ?_) | (refine aops_callH rfl fun kC => ?_) | (refine qops_callH rfl fun kC => ?_) | (refine AWp.condB ?_) | (simp only [bse, wk, tys, storeH_ptr, Nat.reduceEqDiff, ↓reduceIte, reduceCtorEq, Nat.reduceAdd, Nat.reduceLeDiff, Int.reduceBEq, Int.reduceLT, Int.reduceLE, Int.reduceEq, ne_eq, not_false_eq_true, Nat.reduceMul, srcB_eq, nodeE_val, nodeE_sz, intResultE_val, treeResultE_val, *]) | (refine condK_bool (fun hb => ?_) (fun hb => ?_) <;> ((try simp only [Bool.not_eq_true', Bool.not_eq_false'] at hb) <;> (try (have hbe := of_decide_eq_true hb)) <;> (try (have hbe := eq_of_beq hb)))) | (refine aops_partB ?_) | (refine qops_partB ?_))
          exact hJ.out _ _ ⟨ls.length - (k + 1), by omega, k + 1, by omega, rfl, rfl, rfl⟩ (by repeat (first | exact Agree.refl _ _ | assumption | refine Agree.put ?_ rfl _))
      · have hlt' : ¬ (k : Int) < (ls.length : Int) := by omega
        clear hlt
        repeat' (first | (refine AWp.quiet (id := 6) (by kernel_rfl) (by kernel_rfl) ?_) | (refine AWp.quiet (id := 11) (by kernel_rfl) (by kernel_rfl) ?_) | (refine AWp.quiet (id := 16) (by kernel_rfl) (by kernel_rfl) ?_) | (refine AWp.quiet (id := 25) (by kernel_rfl) (by kernel_rfl) ?_) | (refine AWp.quiet (id := 29) (by kernel_rfl) (by kernel_rfl) ?_) | (refine KV.run _ ?_) | (refine KQ.run _ ?_) | (refine KT.run _ ?_) | (refine AWp.seqH fun KC => ?_) | (refine AWp.block ?_) | (refine AWp.region ?_) | (refine mops_step0 rfl rfl fun KC => ?_) | (refine mops_step1 rfl fun KC => ?_) | (refine mops_step2 rfl fun KC => ?_) | (refine AWp.ret ?_) | (refine AWp.skip ?_) | (refine AWp.exit ?_) | (refine aops_callH rfl fun kC => ?_) | (refine qops_callH rfl fun kC => ?_) | (refine AWp.condB ?_) | (simp only [bse, wk, tys, storeH_ptr, Nat.reduceEqDiff, ↓reduceIte, reduceCtorEq, Nat.reduceAdd, Nat.reduceLeDiff, Int.reduceBEq, Int.reduceLT, Int.reduceLE, Int.reduceEq, ne_eq, not_false_eq_true, Nat.reduceMul, srcB_eq, nodeE_val, nodeE_sz, intResultE_val, treeResultE_val, *]) | (refine condK_bool (fun hb => ?_) (fun hb => ?_) <;> ((try simp only [Bool.not_eq_true', Bool.not_eq_false'] at hb) <;> (try (have hbe := of_decide_eq_true hb)) <;> (try (have hbe := eq_of_beq hb)))) | (refine aops_partB ?_) | (refine qops_partB ?_))
        refine AWp.loopH [72, 73, 74, 75, 10, 11, 78, 79, 80, 81, 84, 85, 86, 87, 88, 89, 90, 91, 92, 93, 94, 95, 96, 97, 82, 83, 98, 99, 100, 101, 102, 103, 104, 105, 106, 107, 2, 76, 77, 9] (fun m e' H' => ∃ (k : Nat), k ≤ xs.length ∧ m = xs.length - k ∧ e' 9 = .int .i64 k ∧ H' = _) xs.length ⟨0, by omega, by omega, rfl, rfl⟩ ?_
        rintro m e' H' hA ⟨i, hi2, rfl, e9, rfl⟩ hK
        have a3 := hA 3 rfl; have a4 := hA 4 rfl; have a5 := hA 5 rfl; have a6 := hA 6 rfl; try simp only [bse, wk, tys, storeH_ptr, Nat.reduceEqDiff, ↓reduceIte, reduceCtorEq, Nat.reduceAdd, Nat.reduceLeDiff, Int.reduceBEq, Int.reduceLT, Int.reduceLE, Int.reduceEq, ne_eq, not_false_eq_true, Nat.reduceMul] at a3 a4 a5 a6; clear hA
        by_cases hlt : i < xs.length
        · have hlt' : (i : Int) < (xs.length : Int) := by omega
          have hwi := wr_succ (k := i) (by omega)
          repeat' (first | (refine AWp.quiet (id := 6) (by kernel_rfl) (by kernel_rfl) ?_) | (refine AWp.quiet (id := 11) (by kernel_rfl) (by kernel_rfl) ?_) | (refine AWp.quiet (id := 16) (by kernel_rfl) (by kernel_rfl) ?_) | (refine AWp.quiet (id := 25) (by kernel_rfl) (by kernel_rfl) ?_) | (refine AWp.quiet (id := 29) (by kernel_rfl) (by kernel_rfl) ?_) | (refine KV.run _ ?_) | (refine KQ.run _ ?_) | (refine KT.run _ ?_) | (refine AWp.seqH fun KC => ?_) | (refine AWp.block ?_) | (refine AWp.region ?_) | (refine mops_step0 rfl rfl fun KC => ?_) | (refine mops_step1 rfl fun KC => ?_) | (refine mops_step2 rfl fun KC => ?_) | (refine AWp.ret ?_) | (refine AWp.skip ?_) | (refine AWp.exit ?_) | (refine aops_callH rfl fun kC => ?_) | (refine qops_callH rfl fun kC => ?_) | (refine AWp.condB ?_) | (simp only [bse, wk, tys, storeH_ptr, Nat.reduceEqDiff, ↓reduceIte, reduceCtorEq, Nat.reduceAdd, Nat.reduceLeDiff, Int.reduceBEq, Int.reduceLT, Int.reduceLE, Int.reduceEq, ne_eq, not_false_eq_true, Nat.reduceMul, srcB_eq, nodeE_val, nodeE_sz, intResultE_val, treeResultE_val, *]) | (refine condK_bool (fun hb => ?_) (fun hb => ?_) <;> ((try simp only [Bool.not_eq_true', Bool.not_eq_false'] at hb) <;> (try (have hbe := of_decide_eq_true hb)) <;> (try (have hbe := eq_of_beq hb)))) | (refine aops_partB ?_) | (refine qops_partB ?_))
          refine AWp.loopH [78, 79, 80, 81, 84, 85, 86, 87, 88, 89, 90, 91, 92, 93, 94, 95, 96, 97, 10, 82, 83, 11] (fun m e' H' => ∃ (j : Nat) (ok : Bool), j ≤ ls.length ∧ m = ls.length - j ∧ e' 11 = .int .i64 j ∧ e' 10 = .bool ok ∧ H' = _ ∧ Hid (ok = (ls.take j).all fun a => isAboveT xs a xs[i].id)) ls.length ⟨0, true, by omega, by omega, rfl, rfl, rfl, rfl⟩ ?_
          rintro m e' H' hA ⟨j, ok, hj, rfl, e11, e10, rfl, hG⟩ hJ2
          have hA2 := hA
          have a2 := hA 2 rfl; have a3 := hA 3 rfl; have a4 := hA 4 rfl; have a5 := hA 5 rfl; have a6 := hA 6 rfl; have a9 := hA 9 rfl; try simp only [bse, wk, tys, storeH_ptr, Nat.reduceEqDiff, ↓reduceIte, reduceCtorEq, Nat.reduceAdd, Nat.reduceLeDiff, Int.reduceBEq, Int.reduceLT, Int.reduceLE, Int.reduceEq, ne_eq, not_false_eq_true, Nat.reduceMul] at a2 a3 a4 a5 a6 a9; clear hA
          have hs1 := all_step (fun a => isAboveT xs a xs[i].id) ls j
          by_cases hltj : j < ls.length
          · have hltj' : (j : Int) < (ls.length : Int) := by omega
            have hwj := wr_succ (k := j) (by omega)
            have hq := impl_IsAbove xs ls[j] xs[i].id (by omega)
            have hs2 : Hid ((ls.take (j + 1)).all (fun a => isAboveT xs a xs[i].id) = (ok && isAboveT xs ls[j] xs[i].id)) := by unfold Hid; rw [hs1 hltj, hG.out]
            generalize isAboveT xs ls[j] xs[i].id = qb at hq hs2
            clear hs1 hG
            cases ok with
            | true =>
              repeat' (first | (refine AWp.quiet (id := 6) (by kernel_rfl) (by kernel_rfl) ?_) | (refine AWp.quiet (id := 11) (by kernel_rfl) (by kernel_rfl) ?_) | (refine AWp.quiet (id := 16) (by kernel_rfl) (by kernel_rfl) ?_) | (refine AWp.quiet (id := 25) (by kernel_rfl) (by kernel_rfl) ?_) | (refine AWp.quiet (id := 29) (by kernel_rfl) (by kernel_rfl) ?_) | (refine ACalls.start ?_; first | (refine ACalls.ofJi (hq) rfl ?_)) | (refine qcall_start ?_; first | (refine qcallFi (hq) rfl ?_ ?_; (focus ((first | exact rfl | (simp [pureV, flatV, srcB_eq, nodeE_val, nodeE_sz, intResultE_val, treeResultE_val]; done)))))) | (refine KV.run _ ?_) | (refine KQ.run _ ?_) | (refine KT.run _ ?_) | (refine AWp.seqH fun KC => ?_) | (refine AWp.block ?_) | (refine AWp.region ?_) | (refine mops_step0 rfl rfl fun KC => ?_) | (refine mops_step1 rfl fun KC => ?_) | (refine mops_step2 rfl fun KC => ?_) | (refine AWp.ret ?_) | (refine AWp.skip ?_) | (refine AWp.exit ?_) | (refine aops_callH rfl fun kC => ?_) | (refine qops_callH rfl fun kC => ?_) | (refine AWp.condB ?_) | (simp only [bse, wk, tys, storeH_ptr, Nat.reduceEqDiff, ↓reduceIte, reduceCtorEq, Nat.reduceAdd, Nat.reduceLeDiff, Int.reduceBEq, Int.reduceLT, Int.reduceLE, Int.reduceEq, ne_eq, not_false_eq_true, Nat.reduceMul, srcB_eq, nodeE_val, nodeE_sz, intResultE_val, treeResultE_val, *]) | (refine condK_bool (fun hb => ?_) (fun hb => ?_) <;> ((try simp only [Bool.not_eq_true', Bool.not_eq_false'] at hb) <;> (try (have hbe := of_decide_eq_true hb)) <;> (try (have hbe := eq_of_beq hb)))) | (refine aops_partB ?_) | (refine qops_partB ?_))
              exact hJ2.out _ _ ⟨ls.length - (j + 1), by omega, j + 1, qb, by omega, rfl, rfl, rfl, rfl, hs2.out.symm⟩ (by repeat (first | exact Agree.refl _ _ | assumption | refine Agree.put ?_ rfl _))
            | false =>
              repeat' (first | (refine AWp.quiet (id := 6) (by kernel_rfl) (by kernel_rfl) ?_) | (refine AWp.quiet (id := 11) (by kernel_rfl) (by kernel_rfl) ?_) | (refine AWp.quiet (id := 16) (by kernel_rfl) (by kernel_rfl) ?_) | (refine AWp.quiet (id := 25) (by kernel_rfl) (by kernel_rfl) ?_) | (refine AWp.quiet (id := 29) (by kernel_rfl) (by kernel_rfl) ?_) | (refine ACalls.start ?_; first | (refine ACalls.ofJi (hq) rfl ?_)) | (refine qcall_start ?_; first | (refine qcallFi (hq) rfl ?_ ?_; (focus ((first | exact rfl | (simp [pureV, flatV, srcB_eq, nodeE_val, nodeE_sz, intResultE_val, treeResultE_val]; done)))))) | (refine KV.run _ ?_) | (refine KQ.run _ ?_) | (refine KT.run _ ?_) | (refine AWp.seqH fun KC => ?_) | (refine AWp.block ?_) | (refine AWp.region ?_) | (refine mops_step0 rfl rfl fun KC => ?_) | (refine mops_step1 rfl fun KC => ?_) | (refine mops_step2 rfl fun KC => ?_) | (refine AWp.ret ?_) | (refine AWp.skip ?_) | (refine AWp.exit ?_) | (refine aops_callH rfl fun kC => ?_) | (refine qops_callH rfl fun kC => ?_) | (refine AWp.condB ?_) | (simp only [bse, wk, tys, storeH_ptr, Nat.reduceEqDiff, ↓reduceIte, reduceCtorEq, Nat.reduceAdd, Nat.reduceLeDiff, Int.reduceBEq, Int.reduceLT, Int.reduceLE, Int.reduceEq, ne_eq, not_false_eq_true, Nat.reduceMul, srcB_eq, nodeE_val, nodeE_sz, intResultE_val, treeResultE_val, *]) | (refine condK_bool (fun hb => ?_) (fun hb => ?_) <;> ((try simp only [Bool.not_eq_true', Bool.not_eq_false'] at hb) <;> (try (have hbe := of_decide_eq_true hb)) <;> (try (have hbe := eq_of_beq hb)))) | (refine aops_partB ?_) | (refine qops_partB ?_))
              exact hJ2.out _ _ ⟨ls.length - (j + 1), by omega, j + 1, false, by omega, rfl, rfl, rfl, rfl, hs2.out.symm⟩ (by repeat (first | exact Agree.refl _ _ | assumption | refine Agree.put ?_ rfl _))
          · have hltj' : ¬ (j : Int) < (ls.length : Int) := by omega
            have hje : j = ls.length := by omega
            subst hje
            have hm := hmax i hlt
            rw [← hG.out] at hm
            clear hs1 hG
            cases ok with
            | true =>
              have hm2 : ¬ h < xs[i].height := by have := hm rfl; omega
              clear hm
              repeat' (first | (refine AWp.quiet (id := 6) (by kernel_rfl) (by kernel_rfl) ?_) | (refine AWp.quiet (id := 11) (by kernel_rfl) (by kernel_rfl) ?_) | (refine AWp.quiet (id := 16) (by kernel_rfl) (by kernel_rfl) ?_) | (refine AWp.quiet (id := 25) (by kernel_rfl) (by kernel_rfl) ?_) | (refine AWp.quiet (id := 29) (by kernel_rfl) (by kernel_rfl) ?_) | (refine KV.run _ ?_) | (refine KQ.run _ ?_) | (refine KT.run _ ?_) | (refine AWp.seqH fun KC => ?_) | (refine AWp.block ?_) | (refine AWp.region ?_) | (refine mops_step0 rfl rfl fun KC => ?_) | (refine mops_step1 rfl fun KC => ?_) | (refine mops_step2 rfl fun KC => ?_) | (refine AWp.ret ?_) | (refine AWp.skip ?_) | (refine AWp.exit ?_) | (refine aops_callH rfl fun kC => ?_) | (refine qops_callH rfl fun kC => ?_) | (refine AWp.condB ?_) | (simp only [bse, wk, tys, storeH_ptr, Nat.reduceEqDiff, ↓reduceIte, reduceCtorEq, Nat.reduceAdd, Nat.reduceLeDiff, Int.reduceBEq, Int.reduceLT, Int.reduceLE, Int.reduceEq, ne_eq, not_false_eq_true, Nat.reduceMul, srcB_eq, nodeE_val, nodeE_sz, intResultE_val, treeResultE_val, *]) | (refine condK_bool (fun hb => ?_) (fun hb => ?_) <;> ((try simp only [Bool.not_eq_true', Bool.not_eq_false'] at hb) <;> (try (have hbe := of_decide_eq_true hb)) <;> (try (have hbe := eq_of_beq hb)))) | (refine aops_partB ?_) | (refine qops_partB ?_))
              exact hK.out _ _ ⟨xs.length - (i + 1), by omega, i + 1, by omega, rfl, rfl, rfl⟩ (by repeat (first | exact Agree.refl _ _ | refine Agree.put ?_ rfl _ | refine Agree.nest hA2 rfl ?_ | assumption))
            | false =>
              clear hm
              repeat' (first | (refine AWp.quiet (id := 6) (by kernel_rfl) (by kernel_rfl) ?_) | (refine AWp.quiet (id := 11) (by kernel_rfl) (by kernel_rfl) ?_) | (refine AWp.quiet (id := 16) (by kernel_rfl) (by kernel_rfl) ?_) | (refine AWp.quiet (id := 25) (by kernel_rfl) (by kernel_rfl) ?_) | (refine AWp.quiet (id := 29) (by kernel_rfl) (by kernel_rfl) ?_) | (refine KV.run _ ?_) | (refine KQ.run _ ?_) | (refine KT.run _ ?_) | (refine AWp.seqH fun KC => ?_) | (refine AWp.block ?_) | (refine AWp.region ?_) | (refine mops_step0 rfl rfl fun KC => ?_) | (refine mops_step1 rfl fun KC => ?_) | (refine mops_step2 rfl fun KC => ?_) | (refine AWp.ret ?_) | (refine AWp.skip ?_) | (refine AWp.exit ?_) | (refine aops_callH rfl fun kC => ?_) | (refine qops_callH rfl fun kC => ?_) | (refine AWp.condB ?_) | (simp only [bse, wk, tys, storeH_ptr, Nat.reduceEqDiff, ↓reduceIte, reduceCtorEq, Nat.reduceAdd, Nat.reduceLeDiff, Int.reduceBEq, Int.reduceLT, Int.reduceLE, Int.reduceEq, ne_eq, not_false_eq_true, Nat.reduceMul, srcB_eq, nodeE_val, nodeE_sz, intResultE_val, treeResultE_val, *]) | (refine condK_bool (fun hb => ?_) (fun hb => ?_) <;> ((try simp only [Bool.not_eq_true', Bool.not_eq_false'] at hb) <;> (try (have hbe := of_decide_eq_true hb)) <;> (try (have hbe := eq_of_beq hb)))) | (refine aops_partB ?_) | (refine qops_partB ?_))
              exact hK.out _ _ ⟨xs.length - (i + 1), by omega, i + 1, by omega, rfl, rfl, rfl⟩ (by repeat (first | exact Agree.refl _ _ | refine Agree.put ?_ rfl _ | refine Agree.nest hA2 rfl ?_ | assumption))
        · have hlt' : ¬ (i : Int) < (xs.length : Int) := by omega
          have wl : IntKind.i64.wrap (h + 1) = h + 1 := by rw [wr] <;> omega
          clear hlt
          by_cases hc0 : c = 0
          · have hc0' : (c == 0) = true := by simp [hc0]
            have hnx := hnext hc0
            clear hnext hc0
            rcases hnx with ⟨hn1, hn2⟩ | hnb
            · have hn1' : (0 : Int) < (ls.length : Int) := by omega
              have hn2' : (bid == 0) = true := by simp [hn2]
              clear hn2
              repeat' (first | (refine AWp.quiet (id := 6) (by kernel_rfl) (by kernel_rfl) ?_) | (refine AWp.quiet (id := 11) (by kernel_rfl) (by kernel_rfl) ?_) | (refine AWp.quiet (id := 16) (by kernel_rfl) (by kernel_rfl) ?_) | (refine AWp.quiet (id := 25) (by kernel_rfl) (by kernel_rfl) ?_) | (refine AWp.quiet (id := 29) (by kernel_rfl) (by kernel_rfl) ?_) | (refine ACalls.start ?_; first | (refine ACalls.ofJi (hadd) rfl ?_) | (refine ACalls.ofJi (hs) rfl ?_)) | (refine qcall_start ?_; first | (refine qcallFi (hadd) rfl ?_ ?_; (focus ((first | exact rfl | (simp [pureV, flatV, srcB_eq, nodeE_val, nodeE_sz, intResultE_val, treeResultE_val]; done))))) | (refine qcallFi (hs) rfl ?_ ?_; (focus ((first | exact rfl | (simp [pureV, flatV, srcB_eq, nodeE_val, nodeE_sz, intResultE_val, treeResultE_val]; done)))))) | (refine KV.run _ ?_) | (refine KQ.run _ ?_) | (refine KT.run _ ?_) | (refine AWp.seqH fun KC => ?_) | (refine AWp.block ?_) | (refine AWp.region ?_) | (refine mops_step0 rfl rfl fun KC => ?_) | (refine mops_step1 rfl fun KC => ?_) | (refine mops_step2 rfl fun KC => ?_) | (refine AWp.ret ?_) | (refine AWp.skip ?_) | (refine AWp.exit ?_) | (refine aops_callH rfl fun kC => ?_) | (refine qops_callH rfl fun kC => ?_) | (refine AWp.condB ?_) | (simp only [bse, wk, tys, storeH_ptr, Nat.reduceEqDiff, ↓reduceIte, reduceCtorEq, Nat.reduceAdd, Nat.reduceLeDiff, Int.reduceBEq, Int.reduceLT, Int.reduceLE, Int.reduceEq, ne_eq, not_false_eq_true, Nat.reduceMul, srcB_eq, nodeE_val, nodeE_sz, intResultE_val, treeResultE_val, *]) | (refine condK_bool (fun hb => ?_) (fun hb => ?_) <;> ((try simp only [Bool.not_eq_true', Bool.not_eq_false'] at hb) <;> (try (have hbe := of_decide_eq_true hb)) <;> (try (have hbe := eq_of_beq hb)))) | (refine aops_partB ?_) | (refine qops_partB ?_))
            · by_cases hn1 : 0 < ls.length
              · have hn1' : (0 : Int) < (ls.length : Int) := by omega
                cases hn2 : (bid == 0) with
                | true => repeat' (first | (refine AWp.quiet (id := 6) (by kernel_rfl) (by kernel_rfl) ?_) | (refine AWp.quiet (id := 11) (by kernel_rfl) (by kernel_rfl) ?_) | (refine AWp.quiet (id := 16) (by kernel_rfl) (by kernel_rfl) ?_) | (refine AWp.quiet (id := 25) (by kernel_rfl) (by kernel_rfl) ?_) | (refine AWp.quiet (id := 29) (by kernel_rfl) (by kernel_rfl) ?_) | (refine ACalls.start ?_; first | (refine ACalls.ofJi (hadd) rfl ?_) | (refine ACalls.ofJi (hs) rfl ?_)) | (refine qcall_start ?_; first | (refine qcallFi (hadd) rfl ?_ ?_; (focus ((first | exact rfl | (simp [pureV, flatV, srcB_eq, nodeE_val, nodeE_sz, intResultE_val, treeResultE_val]; done))))) | (refine qcallFi (hs) rfl ?_ ?_; (focus ((first | exact rfl | (simp [pureV, flatV, srcB_eq, nodeE_val, nodeE_sz, intResultE_val, treeResultE_val]; done)))))) | (refine KV.run _ ?_) | (refine KQ.run _ ?_) | (refine KT.run _ ?_) | (refine AWp.seqH fun KC => ?_) | (refine AWp.block ?_) | (refine AWp.region ?_) | (refine mops_step0 rfl rfl fun KC => ?_) | (refine mops_step1 rfl fun KC => ?_) | (refine mops_step2 rfl fun KC => ?_) | (refine AWp.ret ?_) | (refine AWp.skip ?_) | (refine AWp.exit ?_) | (refine aops_callH rfl fun kC => ?_) | (refine qops_callH rfl fun kC => ?_) | (refine AWp.condB ?_) | (simp only [bse, wk, tys, storeH_ptr, Nat.reduceEqDiff, ↓reduceIte, reduceCtorEq, Nat.reduceAdd, Nat.reduceLeDiff, Int.reduceBEq, Int.reduceLT, Int.reduceLE, Int.reduceEq, ne_eq, not_false_eq_true, Nat.reduceMul, srcB_eq, nodeE_val, nodeE_sz, intResultE_val, treeResultE_val, *]) | (refine condK_bool (fun hb => ?_) (fun hb => ?_) <;> ((try simp only [Bool.not_eq_true', Bool.not_eq_false'] at hb) <;> (try (have hbe := of_decide_eq_true hb)) <;> (try (have hbe := eq_of_beq hb)))) | (refine aops_partB ?_) | (refine qops_partB ?_))
                | false => repeat' (first | (refine AWp.quiet (id := 6) (by kernel_rfl) (by kernel_rfl) ?_) | (refine AWp.quiet (id := 11) (by kernel_rfl) (by kernel_rfl) ?_) | (refine AWp.quiet (id := 16) (by kernel_rfl) (by kernel_rfl) ?_) | (refine AWp.quiet (id := 25) (by kernel_rfl) (by kernel_rfl) ?_) | (refine AWp.quiet (id := 29) (by kernel_rfl) (by kernel_rfl) ?_) | (refine ACalls.start ?_; first | (refine ACalls.ofJi (hadd) rfl ?_) | (refine ACalls.ofJi (hs) rfl ?_) | (refine ACalls.ofJi (hnb) rfl ?_)) | (refine qcall_start ?_; first | (refine qcallFi (hadd) rfl ?_ ?_; (focus ((first | exact rfl | (simp [pureV, flatV, srcB_eq, nodeE_val, nodeE_sz, intResultE_val, treeResultE_val]; done))))) | (refine qcallFi (hs) rfl ?_ ?_; (focus ((first | exact rfl | (simp [pureV, flatV, srcB_eq, nodeE_val, nodeE_sz, intResultE_val, treeResultE_val]; done))))) | (refine qcallFi (hnb) rfl ?_ ?_; (focus ((first | exact rfl | (simp [pureV, flatV, srcB_eq, nodeE_val, nodeE_sz, intResultE_val, treeResultE_val]; done)))))) | (refine KV.run _ ?_) | (refine KQ.run _ ?_) | (refine KT.run _ ?_) | (refine AWp.seqH fun KC => ?_) | (refine AWp.block ?_) | (refine AWp.region ?_) | (refine mops_step0 rfl rfl fun KC => ?_) | (refine mops_step1 rfl fun KC => ?_) | (refine mops_step2 rfl fun KC => ?_) | (refine AWp.ret ?_) | (refine AWp.skip ?_) | (refine AWp.exit ?_) | (refine aops_callH rfl fun kC => ?_) | (refine qops_callH rfl fun kC => ?_) | (refine AWp.condB ?_) | (simp only [bse, wk, tys, storeH_ptr, Nat.reduceEqDiff, ↓reduceIte, reduceCtorEq, Nat.reduceAdd, Nat.reduceLeDiff, Int.reduceBEq, Int.reduceLT, Int.reduceLE, Int.reduceEq, ne_eq, not_false_eq_true, Nat.reduceMul, srcB_eq, nodeE_val, nodeE_sz, intResultE_val, treeResultE_val, *]) | (refine condK_bool (fun hb => ?_) (fun hb => ?_) <;> ((try simp only [Bool.not_eq_true', Bool.not_eq_false'] at hb) <;> (try (have hbe := of_decide_eq_true hb)) <;> (try (have hbe := eq_of_beq hb)))) | (refine aops_partB ?_) | (refine qops_partB ?_))
              · have hn1' : ¬ (0 : Int) < (ls.length : Int) := by omega
                repeat' (first | (refine AWp.quiet (id := 6) (by kernel_rfl) (by kernel_rfl) ?_) | (refine AWp.quiet (id := 11) (by kernel_rfl) (by kernel_rfl) ?_) | (refine AWp.quiet (id := 16) (by kernel_rfl) (by kernel_rfl) ?_) | (refine AWp.quiet (id := 25) (by kernel_rfl) (by kernel_rfl) ?_) | (refine AWp.quiet (id := 29) (by kernel_rfl) (by kernel_rfl) ?_) | (refine ACalls.start ?_; first | (refine ACalls.ofJi (hadd) rfl ?_) | (refine ACalls.ofJi (hs) rfl ?_) | (refine ACalls.ofJi (hnb) rfl ?_)) | (refine qcall_start ?_; first | (refine qcallFi (hadd) rfl ?_ ?_; (focus ((first | exact rfl | (simp [pureV, flatV, srcB_eq, nodeE_val, nodeE_sz, intResultE_val, treeResultE_val]; done))))) | (refine qcallFi (hs) rfl ?_ ?_; (focus ((first | exact rfl | (simp [pureV, flatV, srcB_eq, nodeE_val, nodeE_sz, intResultE_val, treeResultE_val]; done))))) | (refine qcallFi (hnb) rfl ?_ ?_; (focus ((first | exact rfl | (simp [pureV, flatV, srcB_eq, nodeE_val, nodeE_sz, intResultE_val, treeResultE_val]; done)))))) | (refine KV.run _ ?_) | (refine KQ.run _ ?_) | (refine KT.run _ ?_) | (refine AWp.seqH fun KC => ?_) | (refine AWp.block ?_) | (refine AWp.region ?_) | (refine mops_step0 rfl rfl fun KC => ?_) | (refine mops_step1 rfl fun KC => ?_) | (refine mops_step2 rfl fun KC => ?_) | (refine AWp.ret ?_) | (refine AWp.skip ?_) | (refine AWp.exit ?_) | (refine aops_callH rfl fun kC => ?_) | (refine qops_callH rfl fun kC => ?_) | (refine AWp.condB ?_) | (simp only [bse, wk, tys, storeH_ptr, Nat.reduceEqDiff, ↓reduceIte, reduceCtorEq, Nat.reduceAdd, Nat.reduceLeDiff, Int.reduceBEq, Int.reduceLT, Int.reduceLE, Int.reduceEq, ne_eq, not_false_eq_true, Nat.reduceMul, srcB_eq, nodeE_val, nodeE_sz, intResultE_val, treeResultE_val, *]) | (refine condK_bool (fun hb => ?_) (fun hb => ?_) <;> ((try simp only [Bool.not_eq_true', Bool.not_eq_false'] at hb) <;> (try (have hbe := of_decide_eq_true hb)) <;> (try (have hbe := eq_of_beq hb)))) | (refine aops_partB ?_) | (refine qops_partB ?_))
          · have hc0' : (c == 0) = false := by simpa using hc0
            clear hnext hc0
            repeat' (first | (refine AWp.quiet (id := 6) (by kernel_rfl) (by kernel_rfl) ?_) | (refine AWp.quiet (id := 11) (by kernel_rfl) (by kernel_rfl) ?_) | (refine AWp.quiet (id := 16) (by kernel_rfl) (by kernel_rfl) ?_) | (refine AWp.quiet (id := 25) (by kernel_rfl) (by kernel_rfl) ?_) | (refine AWp.quiet (id := 29) (by kernel_rfl) (by kernel_rfl) ?_) | (refine ACalls.start ?_; first | (refine ACalls.ofJi (hadd) rfl ?_) | (refine ACalls.ofJi (hs) rfl ?_)) | (refine qcall_start ?_; first | (refine qcallFi (hadd) rfl ?_ ?_; (focus ((first | exact rfl | (simp [pureV, flatV, srcB_eq, nodeE_val, nodeE_sz, intResultE_val, treeResultE_val]; done))))) | (refine qcallFi (hs) rfl ?_ ?_; (focus ((first | exact rfl | (simp [pureV, flatV, srcB_eq, nodeE_val, nodeE_sz, intResultE_val, treeResultE_val]; done)))))) | (refine KV.run _ ?_) | (refine KQ.run _ ?_) | (refine KT.run _ ?_) | (refine AWp.seqH fun KC => ?_) | (refine AWp.block ?_) | (refine AWp.region ?_) | (refine mops_step0 rfl rfl fun KC => ?_) | (refine mops_step1 rfl fun KC => ?_) | (refine mops_step2 rfl fun KC => ?_) | (refine AWp.ret ?_) | (refine AWp.skip ?_) | (refine AWp.exit ?_) | (refine aops_callH rfl fun kC => ?_) | (refine qops_callH rfl fun kC => ?_) | (refine AWp.condB ?_) | (simp only [bse, wk, tys, storeH_ptr, Nat.reduceEqDiff, ↓reduceIte, reduceCtorEq, Nat.reduceAdd, Nat.reduceLeDiff, Int.reduceBEq, Int.reduceLT, Int.reduceLE, Int.reduceEq, ne_eq, not_false_eq_true, Nat.reduceMul, srcB_eq, nodeE_val, nodeE_sz, intResultE_val, treeResultE_val, *]) | (refine condK_bool (fun hb => ?_) (fun hb => ?_) <;> ((try simp only [Bool.not_eq_true', Bool.not_eq_false'] at hb) <;> (try (have hbe := of_decide_eq_true hb)) <;> (try (have hbe := eq_of_beq hb)))) | (refine aops_partB ?_) | (refine qops_partB ?_))
end Go.BM
