/- Marks that nobody reads again. -/
import Derived.Test.YtdhincmlefpfkaaC24
set_option linter.unusedVariables false
set_option linter.unusedSimpArgs false
namespace Go.BM
open Go.RowKit
section
variable {P : Program} {x : Bool} {H H' : AH} {l l' : List Value} {S T : List Nat} {d v y : Value} {α : Type} {E : Enc α}

structure Mkd0 (H H' : AH) (d : Value) (S : List Nat) : Prop where
  len : H.length ≤ H'.length
  old : ∀ r, r < H.length → r ∉ S → H'[r]? = H[r]?
  own : ∃ y, OwnL true H' [d] [y] S
def MCalls0 (P : Program) (f : FuncId) (v : Value) (n : Nat) : Prop := ∀ (H : AH) (d : Value) (S : List Nat) (k : Int), OwnL true H [d] [v] S → S.Nodup → 0 ≤ k → k + (n : Nat) ≤ 1000000000000000 →
  ACalls P 0 f [d, .int .i64 k] H fun e H' => e = .int .i64 (k + (n : Nat)) ∧ Mkd0 H H' d S
theorem MCalls0.ofSl {xs : List α} {f : FuncId} {mk : Int → Nat → List Value} (hmk : ∀ k n, (mk k n).length = n) (hfl : ∀ k n c, c ∈ mk k n → flatV c = true) (hfE : ∀ c ∈ E.flat xs, flatV c = true)
    (h0 : ∀ k, PCalls P f [islE E [], .int .i64 k] (.int .i64 k))
    (hb : ∀ (H : AH) (r ver el sz : Nat) (cs : List Value) (sp : Option Nat) (k : Int), H[r]? = some ⟨el, sz, cs, ver, true⟩ → cs.length = xs.length * E.sz → 0 ≤ k → k ≤ 1000000000000000 →
      ACalls P 0 f [.slice (some ⟨r, 0, sp⟩) xs.length ver, .int .i64 k] H fun d H' => d = .int .i64 (k + (xs.length * E.sz : Nat)) ∧ H' = H.set r ⟨el, sz, mk k (xs.length * E.sz), ver, true⟩) : MCalls0 P f (islE E xs) (xs.length * E.sz) := by
  intro H d S k ho hnd hk hk2
  rcases ho.slI with ⟨rfl, rfl, rfl⟩ | ⟨r, sp, blk, rfl, hr, rfl, rfl, hx⟩ | ⟨r, sp, blk, S1, rfl, hr, hown, hl, hx, rfl, hc⟩
  · refine ACalls.ofP (h0 k) ho.bork rfl ⟨by simp, Nat.le_refl _, fun _ _ _ => rfl, islE E [], .nils .nil⟩
  · refine ACalls.ofP (h0 k) ho.bork rfl ⟨by simp, Nat.le_refl _, fun _ _ _ => rfl, islE E [], ho⟩
  · obtain ⟨rfl, hcs⟩ := hc.flatA hfE
    have hxl := hx rfl
    obtain ⟨el, sz, cs, ver, o⟩ := blk
    dsimp only at hown hl hxl hr hcs ⊢
    subst hown
    rw [E.flat_length] at hxl
    refine (hb H r ver el sz cs sp k hr hxl hk (by omega)).mono ?_
    rintro e H' ⟨rfl, rfl⟩
    refine ⟨rfl, by simp, fun q hq hqs => List.getElem?_set_ne (by simp at hqs; omega), isl xs.length (mk k (xs.length * E.sz)), ?_⟩
    have := OwnL.slice (x := true) (H := H.set r ⟨el, sz, mk k (xs.length * E.sz), ver, true⟩) (r := r) (sp := sp) (len := xs.length) (blk := ⟨el, sz, mk k (xs.length * E.sz), ver, true⟩) (cs := mk k (xs.length * E.sz)) (S := []) (T := []) (l := []) (l' := [])
      (List.getElem?_set_self (lt_of_some hr)) rfl (Nat.le_refl _) (fun _ => rfl) (fun h0 => List.eq_nil_of_length_eq_zero (by rw [hmk, h0]; simp)) (by rw [List.take_length]; exact .ofFlat (hfl k _)) .nil
    exact this

theorem Cx.mark0 {os : List (Value × Value × List Nat)} {bs : List (Nat × Blk)} (h : Cx H os bs) (i : Nat) (hi : os[i]? = some (d, v, S)) (hM : Mkd0 H H' d S) :
    ∃ y, Cx H' (os.set i (d, y, S)) bs := by
  obtain ⟨y, hy⟩ := hM.own
  obtain ⟨hlt, hget⟩ := List.getElem?_eq_some_iff.1 hi
  have hsp : os = os.take i ++ (d, v, S) :: os.drop (i + 1) := by rw [← hget]; simp
  have hse : os.set i (d, y, S) = os.take i ++ (d, y, S) :: os.drop (i + 1) := by rw [List.set_eq_take_append_cons_drop, if_pos hlt]
  have hfl : (os.set i (d, y, S)).flatMap (fun o => o.2.2) = os.flatMap (fun o => o.2.2) := by
    rw [hse]; conv => rhs; rw [hsp]
    simp
  have hnd := h.nd
  rw [hsp] at hnd
  simp only [List.flatMap_append, List.flatMap_cons, List.append_assoc] at hnd
  have hdis : ∀ o ∈ os.take i ++ os.drop (i + 1), ∀ r ∈ o.2.2, r ∉ S := fun o ho r hr hrS => by
    rw [List.nodup_append] at hnd
    obtain ⟨_, h2, h3⟩ := hnd
    rcases List.mem_append.1 ho with ho | ho
    · exact h3 r (List.mem_flatMap.2 ⟨o, ho, hr⟩) r (by simp [hrS]) rfl
    · rw [List.nodup_append] at h2
      exact h2.2.2 r hrS r (List.mem_append_left _ (List.mem_flatMap.2 ⟨o, ho, hr⟩)) rfl
  have hdisb : ∀ b ∈ bs, b.1 ∉ S := fun b hb hrS => by
    rw [List.nodup_append] at hnd
    obtain ⟨_, h2, _⟩ := hnd
    rw [List.nodup_append] at h2
    exact h2.2.2 b.1 hrS b.1 (List.mem_append_right _ (List.mem_map.2 ⟨b, hb, rfl⟩)) rfl
  have hold : ∀ o ∈ os, OwnL true H [o.1] [o.2.1] o.2.2 := h.own
  refine ⟨y, ⟨fun o ho => ?_, ?_, fun b hb => (hM.old _ (lt_of_some (h.box b hb)) (hdisb b hb)).trans (h.box b hb)⟩⟩
  · rw [hse] at ho
    have : o = (d, y, S) ∨ o ∈ os.take i ++ os.drop (i + 1) := by
      rcases List.mem_append.1 ho with ho | ho
      · exact .inr (List.mem_append_left _ ho)
      · rcases List.mem_cons.1 ho with rfl | ho
        · exact .inl rfl
        · exact .inr (List.mem_append_right _ ho)
    rcases this with rfl | hm
    · exact hy
    · have ho' : o ∈ os := by
        rcases List.mem_append.1 hm with h | h
        · exact List.mem_of_mem_take h
        · exact List.mem_of_mem_drop h
      exact (hold o ho').frame fun r hr => hM.old r ((hold o ho').lt r hr) (hdis o hm r hr)
  · rw [hfl]; exact h.nd
end
end Go.BM
