/- Slices of slices, literals, make and append, told by lists. -/
import Derived.Test.YtgcffommhbjgdaaA3
set_option linter.unusedVariables false
set_option linter.unusedSimpArgs false
namespace Go.AM
open Go.RowKit

section
variable {P : Program} {B : Nat} {σ : Nat → Loc} {H : AH} {w : World}

/-! ### a slice of a slice -/
def boundV : Option Value → Int → Option Int
  | none, d => some d
  | some (.int _ n), _ => some n
  | _, _ => none

def sliceV (P : Program) (H : AH) (t : TypeId) (x : Value) (lo hi mx : Option Value) : Option Value :=
  match x with
  | .slice (some ⟨r, off, none⟩) len ver =>
    (match elZ P t, H[r]?, boundV lo 0, boundV hi len, boundV mx len with
     | some (_, sz, _), some blk, some l, some h, some m =>
       if blk.ver = ver ∧ blk.sz = sz ∧ 0 ≤ l ∧ l ≤ h ∧ h ≤ m ∧ m ≤ len ∧ (mx.isSome = true → hi.isSome = true) then some (.slice (some ⟨r, off + l.toNat * sz, none⟩) (h - l).toNat ver) else none
     | _, _, _, _, _ => none)
  | .slice none 0 0 =>
    (match elZ P t, boundV lo 0, boundV hi 0, boundV mx 0 with
     | some _, some l, some h, some m => if l = 0 ∧ h = 0 ∧ m = 0 ∧ (mx.isSome = true → hi.isSome = true) then some (.slice none 0 0) else none
     | _, _, _, _ => none)
  | _ => none

theorem bounds_run {len cap : Nat} {lo hi mx : Option Value} {l h m : Int} (hl : boundV lo 0 = some l) (hh : boundV hi len = some h) (hm : boundV mx len = some m)
    (h0 : 0 ≤ l) (h1 : l ≤ h) (h2 : h ≤ m) (h3 : m ≤ len) (hlc : len ≤ cap) (hmh : mx.isSome = true → hi.isSome = true) :
    ∃ mm : Nat, (∀ w', (Instr.sliceBounds true len cap lo hi mx).run P w' = .ok (l.toNat, h.toNat, mm) w') ∧ mm ≤ cap ∧ h.toNat ≤ mm := by
  have shut : ∀ (o : Option Value) (d n : Int), boundV o d = some n → o = none ∧ n = d ∨ ∃ k, o = some (.int k n) := by
    intro o d n hb
    cases o with
    | none => simp [boundV] at hb; exact .inl ⟨rfl, hb.symm⟩
    | some v => cases v <;> simp [boundV] at hb <;> exact .inr ⟨_, by rw [hb]⟩
  have e0 : 0 ≤ h := by omega
  have e1 : 0 ≤ m := by omega
  have e3 : h ≤ (cap : Int) := by omega
  have e4 : m ≤ (cap : Int) := by omega
  have t1 : (h.toNat : Int) = h := Int.toNat_of_nonneg e0
  have t2 : (m.toNat : Int) = m := Int.toNat_of_nonneg e1
  rcases shut mx _ _ hm with ⟨rfl, rfl⟩ | ⟨km, rfl⟩
  · refine ⟨cap, fun w' => ?_, Nat.le_refl _, by omega⟩
    rcases shut hi _ _ hh with ⟨rfl, rfl⟩ | ⟨kh, rfl⟩ <;> rcases shut lo _ _ hl with ⟨rfl, rfl⟩ | ⟨kl, rfl⟩ <;>
      simp [Instr.sliceBounds, run_sliceBound, h0, h1, e0, e3, t1]
  · refine ⟨m.toNat, fun w' => ?_, by omega, by omega⟩
    obtain ⟨kh, rfl⟩ : ∃ k, hi = some (.int k h) := by
      rcases shut hi _ _ hh with ⟨rfl, rfl⟩ | h'
      · simp at hmh
      · exact h'
    rcases shut lo _ _ hl with ⟨rfl, rfl⟩ | ⟨kl, rfl⟩ <;>
      simp [Instr.sliceBounds, run_sliceBound, h0, h1, h2, e0, e1, e3, e4, t1, t2]

theorem slice_sound {t : TypeId} {x dx d : Value} {lo hi mx lo' hi' mx' : Option Value} (hx : VR σ H x dx) (hS : Sim σ H w)
    (elo : ∀ n, boundV lo' 0 = some n → boundV lo 0 = some n) (ehi : ∀ k n, boundV hi' k = some n → boundV hi k = some n) (emx : ∀ k n, boundV mx' k = some n → boundV mx k = some n)
    (i1 : hi.isSome = hi'.isSome) (i2 : mx.isSome = mx'.isSome)
    (h : sliceV P H t dx lo' hi' mx' = some d) : ∃ u, VR σ H u d ∧ ∀ w', (Instr.sliceAt t x lo hi mx).run P w' = .ok u w' := by
  unfold sliceV at h
  split at h
  · rename_i r off len ver
    split at h
    case h_2 => cases h
    rename_i e sz by_ blk l hh m he hb hl hhi hm
    by_cases hc : blk.ver = ver ∧ blk.sz = sz ∧ 0 ≤ l ∧ l ≤ hh ∧ hh ≤ m ∧ m ≤ len ∧ (mx'.isSome = true → hi'.isSome = true)
    · rw [if_pos hc] at h
      cases h
      obtain ⟨c1, c2, c3, c4, c5, c6, c7⟩ := hc
      obtain ⟨hu, i, hi2, hsz, _⟩ := elZ_some he
      have hg : getB H r ver = some blk.cs := by simp [getB, hb, c1]
      have c7' : mx.isSome = true → hi.isSome = true := by rw [i1, i2]; exact c7
      have hP : P.underlying t = some (.slice (P.elem t)) := by rw [elem_of hu]; exact hu
      rcases hx.sliceI hg with ⟨h0, a, rfl⟩ | ⟨cap, blk', hb', rfl, hlc, hcm, hown⟩
      · have el : l = 0 := by omega
        have eh : hh = 0 := by omega
        subst el; subst eh; subst h0
        obtain ⟨mm, hr, hmm, hmh⟩ := bounds_run (P := P) (cap := 0) (elo _ hl) (ehi _ _ hhi) (emx _ _ hm) (by omega) (by omega) (by omega) (by omega) (by omega) c7'
        refine ⟨.slice a 0 0, by simpa using VR.mt a _ ver, fun w' => ?_⟩
        rw [run_sliceAt_slice (h := hP), run_slice_any (ht := hP), hr w', elem_of hu]
        simp only [Result.andThen_ok, run_sizeOf hi2, sliced]
        have : mm = 0 := by omega
        subst this
        simp
      · rw [hb] at hb'
        cases hb'
        obtain ⟨mm, hr, hmm, hmh⟩ := bounds_run (P := P) (elo _ hl) (ehi _ _ hhi) (emx _ _ hm) c3 c4 c5 c6 hlc c7'
        refine ⟨sliced (some ⟨(σ r).b, (σ r).base + off, none⟩) l.toNat hh.toNat mm sz, ?_, fun w' => ?_⟩
        · unfold sliced
          by_cases hml : mm = l.toNat
          · rw [if_pos hml]
            have z1 : hh.toNat - l.toNat = 0 := by omega
            have z2 : mm - l.toNat = 0 := by omega
            have z3 : (hh - l).toNat = 0 := by omega
            rw [z1, z2, z3]
            exact .mt _ _ _
          · rw [if_neg hml]
            have z3 : (hh - l).toNat = hh.toNat - l.toNat := by omega
            rw [z3]
            simp only [Option.map_some, add_plain', Nat.add_assoc]
            exact .slice r (off + l.toNat * sz) _ _ ver blk hb c1 (by omega) (by omega) fun ho => by
              have h1 := hown ho
              rw [c2] at h1 ⊢
              have h2 : (l.toNat + (mm - l.toNat)) * sz ≤ cap * sz := Nat.mul_le_mul_right _ (by omega)
              rw [Nat.add_mul] at h2
              omega
        · rw [run_sliceAt_slice (h := hP), run_slice_any (ht := hP), hr w', elem_of hu]
          simp only [Result.andThen_ok, run_sizeOf hi2, hsz]
    · rw [if_neg hc] at h; cases h
  · split at h
    case h_2 => cases h
    rename_i esz l hh m he hl hhi hm
    obtain ⟨e, sz, by_⟩ := esz
    by_cases hc : l = 0 ∧ hh = 0 ∧ m = 0 ∧ (mx'.isSome = true → hi'.isSome = true)
    · rw [if_pos hc] at h
      cases h
      obtain ⟨rfl, rfl, rfl, c7⟩ := hc
      obtain ⟨hu, i, hi2, hsz, _⟩ := elZ_some he
      have c7' : mx.isSome = true → hi.isSome = true := by rw [i1, i2]; exact c7
      have hP : P.underlying t = some (.slice (P.elem t)) := by rw [elem_of hu]; exact hu
      obtain ⟨a, rfl⟩ := hx.sliceNil rfl
      obtain ⟨mm, hr, hmm, hmh⟩ := bounds_run (P := P) (len := 0) (cap := 0) (elo _ hl) (ehi _ _ hhi) (emx _ _ hm) (by omega) (by omega) (by omega) (by omega) (by omega) c7'
      refine ⟨.slice a 0 0, .mt a none 0, fun w' => ?_⟩
      rw [run_sliceAt_slice (h := hP), run_slice_any (ht := hP), hr w', elem_of hu]
      simp only [Result.andThen_ok, run_sizeOf hi2, sliced]
      have : mm = 0 := by omega
      subst this
      simp
    · rw [if_neg hc] at h; cases h
  · cases h

end
end Go.AM
