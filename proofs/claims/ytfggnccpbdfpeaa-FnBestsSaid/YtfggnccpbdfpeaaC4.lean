/- Slices of slices, literals, make and append, told by lists. -/
import Derived.Test.YtfggnccpbdfpeaaC3
set_option linter.unusedVariables false
set_option linter.unusedSimpArgs false
namespace Go.BM
open Go.RowKit

section
variable {P : Program} {B : Nat} {σ : Sg} {H : AH} {w : World}

/-! ### a slice of a slice -/
def boundV : Option Value → Int → Option Int
  | none, d => some d
  | some (.int _ n), _ => some n
  | _, _ => none

def sliceV (P : Program) (H : AH) (t : TypeId) (x : Value) (lo hi mx : Option Value) : Option Value :=
  match elZ P t with
  | none => none
  | some (_, sz, _) =>
    (match asI x with
     | some (len, cs) =>
       (match boundV lo 0, boundV hi len, boundV mx len with
        | some l, some h, some m =>
          if 0 ≤ l ∧ l ≤ h ∧ h ≤ m ∧ m ≤ len ∧ (mx.isSome = true → hi.isSome = true) then
            (if mx.isSome = true ∧ m = l then some (.slice none 0 0) else some (isl (h - l).toNat ((cs.drop (l.toNat * sz)).take ((h - l).toNat * sz)))) else none
        | _, _, _ => none)
     | none =>
       (match x with
        | .slice (some ⟨r, off, sp⟩) len ver =>
          (match H[r]?, boundV lo 0, boundV hi len, boundV mx (sp.getD len) with
           | some blk, some l, some h, some m =>
             if blk.ver = ver ∧ blk.own = true ∧ blk.sz = sz ∧ 0 ≤ l ∧ l ≤ h ∧ h ≤ m ∧ m ≤ ((sp.getD len : Nat) : Int) ∧ (mx.isSome = true → hi.isSome = true) then
               some (.slice (some ⟨r, off + l.toNat * sz, some (m - l).toNat⟩) (h - l).toNat ver) else none
           | _, _, _, _ => none)
        | .slice none 0 0 =>
          (match boundV lo 0, boundV hi 0, boundV mx 0 with
           | some l, some h, some m => if l = 0 ∧ h = 0 ∧ m = 0 ∧ (mx.isSome = true → hi.isSome = true) then some (.slice none 0 0) else none
           | _, _, _ => none)
        | _ => none))

theorem bounds_run {len cap kc : Nat} {lo hi mx : Option Value} {l h m : Int} (hl : boundV lo 0 = some l) (hh : boundV hi len = some h) (hm : boundV mx kc = some m)
    (h0 : 0 ≤ l) (h1 : l ≤ h) (h2 : h ≤ m) (h3 : m ≤ kc) (hkc : kc ≤ cap) (hlc : len ≤ cap) (hmh : mx.isSome = true → hi.isSome = true) :
    ∃ mm : Nat, (∀ w', (Instr.sliceBounds true len cap lo hi mx).run P w' = .ok (l.toNat, h.toNat, mm) w') ∧ mm ≤ cap ∧ m.toNat ≤ mm ∧ (mx.isSome = true → mm = m.toNat) := by
  have shut : ∀ (o : Option Value) (d n : Int), boundV o d = some n → o = none ∧ n = d ∨ ∃ k, o = some (.int k n) := by
    intro o d n hb
    cases o with
    | none => simp [boundV] at hb; exact .inl ⟨rfl, hb.symm⟩
    | some v => cases v <;> simp [boundV] at hb <;> exact .inr ⟨_, by rw [hb]⟩
  have e0 : 0 ≤ h := by omega
  have e1 : 0 ≤ m := by omega
  have e3 : h ≤ (cap : Int) := by omega
  have e4 : m ≤ (cap : Int) := by omega
  have t1 : (h.toNat : Int) = h := Int.toNat_of_nonneg e0
  have t2 : (m.toNat : Int) = m := Int.toNat_of_nonneg e1
  rcases shut mx _ _ hm with ⟨rfl, rfl⟩ | ⟨km, rfl⟩
  · refine ⟨cap, fun w' => ?_, Nat.le_refl _, by omega, by simp⟩
    rcases shut hi _ _ hh with ⟨rfl, rfl⟩ | ⟨kh, rfl⟩ <;> rcases shut lo _ _ hl with ⟨rfl, rfl⟩ | ⟨kl, rfl⟩ <;>
      simp [Instr.sliceBounds, run_sliceBound, h0, h1, e0, e3, t1]
  · refine ⟨m.toNat, fun w' => ?_, by omega, by omega, fun _ => rfl⟩
    obtain ⟨kh, rfl⟩ : ∃ k, hi = some (.int k h) := by
      rcases shut hi _ _ hh with ⟨rfl, rfl⟩ | h'
      · simp at hmh
      · exact h'
    rcases shut lo _ _ hl with ⟨rfl, rfl⟩ | ⟨kl, rfl⟩ <;>
      simp [Instr.sliceBounds, run_sliceBound, h0, h1, h2, e0, e1, e3, e4, t1, t2]

theorem slice_sound {t : TypeId} {x dx d : Value} {lo hi mx lo' hi' mx' : Option Value} (hx : VR σ H x dx) (hS : Sim σ H w)
    (elo : ∀ n, boundV lo' 0 = some n → boundV lo 0 = some n) (ehi : ∀ k n, boundV hi' k = some n → boundV hi k = some n) (emx : ∀ k n, boundV mx' k = some n → boundV mx k = some n)
    (i1 : hi.isSome = hi'.isSome) (i2 : mx.isSome = mx'.isSome)
    (h : sliceV P H t dx lo' hi' mx' = some d) : ∃ u, VR σ H u d ∧ ∀ w', (Instr.sliceAt t x lo hi mx).run P w' = .ok u w' := by
  unfold sliceV at h
  cases he : elZ P t with
  | none => rw [he] at h; cases h
  | some esz =>
  obtain ⟨e, sz, by_⟩ := esz
  rw [he] at h
  dsimp only at h
  obtain ⟨hu, i, hi2, hsz, _⟩ := elZ_some he
  have hP : P.underlying t = some (.slice (P.elem t)) := by rw [elem_of hu]; exact hu
  have run : ∀ (a : Option Addr) (len cap kc : Nat) (l hh m : Int), boundV lo' 0 = some l → boundV hi' len = some hh → boundV mx' kc = some m → 0 ≤ l → l ≤ hh → hh ≤ m → m ≤ kc → kc ≤ cap → len ≤ cap → (mx'.isSome = true → hi'.isSome = true) →
      ∃ mm : Nat, mm ≤ cap ∧ m.toNat ≤ mm ∧ (mx'.isSome = true → mm = m.toNat) ∧ ∀ w', (Instr.sliceAt t (.slice a len cap) lo hi mx).run P w' = .ok (sliced a l.toNat hh.toNat mm sz) w' := by
    intro a len cap kc l hh m q1 q2 q3 c1 c2 c3 c4 c5 c6 c7
    obtain ⟨mm, hr, r1, r2, r3⟩ := bounds_run (P := P) (elo _ q1) (ehi _ _ q2) (emx _ _ q3) c1 c2 c3 c4 c5 c6 (by rw [i1, i2]; exact c7)
    refine ⟨mm, r1, r2, by rw [← i2]; exact r3, fun w' => ?_⟩
    rw [run_sliceAt_slice (h := hP), run_slice_any (ht := hP), hr w', elem_of hu]
    simp only [Result.andThen_ok, run_sizeOf hi2, hsz]
  cases ha : asI dx with
  | some lc =>
    obtain ⟨len, cs⟩ := lc
    rw [ha] at h
    dsimp only at h
    split at h
    case h_2 => cases h
    rename_i l hh m hl hhi hm
    by_cases hc : 0 ≤ l ∧ l ≤ hh ∧ hh ≤ m ∧ m ≤ len ∧ (mx'.isSome = true → hi'.isSome = true)
    · rw [if_pos hc] at h
      obtain ⟨c1, c2, c3, c4, c5⟩ := hc
      rcases hx.aslice ha with ⟨rfl, rfl, a, cap, rfl, hcm⟩ | ⟨b, o, cap, us, rfl, hlc, hcm, hul, hui, huv⟩
      · obtain ⟨mm, r1, r2, r3, hr⟩ := run a 0 cap 0 l hh m hl hhi hm c1 c2 c3 c4 (by omega) (by omega) c5
        have z1 : l = 0 := by omega
        have z2 : hh = 0 := by omega
        have z3 : m = 0 := by omega
        subst z1 z2 z3
        refine ⟨_, ?_, hr⟩
        by_cases hq : mx'.isSome = true ∧ (0 : Int) = 0
        · rw [if_pos hq] at h
          cases h
          have := r3 hq.1
          simp at this
          subst this
          exact .mt _ _ _ (fun x hx => by cases hx)
        · rw [if_neg hq] at h
          cases h
          have := VR.isl0 (σ := σ) (H := H) (if mm = 0 then a else a.map (·.add (0 * sz))) mm (by omega)
          simpa [BM.isl, sliced] using this
      · obtain ⟨mm, r1, r2, r3, hr⟩ := run _ len cap len l hh m hl hhi hm c1 c2 c3 c4 hlc hlc c5
        refine ⟨_, ?_, hr⟩
        unfold sliced
        by_cases hq : mx'.isSome = true ∧ m = l
        · rw [if_pos hq] at h
          cases h
          have h3 := r3 hq.1
          have e1 : mm = l.toNat := by omega
          rw [if_pos e1, show hh.toNat - l.toNat = 0 by omega, show mm - l.toNat = 0 by omega]
          exact .mt _ _ _ (fun x hx => by cases hx)
        · rw [if_neg hq] at h
          cases h
          by_cases hml : mm = l.toNat
          · rw [if_pos hml, show hh.toNat - l.toNat = 0 by omega, show mm - l.toNat = 0 by omega, show (hh - l).toNat = 0 by omega]
            have := VR.isl0 (σ := σ) (H := H) (some ⟨b, o, none⟩) 0 (Nat.zero_le _)
            simpa [BM.isl] using this
          · rw [if_neg hml, show (hh - l).toNat = hh.toNat - l.toNat by omega]
            simp only [Option.map_some, add_plain']
            refine VR.mkI (us := (us.drop (l.toNat * sz)).take ((hh.toNat - l.toNat) * sz)) (by omega) (by omega) (by simp [hul]) (fun j u hj => ?_) fun j u hj => ?_
            · rw [List.getElem?_take] at hj
              split at hj
              · rw [List.getElem?_drop] at hj
                have := hui _ u hj
                rw [← Nat.add_assoc] at this
                exact this
              · cases hj
            · rw [List.getElem?_take] at hj ⊢
              split at hj
              · rename_i hlt
                rw [if_pos hlt]
                rw [List.getElem?_drop] at hj ⊢
                exact huv _ u hj
              · cases hj
    · rw [if_neg hc] at h; cases h
  | none =>
    rw [ha] at h
    dsimp only at h
    split at h
    · rename_i r off sp len ver
      split at h
      case h_2 => cases h
      rename_i blk l hh m hb hl hhi hm
      by_cases hc : blk.ver = ver ∧ blk.own = true ∧ blk.sz = sz ∧ 0 ≤ l ∧ l ≤ hh ∧ hh ≤ m ∧ m ≤ ((sp.getD len : Nat) : Int) ∧ (mx'.isSome = true → hi'.isSome = true)
      · rw [if_pos hc] at h
        cases h
        obtain ⟨c1, co, c2, c3, c4, c5, c6, c7⟩ := hc
        have hg : getB H r ver = some blk.cs := by simp [getB, hb, c1, co]
        rcases hx.sliceI hg with ⟨h0, hz, a, rfl⟩ | ⟨cap, blk', hb', rfl, hlc, hsp, hcm, hown⟩
        · subst h0
          rw [hz] at c6
          obtain ⟨mm, r1, r2, r3, hr⟩ := run a 0 0 0 l hh m hl hhi (by rw [hz] at hm; exact hm) c3 c4 c5 c6 (by omega) (by omega) c7
          refine ⟨_, ?_, hr⟩
          have : mm = 0 := by omega
          subst this
          have e1 : l = 0 := by omega
          have e2 : hh = 0 := by omega
          have e3 : m = 0 := by omega
          subst e1 e2 e3
          exact .mt _ _ _ (fun x hx => by cases hx; rfl)
        · rw [hb] at hb'
          cases hb'
          obtain ⟨mm, r1, r2, r3, hr⟩ := run _ len cap (sp.getD len) l hh m hl hhi hm c3 c4 c5 c6 hsp hlc c7
          refine ⟨_, ?_, hr⟩
          unfold sliced
          by_cases hml : mm = l.toNat
          · rw [if_pos hml, show hh.toNat - l.toNat = 0 by omega, show mm - l.toNat = 0 by omega, show (hh - l).toNat = 0 by omega]
            exact .mt _ _ _ (fun x hx => by cases hx; simp; omega)
          · rw [if_neg hml, show (hh - l).toNat = hh.toNat - l.toNat by omega]
            simp only [Option.map_some, add_plain', Nat.add_assoc]
            refine .slice r (off + l.toNat * sz) _ _ ver _ blk hb c1 co (by omega) (by simp only [Option.getD_some]; omega) (by omega) ?_
            rw [c2] at hown ⊢
            have h2 : (l.toNat + (mm - l.toNat)) * sz ≤ cap * sz := Nat.mul_le_mul_right _ (by omega)
            rw [Nat.add_mul] at h2
            omega
      · rw [if_neg hc] at h; cases h
    · split at h
      case h_2 => cases h
      rename_i l hh m hl hhi hm
      by_cases hc : l = 0 ∧ hh = 0 ∧ m = 0 ∧ (mx'.isSome = true → hi'.isSome = true)
      · rw [if_pos hc] at h
        cases h
        obtain ⟨rfl, rfl, rfl, c7⟩ := hc
        obtain ⟨a, rfl⟩ := hx.sliceNil rfl
        obtain ⟨mm, r1, r2, r3, hr⟩ := run a 0 0 0 0 0 0 hl hhi hm (by omega) (by omega) (by omega) (by omega) (by omega) (by omega) c7
        refine ⟨_, ?_, hr⟩
        have : mm = 0 := by omega
        subst this
        exact .mt _ _ _ (fun x hx => by cases hx)
      · rw [if_neg hc] at h; cases h
    · cases h

end
end Go.BM
