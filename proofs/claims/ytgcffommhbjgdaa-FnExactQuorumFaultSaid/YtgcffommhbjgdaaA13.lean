/- What a call hands back, told tidily: new blocks, each at a place that is known. -/
import Derived.Test.YtgcffommhbjgdaaA12
set_option linter.unusedVariables false
set_option linter.unusedSimpArgs false
namespace Go.AM
open Go.RowKit

/-- Values that are told anew: block 'r' is now block 'A + i'. -/
inductive RN (A : Nat) (rs : List (Option Nat)) (H' : AH) (bs : List Blk) : Value → Value → Prop
  | flat (v : Value) (h : flatV v = true) : RN A rs H' bs v v
  | nil (ver : Nat) : RN A rs H' bs (.slice none 0 ver) (.slice none 0 ver)
  | nilTo (ver i off ver' : Nat) : RN A rs H' bs (.slice none 0 ver) (.slice (some ⟨A + i, off, none⟩) 0 ver')
  | sl (i r off len : Nat) (blk blk' : Blk) (h1 : rs[i]? = some (some r)) (h2 : H'[r]? = some blk) (h3 : bs[i]? = some blk') (h4 : blk'.sz = blk.sz) (h5 : blk'.own = blk.own) :
      RN A rs H' bs (.slice (some ⟨r, off, none⟩) len blk.ver) (.slice (some ⟨A + i, off, none⟩) len blk'.ver)
  | ptr (i r off : Nat) (blk blk' : Blk) (h1 : rs[i]? = some (some r)) (h2 : H'[r]? = some blk) (h3 : bs[i]? = some blk') :
      RN A rs H' bs (.pointer (some ⟨r, off, some blk.ver⟩)) (.pointer (some ⟨A + i, off, some blk'.ver⟩))
  | old (r off len ver : Nat) (h : r < A) : RN A rs H' bs (.slice (some ⟨r, off, none⟩) len ver) (.slice (some ⟨r, off, none⟩) len ver)
  | oldp (r off ver : Nat) (h : r < A) : RN A rs H' bs (.pointer (some ⟨r, off, some ver⟩)) (.pointer (some ⟨r, off, some ver⟩))
  | agg (xs ys : Array Value) (hs : xs.size = ys.size) (h : ∀ i (h1 : i < xs.size) (h2 : i < ys.size), RN A rs H' bs xs[i] ys[i]) : RN A rs H' bs (.agg xs) (.agg ys)
  | tuple (xs ys : Array Value) (hs : xs.size = ys.size) (h : ∀ i (h1 : i < xs.size) (h2 : i < ys.size), RN A rs H' bs xs[i] ys[i]) : RN A rs H' bs (.tuple xs) (.tuple ys)

def sigR (A N0 : Nat) (rs : List (Option Nat)) (σ' : Nat → Loc) : Nat → Loc := fun q => if q < A then σ' q else match rs[q - A]? with | some (some r) => σ' r | _ => ⟨N0, 0, 0⟩

theorem sigR_old {A N0 : Nat} {rs : List (Option Nat)} {σ' : Nat → Loc} {q : Nat} (h : q < A) : sigR A N0 rs σ' q = σ' q := by unfold sigR; rw [if_pos h]
theorem sigR_new {A N0 : Nat} {rs : List (Option Nat)} {σ' : Nat → Loc} {i r : Nat} (h : rs[i]? = some (some r)) : sigR A N0 rs σ' (A + i) = σ' r := by
  unfold sigR
  rw [if_neg (by omega), Nat.add_sub_cancel_left, h]
theorem sigR_void {A N0 : Nat} {rs : List (Option Nat)} {σ' : Nat → Loc} {i : Nat} (h : rs[i]? = some none) : sigR A N0 rs σ' (A + i) = ⟨N0, 0, 0⟩ := by
  unfold sigR
  rw [if_neg (by omega), Nat.add_sub_cancel_left, h]

theorem RN.vr {H H' bs : AH} {rs : List (Option Nat)} {σ' : Nat → Loc} {N0 : Nat} (hpre : ∀ r, r < H.length → H'[r]? = H[r]?) {d d2 : Value} (h : RN H.length rs H' bs d d2) :
    ∀ v, VR σ' H' v d → VR (sigR H.length N0 rs σ') (H ++ bs) v d2 := by
  induction h with
  | flat d hf =>
    intro v hv
    have := hv.flatE hf
    subst this
    exact .flat _ hf
  | nil ver => intro v hv; cases hv with
    | flat _ h => simp [flatV] at h
    | mt a d ver => exact .mt _ _ _
  | nilTo ver i off ver' => intro v hv; cases hv with
    | flat _ h => simp [flatV] at h
    | mt a d ver => exact .mt _ _ _
  | sl i r off len blk blk' h1 h2 h3 h4 h5 =>
    intro v hv
    have hget : (H ++ bs)[H.length + i]? = some blk' := by rw [List.getElem?_append_right (by omega), Nat.add_sub_cancel_left]; exact h3
    generalize hver : blk.ver = ver at hv
    cases hv with
    | flat _ h => simp [flatV] at h
    | mt a d ver => exact .mt _ _ _
    | slice _ _ _ cap _ b hb hbv hl hm hc =>
      rw [h2] at hb
      cases hb
      have e := sigR_new (A := H.length) (N0 := N0) (σ' := σ') h1
      have := VR.slice (σ := sigR H.length N0 rs σ') (H := H ++ bs) (H.length + i) off len cap blk'.ver blk' hget rfl hl hm (fun ho => by rw [e, h4]; exact hc (by rw [← h5]; exact ho))
      rw [e] at this
      exact this
    | stale _ _ _ _ b hb hbv a l c =>
      rw [h2] at hb
      cases hb
      omega
  | ptr i r off blk blk' h1 h2 h3 =>
    intro v hv
    have hget : (H ++ bs)[H.length + i]? = some blk' := by rw [List.getElem?_append_right (by omega), Nat.add_sub_cancel_left]; exact h3
    generalize hver : blk.ver = ver at hv
    cases hv with
    | flat _ h => simp [flatV] at h
    | ptr _ _ _ b hb hbv =>
      rw [h2] at hb
      cases hb
      have e := sigR_new (A := H.length) (N0 := N0) (σ' := σ') h1
      have := VR.ptr (σ := sigR H.length N0 rs σ') (H := H ++ bs) (H.length + i) off blk'.ver blk' hget rfl
      rw [e] at this
      exact this
    | sptr _ _ _ b hb hbv a =>
      rw [h2] at hb
      cases hb
      omega
  | old r off len ver h =>
    intro v hv
    have hg : ∀ b, H'[r]? = some b → (H ++ bs)[r]? = some b := fun b hb => by rw [List.getElem?_append_left h, ← hpre r h]; exact hb
    have e := sigR_old (A := H.length) (N0 := N0) (rs := rs) (σ' := σ') h
    cases hv with
    | flat _ h => simp [flatV] at h
    | mt a d ver => exact .mt _ _ _
    | slice _ _ _ cap _ b hb hbv hl hm hc =>
      have := VR.slice (σ := sigR H.length N0 rs σ') (H := H ++ bs) r off len cap ver b (hg b hb) hbv hl hm (fun ho => by rw [e]; exact hc ho)
      rw [e] at this
      exact this
    | stale _ _ _ _ b hb hbv a l c => exact .stale _ _ _ _ b (hg b hb) hbv a l c
  | oldp r off ver h =>
    intro v hv
    have hg : ∀ b, H'[r]? = some b → (H ++ bs)[r]? = some b := fun b hb => by rw [List.getElem?_append_left h, ← hpre r h]; exact hb
    have e := sigR_old (A := H.length) (N0 := N0) (rs := rs) (σ' := σ') h
    cases hv with
    | flat _ h => simp [flatV] at h
    | ptr _ _ _ b hb hbv =>
      have := VR.ptr (σ := sigR H.length N0 rs σ') (H := H ++ bs) r off ver b (hg b hb) hbv
      rw [e] at this
      exact this
    | sptr _ _ _ b hb hbv a => exact .sptr _ _ _ b (hg b hb) hbv a
  | agg xs ys hs h ih =>
    intro v hv
    obtain ⟨us, rfl, hu, hvv⟩ := hv.aggI
    exact .agg _ _ (by omega) fun i h1 h2 => ih i (by omega) h2 _ (hvv i h1 (by omega))
  | tuple xs ys hs h ih =>
    intro v hv
    obtain ⟨us, rfl, hu, hvv⟩ := hv.tupleI
    exact .tuple _ _ (by omega) fun i h1 h2 => ih i (by omega) h2 _ (hvv i h1 (by omega))

/-- The old block 'blk' and the new telling 'blk'' of it (perhaps of fewer cells). -/
structure MB (A : Nat) (rs : List (Option Nat)) (H' : AH) (bs : List Blk) (blk blk' : Blk) : Prop where
  el : blk'.el = blk.el
  sz : blk'.sz = blk.sz
  own : blk'.own = blk.own
  len : blk'.cs.length ≤ blk.cs.length
  rel : ∀ (j : Nat) u', blk'.cs[j]? = some u' → ∃ u, blk.cs[j]? = some u ∧ RN A rs H' bs u u'

structure Tidy (A : Nat) (H' : AH) (rs : List (Option Nat)) (bs : List Blk) : Prop where
  size : bs.length = rs.length
  inj : ∀ (i j r : Nat), rs[i]? = some (some r) → rs[j]? = some (some r) → i = j
  blk : ∀ (i r : Nat), rs[i]? = some (some r) → A ≤ r ∧ ∃ b b', H'[r]? = some b ∧ bs[i]? = some b' ∧ MB A rs H' bs b b'
  void : ∀ (i : Nat), rs[i]? = some none → ∃ b', bs[i]? = some b' ∧ b'.own = false ∧ b'.cs = []

theorem one_of_RN {A : Nat} {rs : List (Option Nat)} {H' bs : AH} {d d2 : Value} (h : RN A rs H' bs d d2) : d2.oneCell' = d.oneCell' := by cases h <;> rfl

theorem VR.one'' {σ : Nat → Loc} {H : AH} {v d : Value} (h : VR σ H v d) : v.oneCell' = d.oneCell' := h.one

theorem tidy_sound {H H' bs : AH} {rs : List (Option Nat)} {σ σ' : Nat → Loc} {w w' : World} (hS : Sim σ H w) (F : Fut H.length σ H w σ' H' w') (S : Sim σ' H' w') (T : Tidy H.length H' rs bs) :
    Fut H.length σ H w (sigR H.length w.heap.size rs σ') (H ++ bs) w' ∧ Sim (sigR H.length w.heap.size rs σ') (H ++ bs) w' := by
  have hpre := F.pre
  have hsub : ∀ q, H.length ≤ q → q < (H ++ bs).length → q = H.length + (q - H.length) ∧ q - H.length < rs.length := fun q h1 h2 => by
    simp only [List.length_append, T.size] at h2
    omega
  have newq : ∀ q b', (H ++ bs)[q]? = some b' → H.length ≤ q → (∃ i r b, q = H.length + i ∧ rs[i]? = some (some r) ∧ bs[i]? = some b' ∧ H.length ≤ r ∧ H'[r]? = some b ∧ MB H.length rs H' bs b b') ∨ (∃ i, q = H.length + i ∧ rs[i]? = some none ∧ b'.own = false ∧ b'.cs = []) := fun q b' hb hq => by
    have hlt := lt_of_some hb
    obtain ⟨e, hi⟩ := hsub q hq hlt
    rw [List.getElem?_append_right hq] at hb
    cases hr : rs[q - H.length]? with
    | none => rw [List.getElem?_eq_none_iff] at hr; omega
    | some o =>
      cases o with
      | none =>
        obtain ⟨b2, h1, h2, h3⟩ := T.void _ hr
        rw [hb] at h1
        cases h1
        exact .inr ⟨_, e, hr, h2, h3⟩
      | some r =>
        obtain ⟨h1, b, b2, h2, h3, h4⟩ := T.blk _ r hr
        rw [hb] at h3
        cases h3
        exact .inl ⟨_, r, b, e, hr, hb, h1, h2, h4⟩
  have F2 : Fut H.length σ H w (sigR H.length w.heap.size rs σ') (H ++ bs) w' := {
    os := F.os
    tape := F.tape
    output := F.output
    size := F.size
    frame := F.frame
    pre := fun r hr => List.getElem?_append_left hr
    preσ := fun r hr hl => by rw [sigR_old hr]; exact F.preσ r hr hl
    keep := fun r b hb => ⟨b, by rw [List.getElem?_append_left (lt_of_some hb)]; exact hb, Nat.le_refl _, fun _ => ⟨by rw [sigR_old (lt_of_some hb)]; exact F.preσ r (lt_of_some hb) (lt_of_some hb), rfl, rfl⟩⟩
    loc := fun r hr => by
      rcases Nat.lt_or_ge r H.length with h1 | h1
      · exact .inl ⟨h1, by rw [sigR_old h1]; exact F.preσ r h1 h1⟩
      · right
        obtain ⟨e, hi⟩ := hsub r h1 hr
        obtain ⟨b', hb'⟩ : ∃ b', (H ++ bs)[r]? = some b' := ⟨_, List.getElem?_eq_getElem hr⟩
        rcases newq r b' hb' h1 with ⟨i, r0, b, rfl, h2, h3, h4, h5, h6⟩ | ⟨i, rfl, h2, h3, h4⟩
        · rw [sigR_new h2]
          rcases F.loc r0 (lt_of_some h5) with ⟨h7, _⟩ | h7
          · omega
          · exact h7
        · rw [sigR_void h2]; exact Nat.le_refl _ }
  have hS' := hS.below F.forget
  have hold : ∀ q b, (H ++ bs)[q]? = some b → q < H.length → H[q]? = some b := fun q b hb hq => by rwa [List.getElem?_append_left hq] at hb
  have hσ : ∀ q, q < H.length → sigR H.length w.heap.size rs σ' q = σ q := fun q hq => by rw [sigR_old hq]; exact F.preσ q hq hq
  have hnewb : ∀ r b, H.length ≤ r → H'[r]? = some b → w.heap.size ≤ (σ' r).b := fun r b h1 h2 => by
    rcases F.loc r (lt_of_some h2) with ⟨h7, _⟩ | h7
    · omega
    · exact h7
  refine ⟨F2, ⟨fun q b hb ho => ?_, fun q b hb ho j v hj => ?_, fun q q' b b' hb hb' hqq ho hl => ?_⟩⟩
  · rcases Nat.lt_or_ge q H.length with h1 | h1
    · obtain ⟨c, a1, a2, a3, a4, a5⟩ := hS'.own q b (hold q b hb h1) ho
      rw [hσ q h1]
      refine ⟨c, a1, a2, a3, a4, fun j v hj => ?_⟩
      obtain ⟨u, b1, b2, b3⟩ := a5 j v hj
      exact ⟨u, b1, b2.fut F2, b3⟩
    · rcases newq q b hb h1 with ⟨i, r0, b0, rfl, h2, h3, h4, h5, h6⟩ | ⟨i, rfl, h2, h3, h4⟩
      · obtain ⟨c, a1, a2, a3, a4, a5⟩ := S.own r0 b0 h5 (by rw [← h6.own]; exact ho)
        rw [sigR_new h2]
        refine ⟨c, by rw [h6.el]; exact a1, a2, a3, Nat.le_trans h6.len a4, fun j v hj => ?_⟩
        obtain ⟨u, hu, hrn⟩ := h6.rel j v hj
        obtain ⟨x, b1, b2, b3⟩ := a5 j u hu
        exact ⟨x, b1, hrn.vr hpre _ b2, b3⟩
      · rw [h3] at ho; cases ho
  · rcases Nat.lt_or_ge q H.length with h1 | h1
    · obtain ⟨u, b1, b2, b3⟩ := hS'.ro q b (hold q b hb h1) ho j v hj
      rw [hσ q h1]
      exact ⟨u, b1, b2.fut F2, b3⟩
    · rcases newq q b hb h1 with ⟨i, r0, b0, rfl, h2, h3, h4, h5, h6⟩ | ⟨i, rfl, h2, h3, h4⟩
      · obtain ⟨u, hu, hrn⟩ := h6.rel j v hj
        obtain ⟨x, b1, b2, b3⟩ := S.ro r0 b0 h5 (by rw [← h6.own]; exact ho) j u hu
        rw [sigR_new h2]
        exact ⟨x, b1, hrn.vr hpre _ b2, b3⟩
      · rw [h4] at hj; simp at hj
  · have live_of : ∀ {b b' : Blk}, MB H.length rs H' bs b b' → b'.live → b.live := fun {b b'} m hl => by
      rcases hl with hl | hl
      · exact .inl (by rw [← m.own]; exact hl)
      · right
        intro hx
        have := m.len
        rw [hx] at this
        exact hl (List.eq_nil_of_length_eq_zero (by simpa using this))
    rcases Nat.lt_or_ge q H.length with h1 | h1
    · rw [hσ q h1]
      have hq := hold q b hb h1
      rcases Nat.lt_or_ge q' H.length with h1' | h1'
      · rw [hσ q' h1']
        exact hS'.inj q q' b b' hq (hold q' b' hb' h1') hqq ho hl
      · rcases newq q' b' hb' h1' with ⟨i, r0, b0, rfl, h2, h3, h4, h5, h6⟩ | ⟨i, rfl, h2, h3, h4⟩
        · rw [sigR_new h2]
          have a1 := hS.lt hq (.inl ho)
          have a2 := hnewb r0 b0 h4 h5
          omega
        · rcases hl with hl | hl
          · rw [h3] at hl; cases hl
          · exact absurd h4 hl
    · rcases newq q b hb h1 with ⟨i, r0, b0, rfl, h2, h3, h4, h5, h6⟩ | ⟨i, rfl, h2, h3, h4⟩
      · rw [sigR_new h2]
        rcases Nat.lt_or_ge q' H.length with h1' | h1'
        · rw [hσ q' h1']
          have hb0 : b0.own = true := by rw [← h6.own]; exact ho
          have hq' := hold q' b' hb' h1'
          have a1 := hS.lt hq' hl
          have a2 := hnewb r0 b0 h4 h5
          omega
        · rcases newq q' b' hb' h1' with ⟨i', r1, b1, rfl, g2, g3, g4, g5, g6⟩ | ⟨i', rfl, g2, g3, g4⟩
          · rw [sigR_new g2]
            have hne : r0 ≠ r1 := fun e => by
              subst e
              exact hqq (by rw [T.inj i i' r0 h2 g2])
            exact S.inj r0 r1 b0 b1 h5 g5 hne (by rw [← h6.own]; exact ho) (live_of g6 hl)
          · rcases hl with hl | hl
            · rw [g3] at hl; cases hl
            · exact absurd g4 hl
      · rw [h3] at ho; cases ho

/-- THE RULE: what a call hands back may be told anew, and what it leaves lying is forgotten. -/
theorem ACalls.tidy {P : Program} {f : FuncId} {args : List Value} {H : AH} {post post' : Value → AH → Prop} (h : ACalls P H.length f args H post)
    (hp : ∀ d H', post d H' → (∀ r, r < H.length → H'[r]? = H[r]?) → ∃ rs bs d2, Tidy H.length H' rs bs ∧ RN H.length rs H' bs d d2 ∧ post' d2 (H ++ bs)) : ACalls P H.length f args H post' :=
  ⟨h.1, fun σ w vals hS hB hv => (h.2 σ w vals hS hB hv).mono fun e w' ⟨v, he, σ', H', d, F, S, V, hq⟩ => by
    obtain ⟨rs, bs, d2, T, R, hq'⟩ := hp d H' hq F.pre
    obtain ⟨F2, S2⟩ := tidy_sound hS F S T
    exact ⟨v, he, _, _, d2, F2, S2, R.vr F.pre v V, hq'⟩⟩

end Go.AM
