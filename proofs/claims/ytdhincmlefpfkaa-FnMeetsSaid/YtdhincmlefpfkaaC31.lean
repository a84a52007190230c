/- What comes in new memory, told as a value that nobody writes. -/
import Derived.Test.YtdhincmlefpfkaaC30
set_option linter.unusedVariables false
set_option linter.unusedSimpArgs false
namespace Go.BM
open Go.RowKit
section
variable {P : Program} {B : Nat} {σ σ' τ : Sg} {H N : AH} {w w' : World}

theorem own_cells (hS : Sim σ' N w') (hτ : ∀ r blk, N[r]? = some blk → blk.own = true → ∀ j, j < blk.cs.length → ∀ u, w'.cell? ⟨(σ' r).b, (σ' r).base + j, none⟩ = some u → τ.im ⟨(σ' r).b, (σ' r).base + j, none⟩ = some u)
    {r : Nat} {blk : Blk} {cs : List Value} (h : N[r]? = some blk) (ho : blk.own = true) (hl : cs.length ≤ blk.cs.length)
    (ih : ∀ us, VRL σ' N us (blk.cs.take cs.length) → VRL τ [] us cs) :
    ∃ us : List Value, us.length = cs.length ∧ (∀ (j : Nat) u, us[j]? = some u → τ.im ⟨(σ' r).b, (σ' r).base + j, none⟩ = some u) ∧ ∀ (j : Nat) u, cs[j]? = some u → ∃ x, us[j]? = some x ∧ VR τ [] x u := by
  obtain ⟨us, h1, h2, h3⟩ := hS.cells h ho 0 cs.length (by omega)
  have hv : VRL σ' N us (blk.cs.take cs.length) := ⟨by simp; omega, fun j u hj => by
    obtain ⟨hjl, rfl⟩ := List.getElem?_eq_some_iff.1 hj
    have hju : j < us.length := by simp at hjl; omega
    exact ⟨_, List.getElem?_eq_getElem hju, by simpa using h3 j hju (by simpa using hjl)⟩⟩
  refine ⟨us, h1, fun j u hj => ?_, (ih us hv).2⟩
  have hjl : j < us.length := (List.getElem?_eq_some_iff.1 hj).1
  have := (h2 j u hj).1
  simp only [Nat.add_zero] at this
  exact hτ r blk h ho j (by omega) u this

theorem own_vr (hS : Sim σ' N w') (hτ : ∀ r blk, N[r]? = some blk → blk.own = true → ∀ j, j < blk.cs.length → ∀ u, w'.cell? ⟨(σ' r).b, (σ' r).base + j, none⟩ = some u → τ.im ⟨(σ' r).b, (σ' r).base + j, none⟩ = some u)
    {x : Bool} {l l' : List Value} {S : List Nat} (h : OwnL x N l l' S) : ∀ us, VRL σ' N us l → VRL τ [] us l' := by
  have split : ∀ {us : List Value} {d : Value} {l : List Value}, VRL σ' N us (d :: l) → ∃ u t, us = u :: t ∧ VR σ' N u d ∧ VRL σ' N t l := fun {us d l} hv => by
    cases us with
    | nil => have := hv.1; simp at this
    | cons u t =>
      obtain ⟨y, h1, h2⟩ := hv.2 0 d rfl
      simp at h1
      subst h1
      exact ⟨u, t, rfl, h2, by have := hv.1; simpa using this, fun j z hz => by simpa using hv.2 (j + 1) z (by simpa using hz)⟩
  have join : ∀ {u y : Value} {t l : List Value}, VR τ [] u y → VRL τ [] t l → VRL τ [] (u :: t) (y :: l) := fun {u y t l} h1 h2 => ⟨by have := h2.1; simp [this], fun j z hz => by
    cases j with
    | zero => simp at hz; subst hz; exact ⟨u, rfl, h1⟩
    | succ j => simpa using h2.2 j z (by simpa using hz)⟩
  induction h with
  | nil => exact fun us hv => ⟨by simpa using hv.1, fun j u hu => by simp at hu⟩
  | flat h _ ih =>
    intro us hv
    obtain ⟨u, t, rfl, h1, h2⟩ := split hv
    have := h1.flatE h
    subst this
    exact join (.flat _ h) (ih t h2)
  | nils _ ih =>
    intro us hv
    obtain ⟨u, t, rfl, h1, h2⟩ := split hv
    obtain ⟨a, rfl⟩ := h1.sliceNil rfl
    have := VR.isl0 (σ := τ) (H := []) a 0 (Nat.zero_le _)
    exact join (by simpa [isl] using this) (ih t h2)
  | @emp r sp blk l l' S h ho _ ih =>
    intro us hv
    obtain ⟨u, t, rfl, h1, h2⟩ := split hv
    refine join ?_ (ih t h2)
    cases h1 with
    | flat _ h => simp [flatV] at h
    | mt a _ _ hd =>
      have := VR.isl0 (σ := τ) (H := []) a 0 (Nat.zero_le _)
      simpa [isl] using this
    | slice _ _ _ cap _ _ blk' h' hv2 ho hl hsp hm hc =>
      have := VR.isl0 (σ := τ) (H := []) (some ⟨(σ' r).b, (σ' r).base + 0, none⟩) cap hm
      simpa [isl] using this
    | stale _ _ _ _ _ blk' h' hv' => rw [h] at h'; cases h'; omega
  | @slice r sp len blk cs l l' S T h ho hl hx hn hc t ihc iht =>
    intro us hv
    obtain ⟨u, t, rfl, h1, h2⟩ := split hv
    refine join ?_ (iht t h2)
    have hg : getB N r blk.ver = some blk.cs := by simp [getB, h, ho]
    rcases h1.sliceI hg with ⟨rfl, _, a, rfl⟩ | ⟨cap, blk', hb', rfl, hlc, hsp, hcm, hcn⟩
    · have hcs := hn rfl
      subst hcs
      have := VR.isl0 (σ := τ) (H := []) a 0 (Nat.zero_le _)
      simpa [isl] using this
    · obtain ⟨us, l1, l2, l3⟩ := own_cells (τ := τ) hS hτ h ho hl ihc
      have := VR.mkI (σ := τ) (H := []) (b := (σ' r).b) (o := (σ' r).base) hlc hcm l1 l2 l3
      simpa using this
  | @agg xs ys S T l l' hx _ ihx iht =>
    intro us hv
    obtain ⟨u, t, rfl, h1, h2⟩ := split hv
    obtain ⟨zs, rfl, hz, hzv⟩ := h1.aggI
    refine join ?_ (iht t h2)
    have := (ihx zs.toList ⟨by simpa using hz, fun j z hj => by
      obtain ⟨hjl, rfl⟩ := List.getElem?_eq_some_iff.1 hj
      have hjz : j < zs.size := by simp at hjl; omega
      exact ⟨zs[j], by simp [hjz], by simpa using hzv j hjz (by simpa using hjl)⟩⟩).toAgg
    simpa using this
  | @tup xs ys S T l l' hx _ ihx iht =>
    intro us hv
    obtain ⟨u, t, rfl, h1, h2⟩ := split hv
    obtain ⟨zs, rfl, hz, hzv⟩ := h1.tupleI
    refine join ?_ (iht t h2)
    have hq := ihx zs.toList ⟨by simpa using hz, fun j z hj => by
      obtain ⟨hjl, rfl⟩ := List.getElem?_eq_some_iff.1 hj
      have hjz : j < zs.size := by simp at hjl; omega
      exact ⟨zs[j], by simp [hjz], by simpa using hzv j hjz (by simpa using hjl)⟩⟩
    refine .tuple _ _ (by simpa using hq.1) fun i h1 h2 => ?_
    obtain ⟨x, hx1, hx2⟩ := hq.2 i ys[i] (by simp [h2])
    have e : zs[i] = x := by
      have : zs.toList[i]? = some zs[i] := by simp [h1]
      rw [this] at hx1
      exact Option.some.inj hx1
    rw [e]; exact hx2

open Classical in
/-- What is known of memory ahead of a call, and the new blocks behind it. -/
noncomputable def newIm (σ : Sg) (w : World) (σ' : Sg) (N : AH) (w' : World) : Sg :=
  ⟨σ.loc, fun a => match σ.im a with
    | some u => some u
    | none => if w.heap.size ≤ a.block ∧ a.spot = none ∧ ∃ r blk, N[r]? = some blk ∧ blk.own = true ∧ (σ' r).b = a.block ∧ a.off < blk.cs.length then w'.cell? a else none⟩

/-- A thing in new memory that nobody marks: a value. -/
theorem NCalls.val {f : FuncId} {args args' : List Value} {v : Value} {k : Value → AH → Prop} (h : NCalls P f args' v) (hb : BorL H args args') (hk : k v H) : ACalls P B f args H k :=
  ⟨h.1, fun σ w vals hS hB hvl => (h.2 (snap σ H w) w vals (snap_sim hS) (Nat.le_refl _) (hb.vr hS _ hvl)).mono fun e w' ⟨x, he, σ', N, d, F, S, V, Sb, hnd, ho⟩ => by
    have b := F.below0
    have hnew : ∀ r blk, N[r]? = some blk → blk.own = true → w.heap.size ≤ (σ' r).b := fun r blk h1 h2 => by
      rcases F.loc r blk h1 h2 with ⟨b0, g, _⟩ | g
      · simp at g
      · exact g
    have hτ : ∀ r blk, N[r]? = some blk → blk.own = true → ∀ j, j < blk.cs.length → ∀ u, w'.cell? ⟨(σ' r).b, (σ' r).base + j, none⟩ = some u → (newIm σ w σ' N w').im ⟨(σ' r).b, (σ' r).base + j, none⟩ = some u := fun r blk h1 h2 j hj u hu => by
      have hge := hnew r blk h1 h2
      obtain ⟨c, _, hbase, _⟩ := S.own r blk h1 h2
      unfold newIm
      dsimp only
      cases him : σ.im ⟨(σ' r).b, (σ' r).base + j, none⟩ with
      | some u' => have := hS.imlt him; dsimp only at this; omega
      | none =>
        dsimp only
        rw [if_pos ⟨hge, rfl, r, blk, h1, h2, rfl, by rw [hbase, Nat.zero_add]; exact hj⟩]
        exact hu
    have hv := own_vr (τ := newIm σ w σ' N w') S hτ ho [x] ⟨rfl, fun j u hj => by
      cases j with
      | zero => simp at hj; subst hj; exact ⟨x, rfl, V⟩
      | succ j => simp at hj⟩
    obtain ⟨y, hy1, hy2⟩ := hv.2 0 v rfl
    simp at hy1
    subst hy1
    have imcase : ∀ a u, (newIm σ w σ' N w').im a = some u → σ.im a = some u ∨ (w.heap.size ≤ a.block ∧ a.spot = none ∧ w'.cell? a = some u ∧ ∃ r blk, N[r]? = some blk ∧ blk.own = true ∧ (σ' r).b = a.block ∧ a.off < blk.cs.length) := fun a u ha => by
      unfold newIm at ha
      dsimp only at ha
      cases him : σ.im a with
      | some u' => rw [him] at ha; cases ha; exact .inl rfl
      | none =>
        rw [him] at ha
        dsimp only at ha
        split at ha
        case isFalse => cases ha
        rename_i hx
        exact .inr ⟨hx.1, hx.2.1, ha, hx.2.2⟩
    have F2 : Fut B σ H w (newIm σ w σ' N w') H w' := {
      os := b.os
      tape := b.tape
      output := b.output
      size := b.size
      frame := fun k hk _ => b.block k hk
      pre := fun _ _ => rfl
      preσ := fun _ _ _ => rfl
      keep := fun r blk h => ⟨blk, h, Nat.le_refl _, fun _ => ⟨rfl, rfl, rfl⟩⟩
      loc := fun r blk h ho => .inl ⟨blk, h, ho, rfl⟩
      imk := fun a u hu => by unfold newIm; simp only [hu]
      imn := fun a u hu => by
        rcases imcase a u hu with h1 | h1
        · exact .inl h1
        · exact .inr (.inl h1.1) }
    have S2 : Sim (newIm σ w σ' N w') H w' := ⟨fun r blk h1 h2 => by
        obtain ⟨c, k1, k2, k3, k4, k5⟩ := hS.own r blk h1 h2
        refine ⟨c, by show w'.heap[(σ r).b]? = _; rw [b.block _ (hS.lt h1 h2)]; exact k1, k2, k3, k4, fun j v hj => ?_⟩
        obtain ⟨u, a1, a2, a3⟩ := k5 j v hj
        exact ⟨u, a1, a2.fut F2, a3⟩,
      fun a u ha => by
        rcases imcase a u ha with h1 | ⟨h1, h2, h3, r, blk, g1, g2, g3, g4⟩
        · obtain ⟨k1, k2⟩ := hS.im a u h1
          exact ⟨by rw [b.cell (p := a) (hS.imlt h1)]; exact k1, k2⟩
        · refine ⟨h3, h2, ?_⟩
          obtain ⟨u', q1, q2, q3⟩ := S.cell g1 g2 (List.getElem?_eq_getElem g4)
          obtain ⟨c, _, hbase, _⟩ := S.own r blk g1 g2
          obtain ⟨ab, ao, as'⟩ := a
          dsimp only at h2 g3 g4 q1
          subst h2 g3
          rw [hbase, Nat.zero_add] at q1
          rw [q1] at h3
          cases h3
          exact q3,
      fun a u ha r blk h1 h2 => by
        rcases imcase a u ha with h3 | ⟨h3, _⟩
        · exact hS.sep a u h3 r blk h1 h2
        · have := hS.lt h1 h2
          show (σ r).b ≠ a.block
          omega,
      hS.inj⟩
    exact ⟨x, he, _, H, v, F2, S2, hy2.im ho.im1 fun _ _ h => h, hk⟩⟩
/-- Some value of which R holds. -/
def EOut (R : Value → Prop) (d : Value) (N : AH) : Prop := ∃ v, R v ∧ Im v ∧ Bor N d v
theorem EOut.val {R : Value → Prop} {d : Value} {N : AH} (h : Im d) (hR : R d) : EOut R d N := ⟨d, hR, h, .same d h⟩
/-- THE CONTRACT of a call by values of which some value comes. -/
def ECalls (P : Program) (f : FuncId) (args : List Value) (R : Value → Prop) : Prop := ACalls P 0 f args [] fun d N => EOut R d N
theorem ECalls.use {f : FuncId} {args : List Value} {R : Value → Prop} (h : ECalls P f args R) (hi : ∀ d ∈ args, Im d) : ACalls P B f args H fun d H' => R d ∧ Im d ∧ H' = H := ACalls.ofE h hi
end
end Go.BM
