/- Values that are only read: lent to a call, and handed on. -/
import Derived.Test.YtdhincmlefpfkaaC11
set_option linter.unusedVariables false
set_option linter.unusedSimpArgs false
namespace Go.BM
open Go.RowKit

/-- A value that leads to no block of ours. -/
inductive Im : Value → Prop
  | flat (v : Value) (h : flatV v = true) : Im v
  | agg (xs : Array Value) (h : ∀ i (hi : i < xs.size), Im xs[i]) : Im (.agg xs)
  | tuple (xs : Array Value) (h : ∀ i (hi : i < xs.size), Im xs[i]) : Im (.tuple xs)
  | func (fn : Fn) (fst cs : Array Value) (h : ∀ i (hi : i < cs.size), Im cs[i]) : Im (.func fn fst cs)

theorem VR.im {σ σ' : Sg} {H H' : AH} {v d : Value} (h : VR σ H v d) (hd : Im d) (hσ : ∀ a u, σ.im a = some u → σ'.im a = some u) : VR σ' H' v d := by
  induction h with
  | flat v h => exact .flat v h
  | mt a d ver hd' => cases hd with | flat _ h => simp [flatV] at h
  | ptr r off ver blk h hv ho => cases hd with | flat _ h => simp [flatV] at h
  | sptr r off ver blk h hv a => cases hd with | flat _ h => simp [flatV] at h
  | slice r off len cap ver sp blk h hv ho hl hsp hm hc => cases hd with | flat _ h => simp [flatV] at h
  | stale r off len ver sp blk h hv a l c => cases hd with | flat _ h => simp [flatV] at h
  | agg xs ys hs h ih =>
    cases hd with
    | flat _ h => simp [flatV] at h
    | agg _ h' => exact .agg xs ys hs fun i h1 h2 => ih i h1 h2 (h' i h2)
  | tuple xs ys hs h ih =>
    cases hd with
    | flat _ h' =>
      have h0 : ys.size = 0 := by simpa [flatV] using h'
      exact .tuple xs ys hs fun i h1 h2 => by omega
    | tuple _ h' => exact .tuple xs ys hs fun i h1 h2 => ih i h1 h2 (h' i h2)
  | func fn xs ys hs h ih =>
    cases hd with
    | flat _ h => simp [flatV] at h
    | func _ _ _ h' => exact .func fn xs ys hs fun i h1 h2 => ih i h1 h2 (h' i h2)
  | isl b o len cap us cs hl hm hs him h ih =>
    cases hd with
    | flat _ h => simp [flatV] at h
    | func _ _ _ h' => exact .isl b o len cap us cs hl hm hs (fun j hj => hσ _ _ (him j hj)) fun i h1 h2 => ih i h1 h2 (h' i h2)
  | isl0 a cap hm => exact .isl0 a cap hm
  | ip b o us cs hs him h ih =>
    cases hd with
    | flat _ h => simp [flatV] at h
    | func _ _ _ h' => exact .ip b o us cs hs (fun j hj => hσ _ _ (him j hj)) fun i h1 h2 => ih i h1 h2 (h' i h2)

theorem Im.isl {n : Nat} {cs : List Value} (h : ∀ c ∈ cs, Im c) : Im (BM.isl n cs) := .func _ _ _ fun i hi => h _ (by simp at hi ⊢)
theorem Im.ip {cs : List Value} (h : ∀ c ∈ cs, Im c) : Im (BM.ip cs) := .func _ _ _ fun i hi => h _ (by simp at hi ⊢)
theorem Im.aggL {cs : List Value} (h : ∀ c ∈ cs, Im c) : Im (.agg cs.toArray) := .agg _ fun i hi => h _ (by simp at hi ⊢)
theorem Im.tupleL {cs : List Value} (h : ∀ c ∈ cs, Im c) : Im (.tuple cs.toArray) := .tuple _ fun i hi => h _ (by simp at hi ⊢)
theorem Im.funcL {g : Fn} {cs : List Value} (h : ∀ c ∈ cs, Im c) : Im (.func g #[] cs.toArray) := .func _ _ _ fun i hi => h _ (by simp at hi ⊢)
theorem Im.nilL : ∀ c ∈ ([] : List Value), Im c := fun c h => by simp at h
theorem Im.consL {x : Value} {l : List Value} (hx : Im x) (hl : ∀ c ∈ l, Im c) : ∀ c ∈ x :: l, Im c := fun c h => by
  rcases List.mem_cons.1 h with rfl | h
  · exact hx
  · exact hl c h

/-! ### What our blocks hold, as memory that stays -/
open Classical in
/-- All that can be read now. -/
noncomputable def snap (σ : Sg) (H : AH) (w : World) : Sg :=
  ⟨σ.loc, fun a => match σ.im a with
    | some u => some u
    | none => if ∃ r blk, H[r]? = some blk ∧ blk.own = true ∧ (σ r).b = a.block ∧ a.off < blk.cs.length ∧ a.spot = none then w.cell? a else none⟩

theorem snap_im {σ : Sg} {H : AH} {w : World} {a : Addr} {u : Value} (h : σ.im a = some u) : (snap σ H w).im a = some u := by
  unfold snap
  simp only [h]

theorem snap_cell {σ : Sg} {H : AH} {w : World} (hS : Sim σ H w) {r : Nat} {blk : Blk} (hb : H[r]? = some blk) (ho : blk.own = true) {j : Nat} {v : Value} (hj : blk.cs[j]? = some v) :
    ∃ u, (snap σ H w).im ⟨(σ r).b, (σ r).base + j, none⟩ = some u ∧ VR σ H u v := by
  obtain ⟨u, hu, hv, _⟩ := hS.cell hb ho hj
  obtain ⟨c, h1, h2, h3, h4, h5⟩ := hS.own r blk hb ho
  refine ⟨u, ?_, hv⟩
  unfold snap
  dsimp only
  cases him : σ.im ⟨(σ r).b, (σ r).base + j, none⟩ with
  | some u' =>
    have := hS.sep _ _ him r blk hb ho
    exact absurd rfl this
  | none =>
    dsimp only
    rw [if_pos ⟨r, blk, hb, ho, rfl, by rw [h2, Nat.zero_add]; exact lt_of_some'' hj, rfl⟩]
    exact hu

theorem snap_sim {σ : Sg} {H : AH} {w : World} (hS : Sim σ H w) : Sim (snap σ H w) [] w where
  own := fun r blk h => by simp at h
  im := fun a u h => by
    unfold snap at h
    dsimp only at h
    cases him : σ.im a with
    | some u' =>
      rw [him] at h
      cases h
      exact hS.im a _ him
    | none =>
      rw [him] at h
      dsimp only at h
      split at h
      case isFalse => cases h
      rename_i hx
      obtain ⟨r, blk, hb, ho, h1, h2, h3⟩ := hx
      obtain ⟨c, k1, k2, k3, k4, k5⟩ := hS.own r blk hb ho
      obtain ⟨u', g1, g2, g3⟩ := hS.cell hb ho (List.getElem?_eq_getElem h2)
      obtain ⟨ab, ao, as'⟩ := a
      dsimp only at h1 h2 h3
      subst h3
      rw [← h1] at h ⊢
      rw [k2, Nat.zero_add] at g1
      rw [g1] at h
      cases h
      exact ⟨g1, rfl, g3⟩
  sep := fun a u h r blk hb => by simp at hb
  inj := fun r r' blk blk' h => by simp at h

/-- A value as it is lent: what leads to our blocks is told by what they hold. -/
inductive Bor (H : AH) : Value → Value → Prop
  | same (v : Value) (h : Im v) : Bor H v v
  | nil : Bor H (.slice none 0 0) (isl 0 [])
  | own (r off : Nat) (sp : Option Nat) (len : Nat) (blk : Blk) (cs : List Value) (h : H[r]? = some blk) (ho : blk.own = true) (hl : off + cs.length ≤ blk.cs.length) (hn : len = 0 → cs = [])
      (hb : ∀ i (h1 : i < cs.length), Bor H (blk.cs[off + i]'(by omega)) cs[i]) : Bor H (.slice (some ⟨r, off, sp⟩) len blk.ver) (isl len cs)
  | emp (r off : Nat) (sp : Option Nat) (ver : Nat) (blk : Blk) (h : H[r]? = some blk) (hv : blk.ver = ver) : Bor H (.slice (some ⟨r, off, sp⟩) 0 ver) (isl 0 [])
  | ptr (r off : Nat) (blk : Blk) (cs : List Value) (h : H[r]? = some blk) (ho : blk.own = true) (hl : off + cs.length ≤ blk.cs.length)
      (hb : ∀ i (h1 : i < cs.length), Bor H (blk.cs[off + i]'(by omega)) cs[i]) : Bor H (.pointer (some ⟨r, off, some blk.ver⟩)) (ip cs)
  | agg (xs ys : Array Value) (hs : xs.size = ys.size) (h : ∀ i (h1 : i < xs.size) (h2 : i < ys.size), Bor H xs[i] ys[i]) : Bor H (.agg xs) (.agg ys)
  | func (fn : Fn) (xs ys : Array Value) (hs : xs.size = ys.size) (h : ∀ i (h1 : i < xs.size) (h2 : i < ys.size), Bor H xs[i] ys[i]) : Bor H (.func fn #[] xs) (.func fn #[] ys)
  | tuple (xs ys : Array Value) (hs : xs.size = ys.size) (h : ∀ i (h1 : i < xs.size) (h2 : i < ys.size), Bor H xs[i] ys[i]) : Bor H (.tuple xs) (.tuple ys)

/-- Cells of a block, lent one by one. -/
theorem bor_cells {σ σ' : Sg} {H : AH} {w : World} (hS : Sim σ H w) {r off : Nat} {blk : Blk} {cs : List Value} (h : H[r]? = some blk) (ho : blk.own = true) (hl : off + cs.length ≤ blk.cs.length)
    (ih : ∀ i (h1 : i < cs.length), ∀ u, VR σ H u (blk.cs[off + i]'(by omega)) → VR σ' [] u cs[i]) (hσ : ∀ a u, (snap σ H w).im a = some u → σ'.im a = some u) :
    ∃ us : List Value, us.length = cs.length ∧ (∀ (j : Nat) u, us[j]? = some u → σ'.im ⟨(σ r).b, (σ r).base + off + j, none⟩ = some u) ∧ ∀ (j : Nat) u, cs[j]? = some u → ∃ x, us[j]? = some x ∧ VR σ' [] x u := by
  have : ∀ n, n ≤ cs.length → ∃ us : List Value, us.length = n ∧ (∀ (j : Nat) u, us[j]? = some u → σ'.im ⟨(σ r).b, (σ r).base + off + j, none⟩ = some u) ∧ ∀ (j : Nat) u, j < n → cs[j]? = some u → ∃ x, us[j]? = some x ∧ VR σ' [] x u := by
    intro n
    induction n with
    | zero => exact fun _ => ⟨[], rfl, fun j u hu => by simp at hu, fun j u hj => by omega⟩
    | succ n ihn =>
      intro hn
      obtain ⟨us, l1, l2, l3⟩ := ihn (by omega)
      obtain ⟨u, hu, hv⟩ := snap_cell hS h ho (j := off + n) (List.getElem?_eq_getElem (by omega))
      have hv' := ih n (by omega) u hv
      refine ⟨us ++ [u], by simp [l1], fun j x hx => ?_, fun j x hj hx => ?_⟩
      · rcases Nat.lt_or_ge j us.length with hj | hj
        · rw [List.getElem?_append_left hj] at hx; exact l2 j x hx
        · rw [List.getElem?_append_right hj] at hx
          have := lt_of_some'' hx
          simp at this
          have hj0 : j - us.length = 0 := by omega
          rw [hj0] at hx
          simp at hx
          subst hx
          have : j = n := by omega
          subst this
          rw [Nat.add_assoc]
          exact hσ _ _ hu
      · rcases Nat.lt_or_ge j n with h' | h'
        · rw [List.getElem?_append_left (by omega)]; exact l3 j x h' hx
        · have : j = n := by omega
          subst this
          rw [List.getElem?_append_right (by omega), l1, Nat.sub_self]
          rw [List.getElem?_eq_getElem (by omega)] at hx
          cases hx
          exact ⟨u, rfl, hv'⟩
  obtain ⟨us, l1, l2, l3⟩ := this cs.length (Nat.le_refl _)
  exact ⟨us, l1, l2, fun j u hj => l3 j u (lt_of_some'' hj) hj⟩

theorem bor_vr {σ : Sg} {H : AH} {w : World} (hS : Sim σ H w) {d d' : Value} (h : Bor H d d') : ∀ v, VR σ H v d → VR (snap σ H w) [] v d' := by
  induction h with
  | same v h => exact fun u hu => hu.im h fun a x => snap_im
  | nil =>
    intro v hv
    obtain ⟨a, rfl⟩ := hv.sliceNil rfl
    have := VR.isl0 (σ := snap σ H w) (H := []) a 0 (Nat.zero_le _)
    simpa [isl] using this
  | own r off sp len blk cs h ho hl hn hb ih =>
    intro v hv
    have hg : getB H r blk.ver = some blk.cs := by simp [getB, h, ho]
    rcases hv.sliceI hg with ⟨rfl, _, a, rfl⟩ | ⟨cap, blk', hb', rfl, hlc, hsp, hcm, hcn⟩
    · have hcs := hn rfl
      subst hcs
      have := VR.isl0 (σ := snap σ H w) (H := []) a 0 (Nat.zero_le _)
      simpa [isl] using this
    · obtain ⟨us, l1, l2, l3⟩ := bor_cells hS h ho hl ih (fun _ _ h => h)
      exact VR.mkI hlc hcm l1 l2 l3
  | emp r off sp ver blk h hv =>
    intro v hv'
    cases hv' with
    | flat _ h => simp [flatV] at h
    | mt a _ _ hd =>
      have := VR.isl0 (σ := snap σ H w) (H := []) a 0 (Nat.zero_le _)
      simpa [isl] using this
    | slice _ _ _ cap _ _ blk' h' hv2 ho hl hsp hm hc =>
      have := VR.isl0 (σ := snap σ H w) (H := []) (some ⟨(σ r).b, (σ r).base + off, none⟩) cap hm
      simpa [isl] using this
    | stale _ _ _ _ _ blk' h' hv' => rw [h] at h'; cases h'; omega
  | ptr r off blk cs h ho hl hb ih =>
    intro v hv
    have hg : getB H r blk.ver = some blk.cs := by simp [getB, h, ho]
    have := hv.ptrI hg
    subst this
    obtain ⟨us, l1, l2, l3⟩ := bor_cells hS h ho hl ih (fun _ _ h => h)
    exact VR.mkP l1 l2 l3
  | agg xs ys hs h ih =>
    intro v hv
    obtain ⟨zs, rfl, hz, hv⟩ := hv.aggI
    exact .agg _ _ (hz.trans hs) fun i h1 h2 => ih i (by omega) h2 _ (hv i h1 (by omega))
  | func fn xs ys hs h ih =>
    intro v hv
    cases hv with
    | flat _ h => simp [flatV] at h
    | func _ zs _ hz hv => exact .func fn _ _ (hz.trans hs) fun i h1 h2 => ih i (by omega) h2 _ (hv i h1 (by omega))
  | tuple xs ys hs h ih =>
    intro v hv
    obtain ⟨zs, rfl, hz, hv⟩ := hv.tupleI
    exact .tuple _ _ (hz.trans hs) fun i h1 h2 => ih i (by omega) h2 _ (hv i h1 (by omega))

/-- Arguments, lent. -/
inductive BorL (H : AH) : List Value → List Value → Prop
  | nil : BorL H [] []
  | cons {x y : Value} {xs ys : List Value} (h : Bor H x y) (t : BorL H xs ys) : BorL H (x :: xs) (y :: ys)

theorem BorL.vr {σ : Sg} {H : AH} {w : World} (hS : Sim σ H w) {ds ds' : List Value} (h : BorL H ds ds') : ∀ vs, VRL σ H vs ds → VRL (snap σ H w) [] vs ds' := by
  induction h with
  | nil => exact fun vs hv => ⟨hv.1, fun j u hu => by simp at hu⟩
  | cons hx ht ih =>
    intro vs hv
    obtain ⟨h1, h2⟩ := hv
    cases vs with
    | nil => simp at h1
    | cons v vs =>
      obtain ⟨x, hx1, hx2⟩ := h2 0 _ rfl
      simp at hx1
      subst hx1
      have := ih vs ⟨by simpa using h1, fun j u hu => by simpa using h2 (j + 1) u (by simpa using hu)⟩
      refine ⟨by simpa using this.1, fun j u hu => ?_⟩
      cases j with
      | zero => simp at hu; subst hu; exact ⟨_, rfl, bor_vr hS hx _ hx2⟩
      | succ j => simpa using this.2 j u (by simpa using hu)

theorem BorL.same {H : AH} : ∀ {ds : List Value}, (∀ d ∈ ds, Im d) → BorL H ds ds
  | [], _ => .nil
  | d :: ds, h => .cons (.same d (h d (by simp))) (BorL.same fun x hx => h x (by simp [hx]))

theorem BorL.at {H : AH} {xs ys : List Value} (h : BorL H xs ys) : xs.length = ys.length ∧ ∀ (i : Nat) (h1 : i < xs.length) (h2 : i < ys.length), Bor H xs[i] ys[i] := by
  induction h with
  | nil => exact ⟨rfl, fun i h => by simp at h⟩
  | cons hx ht ih =>
    refine ⟨by simp [ih.1], fun i h1 h2 => ?_⟩
    cases i with
    | zero => exact hx
    | succ i => exact ih.2 i (by simpa using h1) (by simpa using h2)
theorem Bor.aggL {H : AH} {xs ys : List Value} (h : BorL H xs ys) : Bor H (.agg xs.toArray) (.agg ys.toArray) :=
  .agg _ _ (by simpa using h.at.1) fun i h1 h2 => h.at.2 i (by simpa using h1) (by simpa using h2)
theorem Bor.tupleL {H : AH} {xs ys : List Value} (h : BorL H xs ys) : Bor H (.tuple xs.toArray) (.tuple ys.toArray) :=
  .tuple _ _ (by simpa using h.at.1) fun i h1 h2 => h.at.2 i (by simpa using h1) (by simpa using h2)
theorem Bor.funcL {H : AH} {g : Fn} {xs ys : List Value} (h : BorL H xs ys) : Bor H (.func g #[] xs.toArray) (.func g #[] ys.toArray) :=
  .func _ _ _ (by simpa using h.at.1) fun i h1 h2 => h.at.2 i (by simpa using h1) (by simpa using h2)
/-- The whole of a block, lent as a slice. -/
theorem Bor.ownL {H : AH} {r : Nat} {sp : Option Nat} {len ver : Nat} {blk : Blk} {cs : List Value} (h : H[r]? = some blk) (hv : blk.ver = ver) (ho : blk.own = true) (hn : len = 0 → cs = []) (hb : ∃ l, BorL H l cs ∧ blk.cs.take cs.length = l) :
    Bor H (.slice (some ⟨r, 0, sp⟩) len ver) (isl len cs) := by
  subst hv
  obtain ⟨l, hb, rfl⟩ := hb
  have h1 := hb.at.1
  have hle : cs.length ≤ blk.cs.length := by simp at h1; omega
  refine .own r 0 sp len blk cs h ho (by omega) hn fun i hi => ?_
  have := hb.at.2 i (by simp; omega) hi
  simpa using this
theorem Bor.ptrL {H : AH} {r off ver : Nat} {blk : Blk} {cs : List Value} (h : H[r]? = some blk) (hv : blk.ver = ver) (ho : blk.own = true) (hb : ∃ l, BorL H l cs ∧ (blk.cs.drop off).take cs.length = l) (hoff : off ≤ blk.cs.length) :
    Bor H (.pointer (some ⟨r, off, some ver⟩)) (ip cs) := by
  subst hv
  obtain ⟨l, hb, rfl⟩ := hb
  have h1 := hb.at.1
  have hle : off + cs.length ≤ blk.cs.length := by simp at h1; omega
  refine .ptr r off blk cs h ho hle fun i hi => ?_
  have := hb.at.2 i (by simp; omega) hi
  simpa using this

/-! ### Calls that only read -/
/-- THE CONTRACT of a call that only reads: values in, a value out (perhaps in new memory). -/
def PCalls (P : Program) (f : FuncId) (args : List Value) (v : Value) : Prop := ACalls P 0 f args [] fun d H' => Bor H' d v

section
variable {P : Program} {B n : Nat} {σ : Sg} {H : AH} {w : World}

/-- Behind a call that began with an empty heap of lists all older blocks are as they were. -/
theorem Fut.below0 {σ σ' : Sg} {H' : AH} {w w' : World} (f : Fut 0 σ [] w σ' H' w') : Below w.heap.size w w' :=
  ⟨f.os, f.tape, f.output, f.size, fun k hk => f.frame k hk fun r blk h1 h2 => by simp at h2⟩

/-- What a call learned of memory that stays, kept. -/
theorem keep_sim {σ' : Sg} {H' : AH} {w' : World} (hS : Sim σ H w) (f : Fut 0 ⟨σ.loc, σ.im⟩ [] w σ' H' w') (hS' : Sim σ' H' w') :
    Fut B σ H w ⟨σ.loc, σ'.im⟩ H w' ∧ Sim ⟨σ.loc, σ'.im⟩ H w' := by
  have hb := f.below0
  have F : Fut B σ H w ⟨σ.loc, σ'.im⟩ H w' := {
    os := f.os
    tape := f.tape
    output := f.output
    size := f.size
    frame := fun k hk _ => hb.block k hk
    pre := fun _ _ => rfl
    preσ := fun _ _ _ => rfl
    keep := fun r blk h => ⟨blk, h, Nat.le_refl _, fun _ => ⟨rfl, rfl, rfl⟩⟩
    loc := fun r blk h ho => .inl ⟨blk, h, ho, rfl⟩
    imk := f.imk
    imn := fun a u hu => by
      rcases f.imn a u hu with h1 | h1 | ⟨r, blk, _, h1, _⟩
      · exact .inl h1
      · exact .inr (.inl h1)
      · simp at h1 }
  refine ⟨F, ⟨fun r blk h ho => ?_, hS'.im, fun a u hu r blk h ho => ?_, hS.inj⟩⟩
  · obtain ⟨c, h1, h2, h3, h4, h5⟩ := hS.own r blk h ho
    refine ⟨c, by show w'.heap[(σ r).b]? = _; rw [hb.block _ (hS.lt h ho)]; exact h1, h2, h3, h4, fun j v hj => ?_⟩
    obtain ⟨u, a1, a2, a3⟩ := h5 j v hj
    exact ⟨u, a1, a2.fut F, a3⟩
  · have hlt := hS.lt h ho
    rcases F.imn a u hu with h1 | h1 | ⟨q, bq, _, h1, h2, h3⟩
    · exact hS.sep a u h1 r blk h ho
    · intro e
      have : (σ r).b = a.block := e
      omega
    · rcases f.imn a u hu with g1 | g1 | ⟨q', bq', _, g1, _⟩
      · exact hS.sep a u g1 r blk h ho
      · intro e
        have : (σ r).b = a.block := e
        omega
      · simp at g1

/-- A plain value comes of what is lent. -/
theorem ACalls.ofP {f : FuncId} {args args' : List Value} {v : Value} {k : Value → AH → Prop} (h : PCalls P f args' v) (hb : BorL H args args') (hv : pureV v = true) (hk : k v H) : ACalls P B f args H k :=
  ⟨h.1, fun σ w vals hS hB hvl => (h.2 (snap σ H w) w vals (snap_sim hS) (Nat.le_refl _) (hb.vr hS _ hvl)).mono fun e w' ⟨x, he, σ', H', d, h1, h2, h3, h4⟩ => by
    have hb := h1.below0
    have : x = v := (bor_vr h2 h4 x h3).pureE hv
    subst this
    exact ⟨x, he, σ, H, x, .of_below hb, hS.below hb, .ofPure hv, hk⟩⟩

theorem VRL.im {σ σ' : Sg} {H H' : AH} {vs ds : List Value} (h : VRL σ H vs ds) (hd : ∀ d ∈ ds, Im d) (hσ : ∀ a u, σ.im a = some u → σ'.im a = some u) : VRL σ' H' vs ds :=
  ⟨h.1, fun j u hu => by obtain ⟨x, h1, h2⟩ := h.2 j u hu; exact ⟨x, h1, h2.im (hd u (List.mem_of_getElem? hu)) hσ⟩⟩

/-- What is learned of new blocks by a look at them. -/
theorem snap_fut {σ0 σ' : Sg} {w w' : World} {H' : AH} (f : Fut 0 σ0 [] w σ' H' w') : Fut 0 σ0 [] w (snap σ' H' w') [] w' where
  os := f.os
  tape := f.tape
  output := f.output
  size := f.size
  frame := f.frame
  pre := fun r hr => by omega
  preσ := fun r hr => by omega
  keep := fun r blk h => by simp at h
  loc := fun r blk h => by simp at h
  imk := fun a u h => snap_im (f.imk a u h)
  imn := fun a u h => by
    unfold snap at h
    dsimp only at h
    cases him : σ'.im a with
    | some u' => rw [him] at h; cases h; exact f.imn a _ him
    | none =>
      rw [him] at h
      dsimp only at h
      split at h
      case isFalse => cases h
      rename_i hx
      obtain ⟨r, blk, hb, ho, h1, h2, h3⟩ := hx
      rcases f.loc r blk hb ho with ⟨b0, g1, _⟩ | g1
      · simp at g1
      · exact .inr (.inl (by rw [h1] at g1; exact g1))

/-- A value that only reads comes of values that only read. -/
theorem ACalls.ofI {f : FuncId} {args : List Value} {v : Value} {k : Value → AH → Prop} (h : PCalls P f args v) (hi : ∀ d ∈ args, Im d) (hv : Im v) (hk : k v H) : ACalls P B f args H k :=
  ⟨h.1, fun σ w vals hS hB hvl => by
    have hS0 : Sim ⟨σ.loc, σ.im⟩ [] w := ⟨fun r blk h => by simp at h, hS.im, fun a u h r blk hb => by simp at hb, fun r r' blk blk' h => by simp at h⟩
    refine (h.2 ⟨σ.loc, σ.im⟩ w vals hS0 (Nat.le_refl _) (hvl.im hi fun _ _ h => h)).mono fun e w' ⟨x, he, σ', H', d, h1, h2, h3, h4⟩ => ?_
    obtain ⟨F, S⟩ := keep_sim (B := B) hS (snap_fut h1) (snap_sim h2)
    exact ⟨x, he, _, H, v, F, S, (bor_vr h2 h4 x h3).im hv fun _ _ h => h, hk⟩⟩

/-- The contract of a function that only reads, out of a walk. -/
theorem PCalls.mk {f : FuncId} {args : List Value} {v : Value} (hv : Im v) (h : ACalls P 0 f args [] fun d _ => d = v) : PCalls P f args v :=
  h.mono fun d H' hd => by subst hd; exact .same _ hv
theorem Im.ofPure {v : Value} (h : pureV v = true) : Im v := by
  unfold pureV at h
  rcases Bool.or_eq_true_iff.1 h with h | h
  · exact .flat _ h
  · cases v <;> try (cases h; done)
    rename_i cs
    exact .agg _ fun i hi => .flat _ (Array.all_eq_true.1 h i hi)
/-- Within a region in which nothing is made. -/
theorem qcallP {g : FuncId} {caps : Array Value} {args args' : List Value} {k : Value → Prop} {v : Value} (h : PCalls P g args' v) (hb : BorL H (args ++ caps.toList) args') (hv : pureV v = true) (hk : k v) : qcallK P (.func (.func g) #[] caps) args H k :=
  qcall_intro (B0 := H.length) (ACalls.ofP h hb hv rfl) rfl hv hk
end
end Go.BM
