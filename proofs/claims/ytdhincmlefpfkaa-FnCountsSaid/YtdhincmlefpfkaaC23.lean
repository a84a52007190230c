/- A contract in an empty heap, used anywhere: what is handed back stands behind our blocks. -/
import Derived.Test.YtdhincmlefpfkaaC22
set_option linter.unusedVariables false
set_option linter.unusedSimpArgs false
namespace Go.BM
open Go.RowKit

/-- A value handed back, with the numbers of its blocks made anew. -/
inductive Lif (N : AH) (ρ : Nat → Nat) (q : Nat → Prop) (k : Nat) : Value → Value → Prop
  | flat (v : Value) (h : flatV v = true) : Lif N ρ q k v v
  | nil : Lif N ρ q k (.slice none 0 0) (.slice none 0 0)
  | gone (r off : Nat) (sp : Option Nat) (ver : Nat) (b : Blk) (h : N[r]? = some b) (hv : b.ver = ver) (ho : b.own = false) : Lif N ρ q k (.slice (some ⟨r, off, sp⟩) 0 ver) (.slice none 0 0)
  | slice (i off : Nat) (sp : Option Nat) (len ver : Nat) (hi : q i) : Lif N ρ q k (.slice (some ⟨ρ i, off, sp⟩) len ver) (.slice (some ⟨k + i, off, sp⟩) len ver)
  | agg (xs ys : Array Value) (hs : xs.size = ys.size) (h : ∀ i (h1 : i < xs.size) (h2 : i < ys.size), Lif N ρ q k xs[i] ys[i]) : Lif N ρ q k (.agg xs) (.agg ys)
  | tuple (xs ys : Array Value) (hs : xs.size = ys.size) (h : ∀ i (h1 : i < xs.size) (h2 : i < ys.size), Lif N ρ q k xs[i] ys[i]) : Lif N ρ q k (.tuple xs) (.tuple ys)

/-- A block handed back. -/
structure LifB (N : AH) (ρ : Nat → Nat) (q : Nat → Prop) (k : Nat) (b b' : Blk) : Prop where
  el : b'.el = b.el
  sz : b'.sz = b.sz
  ver : b'.ver = b.ver
  own : b'.own = b.own
  len : b'.cs.length ≤ b.cs.length
  cs : ∀ (j : Nat) v', b'.cs[j]? = some v' → ∃ v, b.cs[j]? = some v ∧ Lif N ρ q k v v'

section
variable {P : Program} {σ σ' σ'' : Sg} {N M H : AH} {ρ : Nat → Nat} {q : Nat → Prop} {k : Nat}

theorem lif_vr (hM : ∀ i, q i → ∃ b b', N[ρ i]? = some b ∧ M[i]? = some b' ∧ LifB N ρ q k b b') (hk : H.length = k) (hσ : ∀ i, q i → σ'' (k + i) = σ' (ρ i))
    {d d' : Value} (h : Lif N ρ q k d d') : ∀ v, VR σ' N v d → VR σ'' (H ++ M) v d' := by
  have get : ∀ i, q i → (H ++ M)[k + i]? = M[i]? := fun i hi => by subst hk; rw [List.getElem?_append_right (by omega), Nat.add_sub_cancel_left]
  induction h with
  | flat d h => 
    intro v hv
    have := hv.im (σ' := σ'') (H' := H ++ M) (.flat _ h)
    cases hv with
    | flat _ _ => exact .flat _ h
    | tuple xs ys hs h' =>
      have h0 : ys.size = 0 := by simpa [flatV] using h
      exact .tuple xs ys hs fun i h1 h2 => by omega
    | _ => simp [flatV] at h
  | nil =>
    intro v hv
    cases hv with
    | flat _ h => simp [flatV] at h
    | mt a _ _ hd => exact .mt a none 0 hd
  | gone r off sp ver b hb hbv hbo =>
    intro v hv
    cases hv with
    | flat _ h => simp [flatV] at h
    | mt a _ _ hd => exact .mt a none 0 (fun x hx => by cases hx)
    | slice _ _ _ cap _ _ blk h hv ho hl hsp hm hc => rw [hb] at h; cases h; rw [hbo] at ho; cases ho
    | stale _ _ _ _ _ blk h hv a l c => rw [hb] at h; cases h; omega
  | slice i off sp len ver hi =>
    intro v hv
    obtain ⟨b, b', h1, h2, hb⟩ := hM i hi
    cases hv with
    | flat _ h => simp [flatV] at h
    | mt a _ _ hd =>
      have hs := hd ⟨ρ i, off, sp⟩ rfl
      exact .mt a _ _ fun x hx => by cases hx; exact hs
    | slice _ _ _ cap _ _ blk h hv ho hl hsp hm hc =>
      rw [h1] at h
      cases h
      rw [← hσ i hi] at hc ⊢
      exact .slice (k + i) off len cap ver sp b' (by rw [get i hi]; exact h2) (hb.ver.trans hv) (hb.own.trans ho) hl hsp hm (by rw [hb.sz]; exact hc)
    | stale _ _ _ _ _ blk h hv a l c =>
      rw [h1] at h
      cases h
      exact .stale (k + i) off len ver sp b' (by rw [get i hi]; exact h2) (by rw [hb.ver]; exact hv) a l c
  | agg xs ys hs h ih =>
    intro v hv
    obtain ⟨zs, rfl, hz, hv⟩ := hv.aggI
    exact .agg _ _ (hz.trans hs) fun i h1 h2 => ih i (by omega) h2 _ (hv i h1 (by omega))
  | tuple xs ys hs h ih =>
    intro v hv
    obtain ⟨zs, rfl, hz, hv⟩ := hv.tupleI
    exact .tuple _ _ (hz.trans hs) fun i h1 h2 => ih i (by omega) h2 _ (hv i h1 (by omega))

/-- A call by its contract in an empty heap, with lent arguments: of what it made stands what is handed back, and no more. -/
theorem ACalls.lift {f : FuncId} {args args' : List Value} {post post' : Value → AH → Prop} (h : ACalls P 0 f args' [] post) (hb : BorL H args args')
    (hp : ∀ d N, post d N → ∃ (ρ : Nat → Nat) (q : Nat → Prop) (M : AH) (d' : Value), (∀ i j, q i → q j → ρ i = ρ j → i = j) ∧ Lif N ρ q H.length d d' ∧ (∀ i b', M[i]? = some b' → b'.own = true → q i) ∧
      (∀ i, q i → ∃ b b', N[ρ i]? = some b ∧ M[i]? = some b' ∧ LifB N ρ q H.length b b') ∧ post' d' (H ++ M)) : ACalls P H.length f args H post' :=
  ⟨h.1, fun σ w vals hS hB hvl => (h.2 (snap σ H w) w vals (snap_sim hS) (Nat.le_refl _) (hb.vr hS _ hvl)).mono fun e w' ⟨v, he, σ', N, d, F, S, V, hd⟩ => by
    obtain ⟨ρ, q, M, d', hinj, hl, hown, hM, hpost⟩ := hp d N hd
    have b := F.below0
    have hnew : ∀ i, q i → ∀ nb, N[ρ i]? = some nb → nb.own = true → w.heap.size ≤ (σ' (ρ i)).b := fun i hi nb h1 h2 => by
      rcases F.loc (ρ i) nb h1 h2 with ⟨b0, g, _⟩ | g
      · simp at g
      · exact g
    let σ'' : Sg := ⟨fun q => if q < H.length then σ q else σ' (ρ (q - H.length)), σ.im⟩
    have so : ∀ q, q < H.length → σ'' q = σ q := fun q hq => if_pos hq
    have sn : ∀ i, σ'' (H.length + i) = σ' (ρ i) := fun i => by show (if _ then _ else _) = _; rw [if_neg (by omega), Nat.add_sub_cancel_left]
    have old : ∀ r blk, (H ++ M)[r]? = some blk → r < H.length → H[r]? = some blk := fun r blk h1 h2 => by rwa [List.getElem?_append_left h2] at h1
    have new : ∀ r blk, (H ++ M)[r]? = some blk → ¬ r < H.length → blk.own = true → ∃ i, r = H.length + i ∧ q i ∧ M[i]? = some blk := fun r blk h1 h2 h3 => by
      rw [List.getElem?_append_right (by omega)] at h1
      exact ⟨r - H.length, by omega, hown _ _ h1 h3, h1⟩
    have F2 : Fut H.length σ H w σ'' (H ++ M) w' := {
      os := b.os
      tape := b.tape
      output := b.output
      size := b.size
      frame := fun k hk _ => b.block k hk
      pre := fun r hr => List.getElem?_append_left hr
      preσ := fun r hr _ => so r hr
      keep := fun r blk h => ⟨blk, by rw [List.getElem?_append_left (lt_of_some h)]; exact h, Nat.le_refl _, fun _ => ⟨so r (lt_of_some h), rfl, rfl⟩⟩
      loc := fun r blk' hr ho => by
        by_cases hlt : r < H.length
        · exact .inl ⟨blk', old r blk' hr hlt, ho, so r hlt⟩
        · obtain ⟨i, rfl, hi, hmi⟩ := new r blk' hr hlt ho
          obtain ⟨nb, nb', h1, h2, h3⟩ := hM i hi
          rw [hmi] at h2
          cases h2
          exact .inr (by rw [sn]; exact hnew i hi nb h1 (h3.own.symm.trans ho))
      imk := fun _ _ h => h
      imn := fun _ _ h => .inl h }
    have S2 : Sim σ'' (H ++ M) w' := ⟨fun r blk hr ho => by
        by_cases hlt : r < H.length
        · have hr' := old r blk hr hlt
          obtain ⟨c, h1, h2, h3, h4, h5⟩ := hS.own r blk hr' ho
          refine ⟨c, by rw [so r hlt, b.block _ (hS.lt hr' ho)]; exact h1, by rw [so r hlt]; exact h2, by rw [so r hlt]; exact h3, h4, fun j v hj => ?_⟩
          obtain ⟨u, a1, a2, a3⟩ := h5 j v hj
          exact ⟨u, a1, a2.fut F2, a3⟩
        · obtain ⟨i, rfl, hi, hmi⟩ := new r blk hr hlt ho
          obtain ⟨nb, nb', h1, h2, h3⟩ := hM i hi
          rw [hmi] at h2
          cases h2
          obtain ⟨c, k1, k2, k3, k4, k5⟩ := S.own (ρ i) nb h1 (h3.own.symm.trans ho)
          refine ⟨c, by rw [sn, h3.el]; exact k1, by rw [sn]; exact k2, by rw [sn]; exact k3, Nat.le_trans h3.len k4, fun j v hj => ?_⟩
          obtain ⟨v0, g1, g2⟩ := h3.cs j v hj
          obtain ⟨u, a1, a2, a3⟩ := k5 j v0 g1
          exact ⟨u, a1, lif_vr (fun i hi => hM i hi) rfl (fun i _ => sn i) g2 _ a2, a3⟩,
      fun a u ha => by
        obtain ⟨h1, h2⟩ := hS.im a u ha
        exact ⟨by rw [b.cell (p := a) (hS.imlt ha)]; exact h1, h2⟩,
      fun a u ha r blk hr ho => by
        by_cases hlt : r < H.length
        · rw [so r hlt]; exact hS.sep a u ha r blk (old r blk hr hlt) ho
        · obtain ⟨i, rfl, hi, hmi⟩ := new r blk hr hlt ho
          obtain ⟨nb, nb', h1, h2, h3⟩ := hM i hi
          rw [hmi] at h2
          cases h2
          rw [sn]
          have := hnew i hi nb h1 (h3.own.symm.trans ho)
          have := hS.imlt ha
          omega,
      fun r r' blk blk' hr hr' hne ho ho' => by
        by_cases hlt : r < H.length
        · have h1 := old r blk hr hlt
          rw [so r hlt]
          by_cases hlt' : r' < H.length
          · rw [so r' hlt']; exact hS.inj r r' blk blk' h1 (old r' blk' hr' hlt') hne ho ho'
          · obtain ⟨i, rfl, hi, hmi⟩ := new r' blk' hr' hlt' ho'
            obtain ⟨nb, nb', g1, g2, g3⟩ := hM i hi
            rw [hmi] at g2
            cases g2
            rw [sn]
            have := hnew i hi nb g1 (g3.own.symm.trans ho')
            have := hS.lt h1 ho
            omega
        · obtain ⟨i, rfl, hi, hmi⟩ := new r blk hr hlt ho
          obtain ⟨nb, nb', g1, g2, g3⟩ := hM i hi
          rw [hmi] at g2
          cases g2
          rw [sn]
          by_cases hlt' : r' < H.length
          · rw [so r' hlt']
            have := hnew i hi nb g1 (g3.own.symm.trans ho)
            have := hS.lt (old r' blk' hr' hlt') ho'
            omega
          · obtain ⟨j, rfl, hj, hmj⟩ := new r' blk' hr' hlt' ho'
            obtain ⟨nc, nc', f1, f2, f3⟩ := hM j hj
            rw [hmj] at f2
            cases f2
            rw [sn]
            exact S.inj (ρ i) (ρ j) nb nc g1 f1 (fun e => hne (by rw [hinj i j hi hj e])) (g3.own.symm.trans ho) (f3.own.symm.trans ho')⟩
    exact ⟨v, he, σ'', H ++ M, d', F2, S2, lif_vr (fun i hi => hM i hi) rfl (fun i _ => sn i) hl _ V, hpost⟩⟩


/-! ### Who owns what -/
/-- Cells that lead to blocks of their own: each block is told once. 'x': the blocks hold no more than what is told. -/
inductive OwnL (x : Bool) (H : AH) : List Value → List Value → List Nat → Prop
  | nil : OwnL x H [] [] []
  | flat {v : Value} {l l' : List Value} {S : List Nat} (h : flatV v = true) (t : OwnL x H l l' S) : OwnL x H (v :: l) (v :: l') S
  | nils {l l' : List Value} {S : List Nat} (t : OwnL x H l l' S) : OwnL x H (.slice none 0 0 :: l) (isl 0 [] :: l') S
  | emp {r : Nat} {sp : Option Nat} {blk : Blk} {l l' : List Value} {S : List Nat} (h : H[r]? = some blk) (ho : x = true → blk.own = true ∧ blk.cs = []) (t : OwnL x H l l' S) :
      OwnL x H (.slice (some ⟨r, 0, sp⟩) 0 blk.ver :: l) (isl 0 [] :: l') (r :: S)
  | slice {r : Nat} {sp : Option Nat} {len : Nat} {blk : Blk} {cs l l' : List Value} {S T : List Nat} (h : H[r]? = some blk) (ho : blk.own = true) (hl : cs.length ≤ blk.cs.length) (hx : x = true → blk.cs.length = cs.length)
      (hn : len = 0 → cs = []) (hc : OwnL x H (blk.cs.take cs.length) cs S) (t : OwnL x H l l' T) : OwnL x H (.slice (some ⟨r, 0, sp⟩) len blk.ver :: l) (isl len cs :: l') (r :: (S ++ T))
  | agg {xs ys : Array Value} {S T : List Nat} {l l' : List Value} (hx : OwnL x H xs.toList ys.toList S) (t : OwnL x H l l' T) : OwnL x H (.agg xs :: l) (.agg ys :: l') (S ++ T)
  | tup {xs ys : Array Value} {S T : List Nat} {l l' : List Value} (hx : OwnL x H xs.toList ys.toList S) (t : OwnL x H l l' T) : OwnL x H (.tuple xs :: l) (.tuple ys :: l') (S ++ T)

theorem OwnL.len {x : Bool} {H : AH} {l l' : List Value} {S : List Nat} (h : OwnL x H l l' S) : l.length = l'.length := by
  induction h with
  | nil => rfl
  | flat _ _ ih => simp [ih]
  | nils _ ih => simp [ih]
  | emp _ _ _ ih => simp [ih]
  | slice _ _ _ _ _ _ _ _ ih => simp [ih]
  | agg _ _ _ ih => simp [ih]
  | tup _ _ _ ih => simp [ih]
theorem OwnL.bor {x : Bool} {H : AH} {l l' : List Value} {S : List Nat} (h : OwnL x H l l' S) : BorL H l l' := by
  induction h with
  | nil => exact .nil
  | flat h _ ih => exact .cons (.same _ (.flat _ h)) ih
  | nils _ ih => exact .cons .nil ih
  | emp h _ _ ih => exact .cons (.emp _ _ _ _ _ h rfl) ih
  | slice h ho hl hx hn hc t ihc iht => exact .cons (Bor.ownL h rfl ho hn ⟨_, ihc, rfl⟩) iht
  | agg hx _ ihx iht => exact .cons (by simpa using Bor.aggL ihx) iht
  | tup hx _ ihx iht => exact .cons (by simpa using Bor.tupleL ihx) iht
theorem OwnL.frame {x : Bool} {H H' : AH} {l l' : List Value} {S : List Nat} (h : OwnL x H l l' S) : (∀ r ∈ S, H'[r]? = H[r]?) → OwnL x H' l l' S := by
  induction h with
  | nil => exact fun _ => .nil
  | flat h _ ih => exact fun hf => .flat h (ih hf)
  | nils _ ih => exact fun hf => .nils (ih hf)
  | emp h ho _ ih => exact fun hf => .emp (by rw [hf _ (by simp)]; exact h) ho (ih fun r hr => hf r (by simp [hr]))
  | slice h ho hl hx hn hc t ihc iht => exact fun hf => .slice (by rw [hf _ (by simp)]; exact h) ho hl hx hn (ihc fun r hr => hf r (by simp [hr])) (iht fun r hr => hf r (by simp [hr]))
  | agg hx _ ihx iht => exact fun hf => .agg (ihx fun r hr => hf r (by simp [hr])) (iht fun r hr => hf r (by simp [hr]))
  | tup hx _ ihx iht => exact fun hf => .tup (ihx fun r hr => hf r (by simp [hr])) (iht fun r hr => hf r (by simp [hr]))
theorem OwnL.lt {x : Bool} {H : AH} {l l' : List Value} {S : List Nat} (h : OwnL x H l l' S) : ∀ r ∈ S, r < H.length := by
  induction h with
  | nil => simp
  | flat h _ ih => exact ih
  | nils _ ih => exact ih
  | emp h ho _ ih => intro r hr; rcases List.mem_cons.1 hr with rfl | hr; exact lt_of_some h; exact ih r hr
  | slice h ho hl hx hn hc t ihc iht =>
    intro r hr
    rcases List.mem_cons.1 hr with rfl | hr
    · exact lt_of_some h
    · rcases List.mem_append.1 hr with hr | hr
      · exact ihc r hr
      · exact iht r hr
  | agg hx _ ihx iht => intro r hr; rcases List.mem_append.1 hr with hr | hr; exact ihx r hr; exact iht r hr
  | tup hx _ ihx iht => intro r hr; rcases List.mem_append.1 hr with hr | hr; exact ihx r hr; exact iht r hr
theorem OwnL.append {x : Bool} {H : AH} {l l' m m' : List Value} {S T : List Nat} (h : OwnL x H l l' S) (k : OwnL x H m m' T) : OwnL x H (l ++ m) (l' ++ m') (S ++ T) := by
  induction h with
  | nil => exact k
  | flat h _ ih => exact .flat h ih
  | nils _ ih => exact .nils ih
  | emp h ho _ ih => exact .emp h ho ih
  | slice h ho hl hx hn hc t ihc iht =>
    simp only [List.cons_append, List.append_assoc]
    exact .slice h ho hl hx hn hc iht
  | agg hx _ ihx iht =>
    rw [List.append_assoc]
    exact .agg hx iht
  | tup hx _ ihx iht =>
    rw [List.append_assoc]
    exact .tup hx iht
theorem OwnL.ofFlat {x : Bool} {H : AH} : ∀ {l : List Value}, (∀ c ∈ l, flatV c = true) → OwnL x H l l []
  | [], _ => .nil
  | v :: l, h => .flat (h v (by simp)) (OwnL.ofFlat fun c hc => h c (by simp [hc]))
theorem OwnL.ofF {x : Bool} {H : AH} {v : Value} (h : flatV v = true) : OwnL x H [v] [v] [] := .flat h .nil
theorem OwnL.loose {x : Bool} {H : AH} {l l' : List Value} {S : List Nat} (h : OwnL x H l l' S) : OwnL false H l l' S := by
  induction h with
  | nil => exact .nil
  | flat h _ ih => exact .flat h ih
  | nils _ ih => exact .nils ih
  | emp h ho _ ih => exact .emp h (fun e => by cases e) ih
  | slice h ho hl hx hn hc t ihc iht => exact .slice h ho hl (fun e => by cases e) hn ihc iht
  | agg hx _ ihx iht => exact .agg ihx iht
  | tup hx _ ihx iht => exact .tup ihx iht

inductive LifL (N : AH) (ρ : Nat → Nat) (q : Nat → Prop) (k : Nat) : List Value → List Value → Prop
  | nil : LifL N ρ q k [] []
  | cons {v d : Value} {l m : List Value} (h : Lif N ρ q k v d) (t : LifL N ρ q k l m) : LifL N ρ q k (v :: l) (d :: m)
theorem LifL.at {N : AH} {ρ : Nat → Nat} {q : Nat → Prop} {k : Nat} {l m : List Value} (h : LifL N ρ q k l m) : l.length = m.length ∧ ∀ (i : Nat) (h1 : i < l.length) (h2 : i < m.length), Lif N ρ q k l[i] m[i] := by
  induction h with
  | nil => exact ⟨rfl, fun i h1 => by simp at h1⟩
  | cons hx ht ih =>
    refine ⟨by simp [ih.1], fun i h1 h2 => ?_⟩
    cases i with
    | zero => exact hx
    | succ i => exact ih.2 i (by simpa using h1) (by simpa using h2)
theorem LifL.cells {N : AH} {ρ : Nat → Nat} {q : Nat → Prop} {k n : Nat} {cs m : List Value} (h : LifL N ρ q k (cs.take n) m) : ∀ (j : Nat) v', m[j]? = some v' → ∃ v, cs[j]? = some v ∧ Lif N ρ q k v v' := fun j v' hj => by
  obtain ⟨h1, h2⟩ := h.at
  obtain ⟨hlt, rfl⟩ := List.getElem?_eq_some_iff.1 hj
  have hl : j < (cs.take n).length := by omega
  have := h2 j hl hlt
  rw [List.getElem_take] at this
  exact ⟨_, List.getElem?_eq_getElem (by simp at hl; omega), this⟩

theorem mid_get {α : Type} {A S C : List α} {z : α} {d : α} : (A ++ (z :: S) ++ C).getD A.length d = z := by
  simp [List.getD]

theorem LifL.agg {N : AH} {ρ : Nat → Nat} {q : Nat → Prop} {k : Nat} {xs : Array Value} {m : List Value} (h : LifL N ρ q k xs.toList m) : Lif N ρ q k (.agg xs) (.agg m.toArray) :=
  .agg _ _ (by simpa using h.at.1) fun i h1 h2 => by
    have := h.at.2 i (by simpa using h1) (by simpa using h2)
    rw [Array.getElem_toList] at this
    simpa using this
theorem LifL.tup {N : AH} {ρ : Nat → Nat} {q : Nat → Prop} {k : Nat} {xs : Array Value} {m : List Value} (h : LifL N ρ q k xs.toList m) : Lif N ρ q k (.tuple xs) (.tuple m.toArray) :=
  .tuple _ _ (by simpa using h.at.1) fun i h1 h2 => by
    have := h.at.2 i (by simpa using h1) (by simpa using h2)
    rw [Array.getElem_toList] at this
    simpa using this
theorem app_getD {N : AH} {R : Nat → Nat → Prop} {S T : List Nat} {MS MT : AH} (hl : MS.length = S.length) {Q : Option Blk → Blk → Prop} (h1 : ∀ i b', MS[i]? = some b' → Q N[S.getD i 0]? b') (h2 : ∀ i b', MT[i]? = some b' → Q N[T.getD i 0]? b') :
    ∀ i b', (MS ++ MT)[i]? = some b' → Q N[(S ++ T).getD i 0]? b' := fun i b' hb => by
  rcases Nat.lt_or_ge i MS.length with hi | hi
  · rw [List.getElem?_append_left hi] at hb
    have := h1 i b' hb
    simp only [List.getD] at this ⊢
    rw [List.getElem?_append_left (by omega)]
    exact this
  · rw [List.getElem?_append_right hi] at hb
    have := h2 _ b' hb
    simp only [List.getD] at this ⊢
    rw [List.getElem?_append_right (by omega), ← hl]
    exact this
/-- What is owned, laid anew behind k blocks. -/
theorem OwnL.lift {x : Bool} {N : AH} {S0 : List Nat} {k : Nat} {l l' : List Value} {S : List Nat} (h : OwnL x N l l' S) : ∀ A C, S0 = A ++ S ++ C →
    ∃ (dl : List Value) (MS : AH), LifL N (fun i => S0.getD i 0) (fun i => i < S0.length) k l dl ∧ MS.length = S.length ∧
      (∀ i b', MS[i]? = some b' → ∃ b, N[S.getD i 0]? = some b ∧ LifB N (fun i => S0.getD i 0) (fun i => i < S0.length) k b b') ∧
      ∀ H M : AH, H.length = k → (∀ i, i < S.length → M[A.length + i]? = MS[i]?) → ∃ S', OwnL true (H ++ M) dl l' S' ∧ S'.Nodup ∧ ∀ r ∈ S', k + A.length ≤ r ∧ r < k + A.length + S.length := by
  have at2 : ∀ {H M : AH} {i : Nat}, H.length = k → (H ++ M)[k + i]? = M[i]? := fun hk => by rw [List.getElem?_append_right (by omega)]; congr 1; omega
  have both : ∀ {A S T : List Nat} {H M : AH} {MS MT : AH}, MS.length = S.length → (∀ i, i < (S ++ T).length → M[A.length + i]? = (MS ++ MT)[i]?) →
      (∀ i, i < S.length → M[A.length + i]? = MS[i]?) ∧ ∀ i, i < T.length → M[(A ++ S).length + i]? = MT[i]? := fun {A S T H M MS MT} hl hM => by
    refine ⟨fun i hi => ?_, fun i hi => ?_⟩
    · rw [hM i (by simp; omega), List.getElem?_append_left (by omega)]
    · have := hM (S.length + i) (by simp; omega)
      rw [List.getElem?_append_right (by omega), hl, Nat.add_sub_cancel_left] at this
      rw [List.length_append, Nat.add_assoc]
      exact this
  have pair : ∀ {A S T S1 S2 : List Nat}, S1.Nodup → S2.Nodup → (∀ r ∈ S1, k + A.length ≤ r ∧ r < k + A.length + S.length) → (∀ r ∈ S2, k + (A ++ S).length ≤ r ∧ r < k + (A ++ S).length + T.length) →
      (S1 ++ S2).Nodup ∧ ∀ r ∈ S1 ++ S2, k + A.length ≤ r ∧ r < k + A.length + (S ++ T).length := fun {A S T S1 S2} n1 n2 b1 b2 => by
    refine ⟨List.nodup_append.2 ⟨n1, n2, fun a ha b hb e => ?_⟩, fun r hr => ?_⟩
    · have := b1 a ha
      have := b2 b hb
      simp at this
      omega
    · simp only [List.length_append] at b2 ⊢
      rcases List.mem_append.1 hr with hr | hr
      · have := b1 r hr; omega
      · have := b2 r hr; omega
  induction h with
  | nil => exact fun A C _ => ⟨[], [], .nil, rfl, fun i b' hb => by simp at hb, fun H M _ _ => ⟨[], .nil, by simp, by simp⟩⟩
  | flat h _ ih =>
    intro A C hS
    obtain ⟨dl, MS, h1, h2, h3, h4⟩ := ih A C hS
    refine ⟨_ :: dl, MS, .cons (.flat _ h) h1, h2, h3, fun H M hk hM => ?_⟩
    obtain ⟨S', g1, g2, g3⟩ := h4 H M hk hM
    exact ⟨S', .flat h g1, g2, g3⟩
  | nils _ ih =>
    intro A C hS
    obtain ⟨dl, MS, h1, h2, h3, h4⟩ := ih A C hS
    refine ⟨_ :: dl, MS, .cons .nil h1, h2, h3, fun H M hk hM => ?_⟩
    obtain ⟨S', g1, g2, g3⟩ := h4 H M hk hM
    exact ⟨S', .nils g1, g2, g3⟩
  | @emp r sp blk l l' S h ho _ ih =>
    intro A C hS
    obtain ⟨dl, MS, h1, h2, h3, h4⟩ := ih (A ++ [r]) C (by rw [hS]; simp)
    have hr : S0.getD A.length 0 = r := by rw [hS]; exact mid_get
    have hq : A.length < S0.length := by rw [hS]; simp only [List.length_append, List.length_cons]; omega
    have hB : LifB N (fun i => S0.getD i 0) (fun i => i < S0.length) k blk ⟨blk.el, blk.sz, [], blk.ver, blk.own⟩ := ⟨rfl, rfl, rfl, rfl, by simp, fun j v' hj => by simp at hj⟩
    have h3' : ∀ i b', ([⟨blk.el, blk.sz, [], blk.ver, blk.own⟩] ++ MS)[i]? = some b' → ∃ b, N[([r] ++ S).getD i 0]? = some b ∧ LifB N (fun i => S0.getD i 0) (fun i => i < S0.length) k b b' :=
      app_getD (R := fun _ _ => True) (Q := fun o b' => ∃ b, o = some b ∧ LifB N (fun i => S0.getD i 0) (fun i => i < S0.length) k b b') rfl (fun i b' hb => by
        cases i with
        | zero => simp at hb; subst hb; exact ⟨blk, by simpa using h, hB⟩
        | succ i => simp at hb) h3
    cases hown : blk.own with
    | true =>
      rw [hown] at h3'
      refine ⟨.slice (some ⟨k + A.length, 0, sp⟩) 0 blk.ver :: dl, ⟨blk.el, blk.sz, [], blk.ver, true⟩ :: MS, .cons ?_ h1, by simp [h2], h3', fun H M hk hM => ?_⟩
      · have := Lif.slice (N := N) (ρ := fun i => S0.getD i 0) (q := fun i => i < S0.length) (k := k) A.length 0 sp 0 blk.ver hq
        simp only [hr] at this
        exact this
      · obtain ⟨m1, m2⟩ := both (A := A) (S := [r]) (T := S) (H := H) (M := M) (MS := [⟨blk.el, blk.sz, [], blk.ver, true⟩]) (MT := MS) rfl hM
        obtain ⟨S', g1, g2, g3⟩ := h4 H M hk m2
        have hb := m1 0 (by simp)
        have hat : (H ++ M)[k + A.length]? = some ⟨blk.el, blk.sz, [], blk.ver, true⟩ := by rw [at2 hk]; simpa using hb
        obtain ⟨n1, n2⟩ := pair (A := A) (S := [r]) (T := S) (S1 := [k + A.length]) (S2 := S') (by simp) g2 (by simp) g3
        exact ⟨(k + A.length) :: S', .emp (blk := ⟨blk.el, blk.sz, [], blk.ver, true⟩) hat (fun _ => ⟨rfl, rfl⟩) g1, n1, n2⟩
    | false =>
      rw [hown] at h3'
      refine ⟨.slice none 0 0 :: dl, ⟨blk.el, blk.sz, [], blk.ver, false⟩ :: MS, .cons (.gone r 0 sp blk.ver blk h rfl hown) h1, by simp [h2], h3', fun H M hk hM => ?_⟩
      obtain ⟨m1, m2⟩ := both (A := A) (S := [r]) (T := S) (H := H) (M := M) (MS := [⟨blk.el, blk.sz, [], blk.ver, false⟩]) (MT := MS) rfl hM
      obtain ⟨S', g1, g2, g3⟩ := h4 H M hk m2
      obtain ⟨n1, n2⟩ := pair (A := A) (S := [r]) (T := S) (S1 := []) (S2 := S') (by simp) g2 (by simp) g3
      exact ⟨S', .nils g1, n1, n2⟩
  | @slice r sp len blk cs l l' S T h ho hl hx hn hc t ihc iht =>
    intro A C hS
    obtain ⟨dc, MC, c1, c2, c3, c4⟩ := ihc (A ++ [r]) (T ++ C) (by rw [hS]; simp)
    obtain ⟨dt, MT, t1, t2, t3, t4⟩ := iht (A ++ [r] ++ S) C (by rw [hS]; simp)
    have hr : S0.getD A.length 0 = r := by rw [hS]; exact mid_get
    have hq : A.length < S0.length := by rw [hS]; simp only [List.length_append, List.length_cons]; omega
    have hdc : dc.length = cs.length := by have := c1.at.1; simp at this; omega
    have hB : LifB N (fun i => S0.getD i 0) (fun i => i < S0.length) k blk ⟨blk.el, blk.sz, dc, blk.ver, true⟩ := ⟨rfl, rfl, rfl, ho.symm, by dsimp only; omega, c1.cells⟩
    refine ⟨.slice (some ⟨k + A.length, 0, sp⟩) len blk.ver :: dt, ⟨blk.el, blk.sz, dc, blk.ver, true⟩ :: (MC ++ MT), .cons ?_ t1, by simp [c2, t2], ?_, fun H M hk hM => ?_⟩
    · have := Lif.slice (N := N) (ρ := fun i => S0.getD i 0) (q := fun i => i < S0.length) (k := k) A.length 0 sp len blk.ver hq
      simp only [hr] at this
      exact this
    · exact app_getD (R := fun _ _ => True) (S := [r]) (MS := [⟨blk.el, blk.sz, dc, blk.ver, true⟩]) (Q := fun o b' => ∃ b, o = some b ∧ LifB N (fun i => S0.getD i 0) (fun i => i < S0.length) k b b') rfl (fun i b' hb => by
        cases i with
        | zero => simp at hb; subst hb; exact ⟨blk, by simpa using h, hB⟩
        | succ i => simp at hb) (app_getD (R := fun _ _ => True) (Q := fun o b' => ∃ b, o = some b ∧ LifB N (fun i => S0.getD i 0) (fun i => i < S0.length) k b b') c2 c3 t3)
    · obtain ⟨m1, m2⟩ := both (A := A) (S := [r]) (T := S ++ T) (H := H) (M := M) (MS := [⟨blk.el, blk.sz, dc, blk.ver, true⟩]) (MT := MC ++ MT) rfl hM
      obtain ⟨m3, m4⟩ := both (A := A ++ [r]) (H := H) (S := S) (T := T) (M := M) (MS := MC) (MT := MT) c2 m2
      obtain ⟨S1, g1, g2, g3⟩ := c4 H M hk m3
      obtain ⟨S2, f1, f2, f3⟩ := t4 H M hk m4
      have hb := m1 0 (by simp)
      have hat : (H ++ M)[k + A.length]? = some ⟨blk.el, blk.sz, dc, blk.ver, true⟩ := by rw [at2 hk]; simpa using hb
      obtain ⟨n1, n2⟩ := pair (A := A ++ [r]) (S := S) (T := T) g2 f2 g3 f3
      obtain ⟨n3, n4⟩ := pair (A := A) (S := [r]) (T := S ++ T) (S1 := [k + A.length]) (S2 := S1 ++ S2) (by simp) n1 (by simp) n2
      exact ⟨(k + A.length) :: (S1 ++ S2), .slice (blk := ⟨blk.el, blk.sz, dc, blk.ver, true⟩) hat rfl (by dsimp only; omega) (fun _ => hdc) hn (by rw [List.take_of_length_le (by dsimp only; omega)]; exact g1) f1, n3, n4⟩
  | @agg xs ys S T l l' hx t ihx iht =>
    intro A C hS
    obtain ⟨dc, MC, c1, c2, c3, c4⟩ := ihx A (T ++ C) (by rw [hS]; simp)
    obtain ⟨dt, MT, t1, t2, t3, t4⟩ := iht (A ++ S) C (by rw [hS]; simp)
    refine ⟨.agg dc.toArray :: dt, MC ++ MT, .cons c1.agg t1, by simp [c2, t2], app_getD (R := fun _ _ => True) (Q := fun o b' => ∃ b, o = some b ∧ LifB N (fun i => S0.getD i 0) (fun i => i < S0.length) k b b') c2 c3 t3, fun H M hk hM => ?_⟩
    obtain ⟨m3, m4⟩ := both (A := A) (H := H) (S := S) (T := T) (M := M) (MS := MC) (MT := MT) c2 hM
    obtain ⟨S1, g1, g2, g3⟩ := c4 H M hk m3
    obtain ⟨S2, f1, f2, f3⟩ := t4 H M hk m4
    obtain ⟨n1, n2⟩ := pair (A := A) (S := S) (T := T) g2 f2 g3 f3
    exact ⟨S1 ++ S2, .agg g1 f1, n1, n2⟩
  | @tup xs ys S T l l' hx t ihx iht =>
    intro A C hS
    obtain ⟨dc, MC, c1, c2, c3, c4⟩ := ihx A (T ++ C) (by rw [hS]; simp)
    obtain ⟨dt, MT, t1, t2, t3, t4⟩ := iht (A ++ S) C (by rw [hS]; simp)
    refine ⟨.tuple dc.toArray :: dt, MC ++ MT, .cons c1.tup t1, by simp [c2, t2], app_getD (R := fun _ _ => True) (Q := fun o b' => ∃ b, o = some b ∧ LifB N (fun i => S0.getD i 0) (fun i => i < S0.length) k b b') c2 c3 t3, fun H M hk hM => ?_⟩
    obtain ⟨m3, m4⟩ := both (A := A) (H := H) (S := S) (T := T) (M := M) (MS := MC) (MT := MT) c2 hM
    obtain ⟨S1, g1, g2, g3⟩ := c4 H M hk m3
    obtain ⟨S2, f1, f2, f3⟩ := t4 H M hk m4
    obtain ⟨n1, n2⟩ := pair (A := A) (S := S) (T := T) g2 f2 g3 f3
    exact ⟨S1 ++ S2, .tup g1 f1, n1, n2⟩

/-- THE CONTRACT of a function that hands back new memory of its own. -/
def NCalls (P : Program) (f : FuncId) (args : List Value) (v : Value) : Prop := ACalls P 0 f args [] fun d N => ∃ S, S.Nodup ∧ OwnL false N [d] [v] S
/-- A value in new memory, in a heap that has grown. -/
structure New (H H' : AH) (d v : Value) (S : List Nat) : Prop where
  len : H.length ≤ H'.length
  old : ∀ r, r < H.length → H'[r]? = H[r]?
  own : OwnL true H' [d] [v] S
  nd : S.Nodup
  lo : ∀ r ∈ S, H.length ≤ r
theorem NCalls.use {f : FuncId} {args args' : List Value} {v : Value} (h : NCalls P f args' v) (hb : BorL H args args') : ACalls P H.length f args H fun d H' => ∃ S, New H H' d v S := by
  refine ACalls.lift h hb ?_
  rintro d N ⟨S, hnd, ho⟩
  obtain ⟨dl, MS, h1, h2, h3, h4⟩ := ho.lift (k := H.length) (S0 := S) [] [] (by simp)
  obtain ⟨S', g1, g2, g3⟩ := h4 H MS rfl (fun i _ => by simp)
  have hl := h1.at.1
  obtain ⟨d', rfl⟩ : ∃ d', dl = [d'] := by
    cases dl with
    | nil => simp at hl
    | cons d' t => cases t with
      | nil => exact ⟨d', rfl⟩
      | cons _ _ => simp at hl
  refine ⟨fun i => S.getD i 0, fun i => i < S.length, MS, d', fun i j hi hj e => ?_, ?_, fun i b' hb' _ => by have := lt_of_some hb'; omega, fun i hi => ?_, S', ?_⟩
  · have hi' : i < S.length := hi
    have hj' : j < S.length := hj
    simp only [List.getD, List.getElem?_eq_getElem hi', List.getElem?_eq_getElem hj', Option.getD_some] at e
    rcases Nat.lt_trichotomy i j with h | h | h
    · exact absurd e (List.pairwise_iff_getElem.1 hnd i j hi' hj' h)
    · exact h
    · exact absurd e.symm (List.pairwise_iff_getElem.1 hnd j i hj' hi' h)
  · have := h1.at.2 0 (by simp) (by simp)
    exact this
  · have hi' : i < MS.length := by rw [h2]; exact hi
    obtain ⟨b, k1, k2⟩ := h3 i _ (List.getElem?_eq_getElem hi')
    exact ⟨b, _, k1, List.getElem?_eq_getElem hi', k2⟩
  · exact ⟨by simp, fun r hr => List.getElem?_append_left hr, g1, g2, fun r hr => by have := g3 r hr; simp at this; omega⟩
theorem NCalls.p {f : FuncId} {args : List Value} {v : Value} (h : NCalls P f args v) : PCalls P f args v :=
  h.mono fun d N ⟨S, _, ho⟩ => by cases ho.bor; assumption
theorem NCalls.flat {f : FuncId} {args : List Value} {v : Value} (hv : flatV v = true) (h : ACalls P 0 f args [] fun d _ => d = v) : NCalls P f args v :=
  h.mono fun d N hd => by subst hd; exact ⟨[], by simp, .ofF hv⟩
theorem New.bor {H H' : AH} {d v : Value} {S : List Nat} (h : New H H' d v S) : Bor H' d v := by cases h.own.bor; assumption
theorem intE_flat (ys : List Int) : ∀ c ∈ intE.flat ys, flatV c = true := fun c h => by
  obtain ⟨y, _, hy⟩ := List.mem_flatMap.1 h
  simp [intE, cellsV] at hy
  subst hy
  rfl
/-- A marked block, lent. -/
theorem Bor.mks {el sz m n r ver : Nat} {o : Bool} {sp : Option Nat} {q : Int} (hb : H[r]? = some ⟨el, sz, marksC q m, ver, o⟩) (ho : n ≠ 0 → o = true) (hm : n = 0 → m = 0) : Bor H (.slice (some ⟨r, 0, sp⟩) n ver) (isl n (marksC q m)) := by
  rcases Nat.eq_zero_or_pos n with h0 | h0
  · have := hm h0
    subst h0 this
    exact .emp r 0 sp ver _ hb rfl
  · exact Bor.ownL hb rfl (ho (by omega)) (fun h => by omega) ⟨marksC q m, .same fun d hd => (marksC_ok q m d hd).im, by simp⟩
end
end Go.BM
