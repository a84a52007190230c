/- The heap of a call told by lists: blocks that are ours, and memory that stays as it is. -/
import Derived.Below
import Derived.OwnWalk
import Derived.WalkKit
import Derived.Laws.AppendOwn
import Derived.Laws.Tables
import Derived.Laws.IdiomCopy
import Derived.Great.BuildSlice
import Derived.Lib.QuietBelow
import Derived.OrdersHeld
import Derived.RowKit3
set_option linter.unusedVariables false
set_option linter.unusedSimpArgs false
namespace Go.BM
open Go.RowKit

structure Blk where
  el : TypeId
  sz : Nat
  cs : List Value
  ver : Nat
  own : Bool

abbrev AH := List Blk

structure Loc where
  b : Nat
  base : Nat
  n : Nat

/-- Where our blocks lie, and what is known of memory that stays. -/
structure Sg where
  loc : Nat → Loc
  im : Addr → Option Value
instance : CoeFun Sg (fun _ => Nat → Loc) := ⟨Sg.loc⟩

def Sg.upd (σ : Sg) (r : Nat) (L : Loc) : Sg := ⟨fun q => if q = r then L else σ.loc q, σ.im⟩
theorem Sg.upd_at (σ : Sg) (r : Nat) (L : Loc) (q : Nat) : (σ.upd r L) q = if q = r then L else σ q := rfl
theorem Sg.upd_im (σ : Sg) (r : Nat) (L : Loc) : (σ.upd r L).im = σ.im := rfl

abbrev Env := Nat → Value

def flatV : Value → Bool
  | .bool _ | .int .. | .string _ | .nilFunc | .nilIface | .pointer none => true
  | .tuple cs => cs.size == 0
  | .iface _ v => (match v with | .int .. | .string _ | .bool _ => true | _ => false)
  | _ => false

/-- A slice that is only read: its length and its cells. -/
def isl (len : Nat) (cs : List Value) : Value := .func (.func 0) #[.int .i64 len] cs.toArray
/-- A place that is only read: its cell and those behind it. -/
def ip (cs : List Value) : Value := .func (.func 0) #[.bool true] cs.toArray

inductive VR (σ : Sg) (H : AH) : Value → Value → Prop
  | flat (v : Value) (h : flatV v = true) : VR σ H v v
  | mt (a d : Option Addr) (ver : Nat) (hd : ∀ x, d = some x → x.spot.getD 0 = 0) : VR σ H (.slice a 0 0) (.slice d 0 ver)
  | ptr (r off ver : Nat) (blk : Blk) (h : H[r]? = some blk) (hv : blk.ver = ver) (ho : blk.own = true) :
      VR σ H (.pointer (some ⟨(σ r).b, (σ r).base + off, none⟩)) (.pointer (some ⟨r, off, some ver⟩))
  | sptr (r off ver : Nat) (blk : Blk) (h : H[r]? = some blk) (hv : ver < blk.ver) (a : Option Addr) :
      VR σ H (.pointer a) (.pointer (some ⟨r, off, some ver⟩))
  | slice (r off len cap ver : Nat) (sp : Option Nat) (blk : Blk) (h : H[r]? = some blk) (hv : blk.ver = ver) (ho : blk.own = true) (hl : len ≤ cap) (hsp : sp.getD len ≤ cap) (hm : cap ≤ maxLen)
      (hc : off + cap * blk.sz ≤ (σ r).n) :
      VR σ H (.slice (some ⟨(σ r).b, (σ r).base + off, none⟩) len cap) (.slice (some ⟨r, off, sp⟩) len ver)
  | stale (r off len ver : Nat) (sp : Option Nat) (blk : Blk) (h : H[r]? = some blk) (hv : ver < blk.ver) (a : Option Addr) (l c : Nat) :
      VR σ H (.slice a l c) (.slice (some ⟨r, off, sp⟩) len ver)
  | agg (xs ys : Array Value) (hs : xs.size = ys.size) (h : ∀ i (h1 : i < xs.size) (h2 : i < ys.size), VR σ H xs[i] ys[i]) : VR σ H (.agg xs) (.agg ys)
  | tuple (xs ys : Array Value) (hs : xs.size = ys.size) (h : ∀ i (h1 : i < xs.size) (h2 : i < ys.size), VR σ H xs[i] ys[i]) : VR σ H (.tuple xs) (.tuple ys)
  | func (fn : Fn) (xs ys : Array Value) (hs : xs.size = ys.size) (h : ∀ i (h1 : i < xs.size) (h2 : i < ys.size), VR σ H xs[i] ys[i]) : VR σ H (.func fn #[] xs) (.func fn #[] ys)
  | isl (b o len cap : Nat) (us cs : Array Value) (hl : len ≤ cap) (hm : cap ≤ maxLen) (hs : us.size = cs.size)
      (him : ∀ j (hj : j < us.size), σ.im ⟨b, o + j, none⟩ = some us[j]) (h : ∀ i (h1 : i < us.size) (h2 : i < cs.size), VR σ H us[i] cs[i]) :
      VR σ H (.slice (some ⟨b, o, none⟩) len cap) (.func (.func 0) #[.int .i64 len] cs)
  | isl0 (a : Option Addr) (cap : Nat) (hm : cap ≤ maxLen) : VR σ H (.slice a 0 cap) (.func (.func 0) #[.int .i64 0] #[])
  | ip (b o : Nat) (us cs : Array Value) (hs : us.size = cs.size)
      (him : ∀ j (hj : j < us.size), σ.im ⟨b, o + j, none⟩ = some us[j]) (h : ∀ i (h1 : i < us.size) (h2 : i < cs.size), VR σ H us[i] cs[i]) :
      VR σ H (.pointer (some ⟨b, o, none⟩)) (.func (.func 0) #[.bool true] cs)

structure Sim (σ : Sg) (H : AH) (w : World) : Prop where
  own : ∀ r blk, H[r]? = some blk → blk.own = true → ∃ c : Array Value, w.heap[(σ r).b]? = some (.cells c blk.el (0, 0)) ∧ (σ r).base = 0 ∧ c.size = (σ r).n ∧
    blk.cs.length ≤ c.size ∧ ∀ (j : Nat) v, blk.cs[j]? = some v → ∃ u, c[j]? = some u ∧ VR σ H u v ∧ u.oneCell' = true
  im : ∀ a u, σ.im a = some u → w.cell? a = some u ∧ a.spot = none ∧ u.oneCell' = true
  sep : ∀ a u, σ.im a = some u → ∀ r blk, H[r]? = some blk → blk.own = true → (σ r).b ≠ a.block
  inj : ∀ r r' blk blk', H[r]? = some blk → H[r']? = some blk' → r ≠ r' → blk.own = true → blk'.own = true → (σ r).b ≠ (σ r').b

structure Fut (B : Nat) (σ : Sg) (H : AH) (w : World) (σ' : Sg) (H' : AH) (w' : World) : Prop where
  os : w'.os = w.os
  tape : w'.tape = w.tape
  output : w'.output = w.output
  size : w.heap.size ≤ w'.heap.size
  frame : ∀ k, k < w.heap.size → (∀ r blk, B ≤ r → H[r]? = some blk → blk.own = true → (σ r).b ≠ k) → w'.heap[k]? = w.heap[k]?
  pre : ∀ r, r < B → H'[r]? = H[r]?
  preσ : ∀ r, r < B → r < H.length → σ' r = σ r
  keep : ∀ r blk, H[r]? = some blk → ∃ blk', H'[r]? = some blk' ∧ blk.ver ≤ blk'.ver ∧ (blk'.ver = blk.ver → σ' r = σ r ∧ blk'.sz = blk.sz ∧ blk'.own = blk.own)
  loc : ∀ r blk', H'[r]? = some blk' → blk'.own = true → (∃ blk, H[r]? = some blk ∧ blk.own = true ∧ σ' r = σ r) ∨ w.heap.size ≤ (σ' r).b
  imk : ∀ a u, σ.im a = some u → σ'.im a = some u
  imn : ∀ a u, σ'.im a = some u → σ.im a = some u ∨ w.heap.size ≤ a.block ∨ ∃ r blk, B ≤ r ∧ H[r]? = some blk ∧ blk.own = true ∧ (σ r).b = a.block

theorem lt_of_some {H : AH} {r : Nat} {blk : Blk} (h : H[r]? = some blk) : r < H.length := by
  rcases Nat.lt_or_ge r H.length with h' | h'
  · exact h'
  · rw [List.getElem?_eq_none h'] at h; cases h

theorem Fut.refl (B : Nat) (σ : Sg) (H : AH) (w : World) : Fut B σ H w σ H w :=
  ⟨rfl, rfl, rfl, Nat.le_refl _, fun _ _ _ => rfl, fun _ _ => rfl, fun _ _ _ => rfl, fun r blk h => ⟨blk, h, Nat.le_refl _, fun _ => ⟨rfl, rfl, rfl⟩⟩, fun r blk h ho => .inl ⟨blk, h, ho, rfl⟩, fun _ _ h => h, fun _ _ h => .inl h⟩

theorem Fut.len {B : Nat} {σ σ' : Sg} {H H' : AH} {w w' : World} (h : Fut B σ H w σ' H' w') : H.length ≤ H'.length := by
  rcases Nat.lt_or_ge H'.length H.length with h' | h'
  · obtain ⟨b, hb, _⟩ := h.keep H'.length _ (List.getElem?_eq_getElem h')
    have := lt_of_some hb
    omega
  · exact h'

theorem Fut.trans {B : Nat} {σ σ1 σ2 : Sg} {H H1 H2 : AH} {w w1 w2 : World} (h : Fut B σ H w σ1 H1 w1) (k : Fut B σ1 H1 w1 σ2 H2 w2) : Fut B σ H w σ2 H2 w2 where
  os := k.os.trans h.os
  tape := k.tape.trans h.tape
  output := k.output.trans h.output
  size := Nat.le_trans h.size k.size
  frame := fun x hx hr => by
    have h1 := h.frame x hx hr
    rw [← h1]
    refine k.frame x (Nat.lt_of_lt_of_le hx h.size) fun r blk hB hr1 ho => ?_
    rcases h.loc r blk hr1 ho with ⟨b0, h2, h3, h4⟩ | h2
    · rw [h4]; exact hr r b0 hB h2 h3
    · omega
  pre := fun r hr => (k.pre r hr).trans (h.pre r hr)
  preσ := fun r hr hl => (k.preσ r hr (Nat.lt_of_lt_of_le hl h.len)).trans (h.preσ r hr hl)
  keep := fun r blk hb => by
    obtain ⟨b1, h1, h2, h3⟩ := h.keep r blk hb
    obtain ⟨b2, k1, k2, k3⟩ := k.keep r b1 h1
    refine ⟨b2, k1, Nat.le_trans h2 k2, fun e => ?_⟩
    have e1 : b1.ver = blk.ver := by omega
    have e2 : b2.ver = b1.ver := by omega
    obtain ⟨a1, a2, a3⟩ := h3 e1
    obtain ⟨c1, c2, c3⟩ := k3 e2
    exact ⟨c1.trans a1, c2.trans a2, c3.trans a3⟩
  loc := fun r blk' hr ho => by
    rcases k.loc r blk' hr ho with ⟨b1, h1, ho1, h2⟩ | h1
    · rcases h.loc r b1 h1 ho1 with ⟨b0, h3, h4, h5⟩ | h3
      · exact .inl ⟨b0, h3, h4, h2.trans h5⟩
      · exact .inr (by rw [h2]; exact h3)
    · exact .inr (Nat.le_trans h.size h1)
  imk := fun a u hu => k.imk a u (h.imk a u hu)
  imn := fun a u hu => by
    rcases k.imn a u hu with h1 | h1 | ⟨r, b1, h1, h2, h3, h4⟩
    · exact h.imn a u h1
    · exact .inr (.inl (Nat.le_trans h.size h1))
    · rcases h.loc r b1 h2 h3 with ⟨b0, g1, g2, g3⟩ | g1
      · exact .inr (.inr ⟨r, b0, h1, g1, g2, by rw [← g3]; exact h4⟩)
      · exact .inr (.inl (by rw [h4] at g1; exact g1))

theorem Fut.base {B B' : Nat} {σ σ' : Sg} {H H' : AH} {w w' : World} (h : Fut B σ H w σ' H' w') (hB : B' ≤ B) : Fut B' σ H w σ' H' w' :=
  { h with
    frame := fun k hk hr => h.frame k hk fun r blk h1 h2 => hr r blk (Nat.le_trans hB h1) h2
    pre := fun r hr => h.pre r (Nat.lt_of_lt_of_le hr hB)
    preσ := fun r hr hl => h.preσ r (Nat.lt_of_lt_of_le hr hB) hl
    imn := fun a u hu => by
      rcases h.imn a u hu with h1 | h1 | ⟨r, b1, h1, h2⟩
      · exact .inl h1
      · exact .inr (.inl h1)
      · exact .inr (.inr ⟨r, b1, Nat.le_trans hB h1, h2⟩) }

theorem VR.fut {B : Nat} {σ σ' : Sg} {H H' : AH} {w w' : World} {v d : Value} (h : VR σ H v d) (f : Fut B σ H w σ' H' w') : VR σ' H' v d := by
  induction h with
  | flat v h => exact .flat v h
  | mt a d ver hd => exact .mt a d ver hd
  | ptr r off ver blk h hv ho =>
    obtain ⟨b', h1, h2, h3⟩ := f.keep r blk h
    by_cases e : b'.ver = blk.ver
    · obtain ⟨e1, e2, e3⟩ := h3 e
      rw [← e1]
      exact .ptr r off ver b' h1 (e.trans hv) (e3.trans ho)
    · exact .sptr r off ver b' h1 (by omega) _
  | sptr r off ver blk h hv a =>
    obtain ⟨b', h1, h2, h3⟩ := f.keep r blk h
    exact .sptr r off ver b' h1 (by omega) a
  | slice r off len cap ver sp blk h hv ho hl hsp hm hc =>
    obtain ⟨b', h1, h2, h3⟩ := f.keep r blk h
    by_cases e : b'.ver = blk.ver
    · obtain ⟨e1, e2, e3⟩ := h3 e
      rw [← e1]
      exact .slice r off len cap ver sp b' h1 (e.trans hv) (e3.trans ho) hl hsp hm (by rw [e2, e1]; exact hc)
    · exact .stale r off len ver sp b' h1 (by omega) _ _ _
  | stale r off len ver sp blk h hv a l c =>
    obtain ⟨b', h1, h2, h3⟩ := f.keep r blk h
    exact .stale r off len ver sp b' h1 (by omega) a l c
  | agg xs ys hs h ih => exact .agg xs ys hs fun i h1 h2 => ih i h1 h2
  | tuple xs ys hs h ih => exact .tuple xs ys hs fun i h1 h2 => ih i h1 h2
  | func fn xs ys hs h ih => exact .func fn xs ys hs fun i h1 h2 => ih i h1 h2
  | isl b o len cap us cs hl hm hs him h ih => exact .isl b o len cap us cs hl hm hs (fun j hj => f.imk _ _ (him j hj)) fun i h1 h2 => ih i h1 h2
  | isl0 a cap hm => exact .isl0 a cap hm
  | ip b o us cs hs him h ih => exact .ip b o us cs hs (fun j hj => f.imk _ _ (him j hj)) fun i h1 h2 => ih i h1 h2

theorem ne_nil_of_get {α : Type} {l : List α} {j : Nat} {v : α} (h : l[j]? = some v) : l ≠ [] := by
  rintro rfl
  simp at h

theorem cell_lt {w : World} {a : Addr} {u : Value} (h : w.cell? a = some u) : a.block < w.heap.size := by
  unfold World.cell? at h
  cases hb : w.heap[a.block]? with
  | none => rw [hb] at h; cases h
  | some b => exact (Array.getElem?_eq_some_iff.1 hb).1

theorem Sim.lt {σ : Sg} {H : AH} {w : World} (h : Sim σ H w) {r : Nat} {blk : Blk} (hb : H[r]? = some blk) (ho : blk.own = true) : (σ r).b < w.heap.size := by
  obtain ⟨c, h1, _⟩ := h.own r blk hb ho
  exact (Array.getElem?_eq_some_iff.1 h1).1

theorem Sim.imlt {σ : Sg} {H : AH} {w : World} (h : Sim σ H w) {a : Addr} {u : Value} (ha : σ.im a = some u) : a.block < w.heap.size := cell_lt (h.im a u ha).1

/-- In a world in which nothing older has turned the relation stands. -/
theorem Sim.below {σ : Sg} {H : AH} {w w' : World} (h : Sim σ H w) (b : Below w.heap.size w w') : Sim σ H w' where
  own := fun r blk hb ho => by
    obtain ⟨c, h1, h2⟩ := h.own r blk hb ho
    exact ⟨c, by rw [b.block _ (h.lt hb ho)]; exact h1, h2⟩
  im := fun a u ha => by
    obtain ⟨h1, h2⟩ := h.im a u ha
    exact ⟨by rw [b.cell (p := a) (h.imlt ha)]; exact h1, h2⟩
  sep := h.sep
  inj := h.inj

theorem below_drewN' (w : World) : Below w.heap.size w w.drew := ⟨rfl, rfl, rfl, Nat.le_refl _, fun _ _ => rfl⟩

/-- Nothing but new blocks: the same heap of lists serves. -/
theorem Fut.forget {σ σ' : Sg} {H H' : AH} {w w' : World} (f : Fut H.length σ H w σ' H' w') : Below w.heap.size w w' :=
  ⟨f.os, f.tape, f.output, f.size, fun k hk => f.frame k hk fun r blk h1 h2 => by have := lt_of_some h2; omega⟩

theorem Fut.of_below {B : Nat} {σ : Sg} {H : AH} {w w' : World} (b : Below w.heap.size w w') : Fut B σ H w σ H w' :=
  ⟨b.os, b.tape, b.output, b.size, fun k hk _ => b.block k hk, fun _ _ => rfl, fun _ _ _ => rfl, fun r blk h => ⟨blk, h, Nat.le_refl _, fun _ => ⟨rfl, rfl, rfl⟩⟩, fun r blk h ho => .inl ⟨blk, h, ho, rfl⟩, fun _ _ h => h, fun _ _ h => .inl h⟩

/-! A cell of a block, as it stands in memory. -/
def getB (H : AH) (r ver : Nat) : Option (List Value) :=
  match H[r]? with
  | some blk => if blk.ver = ver ∧ blk.own = true then some blk.cs else none
  | none => none

theorem getB_some {H : AH} {r ver : Nat} {cs : List Value} (h : getB H r ver = some cs) : ∃ blk, H[r]? = some blk ∧ blk.ver = ver ∧ blk.cs = cs ∧ blk.own = true := by
  unfold getB at h
  cases hb : H[r]? with
  | none => rw [hb] at h; cases h
  | some blk =>
    rw [hb] at h
    dsimp only at h
    by_cases hv : blk.ver = ver ∧ blk.own = true
    · rw [if_pos hv] at h; cases h; exact ⟨blk, rfl, hv.1, rfl, hv.2⟩
    · rw [if_neg hv] at h; cases h

theorem Sim.cell {σ : Sg} {H : AH} {w : World} (h : Sim σ H w) {r : Nat} {blk : Blk} (hb : H[r]? = some blk) (ho : blk.own = true) {j : Nat} {v : Value} (hj : blk.cs[j]? = some v) :
    ∃ u, w.cell? ⟨(σ r).b, (σ r).base + j, none⟩ = some u ∧ VR σ H u v ∧ u.oneCell' = true := by
  obtain ⟨c, h1, h2, h3, h4, h5⟩ := h.own r blk hb ho
  obtain ⟨u, hu, hvr, h1c⟩ := h5 j v hj
  refine ⟨u, ?_, hvr, h1c⟩
  simp only [World.cell?, h1, h2, Nat.zero_add]
  simpa using hu

/-- A run of cells: what stands in memory for a list of them. -/
theorem Sim.cells {σ : Sg} {H : AH} {w : World} (h : Sim σ H w) {r : Nat} {blk : Blk} (hb : H[r]? = some blk) (ho : blk.own = true) (off n : Nat) (hn : off + n ≤ blk.cs.length) :
    ∃ us : List Value, us.length = n ∧ (∀ (j : Nat) u, us[j]? = some u → w.cell? ⟨(σ r).b, (σ r).base + off + j, none⟩ = some u ∧ u.oneCell' = true) ∧
      (∀ (j : Nat) (h1 : j < us.length) (h2 : j < ((blk.cs.drop off).take n).length), VR σ H us[j] ((blk.cs.drop off).take n)[j]) := by
  induction n with
  | zero => exact ⟨[], rfl, fun j u hu => by simp at hu, fun j h1 _ => absurd h1 (Nat.not_lt_zero _)⟩
  | succ n ih =>
    obtain ⟨us, hl, hc, hv⟩ := ih (by omega)
    obtain ⟨u, hu, huv, h1c⟩ := h.cell hb ho (j := off + n) (v := blk.cs[off + n]'(by omega)) (List.getElem?_eq_getElem (by omega))
    refine ⟨us ++ [u], by simp [hl], fun j x hx => ?_, fun j h1 h2 => ?_⟩
    · rcases Nat.lt_or_ge j us.length with hj | hj
      · rw [List.getElem?_append_left hj] at hx; exact hc j x hx
      · rw [List.getElem?_append_right hj] at hx
        have hj0 : j - us.length = 0 := by
          rcases Nat.eq_zero_or_pos (j - us.length) with h0 | h0
          · exact h0
          · rw [List.getElem?_eq_none (by simp; omega)] at hx; cases hx
        rw [hj0] at hx
        simp at hx
        subst hx
        have : j = n := by omega
        subst this
        rw [Nat.add_assoc]
        exact ⟨hu, h1c⟩
    · rcases Nat.lt_or_ge j us.length with hj | hj
      · have := hv j hj (by simp at h2 ⊢; omega)
        simp only [List.getElem_append_left hj, List.getElem_take, List.getElem_drop] at this ⊢
        exact this
      · have hjn : j = n := by simp at h1; omega
        subst hjn
        have hul : us.length = j := hl
        simp only [List.getElem_append_right hj, List.getElem_take, List.getElem_drop, hul, Nat.sub_self, List.getElem_cons_zero]
        exact huv

/-! ### Values that are only read -/
/-- The cells of a slice that is only read. -/
def asI : Value → Option (Nat × List Value)
  | .func _ fst cs => (match fst.toList with | [.int _ n] => some (n.toNat, cs.toList) | _ => none)
  | _ => none
def asP : Value → Option (List Value)
  | .func _ fst cs => (match fst.toList with | [.bool _] => some cs.toList | _ => none)
  | _ => none
theorem asI_isl (len : Nat) (cs : List Value) : asI (isl len cs) = some (len, cs) := by simp [asI, isl]
theorem asP_ip (cs : List Value) : asP (ip cs) = some cs := by simp [asP, ip]

theorem VR.aslice {σ : Sg} {H : AH} {v d : Value} (h : VR σ H v d) {len : Nat} {cs : List Value} (hd : asI d = some (len, cs)) :
    (len = 0 ∧ cs = [] ∧ ∃ a cap, v = .slice a 0 cap ∧ cap ≤ maxLen) ∨
    ∃ (b o cap : Nat) (us : List Value), v = .slice (some ⟨b, o, none⟩) len cap ∧ len ≤ cap ∧ cap ≤ maxLen ∧ us.length = cs.length ∧ (∀ (j : Nat) u, us[j]? = some u → σ.im ⟨b, o + j, none⟩ = some u) ∧
      ∀ (j : Nat) u, cs[j]? = some u → ∃ x, us[j]? = some x ∧ VR σ H x u := by
  cases h with
  | flat _ h => exfalso; cases v <;> first | (simp [asI] at hd; done) | (simp [flatV] at h; done)
  | func fn xs ys hs h => simp [asI] at hd
  | isl b o len cap us cs' hl hm hs him h =>
    simp [asI] at hd
    obtain ⟨rfl, rfl⟩ := hd
    refine .inr ⟨b, o, cap, us.toList, rfl, hl, hm, by simpa using hs, fun j u hu => ?_, fun j u hu => ?_⟩
    · simp only [Array.getElem?_toList] at hu
      obtain ⟨hj, rfl⟩ := Array.getElem?_eq_some_iff.1 hu
      exact him j hj
    · simp only [Array.getElem?_toList] at hu
      obtain ⟨hj, rfl⟩ := Array.getElem?_eq_some_iff.1 hu
      exact ⟨us[j]'(by omega), by simp, h j (by omega) hj⟩
  | isl0 a cap hm => simp [asI] at hd; exact .inl ⟨by omega, hd.2, a, cap, rfl, hm⟩
  | ip => simp [asI] at hd
  | _ => simp [asI] at hd

theorem VR.aptr {σ : Sg} {H : AH} {v d : Value} (h : VR σ H v d) {cs : List Value} (hd : asP d = some cs) :
    ∃ (b o : Nat) (us : List Value), v = .pointer (some ⟨b, o, none⟩) ∧ us.length = cs.length ∧ (∀ (j : Nat) u, us[j]? = some u → σ.im ⟨b, o + j, none⟩ = some u) ∧
      ∀ (j : Nat) u, cs[j]? = some u → ∃ x, us[j]? = some x ∧ VR σ H x u := by
  cases h with
  | flat _ h => exfalso; cases v <;> first | (simp [asP] at hd; done) | (simp [flatV] at h; done)
  | func fn xs ys hs h => simp [asP] at hd
  | isl => simp [asP] at hd
  | isl0 => simp [asP] at hd
  | ip b o us cs' hs him h =>
    simp [asP] at hd
    subst hd
    refine ⟨b, o, us.toList, rfl, by simpa using hs, fun j u hu => ?_, fun j u hu => ?_⟩
    · simp only [Array.getElem?_toList] at hu
      obtain ⟨hj, rfl⟩ := Array.getElem?_eq_some_iff.1 hu
      exact him j hj
    · simp only [Array.getElem?_toList] at hu
      obtain ⟨hj, rfl⟩ := Array.getElem?_eq_some_iff.1 hu
      exact ⟨us[j]'(by omega), by simp, h j (by omega) hj⟩
  | _ => simp [asP] at hd

theorem VR.mkI {σ : Sg} {H : AH} {b o len cap : Nat} {us cs : List Value} (hl : len ≤ cap) (hm : cap ≤ maxLen) (hs : us.length = cs.length) (him : ∀ (j : Nat) u, us[j]? = some u → σ.im ⟨b, o + j, none⟩ = some u)
    (h : ∀ (j : Nat) u, cs[j]? = some u → ∃ x, us[j]? = some x ∧ VR σ H x u) : VR σ H (.slice (some ⟨b, o, none⟩) len cap) (BM.isl len cs) :=
  .isl b o len cap us.toArray cs.toArray hl hm (by simpa using hs) (fun j hj => him j _ (by simp)) fun i h1 h2 => by
    obtain ⟨x, hx, hv⟩ := h i (cs.toArray[i]) (by simp)
    have : us.toArray[i] = x := by
      obtain ⟨h3, h4⟩ := List.getElem?_eq_some_iff.1 hx
      simpa using h4
    rw [this]; exact hv
theorem VR.mkP {σ : Sg} {H : AH} {b o : Nat} {us cs : List Value} (hs : us.length = cs.length) (him : ∀ (j : Nat) u, us[j]? = some u → σ.im ⟨b, o + j, none⟩ = some u)
    (h : ∀ (j : Nat) u, cs[j]? = some u → ∃ x, us[j]? = some x ∧ VR σ H x u) : VR σ H (.pointer (some ⟨b, o, none⟩)) (BM.ip cs) :=
  .ip b o us.toArray cs.toArray (by simpa using hs) (fun j hj => him j _ (by simp)) fun i h1 h2 => by
    obtain ⟨x, hx, hv⟩ := h i (cs.toArray[i]) (by simp)
    have : us.toArray[i] = x := by
      obtain ⟨h3, h4⟩ := List.getElem?_eq_some_iff.1 hx
      simpa using h4
    rw [this]; exact hv
end Go.BM
