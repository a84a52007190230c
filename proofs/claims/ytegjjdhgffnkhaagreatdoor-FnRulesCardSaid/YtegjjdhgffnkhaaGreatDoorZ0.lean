/- Packed: C9. -/
import Derived.Below
import Derived.OwnWalk
import Derived.WalkKit
import Derived.Laws.AppendOwn
import Derived.Laws.Tables
import Derived.Laws.IdiomCopy
import Derived.Great.BuildSlice
import Derived.Lib.QuietBelow
import Derived.OrdersHeld
import Derived.RowKit3
import Derived.Laws.BytesString
import Derived.Deep.AppendSrc
import Derived.Laws.MakeOwn
import Derived.Lib.SliceRun
import Derived.Laws.Cover3
import Derived.Deep.LoopGhost
/- The engine: texts C0, C1, C2, C3, C4, C5, C6, C7, C8, C9. -/
/- The heap of a call told by lists: blocks that are ours, and memory that stays as it is. -/
set_option linter.unusedVariables false
set_option linter.unusedSimpArgs false
namespace Go.BM
open Go.RowKit

structure Blk where
  el : TypeId
  sz : Nat
  cs : List Value
  ver : Nat
  own : Bool

abbrev AH := List Blk

/-- Where a block lies: the row, its start, how many cells; cv: it came of a text (its row bears the mark of such a row, behind its end). -/
structure Loc where
  b : Nat
  base : Nat
  n : Nat
  cv : Bool
/-- The mark of a row. -/
def Loc.fz (L : Loc) : Nat × Nat := cond L.cv (L.n, L.n + 1) (0, 0)
theorem Loc.fz_free (L : Loc) {j : Nat} (h : j < L.n) : ¬ (L.fz.1 ≤ j ∧ j < L.fz.2) := by
  unfold Loc.fz
  cases L.cv <;> simp <;> omega

/-- Where our blocks lie, and what is known of memory that stays. -/
structure Sg where
  loc : Nat → Loc
  im : Addr → Option Value
instance : CoeFun Sg (fun _ => Nat → Loc) := ⟨Sg.loc⟩

def Sg.upd (σ : Sg) (r : Nat) (L : Loc) : Sg := ⟨fun q => if q = r then L else σ.loc q, σ.im⟩
theorem Sg.upd_at (σ : Sg) (r : Nat) (L : Loc) (q : Nat) : (σ.upd r L) q = if q = r then L else σ q := rfl
theorem Sg.upd_im (σ : Sg) (r : Nat) (L : Loc) : (σ.upd r L).im = σ.im := rfl

abbrev Env := Nat → Value

def flatV : Value → Bool
  | .bool _ | .int .. | .string _ | .nilFunc | .nilIface | .pointer none => true
  | .tuple cs => cs.size == 0
  | .iface _ v => (match v with | .int .. | .string _ | .bool _ => true | _ => false)
  | _ => false

/-- A slice that is only read: its length and its cells. -/
def isl (len : Nat) (cs : List Value) : Value := .func (.func 0) #[.int .i64 len] cs.toArray
/-- A place that is only read: its cell and those behind it. -/
def ip (cs : List Value) : Value := .func (.func 0) #[.bool true] cs.toArray

inductive VR (σ : Sg) (H : AH) : Value → Value → Prop
  | flat (v : Value) (h : flatV v = true) : VR σ H v v
  | mt (a d : Option Addr) (ver : Nat) (hd : ∀ x, d = some x → x.spot.getD 0 = 0) : VR σ H (.slice a 0 0) (.slice d 0 ver)
  | ptr (r off ver : Nat) (blk : Blk) (h : H[r]? = some blk) (hv : blk.ver = ver) (ho : blk.own = true) :
      VR σ H (.pointer (some ⟨(σ r).b, (σ r).base + off, none⟩)) (.pointer (some ⟨r, off, some ver⟩))
  | sptr (r off ver : Nat) (blk : Blk) (h : H[r]? = some blk) (hv : ver < blk.ver) (a : Option Addr) :
      VR σ H (.pointer a) (.pointer (some ⟨r, off, some ver⟩))
  | slice (r off len cap ver : Nat) (sp : Option Nat) (blk : Blk) (h : H[r]? = some blk) (hv : blk.ver = ver) (ho : blk.own = true) (hl : len ≤ cap) (hsp : sp.getD len ≤ cap) (hm : cap ≤ maxLen)
      (hc : off + cap * blk.sz ≤ (σ r).n) :
      VR σ H (.slice (some ⟨(σ r).b, (σ r).base + off, none⟩) len cap) (.slice (some ⟨r, off, sp⟩) len ver)
  | stale (r off len ver : Nat) (sp : Option Nat) (blk : Blk) (h : H[r]? = some blk) (hv : ver < blk.ver) (a : Option Addr) (l c : Nat) :
      VR σ H (.slice a l c) (.slice (some ⟨r, off, sp⟩) len ver)
  | agg (xs ys : Array Value) (hs : xs.size = ys.size) (h : ∀ i (h1 : i < xs.size) (h2 : i < ys.size), VR σ H xs[i] ys[i]) : VR σ H (.agg xs) (.agg ys)
  | tuple (xs ys : Array Value) (hs : xs.size = ys.size) (h : ∀ i (h1 : i < xs.size) (h2 : i < ys.size), VR σ H xs[i] ys[i]) : VR σ H (.tuple xs) (.tuple ys)
  | func (fn : Fn) (xs ys : Array Value) (hs : xs.size = ys.size) (h : ∀ i (h1 : i < xs.size) (h2 : i < ys.size), VR σ H xs[i] ys[i]) : VR σ H (.func fn #[] xs) (.func fn #[] ys)
  | isl (b o len cap : Nat) (us cs : Array Value) (hl : len ≤ cap) (hm : cap ≤ maxLen) (hs : us.size = cs.size)
      (him : ∀ j (hj : j < us.size), σ.im ⟨b, o + j, none⟩ = some us[j]) (h : ∀ i (h1 : i < us.size) (h2 : i < cs.size), VR σ H us[i] cs[i]) :
      VR σ H (.slice (some ⟨b, o, none⟩) len cap) (.func (.func 0) #[.int .i64 len] cs)
  | isl0 (a : Option Addr) (cap : Nat) (hm : cap ≤ maxLen) : VR σ H (.slice a 0 cap) (.func (.func 0) #[.int .i64 0] #[])
  | ip (b o : Nat) (us cs : Array Value) (hs : us.size = cs.size)
      (him : ∀ j (hj : j < us.size), σ.im ⟨b, o + j, none⟩ = some us[j]) (h : ∀ i (h1 : i < us.size) (h2 : i < cs.size), VR σ H us[i] cs[i]) :
      VR σ H (.pointer (some ⟨b, o, none⟩)) (.func (.func 0) #[.bool true] cs)

/-- What is known of memory that the program's own start has laid (a seat may say more here: bld.py, GIFILE). -/
def powG : Nat := 3
def pow10V : Array Value := ((List.range 20).map fun i => Value.int .u64 ((10 ^ i : Nat) : Int)).toArray
def GI (im : Addr → Option Value) (w : World) : Prop :=
  (∃ m : Int, im ⟨0, 0, none⟩ = some (.int .i64 m)) ∧
  (∃ tp p, im ⟨1, 0, none⟩ = some (.iface tp p) ∧ ∃ ty mk, w.heap[1]? = some (.cells #[.iface tp p] ty mk)) ∧
  (∃ tp p, im ⟨2, 0, none⟩ = some (.iface tp p) ∧ ∃ ty mk, w.heap[2]? = some (.cells #[.iface tp p] ty mk)) ∧
  (∃ u, im ⟨powG, 0, none⟩ = some u ∧ ∃ ty mk, w.heap[powG]? = some (.cells pow10V ty mk))
theorem GI.keep {im im' : Addr → Option Value} {w w' : World} (h : GI im w) (hk : ∀ a u, im a = some u → im' a = some u) (hw : ∀ a u, im a = some u → w'.heap[a.block]? = w.heap[a.block]?) : GI im' w' := by
  obtain ⟨⟨m, h0⟩, ⟨t1, p1, h1, a1, b1, c1⟩, ⟨t2, p2, h2, a2, b2, c2⟩, ⟨u, h5, a5, b5, c5⟩⟩ := h
  exact ⟨⟨m, hk _ _ h0⟩, ⟨t1, p1, hk _ _ h1, a1, b1, (hw _ _ h1).trans c1⟩, ⟨t2, p2, hk _ _ h2, a2, b2, (hw _ _ h2).trans c2⟩, ⟨u, hk _ _ h5, a5, b5, (hw _ _ h5).trans c5⟩⟩


structure Sim (σ : Sg) (H : AH) (w : World) : Prop where
  own : ∀ r blk, H[r]? = some blk → blk.own = true → ∃ c : Array Value, w.heap[(σ r).b]? = some (.cells c blk.el (σ r).fz) ∧ (σ r).base = 0 ∧ c.size = (σ r).n ∧
    blk.cs.length ≤ c.size ∧ ∀ (j : Nat) v, blk.cs[j]? = some v → ∃ u, c[j]? = some u ∧ VR σ H u v ∧ u.oneCell' = true
  im : ∀ a u, σ.im a = some u → w.cell? a = some u ∧ a.spot = none ∧ u.oneCell' = true
  sep : ∀ a u, σ.im a = some u → ∀ r blk, H[r]? = some blk → blk.own = true → (σ r).b ≠ a.block
  inj : ∀ r r' blk blk', H[r]? = some blk → H[r']? = some blk' → r ≠ r' → blk.own = true → blk'.own = true → (σ r).b ≠ (σ r').b
  glob : GI σ.im w

structure Fut (B : Nat) (σ : Sg) (H : AH) (w : World) (σ' : Sg) (H' : AH) (w' : World) : Prop where
  os : w'.os = w.os
  tape : w'.tape = w.tape
  output : w'.output = w.output
  size : w.heap.size ≤ w'.heap.size
  frame : ∀ k, k < w.heap.size → (∀ r blk, B ≤ r → H[r]? = some blk → blk.own = true → (σ r).b ≠ k) → w'.heap[k]? = w.heap[k]?
  pre : ∀ r, r < B → H'[r]? = H[r]?
  preσ : ∀ r, r < B → r < H.length → σ' r = σ r
  keep : ∀ r blk, H[r]? = some blk → ∃ blk', H'[r]? = some blk' ∧ blk.ver ≤ blk'.ver ∧ (blk'.ver = blk.ver → σ' r = σ r ∧ blk'.sz = blk.sz ∧ blk'.own = blk.own)
  loc : ∀ r blk', H'[r]? = some blk' → blk'.own = true → (∃ blk, H[r]? = some blk ∧ blk.own = true ∧ σ' r = σ r) ∨ w.heap.size ≤ (σ' r).b
  imk : ∀ a u, σ.im a = some u → σ'.im a = some u
  imn : ∀ a u, σ'.im a = some u → σ.im a = some u ∨ w.heap.size ≤ a.block ∨ ∃ r blk, B ≤ r ∧ H[r]? = some blk ∧ blk.own = true ∧ (σ r).b = a.block

theorem lt_of_some {H : AH} {r : Nat} {blk : Blk} (h : H[r]? = some blk) : r < H.length := by
  rcases Nat.lt_or_ge r H.length with h' | h'
  · exact h'
  · rw [List.getElem?_eq_none h'] at h; cases h

theorem Fut.refl (B : Nat) (σ : Sg) (H : AH) (w : World) : Fut B σ H w σ H w :=
  ⟨rfl, rfl, rfl, Nat.le_refl _, fun _ _ _ => rfl, fun _ _ => rfl, fun _ _ _ => rfl, fun r blk h => ⟨blk, h, Nat.le_refl _, fun _ => ⟨rfl, rfl, rfl⟩⟩, fun r blk h ho => .inl ⟨blk, h, ho, rfl⟩, fun _ _ h => h, fun _ _ h => .inl h⟩

theorem Fut.len {B : Nat} {σ σ' : Sg} {H H' : AH} {w w' : World} (h : Fut B σ H w σ' H' w') : H.length ≤ H'.length := by
  rcases Nat.lt_or_ge H'.length H.length with h' | h'
  · obtain ⟨b, hb, _⟩ := h.keep H'.length _ (List.getElem?_eq_getElem h')
    have := lt_of_some hb
    omega
  · exact h'

theorem Fut.trans {B : Nat} {σ σ1 σ2 : Sg} {H H1 H2 : AH} {w w1 w2 : World} (h : Fut B σ H w σ1 H1 w1) (k : Fut B σ1 H1 w1 σ2 H2 w2) : Fut B σ H w σ2 H2 w2 where
  os := k.os.trans h.os
  tape := k.tape.trans h.tape
  output := k.output.trans h.output
  size := Nat.le_trans h.size k.size
  frame := fun x hx hr => by
    have h1 := h.frame x hx hr
    rw [← h1]
    refine k.frame x (Nat.lt_of_lt_of_le hx h.size) fun r blk hB hr1 ho => ?_
    rcases h.loc r blk hr1 ho with ⟨b0, h2, h3, h4⟩ | h2
    · rw [h4]; exact hr r b0 hB h2 h3
    · omega
  pre := fun r hr => (k.pre r hr).trans (h.pre r hr)
  preσ := fun r hr hl => (k.preσ r hr (Nat.lt_of_lt_of_le hl h.len)).trans (h.preσ r hr hl)
  keep := fun r blk hb => by
    obtain ⟨b1, h1, h2, h3⟩ := h.keep r blk hb
    obtain ⟨b2, k1, k2, k3⟩ := k.keep r b1 h1
    refine ⟨b2, k1, Nat.le_trans h2 k2, fun e => ?_⟩
    have e1 : b1.ver = blk.ver := by omega
    have e2 : b2.ver = b1.ver := by omega
    obtain ⟨a1, a2, a3⟩ := h3 e1
    obtain ⟨c1, c2, c3⟩ := k3 e2
    exact ⟨c1.trans a1, c2.trans a2, c3.trans a3⟩
  loc := fun r blk' hr ho => by
    rcases k.loc r blk' hr ho with ⟨b1, h1, ho1, h2⟩ | h1
    · rcases h.loc r b1 h1 ho1 with ⟨b0, h3, h4, h5⟩ | h3
      · exact .inl ⟨b0, h3, h4, h2.trans h5⟩
      · exact .inr (by rw [h2]; exact h3)
    · exact .inr (Nat.le_trans h.size h1)
  imk := fun a u hu => k.imk a u (h.imk a u hu)
  imn := fun a u hu => by
    rcases k.imn a u hu with h1 | h1 | ⟨r, b1, h1, h2, h3, h4⟩
    · exact h.imn a u h1
    · exact .inr (.inl (Nat.le_trans h.size h1))
    · rcases h.loc r b1 h2 h3 with ⟨b0, g1, g2, g3⟩ | g1
      · exact .inr (.inr ⟨r, b0, h1, g1, g2, by rw [← g3]; exact h4⟩)
      · exact .inr (.inl (by rw [h4] at g1; exact g1))

theorem Fut.base {B B' : Nat} {σ σ' : Sg} {H H' : AH} {w w' : World} (h : Fut B σ H w σ' H' w') (hB : B' ≤ B) : Fut B' σ H w σ' H' w' :=
  { h with
    frame := fun k hk hr => h.frame k hk fun r blk h1 h2 => hr r blk (Nat.le_trans hB h1) h2
    pre := fun r hr => h.pre r (Nat.lt_of_lt_of_le hr hB)
    preσ := fun r hr hl => h.preσ r (Nat.lt_of_lt_of_le hr hB) hl
    imn := fun a u hu => by
      rcases h.imn a u hu with h1 | h1 | ⟨r, b1, h1, h2⟩
      · exact .inl h1
      · exact .inr (.inl h1)
      · exact .inr (.inr ⟨r, b1, Nat.le_trans hB h1, h2⟩) }

theorem VR.fut {B : Nat} {σ σ' : Sg} {H H' : AH} {w w' : World} {v d : Value} (h : VR σ H v d) (f : Fut B σ H w σ' H' w') : VR σ' H' v d := by
  induction h with
  | flat v h => exact .flat v h
  | mt a d ver hd => exact .mt a d ver hd
  | ptr r off ver blk h hv ho =>
    obtain ⟨b', h1, h2, h3⟩ := f.keep r blk h
    by_cases e : b'.ver = blk.ver
    · obtain ⟨e1, e2, e3⟩ := h3 e
      rw [← e1]
      exact .ptr r off ver b' h1 (e.trans hv) (e3.trans ho)
    · exact .sptr r off ver b' h1 (by omega) _
  | sptr r off ver blk h hv a =>
    obtain ⟨b', h1, h2, h3⟩ := f.keep r blk h
    exact .sptr r off ver b' h1 (by omega) a
  | slice r off len cap ver sp blk h hv ho hl hsp hm hc =>
    obtain ⟨b', h1, h2, h3⟩ := f.keep r blk h
    by_cases e : b'.ver = blk.ver
    · obtain ⟨e1, e2, e3⟩ := h3 e
      rw [← e1]
      exact .slice r off len cap ver sp b' h1 (e.trans hv) (e3.trans ho) hl hsp hm (by rw [e2, e1]; exact hc)
    · exact .stale r off len ver sp b' h1 (by omega) _ _ _
  | stale r off len ver sp blk h hv a l c =>
    obtain ⟨b', h1, h2, h3⟩ := f.keep r blk h
    exact .stale r off len ver sp b' h1 (by omega) a l c
  | agg xs ys hs h ih => exact .agg xs ys hs fun i h1 h2 => ih i h1 h2
  | tuple xs ys hs h ih => exact .tuple xs ys hs fun i h1 h2 => ih i h1 h2
  | func fn xs ys hs h ih => exact .func fn xs ys hs fun i h1 h2 => ih i h1 h2
  | isl b o len cap us cs hl hm hs him h ih => exact .isl b o len cap us cs hl hm hs (fun j hj => f.imk _ _ (him j hj)) fun i h1 h2 => ih i h1 h2
  | isl0 a cap hm => exact .isl0 a cap hm
  | ip b o us cs hs him h ih => exact .ip b o us cs hs (fun j hj => f.imk _ _ (him j hj)) fun i h1 h2 => ih i h1 h2

theorem cell_lt {w : World} {a : Addr} {u : Value} (h : w.cell? a = some u) : a.block < w.heap.size := by
  unfold World.cell? at h
  cases hb : w.heap[a.block]? with
  | none => rw [hb] at h; cases h
  | some b => exact (Array.getElem?_eq_some_iff.1 hb).1

theorem Sim.lt {σ : Sg} {H : AH} {w : World} (h : Sim σ H w) {r : Nat} {blk : Blk} (hb : H[r]? = some blk) (ho : blk.own = true) : (σ r).b < w.heap.size := by
  obtain ⟨c, h1, _⟩ := h.own r blk hb ho
  exact (Array.getElem?_eq_some_iff.1 h1).1

theorem Sim.imlt {σ : Sg} {H : AH} {w : World} (h : Sim σ H w) {a : Addr} {u : Value} (ha : σ.im a = some u) : a.block < w.heap.size := cell_lt (h.im a u ha).1

/-- In a world in which nothing older has turned the relation stands. -/
theorem Sim.below {σ : Sg} {H : AH} {w w' : World} (h : Sim σ H w) (b : Below w.heap.size w w') : Sim σ H w' where
  own := fun r blk hb ho => by
    obtain ⟨c, h1, h2⟩ := h.own r blk hb ho
    exact ⟨c, by rw [b.block _ (h.lt hb ho)]; exact h1, h2⟩
  im := fun a u ha => by
    obtain ⟨h1, h2⟩ := h.im a u ha
    exact ⟨by rw [b.cell (p := a) (h.imlt ha)]; exact h1, h2⟩
  sep := h.sep
  inj := h.inj
  glob := h.glob.keep (fun _ _ h => h) fun a u ha => b.block _ (h.imlt ha)

theorem below_drewN' (w : World) : Below w.heap.size w w.drew := ⟨rfl, rfl, rfl, Nat.le_refl _, fun _ _ => rfl⟩

/-- Nothing but new blocks: the same heap of lists serves. -/
theorem Fut.forget {σ σ' : Sg} {H H' : AH} {w w' : World} (f : Fut H.length σ H w σ' H' w') : Below w.heap.size w w' :=
  ⟨f.os, f.tape, f.output, f.size, fun k hk => f.frame k hk fun r blk h1 h2 => by have := lt_of_some h2; omega⟩

theorem Fut.glob {B : Nat} {σ σ' : Sg} {H H' : AH} {w w' : World} (F : Fut B σ H w σ' H' w') (hS : Sim σ H w) : GI σ'.im w' :=
  hS.glob.keep F.imk fun a u ha => F.frame a.block (hS.imlt ha) fun r blk _ hb ho => hS.sep a u ha r blk hb ho

theorem Fut.of_below {B : Nat} {σ : Sg} {H : AH} {w w' : World} (b : Below w.heap.size w w') : Fut B σ H w σ H w' :=
  ⟨b.os, b.tape, b.output, b.size, fun k hk _ => b.block k hk, fun _ _ => rfl, fun _ _ _ => rfl, fun r blk h => ⟨blk, h, Nat.le_refl _, fun _ => ⟨rfl, rfl, rfl⟩⟩, fun r blk h ho => .inl ⟨blk, h, ho, rfl⟩, fun _ _ h => h, fun _ _ h => .inl h⟩

/-! A cell of a block, as it stands in memory. -/
def getB (H : AH) (r ver : Nat) : Option (List Value) :=
  match H[r]? with
  | some blk => if blk.ver = ver ∧ blk.own = true then some blk.cs else none
  | none => none

theorem getB_some {H : AH} {r ver : Nat} {cs : List Value} (h : getB H r ver = some cs) : ∃ blk, H[r]? = some blk ∧ blk.ver = ver ∧ blk.cs = cs ∧ blk.own = true := by
  unfold getB at h
  cases hb : H[r]? with
  | none => rw [hb] at h; cases h
  | some blk =>
    rw [hb] at h
    dsimp only at h
    by_cases hv : blk.ver = ver ∧ blk.own = true
    · rw [if_pos hv] at h; cases h; exact ⟨blk, rfl, hv.1, rfl, hv.2⟩
    · rw [if_neg hv] at h; cases h

theorem Sim.cell {σ : Sg} {H : AH} {w : World} (h : Sim σ H w) {r : Nat} {blk : Blk} (hb : H[r]? = some blk) (ho : blk.own = true) {j : Nat} {v : Value} (hj : blk.cs[j]? = some v) :
    ∃ u, w.cell? ⟨(σ r).b, (σ r).base + j, none⟩ = some u ∧ VR σ H u v ∧ u.oneCell' = true := by
  obtain ⟨c, h1, h2, h3, h4, h5⟩ := h.own r blk hb ho
  obtain ⟨u, hu, hvr, h1c⟩ := h5 j v hj
  refine ⟨u, ?_, hvr, h1c⟩
  simp only [World.cell?, h1, h2, Nat.zero_add]
  simpa using hu

/-- A run of cells: what stands in memory for a list of them. -/
theorem Sim.cells {σ : Sg} {H : AH} {w : World} (h : Sim σ H w) {r : Nat} {blk : Blk} (hb : H[r]? = some blk) (ho : blk.own = true) (off n : Nat) (hn : off + n ≤ blk.cs.length) :
    ∃ us : List Value, us.length = n ∧ (∀ (j : Nat) u, us[j]? = some u → w.cell? ⟨(σ r).b, (σ r).base + off + j, none⟩ = some u ∧ u.oneCell' = true) ∧
      (∀ (j : Nat) (h1 : j < us.length) (h2 : j < ((blk.cs.drop off).take n).length), VR σ H us[j] ((blk.cs.drop off).take n)[j]) := by
  induction n with
  | zero => exact ⟨[], rfl, fun j u hu => by simp at hu, fun j h1 _ => absurd h1 (Nat.not_lt_zero _)⟩
  | succ n ih =>
    obtain ⟨us, hl, hc, hv⟩ := ih (by omega)
    obtain ⟨u, hu, huv, h1c⟩ := h.cell hb ho (j := off + n) (v := blk.cs[off + n]'(by omega)) (List.getElem?_eq_getElem (by omega))
    refine ⟨us ++ [u], by simp [hl], fun j x hx => ?_, fun j h1 h2 => ?_⟩
    · rcases Nat.lt_or_ge j us.length with hj | hj
      · rw [List.getElem?_append_left hj] at hx; exact hc j x hx
      · rw [List.getElem?_append_right hj] at hx
        have hj0 : j - us.length = 0 := by
          rcases Nat.eq_zero_or_pos (j - us.length) with h0 | h0
          · exact h0
          · rw [List.getElem?_eq_none (by simp; omega)] at hx; cases hx
        rw [hj0] at hx
        simp at hx
        subst hx
        have : j = n := by omega
        subst this
        rw [Nat.add_assoc]
        exact ⟨hu, h1c⟩
    · rcases Nat.lt_or_ge j us.length with hj | hj
      · have := hv j hj (by simp at h2 ⊢; omega)
        simp only [List.getElem_append_left hj, List.getElem_take, List.getElem_drop] at this ⊢
        exact this
      · have hjn : j = n := by simp at h1; omega
        subst hjn
        have hul : us.length = j := hl
        simp only [List.getElem_append_right hj, List.getElem_take, List.getElem_drop, hul, Nat.sub_self, List.getElem_cons_zero]
        exact huv

/-! ### Values that are only read -/
/-- The cells of a slice that is only read. -/
def asI : Value → Option (Nat × List Value)
  | .func _ fst cs => (match fst.toList with | [.int _ n] => some (n.toNat, cs.toList) | _ => none)
  | _ => none
def asP : Value → Option (List Value)
  | .func _ fst cs => (match fst.toList with | [.bool _] => some cs.toList | _ => none)
  | _ => none
theorem asI_isl (len : Nat) (cs : List Value) : asI (isl len cs) = some (len, cs) := by simp [asI, isl]
theorem asP_ip (cs : List Value) : asP (ip cs) = some cs := by simp [asP, ip]

theorem VR.aslice {σ : Sg} {H : AH} {v d : Value} (h : VR σ H v d) {len : Nat} {cs : List Value} (hd : asI d = some (len, cs)) :
    (len = 0 ∧ cs = [] ∧ ∃ a cap, v = .slice a 0 cap ∧ cap ≤ maxLen) ∨
    ∃ (b o cap : Nat) (us : List Value), v = .slice (some ⟨b, o, none⟩) len cap ∧ len ≤ cap ∧ cap ≤ maxLen ∧ us.length = cs.length ∧ (∀ (j : Nat) u, us[j]? = some u → σ.im ⟨b, o + j, none⟩ = some u) ∧
      ∀ (j : Nat) u, cs[j]? = some u → ∃ x, us[j]? = some x ∧ VR σ H x u := by
  cases h with
  | flat _ h => exfalso; cases v <;> first | (simp [asI] at hd; done) | (simp [flatV] at h; done)
  | func fn xs ys hs h => simp [asI] at hd
  | isl b o len cap us cs' hl hm hs him h =>
    simp [asI] at hd
    obtain ⟨rfl, rfl⟩ := hd
    refine .inr ⟨b, o, cap, us.toList, rfl, hl, hm, by simpa using hs, fun j u hu => ?_, fun j u hu => ?_⟩
    · simp only [Array.getElem?_toList] at hu
      obtain ⟨hj, rfl⟩ := Array.getElem?_eq_some_iff.1 hu
      exact him j hj
    · simp only [Array.getElem?_toList] at hu
      obtain ⟨hj, rfl⟩ := Array.getElem?_eq_some_iff.1 hu
      exact ⟨us[j]'(by omega), by simp, h j (by omega) hj⟩
  | isl0 a cap hm => simp [asI] at hd; exact .inl ⟨by omega, hd.2, a, cap, rfl, hm⟩
  | ip => simp [asI] at hd
  | _ => simp [asI] at hd

theorem VR.aptr {σ : Sg} {H : AH} {v d : Value} (h : VR σ H v d) {cs : List Value} (hd : asP d = some cs) :
    ∃ (b o : Nat) (us : List Value), v = .pointer (some ⟨b, o, none⟩) ∧ us.length = cs.length ∧ (∀ (j : Nat) u, us[j]? = some u → σ.im ⟨b, o + j, none⟩ = some u) ∧
      ∀ (j : Nat) u, cs[j]? = some u → ∃ x, us[j]? = some x ∧ VR σ H x u := by
  cases h with
  | flat _ h => exfalso; cases v <;> first | (simp [asP] at hd; done) | (simp [flatV] at h; done)
  | func fn xs ys hs h => simp [asP] at hd
  | isl => simp [asP] at hd
  | isl0 => simp [asP] at hd
  | ip b o us cs' hs him h =>
    simp [asP] at hd
    subst hd
    refine ⟨b, o, us.toList, rfl, by simpa using hs, fun j u hu => ?_, fun j u hu => ?_⟩
    · simp only [Array.getElem?_toList] at hu
      obtain ⟨hj, rfl⟩ := Array.getElem?_eq_some_iff.1 hu
      exact him j hj
    · simp only [Array.getElem?_toList] at hu
      obtain ⟨hj, rfl⟩ := Array.getElem?_eq_some_iff.1 hu
      exact ⟨us[j]'(by omega), by simp, h j (by omega) hj⟩
  | _ => simp [asP] at hd

theorem VR.mkI {σ : Sg} {H : AH} {b o len cap : Nat} {us cs : List Value} (hl : len ≤ cap) (hm : cap ≤ maxLen) (hs : us.length = cs.length) (him : ∀ (j : Nat) u, us[j]? = some u → σ.im ⟨b, o + j, none⟩ = some u)
    (h : ∀ (j : Nat) u, cs[j]? = some u → ∃ x, us[j]? = some x ∧ VR σ H x u) : VR σ H (.slice (some ⟨b, o, none⟩) len cap) (BM.isl len cs) :=
  .isl b o len cap us.toArray cs.toArray hl hm (by simpa using hs) (fun j hj => him j _ (by simp)) fun i h1 h2 => by
    obtain ⟨x, hx, hv⟩ := h i (cs.toArray[i]) (by simp)
    have : us.toArray[i] = x := by
      obtain ⟨h3, h4⟩ := List.getElem?_eq_some_iff.1 hx
      simpa using h4
    rw [this]; exact hv
theorem VR.mkP {σ : Sg} {H : AH} {b o : Nat} {us cs : List Value} (hs : us.length = cs.length) (him : ∀ (j : Nat) u, us[j]? = some u → σ.im ⟨b, o + j, none⟩ = some u)
    (h : ∀ (j : Nat) u, cs[j]? = some u → ∃ x, us[j]? = some x ∧ VR σ H x u) : VR σ H (.pointer (some ⟨b, o, none⟩)) (BM.ip cs) :=
  .ip b o us.toArray cs.toArray (by simpa using hs) (fun j hj => him j _ (by simp)) fun i h1 h2 => by
    obtain ⟨x, hx, hv⟩ := h i (cs.toArray[i]) (by simp)
    have : us.toArray[i] = x := by
      obtain ⟨h3, h4⟩ := List.getElem?_eq_some_iff.1 hx
      simpa using h4
    rw [this]; exact hv
end Go.BM

/- The operations that only read, told by lists: what each yields, and that the machine yields it. -/
set_option linter.unusedVariables false
set_option linter.unusedSimpArgs false
namespace Go.BM
open Go.RowKit

def ev (e : Env) : Operand → Value
  | .tmp t => e t
  | .const v => v
  | .global g => .pointer (some ⟨g, 0, none⟩)
  | .func f => .func (.func f) #[] #[]

def put (e : Env) (d : Option Tmp) (v : Value) : Env :=
  match d with
  | some t => fun i => if i = t then v else e i
  | none => e

structure ER (n : Nat) (σ : Sg) (H : AH) (a : Act) (e : Env) : Prop where
  size : a.tmps.size = n
  rel : ∀ i, i < n → VR σ H (a.tmps.getD i undef) (e i)
  defers : a.defers = []

def constOk (v : Value) : Bool :=
  flatV v || (match v with | .slice none 0 0 => true | _ => false)

def opdOk (n : Nat) : Operand → Bool
  | .tmp t => decide (t < n)
  | .const v => constOk v
  | .global _ => false
  | .func _ => true

def dstOk (n : Nat) : Option Tmp → Bool
  | some t => decide (t < n)
  | none => true

theorem ER.fut {n B : Nat} {σ σ' : Sg} {H H' : AH} {w w' : World} {a : Act} {e : Env} (h : ER n σ H a e) (f : Fut B σ H w σ' H' w') : ER n σ' H' a e :=
  ⟨h.size, fun i hi => (h.rel i hi).fut f, h.defers⟩

theorem flat_const {v : Value} (h : constOk v = true) (σ : Sg) (H : AH) : VR σ H v v := by
  unfold constOk at h
  rcases Bool.or_eq_true_iff.1 h with h | h
  · exact .flat v h
  · split at h
    · exact .mt none none 0 (fun _ h => by cases h)
    · cases h

theorem ER.eval {n : Nat} {σ : Sg} {H : AH} {a : Act} {e : Env} (h : ER n σ H a e) {x : Operand} (hx : opdOk n x = true) : VR σ H (a.eval x) (ev e x) := by
  cases x with
  | tmp t => exact h.rel t (by simpa [opdOk] using hx)
  | const v => exact flat_const hx σ H
  | global g => simp [opdOk] at hx
  | func f => exact .func _ #[] #[] rfl fun i h1 => absurd h1 (Nat.not_lt_zero _)

theorem ER.put {n : Nat} {σ : Sg} {H : AH} {a : Act} {e : Env} (h : ER n σ H a e) {d : Option Tmp} (hd : dstOk n d = true) {v u : Value} (hv : VR σ H v u) : ER n σ H (a.put d v) (put e d u) := by
  cases d with
  | none => exact h
  | some t =>
    have ht : t < n := by simpa [dstOk] using hd
    refine ⟨by simp [Act.put, h.size], fun i hi => ?_, h.defers⟩
    have hs := h.size
    simp only [Act.put, BM.put]
    by_cases e1 : i = t
    · subst e1
      simp only [Array.getD, Array.size_setIfInBounds, hs, hi, dite_true, if_true]
      simpa [Array.getElem_setIfInBounds] using hv
    · have h1 := h.rel i hi
      simp only [if_neg e1]
      have : (a.tmps.setIfInBounds t v).getD i undef = a.tmps.getD i undef := by
        simp [Array.getD_eq_getD_getElem?, Array.getElem?_setIfInBounds_ne (Ne.symm e1)]
      rw [this]
      exact h1

def boolOf : Value → Option Bool
  | .bool b => some b
  | _ => none

def yieldA (ops : Array Oper) (e : Env) (j : Nat) : Option Bool :=
  match (ops[j]?).bind (·.dst) with
  | some t => boolOf (e t)
  | none => none

theorem VR.bool_iff {σ : Sg} {H : AH} {v d : Value} (h : VR σ H v d) : boolOf v = boolOf d := by
  cases h <;> rfl

theorem yielded_boolOf (ops : Array Oper) (tmps : Array Value) (j : Nat) (t : Tmp) (h : (ops[j]?).bind (·.dst) = some t) (ht : t < tmps.size) : yielded ops tmps j = boolOf (tmps.getD t undef) := by
  unfold yielded
  simp only [h, Option.bind_some, Array.getElem?_eq_getElem ht, Array.getD, ht, dite_true]
  show _ = boolOf tmps[t]
  cases tmps[t] <;> rfl

theorem yield_eq {n : Nat} {σ : Sg} {H : AH} {a : Act} {e : Env} (h : ER n σ H a e) {ops : Array Oper} (hops : ops.all (fun o => dstOk n o.dst) = true) (j : Nat) : yielded ops a.tmps j = yieldA ops e j := by
  cases hb : (ops[j]?).bind (·.dst) with
  | none =>
    unfold yielded yieldA
    simp [hb]
  | some t =>
    have ht : t < n := by
      cases ho : ops[j]? with
      | none => rw [ho] at hb; cases hb
      | some o =>
        rw [ho] at hb
        obtain ⟨hj, rfl⟩ := Array.getElem?_eq_some_iff.1 ho
        have := Array.all_eq_true.1 hops j hj
        simp only [Option.bind_some] at hb
        rw [hb] at this
        simpa [dstOk] using this
    rw [yielded_boolOf ops a.tmps j t hb (by rw [h.size]; exact ht)]
    unfold yieldA
    simp only [hb]
    exact (h.rel t ht).bool_iff

/-! ### What comes of a value -/
theorem VR.int {σ : Sg} {H : AH} {v : Value} {k : IntKind} {i : Int} (h : VR σ H v (.int k i)) : v = .int k i := by cases h; rfl
theorem VR.bool {σ : Sg} {H : AH} {v : Value} {b : Bool} (h : VR σ H v (.bool b)) : v = .bool b := by cases h; rfl
theorem VR.str {σ : Sg} {H : AH} {v : Value} {s : ByteArray} (h : VR σ H v (.string s)) : v = .string s := by cases h; rfl
theorem VR.aggI {σ : Sg} {H : AH} {v : Value} {ys : Array Value} (h : VR σ H v (.agg ys)) : ∃ xs : Array Value, v = .agg xs ∧ xs.size = ys.size ∧ ∀ i (h1 : i < xs.size) (h2 : i < ys.size), VR σ H xs[i] ys[i] := by
  cases h with
  | flat _ h => simp [flatV] at h
  | agg xs _ hs h => exact ⟨xs, rfl, hs, h⟩
theorem VR.tupleI {σ : Sg} {H : AH} {v : Value} {ys : Array Value} (h : VR σ H v (.tuple ys)) : ∃ xs : Array Value, v = .tuple xs ∧ xs.size = ys.size ∧ ∀ i (h1 : i < xs.size) (h2 : i < ys.size), VR σ H xs[i] ys[i] := by
  cases h with
  | flat _ h =>
    have : ys.size = 0 := by simpa [flatV] using h
    exact ⟨ys, rfl, rfl, fun i h1 _ => by omega⟩
  | tuple xs _ hs h => exact ⟨xs, rfl, hs, h⟩
theorem VR.ptrI {σ : Sg} {H : AH} {v : Value} {r off ver : Nat} (h : VR σ H v (.pointer (some ⟨r, off, some ver⟩))) {cs : List Value} (hb : getB H r ver = some cs) :
    v = .pointer (some ⟨(σ r).b, (σ r).base + off, none⟩) := by
  obtain ⟨blk, h1, h2, h3, _⟩ := getB_some hb
  cases h with
  | flat _ h => simp [flatV] at h
  | ptr => rfl
  | sptr _ _ _ blk' h' hv' => rw [h1] at h'; cases h'; omega
theorem VR.sliceI {σ : Sg} {H : AH} {v : Value} {r off len ver : Nat} {sp : Option Nat} (h : VR σ H v (.slice (some ⟨r, off, sp⟩) len ver)) {cs : List Value} (hb : getB H r ver = some cs) :
    (len = 0 ∧ sp.getD 0 = 0 ∧ ∃ a, v = .slice a 0 0) ∨ (∃ cap blk, H[r]? = some blk ∧ v = .slice (some ⟨(σ r).b, (σ r).base + off, none⟩) len cap ∧ len ≤ cap ∧ sp.getD len ≤ cap ∧ cap ≤ maxLen ∧ off + cap * blk.sz ≤ (σ r).n) := by
  obtain ⟨blk, h1, h2, h3, _⟩ := getB_some hb
  cases h with
  | flat _ h => simp [flatV] at h
  | mt _ _ _ hd => exact .inl ⟨rfl, hd _ rfl, _, rfl⟩
  | slice _ _ _ cap _ _ blk' h' hv ho hl hsp hm hc => exact .inr ⟨cap, blk', h', rfl, hl, hsp, hm, hc⟩
  | stale _ _ _ _ _ blk' h' hv' => rw [h1] at h'; cases h'; omega
theorem VR.sliceJ {σ : Sg} {H : AH} {v : Value} {r off len ver : Nat} {sp : Option Nat} (h : VR σ H v (.slice (some ⟨r, off, sp⟩) len ver)) {blk : Blk} (hb : H[r]? = some blk) (hv : blk.ver = ver) :
    ∃ a cap, v = .slice a len cap := by
  cases h with
  | flat _ h => simp [flatV] at h
  | mt => exact ⟨_, _, rfl⟩
  | slice _ _ _ cap _ _ blk' h' hv ho hl hsp hm hc => exact ⟨_, _, rfl⟩
  | stale _ _ _ _ _ blk' h' hv' => rw [hb] at h'; cases h'; omega
theorem VR.sliceNil {σ : Sg} {H : AH} {v : Value} {d : Option Addr} {ver : Nat} (hd : d = none) (h : VR σ H v (.slice d 0 ver)) : ∃ a, v = .slice a 0 0 := by
  subst hd
  cases h with
  | flat _ h => simp [flatV] at h
  | mt a => exact ⟨a, rfl⟩

/-! ### Types -/
def lay (P : Program) (t : TypeId) : Option (Bool × Nat) :=
  match P.underlying t, P.info? t with
  | some (.struct _), some i => some (true, i.size)
  | some (.array _ _), some i => some (true, i.size)
  | some _, some i => some (false, i.size)
  | _, _ => none

theorem run_isAgg {P : Program} {t : TypeId} {g : Bool} {n : Nat} (h : lay P t = some (g, n)) (w : World) : (isAgg t).run P w = .ok g w ∧ (sizeOf t).run P w = .ok n w ∧ ∃ i, P.info? t = some i ∧ i.size = n := by
  unfold lay at h
  cases hu : P.underlying t with
  | none => rw [hu] at h; cases h
  | some d =>
    cases hi : P.info? t with
    | none => rw [hu, hi] at h; cases d <;> cases h
    | some i =>
      rw [hu, hi] at h
      have hs : (sizeOf t).run P w = .ok i.size w := by simp [sizeOf, typeInfo, hi]
      cases d <;> (simp only [Option.some.injEq, Prod.mk.injEq] at h; obtain ⟨rfl, rfl⟩ := h; exact ⟨by simp [isAgg, run_underlying hu], hs, i, rfl, rfl⟩)

theorem add_plain' (b o j : Nat) : (⟨b, o, none⟩ : Addr).add j = ⟨b, o + j, none⟩ := by
  unfold Addr.add; split <;> simp_all

theorem run_loadVar_agg {P : Program} {t : TypeId} {n : Nat} (h : lay P t = some (true, n)) (w : World) (b o : Nat) (us : List Value) (hl : us.length = n)
    (hc : ∀ (j : Nat) u, us[j]? = some u → w.cell? ⟨b, o + j, none⟩ = some u) : (loadVar t ⟨b, o, none⟩).run P w = .ok (.agg us.toArray) w := by
  obtain ⟨h1, h2, _⟩ := run_isAgg h w
  have := run_loadCells_list (P := P) w ⟨b, o, none⟩ us (fun j v hj => by rw [add_plain']; exact hc j v hj)
  rw [hl] at this
  simp [loadVar, h1, h2, this]

theorem run_loadVar_one {P : Program} {t : TypeId} {n : Nat} (h : lay P t = some (false, n)) (w : World) (b o : Nat) (u : Value)
    (hc : w.cell? ⟨b, o, none⟩ = some u) : (loadVar t ⟨b, o, none⟩).run P w = .ok u w := by
  obtain ⟨h1, h2, _⟩ := run_isAgg h w
  simp [loadVar, h1, hc]

/-- A variable of type t among cells. -/
def getVar (g : Bool) (n : Nat) (cs : List Value) (off : Nat) : Option Value :=
  if g = true then (if off + n ≤ cs.length then some (.agg ((cs.drop off).take n).toArray) else none) else cs[off]?

def loadV (P : Program) (H : AH) (t : TypeId) (x : Value) : Option Value :=
  match lay P t with
  | some (g, n) =>
    (match asP x with
     | some cs => getVar g n cs 0
     | none =>
       (match x with
        | .pointer (some ⟨r, off, some ver⟩) => (match getB H r ver with | some cs => getVar g n cs off | none => none)
        | _ => none))
  | none => none

theorem lt_of_some'' {α : Type} {l : List α} {j : Nat} {v : α} (h : l[j]? = some v) : j < l.length := by
  rcases Nat.lt_or_ge j l.length with h' | h'
  · exact h'
  · rw [List.getElem?_eq_none h'] at h; cases h

theorem load_sound {P : Program} {σ : Sg} {H : AH} {w : World} (hS : Sim σ H w) {t : TypeId} {x v d : Value} (hx : VR σ H v x) (h : loadV P H t x = some d) :
    ∃ u, VR σ H u d ∧ ∀ w', Below w.heap.size w w' → (Instr.loadAt t v).run P w' = .ok u w' := by
  unfold loadV at h
  cases hl : lay P t with
  | none => rw [hl] at h; cases h
  | some gn =>
    obtain ⟨g, n⟩ := gn
    rw [hl] at h
    dsimp only at h
    cases ha : asP x with
    | some cs =>
      rw [ha] at h
      dsimp only at h
      obtain ⟨b, o, us, rfl, hul, hui, huv⟩ := hx.aptr ha
      unfold getVar at h
      cases g with
      | true =>
        simp only [if_true, Nat.zero_add, List.drop_zero] at h
        by_cases hle : n ≤ cs.length
        · rw [if_pos hle] at h
          cases h
          refine ⟨.agg (us.take n).toArray, .agg _ _ (by simp [hul]) fun i i1 i2 => ?_, fun w' hb' => ?_⟩
          · have i3 : i < cs.length := by simp at i2; omega
            obtain ⟨x, hx1, hx2⟩ := huv i cs[i] (List.getElem?_eq_getElem i3)
            obtain ⟨h3, h4⟩ := List.getElem?_eq_some_iff.1 hx1
            simp only [List.getElem_toArray, List.getElem_take]
            rw [h4]
            exact hx2
          · have hr := run_loadVar_agg hl w' b o (us.take n) (by simp [hul]; omega) fun j u hj => by
              have hj2 : us[j]? = some u := by
                rw [List.getElem?_take] at hj
                split at hj
                · exact hj
                · cases hj
              have := hui j u hj2
              rw [hb'.cell (p := ⟨b, o + j, none⟩) (hS.imlt this)]
              exact (hS.im _ _ this).1
            simp [Instr.loadAt, Instr.sureAddr, hr]
        · rw [if_neg hle] at h; cases h
      | false =>
        simp only [Bool.false_eq_true, if_false] at h
        obtain ⟨u, hu, hv⟩ := huv 0 d h
        refine ⟨u, hv, fun w' hb' => ?_⟩
        have := hui 0 u hu
        have hr := run_loadVar_one hl w' b o u (by
          rw [hb'.cell (p := ⟨b, o, none⟩) (hS.imlt (a := ⟨b, o + 0, none⟩) this)]
          exact (hS.im _ _ this).1)
        simp [Instr.loadAt, Instr.sureAddr, hr]
    | none =>
    rw [ha] at h
    dsimp only at h
    split at h
    case h_2 => cases h
    rename_i r off ver
    cases hb : getB H r ver with
    | none => rw [hb] at h; cases h
    | some cs =>
      rw [hb] at h
      dsimp only at h
      have hv := hx.ptrI hb
      subst hv
      obtain ⟨blk, h1, h2, rfl, ho⟩ := getB_some hb
      unfold getVar at h
      cases g with
      | true =>
        simp only [if_true] at h
        by_cases hle : off + n ≤ blk.cs.length
        · rw [if_pos hle] at h
          cases h
          obtain ⟨us, hul, huc, huv⟩ := hS.cells h1 ho off n hle
          refine ⟨.agg us.toArray, .agg _ _ (by simp [hul]; omega) fun i i1 i2 => ?_, fun w' hb' => ?_⟩
          · have := huv i (by simpa using i1) (by simpa using i2)
            simpa using this
          · have hr := run_loadVar_agg hl w' (σ r).b ((σ r).base + off) us hul fun j u hj => by
              rw [hb'.cell (p := ⟨(σ r).b, (σ r).base + off + j, none⟩) (hS.lt h1 ho)]; exact (huc j u hj).1
            simp [Instr.loadAt, Instr.sureAddr, hr]
        · rw [if_neg hle] at h; cases h
      | false =>
        simp only [Bool.false_eq_true, if_false] at h
        obtain ⟨u, hu, huv, _⟩ := hS.cell h1 ho h
        refine ⟨u, huv, fun w' hb' => ?_⟩
        have hr := run_loadVar_one hl w' (σ r).b ((σ r).base + off) u (by rw [hb'.cell (p := ⟨(σ r).b, (σ r).base + off, none⟩) (hS.lt h1 ho)]; exact hu)
        simp [Instr.loadAt, Instr.sureAddr, hr]

end Go.BM

/- The operations that only read, told by lists: the rest of them. -/
set_option linter.unusedVariables false
set_option linter.unusedSimpArgs false
namespace Go.BM
open Go.RowKit

def pureV (v : Value) : Bool :=
  flatV v || (match v with | .agg cs => cs.all flatV | _ => false)

theorem VR.flatE {σ : Sg} {H : AH} {v d : Value} (h : VR σ H v d) (hd : flatV d = true) : v = d := by
  cases h with
  | flat _ _ => rfl
  | mt a d ver hd' => simp [flatV] at hd
  | ptr => simp [flatV] at hd
  | sptr => simp [flatV] at hd
  | slice => simp [flatV] at hd
  | stale => simp [flatV] at hd
  | agg => simp [flatV] at hd
  | tuple xs ys hs h =>
    have : ys.size = 0 := by simpa [flatV] using hd
    have e1 : xs = #[] := Array.eq_empty_of_size_eq_zero (hs.trans this)
    have e2 : ys = #[] := Array.eq_empty_of_size_eq_zero this
    rw [e1, e2]
  | func => simp [flatV] at hd
  | isl => simp [flatV] at hd
  | isl0 => simp [flatV] at hd
  | ip => simp [flatV] at hd

theorem VR.pureE {σ : Sg} {H : AH} {v d : Value} (h : VR σ H v d) (hd : pureV d = true) : v = d := by
  unfold pureV at hd
  rcases Bool.or_eq_true_iff.1 hd with hd | hd
  · exact h.flatE hd
  · cases d <;> try (cases hd; done)
    rename_i ys
    obtain ⟨xs, rfl, hs, hv⟩ := h.aggI
    congr 1
    apply Array.ext hs
    intro i h1 h2
    exact (hv i h1 h2).flatE (Array.all_eq_true.1 hd i h2)

theorem VR.ofPure {σ : Sg} {H : AH} {d : Value} (hd : pureV d = true) : VR σ H d d := by
  unfold pureV at hd
  rcases Bool.or_eq_true_iff.1 hd with h | h
  · exact .flat d h
  · cases d <;> try (cases h; done)
    rename_i ys
    exact .agg ys ys rfl fun i h1 h2 => .flat _ (Array.all_eq_true.1 h i h2)

/-- What a closed reckoning comes to, if it comes to one value without memory in every world. -/
noncomputable def runV (P : Program) (s : Sem Value) : Option Value :=
  open Classical in
  if h : ∃ d, pureV d = true ∧ ∀ w, s.run P w = .ok d w then some h.choose else none

theorem runV_eq {P : Program} {s : Sem Value} {d : Value} (hd : pureV d = true) (h : ∀ w, s.run P w = .ok d w) : runV P s = some d := by
  have hx : ∃ d, pureV d = true ∧ ∀ w, s.run P w = .ok d w := ⟨d, hd, h⟩
  unfold runV
  rw [dif_pos hx]
  have h1 := hx.choose_spec.2 default
  rw [h default] at h1
  injection h1 with h1 _
  rw [← h1]

theorem runV_some {P : Program} {s : Sem Value} {d : Value} (h : runV P s = some d) : pureV d = true ∧ ∀ w, s.run P w = .ok d w := by
  unfold runV at h
  by_cases hx : ∃ d, pureV d = true ∧ ∀ w, s.run P w = .ok d w
  · rw [dif_pos hx] at h
    cases h
    exact hx.choose_spec
  · rw [dif_neg hx] at h; cases h

noncomputable def binS (P : Program) (op : BinOp) (t : TypeId) (xo yo : Operand) (x y : Value) : Option Value :=
  if pureV x = true ∧ pureV y = true then runV P (do eqGuard op t xo yo x y; binOp op t x y) else none
noncomputable def unS (P : Program) (op : UnOp) (x : Value) : Option Value :=
  if pureV x = true then runV P (Op.unary op x) else none
noncomputable def convS (P : Program) (s d : TypeId) (x : Value) : Option Value :=
  if pureV x = true then runV P (convert s d x) else none
noncomputable def strIdxS (P : Program) (t : TypeId) (x i : Value) : Option Value :=
  if pureV x = true ∧ pureV i = true then runV P (Instr.index t x i) else none
def fieldS (P : Program) (t : TypeId) (x : Value) (f : Nat) : Option Value :=
  match P.underlying t with
  | some (.struct fs) => (match fs[f]? with
    | some fd => (match lay P fd.type with
      | some (g, n) => (match x with | .agg cs => getVar g n cs.toList fd.offset | _ => none)
      | none => none)
    | none => none)
  | _ => none
noncomputable def minS (P : Program) (ts : Array TypeId) (ty : TypeId) (xs : Array Value) : Option Value :=
  if xs.all pureV = true then runV P (Builtin.min_ ts ty xs) else none
noncomputable def maxS (P : Program) (ts : Array TypeId) (ty : TypeId) (xs : Array Value) : Option Value :=
  if xs.all pureV = true then runV P (Builtin.max_ ts ty xs) else none
noncomputable def strSliceS (P : Program) (t : TypeId) (x : Value) (lo hi mx : Option Value) : Option Value :=
  if pureV x = true ∧ (lo.all pureV && hi.all pureV && mx.all pureV) = true then runV P (Instr.sliceAt t x lo hi mx) else none
noncomputable def ifaceS (P : Program) (t : TypeId) (x : Value) : Option Value :=
  if pureV x = true then runV P (Instr.makeInterface t x) else none

section
variable {P : Program} {σ : Sg} {H : AH} {w : World}

theorem bin_sound {op : BinOp} {t : TypeId} {xo yo : Operand} {x y dx dy d : Value} (hx : VR σ H x dx) (hy : VR σ H y dy) (h : binS P op t xo yo dx dy = some d) :
    VR σ H d d ∧ ∀ w', (do eqGuard op t xo yo x y; binOp op t x y : Sem Value).run P w' = .ok d w' := by
  unfold binS at h
  by_cases hp : pureV dx = true ∧ pureV dy = true
  · rw [if_pos hp] at h
    obtain ⟨h1, h2⟩ := runV_some h
    rw [hx.pureE hp.1, hy.pureE hp.2]
    exact ⟨.ofPure h1, h2⟩
  · rw [if_neg hp] at h; cases h

theorem un_sound {op : UnOp} {x dx d : Value} (hx : VR σ H x dx) (h : unS P op dx = some d) : VR σ H d d ∧ ∀ w', (Op.unary op x).run P w' = .ok d w' := by
  unfold unS at h
  by_cases hp : pureV dx = true
  · rw [if_pos hp] at h
    obtain ⟨h1, h2⟩ := runV_some h
    rw [hx.pureE hp]
    exact ⟨.ofPure h1, h2⟩
  · rw [if_neg hp] at h; cases h

theorem conv_sound {s t : TypeId} {x dx d : Value} (hx : VR σ H x dx) (h : convS P s t dx = some d) : VR σ H d d ∧ ∀ w', (convert s t x).run P w' = .ok d w' := by
  unfold convS at h
  by_cases hp : pureV dx = true
  · rw [if_pos hp] at h
    obtain ⟨h1, h2⟩ := runV_some h
    rw [hx.pureE hp]
    exact ⟨.ofPure h1, h2⟩
  · rw [if_neg hp] at h; cases h

theorem strIdx_sound {t : TypeId} {x i dx di d : Value} (hx : VR σ H x dx) (hi : VR σ H i di) (h : strIdxS P t dx di = some d) : VR σ H d d ∧ ∀ w', (Instr.index t x i).run P w' = .ok d w' := by
  unfold strIdxS at h
  by_cases hp : pureV dx = true ∧ pureV di = true
  · rw [if_pos hp] at h
    obtain ⟨h1, h2⟩ := runV_some h
    rw [hx.pureE hp.1, hi.pureE hp.2]
    exact ⟨.ofPure h1, h2⟩
  · rw [if_neg hp] at h; cases h

theorem iface_sound {t : TypeId} {x dx d : Value} (hx : VR σ H x dx) (h : ifaceS P t dx = some d) : VR σ H d d ∧ ∀ w', (Instr.makeInterface t x).run P w' = .ok d w' := by
  unfold ifaceS at h
  by_cases hp : pureV dx = true
  · rw [if_pos hp] at h
    obtain ⟨h1, h2⟩ := runV_some h
    rw [hx.pureE hp]
    exact ⟨.ofPure h1, h2⟩
  · rw [if_neg hp] at h; cases h

theorem field_sound {t : TypeId} {f : Nat} {x dx d : Value} (hx : VR σ H x dx) (h : fieldS P t dx f = some d) : ∃ u, VR σ H u d ∧ ∀ w', (Instr.field t x f).run P w' = .ok u w' := by
  unfold fieldS at h
  cases hu : P.underlying t with
  | none => rw [hu] at h; cases h
  | some dt =>
    rw [hu] at h
    cases dt <;> try (cases h; done)
    rename_i fs
    dsimp only at h
    cases hf : fs[f]? with
    | none => rw [hf] at h; cases h
    | some fd =>
      rw [hf] at h
      dsimp only at h
      cases hl : lay P fd.type with
      | none => rw [hl] at h; cases h
      | some gn =>
        obtain ⟨g, n⟩ := gn
        rw [hl] at h
        dsimp only at h
        split at h
        case h_2 => cases h
        rename_i ys
        obtain ⟨xs, rfl, hs, hv⟩ := hx.aggI
        unfold getVar at h
        cases g with
        | true =>
          simp only [if_true] at h
          by_cases hle : fd.offset + n ≤ ys.toList.length
          · rw [if_pos hle] at h
            cases h
            simp only [Array.length_toList] at hle
            refine ⟨.agg (xs.extract fd.offset (fd.offset + n)), .agg _ _ (by simp; omega) fun i i1 i2 => ?_, fun w' => ?_⟩
            · simp only [List.getElem_toArray, List.getElem_take, List.getElem_drop, Array.getElem_extract, Array.getElem_toList]
              exact hv _ _ _
            · obtain ⟨r1, r2, _⟩ := run_isAgg hl w'
              simp [Instr.field, run_underlying hu, hf, part, r1, r2, asAgg]
          · rw [if_neg hle] at h; cases h
        | false =>
          simp only [Bool.false_eq_true, if_false] at h
          simp only [Array.getElem?_toList] at h
          obtain ⟨hj, rfl⟩ := Array.getElem?_eq_some_iff.1 h
          refine ⟨xs[fd.offset]'(by omega), hv _ _ _, fun w' => ?_⟩
          obtain ⟨r1, r2, _⟩ := run_isAgg hl w'
          simp [Instr.field, run_underlying hu, hf, part, r1, asAgg, Array.getElem?_eq_getElem (show fd.offset < xs.size by omega)]

theorem arr_pureE {xs ys : Array Value} (hs : xs.size = ys.size) (hv : ∀ i (h1 : i < xs.size) (h2 : i < ys.size), VR σ H xs[i] ys[i]) (hp : ys.all pureV = true) : xs = ys := by
  apply Array.ext hs
  intro i h1 h2
  exact (hv i h1 h2).pureE (Array.all_eq_true.1 hp i h2)

theorem min_sound {ts : Array TypeId} {ty : TypeId} {xs ys : Array Value} {d : Value} (hs : xs.size = ys.size) (hv : ∀ i (h1 : i < xs.size) (h2 : i < ys.size), VR σ H xs[i] ys[i]) (h : minS P ts ty ys = some d) :
    VR σ H d d ∧ ∀ w', (Builtin.min_ ts ty xs).run P w' = .ok d w' := by
  unfold minS at h
  by_cases hp : ys.all pureV = true
  · rw [if_pos hp] at h
    obtain ⟨h1, h2⟩ := runV_some h
    rw [arr_pureE hs hv hp]
    exact ⟨.ofPure h1, h2⟩
  · rw [if_neg hp] at h; cases h

theorem max_sound {ts : Array TypeId} {ty : TypeId} {xs ys : Array Value} {d : Value} (hs : xs.size = ys.size) (hv : ∀ i (h1 : i < xs.size) (h2 : i < ys.size), VR σ H xs[i] ys[i]) (h : maxS P ts ty ys = some d) :
    VR σ H d d ∧ ∀ w', (Builtin.max_ ts ty xs).run P w' = .ok d w' := by
  unfold maxS at h
  by_cases hp : ys.all pureV = true
  · rw [if_pos hp] at h
    obtain ⟨h1, h2⟩ := runV_some h
    rw [arr_pureE hs hv hp]
    exact ⟨.ofPure h1, h2⟩
  · rw [if_neg hp] at h; cases h

/-! pick -/
def pickV (c a b : Value) : Option Value :=
  match c with
  | .bool t => some (cond t a b)
  | _ => none

theorem pick_sound {c a b dc da db d : Value} (hc : VR σ H c dc) (ha : VR σ H a da) (hb : VR σ H b db) (h : pickV dc da db = some d) :
    ∃ u, VR σ H u d ∧ ∀ w', (do pure (.value (if ← asBool c then a else b)) : Sem Next).run P w' = .ok (.value u) w' := by
  unfold pickV at h
  split at h
  case h_2 => cases h
  rename_i t
  cases h
  have := hc.bool
  subst this
  cases t
  · exact ⟨b, hb, fun w' => by simp [asBool]⟩
  · exact ⟨a, ha, fun w' => by simp [asBool]⟩

/-! a field's address -/
def fldOff (P : Program) (s : TypeId) (f : Nat) : Option Nat :=
  match P.underlying s with
  | some (.struct fs) => (match fs[f]? with
    | some fd => (match P.info? fd.type with | some i => if i.size = 0 then none else some fd.offset | none => none)
    | none => none)
  | _ => none

def fldV (P : Program) (H : AH) (s : TypeId) (x : Value) (f : Nat) : Option Value :=
  match fldOff P s f with
  | some o =>
    (match asP x with
     | some cs => some (ip (cs.drop o))
     | none =>
       (match x with
        | .pointer (some ⟨r, off, some ver⟩) => if (getB H r ver).isSome = true then some (.pointer (some ⟨r, off + o, some ver⟩)) else none
        | _ => none))
  | none => none

theorem run_fieldAt {s f o : Nat} (ho : fldOff P s f = some o) (b off : Nat) (w' : World) : (Instr.fieldAt s (.pointer (some ⟨b, off, none⟩)) f).run P w' = .ok (.pointer (some ⟨b, off + o, none⟩)) w' := by
  unfold fldOff at ho
  cases hu : P.underlying s with
  | none => rw [hu] at ho; cases ho
  | some d =>
    rw [hu] at ho
    cases d <;> try (cases ho; done)
    rename_i fs
    dsimp only at ho
    cases hf : fs[f]? with
    | none => rw [hf] at ho; cases ho
    | some fd =>
      rw [hf] at ho
      dsimp only at ho
      cases hi : P.info? fd.type with
      | none => rw [hi] at ho; cases ho
      | some i =>
        rw [hi] at ho
        dsimp only at ho
        by_cases hz : i.size = 0
        · rw [if_pos hz] at ho; cases ho
        · rw [if_neg hz] at ho
          cases ho
          simp [Instr.fieldAt, run_underlying hu, hf, Instr.sureAddr, fieldPlace, sizeOf, typeInfo, hi, hz, add_plain']

theorem VR.ipDrop {b o : Nat} {us cs : List Value} (k : Nat) (hul : us.length = cs.length) (hui : ∀ (j : Nat) u, us[j]? = some u → σ.im ⟨b, o + j, none⟩ = some u)
    (huv : ∀ (j : Nat) u, cs[j]? = some u → ∃ x, us[j]? = some x ∧ VR σ H x u) : VR σ H (.pointer (some ⟨b, o + k, none⟩)) (BM.ip (cs.drop k)) :=
  VR.mkP (us := us.drop k) (by simp [hul]) (fun j u hj => by
    rw [List.getElem?_drop] at hj
    have := hui _ u hj
    rw [← Nat.add_assoc] at this
    exact this) fun j u hj => by
    rw [List.getElem?_drop] at hj ⊢
    exact huv _ u hj

theorem fld_sound {s : TypeId} {f : Nat} {x dx d : Value} (hx : VR σ H x dx) (h : fldV P H s dx f = some d) :
    ∃ u, VR σ H u d ∧ ∀ w', (Instr.fieldAt s x f).run P w' = .ok u w' := by
  unfold fldV at h
  cases ho : fldOff P s f with
  | none => rw [ho] at h; cases h
  | some o =>
    rw [ho] at h
    dsimp only at h
    cases ha : asP dx with
    | some cs =>
      rw [ha] at h
      cases h
      obtain ⟨b, q, us, rfl, hul, hui, huv⟩ := hx.aptr ha
      exact ⟨_, VR.ipDrop o hul hui huv, fun w' => run_fieldAt ho b q w'⟩
    | none =>
      rw [ha] at h
      dsimp only at h
      split at h
      case h_2 => cases h
      rename_i r off ver
      by_cases hb : (getB H r ver).isSome = true
      · rw [if_pos hb] at h
        cases h
        obtain ⟨cs, hcs⟩ := Option.isSome_iff_exists.1 hb
        have hv := hx.ptrI hcs
        subst hv
        obtain ⟨blk, h1, h2, _, h3⟩ := getB_some hcs
        refine ⟨.pointer (some ⟨(σ r).b, (σ r).base + (off + o), none⟩), .ptr r (off + o) ver blk h1 h2 h3, fun w' => ?_⟩
        rw [run_fieldAt ho, Nat.add_assoc]
      · rw [if_neg hb] at h; cases h

/-! an element's address; a slice of a slice; lengths -/
def elZ (P : Program) (t : TypeId) : Option (TypeId × Nat × Nat) :=
  match P.underlying t with
  | some (.slice e) => (match P.info? e with | some i => some (e, i.size, i.bytes) | none => none)
  | _ => none

theorem elZ_some {t e : TypeId} {sz by_ : Nat} (h : elZ P t = some (e, sz, by_)) : P.underlying t = some (.slice e) ∧ ∃ i, P.info? e = some i ∧ i.size = sz ∧ i.bytes = by_ := by
  unfold elZ at h
  cases hu : P.underlying t with
  | none => rw [hu] at h; cases h
  | some d =>
    rw [hu] at h
    cases d <;> try (cases h; done)
    rename_i e'
    dsimp only at h
    cases hi : P.info? e' with
    | none => rw [hi] at h; cases h
    | some i =>
      rw [hi] at h
      cases h
      exact ⟨rfl, i, hi, rfl, rfl⟩

theorem elem_of {t e : TypeId} (h : P.underlying t = some (.slice e)) : P.elem t = e := by simp [Program.elem, h]

theorem run_sizeOf {e : TypeId} {i : TypeInfo} (hi : P.info? e = some i) (w' : World) : (sizeOf e).run P w' = .ok i.size w' := by simp [sizeOf, typeInfo, hi]

def idxV (P : Program) (H : AH) (t : TypeId) (x i : Value) : Option Value :=
  match elZ P t, i with
  | some (_, sz, _), .int _ n =>
    (match asI x with
     | some (len, cs) => if 0 ≤ n ∧ n < len then some (ip (cs.drop (n.toNat * sz))) else none
     | none =>
       (match x with
        | .slice (some ⟨r, off, _⟩) len ver => if (getB H r ver).isSome = true then (if 0 ≤ n ∧ n < len then some (.pointer (some ⟨r, off + n.toNat * sz, some ver⟩)) else none) else none
        | _ => none))
  | _, _ => none

theorem run_idx {t e : TypeId} {sz by_ : Nat} (he : elZ P t = some (e, sz, by_)) (b o len cap : Nat) (k : IntKind) (n : Int) (hn : 0 ≤ n ∧ n < len) (w' : World) :
    (Instr.indexAt t (.slice (some ⟨b, o, none⟩) len cap) (.int k n)).run P w' = .ok (.pointer (some ⟨b, o + n.toNat * sz, none⟩)) w' := by
  obtain ⟨hu, i, hi2, hsz, _⟩ := elZ_some he
  rw [run_indexAt_slice (P := P) w' t _ len cap k n (by rw [elem_of hu]; exact hu), if_pos hn, elem_of hu, run_sizeOf hi2]
  simp [add_plain', hsz]

theorem idx_sound {t : TypeId} {x i dx di d : Value} (hx : VR σ H x dx) (hi : VR σ H i di) (h : idxV P H t dx di = some d) :
    ∃ u, VR σ H u d ∧ ∀ w', (Instr.indexAt t x i).run P w' = .ok u w' := by
  unfold idxV at h
  split at h
  case h_2 => cases h
  rename_i e sz by_ k n he
  have := hi.int
  subst this
  cases ha : asI dx with
  | some lc =>
    obtain ⟨len, cs⟩ := lc
    rw [ha] at h
    dsimp only at h
    by_cases hn : 0 ≤ n ∧ n < len
    · rw [if_pos hn] at h
      cases h
      rcases hx.aslice ha with ⟨h0, _⟩ | ⟨b, o, cap, us, rfl, _, _, hul, hui, huv⟩
      · omega
      · exact ⟨_, VR.ipDrop _ hul hui huv, fun w' => run_idx he b o len cap k n hn w'⟩
    · rw [if_neg hn] at h; cases h
  | none =>
    rw [ha] at h
    dsimp only at h
    split at h
    case h_2 => cases h
    rename_i r off sp len ver
    by_cases hb : (getB H r ver).isSome = true
    · rw [if_pos hb] at h
      by_cases hn : 0 ≤ n ∧ n < len
      · rw [if_pos hn] at h
        cases h
        obtain ⟨cs, hcs⟩ := Option.isSome_iff_exists.1 hb
        obtain ⟨blk, h1, h2, _, h3⟩ := getB_some hcs
        rcases hx.sliceI hcs with ⟨h0, _⟩ | ⟨cap, blk', _, rfl, _⟩
        · omega
        · refine ⟨.pointer (some ⟨(σ r).b, (σ r).base + (off + n.toNat * sz), none⟩), .ptr r _ ver blk h1 h2 h3, fun w' => ?_⟩
          rw [run_idx he _ _ len cap k n hn, Nat.add_assoc]
      · rw [if_neg hn] at h; cases h
    · rw [if_neg hb] at h; cases h

def lenV (P : Program) (H : AH) (t : TypeId) (x : Value) : Option Value :=
  match x with
  | .string s => (match P.underlying t with | some .string => some (.int .i64 s.size) | _ => none)
  | x =>
    (match elZ P t with
     | none => none
     | some _ =>
       (match asI x with
        | some (len, _) => some (.int .i64 len)
        | none =>
          (match x with
           | .slice none 0 0 => some (.int .i64 0)
           | .slice (some ⟨r, _, _⟩) len ver => (match H[r]? with | some blk => if blk.ver = ver then some (.int .i64 len) else none | none => none)
           | _ => none)))

theorem run_len {t ty e : TypeId} {sz by_ : Nat} (he : elZ P t = some (e, sz, by_)) (a : Option Addr) (len cap : Nat) (w' : World) : (Builtin.len_ #[t] ty #[.slice a len cap]).run P w' = .ok (.int .i64 len) w' := by
  obtain ⟨hu, _⟩ := elZ_some he
  simp [Builtin.len_, run_underlying hu, goInt]

theorem len_sound {t ty : TypeId} {x dx d : Value} (hx : VR σ H x dx) (h : lenV P H t dx = some d) :
    VR σ H d d ∧ ∀ w', (Builtin.len_ #[t] ty #[x]).run P w' = .ok d w' := by
  unfold lenV at h
  split at h
  · rename_i s
    have := hx.str
    subst this
    cases hu : P.underlying t with
    | none => rw [hu] at h; cases h
    | some dd =>
      rw [hu] at h
      cases dd <;> try (cases h; done)
      cases h
      exact ⟨.flat _ rfl, fun w' => by simp [Builtin.len_, run_underlying hu, goInt]⟩
  · rename_i y hy
    cases he : elZ P t with
    | none => rw [he] at h; cases h
    | some esz =>
      obtain ⟨e, sz, by_⟩ := esz
      rw [he] at h
      dsimp only at h
      cases ha : asI dx with
      | some lc =>
        obtain ⟨len, cs⟩ := lc
        rw [ha] at h
        cases h
        rcases hx.aslice ha with ⟨rfl, _, a, cap, rfl, _⟩ | ⟨b, o, cap, us, rfl, _⟩
        · exact ⟨.flat _ rfl, fun w' => run_len he _ _ _ w'⟩
        · exact ⟨.flat _ rfl, fun w' => run_len he _ _ _ w'⟩
      | none =>
        rw [ha] at h
        dsimp only at h
        split at h
        · obtain ⟨a, rfl⟩ := hx.sliceNil rfl
          cases h
          exact ⟨.flat _ rfl, fun w' => run_len he _ _ _ w'⟩
        · rename_i r off sp len ver
          cases hb : H[r]? with
          | none => rw [hb] at h; cases h
          | some blk =>
            rw [hb] at h
            dsimp only at h
            by_cases hv : blk.ver = ver
            · rw [if_pos hv] at h
              cases h
              obtain ⟨a, cap, rfl⟩ := hx.sliceJ hb hv
              exact ⟨.flat _ rfl, fun w' => run_len he _ _ _ w'⟩
            · rw [if_neg hv] at h; cases h
        · cases h

def extractV (x : Value) (i : Nat) : Option Value :=
  match x with
  | .tuple vs => vs[i]?
  | _ => none

theorem extract_sound {x dx d : Value} {i : Nat} (hx : VR σ H x dx) (h : extractV dx i = some d) : ∃ u, VR σ H u d ∧ ∀ w', (Instr.extract x i).run P w' = .ok u w' := by
  unfold extractV at h
  split at h
  case h_2 => cases h
  rename_i vs
  obtain ⟨xs, rfl, hs, hv⟩ := hx.tupleI
  obtain ⟨hi, rfl⟩ := Array.getElem?_eq_some_iff.1 h
  exact ⟨xs[i]'(by omega), hv i (by omega) hi, fun w' => by simp [Instr.extract, Array.getElem?_eq_getElem (show i < xs.size by omega)]⟩

/-- Bytes, out of cells. -/
def bytesV : List Value → Option (List UInt8)
  | [] => some []
  | .int .u8 n :: l => (bytesV l).map fun t => UInt8.ofNat n.toNat :: t
  | _ => none
theorem bytesV_cells : ∀ {l : List Value} {t : List UInt8}, bytesV l = some t → ∃ ns : List Int, l = ns.map (Value.int .u8) ∧ t = ns.map fun n => UInt8.ofNat n.toNat
  | [], t, h => by cases h; exact ⟨[], rfl, rfl⟩
  | v :: l, t, h => by
    cases v with
    | int k n =>
      cases k <;> try (simp [bytesV] at h; done)
      cases hl : bytesV l with
      | none => simp [bytesV, hl] at h
      | some t' =>
        simp [bytesV, hl] at h
        subst h
        obtain ⟨ns, rfl, rfl⟩ := bytesV_cells hl
        exact ⟨n :: ns, rfl, rfl⟩
    | _ => simp [bytesV] at h
theorem foldl_push (ns : List Int) : ∀ s : ByteArray, ns.foldl (fun r n => r.push (UInt8.ofNat n.toNat)) s = ⟨s.data ++ (ns.map fun n => UInt8.ofNat n.toNat).toArray⟩ := by
  induction ns with
  | nil => intro s; simp
  | cons n ns ih =>
    intro s
    rw [List.foldl_cons, ih]
    simp [ByteArray.push]
def isU8 : Option TypeDesc → Bool
  | some (.int .u8) => true
  | _ => false
theorem isU8_some {o : Option TypeDesc} (h : isU8 o = true) : o = some (.int .u8) := by
  unfold isU8 at h
  split at h
  · rfl
  · cases h
def isStr : Option TypeDesc → Bool
  | some .string => true
  | _ => false
theorem isStr_some {o : Option TypeDesc} (h : isStr o = true) : o = some .string := by
  unfold isStr at h
  split at h
  · rfl
  · cases h
/-- A slice of bytes, as a string. -/
def convB (P : Program) (H : AH) (s d : TypeId) (x : Value) : Option Value :=
  match elZ P s with
  | some (e, _, _) =>
    if isU8 (P.underlying e) = true ∧ isStr (P.underlying d) = true then
      (match asI x with
       | some (m, cs) => if m ≤ cs.length then (bytesV (cs.take m)).map fun l => .string ⟨l.toArray⟩ else none
       | none =>
         (match x with
          | .slice none 0 0 => some (.string ⟨#[]⟩)
          | .slice (some ⟨r, off, _⟩) m ver => (getB H r ver).bind fun cs => if off + m ≤ cs.length then (bytesV ((cs.drop off).take m)).map fun l => .string ⟨l.toArray⟩ else none
          | _ => none)) else none
  | none => none
noncomputable def convX (P : Program) (H : AH) (s d : TypeId) (x : Value) : Option Value := if pureV x = true then convS P s d x else convB P H s d x
theorem run_b2s {a : Addr} {len cap : Nat} {us : List Value} {t : List UInt8} {w' : World} (hl : us.length = len) (hc : ∀ (j : Nat) u, us[j]? = some u → w'.cell? (a.add j) = some u) (hb : bytesV us = some t) :
    (Conv.bytesToString (.slice (some a) len cap)).run P w' = .ok (.string ⟨t.toArray⟩) w' := by
  obtain ⟨ns, rfl, rfl⟩ := bytesV_cells hb
  have h1 := run_loadCells_list (P := P) w' a (ns.map (Value.int .u8)) hc
  rw [hl] at h1
  rw [run_bytesToString w' a len cap ns h1, foldl_push]
  simp [ByteArray.empty, ByteArray.emptyWithCapacity]
  rfl
theorem run_b2s0 {ad : Option Addr} {cap : Nat} {w' : World} : (Conv.bytesToString (.slice ad 0 cap)).run P w' = .ok (.string ⟨#[]⟩) w' := by
  cases ad with
  | none =>
    simp [Conv.bytesToString, Sem.run_pure, ByteArray.empty, ByteArray.emptyWithCapacity]
    rfl
  | some a =>
    have := run_b2s (P := P) (a := a) (len := 0) (cap := cap) (us := []) (t := []) (w' := w') rfl (fun j u hu => by simp at hu) rfl
    simpa using this
theorem bytes_of_vr {us ds : List Value} {t : List UInt8} (hs : us.length = ds.length) (hv : ∀ (j : Nat) u, ds[j]? = some u → ∃ x, us[j]? = some x ∧ VR σ H x u) (hb : bytesV ds = some t) : us = ds := by
  obtain ⟨ns, rfl, rfl⟩ := bytesV_cells hb
  apply List.ext_getElem?
  intro j
  rcases Nat.lt_or_ge j us.length with hj | hj
  · obtain ⟨x, h1, h2⟩ := hv j _ (List.getElem?_eq_getElem (by omega))
    rw [h1, List.getElem?_eq_getElem (by omega)]
    have : (ns.map (Value.int .u8))[j]'(by omega) = .int .u8 (ns[j]'(by simpa using (by omega : j < (ns.map (Value.int .u8)).length))) := by simp
    rw [this] at h2 ⊢
    rw [h2.int]
  · rw [List.getElem?_eq_none hj, List.getElem?_eq_none (by omega)]
theorem convX_sound (hS : Sim σ H w) {s t : TypeId} {x dx d : Value} (hx : VR σ H x dx) (h : convX P H s t dx = some d) : VR σ H d d ∧ ∀ w', Below w.heap.size w w' → (convert s t x).run P w' = .ok d w' := by
  unfold convX at h
  by_cases hp : pureV dx = true
  · rw [if_pos hp] at h
    obtain ⟨h1, h2⟩ := conv_sound hx h
    exact ⟨h1, fun w' _ => h2 w'⟩
  · rw [if_neg hp] at h
    unfold convB at h
    cases hz : elZ P s with
    | none => rw [hz] at h; cases h
    | some z =>
    obtain ⟨e, z1, z2⟩ := z
    rw [hz] at h
    dsimp only at h
    obtain ⟨hs, _⟩ := elZ_some hz
    by_cases he : isU8 (P.underlying e) = true ∧ isStr (P.underlying t) = true
    · rw [if_pos he] at h
      have he' := isU8_some he.1
      have hd := isStr_some he.2
      have hcv : ∀ (ad : Option Addr) (l c : Nat) (w' : World), (convert s t (.slice ad l c)).run P w' = (Conv.bytesToString (.slice ad l c)).run P w' := fun ad l c w' => run_convert_bytes_string w' s t e ad l c hs he' hd
      cases ha : asI dx with
      | some lc =>
        obtain ⟨m, cs⟩ := lc
        rw [ha] at h
        dsimp only at h
        by_cases hm : m ≤ cs.length
        · rw [if_pos hm] at h
          cases hb : bytesV (cs.take m) with
          | none => rw [hb] at h; cases h
          | some l =>
            rw [hb] at h
            cases h
            refine ⟨.flat _ rfl, fun w' hbw => ?_⟩
            rcases hx.aslice ha with ⟨rfl, rfl, ad, cap, rfl, _⟩ | ⟨b, o, cap, us, rfl, _, _, hul, hui, huv⟩
            · rw [hcv, run_b2s0]
              simp [bytesV] at hb
              subst hb
              rfl
            · rw [hcv]
              have e1 : us.take m = cs.take m := bytes_of_vr (σ := σ) (H := H) (by simp [hul]) (fun j u hj => by
                rw [List.getElem?_take] at hj ⊢
                split at hj
                · rename_i hjm
                  rw [if_pos hjm]
                  exact huv j u hj
                · cases hj) hb
              refine run_b2s (us := us.take m) (by simp [hul]; omega) (fun j u hj => ?_) (by rw [e1]; exact hb)
              rw [List.getElem?_take] at hj
              split at hj
              · have him := hui j u hj
                have := (hS.im _ _ him).1
                rw [add_plain', hbw.cell (hS.imlt him)]
                exact this
              · cases hj
        · rw [if_neg hm] at h; cases h
      | none =>
        rw [ha] at h
        dsimp only at h
        split at h
        · obtain ⟨ad, rfl⟩ := hx.sliceNil rfl
          cases h
          exact ⟨.flat _ rfl, fun w' _ => by rw [hcv, run_b2s0]⟩
        · rename_i r off sp m ver
          cases hg : getB H r ver with
          | none => rw [hg] at h; cases h
          | some cs =>
            rw [hg] at h
            simp only [Option.bind_some] at h
            by_cases hm : off + m ≤ cs.length
            · rw [if_pos hm] at h
              cases hb : bytesV ((cs.drop off).take m) with
              | none => rw [hb] at h; cases h
              | some l =>
                rw [hb] at h
                cases h
                refine ⟨.flat _ rfl, fun w' hbw => ?_⟩
                obtain ⟨blk, hblk, hbv, hbc, hbo⟩ := getB_some hg
                rcases hx.sliceI hg with ⟨rfl, _, ad, rfl⟩ | ⟨cap, blk', hb', rfl, hlc, hsp, hcm, hcn⟩
                · rw [hcv, run_b2s0]
                  simp [bytesV] at hb
                  subst hb
                  rfl
                · rw [hcv]
                  subst hbc
                  obtain ⟨us, hul, hui, huv⟩ := hS.cells hblk hbo off m hm
                  have e1 : us = (blk.cs.drop off).take m := bytes_of_vr (σ := σ) (H := H) (by simp [hul]; omega) (fun j u hj => by
                    have hjl : j < ((blk.cs.drop off).take m).length := (List.getElem?_eq_some_iff.1 hj).1
                    have hju : j < us.length := by simp at hjl; omega
                    have := huv j hju hjl
                    rw [List.getElem?_eq_getElem hjl] at hj
                    cases hj
                    exact ⟨_, List.getElem?_eq_getElem hju, this⟩) hb
                  refine run_b2s (us := us) hul (fun j u hj => ?_) (by rw [e1]; exact hb)
                  have := (hui j u hj).1
                  rw [add_plain', hbw.cell (hS.lt hblk hbo)]
                  exact this
            · rw [if_neg hm] at h; cases h
        · cases h
    · rw [if_neg he] at h; cases h
theorem convX_int (s d : TypeId) (k : IntKind) (a : Int) : convX P H s d (.int k a) = convS P s d (.int k a) := rfl
theorem convX_bool (s d : TypeId) (a : Bool) : convX P H s d (.bool a) = convS P s d (.bool a) := rfl
theorem convX_str (s d : TypeId) (a : ByteArray) : convX P H s d (.string a) = convS P s d (.string a) := rfl

theorem convX_own (s d : TypeId) (r off : Nat) (sp : Option Nat) (m ver : Nat) : convX P H s d (.slice (some ⟨r, off, sp⟩) m ver) = (elZ P s).bind fun z => if isU8 (P.underlying z.1) = true ∧ isStr (P.underlying d) = true then
    (getB H r ver).bind fun cs => if off + m ≤ cs.length then (bytesV ((cs.drop off).take m)).map fun l => .string ⟨l.toArray⟩ else none else none := by
  unfold convX
  rw [if_neg (by simp [pureV, flatV])]
  unfold convB
  cases elZ P s with
  | none => rfl
  | some z => rfl
theorem convX_isl (s d : TypeId) (m : Nat) (cs : List Value) : convX P H s d (isl m cs) = (elZ P s).bind fun z => if isU8 (P.underlying z.1) = true ∧ isStr (P.underlying d) = true then
    (if m ≤ cs.length then (bytesV (cs.take m)).map fun l => .string ⟨l.toArray⟩ else none) else none := by
  unfold convX
  rw [if_neg (by simp [pureV, flatV, isl])]
  unfold convB
  cases elZ P s with
  | none => rfl
  | some z => simp only [asI_isl]; rfl
theorem isU8_u8 : isU8 (some (.int .u8)) = true := rfl
theorem isStr_str : isStr (some .string) = true := rfl
theorem bytesV_nil : bytesV [] = some [] := rfl
theorem bytesV_cons (n : Int) (l : List Value) : bytesV (.int .u8 n :: l) = (bytesV l).map fun t => UInt8.ofNat n.toNat :: t := rfl
end
end Go.BM

/- What makes memory and what writes it, told by lists. -/
set_option linter.unusedVariables false
set_option linter.unusedSimpArgs false
namespace Go.BM
open Go.RowKit

theorem VR.one {σ : Sg} {H : AH} {v d : Value} (h : VR σ H v d) : v.oneCell' = d.oneCell' := by cases h <;> rfl

section
variable {B : Nat} {σ : Sg} {H : AH} {w w' : World}

/-- A block that is written: in its place, or laid anew. -/
theorem upd_fut (hS : Sim σ H w) {r : Nat} {blk blk' : Blk} (hb : H[r]? = some blk) (hB : B ≤ r)
    (hos : w'.os = w.os) (htape : w'.tape = w.tape) (hout : w'.output = w.output) (hsize : w.heap.size ≤ w'.heap.size)
    (hk : ∀ k, k < w.heap.size → (blk.own = true → k ≠ (σ r).b) → w'.heap[k]? = w.heap[k]?)
    (L : Loc) (hL : (L = σ r ∧ blk.own = true) ∨ (w.heap.size ≤ L.b ∧ blk.ver < blk'.ver)) (hver : blk.ver ≤ blk'.ver) (hown : blk'.own = true) (hsz : blk'.sz = blk.sz) :
    Fut B σ H w (σ.upd r L) (H.set r blk') w' where
  os := hos
  tape := htape
  output := hout
  size := hsize
  frame := fun k hk' hr => hk k hk' (fun ho e => hr r blk hB hb ho e.symm)
  pre := fun q hq => by rw [List.getElem?_set_ne (by omega)]
  preσ := fun q hq _ => by rw [Sg.upd_at, if_neg (by omega)]
  keep := fun q bq hbq => by
    by_cases e : q = r
    · subst e
      rw [hb] at hbq
      cases hbq
      refine ⟨blk', by rw [List.getElem?_set_self (lt_of_some hb)], hver, fun he => ?_⟩
      rcases hL with hL | hL
      · exact ⟨by simp [hL, Sg.upd_at], hsz, by rw [hown, hL.2]⟩
      · omega
    · exact ⟨bq, by rw [List.getElem?_set_ne (Ne.symm e)]; exact hbq, Nat.le_refl _, fun _ => ⟨by simp [e, Sg.upd_at], rfl, rfl⟩⟩
  loc := fun q bq hbq hoq => by
    by_cases e : q = r
    · subst e
      rcases hL with hL | hL
      · exact .inl ⟨blk, hb, hL.2, by simp [hL, Sg.upd_at]⟩
      · exact .inr (by simp only [Sg.upd_at, if_true]; exact hL.1)
    · rw [List.getElem?_set_ne (Ne.symm e)] at hbq
      exact .inl ⟨bq, hbq, hoq, by simp [e, Sg.upd_at]⟩
  imk := fun _ _ h => h
  imn := fun _ _ h => .inl h

/-- Cells written one behind the other, in a row whose mark lies elsewhere. -/
theorem run_storeCells_fz (P : Program) (g o : Nat) (t : TypeId) (fz : Nat × Nat) : ∀ (vs : List Value) (i : Nat) (cur : Array Value) (w : World), w.heap[g]? = some (.cells cur t fz) → (∀ j, j < cur.size → ¬ (fz.1 ≤ j ∧ j < fz.2)) → o + i + vs.length ≤ cur.size → (∀ v ∈ vs, v.oneCell' = true) →
    (storeCells ⟨g, o, none⟩ vs i).run P w = .ok () (w.setRow g (cur.toList.take (o + i) ++ vs ++ cur.toList.drop (o + i + vs.length)).toArray)
  | [], i, cur, w, hg, _, _, _ => by
    simp only [storeCells, List.append_nil, List.length_nil, Nat.add_zero, List.take_append_drop, Array.toArray_toList]
    rw [setRow_self w g cur t fz hg]
    rfl
  | v :: rest, i, cur, w, hg, hz, hl, h1 => by
    have hi : o + i < cur.size := by simp at hl; omega
    have hadd : (⟨g, o, none⟩ : Addr).add i = ⟨g, o + i, none⟩ := by unfold Addr.add; split <;> simp_all
    have hcell : w.cell? ⟨g, o + i, none⟩ = some cur[o + i] := by simp [World.cell?, hg, hi]
    have hfro : w.frozen? ⟨g, o + i, none⟩ = false := by
      have := hz (o + i) hi
      simp only [World.frozen?, hg]
      rw [Bool.and_eq_false_iff, decide_eq_false_iff_not, decide_eq_false_iff_not]
      omega
    have hst : (store ((⟨g, o, none⟩ : Addr).add i) v).run P w = .ok () (w.setRow g (cur.setIfInBounds (o + i) v)) := by
      rw [hadd, run_store P w _ v _ (h1 v (by simp)), hcell]
      simp [hfro, setCell_eq_setRow w g (o + i) cur t fz v hg]
    have ih := run_storeCells_fz P g o t fz rest (i + 1) (cur.setIfInBounds (o + i) v) (w.setRow g (cur.setIfInBounds (o + i) v)) (setRow_heap w g cur _ t _ hg) (by simpa using hz) (by simp at hl ⊢; omega) (fun x hx => h1 x (by simp [hx]))
    simp only [storeCells, Sem.run_bind, hst, Result.andThen_ok, ih, setRow_setRow]
    congr 3
    have e := list_seg_step cur.toList (o + i) v rest (by simp at hl ⊢; omega)
    simpa [Array.toList_setIfInBounds, Nat.add_assoc] using e
theorem upd_sound (hS : Sim σ H w) {r : Nat} {blk blk' : Blk} (hb : H[r]? = some blk) (hB : B ≤ r)
    (hos : w'.os = w.os) (htape : w'.tape = w.tape) (hout : w'.output = w.output) (hsize : w.heap.size ≤ w'.heap.size)
    (hk : ∀ k, k < w.heap.size → (blk.own = true → k ≠ (σ r).b) → w'.heap[k]? = w.heap[k]?)
    (L : Loc) (hL : (L = σ r ∧ blk.own = true) ∨ (w.heap.size ≤ L.b ∧ blk.ver < blk'.ver)) (hver : blk.ver ≤ blk'.ver) (hown : blk'.own = true) (hsz : blk'.sz = blk.sz)
    (c : Array Value) (hc : w'.heap[L.b]? = some (.cells c blk'.el L.fz)) (h0 : L.base = 0) (hn : c.size = L.n) (hle : blk'.cs.length ≤ c.size)
    (hv : ∀ (j : Nat) v, blk'.cs[j]? = some v → ∃ u, c[j]? = some u ∧ VR σ H u v ∧ u.oneCell' = true) :
    Fut B σ H w (σ.upd r L) (H.set r blk') w' ∧ Sim (σ.upd r L) (H.set r blk') w' := by
  have F := upd_fut (B := B) (w' := w') hS hb hB hos htape hout hsize hk L hL hver hown hsz
  have hLlt : L.b < w'.heap.size := (Array.getElem?_eq_some_iff.1 hc).1
  have hne : ∀ q bq, H[q]? = some bq → bq.own = true → q ≠ r → (σ q).b ≠ L.b := fun q bq hbq hlv e => by
    rcases hL with hL | hL
    · rw [hL.1]; exact fun x => hS.inj r q blk bq hb hbq (Ne.symm e) hL.2 hlv x.symm
    · have := hS.lt hbq hlv; omega
  refine ⟨F, ⟨fun q bq hbq hoq => ?_, fun a u ha => ?_, fun a u ha q bq hbq hoq => ?_, fun q q' bq bq' hbq hbq' hqq hoq hlv => ?_, F.glob hS⟩⟩
  · by_cases e : q = r
    · subst e
      rw [List.getElem?_set_self (lt_of_some hb)] at hbq
      cases hbq
      simp only [Sg.upd_at, if_true]
      refine ⟨c, hc, h0, hn, hle, fun j v hj => ?_⟩
      obtain ⟨u, h1, h2, h3⟩ := hv j v hj
      exact ⟨u, h1, h2.fut F, h3⟩
    · rw [List.getElem?_set_ne (Ne.symm e)] at hbq
      simp only [Sg.upd_at, e, if_false]
      obtain ⟨cq, h1, h2, h3, h4, h5⟩ := hS.own q bq hbq hoq
      refine ⟨cq, ?_, h2, h3, h4, fun j v hj => ?_⟩
      · rw [hk _ (hS.lt hbq hoq) (fun ho => hS.inj q r bq blk hbq hb e hoq ho)]; exact h1
      · obtain ⟨u, a1, a2, a3⟩ := h5 j v hj
        exact ⟨u, a1, a2.fut F, a3⟩
  · rw [Sg.upd_im] at ha
    obtain ⟨h1, h2⟩ := hS.im a u ha
    refine ⟨?_, h2⟩
    rw [World.cell?_of_block (w := w) (a := a) (hk _ (hS.imlt ha) (fun ho x => hS.sep a u ha r blk hb ho x.symm))]
    exact h1
  · rw [Sg.upd_im] at ha
    by_cases e : q = r
    · subst e
      simp only [Sg.upd_at, if_true]
      rcases hL with hL | hL
      · rw [hL.1]; exact hS.sep a u ha q blk hb hL.2
      · have := hS.imlt ha; omega
    · rw [List.getElem?_set_ne (Ne.symm e)] at hbq
      simp only [Sg.upd_at, e, if_false]
      exact hS.sep a u ha q bq hbq hoq
  · by_cases e : q = r
    · by_cases e' : q' = r
      · omega
      · rw [List.getElem?_set_ne (Ne.symm e')] at hbq'
        simp only [Sg.upd_at, e, e', if_true, if_false]
        exact (hne q' bq' hbq' hlv e').symm
    · rw [List.getElem?_set_ne (Ne.symm e)] at hbq
      by_cases e' : q' = r
      · simp only [Sg.upd_at, e, e', if_true, if_false]
        exact hne q bq hbq hoq e
      · rw [List.getElem?_set_ne (Ne.symm e')] at hbq'
        simp only [Sg.upd_at, e, e', if_false]
        exact hS.inj q q' bq bq' hbq hbq' hqq hoq hlv

/-- A block that is told no more, or that never stood: whatever is said of it. -/
theorem void_sound (hS : Sim σ H w) {r : Nat} {blk blk' : Blk} (hb : H[r]? = some blk) (hB : B ≤ r) (hver : blk.ver < blk'.ver) (hown : blk'.own = false) :
    Fut B σ H w σ (H.set r blk') w ∧ Sim σ (H.set r blk') w := by
  have get : ∀ q bq, (H.set r blk')[q]? = some bq → bq.own = true → q ≠ r ∧ H[q]? = some bq := fun q bq hbq hoq => by
    by_cases e : q = r
    · subst e
      rw [List.getElem?_set_self (lt_of_some hb)] at hbq
      cases hbq
      rw [hown] at hoq; cases hoq
    · rw [List.getElem?_set_ne (Ne.symm e)] at hbq
      exact ⟨e, hbq⟩
  have F : Fut B σ H w σ (H.set r blk') w := {
    os := rfl
    tape := rfl
    output := rfl
    size := Nat.le_refl _
    frame := fun _ _ _ => rfl
    pre := fun q hq => by rw [List.getElem?_set_ne (by omega)]
    preσ := fun _ _ _ => rfl
    keep := fun q bq hbq => by
      by_cases e : q = r
      · subst e
        rw [hb] at hbq
        cases hbq
        exact ⟨blk', by rw [List.getElem?_set_self (lt_of_some hb)], Nat.le_of_lt hver, fun he => by omega⟩
      · exact ⟨bq, by rw [List.getElem?_set_ne (Ne.symm e)]; exact hbq, Nat.le_refl _, fun _ => ⟨rfl, rfl, rfl⟩⟩
    loc := fun q bq hbq hoq => .inl ⟨bq, (get q bq hbq hoq).2, hoq, rfl⟩
    imk := fun _ _ h => h
    imn := fun _ _ h => .inl h }
  refine ⟨F, ⟨fun q bq hbq hoq => ?_, hS.im, fun a u ha q bq hbq hoq => hS.sep a u ha q bq (get q bq hbq hoq).2 hoq, fun q q' bq bq' hbq hbq' hqq hoq hoq' => hS.inj q q' bq bq' (get q bq hbq hoq).2 (get q' bq' hbq' hoq').2 hqq hoq hoq', F.glob hS⟩⟩
  obtain ⟨c, h1, h2, h3, h4, h5⟩ := hS.own q bq (get q bq hbq hoq).2 hoq
  exact ⟨c, h1, h2, h3, h4, fun j v hj => by obtain ⟨u, a1, a2, a3⟩ := h5 j v hj; exact ⟨u, a1, a2.fut F, a3⟩⟩

/-- A new block. -/
theorem new_sound (hS : Sim σ H w) (hB : B ≤ H.length) {w1 : World} (hw : Below w.heap.size w w1) (blk : Blk) (ho : blk.own = true) (c : Array Value) (hle : blk.cs.length ≤ c.size)
    (hv : ∀ (j : Nat) v, blk.cs[j]? = some v → ∃ u, c[j]? = some u ∧ VR σ H u v ∧ u.oneCell' = true) :
    Fut B σ H w (σ.upd H.length ⟨w1.heap.size, 0, c.size, false⟩) (H ++ [blk]) (w1.alloc (.cells c blk.el)) ∧
      Sim (σ.upd H.length ⟨w1.heap.size, 0, c.size, false⟩) (H ++ [blk]) (w1.alloc (.cells c blk.el)) := by
  have hsz := hw.size
  have hold : ∀ k, k < w.heap.size → (w1.alloc (.cells c blk.el)).heap[k]? = w.heap[k]? := fun k hk => by
    rw [Below.heap_alloc w1 _ k (by omega)]; exact hw.block k hk
  have hnew : (w1.alloc (.cells c blk.el)).heap[w1.heap.size]? = some (.cells c blk.el (0, 0)) := heap_alloc_new w1 _
  have hl : (w1.alloc (.cells c blk.el)).heap.size = w1.heap.size + 1 := by simp
  have getq : ∀ q bq, (H ++ [blk])[q]? = some bq → (q = H.length ∧ bq = blk) ∨ (q ≠ H.length ∧ H[q]? = some bq) := fun q bq h => by
    rcases Nat.lt_or_ge q H.length with h1 | h1
    · rw [List.getElem?_append_left h1] at h; exact .inr ⟨by omega, h⟩
    · rw [List.getElem?_append_right h1] at h
      have : q - H.length = 0 := by
        rcases Nat.eq_zero_or_pos (q - H.length) with h0 | h0
        · exact h0
        · rw [List.getElem?_eq_none (by simp; omega)] at h; cases h
      rw [this] at h
      simp at h
      exact .inl ⟨by omega, h.symm⟩
  have F : Fut B σ H w (σ.upd H.length ⟨w1.heap.size, 0, c.size, false⟩) (H ++ [blk]) (w1.alloc (.cells c blk.el)) := {
    os := hw.os
    tape := hw.tape
    output := hw.output
    size := by omega
    frame := fun k hk _ => hold k hk
    pre := fun r hr => List.getElem?_append_left (by omega)
    preσ := fun r hr hl => by rw [Sg.upd_at, if_neg (by omega)]
    keep := fun r b hb => ⟨b, by rw [List.getElem?_append_left (lt_of_some hb)]; exact hb, Nat.le_refl _, fun _ => ⟨by have := lt_of_some hb; rw [Sg.upd_at, if_neg (by omega)], rfl, rfl⟩⟩
    loc := fun r b hb hob => by
      rcases getq r b hb with ⟨rfl, rfl⟩ | ⟨e, hb'⟩
      · exact .inr (by simp only [Sg.upd_at, if_true]; exact hsz)
      · exact .inl ⟨b, hb', hob, by rw [Sg.upd_at, if_neg e]⟩
    imk := fun _ _ h => h
    imn := fun _ _ h => .inl h }
  refine ⟨F, ⟨fun q bq hbq hoq => ?_, fun a u ha => ?_, fun a u ha q bq hbq hoq => ?_, fun q q' bq bq' hbq hbq' hqq hoq hlv => ?_, F.glob hS⟩⟩
  · rcases getq q bq hbq with ⟨rfl, rfl⟩ | ⟨e, hbq'⟩
    · simp only [Sg.upd_at, if_true]
      refine ⟨c, hnew, trivial, rfl, hle, fun j v hj => ?_⟩
      obtain ⟨u, h1, h2, h3⟩ := hv j v hj
      exact ⟨u, h1, h2.fut F, h3⟩
    · simp only [Sg.upd_at, e, if_false]
      obtain ⟨cq, h1, h2, h3, h4, h5⟩ := hS.own q bq hbq' hoq
      refine ⟨cq, by rw [hold _ (hS.lt hbq' hoq)]; exact h1, h2, h3, h4, fun j v hj => ?_⟩
      obtain ⟨u, a1, a2, a3⟩ := h5 j v hj
      exact ⟨u, a1, a2.fut F, a3⟩
  · rw [Sg.upd_im] at ha
    obtain ⟨h1, h2⟩ := hS.im a u ha
    exact ⟨by rw [World.cell?_of_block (w := w) (a := a) (hold _ (hS.imlt ha))]; exact h1, h2⟩
  · rw [Sg.upd_im] at ha
    rcases getq q bq hbq with ⟨rfl, rfl⟩ | ⟨e, hbq'⟩
    · have := hS.imlt ha
      simp only [Sg.upd_at, if_true]
      omega
    · simp only [Sg.upd_at, e, if_false]
      exact hS.sep a u ha q bq hbq' hoq
  · rcases getq q bq hbq with ⟨rfl, rfl⟩ | ⟨e, hbq1⟩
    · rcases getq q' bq' hbq' with ⟨rfl, rfl⟩ | ⟨e', hbq2⟩
      · omega
      · simp only [Sg.upd_at, if_true, e', if_false]
        have := hS.lt hbq2 hlv
        omega
    · rcases getq q' bq' hbq' with ⟨rfl, rfl⟩ | ⟨e', hbq2⟩
      · simp only [Sg.upd_at, if_true, e, if_false]
        have := hS.lt hbq1 hoq
        omega
      · simp only [Sg.upd_at, e, e', if_false]
        exact hS.inj q q' bq bq' hbq1 hbq2 hqq hoq hlv

end

/-! ### Cells of a value -/
def cellsV : Value → List Value
  | .agg cs => cs.toList
  | v => [v]

theorem cellsV_eq (v : Value) : v.cells.toList = cellsV v := by cases v <;> rfl

theorem VR.cellsV {σ : Sg} {H : AH} {v d : Value} (h : VR σ H v d) : (cellsV v).length = (cellsV d).length ∧ ∀ (j : Nat) u, (cellsV d)[j]? = some u → ∃ x, (cellsV v)[j]? = some x ∧ VR σ H x u := by
  by_cases hd : ∃ ys, d = .agg ys
  · obtain ⟨ys, rfl⟩ := hd
    obtain ⟨xs, rfl, hs, hv⟩ := h.aggI
    refine ⟨by simpa [BM.cellsV] using hs, fun j u hu => ?_⟩
    simp only [BM.cellsV, Array.getElem?_toList] at hu ⊢
    obtain ⟨hj, rfl⟩ := Array.getElem?_eq_some_iff.1 hu
    exact ⟨xs[j]'(by omega), Array.getElem?_eq_getElem (by omega), hv j (by omega) hj⟩
  · have e1 : BM.cellsV d = [d] := by cases d <;> first | rfl | (exact absurd ⟨_, rfl⟩ hd)
    have e2 : BM.cellsV v = [v] := by
      cases h <;> first | rfl | (exact absurd ⟨_, rfl⟩ hd) | skip
      rename_i hf
      cases v <;> first | rfl | (simp [flatV] at hf)
    rw [e1, e2]
    refine ⟨rfl, fun j u hu => ?_⟩
    cases j with
    | zero => simp at hu; subst hu; exact ⟨v, rfl, h⟩
    | succ j => simp at hu

/-! ### box, alloc -/
def mkB (el : TypeId) (sz : Nat) (cs : List Value) : Blk := ⟨el, sz, cs, 0, true⟩

section
variable {P : Program} {B : Nat} {σ : Sg} {H : AH} {w : World}

/-- The end of an operation: the machine comes to a value and a world, and these are told by lists. -/
def Goes (P : Program) (B : Nat) (σ : Sg) (H : AH) (w : World) (r : Result Value) (d : Value) (H' : AH) : Prop :=
  ∃ v w' σ', r = .ok v w' ∧ Fut B σ H w σ' H' w' ∧ Sim σ' H' w' ∧ VR σ' H' v d

theorem box_sound (hS : Sim σ H w) (hB : B ≤ H.length) {T : TypeId} {x d : Value} (hx : VR σ H x d) (h1 : (cellsV d).all Value.oneCell' = true) (sz : Nat) :
    Goes P B σ H w ((Instr.box T x).run P w) (.pointer (some ⟨H.length, 0, some 0⟩)) (H ++ [mkB T sz (cellsV d)]) := by
  obtain ⟨hl, hc⟩ := hx.cellsV
  have hcs : x.cells.size = (cellsV x).length := by rw [← cellsV_eq]; simp
  obtain ⟨F, S⟩ := new_sound (B := B) hS hB (Below.refl _ w) (mkB T sz (cellsV d)) rfl x.cells (by rw [hcs, hl]; exact Nat.le_refl _) fun j v hj => by
    obtain ⟨u, hu, hv⟩ := hc j v hj
    refine ⟨u, by rw [← Array.getElem?_toList, cellsV_eq]; exact hu, hv, ?_⟩
    rw [hv.one]
    exact List.all_eq_true.1 h1 v (List.mem_of_getElem? hj)
  refine ⟨.pointer (some ⟨w.heap.size, 0, none⟩), _, _, by simp [Instr.box, newVar, newRow]; rfl, F, S, ?_⟩
  have := VR.ptr (σ := σ.upd H.length ⟨w.heap.size, 0, x.cells.size, false⟩) (H := H ++ [mkB T sz (cellsV d)]) H.length 0 0 (mkB T sz (cellsV d)) (by simp) rfl rfl
  simpa [Sg.upd_at] using this

def zeroV (P : Program) (t : TypeId) : Option Value := (P.info? t).bind (·.zero)

/-! ### store -/
def splice (cs : List Value) (off : Nat) (news : List Value) : List Value := cs.take off ++ news ++ cs.drop (off + news.length)

theorem splice_len {cs news : List Value} {off : Nat} (h : off + news.length ≤ cs.length) : (splice cs off news).length = cs.length := by
  unfold splice; simp; omega

theorem splice_get {cs news : List Value} {off : Nat} (h : off + news.length ≤ cs.length) (j : Nat) : (splice cs off news)[j]? = if j < off then cs[j]? else if j < off + news.length then news[j - off]? else cs[j]? := by
  unfold splice
  have ht : (cs.take off).length = off := by simp; omega
  by_cases h1 : j < off
  · rw [if_pos h1, List.append_assoc, List.getElem?_append_left (by omega), List.getElem?_take]
    simp [h1]
  · rw [if_neg h1, List.append_assoc, List.getElem?_append_right (by omega), ht]
    by_cases h2 : j < off + news.length
    · rw [if_pos h2, List.getElem?_append_left (by omega)]
    · rw [if_neg h2, List.getElem?_append_right (by omega), List.getElem?_drop]
      congr 1
      omega

def storeH (P : Program) (B : Nat) (H : AH) (t : TypeId) (x v : Value) : Option AH :=
  match x with
  | .pointer (some ⟨r, off, some ver⟩) =>
    (match lay P t, H[r]? with
     | some (_, n), some blk =>
       if blk.ver = ver ∧ blk.own = true ∧ B ≤ r ∧ (cellsV v).length = n ∧ off + n ≤ blk.cs.length ∧ (cellsV v).all Value.oneCell' = true then
         some (H.set r { blk with cs := splice blk.cs off (cellsV v) }) else none
     | _, _ => none)
  | _ => none

theorem store_sound (hS : Sim σ H w) {t : TypeId} {x v dx dv : Value} {H' : AH} (hx : VR σ H x dx) (hv : VR σ H v dv) (h : storeH P B H t dx dv = some H') :
    ∃ w' σ', (Instr.storeAt t x v).run P w = .ok () w' ∧ Fut B σ H w σ' H' w' ∧ Sim σ' H' w' := by
  unfold storeH at h
  split at h
  case h_2 => cases h
  rename_i r off ver
  cases hl : lay P t with
  | none => rw [hl] at h; cases h
  | some gn =>
    obtain ⟨g, n⟩ := gn
    cases hb : H[r]? with
    | none => rw [hl, hb] at h; cases h
    | some blk =>
      rw [hl, hb] at h
      dsimp only at h
      by_cases hc : blk.ver = ver ∧ blk.own = true ∧ B ≤ r ∧ (cellsV dv).length = n ∧ off + n ≤ blk.cs.length ∧ (cellsV dv).all Value.oneCell' = true
      · rw [if_pos hc] at h
        cases h
        obtain ⟨h1, h2, h3, h4, h5, h6⟩ := hc
        have hg : getB H r ver = some blk.cs := by simp [getB, hb, h1, h2]
        have := hx.ptrI hg
        subst this
        obtain ⟨c, hc1, hc2, hc3, hc4, hc5⟩ := hS.own r blk hb h2
        obtain ⟨vl, vc⟩ := hv.cellsV
        obtain ⟨hag, hso, _⟩ := run_isAgg hl w
        have honec : ∀ u ∈ cellsV v, u.oneCell' = true := by
          intro u hu
          obtain ⟨j, hj, rfl⟩ := List.getElem_of_mem hu
          have hj2 : j < (cellsV dv).length := by omega
          obtain ⟨x', hx', hvx⟩ := vc j _ (List.getElem?_eq_getElem hj2)
          rw [List.getElem?_eq_getElem hj] at hx'
          cases hx'
          rw [hvx.one]
          exact List.all_eq_true.1 h6 _ (List.getElem_mem hj2)
        have hfit : off + (cellsV v).length ≤ c.size := by omega
        have hst := run_storeCells_fz P (σ r).b off blk.el _ (cellsV v) 0 c w hc1 (fun j hj => (σ r).fz_free (hc3 ▸ hj)) (by omega) honec
        simp only [Nat.add_zero] at hst
        have hrun : (Instr.storeAt t (.pointer (some ⟨(σ r).b, (σ r).base + off, none⟩)) v).run P w = .ok () (w.setRow (σ r).b (c.toList.take off ++ cellsV v ++ c.toList.drop (off + (cellsV v).length)).toArray) := by
          have hsz : v.cells.size = n := by rw [← Array.length_toList, cellsV_eq, vl, h4]
          rw [hc2, Nat.zero_add]
          simp [Instr.storeAt, Instr.sureAddr, storeVar, hso, hsz, cellsV_eq, hst]
        obtain ⟨F, S⟩ := upd_sound (B := B) (w' := w.setRow (σ r).b (c.toList.take off ++ cellsV v ++ c.toList.drop (off + (cellsV v).length)).toArray) (blk' := { blk with cs := splice blk.cs off (cellsV dv) }) hS hb h3 rfl rfl rfl (by simp)
          (fun k _ hk => setRow_other w _ k _ (hk h2)) (σ r) (.inl ⟨rfl, h2⟩) (Nat.le_refl _) h2 rfl _ (setRow_heap w _ c _ _ _ hc1) hc2 (by simp; omega) (by simp [splice_len (cs := blk.cs) (news := cellsV dv) (off := off) (by omega)]; omega) (by
            intro j u hj
            rw [splice_get (by omega)] at hj
            have hget := splice_get (cs := c.toList) (news := cellsV v) (off := off) (by simp; omega) j
            unfold splice at hget
            simp only [List.getElem?_toArray]
            rw [hget]
            by_cases j1 : j < off
            · rw [if_pos j1] at hj ⊢
              obtain ⟨x', a1, a2, a3⟩ := hc5 j u hj
              exact ⟨x', by simpa using a1, a2, a3⟩
            · rw [if_neg j1] at hj ⊢
              by_cases j2 : j < off + (cellsV dv).length
              · rw [if_pos j2] at hj
                rw [if_pos (by omega)]
                obtain ⟨x', a1, a2⟩ := vc _ u hj
                refine ⟨x', a1, a2, honec x' (List.mem_of_getElem? a1)⟩
              · rw [if_neg j2] at hj
                rw [if_neg (by omega)]
                obtain ⟨x', a1, a2, a3⟩ := hc5 j u hj
                exact ⟨x', by simpa using a1, a2, a3⟩)
        exact ⟨_, _, hrun, F, S⟩
      · rw [if_neg hc] at h; cases h

end
end Go.BM

/- Slices of slices, literals, make and append, told by lists. -/
set_option linter.unusedVariables false
set_option linter.unusedSimpArgs false
namespace Go.BM
open Go.RowKit

section
variable {P : Program} {B : Nat} {σ : Sg} {H : AH} {w : World}

/-! ### a slice of a slice -/
def boundV : Option Value → Int → Option Int
  | none, d => some d
  | some (.int _ n), _ => some n
  | _, _ => none

def sliceV (P : Program) (H : AH) (t : TypeId) (x : Value) (lo hi mx : Option Value) : Option Value :=
  match elZ P t with
  | none => none
  | some (_, sz, _) =>
    (match asI x with
     | some (len, cs) =>
       (match boundV lo 0, boundV hi len, boundV mx len with
        | some l, some h, some m =>
          if 0 ≤ l ∧ l ≤ h ∧ h ≤ m ∧ m ≤ len ∧ (mx.isSome = true → hi.isSome = true) then
            (if mx.isSome = true ∧ m = l then some (.slice none 0 0) else some (isl (h - l).toNat ((cs.drop (l.toNat * sz)).take ((h - l).toNat * sz)))) else none
        | _, _, _ => none)
     | none =>
       (match x with
        | .slice (some ⟨r, off, sp⟩) len ver =>
          (match H[r]?, boundV lo 0, boundV hi len, boundV mx (sp.getD len) with
           | some blk, some l, some h, some m =>
             if blk.ver = ver ∧ blk.own = true ∧ blk.sz = sz ∧ 0 ≤ l ∧ l ≤ h ∧ h ≤ m ∧ m ≤ ((sp.getD len : Nat) : Int) ∧ (mx.isSome = true → hi.isSome = true) then
               some (.slice (some ⟨r, off + l.toNat * sz, some (m - l).toNat⟩) (h - l).toNat ver) else none
           | _, _, _, _ => none)
        | .slice none 0 0 =>
          (match boundV lo 0, boundV hi 0, boundV mx 0 with
           | some l, some h, some m => if l = 0 ∧ h = 0 ∧ m = 0 ∧ (mx.isSome = true → hi.isSome = true) then some (.slice none 0 0) else none
           | _, _, _ => none)
        | _ => none))

theorem bounds_run {len cap kc : Nat} {lo hi mx : Option Value} {l h m : Int} (hl : boundV lo 0 = some l) (hh : boundV hi len = some h) (hm : boundV mx kc = some m)
    (h0 : 0 ≤ l) (h1 : l ≤ h) (h2 : h ≤ m) (h3 : m ≤ kc) (hkc : kc ≤ cap) (hlc : len ≤ cap) (hmh : mx.isSome = true → hi.isSome = true) :
    ∃ mm : Nat, (∀ w', (Instr.sliceBounds true len cap lo hi mx).run P w' = .ok (l.toNat, h.toNat, mm) w') ∧ mm ≤ cap ∧ m.toNat ≤ mm ∧ (mx.isSome = true → mm = m.toNat) := by
  have shut : ∀ (o : Option Value) (d n : Int), boundV o d = some n → o = none ∧ n = d ∨ ∃ k, o = some (.int k n) := by
    intro o d n hb
    cases o with
    | none => simp [boundV] at hb; exact .inl ⟨rfl, hb.symm⟩
    | some v => cases v <;> simp [boundV] at hb <;> exact .inr ⟨_, by rw [hb]⟩
  have e0 : 0 ≤ h := by omega
  have e1 : 0 ≤ m := by omega
  have e3 : h ≤ (cap : Int) := by omega
  have e4 : m ≤ (cap : Int) := by omega
  have t1 : (h.toNat : Int) = h := Int.toNat_of_nonneg e0
  have t2 : (m.toNat : Int) = m := Int.toNat_of_nonneg e1
  rcases shut mx _ _ hm with ⟨rfl, rfl⟩ | ⟨km, rfl⟩
  · refine ⟨cap, fun w' => ?_, Nat.le_refl _, by omega, by simp⟩
    rcases shut hi _ _ hh with ⟨rfl, rfl⟩ | ⟨kh, rfl⟩ <;> rcases shut lo _ _ hl with ⟨rfl, rfl⟩ | ⟨kl, rfl⟩ <;>
      simp [Instr.sliceBounds, run_sliceBound, h0, h1, e0, e3, t1]
  · refine ⟨m.toNat, fun w' => ?_, by omega, by omega, fun _ => rfl⟩
    obtain ⟨kh, rfl⟩ : ∃ k, hi = some (.int k h) := by
      rcases shut hi _ _ hh with ⟨rfl, rfl⟩ | h'
      · simp at hmh
      · exact h'
    rcases shut lo _ _ hl with ⟨rfl, rfl⟩ | ⟨kl, rfl⟩ <;>
      simp [Instr.sliceBounds, run_sliceBound, h0, h1, h2, e0, e1, e3, e4, t1, t2]

theorem slice_sound {t : TypeId} {x dx d : Value} {lo hi mx lo' hi' mx' : Option Value} (hx : VR σ H x dx) (hS : Sim σ H w)
    (elo : ∀ n, boundV lo' 0 = some n → boundV lo 0 = some n) (ehi : ∀ k n, boundV hi' k = some n → boundV hi k = some n) (emx : ∀ k n, boundV mx' k = some n → boundV mx k = some n)
    (i1 : hi.isSome = hi'.isSome) (i2 : mx.isSome = mx'.isSome)
    (h : sliceV P H t dx lo' hi' mx' = some d) : ∃ u, VR σ H u d ∧ ∀ w', (Instr.sliceAt t x lo hi mx).run P w' = .ok u w' := by
  unfold sliceV at h
  cases he : elZ P t with
  | none => rw [he] at h; cases h
  | some esz =>
  obtain ⟨e, sz, by_⟩ := esz
  rw [he] at h
  dsimp only at h
  obtain ⟨hu, i, hi2, hsz, _⟩ := elZ_some he
  have hP : P.underlying t = some (.slice (P.elem t)) := by rw [elem_of hu]; exact hu
  have run : ∀ (a : Option Addr) (len cap kc : Nat) (l hh m : Int), boundV lo' 0 = some l → boundV hi' len = some hh → boundV mx' kc = some m → 0 ≤ l → l ≤ hh → hh ≤ m → m ≤ kc → kc ≤ cap → len ≤ cap → (mx'.isSome = true → hi'.isSome = true) →
      ∃ mm : Nat, mm ≤ cap ∧ m.toNat ≤ mm ∧ (mx'.isSome = true → mm = m.toNat) ∧ ∀ w', (Instr.sliceAt t (.slice a len cap) lo hi mx).run P w' = .ok (sliced a l.toNat hh.toNat mm sz) w' := by
    intro a len cap kc l hh m q1 q2 q3 c1 c2 c3 c4 c5 c6 c7
    obtain ⟨mm, hr, r1, r2, r3⟩ := bounds_run (P := P) (elo _ q1) (ehi _ _ q2) (emx _ _ q3) c1 c2 c3 c4 c5 c6 (by rw [i1, i2]; exact c7)
    refine ⟨mm, r1, r2, by rw [← i2]; exact r3, fun w' => ?_⟩
    rw [run_sliceAt_slice (h := hP), run_slice_any (ht := hP), hr w', elem_of hu]
    simp only [Result.andThen_ok, run_sizeOf hi2, hsz]
  cases ha : asI dx with
  | some lc =>
    obtain ⟨len, cs⟩ := lc
    rw [ha] at h
    dsimp only at h
    split at h
    case h_2 => cases h
    rename_i l hh m hl hhi hm
    by_cases hc : 0 ≤ l ∧ l ≤ hh ∧ hh ≤ m ∧ m ≤ len ∧ (mx'.isSome = true → hi'.isSome = true)
    · rw [if_pos hc] at h
      obtain ⟨c1, c2, c3, c4, c5⟩ := hc
      rcases hx.aslice ha with ⟨rfl, rfl, a, cap, rfl, hcm⟩ | ⟨b, o, cap, us, rfl, hlc, hcm, hul, hui, huv⟩
      · obtain ⟨mm, r1, r2, r3, hr⟩ := run a 0 cap 0 l hh m hl hhi hm c1 c2 c3 c4 (by omega) (by omega) c5
        have z1 : l = 0 := by omega
        have z2 : hh = 0 := by omega
        have z3 : m = 0 := by omega
        subst z1 z2 z3
        refine ⟨_, ?_, hr⟩
        by_cases hq : mx'.isSome = true ∧ (0 : Int) = 0
        · rw [if_pos hq] at h
          cases h
          have := r3 hq.1
          simp at this
          subst this
          exact .mt _ _ _ (fun x hx => by cases hx)
        · rw [if_neg hq] at h
          cases h
          have := VR.isl0 (σ := σ) (H := H) (if mm = 0 then a else a.map (·.add (0 * sz))) mm (by omega)
          simpa [BM.isl, sliced] using this
      · obtain ⟨mm, r1, r2, r3, hr⟩ := run _ len cap len l hh m hl hhi hm c1 c2 c3 c4 hlc hlc c5
        refine ⟨_, ?_, hr⟩
        unfold sliced
        by_cases hq : mx'.isSome = true ∧ m = l
        · rw [if_pos hq] at h
          cases h
          have h3 := r3 hq.1
          have e1 : mm = l.toNat := by omega
          rw [if_pos e1, show hh.toNat - l.toNat = 0 by omega, show mm - l.toNat = 0 by omega]
          exact .mt _ _ _ (fun x hx => by cases hx)
        · rw [if_neg hq] at h
          cases h
          by_cases hml : mm = l.toNat
          · rw [if_pos hml, show hh.toNat - l.toNat = 0 by omega, show mm - l.toNat = 0 by omega, show (hh - l).toNat = 0 by omega]
            have := VR.isl0 (σ := σ) (H := H) (some ⟨b, o, none⟩) 0 (Nat.zero_le _)
            simpa [BM.isl] using this
          · rw [if_neg hml, show (hh - l).toNat = hh.toNat - l.toNat by omega]
            simp only [Option.map_some, add_plain']
            refine VR.mkI (us := (us.drop (l.toNat * sz)).take ((hh.toNat - l.toNat) * sz)) (by omega) (by omega) (by simp [hul]) (fun j u hj => ?_) fun j u hj => ?_
            · rw [List.getElem?_take] at hj
              split at hj
              · rw [List.getElem?_drop] at hj
                have := hui _ u hj
                rw [← Nat.add_assoc] at this
                exact this
              · cases hj
            · rw [List.getElem?_take] at hj ⊢
              split at hj
              · rename_i hlt
                rw [if_pos hlt]
                rw [List.getElem?_drop] at hj ⊢
                exact huv _ u hj
              · cases hj
    · rw [if_neg hc] at h; cases h
  | none =>
    rw [ha] at h
    dsimp only at h
    split at h
    · rename_i r off sp len ver
      split at h
      case h_2 => cases h
      rename_i blk l hh m hb hl hhi hm
      by_cases hc : blk.ver = ver ∧ blk.own = true ∧ blk.sz = sz ∧ 0 ≤ l ∧ l ≤ hh ∧ hh ≤ m ∧ m ≤ ((sp.getD len : Nat) : Int) ∧ (mx'.isSome = true → hi'.isSome = true)
      · rw [if_pos hc] at h
        cases h
        obtain ⟨c1, co, c2, c3, c4, c5, c6, c7⟩ := hc
        have hg : getB H r ver = some blk.cs := by simp [getB, hb, c1, co]
        rcases hx.sliceI hg with ⟨h0, hz, a, rfl⟩ | ⟨cap, blk', hb', rfl, hlc, hsp, hcm, hown⟩
        · subst h0
          rw [hz] at c6
          obtain ⟨mm, r1, r2, r3, hr⟩ := run a 0 0 0 l hh m hl hhi (by rw [hz] at hm; exact hm) c3 c4 c5 c6 (by omega) (by omega) c7
          refine ⟨_, ?_, hr⟩
          have : mm = 0 := by omega
          subst this
          have e1 : l = 0 := by omega
          have e2 : hh = 0 := by omega
          have e3 : m = 0 := by omega
          subst e1 e2 e3
          exact .mt _ _ _ (fun x hx => by cases hx; rfl)
        · rw [hb] at hb'
          cases hb'
          obtain ⟨mm, r1, r2, r3, hr⟩ := run _ len cap (sp.getD len) l hh m hl hhi hm c3 c4 c5 c6 hsp hlc c7
          refine ⟨_, ?_, hr⟩
          unfold sliced
          by_cases hml : mm = l.toNat
          · rw [if_pos hml, show hh.toNat - l.toNat = 0 by omega, show mm - l.toNat = 0 by omega, show (hh - l).toNat = 0 by omega]
            exact .mt _ _ _ (fun x hx => by cases hx; simp; omega)
          · rw [if_neg hml, show (hh - l).toNat = hh.toNat - l.toNat by omega]
            simp only [Option.map_some, add_plain', Nat.add_assoc]
            refine .slice r (off + l.toNat * sz) _ _ ver _ blk hb c1 co (by omega) (by simp only [Option.getD_some]; omega) (by omega) ?_
            rw [c2] at hown ⊢
            have h2 : (l.toNat + (mm - l.toNat)) * sz ≤ cap * sz := Nat.mul_le_mul_right _ (by omega)
            rw [Nat.add_mul] at h2
            omega
      · rw [if_neg hc] at h; cases h
    · split at h
      case h_2 => cases h
      rename_i l hh m hl hhi hm
      by_cases hc : l = 0 ∧ hh = 0 ∧ m = 0 ∧ (mx'.isSome = true → hi'.isSome = true)
      · rw [if_pos hc] at h
        cases h
        obtain ⟨rfl, rfl, rfl, c7⟩ := hc
        obtain ⟨a, rfl⟩ := hx.sliceNil rfl
        obtain ⟨mm, r1, r2, r3, hr⟩ := run a 0 0 0 0 0 0 hl hhi hm (by omega) (by omega) (by omega) (by omega) (by omega) (by omega) c7
        refine ⟨_, ?_, hr⟩
        have : mm = 0 := by omega
        subst this
        exact .mt _ _ _ (fun x hx => by cases hx)
      · rw [if_neg hc] at h; cases h
    · cases h

end
end Go.BM

/- Literals of structs and slices, make and append, told by lists. -/
set_option linter.unusedVariables false
set_option linter.unusedSimpArgs false
namespace Go.BM
open Go.RowKit

/-- Two lists of cells, one for one. -/
def VRL (σ : Sg) (H : AH) (xs ys : List Value) : Prop := xs.length = ys.length ∧ ∀ (j : Nat) u, ys[j]? = some u → ∃ x, xs[j]? = some x ∧ VR σ H x u

theorem VRL.one {σ : Sg} {H : AH} {xs ys : List Value} (h : VRL σ H xs ys) (h1 : ys.all Value.oneCell' = true) : ∀ u ∈ xs, u.oneCell' = true := by
  intro u hu
  obtain ⟨j, hj, rfl⟩ := List.getElem_of_mem hu
  have hj2 : j < ys.length := by rw [← h.1]; exact hj
  obtain ⟨x, hx, hv⟩ := h.2 j _ (List.getElem?_eq_getElem hj2)
  rw [List.getElem?_eq_getElem hj] at hx
  cases hx
  rw [hv.one]
  exact List.all_eq_true.1 h1 _ (List.getElem_mem hj2)

theorem VRL.append {σ : Sg} {H : AH} {xs ys xs' ys' : List Value} (h : VRL σ H xs ys) (h' : VRL σ H xs' ys') : VRL σ H (xs ++ xs') (ys ++ ys') := by
  refine ⟨by simp [h.1, h'.1], fun j u hu => ?_⟩
  rcases Nat.lt_or_ge j ys.length with hj | hj
  · rw [List.getElem?_append_left hj] at hu
    obtain ⟨x, hx, hv⟩ := h.2 j u hu
    exact ⟨x, by rw [List.getElem?_append_left (by rw [h.1]; exact hj)]; exact hx, hv⟩
  · rw [List.getElem?_append_right hj] at hu
    obtain ⟨x, hx, hv⟩ := h'.2 _ u hu
    exact ⟨x, by rw [List.getElem?_append_right (by rw [h.1]; exact hj), h.1]; exact hx, hv⟩

theorem VRL.splice {σ : Sg} {H : AH} {xs ys xs' ys' : List Value} (h : VRL σ H xs ys) (h' : VRL σ H xs' ys') (off : Nat) (hf : off + ys'.length ≤ ys.length) : VRL σ H (splice xs off xs') (splice ys off ys') := by
  have e1 := h.1
  have e2 := h'.1
  refine ⟨by rw [splice_len (by omega), splice_len (by omega)]; exact e1, fun j u hu => ?_⟩
  rw [splice_get (by omega)] at hu ⊢
  by_cases a : j < off
  · rw [if_pos a] at hu ⊢; exact h.2 j u hu
  · rw [if_neg a] at hu ⊢
    by_cases b : j < off + ys'.length
    · rw [if_pos b] at hu; rw [if_pos (by omega)]; exact h'.2 _ u hu
    · rw [if_neg b] at hu; rw [if_neg (by omega)]; exact h.2 j u hu

theorem VRL.consts {σ : Sg} {H : AH} {zs : List Value} (h : zs.all constOk = true) : VRL σ H zs zs :=
  ⟨rfl, fun j u hu => ⟨u, hu, flat_const (List.all_eq_true.1 h u (List.mem_of_getElem? hu)) σ H⟩⟩

theorem VR.cellsL {σ : Sg} {H : AH} {v d : Value} (h : VR σ H v d) : VRL σ H (BM.cellsV v) (BM.cellsV d) := h.cellsV

theorem VRL.toAgg {σ : Sg} {H : AH} {xs ys : List Value} (h : VRL σ H xs ys) : VR σ H (.agg xs.toArray) (.agg ys.toArray) :=
  .agg _ _ (by simpa using h.1) fun i h1 h2 => by
    obtain ⟨x, hx, hv⟩ := h.2 i ys[i] (List.getElem?_eq_getElem (by simpa using h2))
    have : xs[i]'(by simpa using h1) = x := by
      rw [List.getElem?_eq_getElem (by simpa using h1)] at hx
      exact Option.some.inj hx
    simpa [this] using hv

/-! ### struct literals -/
def fillL (places : List (Nat × Nat)) : List Value → List (Nat × Value) → Option (List Value)
  | cs, [] => some cs
  | cs, (i, v) :: rest =>
    match places[i]? with
    | none => none
    | some (off, size) => if (cellsV v).length = size ∧ off + size ≤ cs.length then fillL places (splice cs off (cellsV v)) rest else none

theorem foldl_set (off : Nat) : ∀ (l : List Value) (k : Nat) (cs : List Value), off + k + l.length ≤ cs.length →
    (l.zipIdx k).foldl (fun (a : Array Value) (p : Value × Nat) => a.setIfInBounds (off + p.2) p.1) cs.toArray = (splice cs (off + k) l).toArray
  | [], k, cs, _ => by simp [splice]
  | v :: l, k, cs, h => by
    simp only [List.length_cons] at h
    simp only [List.zipIdx_cons, List.foldl_cons]
    have e : cs.toArray.setIfInBounds (off + k) v = (cs.set (off + k) v).toArray := by simp
    rw [e, foldl_set off l (k + 1) (cs.set (off + k) v) (by simp; omega)]
    congr 1
    unfold splice
    apply List.ext_getElem?
    intro j
    have t1 : (List.take (off + (k + 1)) (cs.set (off + k) v)).length = off + k + 1 := by simp; omega
    have t2 : (List.take (off + k) cs).length = off + k := by simp; omega
    rw [List.append_assoc, List.append_assoc]
    rcases Nat.lt_trichotomy j (off + k) with h1 | h1 | h1
    · rw [List.getElem?_append_left (by omega), List.getElem?_append_left (by omega), List.getElem?_take, List.getElem?_take, if_pos (by omega), if_pos h1, List.getElem?_set_ne (by omega)]
    · subst h1
      rw [List.getElem?_append_left (by omega), List.getElem?_append_right (by omega), List.getElem?_take, if_pos (by omega), List.getElem?_set_self (by omega), t2]
      simp
    · rw [List.getElem?_append_right (show (List.take (off + (k + 1)) (cs.set (off + k) v)).length ≤ j by omega), List.getElem?_append_right (show (List.take (off + k) cs).length ≤ j by omega), t1, t2]
      have e2 : j - (off + k) = (j - (off + k + 1)) + 1 := by omega
      rw [e2, List.cons_append, List.getElem?_cons_succ]
      rcases Nat.lt_or_ge (j - (off + k + 1)) l.length with h2 | h2
      · rw [List.getElem?_append_left h2, List.getElem?_append_left h2]
      · rw [List.getElem?_append_right h2, List.getElem?_append_right h2, List.getElem?_drop, List.getElem?_drop, List.getElem?_set_ne (by omega)]
        congr 1
        simp only [List.length_cons]
        omega

theorem fill_eq (places : List (Nat × Nat)) : ∀ (parts : List (Nat × Value)) (cs cs' : List Value), fillL places cs parts = some cs' →
    Instr.fill (fun i => places[i]?) cs.toArray parts = some cs'.toArray
  | [], cs, cs', h => by simp [fillL] at h; subst h; rfl
  | (i, v) :: rest, cs, cs', h => by
    unfold fillL at h
    unfold Instr.fill
    cases hp : places[i]? with
    | none => rw [hp] at h; cases h
    | some os =>
      obtain ⟨off, size⟩ := os
      rw [hp] at h
      dsimp only at h ⊢
      by_cases hc : (cellsV v).length = size ∧ off + size ≤ cs.length
      · rw [if_pos hc] at h
        have hs : v.cells.size = size := by rw [← Array.length_toList, cellsV_eq]; exact hc.1
        have n1 : (decide (v.cells.size ≠ size) || decide (off + v.cells.size > cs.toArray.size)) = false := by
          simp [hs]; exact hc.2
        rw [if_neg (by rw [n1]; exact Bool.false_ne_true)]
        have hf := foldl_set off (cellsV v) 0 cs (by omega)
        have e : Array.foldl (fun (a : Array Value) (p : Value × Nat) => a.setIfInBounds (off + p.2) p.1) cs.toArray v.cells.zipIdx = (splice cs off (cellsV v)).toArray := by
          rw [← Array.foldl_toList, Array.toList_zipIdx, cellsV_eq]
          simpa using hf
        have ih := fill_eq places rest _ _ h
        rw [← e] at ih
        exact ih
      · rw [if_neg hc] at h; cases h

def strT (P : Program) (t : TypeId) : Option (List Value × List (Nat × Nat)) :=
  match P.info? t, P.underlying t with
  | some it, some (.struct fields) =>
    (match it.zero, fields.toList.mapM (fun f => (P.info? f.type).map fun i => (f.offset, i.size)) with
     | some z, some places => some (z.cells.toList, places)
     | _, _ => none)
  | _, _ => none

section
variable {P : Program} {B n : Nat} {σ : Sg} {H : AH} {w : World} {a : Act} {e : Env}

theorem built_eq {t : TypeId} {zs : List Value} {places : List (Nat × Nat)} (hT : strT P t = some (zs, places)) {parts : List (Nat × Value)} {cs : List Value} (h : fillL places zs parts = some cs) : P.built t parts = some cs.toArray := by
  unfold strT at hT
  unfold Program.built
  cases hi : P.info? t with
  | none => rw [hi] at hT; cases hT
  | some it =>
    cases hu : P.underlying t with
    | none => rw [hi, hu] at hT; cases hT
    | some d =>
      rw [hi, hu] at hT
      cases d <;> try (cases hT; done)
      rename_i fields
      dsimp only at hT ⊢
      cases hz : it.zero with
      | none => rw [hz] at hT; cases hT
      | some z =>
        cases hp : fields.toList.mapM (fun f => (P.info? f.type).map fun i => (f.offset, i.size)) with
        | none => rw [hz, hp] at hT; cases hT
        | some pl =>
          rw [hz, hp] at hT
          dsimp only at hT ⊢
          cases hT
          have := fill_eq _ parts _ _ h
          simpa using this

theorem fillL_rel (hE : ER n σ H a e) (places : List (Nat × Nat)) : ∀ (ps : List (Nat × Operand)), (∀ p ∈ ps, opdOk n p.2 = true) → ∀ (cs ds ds' : List Value), VRL σ H cs ds →
    fillL places ds (ps.map fun p => (p.1, ev e p.2)) = some ds' → ∃ cs', fillL places cs (ps.map fun p => (p.1, a.eval p.2)) = some cs' ∧ VRL σ H cs' ds'
  | [], _, cs, ds, ds', hc, h => by simp [fillL] at h; subst h; exact ⟨cs, rfl, hc⟩
  | p :: ps, hok, cs, ds, ds', hc, h => by
    obtain ⟨i, x⟩ := p
    simp only [List.map_cons] at h ⊢
    unfold fillL at h ⊢
    cases hp : places[i]? with
    | none => rw [hp] at h; cases h
    | some os =>
      obtain ⟨off, size⟩ := os
      rw [hp] at h
      dsimp only at h ⊢
      have hv := (hE.eval (hok (i, x) (by simp))).cellsL
      by_cases hcc : (cellsV (ev e x)).length = size ∧ off + size ≤ ds.length
      · rw [if_pos hcc] at h
        rw [if_pos ⟨by rw [hv.1]; exact hcc.1, by rw [hc.1]; exact hcc.2⟩]
        exact fillL_rel hE places ps (fun p hp => hok p (by simp [hp])) _ _ _ (hc.splice hv off (by have := hcc.1; have := hcc.2; dsimp only at *; omega)) h
      · rw [if_neg hcc] at h; cases h

def buildV (P : Program) (t : TypeId) (parts : List (Nat × Value)) : Option Value :=
  match strT P t with
  | some (zs, places) => if zs.all constOk = true then (fillL places zs parts).map fun cs => .agg cs.toArray else none
  | none => none

theorem build_sound (hE : ER n σ H a e) {t : TypeId} {ps : Array (Nat × Operand)} (hok : ∀ p ∈ ps.toList, opdOk n p.2 = true) {d : Value} (h : buildV P t (ps.toList.map fun p => (p.1, ev e p.2)) = some d) :
    ∃ u, VR σ H u d ∧ ∀ w', (Instr.build t (ps.map fun (i, x) => (i, a.eval x))).run P w' = .ok u w' := by
  unfold buildV at h
  cases hT : strT P t with
  | none => rw [hT] at h; cases h
  | some zp =>
    obtain ⟨zs, places⟩ := zp
    rw [hT] at h
    dsimp only at h
    by_cases hz : zs.all constOk = true
    · rw [if_pos hz] at h
      obtain ⟨ds', hd, rfl⟩ := Option.map_eq_some_iff.1 h
      obtain ⟨cs', hc, hv⟩ := fillL_rel hE places ps.toList hok zs zs ds' (.consts hz) hd
      exact ⟨_, hv.toAgg, fun w' => run_build w' t _ _ (by rw [Array.toList_map]; exact built_eq hT hc)⟩
    · rw [if_neg hz] at h; cases h

/-! ### slice literals -/
def litCells (sz : Nat) : Nat → List (Nat × Value) → Option (List Value)
  | _, [] => some []
  | k, (i, v) :: rest => if i = k ∧ (cellsV v).length = sz then (litCells sz (k + 1) rest).map fun l => cellsV v ++ l else none

theorem litCells_len (sz : Nat) : ∀ (ps : List (Nat × Value)) (k : Nat) (l : List Value), litCells sz k ps = some l → l.length = ps.length * sz
  | [], k, l, h => by simp [litCells] at h; subst h; simp
  | (i, v) :: rest, k, l, h => by
    unfold litCells at h
    by_cases hc : i = k ∧ (cellsV v).length = sz
    · rw [if_pos hc] at h
      obtain ⟨l', hl, rfl⟩ := Option.map_eq_some_iff.1 h
      have := litCells_len sz rest _ _ hl
      simp [this, hc.2, Nat.add_mul, Nat.add_comm]
    · rw [if_neg hc] at h; cases h

theorem lit_fill (sz : Nat) : ∀ (ps : List (Nat × Value)) (k : Nat) (l cs : List Value), litCells sz k ps = some l → (k + ps.length) * sz ≤ cs.length →
    Instr.fill (fun i => some (i * sz, sz)) cs.toArray ps = some (splice cs (k * sz) l).toArray
  | [], k, l, cs, h, _ => by simp [litCells] at h; subst h; simp [Instr.fill, splice]
  | (i, v) :: rest, k, l, cs, h, hle => by
    unfold litCells at h
    by_cases hc : i = k ∧ (cellsV v).length = sz
    · rw [if_pos hc] at h
      obtain ⟨l', hl, rfl⟩ := Option.map_eq_some_iff.1 h
      obtain ⟨rfl, hv⟩ := hc
      simp only [List.length_cons] at hle
      have hle2 : i * sz + sz ≤ cs.length := by
        have : (i + 1) * sz ≤ (i + (rest.length + 1)) * sz := Nat.mul_le_mul_right _ (by omega)
        rw [Nat.add_mul, Nat.one_mul] at this
        omega
      unfold Instr.fill
      dsimp only
      have hs : v.cells.size = sz := by rw [← Array.length_toList, cellsV_eq]; exact hv
      have n1 : (decide (v.cells.size ≠ sz) || decide (i * sz + v.cells.size > cs.toArray.size)) = false := by
        simp [hs]; exact hle2
      rw [if_neg (by rw [n1]; exact Bool.false_ne_true)]
      have e : Array.foldl (fun (a : Array Value) (p : Value × Nat) => a.setIfInBounds (i * sz + p.2) p.1) cs.toArray v.cells.zipIdx = (splice cs (i * sz) (cellsV v)).toArray := by
        rw [← Array.foldl_toList, Array.toList_zipIdx, cellsV_eq]
        simpa using foldl_set (i * sz) (cellsV v) 0 cs (by omega)
      have hsl := splice_len (cs := cs) (news := cellsV v) (off := i * sz) (by omega)
      have ih := lit_fill sz rest (i + 1) l' (splice cs (i * sz) (cellsV v)) hl (by rw [hsl, show i + 1 + rest.length = i + (rest.length + 1) by omega]; exact hle)
      rw [← e] at ih
      refine Eq.trans ih ?_
      congr 2
      have hl2 := litCells_len sz rest _ _ hl
      have hm : (i + 1) * sz = i * sz + sz := by rw [Nat.add_mul, Nat.one_mul]
      have hfit : i * sz + sz + l'.length ≤ cs.length := by
        rw [hl2]
        have : (i + (rest.length + 1)) * sz = i * sz + sz + rest.length * sz := by rw [Nat.add_mul, Nat.add_mul, Nat.one_mul]; omega
        omega
      apply List.ext_getElem?
      intro j
      rw [splice_get (by rw [hsl, hm]; omega), splice_get (by omega), splice_get (by rw [List.length_append, hv]; omega), hm]
      simp only [List.length_append, hv]
      by_cases h1 : j < i * sz
      · rw [if_pos (by omega), if_pos h1, if_pos h1]
      · rw [if_neg h1, if_neg h1]
        by_cases h2 : j < i * sz + sz
        · rw [if_pos h2, if_pos h2, if_pos (by omega), List.getElem?_append_left (by omega)]
        · rw [if_neg h2]
          by_cases h3 : j < i * sz + sz + l'.length
          · rw [if_pos h3, if_pos (by omega), List.getElem?_append_right (by omega), hv]
            congr 1
            omega
          · rw [if_neg h3, if_neg h2, if_neg (by omega)]
    · rw [if_neg hc] at h; cases h

theorem lit_rel (hE : ER n σ H a e) (sz : Nat) : ∀ (ps : List (Nat × Operand)), (∀ p ∈ ps, opdOk n p.2 = true) → ∀ (k : Nat) (ds : List Value),
    litCells sz k (ps.map fun p => (p.1, ev e p.2)) = some ds → ∃ cs, litCells sz k (ps.map fun p => (p.1, a.eval p.2)) = some cs ∧ VRL σ H cs ds
  | [], _, k, ds, h => by simp [litCells] at h; subst h; exact ⟨[], rfl, rfl, fun j u hu => by simp at hu⟩
  | p :: ps, hok, k, ds, h => by
    obtain ⟨i, x⟩ := p
    simp only [List.map_cons] at h ⊢
    unfold litCells at h ⊢
    have hv := (hE.eval (hok (i, x) (by simp))).cellsL
    by_cases hc : i = k ∧ (cellsV (ev e x)).length = sz
    · rw [if_pos hc] at h
      obtain ⟨l', hl, rfl⟩ := Option.map_eq_some_iff.1 h
      obtain ⟨cs, h1, h2⟩ := lit_rel hE sz ps (fun p hp => hok p (by simp [hp])) _ _ hl
      rw [if_pos ⟨hc.1, by rw [hv.1]; exact hc.2⟩, h1]
      exact ⟨_, rfl, hv.append h2⟩
    · rw [if_neg hc] at h; cases h

def zOk (P : Program) (el : TypeId) (sz : Nat) : Bool :=
  match zeroV P el with
  | some z => decide (z.cells.size = sz) && z.cells.all constOk && z.cells.all Value.oneCell' && decide (0 < sz)
  | none => false

def buildSliceH (P : Program) (H : AH) (t : TypeId) (len : Nat) (parts : List (Nat × Value)) : Option (Value × AH) :=
  match elZ P t with
  | some (el, sz, _) =>
    if zOk P el sz = true ∧ parts.length = len ∧ len * sz ≤ 16777216 then
      (match litCells sz 0 parts with
       | some cs => if cs.all Value.oneCell' = true then some (.slice (some ⟨H.length, 0, none⟩) len 0, H ++ [mkB el sz cs]) else none
       | none => none)
    else none
  | none => none

theorem new_slice (hS : Sim σ H w) (hB : B ≤ H.length) {w1 : World} (hw : Below w.heap.size w w1) (el : TypeId) (sz len cap : Nat) (ds : List Value) (c : Array Value) (hle : ds.length ≤ c.size)
    (hv : ∀ (j : Nat) v, ds[j]? = some v → ∃ u, c[j]? = some u ∧ VR σ H u v ∧ u.oneCell' = true) (hlc : len ≤ cap) (hcm : cap ≤ maxLen) (hcs : cap * sz ≤ c.size) :
    ∃ σ', Fut B σ H w σ' (H ++ [mkB el sz ds]) (w1.alloc (.cells c el)) ∧ Sim σ' (H ++ [mkB el sz ds]) (w1.alloc (.cells c el)) ∧
      VR σ' (H ++ [mkB el sz ds]) (.slice (some ⟨w1.heap.size, 0, none⟩) len cap) (.slice (some ⟨H.length, 0, none⟩) len 0) := by
  obtain ⟨F, S⟩ := new_sound (B := B) hS hB hw (mkB el sz ds) rfl c hle hv
  refine ⟨_, F, S, ?_⟩
  have := VR.slice (σ := σ.upd H.length ⟨w1.heap.size, 0, c.size, false⟩) (H := H ++ [mkB el sz ds]) H.length 0 len cap 0 none (mkB el sz ds) (by simp) rfl rfl hlc hlc hcm (by simp only [Sg.upd_at, if_true, Nat.zero_add]; exact hcs)
  simpa [Sg.upd_at] using this

theorem buildSlice_sound (hS : Sim σ H w) (hB : B ≤ H.length) (hE : ER n σ H a e) {t : TypeId} {len : Nat} {ps : Array (Nat × Operand)} (hok : ∀ p ∈ ps.toList, opdOk n p.2 = true) {d : Value} {H' : AH}
    (h : buildSliceH P H t len (ps.toList.map fun p => (p.1, ev e p.2)) = some (d, H')) :
    Goes P B σ H w ((Instr.buildSlice t len (ps.map fun (i, x) => (i, a.eval x))).run P w) d H' := by
  unfold buildSliceH at h
  cases he : elZ P t with
  | none => rw [he] at h; cases h
  | some esz =>
    obtain ⟨el, sz, by_⟩ := esz
    rw [he] at h
    dsimp only at h
    by_cases hc : zOk P el sz = true ∧ (ps.toList.map fun p => (p.1, ev e p.2)).length = len ∧ len * sz ≤ 16777216
    · rw [if_pos hc] at h
      obtain ⟨hz, hpl, hsm⟩ := hc
      cases hl : litCells sz 0 (ps.toList.map fun p => (p.1, ev e p.2)) with
      | none => rw [hl] at h; cases h
      | some ds =>
        rw [hl] at h
        dsimp only at h
        by_cases h1 : ds.all Value.oneCell' = true
        · rw [if_pos h1] at h
          cases h
          obtain ⟨cs, hcs, hvl⟩ := lit_rel hE sz ps.toList hok 0 ds hl
          obtain ⟨hu, i, hi, hisz, _⟩ := elZ_some he
          unfold zOk zeroV at hz
          rw [hi] at hz
          cases hzz : i.zero with
          | none => simp [hzz] at hz
          | some z =>
            simp only [Option.bind_some, hzz, Bool.and_eq_true, decide_eq_true_eq] at hz
            obtain ⟨⟨⟨hzs, hzc⟩, hz1⟩, hpos⟩ := hz
            have hcl := litCells_len sz _ _ _ hcs
            simp only [List.length_map] at hcl hpl
            have hdl := litCells_len sz _ _ _ hl
            simp only [List.length_map] at hdl
            have hmax : len ≤ maxLen := by
              have : len * 1 ≤ len * sz := Nat.mul_le_mul_left _ hpos
              simp only [maxLen]; omega
            obtain ⟨σ', F, S, V⟩ := new_slice (B := B) hS hB (Below.refl _ w) el sz len len ds cs.toArray (by simp [← hvl.1]) (fun j v hj => by
                obtain ⟨x, hx, hv⟩ := hvl.2 j v hj
                exact ⟨x, by simpa using hx, hv, hvl.one h1 x (List.mem_of_getElem? hx)⟩) (Nat.le_refl _) hmax (by simp [hcl, hpl])
            refine ⟨.slice (some ⟨w.heap.size, 0, none⟩) len len, _, σ', ?_, F, S, V⟩
            by_cases h0 : len = 0
            · subst h0
              have hps : ps.toList = [] := List.eq_nil_of_length_eq_zero hpl
              have hps' : ps = #[] := by apply Array.ext'; exact hps
              subst hps'
              simp [litCells] at hcs
              subst hcs
              simp [Instr.buildSlice, run_underlying hu, sizeOf, typeInfo, hi, Instr.fill, newRow, Array.range_zero']
            · have hne : ¬ len * i.size = 0 := by
                rw [hisz]
                intro hx
                rcases Nat.mul_eq_zero.1 hx with hx | hx <;> omega
              have hf := lit_fill sz (ps.toList.map fun p => (p.1, a.eval p.2)) 0 cs ((Array.range (len * i.size)).map (z.cells[· % z.cells.size]!)).toList hcs (by simp [hpl, hisz])
              have hsp : splice ((Array.range (len * i.size)).map (z.cells[· % z.cells.size]!)).toList (0 * sz) cs = cs := by
                unfold splice
                rw [List.drop_eq_nil_of_le (by simp [hcl, hpl, hisz])]
                simp
              rw [hsp, Array.toArray_toList] at hf
              refine run_buildSlice w t el len _ cs.toArray i z hu hi hzz (by rw [hisz]; omega) hne ?_
              rw [Array.toList_map, hisz]
              rw [hisz] at hf
              exact hf
        · rw [if_neg h1] at h; cases h
    · rw [if_neg hc] at h; cases h

/-! ### make -/
def zerosOf (z : List Value) (k : Nat) : List Value := (List.range k).map fun j => z.getD (j % z.length) undef

def makeH (P : Program) (H : AH) (t : TypeId) (l c : Value) : Option (Value × AH) :=
  match l, c with
  | .int _ l, .int _ c =>
    (match elZ P t with
     | some (el, sz, by_) =>
       (match zeroV P el with
        | some z =>
          if zOk P el sz = true ∧ 0 ≤ l ∧ l ≤ c ∧ (by_ : Int) * c ≤ 140737488355328 ∧ c ≤ 140737488355328 then some (.slice (some ⟨H.length, 0, none⟩) l.toNat 0, H ++ [mkB el sz (zerosOf z.cells.toList (l.toNat * sz))]) else none
        | none => none)
     | none => none)
  | _, _ => none

theorem make_sound (hS : Sim σ H w) (hB : B ≤ H.length) {t : TypeId} {l c dl dc d : Value} {H' : AH} (hl : VR σ H l dl) (hc : VR σ H c dc) (h : makeH P H t dl dc = some (d, H')) :
    Goes P B σ H w ((Instr.makeSlice t l c).run P w) d H' := by
  unfold makeH at h
  split at h
  case h_2 => cases h
  rename_i kl l' kc c'
  have := hl.int
  subst this
  have := hc.int
  subst this
  cases he : elZ P t with
  | none => rw [he] at h; cases h
  | some esz =>
    obtain ⟨el, sz, by_⟩ := esz
    rw [he] at h
    dsimp only at h
    cases hzv : zeroV P el with
    | none => rw [hzv] at h; cases h
    | some z =>
      rw [hzv] at h
      dsimp only at h
      by_cases hcc : zOk P el sz = true ∧ 0 ≤ l' ∧ l' ≤ c' ∧ (by_ : Int) * c' ≤ 140737488355328 ∧ c' ≤ 140737488355328
      · rw [if_pos hcc] at h
        cases h
        obtain ⟨hz, c1, c2, c3, c4⟩ := hcc
        obtain ⟨hu, i, hi, hisz, hiby⟩ := elZ_some he
        unfold zOk at hz
        rw [hzv] at hz
        simp only [Bool.and_eq_true, decide_eq_true_eq] at hz
        obtain ⟨⟨⟨hzs, hzc⟩, hz1⟩, hpos⟩ := hz
        have hzz : i.zero = some z := by unfold zeroV at hzv; rw [hi] at hzv; simpa using hzv
        have hr := run_make (P := P) w t el i z hu hi hzz kl kc l' c' c1 c2 (by rw [hiby]; omega) (by omega)
        have hget : ∀ (m j : Nat), j < m → (madeCells z.cells m)[j]? = some (z.cells.toList.getD (j % z.cells.toList.length) undef) := by
          intro m j hj
          have hlt : j % z.cells.size < z.cells.size := Nat.mod_lt _ (by omega)
          simp [madeCells, hj, List.getD, hlt]
        obtain ⟨σ', F, S, V⟩ := new_slice (B := B) hS hB (Below.refl _ w) el sz l'.toNat c'.toNat (zerosOf z.cells.toList (l'.toNat * sz)) (madeCells z.cells (c'.toNat * i.size))
          (by simp only [size_madeCells, zerosOf, List.length_map, List.length_range, hisz]; exact Nat.mul_le_mul_right _ (by omega))
          (fun j v hj => by
            unfold zerosOf at hj
            rw [List.getElem?_map] at hj
            obtain ⟨x, hx, rfl⟩ := Option.map_eq_some_iff.1 hj
            have hjl : j < l'.toNat * sz := by
              have := List.getElem?_eq_some_iff.1 hx
              simpa using this.1
            have hjx : x = j := by rw [List.getElem?_range hjl] at hx; exact (Option.some.inj hx).symm
            subst hjx
            have hlt : x % z.cells.toList.length < z.cells.toList.length := Nat.mod_lt _ (by simp; omega)
            have hm : z.cells.toList.getD (x % z.cells.toList.length) undef ∈ z.cells.toList := by
              simp only [List.getD, List.getElem?_eq_getElem hlt, Option.getD_some]
              exact List.getElem_mem hlt
            refine ⟨_, hget _ x (Nat.lt_of_lt_of_le hjl (by rw [hisz]; exact Nat.mul_le_mul_right _ (by omega))), flat_const ?_ σ H, ?_⟩
            · exact Array.all_eq_true'.1 hzc _ (by simpa using hm)
            · exact Array.all_eq_true'.1 hz1 _ (by simpa using hm))
          (by omega) (by simp only [maxLen]; omega) (by simp [size_madeCells, hisz])
        exact ⟨_, _, σ', hr, F, S, V⟩
      · rw [if_neg hcc] at h; cases h

end
end Go.BM

/- append, told by lists. -/
set_option linter.unusedVariables false
set_option linter.unusedSimpArgs false
namespace Go.BM
open Go.RowKit

section
variable {P : Program} {B n : Nat} {σ : Sg} {H : AH} {w : World} {a : Act} {e : Env}

theorem lt_of_some' {α : Type} {l : List α} {j : Nat} {v : α} (h : l[j]? = some v) : j < l.length := by
  rcases Nat.lt_or_ge j l.length with h' | h'
  · exact h'
  · rw [List.getElem?_eq_none h'] at h; cases h

/-- What is appended: how many, and their cells. -/
def srcV (P : Program) (H : AH) (el sz : Nat) (tx : TypeId) (x : Value) : Option (Nat × List Value) :=
  match x with
  | .string s => (match P.underlying tx with | some .string => if sz = 1 then some (s.size, byteCells s) else none | _ => none)
  | x =>
    (match elZ P tx with
     | none => none
     | some _ =>
       (match asI x with
        | some (m, cs) => if m * sz ≤ cs.length then some (m, cs.take (m * sz)) else none
        | none =>
          (match x with
           | .slice none 0 0 => some (0, [])
           | .slice (some ⟨r, off, _⟩) m ver =>
             (match getB H r ver with
              | some cs => if off + m * sz ≤ cs.length then some (m, (cs.drop off).take (m * sz)) else none
              | none => none)
           | _ => none)))

theorem src_none {tx e : TypeId} {z : Nat × Nat} {sz : Nat} (he : elZ P tx = some (e, z)) (ad : Option Addr) (cap : Nat) : Src P sz tx (.slice ad 0 cap) 0 [] w := by
  obtain ⟨hu, _⟩ := elZ_some he
  cases ad with
  | none => exact Src.ofNil w hu cap
  | some ad => exact Src.ofSlice w hu ad 0 cap [] (by simp) (fun j u hj => by simp at hj) (fun u hu => by cases hu)

theorem src_sound (hS : Sim σ H w) {el sz : Nat} {tx : TypeId} {x dx : Value} (hx : VR σ H x dx) {m : Nat} {ds : List Value} (h : srcV P H el sz tx dx = some (m, ds)) :
    ∃ us, Src P sz tx x m us w ∧ VRL σ H us ds := by
  unfold srcV at h
  split at h
  · rename_i s
    have := hx.str
    subst this
    cases hu : P.underlying tx with
    | none => rw [hu] at h; cases h
    | some d =>
      rw [hu] at h
      cases d <;> try (cases h; done)
      dsimp only at h
      by_cases h1 : sz = 1
      · rw [if_pos h1] at h
        cases h
        subst h1
        refine ⟨byteCells s, Src.ofString w hu s, rfl, fun j u hj => ⟨u, hj, ?_⟩⟩
        have := List.mem_of_getElem? hj
        unfold byteCells at this
        obtain ⟨b, _, rfl⟩ := List.mem_map.1 this
        exact .flat _ rfl
      · rw [if_neg h1] at h; cases h
  · cases he : elZ P tx with
    | none => rw [he] at h; cases h
    | some esz =>
    obtain ⟨e', sz', by_⟩ := esz
    rw [he] at h
    dsimp only at h
    obtain ⟨hu, _⟩ := elZ_some he
    cases ha : asI dx with
    | some lc =>
      obtain ⟨m', cs⟩ := lc
      rw [ha] at h
      dsimp only at h
      by_cases hle : m' * sz ≤ cs.length
      · rw [if_pos hle] at h
        cases h
        rcases hx.aslice ha with ⟨rfl, rfl, a, cap, rfl, hcm⟩ | ⟨b, o, cap, us, rfl, hlc, hcm, hul, hui, huv⟩
        · exact ⟨[], src_none he a cap, by simp, fun j u hu => by simp at hu⟩
        · refine ⟨us.take (m * sz), Src.ofSlice w hu _ m cap _ (by simp [hul]; omega) (fun j u hj => ?_) (fun u hu => ?_), by simp [hul], fun j u hj => ?_⟩
          · rw [add_plain']
            rw [List.getElem?_take] at hj
            split at hj
            · exact (hS.im _ _ (hui j u hj)).1
            · cases hj
          · obtain ⟨j, hj⟩ := List.getElem?_of_mem hu
            rw [List.getElem?_take] at hj
            split at hj
            · exact (hS.im _ _ (hui j u hj)).2.2
            · cases hj
          · rw [List.getElem?_take] at hj ⊢
            split at hj
            · rename_i hlt
              rw [if_pos hlt]
              exact huv j u hj
            · cases hj
      · rw [if_neg hle] at h; cases h
    | none =>
      rw [ha] at h
      dsimp only at h
      split at h
      · cases h
        obtain ⟨ao, rfl⟩ := hx.sliceNil rfl
        exact ⟨[], src_none he ao 0, rfl, fun j u hu => by simp at hu⟩
      · rename_i r off sp m' ver _
        cases hb : getB H r ver with
        | none => rw [hb] at h; cases h
        | some cs =>
          rw [hb] at h
          dsimp only at h
          by_cases hle : off + m' * sz ≤ cs.length
          · rw [if_pos hle] at h
            cases h
            rcases hx.sliceI hb with ⟨h0, _, ad, rfl⟩ | ⟨cap, blk, hbk, rfl, hlc, _, hcm, hown⟩
            · subst h0
              exact ⟨[], src_none he ad 0, by simp, fun j u hu => by simp at hu⟩
            · obtain ⟨blk', h1, h2, h3, ho⟩ := getB_some hb
              rw [hbk] at h1
              cases h1
              subst h3
              obtain ⟨us, hul, huc, huv⟩ := hS.cells hbk ho off (m * sz) hle
              refine ⟨us, Src.ofSlice w hu _ m cap us hul (fun j u hj => by rw [add_plain']; exact (huc j u hj).1) (fun u hu => ?_), by simp [hul]; omega, fun j u hj => ?_⟩
              · obtain ⟨j, hj, rfl⟩ := List.getElem_of_mem hu
                exact (huc j _ (List.getElem?_eq_getElem hj)).2
              · have hjl : j < ((blk.cs.drop off).take (m * sz)).length := lt_of_some' hj
                have hju : j < us.length := by rw [hul]; simp at hjl; omega
                refine ⟨us[j], List.getElem?_eq_getElem hju, ?_⟩
                have := huv j hju hjl
                rw [List.getElem?_eq_getElem hjl] at hj
                cases hj
                exact this
          · rw [if_neg hle] at h; cases h
      · cases h

theorem app_room {t tx ty el : TypeId} {i : TypeInfo} (ht : P.underlying t = some (.slice el)) (hi : P.info? el = some i) {x : Value} {m : Nat} {news : List Value} (hs : Src P i.size tx x m news w)
    {g sLen sCap : Nat} {cur : Array Value} {e0 : TypeId} {fz : Nat × Nat} (hg : w.heap[g]? = some (.cells cur e0 fz)) (hfz : ∀ j, j < cur.size → ¬ (fz.1 ≤ j ∧ j < fz.2)) (hroom : sLen + m ≤ sCap) (hfit : sLen * i.size + news.length ≤ cur.size) :
    (Builtin.append_ #[t, tx] ty #[.slice (some ⟨g, 0, none⟩) sLen sCap, x]).run P w = .ok (.slice (some ⟨g, 0, none⟩) (sLen + m) sCap) (w.setRow g (cur.toList.take (sLen * i.size) ++ news ++ cur.toList.drop (sLen * i.size + news.length)).toArray) := by
  have hst := run_storeCells_fz P g (sLen * i.size) e0 fz news 0 cur w hg hfz (by simpa using hfit) hs.one
  simp only [Nat.add_zero] at hst
  rcases hs.kind with ⟨e', hk⟩ | hk <;> simp [Builtin.append_, run_underlying ht, run_underlying hk, sizeOf, typeInfo, hi, hs.len, hroom, hs.cells, add_plain', hst]

theorem app_none {t tx ty el : TypeId} {i : TypeInfo} (ht : P.underlying t = some (.slice el)) (hi : P.info? el = some i) {x : Value} (hs : Src P i.size tx x 0 [] w) (ao : Option Addr) :
    (Builtin.append_ #[t, tx] ty #[.slice ao 0 0, x]).run P w = .ok (.slice ao 0 0) w := by
  rcases hs.kind with ⟨e', hk⟩ | hk <;> cases ao <;> simp [Builtin.append_, run_underlying ht, run_underlying hk, sizeOf, typeInfo, hi, hs.len, hs.cells, storeCells]

theorem app_grow {t tx ty el : TypeId} {i : TypeInfo} {z : Value} (ht : P.underlying t = some (.slice el)) (hi : P.info? el = some i) (hz : i.zero = some z) (hzs : z.cells.size = i.size) (base : Option Addr) (sLen sCap : Nat) (olds : List Value)
    (hold : (Builtin.firstCells i.size sLen (.slice base sLen sCap)).run P w.drew = .ok olds.toArray w.drew) (holdl : olds.length = sLen * i.size) {x : Value} {m : Nat} {news : List Value} (hs : Src P i.size tx x m news w)
    (hg : sCap < sLen + m) (hbytes : (sLen + m) * i.bytes ≤ 140737488355328) (hmax : sLen + m ≤ maxLen) :
    ∃ (c : Array Value) (cap : Nat), (Builtin.append_ #[t, tx] ty #[.slice base sLen sCap, x]).run P w = .ok (.slice (some ⟨w.drew.heap.size, 0, none⟩) (sLen + m) cap) (w.drew.alloc (.cells c el)) ∧
      sLen + m ≤ cap ∧ cap ≤ maxLen ∧ c.size = cap * i.size ∧ (olds ++ news).length ≤ c.size ∧ ∀ (j : Nat) v, (olds ++ news)[j]? = some v → c[j]? = some v := by
  have hr := run_append_grow_src (P := P) w t tx ty el i z ht hi hz base sLen sCap olds hold x m news hs hg (by simp only [maxLen] at hmax; omega) (growslice_fits hg hbytes)
  have hge := grownCap_ge w (sLen + m) sCap el
  have hle := grownCap_le_maxLen w (sLen + m) sCap el hmax
  have hnl := hs.newsLen
  have hsize : (olds ++ news).length = (sLen + m) * i.size := by rw [List.length_append, holdl, hnl, Nat.add_mul]
  have hcs : ((olds ++ news).toArray ++ Builtin.zeroCells z.cells (grownCap w (sLen + m) sCap el - (sLen + m))).size = grownCap w (sLen + m) sCap el * i.size := by
    rw [Array.size_append, List.size_toArray, hsize, size_zeroCells, hzs, ← Nat.add_mul]
    congr 1
    omega
  refine ⟨_, _, hr, hge, hle, hcs, ?_, fun j v hj => ?_⟩
  · rw [hcs, hsize]; exact Nat.mul_le_mul_right _ hge
  · have hjl : j < (olds ++ news).length := by
      rcases Nat.lt_or_ge j (olds ++ news).length with h' | h'
      · exact h'
      · rw [List.getElem?_eq_none h'] at hj; cases hj
    rw [Array.getElem?_append_left (by simpa using hjl)]
    simpa using hj

def appendH (P : Program) (B : Nat) (H : AH) (t tx : TypeId) (s x : Value) : Option (Value × AH) :=
  match elZ P t with
  | some (el, sz, by_) =>
    (match srcV P H el sz tx x with
     | some (m, news) =>
       if zOk P el sz = true then
         (match s with
          | .slice none 0 0 =>
            if m * by_ ≤ 140737488355328 ∧ m ≤ 140737488355328 then
              (if m = 0 then some (.slice none 0 0, H) else some (.slice (some ⟨H.length, 0, none⟩) m 0, H ++ [mkB el sz news]))
            else none
          | .slice (some ⟨r, 0, sp⟩) len ver =>
            (match H[r]? with
             | some blk =>
               if blk.ver = ver ∧ B ≤ r ∧ blk.el = el ∧ blk.sz = sz ∧ len * sz ≤ blk.cs.length ∧ (len + m) * by_ ≤ 140737488355328 ∧ len + m ≤ 140737488355328 then
                 (if sp.isSome = true ∧ len + m ≤ sp.getD len then
                   (if blk.own = true ∧ (len + m) * sz ≤ blk.cs.length then some (.slice (some ⟨r, 0, sp⟩) (len + m) ver, H.set r { blk with cs := splice blk.cs (len * sz) news }) else none)
                  else some (.slice (some ⟨r, 0, none⟩) (len + m) (ver + 1), H.set r { blk with cs := blk.cs.take (len * sz) ++ news, ver := ver + 1, own := blk.own || decide (m ≠ 0) }))
               else none
             | none => none)
          | _ => none)
       else none
     | none => none)
  | none => none

/-- An append that makes a new array: the block is told anew. -/
theorem app_new (hS : Sim σ H w) {r : Nat} {blk : Blk} (hb : H[r]? = some blk) (hB : B ≤ r) {t tx ty el : TypeId} {i : TypeInfo} {z : Value} (ht : P.underlying t = some (.slice el)) (hi : P.info? el = some i) (hz : i.zero = some z) (hzs : z.cells.size = i.size)
    (c4 : blk.el = el) (c5 : blk.sz = i.size) (base : Option Addr) (sLen sCap : Nat) (olds : List Value) (dold : List Value)
    (hold : (Builtin.firstCells i.size sLen (.slice base sLen sCap)).run P w.drew = .ok olds.toArray w.drew) (holdl : olds.length = sLen * i.size) (holdv : VRL σ H olds dold) (hold1 : ∀ u ∈ olds, u.oneCell' = true)
    {x : Value} {m : Nat} {us news : List Value} (hs : Src P i.size tx x m us w) (hvl : VRL σ H us news)
    (hg : sCap < sLen + m) (hbytes : (sLen + m) * i.bytes ≤ 140737488355328) (hmax : sLen + m ≤ 140737488355328) :
    Goes P B σ H w ((Builtin.append_ #[t, tx] ty #[.slice base sLen sCap, x]).run P w) (.slice (some ⟨r, 0, none⟩) (sLen + m) (blk.ver + 1)) (H.set r { blk with cs := dold ++ news, ver := blk.ver + 1, own := true }) := by
  have hlt := lt_of_some hb
  obtain ⟨c, cap, hr, h1, h2, h3, h4, h5⟩ := app_grow (ty := ty) ht hi hz hzs base sLen sCap olds hold holdl hs hg hbytes (by simp only [maxLen]; omega)
  have hva := holdv.append hvl
  obtain ⟨F, S⟩ := upd_sound (B := B) (w' := w.drew.alloc (.cells c el)) (blk' := { blk with cs := dold ++ news, ver := blk.ver + 1, own := true }) hS hb hB rfl rfl rfl (by simp) (fun k hk _ => Below.heap_alloc w.drew _ k hk) ⟨w.drew.heap.size, 0, c.size, false⟩ (.inr ⟨Nat.le_refl _, by simp⟩) (by simp) rfl rfl c (by rw [c4]; exact heap_alloc_new w.drew _) rfl rfl (by
      simp only; rw [← hva.1]; exact h4) (fun j v hj => by
      obtain ⟨u, hu', hv⟩ := hva.2 j v hj
      refine ⟨u, h5 j u hu', hv, ?_⟩
      rcases List.mem_append.1 (List.mem_of_getElem? hu') with hm | hm
      · exact hold1 u hm
      · exact hs.one u hm)
  refine ⟨_, _, _, hr, F, S, ?_⟩
  have := VR.slice (σ := σ.upd r ⟨w.drew.heap.size, 0, c.size, false⟩) (H := H.set r { blk with cs := dold ++ news, ver := blk.ver + 1, own := true }) r 0 (sLen + m) cap (blk.ver + 1) none _ (by rw [List.getElem?_set_self hlt]) rfl rfl (by omega) (by simpa using h1) h2 (by simp only [Sg.upd_at, if_true, Nat.zero_add]; rw [c5, h3]; exact Nat.le_refl _)
  simpa [Sg.upd_at] using this

theorem append_sound (hS : Sim σ H w) (hB : B ≤ H.length) {t tx ty : TypeId} {s x ds dx d : Value} {H' : AH} (hs : VR σ H s ds) (hx : VR σ H x dx) (h : appendH P B H t tx ds dx = some (d, H')) :
    Goes P B σ H w ((Builtin.append_ #[t, tx] ty #[s, x]).run P w) d H' := by
  unfold appendH at h
  cases he : elZ P t with
  | none => rw [he] at h; cases h
  | some esz =>
    obtain ⟨el, sz, by_⟩ := esz
    rw [he] at h
    dsimp only at h
    cases hsrc : srcV P H el sz tx dx with
    | none => rw [hsrc] at h; cases h
    | some mn =>
      obtain ⟨m, news⟩ := mn
      rw [hsrc] at h
      dsimp only at h
      by_cases hz : zOk P el sz = true
      · rw [if_pos hz] at h
        obtain ⟨us, hS', hvl⟩ := src_sound (P := P) hS hx hsrc
        obtain ⟨hu, i, hi, hisz, hiby⟩ := elZ_some he
        unfold zOk zeroV at hz
        rw [hi] at hz
        cases hzz : i.zero with
        | none => simp [hzz] at hz
        | some z =>
          simp only [Option.bind_some, hzz, Bool.and_eq_true, decide_eq_true_eq] at hz
          obtain ⟨⟨⟨hzs, hzc⟩, hz1⟩, hpos⟩ := hz
          rw [← hisz] at hS'
          have hnl := hS'.newsLen
          split at h
          · obtain ⟨ao, rfl⟩ := hs.sliceNil rfl
            by_cases hc : m * by_ ≤ 140737488355328 ∧ m ≤ 140737488355328
            · rw [if_pos hc] at h
              by_cases h0 : m = 0
              · rw [if_pos h0] at h
                cases h
                subst h0
                have hus : us = [] := List.eq_nil_of_length_eq_zero (by rw [hnl]; simp)
                subst hus
                exact ⟨_, w, σ, app_none hu hi hS' ao, Fut.refl _ _ _ _, hS, .mt _ _ _ (fun x hx => by cases hx)⟩
              · rw [if_neg h0] at h
                cases h
                obtain ⟨c, cap, hr, h1, h2, h3, h4, h5⟩ := app_grow (ty := ty) hu hi hzz (by rw [hzs, hisz]) ao 0 0 [] (by cases ao <;> simp [Builtin.firstCells, loadCells, loadCellsFrom]) (by simp) hS' (by omega) (by rw [hiby]; simpa using hc.1) (by simp only [maxLen]; omega)
                obtain ⟨σ', F, S, V⟩ := new_slice (B := B) hS hB (w1 := w.drew) (below_drewN' w) el sz m cap news c (by rw [List.nil_append] at h4; rw [← hvl.1]; exact h4) (fun j v hj => by
                  obtain ⟨u, hu', hv⟩ := hvl.2 j v hj
                  exact ⟨u, h5 j u (by simpa using hu'), hv, hS'.one u (List.mem_of_getElem? hu')⟩) (by omega) h2 (by rw [h3, hisz]; exact Nat.le_refl _)
                simp only [Nat.zero_add] at hr
                exact ⟨_, _, σ', hr, F, S, V⟩
            · rw [if_neg hc] at h; cases h
          · rename_i r sp len ver
            cases hb : H[r]? with
            | none => rw [hb] at h; cases h
            | some blk =>
              rw [hb] at h
              dsimp only at h
              by_cases hc : blk.ver = ver ∧ B ≤ r ∧ blk.el = el ∧ blk.sz = sz ∧ len * sz ≤ blk.cs.length ∧ (len + m) * by_ ≤ 140737488355328 ∧ len + m ≤ 140737488355328
              · rw [if_pos hc] at h
                obtain ⟨c1, c3, c4, c5, c6, c7, c8⟩ := hc
                have hlt := lt_of_some hb
                subst c1
                -- what stands there
                have cases2 : (len = 0 ∧ sp.getD 0 = 0 ∧ ∃ a, s = .slice a 0 0) ∨ (blk.own = true ∧ ∃ cap, s = .slice (some ⟨(σ r).b, (σ r).base + 0, none⟩) len cap ∧ len ≤ cap ∧ sp.getD len ≤ cap ∧ cap ≤ maxLen ∧ 0 + cap * blk.sz ≤ (σ r).n) := by
                  cases hs with
                  | flat _ h => simp [flatV] at h
                  | mt _ _ _ hd => exact .inl ⟨rfl, hd _ rfl, _, rfl⟩
                  | slice _ _ _ cap _ _ blk' h' hv ho hl hsp hm hc => rw [hb] at h'; cases h'; exact .inr ⟨ho, cap, rfl, hl, hsp, hm, hc⟩
                  | stale _ _ _ _ _ blk' h' hv' => rw [hb] at h'; cases h'; omega
                by_cases hin : sp.isSome = true ∧ len + m ≤ sp.getD len
                · rw [if_pos hin] at h
                  by_cases hfit0 : blk.own = true ∧ (len + m) * sz ≤ blk.cs.length
                  · rw [if_pos hfit0] at h
                    cases h
                    obtain ⟨c2, hfit1⟩ := hfit0
                    obtain ⟨cur, o1, o2, o3, o4, o5⟩ := hS.own r blk hb c2
                    rcases cases2 with ⟨h0, hsp0, a, rfl⟩ | ⟨_, cap, rfl, hlc, hsp, hcm, hcn⟩
                    · subst h0
                      have hm0 : m = 0 := by omega
                      subst hm0
                      have hus : us = [] := List.eq_nil_of_length_eq_zero (by rw [hnl]; simp)
                      subst hus
                      have hn0 : news = [] := List.eq_nil_of_length_eq_zero (by rw [← hvl.1]; rfl)
                      subst hn0
                      have hset : H.set r { blk with cs := splice blk.cs (0 * sz) [] } = H := by
                        apply List.ext_getElem?
                        intro q
                        by_cases e : q = r
                        · subst e
                          rw [List.getElem?_set_self hlt, hb]
                          simp [splice]
                        · rw [List.getElem?_set_ne (Ne.symm e)]
                      rw [hset]
                      exact ⟨_, w, σ, app_none hu hi hS' a, Fut.refl _ _ _ _, hS, .mt _ _ _ (fun x hx => by cases hx; exact hsp0)⟩
                    · rw [o2, Nat.zero_add]
                      have hroom : len + m ≤ cap := by omega
                      have hlen2 : news.length = m * sz := by rw [← hvl.1, hnl, hisz]
                      have hfit : len * i.size + us.length ≤ cur.size := by
                        rw [hnl, ← Nat.add_mul, hisz]
                        omega
                      have hr := app_room (ty := ty) hu hi hS' o1 (fun j hj => (σ r).fz_free (o3 ▸ hj)) hroom hfit
                      have hget := splice_get (cs := cur.toList) (news := us) (off := len * i.size) (by simpa using hfit)
                      unfold splice at hget
                      have hfit2 : len * sz + news.length ≤ blk.cs.length := by rw [hlen2, ← Nat.add_mul]; exact hfit1
                      obtain ⟨F, S⟩ := upd_sound (B := B) (w' := w.setRow (σ r).b (cur.toList.take (len * i.size) ++ us ++ cur.toList.drop (len * i.size + us.length)).toArray) (blk' := { blk with cs := splice blk.cs (len * sz) news }) hS hb c3 rfl rfl rfl (by simp) (fun k _ hk => setRow_other w _ k _ (hk c2)) (σ r) (.inl ⟨rfl, c2⟩) (Nat.le_refl _) c2 rfl
                        _ (setRow_heap w _ cur _ _ _ o1) o2 (by simp; omega) (by simp only [splice_len hfit2]; simp; omega) (by
                          intro j v hj
                          simp only [List.getElem?_toArray]
                          rw [hget]
                          simp only at hj
                          rw [splice_get hfit2] at hj
                          by_cases j1 : j < len * i.size
                          · rw [if_pos j1]
                            rw [if_pos (by rw [← hisz]; exact j1)] at hj
                            obtain ⟨u, a1, a2, a3⟩ := o5 j v hj
                            exact ⟨u, by simpa using a1, a2, a3⟩
                          · rw [if_neg j1]
                            rw [if_neg (by rw [← hisz]; exact j1)] at hj
                            by_cases j2 : j < len * i.size + us.length
                            · rw [if_pos j2]
                              rw [if_pos (by rw [← hvl.1, ← hisz]; exact j2), ← hisz] at hj
                              obtain ⟨u, a1, a2⟩ := hvl.2 _ v hj
                              exact ⟨u, a1, a2, hS'.one u (List.mem_of_getElem? a1)⟩
                            · rw [if_neg j2]
                              rw [if_neg (by rw [← hvl.1, ← hisz]; exact j2)] at hj
                              obtain ⟨u, a1, a2, a3⟩ := o5 j v hj
                              exact ⟨u, by simpa using a1, a2, a3⟩)
                      refine ⟨_, _, _, hr, F, S, ?_⟩
                      have := VR.slice (σ := σ.upd r (σ r)) (H := H.set r { blk with cs := splice blk.cs (len * sz) news }) r 0 (len + m) cap blk.ver sp { blk with cs := splice blk.cs (len * sz) news } (by rw [List.getElem?_set_self hlt]) rfl c2 hroom (by
                        rcases hin with ⟨q1, q2⟩
                        obtain ⟨kc, rfl⟩ := Option.isSome_iff_exists.1 q1
                        exact hsp) hcm (by simp only [Sg.upd_at, if_true]; exact hcn)
                      simpa [o2, Sg.upd_at] using this
                  · rw [if_neg hfit0] at h; cases h
                · rw [if_neg hin] at h
                  cases h
                  rcases cases2 with ⟨h0, hsp0, a, rfl⟩ | ⟨c2, cap, rfl, hlc, hsp, hcm, hcn⟩
                  · subst h0
                    by_cases h0 : m = 0
                    · subst h0
                      have hus : us = [] := List.eq_nil_of_length_eq_zero (by rw [hnl]; simp)
                      subst hus
                      have hn0 : news = [] := List.eq_nil_of_length_eq_zero (by rw [← hvl.1]; rfl)
                      subst hn0
                      cases ho : blk.own with
                      | true =>
                        obtain ⟨cur, o1, o2, o3, o4, o5⟩ := hS.own r blk hb ho
                        obtain ⟨F, S⟩ := upd_sound (B := B) (w' := w) (blk' := { blk with cs := blk.cs.take (0 * sz) ++ [], ver := blk.ver + 1, own := true }) hS hb c3 rfl rfl rfl (Nat.le_refl _) (fun _ _ _ => rfl) (σ r) (.inl ⟨rfl, ho⟩) (by simp) rfl rfl cur o1 o2 o3 (by simp) (by simp)
                        exact ⟨_, w, _, app_none hu hi hS' a, F, S, .mt _ _ _ (fun x hx => by cases hx; rfl)⟩
                      | false =>
                        obtain ⟨F, S⟩ := void_sound (B := B) (blk' := { blk with cs := blk.cs.take (0 * sz) ++ [], ver := blk.ver + 1, own := false }) hS hb c3 (by simp) rfl
                        exact ⟨_, w, _, app_none hu hi hS' a, F, S, .mt _ _ _ (fun x hx => by cases hx; rfl)⟩
                    · have := app_new (B := B) (ty := ty) hS hb c3 hu hi hzz (by rw [hzs, hisz]) c4 (by rw [c5, hisz]) a 0 0 [] [] (by cases a <;> simp [Builtin.firstCells, loadCells, loadCellsFrom]) (by simp) ⟨rfl, fun j u hu => by simp at hu⟩ (by simp) hS' hvl (by omega) (by rw [hiby]; exact c7) c8
                      simpa [h0] using this
                  · obtain ⟨cur, o1, o2, o3, o4, o5⟩ := hS.own r blk hb c2
                    rw [o2, Nat.zero_add]
                    rw [Nat.zero_add, c5] at hcn
                    by_cases hroom : len + m ≤ cap
                    · have hfit : len * i.size + us.length ≤ cur.size := by
                        rw [hnl, ← Nat.add_mul, hisz, o3]
                        exact Nat.le_trans (Nat.mul_le_mul_right _ hroom) hcn
                      have hr := app_room (ty := ty) hu hi hS' o1 (fun j hj => (σ r).fz_free (o3 ▸ hj)) hroom hfit
                      have hget := splice_get (cs := cur.toList) (news := us) (off := len * i.size) (by simpa using hfit)
                      unfold splice at hget
                      have htl : (blk.cs.take (len * sz)).length = len * sz := by simp; omega
                      obtain ⟨F, S⟩ := upd_sound (B := B) (w' := w.setRow (σ r).b (cur.toList.take (len * i.size) ++ us ++ cur.toList.drop (len * i.size + us.length)).toArray) (blk' := { blk with cs := blk.cs.take (len * sz) ++ news, ver := blk.ver + 1, own := true }) hS hb c3 rfl rfl rfl (by simp) (fun k _ hk => setRow_other w _ k _ (hk c2)) (σ r) (.inl ⟨rfl, c2⟩) (by simp) rfl rfl
                        _ (setRow_heap w _ cur _ _ _ o1) o2 (by simp; omega) (by simp only [List.length_append, List.size_toArray, htl, ← hvl.1, ← hisz]; simp; omega) (by
                          intro j v hj
                          simp only [List.getElem?_toArray]
                          rw [hget]
                          by_cases j1 : j < len * i.size
                          · rw [if_pos j1]
                            simp only at hj
                            rw [List.getElem?_append_left (by rw [htl, ← hisz]; exact j1), List.getElem?_take, if_pos (by rw [← hisz]; exact j1)] at hj
                            obtain ⟨u, a1, a2, a3⟩ := o5 j v hj
                            exact ⟨u, by simpa using a1, a2, a3⟩
                          · rw [if_neg j1]
                            simp only at hj
                            rw [List.getElem?_append_right (by rw [htl, ← hisz]; omega), htl, ← hisz] at hj
                            obtain ⟨u, a1, a2⟩ := hvl.2 _ v hj
                            have hju : j - len * i.size < us.length := lt_of_some' a1
                            rw [if_pos (by omega)]
                            exact ⟨u, a1, a2, hS'.one u (List.mem_of_getElem? a1)⟩)
                      rw [c2, Bool.true_or]
                      refine ⟨_, _, _, hr, F, S, ?_⟩
                      have := VR.slice (σ := σ.upd r (σ r)) (H := H.set r { blk with cs := blk.cs.take (len * sz) ++ news, ver := blk.ver + 1, own := true }) r 0 (len + m) cap (blk.ver + 1) none _ (by rw [List.getElem?_set_self hlt]) rfl rfl hroom (by simpa using hroom) hcm (by simp only [Sg.upd_at, if_true, Nat.zero_add]; rw [c5]; exact hcn)
                      simpa [o2, Sg.upd_at] using this
                    · obtain ⟨olds, p1, p2, p3⟩ := hS.cells hb c2 0 (len * sz) (by omega)
                      have hold : (Builtin.firstCells i.size len (.slice (some ⟨(σ r).b, 0, none⟩) len cap)).run P w.drew = .ok olds.toArray w.drew := by
                        refine run_firstCells_some w.drew i.size len _ len cap olds (by rw [p1, hisz]) fun j u hj => ?_
                        rw [add_plain']
                        have := (p2 j u hj).1
                        simp only [o2, Nat.zero_add, Nat.add_zero] at this ⊢
                        exact this
                      have hvold : VRL σ H olds (blk.cs.take (len * sz)) := by
                        refine ⟨by rw [p1]; simp; omega, fun j v hj => ?_⟩
                        have hjl : j < (blk.cs.take (len * sz)).length := lt_of_some' hj
                        have hjo : j < olds.length := by rw [p1]; simp at hjl; omega
                        have hjt : j < ((blk.cs.drop 0).take (len * sz)).length := by simpa using hjl
                        have := p3 j hjo hjt
                        rw [List.getElem?_eq_getElem hjl] at hj
                        cases hj
                        refine ⟨_, List.getElem?_eq_getElem hjo, ?_⟩
                        simpa using this
                      have := app_new (B := B) (ty := ty) hS hb c3 hu hi hzz (by rw [hzs, hisz]) c4 (by rw [c5, hisz]) (some ⟨(σ r).b, 0, none⟩) len cap olds _ hold (by rw [p1, hisz]) hvold (fun u hu => by
                        obtain ⟨q, hq, rfl⟩ := List.getElem_of_mem hu
                        exact (p2 q _ (List.getElem?_eq_getElem hq)).2) hS' hvl (by omega) (by rw [hiby]; exact c7) c8
                      rw [c2, Bool.true_or]
                      exact this
              · rw [if_neg hc] at h; cases h
          · cases h
      · rw [if_neg hz] at h; cases h

end
end Go.BM

/- One operation, one region, one call, told by lists. -/
set_option linter.unusedVariables false
set_option linter.unusedSimpArgs false
namespace Go.BM
open Go.RowKit

def optK {α : Type} (o : Option α) (k : α → Prop) : Prop :=
  match o with
  | some v => k v
  | none => False
def optP (o : Option (Value × AH)) (k : Value → AH → Prop) : Prop :=
  match o with
  | some p => k p.1 p.2
  | none => False
theorem optK_some {α : Type} (v : α) (k : α → Prop) : optK (some v) k = k v := rfl
theorem optP_some (v : Value) (H : AH) (k : Value → AH → Prop) : optP (some (v, H)) k = k v H := rfl
/-- A side condition, ahead of what follows. -/
def cK (c p : Prop) : Prop := c ∧ p
theorem cK_true (p : Prop) : cK True p = p := by simp [cK]
theorem optK_ite {α : Type} (c : Prop) [Decidable c] (v : α) (k : α → Prop) : optK (if c then some v else none) k = cK c (k v) := by
  unfold cK
  by_cases h : c
  · rw [if_pos h]; simp [optK, h]
  · rw [if_neg h]; simp [optK, h]
theorem optP_ite (c : Prop) [Decidable c] (v : Value) (H : AH) (k : Value → AH → Prop) : optP (if c then some (v, H) else none) k = cK c (k v H) := by
  unfold cK
  by_cases h : c
  · rw [if_pos h]; simp [optP, h]
  · rw [if_neg h]; simp [optP, h]

def nilK (H : AH) (x : Value) : Option Value :=
  match asP x with
  | some _ => some x
  | none =>
    (match x with
     | .pointer (some ⟨r, off, some ver⟩) => if (getB H r ver).isSome = true then some (.pointer (some ⟨r, off, some ver⟩)) else none
     | _ => none)

noncomputable def slV (P : Program) (H : AH) (t : TypeId) (x : Value) (lo hi mx : Option Value) : Option Value :=
  match x with
  | .string s => strSliceS P t (.string s) lo hi mx
  | x => sliceV P H t x lo hi mx

noncomputable def popB (P : Program) (H : AH) (b : Builtin) (ty : TypeId) (ts : Array TypeId) (vs : List Value) : Option Value :=
  match b, vs with
  | .len, [x] => if ts.size = 1 then lenV P H (ts.getD 0 0) x else none
  | .min, vs => minS P ts ty vs.toArray
  | .max, vs => maxS P ts ty vs.toArray
  | _, _ => none

noncomputable def popV (P : Program) (e : Env) (H : AH) (ty : TypeId) : Op → Option Value
  | .move x => some (ev e x)
  | .assign x => some (ev e x)
  | .pick c a b => pickV (ev e c) (ev e a) (ev e b)
  | .binOp op t x y _ => binS P op t x y (ev e x) (ev e y)
  | .unOp op _ x => unS P op (ev e x)
  | .convert s d x => convX P H s d (ev e x)
  | .nilCheck x => nilK H (ev e x)
  | .fieldAddr s x f => fldV P H s (ev e x) f
  | .field t x f => fieldS P t (ev e x) f
  | .indexAddr t x i => idxV P H t (ev e x) (ev e i)
  | .index t x i => strIdxS P t (ev e x) (ev e i)
  | .load t x => loadV P H t (ev e x)
  | .slice t x lo hi mx => slV P H t (ev e x) (lo.map (ev e)) (hi.map (ev e)) (mx.map (ev e))
  | .extract x i => extractV (ev e x) i
  | .build t ps => buildV P t (ps.toList.map fun p => (p.1, ev e p.2))
  | .makeInterface t x => ifaceS P t (ev e x)
  | .makeFunc fn first cap => if first.size = 0 then some (.func fn #[] (cap.toList.map (ev e)).toArray) else none
  | .call c => (match c.callee with | .builtin b => popB P H b ty c.argTypes (c.args.toList.map (ev e)) | _ => none)
  | _ => none

section
variable {P : Program} {B n : Nat} {σ : Sg} {H : AH} {w : World} {a : Act} {e : Env}

theorem ER.evalL (hE : ER n σ H a e) : ∀ (xs : List Operand), (∀ x ∈ xs, opdOk n x = true) → VRL σ H (xs.map a.eval) (xs.map (ev e))
  | [], _ => ⟨rfl, fun j u hu => by simp at hu⟩
  | x :: xs, h => by
    have ih := ER.evalL hE xs (fun y hy => h y (by simp [hy]))
    refine ⟨by simp, fun j u hu => ?_⟩
    cases j with
    | zero => simp at hu; subst hu; exact ⟨_, rfl, hE.eval (h x (by simp))⟩
    | succ j => simpa using ih.2 j u (by simpa using hu)

theorem VRL.toArr {xs ys : List Value} (h : VRL σ H xs ys) : xs.toArray.size = ys.toArray.size ∧ ∀ i (h1 : i < xs.toArray.size) (h2 : i < ys.toArray.size), VR σ H xs.toArray[i] ys.toArray[i] := by
  refine ⟨by simpa using h.1, fun i h1 h2 => ?_⟩
  obtain ⟨x, hx, hv⟩ := h.2 i ys[i] (List.getElem?_eq_getElem (by simpa using h2))
  rw [List.getElem?_eq_getElem (by simpa using h1)] at hx
  cases hx
  simpa using hv

theorem optEval (hE : ER n σ H a e) {o : Option Operand} (h : ∀ x ∈ o.toList, opdOk n x = true) : (∀ k m, boundV (o.map (ev e)) k = some m → boundV (o.map a.eval) k = some m) := by
  cases o with
  | none => intro k m h; exact h
  | some x =>
    intro k m hb
    have hv := hE.eval (h x (by simp))
    simp only [Option.map_some] at hb ⊢
    cases hx : ev e x <;> rw [hx] at hb hv <;> simp [boundV] at hb
    have := hv.int
    rw [this]
    simpa [boundV] using hb

theorem pop_sound (hS : Sim σ H w) (hE : ER n σ H a e) {o : Oper} (hok : o.op.operands.all (opdOk n) = true) {d : Value} (h : popV P e H o.type o.op = some d) :
    ∃ v, VR σ H v d ∧ ∀ w', Below w.heap.size w w' → (execOp a.eval o).run P w' = .ok (.value v) w' := by
  obtain ⟨dst, op, ty, pos, af, g⟩ := o
  dsimp only at hok h
  have ok : ∀ x ∈ op.operands.toList, opdOk n x = true := fun x hx => Array.all_eq_true'.1 hok x (by simpa using hx)
  cases op <;> simp only [Op.operands] at ok <;> simp only [popV] at h <;> try (cases h; done)
  case move x => cases h; exact ⟨_, hE.eval (ok x (by simp)), fun w' _ => by simp [execOp]⟩
  case assign x => cases h; exact ⟨_, hE.eval (ok x (by simp)), fun w' _ => by simp [execOp]⟩
  case pick c x y =>
    obtain ⟨u, hu, hr⟩ := pick_sound (P := P) (hE.eval (ok c (by simp))) (hE.eval (ok x (by simp))) (hE.eval (ok y (by simp))) h
    exact ⟨u, hu, fun w' _ => by unfold execOp; exact hr w'⟩
  case binOp op t x y yt =>
    obtain ⟨hu, hr⟩ := bin_sound (hE.eval (ok x (by simp))) (hE.eval (ok y (by simp))) h
    exact ⟨d, hu, fun w' _ => by
      have := hr w'
      simp only [execOp, Sem.run_bind] at this ⊢
      rw [this]; rfl⟩
  case unOp op t x =>
    obtain ⟨hu, hr⟩ := un_sound (P := P) (hE.eval (ok x (by simp))) h
    exact ⟨d, hu, fun w' _ => by simp [execOp, hr w']⟩
  case convert s t x =>
    obtain ⟨hu, hr⟩ := convX_sound (P := P) hS (hE.eval (ok x (by simp))) h
    exact ⟨d, hu, fun w' hb => by simp [execOp, hr w' hb]⟩
  case nilCheck x =>
    have hv := hE.eval (ok x (by simp))
    unfold nilK at h
    cases ha : asP (ev e x) with
    | some cs =>
      rw [ha] at h
      cases h
      obtain ⟨b, q, us, hx, _⟩ := hv.aptr ha
      exact ⟨_, hv, fun w' _ => by simp [execOp, hx]⟩
    | none =>
    rw [ha] at h
    dsimp only at h
    split at h
    case h_2 => cases h
    rename_i r off ver hx
    by_cases hb : (getB H r ver).isSome = true
    · rw [if_pos hb] at h
      cases h
      rw [hx] at hv
      obtain ⟨cs, hcs⟩ := Option.isSome_iff_exists.1 hb
      have := hv.ptrI hcs
      exact ⟨_, hv, fun w' _ => by simp [execOp, this]⟩
    · rw [if_neg hb] at h; cases h
  case fieldAddr s x f =>
    obtain ⟨u, hu, hr⟩ := fld_sound (P := P) (hE.eval (ok x (by simp))) h
    exact ⟨u, hu, fun w' _ => by simp [execOp, hr w']⟩
  case field s x f =>
    obtain ⟨u, hu, hr⟩ := field_sound (P := P) (hE.eval (ok x (by simp))) h
    exact ⟨u, hu, fun w' _ => by simp [execOp, hr w']⟩
  case indexAddr t x i =>
    obtain ⟨u, hu, hr⟩ := idx_sound (P := P) (hE.eval (ok x (by simp))) (hE.eval (ok i (by simp))) h
    exact ⟨u, hu, fun w' _ => by simp [execOp, hr w']⟩
  case index t x i =>
    obtain ⟨hu, hr⟩ := strIdx_sound (P := P) (hE.eval (ok x (by simp))) (hE.eval (ok i (by simp))) h
    exact ⟨d, hu, fun w' _ => by simp [execOp, hr w']⟩
  case load t x =>
    obtain ⟨u, hu, hr⟩ := load_sound (P := P) hS (hE.eval (ok x (by simp))) h
    exact ⟨u, hu, fun w' hb => by simp [execOp, hr w' hb]⟩
  case slice t x lo hi mx =>
    have hv := hE.eval (ok x (by simp))
    have hlo := optEval hE (o := lo) (fun y hy => ok y (by simp; exact .inr (.inl (by simpa using hy))))
    have hhi := optEval hE (o := hi) (fun y hy => ok y (by simp; exact .inr (.inr (.inl (by simpa using hy)))))
    have hmx := optEval hE (o := mx) (fun y hy => ok y (by simp; exact .inr (.inr (.inr (by simpa using hy)))))
    unfold slV at h
    split at h
    · rename_i s hx
      rw [hx] at hv
      have hs := hv.str
      unfold strSliceS at h
      by_cases hp : pureV (.string s) = true ∧ ((lo.map (ev e)).all pureV && (hi.map (ev e)).all pureV && (mx.map (ev e)).all pureV) = true
      · rw [if_pos hp] at h
        obtain ⟨h1, h2⟩ := runV_some h
        obtain ⟨_, hp2⟩ := hp
        simp only [Bool.and_eq_true] at hp2
        obtain ⟨⟨p1, p2⟩, p3⟩ := hp2
        have same : ∀ (o : Option Operand), (∀ y ∈ o.toList, opdOk n y = true) → (o.map (ev e)).all pureV = true → o.map a.eval = o.map (ev e) := fun o ho hp => by
          cases o with
          | none => rfl
          | some y =>
            simp only [Option.map_some, Option.all_some] at hp ⊢
            rw [(hE.eval (ho y (by simp))).pureE hp]
        refine ⟨d, .ofPure h1, fun w' _ => ?_⟩
        have e1 := same lo (fun y hy => ok y (by simp; exact .inr (.inl (by simpa using hy)))) p1
        have e2 := same hi (fun y hy => ok y (by simp; exact .inr (.inr (.inl (by simpa using hy))))) p2
        have e3 := same mx (fun y hy => ok y (by simp; exact .inr (.inr (.inr (by simpa using hy))))) p3
        simp [execOp, hs, e1, e2, e3, h2 w']
      · rw [if_neg hp] at h; cases h
    · obtain ⟨u, hu, hr⟩ := slice_sound (P := P) hv hS (hlo 0) hhi hmx (by cases hi <;> rfl) (by cases mx <;> rfl) h
      exact ⟨u, hu, fun w' _ => by simp [execOp, hr w']⟩
  case extract x i =>
    obtain ⟨u, hu, hr⟩ := extract_sound (P := P) (hE.eval (ok x (by simp))) h
    exact ⟨u, hu, fun w' _ => by simp [execOp, hr w']⟩
  case build t ps =>
    obtain ⟨u, hu, hr⟩ := build_sound (P := P) hE (fun p hp => ok p.2 (by simp; exact ⟨p.1, by simpa using hp⟩)) h
    exact ⟨u, hu, fun w' _ => by
      have := hr w'
      simp [execOp, this]⟩
  case makeInterface t x =>
    obtain ⟨hu, hr⟩ := iface_sound (P := P) (hE.eval (ok x (by simp))) h
    exact ⟨d, hu, fun w' _ => by simp [execOp, hr w']⟩
  case makeFunc fn first cap =>
    by_cases h0 : first.size = 0
    · rw [if_pos h0] at h
      cases h
      have hf : first = #[] := Array.eq_empty_of_size_eq_zero h0
      subst hf
      have hl := (hE.evalL cap.toList (fun x hx => ok x (by simp; simpa using hx))).toArr
      refine ⟨.func fn #[] (cap.toList.map a.eval).toArray, .func fn _ _ hl.1 hl.2, fun w' _ => ?_⟩
      simp [execOp, Instr.makeFunc, ← Array.toList_map]
    · rw [if_neg h0] at h; cases h
  case call c =>
    obtain ⟨callee, args, argTypes⟩ := c
    cases callee with
    | value f => cases h
    | invoke r m => cases h
    | builtin b =>
      dsimp only at h
      have hl := hE.evalL args.toList (fun x hx => ok x (by simp [Call.operands]; simpa using hx))
      unfold popB at h
      split at h
      · rename_i x hx
        by_cases h1 : argTypes.size = 1
        · rw [if_pos h1] at h
          obtain ⟨t, ht⟩ : ∃ t, argTypes = #[t] := Array.size_eq_one_iff.1 h1
          subst ht
          have hlen : args.toList.length = 1 := by have := congrArg List.length hx; simpa using this
          obtain ⟨y, hy⟩ : ∃ y, args.toList = [y] := List.length_eq_one_iff.1 hlen
          have hargs : args = #[y] := by apply Array.ext'; exact hy
          subst hargs
          simp only [List.map_cons, List.map_nil, List.cons.injEq, and_true] at hx
          subst hx
          obtain ⟨hu, hr⟩ := len_sound (P := P) (ty := ty) (hE.eval (ok y (by simp [Call.operands]))) (by simpa using h)
          exact ⟨d, hu, fun w' _ => by simp [execOp, resolve, invoke, builtin, hr w']⟩
        · rw [if_neg h1] at h; cases h
      · obtain ⟨hu, hr⟩ := min_sound (P := P) (ty := ty) hl.toArr.1 hl.toArr.2 h
        exact ⟨d, hu, fun w' _ => by
          have := hr w'
          simp only [← Array.toList_map, Array.toArray_toList] at this
          simp [execOp, resolve, invoke, builtin, this]⟩
      · obtain ⟨hu, hr⟩ := max_sound (P := P) (ty := ty) hl.toArr.1 hl.toArr.2 h
        exact ⟨d, hu, fun w' _ => by
          have := hr w'
          simp only [← Array.toList_map, Array.toArray_toList] at this
          simp [execOp, resolve, invoke, builtin, this]⟩
      · cases h

end
end Go.BM

/- Regions, code and calls, told by lists: the rules. -/
set_option linter.unusedVariables false
set_option linter.unusedSimpArgs false
namespace Go.BM
open Go.RowKit

def callable (P : Program) (f : FuncId) : Bool :=
  match P.funcs[f]? with
  | some fn => (fn.name == "runtime.NumGoroutine") == false && fn.body.isSome
  | none => false

/-- THE CONTRACT of a call, over a heap of lists. -/
def ACalls (P : Program) (B : Nat) (f : FuncId) (args : List Value) (H : AH) (post : Value → AH → Prop) : Prop :=
  callable P f = true ∧ ∀ (σ : Sg) (w : World) (vals : Array Value), Sim σ H w → B ≤ H.length → VRL σ H vals.toList args →
    Calls P f vals w fun e w' => ∃ v, e = .returned v ∧ ∃ σ' H' d, Fut B σ H w σ' H' w' ∧ Sim σ' H' w' ∧ VR σ' H' v d ∧ post d H'

theorem ACalls.mono {P : Program} {B : Nat} {f : FuncId} {args : List Value} {H : AH} {post post' : Value → AH → Prop} (h : ACalls P B f args H post) (hp : ∀ d H', post d H' → post' d H') : ACalls P B f args H post' :=
  ⟨h.1, fun σ w vals hS hB hv => (h.2 σ w vals hS hB hv).mono fun e w' ⟨v, he, σ', H', d, h1, h2, h3, h4⟩ => ⟨v, he, σ', H', d, h1, h2, h3, hp _ _ h4⟩⟩

theorem ACalls.base {P : Program} {B B' : Nat} {f : FuncId} {args : List Value} {H : AH} {post : Value → AH → Prop} (h : ACalls P B' f args H post) (hB' : B' ≤ H.length) (hB : B ≤ B') : ACalls P B f args H post :=
  ⟨h.1, fun σ w vals hS _ hv => (h.2 σ w vals hS hB' hv).mono fun e w' ⟨v, he, σ', H', d, h1, h2, h3, h4⟩ => ⟨v, he, σ', H', d, h1.base hB, h2, h3, h4⟩⟩

/-! ### cells written in place -/
theorem splice_nil (cs : List Value) (off : Nat) : splice cs off [] = cs := by simp [splice]
theorem set_same' {H : AH} {r : Nat} {b : Blk} (h : H[r]? = some b) : H.set r b = H := by
  apply List.ext_getElem?
  intro j
  by_cases e : j = r
  · subst e
    rw [List.getElem?_set_self (lt_of_some h), h]
  · rw [List.getElem?_set_ne (Ne.symm e)]

theorem write_sound {P : Program} {B : Nat} {σ : Sg} {H : AH} {w : World} (hS : Sim σ H w) {r : Nat} {blk : Blk} (hb : H[r]? = some blk) (ho : blk.own = true) (hB : B ≤ r) {off : Nat} {us news : List Value} (hvl : VRL σ H us news) (h1 : ∀ u ∈ us, u.oneCell' = true)
    (hfit : off + news.length ≤ blk.cs.length) : ∃ w', (storeCells ⟨(σ r).b, (σ r).base + off, none⟩ us).run P w = .ok () w' ∧ Fut B σ H w (σ.upd r (σ r)) (H.set r { blk with cs := splice blk.cs off news }) w' ∧ Sim (σ.upd r (σ r)) (H.set r { blk with cs := splice blk.cs off news }) w' := by
  obtain ⟨c, hc1, hc2, hc3, hc4, hc5⟩ := hS.own r blk hb ho
  have hul := hvl.1
  have hst := run_storeCells_fz P (σ r).b off blk.el _ us 0 c w hc1 (fun j hj => (σ r).fz_free (hc3 ▸ hj)) (by omega) h1
  simp only [Nat.add_zero] at hst
  obtain ⟨F, S⟩ := upd_sound (B := B) (w' := w.setRow (σ r).b (c.toList.take off ++ us ++ c.toList.drop (off + us.length)).toArray) (blk' := { blk with cs := splice blk.cs off news }) hS hb hB rfl rfl rfl (by simp)
    (fun k _ hk => setRow_other w _ k _ (hk ho)) (σ r) (.inl ⟨rfl, ho⟩) (Nat.le_refl _) ho rfl _ (setRow_heap w _ c _ _ _ hc1) hc2 (by simp; omega) (by simp [splice_len (cs := blk.cs) (news := news) (off := off) hfit]; omega) (by
      intro j u hj
      simp only at hj
      rw [splice_get hfit] at hj
      have hget := splice_get (cs := c.toList) (news := us) (off := off) (by simp; omega) j
      unfold splice at hget
      simp only [List.getElem?_toArray]
      rw [hget]
      by_cases j1 : j < off
      · rw [if_pos j1] at hj ⊢
        obtain ⟨x', a1, a2, a3⟩ := hc5 j u hj
        exact ⟨x', by simpa using a1, a2, a3⟩
      · rw [if_neg j1] at hj ⊢
        by_cases j2 : j < off + news.length
        · rw [if_pos j2] at hj
          rw [if_pos (by omega)]
          obtain ⟨x', a1, a2⟩ := hvl.2 _ u hj
          exact ⟨x', a1, a2, h1 x' (List.mem_of_getElem? a1)⟩
        · rw [if_neg j2] at hj
          rw [if_neg (by omega)]
          obtain ⟨x', a1, a2, a3⟩ := hc5 j u hj
          exact ⟨x', by simpa using a1, a2, a3⟩)
  exact ⟨_, by rw [hc2, Nat.zero_add]; exact hst, F, S⟩

/-- How long a slice is, if that can be told. -/
def slen (H : AH) (x : Value) : Option Nat :=
  match asI x with
  | some (n, _) => some n
  | none =>
    (match x with
     | .slice none 0 0 => some 0
     | .slice (some ⟨r, _, _⟩) len ver => (match H[r]? with | some blk => if blk.ver = ver then some len else none | none => none)
     | _ => none)
theorem slen_sound {σ : Sg} {H : AH} {v x : Value} (hx : VR σ H v x) {n : Nat} (h : slen H x = some n) : ∃ a cap, v = .slice a n cap := by
  unfold slen at h
  cases ha : asI x with
  | some lc =>
    obtain ⟨m, cs⟩ := lc
    rw [ha] at h
    cases h
    rcases hx.aslice ha with ⟨rfl, _, a, cap, rfl, _⟩ | ⟨b, o, cap, us, rfl, _⟩ <;> exact ⟨_, _, rfl⟩
  | none =>
    rw [ha] at h
    dsimp only at h
    split at h
    · cases h; obtain ⟨a, rfl⟩ := hx.sliceNil rfl; exact ⟨_, _, rfl⟩
    · rename_i r off sp len ver
      cases hb : H[r]? with
      | none => rw [hb] at h; cases h
      | some blk =>
        rw [hb] at h
        dsimp only at h
        by_cases hv : blk.ver = ver
        · rw [if_pos hv] at h; cases h; exact hx.sliceJ hb hv
        · rw [if_neg hv] at h; cases h
    · cases h

/-- 's == nil', 's != nil' at a slice. -/
def nilOp : Op → Option (Bool × TypeId × Operand)
  | .binOp .eql t x (.const (.slice none 0 0)) _ => some (true, t, x)
  | .binOp .neq t x (.const (.slice none 0 0)) _ => some (false, t, x)
  | _ => none
def nilQ (P : Program) (H : AH) (pos : Bool) (t : TypeId) (x : Value) (k : Value → AH → Prop) : Prop :=
  match elZ P t, slen H x with
  | some _, some n => ∀ b : Bool, (b = true → n = 0) → k (.bool (if pos then b else !b)) H
  | _, _ => False

def clearH (P : Program) (B : Nat) (H : AH) (t : TypeId) (x : Value) : Option AH :=
  match x with
  | .slice (some ⟨r, off, _⟩) len ver =>
    (match elZ P t, H[r]? with
     | some (el, sz, _), some blk =>
       (match zeroV P el with
        | some z => if zOk P el sz = true ∧ blk.ver = ver ∧ blk.own = true ∧ B ≤ r ∧ off + len * sz ≤ blk.cs.length then some (H.set r { blk with cs := splice blk.cs off (zerosOf (cellsV z) (len * sz)) }) else none
        | none => none)
     | _, _ => none)
  | _ => none

theorem zeroCells_eq (z : Value) (n : Nat) : (Builtin.zeroCells z.cells n).toList = zerosOf (cellsV z) (n * z.cells.size) := by
  apply List.ext_getElem?
  intro j
  unfold Builtin.zeroCells zerosOf
  rcases Nat.lt_or_ge j (n * z.cells.size) with hj | hj
  · have h0 : 0 < z.cells.size := by
      rcases Nat.eq_zero_or_pos z.cells.size with h | h
      · rw [h] at hj; simp at hj
      · exact h
    have hm : j % z.cells.size < z.cells.size := Nat.mod_lt _ h0
    rw [← cellsV_eq]
    simp [hj, List.getD, getElem!_pos z.cells (j % z.cells.size) hm, hm]
  · rw [List.getElem?_eq_none (by simp; exact hj), List.getElem?_eq_none (by simp; exact hj)]

theorem clear_sound {P : Program} {B : Nat} {σ : Sg} {H : AH} {w : World} (hS : Sim σ H w) {t ty : TypeId} {v x : Value} {H' : AH} (hx : VR σ H v x) (h : clearH P B H t x = some H') :
    Goes P B σ H w ((Builtin.clear_ #[t] ty #[v]).run P w) (.tuple #[]) H' := by
  unfold clearH at h
  split at h
  case h_2 => cases h
  rename_i r off sp len ver
  split at h
  case h_2 => cases h
  rename_i el sz by_ blk he hb
  cases hz : zeroV P el with
  | none => rw [hz] at h; cases h
  | some z =>
    rw [hz] at h
    dsimp only at h
    by_cases hc : zOk P el sz = true ∧ blk.ver = ver ∧ blk.own = true ∧ B ≤ r ∧ off + len * sz ≤ blk.cs.length
    · rw [if_pos hc] at h
      cases h
      obtain ⟨c0, c1, c2, c3, c4⟩ := hc
      obtain ⟨hu, i, hi, hisz, hiby⟩ := elZ_some he
      unfold zOk at c0
      rw [hz] at c0
      simp only [Bool.and_eq_true, decide_eq_true_eq] at c0
      obtain ⟨⟨⟨hzs, hzc⟩, hz1⟩, hpos⟩ := c0
      have hzz : ∀ w, (zeroValue el).run P w = .ok z w := fun w => by
        unfold zeroV at hz
        rw [hi] at hz
        simp only [Option.bind_some] at hz
        simp [zeroValue, typeInfo, hi, hz]
      have hg : getB H r ver = some blk.cs := by simp [getB, hb, c1, c2]
      rcases hx.sliceI hg with ⟨rfl, _, a, rfl⟩ | ⟨cap, blk', hb', rfl, _⟩
      · have e : H.set r { blk with cs := splice blk.cs off (zerosOf (cellsV z) (0 * sz)) } = H := by
          rw [Nat.zero_mul]
          show H.set r { blk with cs := splice blk.cs off [] } = H
          rw [splice_nil]
          exact set_same' hb
        rw [e]
        exact ⟨_, w, σ, by cases a <;> simp [Builtin.clear_, run_underlying hu], .refl _ _ _ _, hS, .tuple _ _ rfl fun i h1 => absurd h1 (Nat.not_lt_zero _)⟩
      · rw [hb] at hb'
        cases hb'
        have hmem : ∀ u ∈ zerosOf (cellsV z) (len * sz), u ∈ z.cells.toList ∨ len * sz = 0 := fun u hu => by
          rcases Nat.eq_zero_or_pos (len * sz) with h0 | h0
          · exact .inr h0
          · left
            unfold zerosOf at hu
            obtain ⟨j, _, rfl⟩ := List.mem_map.1 hu
            rw [← cellsV_eq] 
            have hlt : j % z.cells.toList.length < z.cells.toList.length := Nat.mod_lt _ (by simp; omega)
            simp only [List.getD, List.getElem?_eq_getElem hlt, Option.getD_some]
            exact List.getElem_mem hlt
        by_cases h0 : len = 0
        · subst h0
          have e : H.set r { blk with cs := splice blk.cs off (zerosOf (cellsV z) (0 * sz)) } = H := by
            rw [Nat.zero_mul]
            show H.set r { blk with cs := splice blk.cs off [] } = H
            rw [splice_nil]
            exact set_same' hb
          rw [e]
          exact ⟨_, w, σ, by simp [Builtin.clear_, run_underlying hu], .refl _ _ _ _, hS, .tuple _ _ rfl fun i h1 => absurd h1 (Nat.not_lt_zero _)⟩
        · have hmem' : ∀ u ∈ zerosOf (cellsV z) (len * sz), u ∈ z.cells.toList := fun u hu => by
            rcases hmem u hu with h | h
            · exact h
            · have := Nat.mul_pos (Nat.pos_of_ne_zero h0) hpos; omega
          have hlen : (zerosOf (cellsV z) (len * sz)).length = len * sz := by simp [zerosOf]
          obtain ⟨w', hst, F, S⟩ := write_sound (P := P) (B := B) hS hb c2 c3 (off := off) (us := zerosOf (cellsV z) (len * sz)) (news := zerosOf (cellsV z) (len * sz)) (VRL.consts (List.all_eq_true.2 fun u hu => Array.all_eq_true'.1 hzc u (by simpa using hmem' u hu))) (fun u hu => Array.all_eq_true'.1 hz1 u (by simpa using hmem' u hu)) (by rw [hlen]; exact c4)
          obtain ⟨m, rfl⟩ : ∃ m, len = m + 1 := ⟨len - 1, by omega⟩
          refine ⟨_, w', _, ?_, F, S, .tuple _ _ rfl fun i h1 => absurd h1 (Nat.not_lt_zero _)⟩
          simp [Builtin.clear_, run_underlying hu, hzz, zeroCells_eq, hzs, hst]
    · rw [if_neg hc] at h; cases h

def zOkV (z : Value) : Bool :=
  match z with
  | .agg cs => cs.all constOk && cs.all Value.oneCell'
  | v => constOk v && v.oneCell'

def optH (o : Option AH) (k : AH → Prop) : Prop :=
  match o with
  | some H => k H
  | none => False

noncomputable def aopE (P : Program) (B : Nat) (e : Env) (H : AH) (op : Op) (k : Value → AH → Prop) : Prop :=
  match op with
  | .binOp o t x y u => (match nilOp (.binOp o t x y u) with | some (pos, t, x) => nilQ P H pos t (ev e x) k | none => False)
  | .box T x => (cellsV (ev e x)).all Value.oneCell' = true ∧ k (.pointer (some ⟨H.length, 0, some 0⟩)) (H ++ [mkB T 0 (cellsV (ev e x))])
  | .alloc T => optK (zeroV P T) fun z => zOkV z = true ∧ k (.pointer (some ⟨H.length, 0, some 0⟩)) (H ++ [mkB T 0 (cellsV z)])
  | .store t x v => optH (storeH P B H t (ev e x) (ev e v)) fun H' => k undef H'
  | .buildSlice t len ps => optP (buildSliceH P H t len (ps.toList.map fun p => (p.1, ev e p.2))) k
  | .makeSlice t l c => optP (makeH P H t (ev e l) (ev e c)) k
  | .call c =>
    (match c.callee with
     | .builtin .append =>
       (match c.args.toList, c.argTypes.toList with
        | [s, x], [t, tx] => optP (appendH P B H t tx (ev e s) (ev e x)) k
        | _, _ => False)
     | .builtin .clear =>
       (match c.args.toList, c.argTypes.toList with
        | [x], [t] => optH (clearH P B H t (ev e x)) fun H' => k (.tuple #[]) H'
        | _, _ => False)
     | .value f =>
       (match ev e f with
        | .func (.func g) first caps => first.size = 0 ∧ ACalls P B g (c.args.toList.map (ev e) ++ caps.toList) H k
        | _ => False)
     | _ => False)
  | _ => False

section
variable {P : Program} {B n : Nat} {σ : Sg} {H : AH} {w : World} {a : Act} {e : Env}

theorem zOkV_rel {z : Value} (h : zOkV z = true) (σ : Sg) (H : AH) : VR σ H z z ∧ (cellsV z).all Value.oneCell' = true := by
  unfold zOkV at h
  split at h
  · rename_i cs
    rw [Bool.and_eq_true] at h
    refine ⟨?_, by simpa [cellsV] using h.2⟩
    have := (VRL.consts (σ := σ) (H := H) (zs := cs.toList) (by simpa using h.1)).toAgg
    simpa using this
  · rename_i v hne
    rw [Bool.and_eq_true] at h
    refine ⟨flat_const h.1 σ H, ?_⟩
    have : cellsV z = [z] := by cases z <;> first | rfl | (exact absurd rfl (hne _))
    rw [this]
    simpa using h.2

/-- THE OPERATIONS THAT MAKE, WRITE OR CALL. -/
theorem eff_sound (hS : Sim σ H w) (hB : B ≤ H.length) (hE : ER n σ H a e) {o : Oper} (hok : o.op.operands.all (opdOk n) = true) {k : Value → AH → Prop} (h : aopE P B e H o.op k)
    {next : Act → World → Prop} {Q : Exit → Act → World → Prop}
    (hn : ∀ v w' σ' H' d, Fut B σ H w σ' H' w' → Sim σ' H' w' → VR σ' H' v d → k d H' → next (a.put o.dst v) w') : o.wp P a w next Q := by
  obtain ⟨dst, op, ty, pos0, af, g⟩ := o
  dsimp only at hok h hn
  have ok : ∀ x ∈ op.operands.toList, opdOk n x = true := fun x hx => Array.all_eq_true'.1 hok x (by simpa using hx)
  have goes : ∀ {r : Result Value} {d : Value} {H' : AH}, Goes P B σ H w r d H' → k d H' → ∀ s : Sem Value, s.run P w = r → execOp a.eval ⟨dst, op, ty, pos0, af, g⟩ = (do pure (.value (← s))) → Oper.wp P ⟨dst, op, ty, pos0, af, g⟩ a w next Q := by
    intro r d H' hg hk s hs he
    obtain ⟨v, w', σ', rfl, F, S, V⟩ := hg
    unfold Oper.wp
    rw [he]
    simp only [Sem.run_bind, hs, Result.andThen_ok, Sem.run_pure, Oper.upon_value]
    exact hn _ _ _ _ _ F S V hk
  cases op <;> simp only [Op.operands] at ok <;> simp only [aopE] at h
  case binOp o t x y u =>
    split at h
    case h_2 => exact h.elim
    rename_i pos t' x' hnil
    have hcase : (o = .eql ∧ pos = true ∨ o = .neq ∧ pos = false) ∧ t' = t ∧ x' = x ∧ y = .const (.slice none 0 0) := by
      unfold nilOp at hnil
      split at hnil
      · rename_i e
        cases e
        cases hnil
        exact ⟨.inl ⟨rfl, rfl⟩, rfl, rfl, rfl⟩
      · rename_i e
        cases e
        cases hnil
        exact ⟨.inr ⟨rfl, rfl⟩, rfl, rfl, rfl⟩
      · cases hnil
    obtain ⟨hop, rfl, rfl, rfl⟩ := hcase
    unfold nilQ at h
    split at h
    case h_2 => exact h.elim
    rename_i z n' hz hl
    obtain ⟨el, sz, by_⟩ := z
    obtain ⟨hu, _⟩ := elZ_some hz
    obtain ⟨ad, cap, hv⟩ := slen_sound (hE.eval (ok x' (by simp))) hl
    have hzero : ad.isNone = true → n' = 0 := fun ha => by
      have hvr := hE.eval (ok x' (by simp))
      rw [hv] at hvr
      cases ad with
      | some _ => cases ha
      | none =>
        generalize ev e x' = dx at hvr hl
        cases hvr with
        | flat _ h => simp [flatV] at h
        | mt => rfl
        | stale r off len ver sp blk h hv =>
          unfold slen at hl
          simp only [asI] at hl
          rw [h] at hl
          dsimp only at hl
          rw [if_neg (by omega)] at hl
          cases hl
        | isl0 => rfl
    rcases hop with ⟨rfl, rfl⟩ | ⟨rfl, rfl⟩
    · have hb := h ad.isNone hzero
      simp only [if_true] at hb
      have := Go.Lib.run_eql_slice_nil (P := P) w t' el ad n' cap 0 0 hu
      have hr : (execOp a.eval ⟨dst, .binOp .eql t' x' (.const (.slice none 0 0)) u, ty, pos0, af, g⟩).run P w = .ok (.value (.bool ad.isNone)) w := by
        have he : a.eval (.const (.slice none 0 0)) = .slice none 0 0 := rfl
        simp [execOp, he, hv, eqGuard, this]
      unfold Oper.wp
      rw [hr, Oper.upon_value]
      exact hn _ _ _ _ _ (.refl _ _ _ _) hS (.flat _ rfl) hb
    · have hb := h ad.isNone hzero
      simp only [Bool.false_eq_true, if_false] at hb
      have := run_neq_slice_nil (P := P) w t' el ad n' cap hu
      have hr : (execOp a.eval ⟨dst, .binOp .neq t' x' (.const (.slice none 0 0)) u, ty, pos0, af, g⟩).run P w = .ok (.value (.bool (!ad.isNone))) w := by
        have he : a.eval (.const (.slice none 0 0)) = .slice none 0 0 := rfl
        simp [execOp, he, hv, eqGuard, this]
      unfold Oper.wp
      rw [hr, Oper.upon_value]
      exact hn _ _ _ _ _ (.refl _ _ _ _) hS (.flat _ rfl) hb
  case box T x => exact goes (box_sound (P := P) hS hB (hE.eval (ok x (by simp))) h.1 0) h.2 _ rfl rfl
  case alloc T =>
    cases hz : zeroV P T with
    | none => rw [hz] at h; exact h.elim
    | some z =>
      rw [hz] at h
      obtain ⟨h1, h2⟩ := h
      obtain ⟨hr, ho⟩ := zOkV_rel h1 σ H
      have hrun : (Instr.alloc T true (.tuple #[])).run P w = (Instr.box T z).run P w := by
        unfold zeroV at hz
        cases hi : P.info? T with
        | none => rw [hi] at hz; cases hz
        | some i =>
          rw [hi] at hz
          simp only [Option.bind_some] at hz
          simp [Instr.alloc, Instr.box, zeroValue, typeInfo, hi, hz]
      exact goes (box_sound (P := P) hS hB hr ho 0) h2 (Instr.alloc T true (.tuple #[])) hrun rfl
  case store t x v =>
    cases hs : storeH P B H t (ev e x) (ev e v) with
    | none => rw [hs] at h; exact h.elim
    | some H' =>
      rw [hs] at h
      obtain ⟨w', σ', hr, F, S⟩ := store_sound (P := P) hS (hE.eval (ok x (by simp))) (hE.eval (ok v (by simp))) hs
      unfold Oper.wp execOp
      simp only [Sem.run_bind, hr, Result.andThen_ok, Sem.run_pure, Oper.upon_skip]
      exact hn _ _ _ _ undef F S (.flat _ rfl) h
  case buildSlice t len ps =>
    cases hs : buildSliceH P H t len (ps.toList.map fun p => (p.1, ev e p.2)) with
    | none => rw [hs] at h; exact h.elim
    | some dH =>
      rw [hs] at h
      exact goes (buildSlice_sound (P := P) hS hB hE (fun p hp => ok p.2 (by simp; exact ⟨p.1, by simpa using hp⟩)) (d := dH.1) (H' := dH.2) hs) h _ rfl rfl
  case makeSlice t l c =>
    cases hs : makeH P H t (ev e l) (ev e c) with
    | none => rw [hs] at h; exact h.elim
    | some dH =>
      rw [hs] at h
      exact goes (make_sound (P := P) hS hB (hE.eval (ok l (by simp))) (hE.eval (ok c (by simp))) (d := dH.1) (H' := dH.2) hs) h _ rfl rfl
  case call c =>
    obtain ⟨callee, args, argTypes⟩ := c
    dsimp only at h
    cases callee with
    | invoke r m => exact h.elim
    | builtin b =>
      cases b <;> try (exact h.elim)
      case append =>
        dsimp only at h
        split at h
        case h_2 => exact h.elim
        rename_i s x t tx hargs hts
        have ha : args = #[s, x] := by apply Array.ext'; exact hargs
        have ht : argTypes = #[t, tx] := by apply Array.ext'; exact hts
        subst ha; subst ht
        cases hs : appendH P B H t tx (ev e s) (ev e x) with
        | none => rw [hs] at h; exact h.elim
        | some dH =>
          rw [hs] at h
          refine goes (append_sound (P := P) (ty := ty) hS hB (hE.eval (ok s (by simp [Call.operands]))) (hE.eval (ok x (by simp [Call.operands]))) (d := dH.1) (H' := dH.2) hs) h (Builtin.append_ #[t, tx] ty #[a.eval s, a.eval x]) rfl ?_
          simp [execOp, resolve, invoke, builtin]
      case clear =>
        dsimp only at h
        split at h
        case h_2 => exact h.elim
        rename_i x t hargs hts
        have ha : args = #[x] := by apply Array.ext'; exact hargs
        have ht : argTypes = #[t] := by apply Array.ext'; exact hts
        subst ha; subst ht
        cases hs : clearH P B H t (ev e x) with
        | none => rw [hs] at h; exact h.elim
        | some H' =>
          rw [hs] at h
          refine goes (clear_sound (P := P) (ty := ty) hS (hE.eval (ok x (by simp [Call.operands]))) hs) h (Builtin.clear_ #[t] ty #[a.eval x]) rfl ?_
          simp [execOp, resolve, invoke, builtin]
    | value f =>
      dsimp only at h
      split at h
      case h_2 => exact h.elim
      rename_i g0 first caps hf
      obtain ⟨hfs, hcall⟩ := h
      have hfirst : first = #[] := Array.eq_empty_of_size_eq_zero hfs
      subst hfirst
      have hv := hE.eval (ok f (by simp [Call.operands]))
      rw [hf] at hv
      obtain ⟨xs, hxs, hxl⟩ : ∃ xs : Array Value, a.eval f = .func (.func g0) #[] xs ∧ VRL σ H xs.toList caps.toList := by
        generalize a.eval f = vf at hv
        cases hv with
        | flat _ hfl => simp [flatV] at hfl
        | func fn xs ys hs hvv =>
          refine ⟨xs, rfl, by simpa using hs, fun j u hu => ?_⟩
          have hj : j < caps.size := by have := lt_of_some' hu; simpa using this
          have hjx : j < xs.size := by rw [hs]; exact hj
          have := hvv j hjx hj
          rw [Array.getElem?_toList, Array.getElem?_eq_getElem hj] at hu
          cases hu
          exact ⟨_, by rw [Array.getElem?_toList, Array.getElem?_eq_getElem hjx], this⟩
      have hal := hE.evalL args.toList (fun x hx => ok x (by simp [Call.operands]; exact .inr (by simpa using hx)))
      have hvals : VRL σ H ((args.map a.eval) ++ xs).toList (args.toList.map (ev e) ++ caps.toList) := by
        rw [Array.toList_append, Array.toList_map]
        exact hal.append hxl
      obtain ⟨hcb, hc⟩ := hcall
      have hrun : (execOp a.eval ⟨dst, .call ⟨.value f, args, argTypes⟩, ty, pos0, af, g⟩).run P w = .ok (.enter g0 (args.map a.eval ++ xs)) w := by
        unfold callable at hcb
        cases hfn : P.funcs[g0]? with
        | none => rw [hfn] at hcb; cases hcb
        | some fn =>
          rw [hfn] at hcb
          simp only [Bool.and_eq_true, beq_iff_eq] at hcb
          obtain ⟨hname, hbody⟩ := hcb
          have hbn : ¬ fn.body = none := by intro hx; rw [hx] at hbody; cases hbody
          have hname' : ¬ fn.name = "runtime.NumGoroutine" := by intro hx; rw [hx] at hname; simp at hname
          simp [execOp, resolve, hxs, Deferred.ofValue, invoke, callFunc, hfn, hname', hbn]
      unfold Oper.wp
      rw [hrun, Oper.upon_enter]
      refine (hc σ w _ hS hB hvals).mono fun ee w' ⟨v, hee, σ', H', d, F, S, V, hk⟩ => ?_
      subst hee
      exact hn _ _ _ _ _ F S V hk

end
end Go.BM

/- Regions, code and entry, told by lists: the rules of a walk. -/
set_option linter.unusedVariables false
set_option linter.unusedSimpArgs false
namespace Go.BM
open Go.RowKit

def isPop : Op → Bool
  | .binOp o t x y u => (nilOp (.binOp o t x y u)).isNone
  | .move _ | .assign _ | .pick .. | .unOp .. | .convert .. | .nilCheck _ | .fieldAddr .. | .field .. | .indexAddr .. | .index .. | .load .. | .slice .. | .extract .. | .build .. | .makeInterface .. | .makeFunc .. => true
  | .call c => (match c.callee with | .builtin .len | .builtin .min | .builtin .max => true | _ => false)
  | _ => false

def gateA (y : Option Bool) (want : Bool) (p q : Prop) : Prop := if y = some want then p else q

noncomputable def aop (P : Program) (B : Nat) (e : Env) (H : AH) (o : Oper) (k : Value → AH → Prop) : Prop :=
  if isPop o.op = true then optK (popV P e H o.type o.op) (fun v => k v H) else aopE P B e H o.op k

noncomputable def aops (P : Program) (B : Nat) (ops : Array Oper) (K : Env → AH → Prop) : List Oper → Env → AH → Prop
  | [], e, H => K e H
  | o :: l, e, H =>
    match o.guard with
    | none => aop P B e H o fun v H' => aops P B ops K l (put e o.dst v) H'
    | some (j, want) => gateA (yieldA ops e j) want (aop P B e H o fun v H' => aops P B ops K l (put e o.dst v) H') (aops P B ops K l (put e o.dst undef) H)

/-- The same for a region in which nothing is made or written: the heap stays. -/
def qopE (P : Program) (e : Env) (H : AH) (op : Op) (k : Value → Prop) : Prop :=
  match op with
  | .call c =>
    (match c.callee with
     | .value f =>
       (match ev e f with
        | .func (.func g) first caps => first.size = 0 ∧ ∃ d, pureV d = true ∧ ACalls P H.length g (c.args.toList.map (ev e) ++ caps.toList) H (fun v _ => v = d) ∧ k d
        | _ => False)
     | _ => False)
  | _ => False

noncomputable def qop (P : Program) (e : Env) (H : AH) (o : Oper) (k : Value → Prop) : Prop :=
  if isPop o.op = true then optK (popV P e H o.type o.op) k else qopE P e H o.op k

noncomputable def qops (P : Program) (ops : Array Oper) (H : AH) (K : Env → Prop) : List Oper → Env → Prop
  | [], e => K e
  | o :: l, e =>
    match o.guard with
    | none => qop P e H o fun v => qops P ops H K l (put e o.dst v)
    | some (j, want) => gateA (yieldA ops e j) want (qop P e H o fun v => qops P ops H K l (put e o.dst v)) (qops P ops H K l (put e o.dst undef))

def RelQ (n B : Nat) (σ : Sg) (H : AH) (w : World) (Q : Exit → Env → AH → Prop) : Exit → Act → World → Prop :=
  fun ex a' w' => ∃ σ' e' H', Fut B σ H w σ' H' w' ∧ Sim σ' H' w' ∧ ER n σ' H' a' e' ∧ Q ex e' H'

theorem RelQ.trans {n B : Nat} {σ σ1 : Sg} {H H1 : AH} {w w1 : World} {Q : Exit → Env → AH → Prop} (f : Fut B σ H w σ1 H1 w1) {ex : Exit} {a' : Act} {w' : World} (h : RelQ n B σ1 H1 w1 Q ex a' w') : RelQ n B σ H w Q ex a' w' := by
  obtain ⟨σ', e', H', h1, h2, h3, h4⟩ := h
  exact ⟨σ', e', H', f.trans h1, h2, h3, h4⟩

def operOk (n : Nat) (o : Oper) : Bool := dstOk n o.dst && o.op.operands.all (opdOk n)

def codeOk (n : Nat) : Code → Bool
  | .region _ ops _ => ops.all (operOk n)
  | .seq a b => codeOk n a && codeOk n b
  | .cond c a b => opdOk n c && (codeOk n a && codeOk n b)
  | .block _ c => codeOk n c
  | .loop c => codeOk n c
  | .skip | .ret | .exit _ => true
  | _ => false

section
variable {P : Program} {B n : Nat} {σ σ0 : Sg} {H H0 : AH} {w w0 : World} {a : Act} {e : Env}

theorem aop_sound (hS : Sim σ H w) (hB : B ≤ H.length) (hE : ER n σ H a e) {o : Oper} (hok : o.op.operands.all (opdOk n) = true) {k : Value → AH → Prop} (h : aop P B e H o k)
    {next : Act → World → Prop} {Q : Exit → Act → World → Prop}
    (hn : ∀ v w' σ' H' d, Fut B σ H w σ' H' w' → Sim σ' H' w' → VR σ' H' v d → k d H' → next (a.put o.dst v) w') : o.wp P a w next Q := by
  unfold aop at h
  by_cases hp : isPop o.op = true
  · rw [if_pos hp] at h
    cases hv : popV P e H o.type o.op with
    | none => rw [hv] at h; exact h.elim
    | some d =>
      rw [hv] at h
      obtain ⟨v, hvr, hr⟩ := pop_sound hS hE hok hv
      unfold Oper.wp
      rw [hr w (Below.refl _ w), Oper.upon_value]
      exact hn v w σ H d (.refl _ _ _ _) hS hvr h
  · rw [if_neg hp] at h
    exact eff_sound hS hB hE hok h hn

theorem aops_sound {ops : Array Oper} (hops : ops.all (operOk n) = true) {Q : Exit → Env → AH → Prop} : ∀ (l : List Oper), (∀ o ∈ l, operOk n o = true) → ∀ (e : Env) (H : AH) (σ : Sg) (w : World) (a : Act),
    Fut B σ0 H0 w0 σ H w → Sim σ H w → B ≤ H.length → ER n σ H a e → aops P B ops (Q .normal) l e H → wpList P ops (RelQ n B σ0 H0 w0 Q) l a w
  | [], _, e, H, σ, w, a, f, hS, hB, hE, h => ⟨σ, e, H, f, hS, hE, h⟩
  | o :: l, hl, e, H, σ, w, a, f, hS, hB, hE, h => by
    have ho := hl o (by simp)
    unfold operOk at ho
    rw [Bool.and_eq_true] at ho
    have hdst : ops.all (fun o => dstOk n o.dst) = true := by
      rw [Array.all_eq_true] at hops ⊢
      intro i hi
      have := hops i hi
      unfold operOk at this
      rw [Bool.and_eq_true] at this
      exact this.1
    have step : aop P B e H o (fun v H' => aops P B ops (Q .normal) l (put e o.dst v) H') → o.wp P a w (wpList P ops (RelQ n B σ0 H0 w0 Q) l) (RelQ n B σ0 H0 w0 Q) := fun h' =>
      aop_sound hS hB hE ho.2 h' fun v w' σ' H' d F S V k =>
        aops_sound hops l (fun o ho => hl o (by simp [ho])) _ _ _ _ _ (f.trans F) S (Nat.le_trans hB F.len) ((hE.fut F).put ho.1 V) k
    have skip : aops P B ops (Q .normal) l (put e o.dst undef) H → wpList P ops (RelQ n B σ0 H0 w0 Q) l (a.put o.dst undef) w := fun h' =>
      aops_sound hops l (fun o ho => hl o (by simp [ho])) _ _ _ _ _ f hS hB (hE.put ho.1 (.flat _ rfl)) h'
    unfold wpList
    unfold aops at h
    cases hg : o.guard with
    | none =>
      rw [hg] at h
      rw [if_pos (by simp [Region.wanted, hg])]
      exact .inl (step h)
    | some jw =>
      obtain ⟨j, want⟩ := jw
      rw [hg] at h
      dsimp only at h
      unfold gateA at h
      have hy := yield_eq hE hdst j
      by_cases hc : yieldA ops e j = some want
      · rw [if_pos hc] at h
        rw [if_pos (by simp [Region.wanted, hg, hy, hc])]
        exact .inl (step h)
      · rw [if_neg hc] at h
        rw [if_neg (by simp [Region.wanted, hg, hy, hc])]
        exact skip h

theorem qop_sound (hS : Sim σ H w) (hE : ER n σ H a e) {o : Oper} (hok : o.op.operands.all (opdOk n) = true) {k : Value → Prop} (h : qop P e H o k) :
    ∃ v d, VR σ H v d ∧ k d ∧ ∀ w', Below w.heap.size w w' → o.quietAt P a (fun w'' => Below w.heap.size w w'') w' v := by
  unfold qop at h
  by_cases hp : isPop o.op = true
  · rw [if_pos hp] at h
    cases hv : popV P e H o.type o.op with
    | none => rw [hv] at h; exact h.elim
    | some d =>
      rw [hv] at h
      obtain ⟨v, hvr, hr⟩ := pop_sound hS hE hok hv
      refine ⟨v, d, hvr, h, fun w' hb => ?_⟩
      unfold Oper.quietAt
      rw [hr w' hb]
      exact ⟨rfl, rfl⟩
  · rw [if_neg hp] at h
    obtain ⟨dst, op, ty, pos, af, g⟩ := o
    dsimp only at h hok
    cases op <;> simp only [qopE] at h
    rename_i c
    obtain ⟨callee, args, argTypes⟩ := c
    dsimp only at h
    cases callee with
    | invoke r m => exact h.elim
    | builtin b => exact h.elim
    | value f =>
      dsimp only at h
      split at h
      case h_2 => exact h.elim
      rename_i g0 first caps hf
      obtain ⟨hfs, d, hd, hcall, hk⟩ := h
      refine ⟨d, d, .ofPure hd, hk, fun w' hb => ?_⟩
      have hS' := hS.below hb
      have hE' : ER n σ H a e := hE
      -- the call, in that world
      have hwp : Oper.wp P ⟨dst, .call ⟨.value f, args, argTypes⟩, ty, pos, af, g⟩ a w' (fun _ _ => True) (fun _ _ _ => True) :=
        eff_sound (B := H.length) hS' (Nat.le_refl _) hE' hok (k := fun _ _ => True) (by
          simp only [aopE, hf]
          exact ⟨hfs, hcall.mono fun _ _ _ => trivial⟩) (fun _ _ _ _ _ _ _ _ _ => trivial)
      have hfirst : first = #[] := Array.eq_empty_of_size_eq_zero hfs
      subst hfirst
      have ok : ∀ x ∈ (Op.call ⟨.value f, args, argTypes⟩).operands.toList, opdOk n x = true := fun x hx => Array.all_eq_true'.1 hok x (by simpa using hx)
      simp only [Op.operands] at ok
      have hv := hE.eval (ok f (by simp [Call.operands]))
      rw [hf] at hv
      obtain ⟨xs, hxs, hxl⟩ : ∃ xs : Array Value, a.eval f = .func (.func g0) #[] xs ∧ VRL σ H xs.toList caps.toList := by
        generalize a.eval f = vf at hv
        cases hv with
        | flat _ hfl => simp [flatV] at hfl
        | func fn xs ys hs hvv =>
          refine ⟨xs, rfl, by simpa using hs, fun j u hu => ?_⟩
          have hj : j < caps.size := by have := lt_of_some' hu; simpa using this
          have hjx : j < xs.size := by rw [hs]; exact hj
          have := hvv j hjx hj
          rw [Array.getElem?_toList, Array.getElem?_eq_getElem hj] at hu
          cases hu
          exact ⟨_, by rw [Array.getElem?_toList, Array.getElem?_eq_getElem hjx], this⟩
      have hal := hE.evalL args.toList (fun x hx => ok x (by simp [Call.operands]; exact .inr (by simpa using hx)))
      have hvals : VRL σ H ((args.map a.eval) ++ xs).toList (args.toList.map (ev e) ++ caps.toList) := by
        rw [Array.toList_append, Array.toList_map]
        exact hal.append hxl
      obtain ⟨hcb, hc⟩ := hcall
      have hrun : (execOp a.eval ⟨dst, .call ⟨.value f, args, argTypes⟩, ty, pos, af, g⟩).run P w' = .ok (.enter g0 (args.map a.eval ++ xs)) w' := by
        unfold callable at hcb
        cases hfn : P.funcs[g0]? with
        | none => rw [hfn] at hcb; cases hcb
        | some fn =>
          rw [hfn] at hcb
          simp only [Bool.and_eq_true, beq_iff_eq] at hcb
          obtain ⟨hname, hbody⟩ := hcb
          have hbn : ¬ fn.body = none := by intro hx; rw [hx] at hbody; cases hbody
          have hname' : ¬ fn.name = "runtime.NumGoroutine" := by intro hx; rw [hx] at hname; simp at hname
          simp [execOp, resolve, hxs, Deferred.ofValue, invoke, callFunc, hfn, hname', hbn]
      unfold Oper.quietAt
      rw [hrun]
      refine ⟨rfl, (hc σ w' _ hS' (Nat.le_refl _) hvals).mono fun ee w'' ⟨v, hee, σ', H', d', F, S, V, hk'⟩ => ?_⟩
      subst hee
      subst hk'
      exact ⟨by rw [V.pureE hd], hb.trans (F.forget.mono hb.size)⟩

theorem qops_sound {ops : Array Oper} (hops : ops.all (operOk n) = true) {K : Env → Prop} (hS : Sim σ H w) : ∀ (l : List Oper), (∀ o ∈ l, operOk n o = true) → ∀ (e : Env) (a : Act), ER n σ H a e → qops P ops H K l e →
    wpQuiet P ops (fun w'' => Below w.heap.size w w'') (fun a' => ∃ e', ER n σ H a' e' ∧ K e') l a
  | [], _, e, a, hE, h => ⟨e, hE, h⟩
  | o :: l, hl, e, a, hE, h => by
    have ho := hl o (by simp)
    unfold operOk at ho
    rw [Bool.and_eq_true] at ho
    have hdst : ops.all (fun o => dstOk n o.dst) = true := by
      rw [Array.all_eq_true] at hops ⊢
      intro i hi
      have := hops i hi
      unfold operOk at this
      rw [Bool.and_eq_true] at this
      exact this.1
    have step : qop P e H o (fun v => qops P ops H K l (put e o.dst v)) → o.quiet P a (fun w'' => Below w.heap.size w w'') (wpQuiet P ops (fun w'' => Below w.heap.size w w'') (fun a' => ∃ e', ER n σ H a' e' ∧ K e') l) := fun h' => by
      obtain ⟨v, d, hv, hk, hr⟩ := qop_sound hS hE ho.2 h'
      exact ⟨v, hr, qops_sound hops hS l (fun o ho => hl o (by simp [ho])) _ _ (hE.put ho.1 hv) hk⟩
    have skip : qops P ops H K l (put e o.dst undef) → wpQuiet P ops (fun w'' => Below w.heap.size w w'') (fun a' => ∃ e', ER n σ H a' e' ∧ K e') l (a.put o.dst undef) := fun h' =>
      qops_sound hops hS l (fun o ho => hl o (by simp [ho])) _ _ (hE.put ho.1 (.flat _ rfl)) h'
    unfold wpQuiet
    unfold qops at h
    cases hg : o.guard with
    | none =>
      rw [hg] at h
      rw [if_pos (by simp [Region.wanted, hg])]
      exact step h
    | some jw =>
      obtain ⟨j, want⟩ := jw
      rw [hg] at h
      dsimp only at h
      unfold gateA at h
      have hy := yield_eq hE hdst j
      by_cases hc : yieldA ops e j = some want
      · rw [if_pos hc] at h
        rw [if_pos (by simp [Region.wanted, hg, hy, hc])]
        exact step h
      · rw [if_neg hc] at h
        rw [if_neg (by simp [Region.wanted, hg, hy, hc])]
        exact skip h

end

/-- CODE, over a heap of lists: whatever memory tells that heap, the code comes to an exit of Q. -/
def AWp (P : Program) (n B : Nat) (c : Code) (Q : Exit → Env → AH → Prop) (e : Env) (H : AH) : Prop :=
  codeOk n c = true → ∀ (σ : Sg) (w : World) (a : Act), Sim σ H w → B ≤ H.length → ER n σ H a e → c.wp P (RelQ n B σ H w Q) a w

def thenQ (K : Env → AH → Prop) (Q : Exit → Env → AH → Prop) : Exit → Env → AH → Prop
  | .normal, e, H => K e H
  | ex, e, H => Q ex e H
def blockQ (id : Nat) (Q : Exit → Env → AH → Prop) : Exit → Env → AH → Prop
  | .exit id', e, H => if id' = id then Q .normal e H else Q (.exit id') e H
  | ex, e, H => Q ex e H
def Agree (ds : List Nat) (e e' : Env) : Prop := ∀ i, ds.contains i = false → e' i = e i
def loopQ (I : Nat → Env → AH → Prop) (m : Nat) (ds : List Nat) (e : Env) (Q : Exit → Env → AH → Prop) : Exit → Env → AH → Prop
  | .normal, e', H' => (∃ m', m' < m ∧ I m' e' H') ∧ Agree ds e e'
  | ex, e', H' => Q ex e' H'

theorem Agree.refl (ds : List Nat) (e : Env) : Agree ds e e := fun _ _ => rfl
theorem Agree.put {ds : List Nat} {e e' : Env} (h : Agree ds e e') {d : Nat} (hd : ds.contains d = true) (v : Value) : Agree ds e (put e' (some d) v) := fun i hi => by
  have hne : i ≠ d := fun x => by subst x; rw [hd] at hi; cases hi
  simp only [BM.put, if_neg hne]
  exact h i hi
theorem Agree.trans {ds : List Nat} {e e' e'' : Env} (h : Agree ds e e') (h' : Agree ds e' e'') : Agree ds e e'' := fun i hi => (h' i hi).trans (h i hi)

section
variable {P : Program} {B n : Nat} {Q : Exit → Env → AH → Prop} {e : Env} {H : AH}

theorem AWp.skip (h : Q .normal e H) : AWp P n B .skip Q e H := fun _ σ w a hS hB hE => wp_skip ⟨σ, e, H, .refl _ _ _ _, hS, hE, h⟩
theorem AWp.ret (h : Q .ret e H) : AWp P n B .ret Q e H := fun _ σ w a hS hB hE => wp_ret ⟨σ, e, H, .refl _ _ _ _, hS, hE, h⟩
theorem AWp.exit {id : Nat} (h : Q (.exit id) e H) : AWp P n B (.exit id) Q e H := fun _ σ w a hS hB hE => wp_exit ⟨σ, e, H, .refl _ _ _ _, hS, hE, h⟩
theorem AWp.seq {x y : Code} (h : AWp P n B x (thenQ (AWp P n B y Q) Q) e H) : AWp P n B (.seq x y) Q e H := fun hok σ w a hS hB hE => by
  simp only [codeOk, Bool.and_eq_true] at hok
  refine wp_seq (wp_mono (h hok.1 σ w a hS hB hE) fun ex a1 w1 hq => ?_)
  obtain ⟨σ1, e1, H1, f, hS1, hE1, hq1⟩ := hq
  cases ex with
  | normal => exact wp_mono (hq1 hok.2 σ1 w1 a1 hS1 (Nat.le_trans hB f.len) hE1) fun ex a' w' h' => RelQ.trans f h'
  | exit id => exact ⟨σ1, e1, H1, f, hS1, hE1, hq1⟩
  | goto l => exact ⟨σ1, e1, H1, f, hS1, hE1, hq1⟩
  | ret => exact ⟨σ1, e1, H1, f, hS1, hE1, hq1⟩
  | panic ch => exact ⟨σ1, e1, H1, f, hS1, hE1, hq1⟩
  | outgrown => exact ⟨σ1, e1, H1, f, hS1, hE1, hq1⟩
theorem AWp.cond {c : Operand} {x y : Code} {t : Bool} (hc : ev e c = .bool t) (h1 : t = true → AWp P n B x Q e H) (h2 : t = false → AWp P n B y Q e H) : AWp P n B (.cond c x y) Q e H := fun hok σ w a hS hB hE => by
  simp only [codeOk, Bool.and_eq_true] at hok
  have hv := hE.eval hok.1
  rw [hc] at hv
  have := hv.bool
  cases t with
  | true => exact wp_cond this (h1 rfl hok.2.1 σ w a hS hB hE)
  | false => exact wp_cond this (h2 rfl hok.2.2 σ w a hS hB hE)
theorem AWp.block {id : Nat} {c : Code} (h : AWp P n B c (blockQ id Q) e H) : AWp P n B (.block id c) Q e H := fun hok σ w a hS hB hE => by
  refine wp_block (wp_mono (h hok σ w a hS hB hE) fun ex a1 w1 hq => ?_)
  obtain ⟨σ1, e1, H1, f, hS1, hE1, hq1⟩ := hq
  cases ex with
  | exit id' =>
    simp only [blockQ] at hq1
    simp only [Exit.inBlock]
    by_cases hid : id' = id
    · rw [if_pos hid] at hq1 ⊢; exact ⟨σ1, e1, H1, f, hS1, hE1, hq1⟩
    · rw [if_neg hid] at hq1 ⊢; exact ⟨σ1, e1, H1, f, hS1, hE1, hq1⟩
  | normal => exact ⟨σ1, e1, H1, f, hS1, hE1, hq1⟩
  | goto l => exact ⟨σ1, e1, H1, f, hS1, hE1, hq1⟩
  | ret => exact ⟨σ1, e1, H1, f, hS1, hE1, hq1⟩
  | panic ch => exact ⟨σ1, e1, H1, f, hS1, hE1, hq1⟩
  | outgrown => exact ⟨σ1, e1, H1, f, hS1, hE1, hq1⟩
/-- A LOOP: the relation bears a number that every round lowers; 'ds': the slots that a round may write. -/
theorem AWp.loop {c : Code} (ds : List Nat) (I : Nat → Env → AH → Prop) (m0 : Nat) (h0 : I m0 e H)
    (round : ∀ m e' H', Agree ds e e' → I m e' H' → AWp P n B c (loopQ I m ds e Q) e' H') : AWp P n B (.loop c) Q e H := fun hok σ w a hS hB hE => by
  refine wp_loop_ghost (fun m a' w' => ∃ σ' e' H', Fut B σ H w σ' H' w' ∧ Sim σ' H' w' ∧ ER n σ' H' a' e' ∧ I m e' H' ∧ Agree ds e e') m0 ⟨σ, e, H, .refl _ _ _ _, hS, hE, h0, .refl _ _⟩ ?_
  intro m a1 w1 ⟨σ1, e1, H1, f, hS1, hE1, hI, hA⟩
  refine wp_mono (round m e1 H1 hA hI hok σ1 w1 a1 hS1 (Nat.le_trans hB f.len) hE1) fun ex a2 w2 hq => ?_
  obtain ⟨σ2, e2, H2, f2, hS2, hE2, hq2⟩ := hq
  cases ex with
  | normal =>
    obtain ⟨⟨m', hm, hI'⟩, hA'⟩ := hq2
    exact ⟨m', hm, σ2, e2, H2, f.trans f2, hS2, hE2, hI', hA'⟩
  | exit id => exact ⟨σ2, e2, H2, f.trans f2, hS2, hE2, hq2⟩
  | goto l => exact ⟨σ2, e2, H2, f.trans f2, hS2, hE2, hq2⟩
  | ret => exact ⟨σ2, e2, H2, f.trans f2, hS2, hE2, hq2⟩
  | panic ch => exact ⟨σ2, e2, H2, f.trans f2, hS2, hE2, hq2⟩
  | outgrown => exact ⟨σ2, e2, H2, f.trans f2, hS2, hE2, hq2⟩
theorem AWp.region {id : Nat} {ops : Array Oper} (h : aops P B ops (Q .normal) ops.toList e H) : AWp P n B (.region id ops false) Q e H := fun hok σ w a hS hB hE => by
  simp only [codeOk] at hok
  exact wp_region_list (aops_sound hok ops.toList (fun o ho => Array.all_eq_true'.1 hok o (by simpa using ho)) e H σ w a (.refl _ _ _ _) hS hB hE h)
/-- A region that asks the tape for its order, and only reads. -/
theorem AWp.quiet {id : Nat} {ops : Array Oper} (hm : P.follows .mixedOrders = true) (hB : Region.lexB .any ops = true) (h : qops P ops H (fun e' => Q .normal e' H) ops.toList e) : AWp P n B (.region id ops true) Q e H := fun hok σ w a hS hB' hE => by
  simp only [codeOk] at hok
  refine wp_region_quiet (C := fun w'' => Below w.heap.size w w'') hm hB ⟨rfl, rfl, rfl, Nat.le_refl _, fun _ _ => rfl⟩ ?_
  have hq := qops_sound (P := P) hok (K := fun e' => Q .normal e' H) hS ops.toList (fun o ho => Array.all_eq_true'.1 hok o (by simpa using ho)) e a hE h
  -- the end of the walk
  have mono : ∀ (l : List Oper) (a : Act), wpQuiet P ops (fun w'' => Below w.heap.size w w'') (fun a' => ∃ e', ER n σ H a' e' ∧ Q .normal e' H) l a →
      wpQuiet P ops (fun w'' => Below w.heap.size w w'') (fun a' => ∀ w', Below w.heap.size w w' → RelQ n B σ H w Q .normal a' w') l a := by
    intro l
    induction l with
    | nil => intro a ⟨e', hE', hQ⟩ w' hb; exact ⟨σ, e', H, .of_below hb, hS.below hb, hE', hQ⟩
    | cons o l ih =>
      intro a hx
      unfold wpQuiet at hx ⊢
      split
      · rename_i hw; rw [if_pos hw] at hx; exact Oper.quiet_mono (fun a' => ih a') hx
      · rename_i hw; rw [if_neg hw] at hx; exact ih _ hx
  exact mono _ _ hq

end

/-! ### Results and entry -/
def res1 (P : Program) (e : Env) (H : AH) : ResultVar → Option Value
  | .tmp t => some (e t)
  | .cell x t => loadV P H t (e x)
def resL (P : Program) (e : Env) (H : AH) : List ResultVar → Option (List Value)
  | [] => some []
  | r :: rs => (res1 P e H r).bind fun v => (resL P e H rs).map fun vs => v :: vs
def resV (P : Program) (e : Env) (H : AH) (rs : List ResultVar) : Option Value :=
  match rs with
  | [r] => res1 P e H r
  | rs => (resL P e H rs).map fun vs => .tuple vs.toArray

def resOk (n : Nat) : ResultVar → Bool
  | .tmp t => decide (t < n)
  | .cell x _ => decide (x < n)

def bodyQ (P : Program) (rs : List ResultVar) (post : Value → AH → Prop) : Exit → Env → AH → Prop
  | .normal, e, H => optK (resV P e H rs) fun d => post d H
  | .ret, e, H => optK (resV P e H rs) fun d => post d H
  | _, _, _ => False

def env0 (args : List Value) : Env := fun i => args.getD i undef

section
variable {P : Program} {B n : Nat} {σ : Sg} {H : AH} {w : World} {a : Act} {e : Env}

def resRun (a : Act) (r : ResultVar) : Sem Value :=
  match r with
  | .tmp t => pure (a.tmps.getD t undef)
  | .cell x t => do loadVar t (← asAddr (a.tmps.getD x undef))

theorem results_eq (fn : Func) (a : Act) : results fn a.tmps = (do let vs ← fn.results.mapM (resRun a); pure (if h : vs.size = 1 then vs[0] else .tuple vs)) := rfl

theorem res1_sound (hS : Sim σ H w) (hE : ER n σ H a e) {r : ResultVar} (hr : resOk n r = true) {d : Value} (h : res1 P e H r = some d) :
    ∃ v, VR σ H v d ∧ (resRun a r).run P w = .ok v w := by
  cases r with
  | tmp t =>
    simp only [res1, Option.some.injEq] at h
    subst h
    exact ⟨_, hE.rel t (by simpa [resOk] using hr), rfl⟩
  | cell x t =>
    simp only [res1] at h
    have hv := hE.rel x (by simpa [resOk] using hr)
    obtain ⟨u, hu, hrun⟩ := load_sound (P := P) hS hv h
    refine ⟨u, hu, ?_⟩
    have := hrun w (Below.refl _ w)
    have hp : ∃ ad, a.tmps.getD x undef = .pointer (some ad) := by
      unfold loadV at h
      split at h
      case h_2 => cases h
      split at h
      · rename_i cs ha
        obtain ⟨b, o, us, hx, _⟩ := hv.aptr ha
        exact ⟨_, hx⟩
      · split at h
        case h_2 => cases h
        rename_i r off ver hx
        rw [hx] at hv
        cases hb : getB H r ver with
        | none => rw [hb] at h; cases h
        | some cs => exact ⟨_, hv.ptrI hb⟩
    obtain ⟨ad, hp⟩ := hp
    unfold resRun
    dsimp only
    rw [hp] at this ⊢
    simpa [Instr.loadAt, Instr.sureAddr, asAddr] using this

theorem resL_sound (hS : Sim σ H w) (hE : ER n σ H a e) : ∀ (rs : List ResultVar), rs.all (resOk n) = true → ∀ ds, resL P e H rs = some ds →
    ∃ vs, VRL σ H vs ds ∧ (rs.mapM (resRun a)).run P w = .ok vs w
  | [], _, ds, h => by
    simp only [resL, Option.some.injEq] at h
    subst h
    exact ⟨[], ⟨rfl, fun j u hu => by simp at hu⟩, rfl⟩
  | r :: rs, hok, ds, h => by
    simp only [List.all_cons, Bool.and_eq_true] at hok
    simp only [resL] at h
    cases h1 : res1 P e H r with
    | none => rw [h1] at h; cases h
    | some d =>
      rw [h1] at h
      simp only [Option.bind_some] at h
      obtain ⟨ds', h2, rfl⟩ := Option.map_eq_some_iff.1 h
      obtain ⟨v, hv, hr⟩ := res1_sound (P := P) hS hE hok.1 h1
      obtain ⟨vs, hvs, hrs⟩ := resL_sound hS hE rs hok.2 ds' h2
      refine ⟨v :: vs, ⟨by simp [hvs.1], fun j u hu => ?_⟩, ?_⟩
      · cases j with
        | zero => simp at hu; subst hu; exact ⟨v, rfl, hv⟩
        | succ j => simpa using hvs.2 j u (by simpa using hu)
      · simp only [List.mapM_cons, Sem.run_bind, hr, Result.andThen_ok, hrs, Sem.run_pure]

theorem resV_sound (hS : Sim σ H w) (hE : ER n σ H a e) {fn : Func} (hok : fn.results.toList.all (resOk n) = true) {d : Value} (h : resV P e H fn.results.toList = some d) :
    ∃ v, VR σ H v d ∧ (results fn a.tmps).run P w = .ok v w := by
  rw [results_eq]
  have hmap := fun ds hds => resL_sound (P := P) hS hE fn.results.toList hok ds hds
  unfold resV at h
  split at h
  · rename_i r hr
    rw [hr] at hmap
    obtain ⟨vs, hvs, hrun⟩ := hmap [d] (by simp [resL, h])
    have hl : vs.length = 1 := hvs.1
    obtain ⟨v, rfl⟩ : ∃ v, vs = [v] := List.length_eq_one_iff.1 hl
    obtain ⟨x, hx, hv⟩ := hvs.2 0 d rfl
    simp at hx
    subst hx
    refine ⟨v, hv, ?_⟩
    rw [Array.mapM_eq_mapM_toList, hr]
    simp only [Sem.run_bind, Sem.run_map]
    rw [hrun]
    simp
  · rename_i hne
    obtain ⟨ds, hds, rfl⟩ := Option.map_eq_some_iff.1 h
    obtain ⟨vs, hvs, hrun⟩ := hmap ds hds
    refine ⟨.tuple vs.toArray, .tuple _ _ (by simpa using hvs.1) fun i h1 h2 => ?_, ?_⟩
    · have := hvs.toArr.2 i h1 h2
      exact this
    · rw [Array.mapM_eq_mapM_toList]
      simp only [Sem.run_bind, Sem.run_map]
      rw [hrun]
      have hl : vs.toArray.size ≠ 1 := by
        intro hx
        have h1 : ds.length = 1 := by rw [← hvs.1]; simpa using hx
        have h2 : ∀ (rs : List ResultVar) ds, resL P e H rs = some ds → ds.length = rs.length := by
          intro rs
          induction rs with
          | nil => intro ds h; simp [resL] at h; subst h; rfl
          | cons r rs ih =>
            intro ds h
            simp only [resL] at h
            cases h1 : res1 P e H r with
            | none => rw [h1] at h; cases h
            | some d =>
              rw [h1] at h
              simp only [Option.bind_some] at h
              obtain ⟨ds', h2, rfl⟩ := Option.map_eq_some_iff.1 h
              simp [ih ds' h2]
        have h3 := h2 _ _ hds
        rw [h1] at h3
        obtain ⟨r, hr⟩ := List.length_eq_one_iff.1 h3.symm
        exact hne r hr
      simp only [Result.andThen_ok, Sem.run_pure]
      rw [dif_neg hl]

/-- THE ENTRY of a call. -/
theorem ACalls.intro {f : FuncId} {fn : Func} {c : Code} {args : List Value} {post : Value → AH → Prop} (hf : P.funcs[f]? = some fn) (hb : fn.body = some c) (hname : (fn.name == "runtime.NumGoroutine") = false)
    (hok : codeOk fn.ntmps c = true) (hres : fn.results.toList.all (resOk fn.ntmps) = true) (hlen : args.length ≤ fn.ntmps)
    (h : AWp P fn.ntmps B c (bodyQ P fn.results.toList post) (env0 args) H) : ACalls P B f args H post := by
  refine ⟨by simp [callable, hf, hname, hb], fun σ w vals hS hB hv => ?_⟩
  have hvl : vals.size = args.length := by simpa using hv.1
  have hE : ER fn.ntmps σ H { tmps := vals ++ Array.replicate (fn.ntmps - vals.size) undef, defers := [] } (env0 args) := by
    refine ⟨by simp; omega, fun i hi => ?_, rfl⟩
    simp only [env0]
    rcases Nat.lt_or_ge i args.length with h1 | h1
    · obtain ⟨x, hx, hvx⟩ := hv.2 i args[i] (List.getElem?_eq_getElem h1)
      have e1 : args.getD i undef = args[i] := by simp [List.getD, List.getElem?_eq_getElem h1]
      have e2 : (vals ++ Array.replicate (fn.ntmps - vals.size) undef).getD i undef = x := by
        rw [Array.getD_eq_getD_getElem?, Array.getElem?_append_left (by omega)]
        rw [Array.getElem?_toList] at hx
        rw [hx]
        rfl
      rw [e1, e2]
      exact hvx
    · have e1 : args.getD i undef = undef := by simp [List.getD, List.getElem?_eq_none h1]
      have e2 : (vals ++ Array.replicate (fn.ntmps - vals.size) undef).getD i undef = undef := by
        rw [Array.getD_eq_getD_getElem?, Array.getElem?_append_right (by omega), Array.getElem?_replicate]
        split <;> rfl
      rw [e1, e2]
      exact .flat _ rfl
  refine calls_of_wp hf hb (wp_mono (h hok σ w _ hS hB hE) fun ex a' w' hq => ?_)
  obtain ⟨σ', e', H', F, S, E, hq'⟩ := hq
  have done : optK (resV P e' H' fn.results.toList) (fun d => post d H') → a'.defers = [] ∧ ∃ v, (results fn a'.tmps).run P w' = .ok v w' ∧ (∃ v', Ending.returned v = .returned v' ∧ ∃ σ' H' d, Fut B σ H w σ' H' w' ∧ Sim σ' H' w' ∧ VR σ' H' v' d ∧ post d H') := fun hk => by
    cases hr : resV P e' H' fn.results.toList with
    | none => rw [hr] at hk; exact hk.elim
    | some d =>
      rw [hr] at hk
      obtain ⟨v, hv, hrun⟩ := resV_sound (P := P) S E hres hr
      exact ⟨E.defers, v, hrun, v, rfl, σ', H', d, F, S, hv, hk⟩
  cases ex with
  | normal => exact done hq'
  | ret => exact done hq'
  | exit id => exact hq'.elim
  | goto l => exact hq'.elim
  | panic ch => exact hq'.elim
  | outgrown => exact hq'.elim

end
end Go.BM
