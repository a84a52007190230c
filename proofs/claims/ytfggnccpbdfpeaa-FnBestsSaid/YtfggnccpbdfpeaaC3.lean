/- What makes memory and what writes it, told by lists. -/
import Derived.Test.YtfggnccpbdfpeaaC2
import Derived.Deep.AppendSrc
import Derived.Laws.MakeOwn
set_option linter.unusedVariables false
set_option linter.unusedSimpArgs false
namespace Go.BM
open Go.RowKit

theorem VR.one {σ : Sg} {H : AH} {v d : Value} (h : VR σ H v d) : v.oneCell' = d.oneCell' := by cases h <;> rfl

section
variable {B : Nat} {σ : Sg} {H : AH} {w w' : World}

/-- A block that is written: in its place, or laid anew. -/
theorem upd_fut (hS : Sim σ H w) {r : Nat} {blk blk' : Blk} (hb : H[r]? = some blk) (hB : B ≤ r)
    (hos : w'.os = w.os) (htape : w'.tape = w.tape) (hout : w'.output = w.output) (hsize : w.heap.size ≤ w'.heap.size)
    (hk : ∀ k, k < w.heap.size → (blk.own = true → k ≠ (σ r).b) → w'.heap[k]? = w.heap[k]?)
    (L : Loc) (hL : (L = σ r ∧ blk.own = true) ∨ (w.heap.size ≤ L.b ∧ blk.ver < blk'.ver)) (hver : blk.ver ≤ blk'.ver) (hown : blk'.own = true) (hsz : blk'.sz = blk.sz) :
    Fut B σ H w (σ.upd r L) (H.set r blk') w' where
  os := hos
  tape := htape
  output := hout
  size := hsize
  frame := fun k hk' hr => hk k hk' (fun ho e => hr r blk hB hb ho e.symm)
  pre := fun q hq => by rw [List.getElem?_set_ne (by omega)]
  preσ := fun q hq _ => by rw [Sg.upd_at, if_neg (by omega)]
  keep := fun q bq hbq => by
    by_cases e : q = r
    · subst e
      rw [hb] at hbq
      cases hbq
      refine ⟨blk', by rw [List.getElem?_set_self (lt_of_some hb)], hver, fun he => ?_⟩
      rcases hL with hL | hL
      · exact ⟨by simp [hL, Sg.upd_at], hsz, by rw [hown, hL.2]⟩
      · omega
    · exact ⟨bq, by rw [List.getElem?_set_ne (Ne.symm e)]; exact hbq, Nat.le_refl _, fun _ => ⟨by simp [e, Sg.upd_at], rfl, rfl⟩⟩
  loc := fun q bq hbq hoq => by
    by_cases e : q = r
    · subst e
      rcases hL with hL | hL
      · exact .inl ⟨blk, hb, hL.2, by simp [hL, Sg.upd_at]⟩
      · exact .inr (by simp only [Sg.upd_at, if_true]; exact hL.1)
    · rw [List.getElem?_set_ne (Ne.symm e)] at hbq
      exact .inl ⟨bq, hbq, hoq, by simp [e, Sg.upd_at]⟩
  imk := fun _ _ h => h
  imn := fun _ _ h => .inl h

theorem upd_sound (hS : Sim σ H w) {r : Nat} {blk blk' : Blk} (hb : H[r]? = some blk) (hB : B ≤ r)
    (hos : w'.os = w.os) (htape : w'.tape = w.tape) (hout : w'.output = w.output) (hsize : w.heap.size ≤ w'.heap.size)
    (hk : ∀ k, k < w.heap.size → (blk.own = true → k ≠ (σ r).b) → w'.heap[k]? = w.heap[k]?)
    (L : Loc) (hL : (L = σ r ∧ blk.own = true) ∨ (w.heap.size ≤ L.b ∧ blk.ver < blk'.ver)) (hver : blk.ver ≤ blk'.ver) (hown : blk'.own = true) (hsz : blk'.sz = blk.sz)
    (c : Array Value) (hc : w'.heap[L.b]? = some (.cells c blk'.el (0, 0))) (h0 : L.base = 0) (hn : c.size = L.n) (hle : blk'.cs.length ≤ c.size)
    (hv : ∀ (j : Nat) v, blk'.cs[j]? = some v → ∃ u, c[j]? = some u ∧ VR σ H u v ∧ u.oneCell' = true) :
    Fut B σ H w (σ.upd r L) (H.set r blk') w' ∧ Sim (σ.upd r L) (H.set r blk') w' := by
  have F := upd_fut (B := B) (w' := w') hS hb hB hos htape hout hsize hk L hL hver hown hsz
  have hLlt : L.b < w'.heap.size := (Array.getElem?_eq_some_iff.1 hc).1
  have hne : ∀ q bq, H[q]? = some bq → bq.own = true → q ≠ r → (σ q).b ≠ L.b := fun q bq hbq hlv e => by
    rcases hL with hL | hL
    · rw [hL.1]; exact fun x => hS.inj r q blk bq hb hbq (Ne.symm e) hL.2 hlv x.symm
    · have := hS.lt hbq hlv; omega
  refine ⟨F, ⟨fun q bq hbq hoq => ?_, fun a u ha => ?_, fun a u ha q bq hbq hoq => ?_, fun q q' bq bq' hbq hbq' hqq hoq hlv => ?_⟩⟩
  · by_cases e : q = r
    · subst e
      rw [List.getElem?_set_self (lt_of_some hb)] at hbq
      cases hbq
      simp only [Sg.upd_at, if_true]
      refine ⟨c, hc, h0, hn, hle, fun j v hj => ?_⟩
      obtain ⟨u, h1, h2, h3⟩ := hv j v hj
      exact ⟨u, h1, h2.fut F, h3⟩
    · rw [List.getElem?_set_ne (Ne.symm e)] at hbq
      simp only [Sg.upd_at, e, if_false]
      obtain ⟨cq, h1, h2, h3, h4, h5⟩ := hS.own q bq hbq hoq
      refine ⟨cq, ?_, h2, h3, h4, fun j v hj => ?_⟩
      · rw [hk _ (hS.lt hbq hoq) (fun ho => hS.inj q r bq blk hbq hb e hoq ho)]; exact h1
      · obtain ⟨u, a1, a2, a3⟩ := h5 j v hj
        exact ⟨u, a1, a2.fut F, a3⟩
  · rw [Sg.upd_im] at ha
    obtain ⟨h1, h2⟩ := hS.im a u ha
    refine ⟨?_, h2⟩
    rw [World.cell?_of_block (w := w) (a := a) (hk _ (hS.imlt ha) (fun ho x => hS.sep a u ha r blk hb ho x.symm))]
    exact h1
  · rw [Sg.upd_im] at ha
    by_cases e : q = r
    · subst e
      simp only [Sg.upd_at, if_true]
      rcases hL with hL | hL
      · rw [hL.1]; exact hS.sep a u ha q blk hb hL.2
      · have := hS.imlt ha; omega
    · rw [List.getElem?_set_ne (Ne.symm e)] at hbq
      simp only [Sg.upd_at, e, if_false]
      exact hS.sep a u ha q bq hbq hoq
  · by_cases e : q = r
    · by_cases e' : q' = r
      · omega
      · rw [List.getElem?_set_ne (Ne.symm e')] at hbq'
        simp only [Sg.upd_at, e, e', if_true, if_false]
        exact (hne q' bq' hbq' hlv e').symm
    · rw [List.getElem?_set_ne (Ne.symm e)] at hbq
      by_cases e' : q' = r
      · simp only [Sg.upd_at, e, e', if_true, if_false]
        exact hne q bq hbq hoq e
      · rw [List.getElem?_set_ne (Ne.symm e')] at hbq'
        simp only [Sg.upd_at, e, e', if_false]
        exact hS.inj q q' bq bq' hbq hbq' hqq hoq hlv

/-- A block that is told no more, or that never stood: whatever is said of it. -/
theorem void_sound (hS : Sim σ H w) {r : Nat} {blk blk' : Blk} (hb : H[r]? = some blk) (hB : B ≤ r) (hver : blk.ver < blk'.ver) (hown : blk'.own = false) :
    Fut B σ H w σ (H.set r blk') w ∧ Sim σ (H.set r blk') w := by
  have get : ∀ q bq, (H.set r blk')[q]? = some bq → bq.own = true → q ≠ r ∧ H[q]? = some bq := fun q bq hbq hoq => by
    by_cases e : q = r
    · subst e
      rw [List.getElem?_set_self (lt_of_some hb)] at hbq
      cases hbq
      rw [hown] at hoq; cases hoq
    · rw [List.getElem?_set_ne (Ne.symm e)] at hbq
      exact ⟨e, hbq⟩
  have F : Fut B σ H w σ (H.set r blk') w := {
    os := rfl
    tape := rfl
    output := rfl
    size := Nat.le_refl _
    frame := fun _ _ _ => rfl
    pre := fun q hq => by rw [List.getElem?_set_ne (by omega)]
    preσ := fun _ _ _ => rfl
    keep := fun q bq hbq => by
      by_cases e : q = r
      · subst e
        rw [hb] at hbq
        cases hbq
        exact ⟨blk', by rw [List.getElem?_set_self (lt_of_some hb)], Nat.le_of_lt hver, fun he => by omega⟩
      · exact ⟨bq, by rw [List.getElem?_set_ne (Ne.symm e)]; exact hbq, Nat.le_refl _, fun _ => ⟨rfl, rfl, rfl⟩⟩
    loc := fun q bq hbq hoq => .inl ⟨bq, (get q bq hbq hoq).2, hoq, rfl⟩
    imk := fun _ _ h => h
    imn := fun _ _ h => .inl h }
  refine ⟨F, ⟨fun q bq hbq hoq => ?_, hS.im, fun a u ha q bq hbq hoq => hS.sep a u ha q bq (get q bq hbq hoq).2 hoq, fun q q' bq bq' hbq hbq' hqq hoq hoq' => hS.inj q q' bq bq' (get q bq hbq hoq).2 (get q' bq' hbq' hoq').2 hqq hoq hoq'⟩⟩
  obtain ⟨c, h1, h2, h3, h4, h5⟩ := hS.own q bq (get q bq hbq hoq).2 hoq
  exact ⟨c, h1, h2, h3, h4, fun j v hj => by obtain ⟨u, a1, a2, a3⟩ := h5 j v hj; exact ⟨u, a1, a2.fut F, a3⟩⟩

/-- A new block. -/
theorem new_sound (hS : Sim σ H w) (hB : B ≤ H.length) {w1 : World} (hw : Below w.heap.size w w1) (blk : Blk) (ho : blk.own = true) (c : Array Value) (hle : blk.cs.length ≤ c.size)
    (hv : ∀ (j : Nat) v, blk.cs[j]? = some v → ∃ u, c[j]? = some u ∧ VR σ H u v ∧ u.oneCell' = true) :
    Fut B σ H w (σ.upd H.length ⟨w1.heap.size, 0, c.size⟩) (H ++ [blk]) (w1.alloc (.cells c blk.el)) ∧
      Sim (σ.upd H.length ⟨w1.heap.size, 0, c.size⟩) (H ++ [blk]) (w1.alloc (.cells c blk.el)) := by
  have hsz := hw.size
  have hold : ∀ k, k < w.heap.size → (w1.alloc (.cells c blk.el)).heap[k]? = w.heap[k]? := fun k hk => by
    rw [Below.heap_alloc w1 _ k (by omega)]; exact hw.block k hk
  have hnew : (w1.alloc (.cells c blk.el)).heap[w1.heap.size]? = some (.cells c blk.el (0, 0)) := heap_alloc_new w1 _
  have hl : (w1.alloc (.cells c blk.el)).heap.size = w1.heap.size + 1 := by simp
  have getq : ∀ q bq, (H ++ [blk])[q]? = some bq → (q = H.length ∧ bq = blk) ∨ (q ≠ H.length ∧ H[q]? = some bq) := fun q bq h => by
    rcases Nat.lt_or_ge q H.length with h1 | h1
    · rw [List.getElem?_append_left h1] at h; exact .inr ⟨by omega, h⟩
    · rw [List.getElem?_append_right h1] at h
      have : q - H.length = 0 := by
        rcases Nat.eq_zero_or_pos (q - H.length) with h0 | h0
        · exact h0
        · rw [List.getElem?_eq_none (by simp; omega)] at h; cases h
      rw [this] at h
      simp at h
      exact .inl ⟨by omega, h.symm⟩
  have F : Fut B σ H w (σ.upd H.length ⟨w1.heap.size, 0, c.size⟩) (H ++ [blk]) (w1.alloc (.cells c blk.el)) := {
    os := hw.os
    tape := hw.tape
    output := hw.output
    size := by omega
    frame := fun k hk _ => hold k hk
    pre := fun r hr => List.getElem?_append_left (by omega)
    preσ := fun r hr hl => by rw [Sg.upd_at, if_neg (by omega)]
    keep := fun r b hb => ⟨b, by rw [List.getElem?_append_left (lt_of_some hb)]; exact hb, Nat.le_refl _, fun _ => ⟨by have := lt_of_some hb; rw [Sg.upd_at, if_neg (by omega)], rfl, rfl⟩⟩
    loc := fun r b hb hob => by
      rcases getq r b hb with ⟨rfl, rfl⟩ | ⟨e, hb'⟩
      · exact .inr (by simp only [Sg.upd_at, if_true]; exact hsz)
      · exact .inl ⟨b, hb', hob, by rw [Sg.upd_at, if_neg e]⟩
    imk := fun _ _ h => h
    imn := fun _ _ h => .inl h }
  refine ⟨F, ⟨fun q bq hbq hoq => ?_, fun a u ha => ?_, fun a u ha q bq hbq hoq => ?_, fun q q' bq bq' hbq hbq' hqq hoq hlv => ?_⟩⟩
  · rcases getq q bq hbq with ⟨rfl, rfl⟩ | ⟨e, hbq'⟩
    · simp only [Sg.upd_at, if_true]
      refine ⟨c, hnew, trivial, rfl, hle, fun j v hj => ?_⟩
      obtain ⟨u, h1, h2, h3⟩ := hv j v hj
      exact ⟨u, h1, h2.fut F, h3⟩
    · simp only [Sg.upd_at, e, if_false]
      obtain ⟨cq, h1, h2, h3, h4, h5⟩ := hS.own q bq hbq' hoq
      refine ⟨cq, by rw [hold _ (hS.lt hbq' hoq)]; exact h1, h2, h3, h4, fun j v hj => ?_⟩
      obtain ⟨u, a1, a2, a3⟩ := h5 j v hj
      exact ⟨u, a1, a2.fut F, a3⟩
  · rw [Sg.upd_im] at ha
    obtain ⟨h1, h2⟩ := hS.im a u ha
    exact ⟨by rw [World.cell?_of_block (w := w) (a := a) (hold _ (hS.imlt ha))]; exact h1, h2⟩
  · rw [Sg.upd_im] at ha
    rcases getq q bq hbq with ⟨rfl, rfl⟩ | ⟨e, hbq'⟩
    · have := hS.imlt ha
      simp only [Sg.upd_at, if_true]
      omega
    · simp only [Sg.upd_at, e, if_false]
      exact hS.sep a u ha q bq hbq' hoq
  · rcases getq q bq hbq with ⟨rfl, rfl⟩ | ⟨e, hbq1⟩
    · rcases getq q' bq' hbq' with ⟨rfl, rfl⟩ | ⟨e', hbq2⟩
      · omega
      · simp only [Sg.upd_at, if_true, e', if_false]
        have := hS.lt hbq2 hlv
        omega
    · rcases getq q' bq' hbq' with ⟨rfl, rfl⟩ | ⟨e', hbq2⟩
      · simp only [Sg.upd_at, if_true, e, if_false]
        have := hS.lt hbq1 hoq
        omega
      · simp only [Sg.upd_at, e, e', if_false]
        exact hS.inj q q' bq bq' hbq1 hbq2 hqq hoq hlv

end

/-! ### Cells of a value -/
def cellsV : Value → List Value
  | .agg cs => cs.toList
  | v => [v]

theorem cellsV_eq (v : Value) : v.cells.toList = cellsV v := by cases v <;> rfl

theorem VR.cellsV {σ : Sg} {H : AH} {v d : Value} (h : VR σ H v d) : (cellsV v).length = (cellsV d).length ∧ ∀ (j : Nat) u, (cellsV d)[j]? = some u → ∃ x, (cellsV v)[j]? = some x ∧ VR σ H x u := by
  by_cases hd : ∃ ys, d = .agg ys
  · obtain ⟨ys, rfl⟩ := hd
    obtain ⟨xs, rfl, hs, hv⟩ := h.aggI
    refine ⟨by simpa [BM.cellsV] using hs, fun j u hu => ?_⟩
    simp only [BM.cellsV, Array.getElem?_toList] at hu ⊢
    obtain ⟨hj, rfl⟩ := Array.getElem?_eq_some_iff.1 hu
    exact ⟨xs[j]'(by omega), Array.getElem?_eq_getElem (by omega), hv j (by omega) hj⟩
  · have e1 : BM.cellsV d = [d] := by cases d <;> first | rfl | (exact absurd ⟨_, rfl⟩ hd)
    have e2 : BM.cellsV v = [v] := by
      cases h <;> first | rfl | (exact absurd ⟨_, rfl⟩ hd) | skip
      rename_i hf
      cases v <;> first | rfl | (simp [flatV] at hf)
    rw [e1, e2]
    refine ⟨rfl, fun j u hu => ?_⟩
    cases j with
    | zero => simp at hu; subst hu; exact ⟨v, rfl, h⟩
    | succ j => simp at hu

/-! ### box, alloc -/
def mkB (el : TypeId) (sz : Nat) (cs : List Value) : Blk := ⟨el, sz, cs, 0, true⟩

section
variable {P : Program} {B : Nat} {σ : Sg} {H : AH} {w : World}

/-- The end of an operation: the machine comes to a value and a world, and these are told by lists. -/
def Goes (P : Program) (B : Nat) (σ : Sg) (H : AH) (w : World) (r : Result Value) (d : Value) (H' : AH) : Prop :=
  ∃ v w' σ', r = .ok v w' ∧ Fut B σ H w σ' H' w' ∧ Sim σ' H' w' ∧ VR σ' H' v d

theorem box_sound (hS : Sim σ H w) (hB : B ≤ H.length) {T : TypeId} {x d : Value} (hx : VR σ H x d) (h1 : (cellsV d).all Value.oneCell' = true) (sz : Nat) :
    Goes P B σ H w ((Instr.box T x).run P w) (.pointer (some ⟨H.length, 0, some 0⟩)) (H ++ [mkB T sz (cellsV d)]) := by
  obtain ⟨hl, hc⟩ := hx.cellsV
  have hcs : x.cells.size = (cellsV x).length := by rw [← cellsV_eq]; simp
  obtain ⟨F, S⟩ := new_sound (B := B) hS hB (Below.refl _ w) (mkB T sz (cellsV d)) rfl x.cells (by rw [hcs, hl]; exact Nat.le_refl _) fun j v hj => by
    obtain ⟨u, hu, hv⟩ := hc j v hj
    refine ⟨u, by rw [← Array.getElem?_toList, cellsV_eq]; exact hu, hv, ?_⟩
    rw [hv.one]
    exact List.all_eq_true.1 h1 v (List.mem_of_getElem? hj)
  refine ⟨.pointer (some ⟨w.heap.size, 0, none⟩), _, _, by simp [Instr.box, newVar, newRow]; rfl, F, S, ?_⟩
  have := VR.ptr (σ := σ.upd H.length ⟨w.heap.size, 0, x.cells.size⟩) (H := H ++ [mkB T sz (cellsV d)]) H.length 0 0 (mkB T sz (cellsV d)) (by simp) rfl rfl
  simpa [Sg.upd_at] using this

def zeroV (P : Program) (t : TypeId) : Option Value := (P.info? t).bind (·.zero)

theorem alloc_sound (hS : Sim σ H w) (hB : B ≤ H.length) {T : TypeId} {z : Value} (hz : zeroV P T = some z) (hp : pureV z || (match z with | .slice none 0 0 => true | .agg cs => cs.all constOk | _ => false) = true)
    (h1 : (cellsV z).all Value.oneCell' = true) (hvz : VR σ H z z) (sz : Nat) :
    Goes P B σ H w ((Instr.alloc T true (.tuple #[])).run P w) (.pointer (some ⟨H.length, 0, some 0⟩)) (H ++ [mkB T sz (cellsV z)]) := by
  have hr : (Instr.alloc T true (.tuple #[])).run P w = (Instr.box T z).run P w := by
    unfold zeroV at hz
    cases hi : P.info? T with
    | none => rw [hi] at hz; cases hz
    | some i =>
      rw [hi] at hz
      simp only [Option.bind_some] at hz
      simp [Instr.alloc, Instr.box, zeroValue, typeInfo, hi, hz]
  rw [hr]
  exact box_sound hS hB hvz h1 sz

/-! ### store -/
def splice (cs : List Value) (off : Nat) (news : List Value) : List Value := cs.take off ++ news ++ cs.drop (off + news.length)

theorem splice_len {cs news : List Value} {off : Nat} (h : off + news.length ≤ cs.length) : (splice cs off news).length = cs.length := by
  unfold splice; simp; omega

theorem splice_get {cs news : List Value} {off : Nat} (h : off + news.length ≤ cs.length) (j : Nat) : (splice cs off news)[j]? = if j < off then cs[j]? else if j < off + news.length then news[j - off]? else cs[j]? := by
  unfold splice
  have ht : (cs.take off).length = off := by simp; omega
  by_cases h1 : j < off
  · rw [if_pos h1, List.append_assoc, List.getElem?_append_left (by omega), List.getElem?_take]
    simp [h1]
  · rw [if_neg h1, List.append_assoc, List.getElem?_append_right (by omega), ht]
    by_cases h2 : j < off + news.length
    · rw [if_pos h2, List.getElem?_append_left (by omega)]
    · rw [if_neg h2, List.getElem?_append_right (by omega), List.getElem?_drop]
      congr 1
      omega

def storeH (P : Program) (B : Nat) (H : AH) (t : TypeId) (x v : Value) : Option AH :=
  match x with
  | .pointer (some ⟨r, off, some ver⟩) =>
    (match lay P t, H[r]? with
     | some (_, n), some blk =>
       if blk.ver = ver ∧ blk.own = true ∧ B ≤ r ∧ (cellsV v).length = n ∧ off + n ≤ blk.cs.length ∧ (cellsV v).all Value.oneCell' = true then
         some (H.set r { blk with cs := splice blk.cs off (cellsV v) }) else none
     | _, _ => none)
  | _ => none

theorem store_sound (hS : Sim σ H w) {t : TypeId} {x v dx dv : Value} {H' : AH} (hx : VR σ H x dx) (hv : VR σ H v dv) (h : storeH P B H t dx dv = some H') :
    ∃ w' σ', (Instr.storeAt t x v).run P w = .ok () w' ∧ Fut B σ H w σ' H' w' ∧ Sim σ' H' w' := by
  unfold storeH at h
  split at h
  case h_2 => cases h
  rename_i r off ver
  cases hl : lay P t with
  | none => rw [hl] at h; cases h
  | some gn =>
    obtain ⟨g, n⟩ := gn
    cases hb : H[r]? with
    | none => rw [hl, hb] at h; cases h
    | some blk =>
      rw [hl, hb] at h
      dsimp only at h
      by_cases hc : blk.ver = ver ∧ blk.own = true ∧ B ≤ r ∧ (cellsV dv).length = n ∧ off + n ≤ blk.cs.length ∧ (cellsV dv).all Value.oneCell' = true
      · rw [if_pos hc] at h
        cases h
        obtain ⟨h1, h2, h3, h4, h5, h6⟩ := hc
        have hg : getB H r ver = some blk.cs := by simp [getB, hb, h1, h2]
        have := hx.ptrI hg
        subst this
        obtain ⟨c, hc1, hc2, hc3, hc4, hc5⟩ := hS.own r blk hb h2
        obtain ⟨vl, vc⟩ := hv.cellsV
        obtain ⟨hag, hso, _⟩ := run_isAgg hl w
        have honec : ∀ u ∈ cellsV v, u.oneCell' = true := by
          intro u hu
          obtain ⟨j, hj, rfl⟩ := List.getElem_of_mem hu
          have hj2 : j < (cellsV dv).length := by omega
          obtain ⟨x', hx', hvx⟩ := vc j _ (List.getElem?_eq_getElem hj2)
          rw [List.getElem?_eq_getElem hj] at hx'
          cases hx'
          rw [hvx.one]
          exact List.all_eq_true.1 h6 _ (List.getElem_mem hj2)
        have hfit : off + (cellsV v).length ≤ c.size := by omega
        have hst := run_storeCells_at P (σ r).b off blk.el (cellsV v) 0 c w hc1 (by omega) honec
        simp only [Nat.add_zero] at hst
        have hrun : (Instr.storeAt t (.pointer (some ⟨(σ r).b, (σ r).base + off, none⟩)) v).run P w = .ok () (w.setRow (σ r).b (c.toList.take off ++ cellsV v ++ c.toList.drop (off + (cellsV v).length)).toArray) := by
          have hsz : v.cells.size = n := by rw [← Array.length_toList, cellsV_eq, vl, h4]
          rw [hc2, Nat.zero_add]
          simp [Instr.storeAt, Instr.sureAddr, storeVar, hso, hsz, cellsV_eq, hst]
        obtain ⟨F, S⟩ := upd_sound (B := B) (w' := w.setRow (σ r).b (c.toList.take off ++ cellsV v ++ c.toList.drop (off + (cellsV v).length)).toArray) (blk' := { blk with cs := splice blk.cs off (cellsV dv) }) hS hb h3 rfl rfl rfl (by simp)
          (fun k _ hk => setRow_other w _ k _ (hk h2)) (σ r) (.inl ⟨rfl, h2⟩) (Nat.le_refl _) h2 rfl _ (setRow_heap w _ c _ _ _ hc1) hc2 (by simp; omega) (by simp [splice_len (cs := blk.cs) (news := cellsV dv) (off := off) (by omega)]; omega) (by
            intro j u hj
            rw [splice_get (by omega)] at hj
            have hget := splice_get (cs := c.toList) (news := cellsV v) (off := off) (by simp; omega) j
            unfold splice at hget
            simp only [List.getElem?_toArray]
            rw [hget]
            by_cases j1 : j < off
            · rw [if_pos j1] at hj ⊢
              obtain ⟨x', a1, a2, a3⟩ := hc5 j u hj
              exact ⟨x', by simpa using a1, a2, a3⟩
            · rw [if_neg j1] at hj ⊢
              by_cases j2 : j < off + (cellsV dv).length
              · rw [if_pos j2] at hj
                rw [if_pos (by omega)]
                obtain ⟨x', a1, a2⟩ := vc _ u hj
                refine ⟨x', a1, a2, honec x' (List.mem_of_getElem? a1)⟩
              · rw [if_neg j2] at hj
                rw [if_neg (by omega)]
                obtain ⟨x', a1, a2, a3⟩ := hc5 j u hj
                exact ⟨x', by simpa using a1, a2, a3⟩)
        exact ⟨_, _, hrun, F, S⟩
      · rw [if_neg hc] at h; cases h

end
end Go.BM
