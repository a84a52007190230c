/- Packed: C25, C29, C37. -/
import Derived.Test.YtboephigjgncaaaGreatDoorZ2
/- The engine: texts C20, C21, C22, C23, C24, C25. -/
/- The data of the program, as Lean structures, and how they lie in cells. -/
set_option linter.unusedVariables false
namespace Go.BM
structure TSign where
  key : Int
  id : Int
  deriving DecidableEq
def signE : Enc TSign := ⟨fun x => .agg #[.int .i64 x.key, .int .i64 x.id], 2, true, fun _ => rfl, fun _ => rfl, by decide, fun _ => Ok.cons (.int _ _) (Ok.cons (.int _ _) (Ok.nil))⟩
theorem signE_sz : signE.sz = 2 := rfl
theorem signE_val (x : TSign) : signE.val x = .agg #[.int .i64 x.key, .int .i64 x.id] := rfl
structure TRef where
  tx : Int
  at' : Int
  deriving DecidableEq
def refE : Enc TRef := ⟨fun x => .agg #[.int .i64 x.tx, .int .i64 x.at'], 2, true, fun _ => rfl, fun _ => rfl, by decide, fun _ => Ok.cons (.int _ _) (Ok.cons (.int _ _) (Ok.nil))⟩
theorem refE_sz : refE.sz = 2 := rfl
theorem refE_val (x : TRef) : refE.val x = .agg #[.int .i64 x.tx, .int .i64 x.at'] := rfl
structure TNode where
  id : Int
  prev : Int
  height : Int
  deriving DecidableEq
def nodeE : Enc TNode := ⟨fun x => .agg #[.int .i64 x.id, .int .i64 x.prev, .int .i64 x.height], 3, true, fun _ => rfl, fun _ => rfl, by decide, fun _ => Ok.cons (.int _ _) (Ok.cons (.int _ _) (Ok.cons (.int _ _) (Ok.nil)))⟩
structure TChoice where
  ref : TRef
  tx : Int
  deriving DecidableEq
def choiceE : Enc TChoice := ⟨fun x => .agg #[.int .i64 x.ref.tx, .int .i64 x.ref.at', .int .i64 x.tx], 3, true, fun _ => rfl, fun _ => rfl, by decide, fun _ => Ok.cons (.int _ _) (Ok.cons (.int _ _) (Ok.cons (.int _ _) (Ok.nil)))⟩
theorem choiceE_sz : choiceE.sz = 3 := rfl
theorem choiceE_val (x : TChoice) : choiceE.val x = .agg #[.int .i64 x.ref.tx, .int .i64 x.ref.at', .int .i64 x.tx] := rfl
structure TLedger where
  texts : List ByteArray
  signs : List TSign
  deriving DecidableEq
def ledgerE : Enc TLedger := ⟨fun x => .agg #[islE strE x.texts, islE signE x.signs], 2, true, fun _ => rfl, fun _ => rfl, by decide, fun _ => Ok.cons (islE_ok _ _) (Ok.cons (islE_ok _ _) (Ok.nil))⟩
theorem ledgerE_sz : ledgerE.sz = 2 := rfl
theorem ledgerE_val (x : TLedger) : ledgerE.val x = .agg #[islE strE x.texts, islE signE x.signs] := rfl
structure TRule where
  keys : List Int
  need : Int
  after : Int
  deriving DecidableEq
def ruleE : Enc TRule := ⟨fun x => .agg #[islE intE x.keys, .int .i64 x.need, .int .i64 x.after], 3, true, fun _ => rfl, fun _ => rfl, by decide, fun _ => Ok.cons (islE_ok _ _) (Ok.cons (.int _ _) (Ok.cons (.int _ _) (Ok.nil)))⟩
theorem ruleE_sz : ruleE.sz = 3 := rfl
theorem ruleE_val (x : TRule) : ruleE.val x = .agg #[islE intE x.keys, .int .i64 x.need, .int .i64 x.after] := rfl
structure TOut where
  value : Int
  rule : TRule
  deriving DecidableEq
def outE : Enc TOut := ⟨fun x => .agg #[.int .i64 x.value, islE intE x.rule.keys, .int .i64 x.rule.need, .int .i64 x.rule.after], 4, true, fun _ => rfl, fun _ => rfl, by decide, fun _ => Ok.cons (.int _ _) (Ok.cons (islE_ok _ _) (Ok.cons (.int _ _) (Ok.cons (.int _ _) (Ok.nil))))⟩
theorem outE_sz : outE.sz = 4 := rfl
theorem outE_val (x : TOut) : outE.val x = .agg #[.int .i64 x.value, islE intE x.rule.keys, .int .i64 x.rule.need, .int .i64 x.rule.after] := rfl
structure TTx where
  kind : Int
  member : Int
  ins : List TRef
  outs : List TOut
  deriving DecidableEq
def txE : Enc TTx := ⟨fun x => .agg #[.int .i64 x.kind, .int .i64 x.member, islE refE x.ins, islE outE x.outs], 4, true, fun _ => rfl, fun _ => rfl, by decide, fun _ => Ok.cons (.int _ _) (Ok.cons (.int _ _) (Ok.cons (islE_ok _ _) (Ok.cons (islE_ok _ _) (Ok.nil))))⟩
theorem txE_sz : txE.sz = 4 := rfl
theorem txE_val (x : TTx) : txE.val x = .agg #[.int .i64 x.kind, .int .i64 x.member, islE refE x.ins, islE outE x.outs] := rfl
structure TBlock where
  prev : Int
  height : Int
  miner : Int
  txs : List Int
  deriving DecidableEq
structure TQuorum where
  keys : List Int
  need : Int
  deriving DecidableEq
def quorumE : Enc TQuorum := ⟨fun x => .agg #[islE intE x.keys, .int .i64 x.need], 2, true, fun _ => rfl, fun _ => rfl, by decide, fun _ => Ok.cons (islE_ok _ _) (Ok.cons (.int _ _) (Ok.nil))⟩
theorem quorumE_sz : quorumE.sz = 2 := rfl
theorem quorumE_val (x : TQuorum) : quorumE.val x = .agg #[islE intE x.keys, .int .i64 x.need] := rfl
structure TTextResult where
  code : Int
  text : ByteArray
  deriving DecidableEq
def textResultE : Enc TTextResult := ⟨fun x => .agg #[.int .i64 x.code, .string x.text], 2, true, fun _ => rfl, fun _ => rfl, by decide, fun _ => Ok.cons (.int _ _) (Ok.cons (.str _) (Ok.nil))⟩
theorem textResultE_sz : textResultE.sz = 2 := rfl
theorem textResultE_val (x : TTextResult) : textResultE.val x = .agg #[.int .i64 x.code, .string x.text] := rfl
structure TBlockResult where
  code : Int
  block : TBlock
  deriving DecidableEq
def blockResultE : Enc TBlockResult := ⟨fun x => .agg #[.int .i64 x.code, .int .i64 x.block.prev, .int .i64 x.block.height, .int .i64 x.block.miner, islE intE x.block.txs], 5, true, fun _ => rfl, fun _ => rfl, by decide, fun _ => Ok.cons (.int _ _) (Ok.cons (.int _ _) (Ok.cons (.int _ _) (Ok.cons (.int _ _) (Ok.cons (islE_ok _ _) (Ok.nil)))))⟩
structure TTxResult where
  code : Int
  tx : TTx
  deriving DecidableEq
def txResultE : Enc TTxResult := ⟨fun x => .agg #[.int .i64 x.code, .int .i64 x.tx.kind, .int .i64 x.tx.member, islE refE x.tx.ins, islE outE x.tx.outs], 5, true, fun _ => rfl, fun _ => rfl, by decide, fun _ => Ok.cons (.int _ _) (Ok.cons (.int _ _) (Ok.cons (.int _ _) (Ok.cons (islE_ok _ _) (Ok.cons (islE_ok _ _) (Ok.nil)))))⟩
theorem txResultE_sz : txResultE.sz = 5 := rfl
theorem txResultE_val (x : TTxResult) : txResultE.val x = .agg #[.int .i64 x.code, .int .i64 x.tx.kind, .int .i64 x.tx.member, islE refE x.tx.ins, islE outE x.tx.outs] := rfl
end Go.BM

/- Trees, as plain lists. -/
set_option linter.unusedVariables false
namespace Go.BM

def inB (a b c : Int) : Bool := decide (b ≤ a) && decide (a ≤ c)
def ndAt (xs : List TNode) (id : Int) : Int := findI (fun n => n.id == id) xs
def hOf (xs : List TNode) (i : Int) : Int := ((xs[i.toNat]?).getD ⟨0, 0, 0⟩).height
def upOf (xs : List TNode) (prev : Int) : Int := if (prev == 0) then 1 else if decide (ndAt xs prev < 0) then 1 else IntKind.i64.wrap (hOf xs (ndAt xs prev) + 1)
def nodeFault (xs : List TNode) (n : TNode) : Int :=
  if !inB n.id 1 60 || !inB n.height 1 40 then 3
  else if decide (0 ≤ ndAt xs n.id) then 7
  else if !(n.prev == 0) && decide (ndAt xs n.prev < 0) then 4
  else if !(n.height == upOf xs n.prev) then 1 else 0
/-- A tree without a fault. -/
structure Right (xs : List TNode) : Prop where
  len : xs.length ≤ 60
  ok : ∀ k (hk : k < xs.length), nodeFault (xs.take k) xs[k] = 0
section
variable {xs : List TNode} (R : Right xs)
include R
end

section
variable {xs : List TNode} (R : Right xs)
include R
end
end Go.BM

/- Quorums: plain facts; slices of what is ours; a list thinned in its place. -/
set_option linter.unusedVariables false
set_option linter.unusedSimpArgs false
namespace Go.BM
open Go.RowKit
section
variable {P : Program} {B : Nat} {H : AH} {α : Type} {E : Enc α}
end
theorem szI_neg {n : Nat} {k : Int} (h : szI n k < 0) : szI n k = -1 := by unfold szI at *; split <;> simp_all
/-! ### thinning -/
/-! ### quorums -/
def keysB (xs : List Int) : Bool := xs.all fun a => inB a 1 999
def risB : List Int → Bool
  | a :: b :: l => decide (a < b) && risB (b :: l)
  | _ => true
theorem risB_iff : ∀ xs : List Int, risB xs = true ↔ ∀ k (h : k + 1 < xs.length), xs[k] < xs[k + 1]
  | [] => by simp [risB]
  | [a] => by simp [risB]
  | a :: b :: l => by
    have ih := risB_iff (b :: l)
    simp only [risB, Bool.and_eq_true, decide_eq_true_eq, ih]
    constructor
    · rintro ⟨h1, h2⟩ k hk
      cases k with
      | zero => exact h1
      | succ k => exact h2 k (by simpa using hk)
    · intro h
      exact ⟨h 0 (by simp), fun k hk => h (k + 1) (by simpa using hk)⟩
theorem risB_false {xs : List Int} {k : Nat} (h : k + 1 < xs.length) (h2 : xs[k + 1] ≤ xs[k]) : risB xs = false := by
  cases hr : risB xs with
  | false => rfl
  | true => have := (risB_iff xs).1 hr k h; omega
theorem keysB_false {xs : List Int} {k : Nat} (hk : k < xs.length) (h : inB xs[k] 1 999 = false) : keysB xs = false := by
  unfold keysB
  rw [List.all_eq_false]
  exact ⟨xs[k], List.getElem_mem hk, by simp [h]⟩
theorem keysB_true {xs : List Int} (h : ∀ k (hk : k < xs.length), inB xs[k] 1 999 = true) : keysB xs = true := by
  unfold keysB
  rw [List.all_eq_true]
  intro x hx
  obtain ⟨k, hk, rfl⟩ := List.getElem_of_mem hx
  exact h k hk
end Go.BM

/- A contract in an empty heap, used anywhere: what is handed back stands behind our blocks. -/
set_option linter.unusedVariables false
set_option linter.unusedSimpArgs false
namespace Go.BM
open Go.RowKit

/-- A value handed back, with the numbers of its blocks made anew. -/
inductive Lif (N : AH) (ρ : Nat → Nat) (q : Nat → Prop) (k : Nat) : Value → Value → Prop
  | flat (v : Value) (h : flatV v = true) : Lif N ρ q k v v
  | nil : Lif N ρ q k (.slice none 0 0) (.slice none 0 0)
  | gone (r off : Nat) (sp : Option Nat) (ver : Nat) (b : Blk) (h : N[r]? = some b) (hv : b.ver = ver) (ho : b.own = false) : Lif N ρ q k (.slice (some ⟨r, off, sp⟩) 0 ver) (.slice none 0 0)
  | slice (i off : Nat) (sp : Option Nat) (len ver : Nat) (hi : q i) : Lif N ρ q k (.slice (some ⟨ρ i, off, sp⟩) len ver) (.slice (some ⟨k + i, off, sp⟩) len ver)
  | agg (xs ys : Array Value) (hs : xs.size = ys.size) (h : ∀ i (h1 : i < xs.size) (h2 : i < ys.size), Lif N ρ q k xs[i] ys[i]) : Lif N ρ q k (.agg xs) (.agg ys)
  | tuple (xs ys : Array Value) (hs : xs.size = ys.size) (h : ∀ i (h1 : i < xs.size) (h2 : i < ys.size), Lif N ρ q k xs[i] ys[i]) : Lif N ρ q k (.tuple xs) (.tuple ys)

/-- A block handed back. -/
structure LifB (N : AH) (ρ : Nat → Nat) (q : Nat → Prop) (k : Nat) (b b' : Blk) : Prop where
  el : b'.el = b.el
  sz : b'.sz = b.sz
  ver : b'.ver = b.ver
  own : b'.own = b.own
  len : b'.cs.length ≤ b.cs.length
  cs : ∀ (j : Nat) v', b'.cs[j]? = some v' → ∃ v, b.cs[j]? = some v ∧ Lif N ρ q k v v'

section
variable {P : Program} {σ σ' σ'' : Sg} {N M H : AH} {ρ : Nat → Nat} {q : Nat → Prop} {k : Nat}

theorem lif_vr (hM : ∀ i, q i → ∃ b b', N[ρ i]? = some b ∧ M[i]? = some b' ∧ LifB N ρ q k b b') (hk : H.length = k) (hσ : ∀ i, q i → σ'' (k + i) = σ' (ρ i))
    {d d' : Value} (h : Lif N ρ q k d d') : ∀ v, VR σ' N v d → VR σ'' (H ++ M) v d' := by
  have get : ∀ i, q i → (H ++ M)[k + i]? = M[i]? := fun i hi => by subst hk; rw [List.getElem?_append_right (by omega), Nat.add_sub_cancel_left]
  induction h with
  | flat d h => 
    intro v hv
    have := hv.im (σ' := σ'') (H' := H ++ M) (.flat _ h)
    cases hv with
    | flat _ _ => exact .flat _ h
    | tuple xs ys hs h' =>
      have h0 : ys.size = 0 := by simpa [flatV] using h
      exact .tuple xs ys hs fun i h1 h2 => by omega
    | _ => simp [flatV] at h
  | nil =>
    intro v hv
    cases hv with
    | flat _ h => simp [flatV] at h
    | mt a _ _ hd => exact .mt a none 0 hd
  | gone r off sp ver b hb hbv hbo =>
    intro v hv
    cases hv with
    | flat _ h => simp [flatV] at h
    | mt a _ _ hd => exact .mt a none 0 (fun x hx => by cases hx)
    | slice _ _ _ cap _ _ blk h hv ho hl hsp hm hc => rw [hb] at h; cases h; rw [hbo] at ho; cases ho
    | stale _ _ _ _ _ blk h hv a l c => rw [hb] at h; cases h; omega
  | slice i off sp len ver hi =>
    intro v hv
    obtain ⟨b, b', h1, h2, hb⟩ := hM i hi
    cases hv with
    | flat _ h => simp [flatV] at h
    | mt a _ _ hd =>
      have hs := hd ⟨ρ i, off, sp⟩ rfl
      exact .mt a _ _ fun x hx => by cases hx; exact hs
    | slice _ _ _ cap _ _ blk h hv ho hl hsp hm hc =>
      rw [h1] at h
      cases h
      rw [← hσ i hi] at hc ⊢
      exact .slice (k + i) off len cap ver sp b' (by rw [get i hi]; exact h2) (hb.ver.trans hv) (hb.own.trans ho) hl hsp hm (by rw [hb.sz]; exact hc)
    | stale _ _ _ _ _ blk h hv a l c =>
      rw [h1] at h
      cases h
      exact .stale (k + i) off len ver sp b' (by rw [get i hi]; exact h2) (by rw [hb.ver]; exact hv) a l c
  | agg xs ys hs h ih =>
    intro v hv
    obtain ⟨zs, rfl, hz, hv⟩ := hv.aggI
    exact .agg _ _ (hz.trans hs) fun i h1 h2 => ih i (by omega) h2 _ (hv i h1 (by omega))
  | tuple xs ys hs h ih =>
    intro v hv
    obtain ⟨zs, rfl, hz, hv⟩ := hv.tupleI
    exact .tuple _ _ (hz.trans hs) fun i h1 h2 => ih i (by omega) h2 _ (hv i h1 (by omega))

/-- A call by its contract in an empty heap, with lent arguments: of what it made stands what is handed back, and no more. -/
theorem ACalls.lift {f : FuncId} {args args' : List Value} {post post' : Value → AH → Prop} (h : ACalls P 0 f args' [] post) (hb : BorL H args args')
    (hp : ∀ d N, post d N → ∃ (ρ : Nat → Nat) (q : Nat → Prop) (M : AH) (d' : Value), (∀ i j, q i → q j → ρ i = ρ j → i = j) ∧ Lif N ρ q H.length d d' ∧ (∀ i b', M[i]? = some b' → b'.own = true → q i) ∧
      (∀ i, q i → ∃ b b', N[ρ i]? = some b ∧ M[i]? = some b' ∧ LifB N ρ q H.length b b') ∧ post' d' (H ++ M)) : ACalls P H.length f args H post' :=
  ⟨h.1, fun σ w vals hS hB hvl => (h.2 (snap σ H w) w vals (snap_sim hS) (Nat.le_refl _) (hb.vr hS _ hvl)).mono fun e w' ⟨v, he, σ', N, d, F, S, V, hd⟩ => by
    obtain ⟨ρ, q, M, d', hinj, hl, hown, hM, hpost⟩ := hp d N hd
    have b := F.below0
    have hnew : ∀ i, q i → ∀ nb, N[ρ i]? = some nb → nb.own = true → w.heap.size ≤ (σ' (ρ i)).b := fun i hi nb h1 h2 => by
      rcases F.loc (ρ i) nb h1 h2 with ⟨b0, g, _⟩ | g
      · simp at g
      · exact g
    let σ'' : Sg := ⟨fun q => if q < H.length then σ q else σ' (ρ (q - H.length)), σ.im⟩
    have so : ∀ q, q < H.length → σ'' q = σ q := fun q hq => if_pos hq
    have sn : ∀ i, σ'' (H.length + i) = σ' (ρ i) := fun i => by show (if _ then _ else _) = _; rw [if_neg (by omega), Nat.add_sub_cancel_left]
    have old : ∀ r blk, (H ++ M)[r]? = some blk → r < H.length → H[r]? = some blk := fun r blk h1 h2 => by rwa [List.getElem?_append_left h2] at h1
    have new : ∀ r blk, (H ++ M)[r]? = some blk → ¬ r < H.length → blk.own = true → ∃ i, r = H.length + i ∧ q i ∧ M[i]? = some blk := fun r blk h1 h2 h3 => by
      rw [List.getElem?_append_right (by omega)] at h1
      exact ⟨r - H.length, by omega, hown _ _ h1 h3, h1⟩
    have F2 : Fut H.length σ H w σ'' (H ++ M) w' := {
      os := b.os
      tape := b.tape
      output := b.output
      size := b.size
      frame := fun k hk _ => b.block k hk
      pre := fun r hr => List.getElem?_append_left hr
      preσ := fun r hr _ => so r hr
      keep := fun r blk h => ⟨blk, by rw [List.getElem?_append_left (lt_of_some h)]; exact h, Nat.le_refl _, fun _ => ⟨so r (lt_of_some h), rfl, rfl⟩⟩
      loc := fun r blk' hr ho => by
        by_cases hlt : r < H.length
        · exact .inl ⟨blk', old r blk' hr hlt, ho, so r hlt⟩
        · obtain ⟨i, rfl, hi, hmi⟩ := new r blk' hr hlt ho
          obtain ⟨nb, nb', h1, h2, h3⟩ := hM i hi
          rw [hmi] at h2
          cases h2
          exact .inr (by rw [sn]; exact hnew i hi nb h1 (h3.own.symm.trans ho))
      imk := fun _ _ h => h
      imn := fun _ _ h => .inl h }
    have S2 : Sim σ'' (H ++ M) w' := ⟨fun r blk hr ho => by
        by_cases hlt : r < H.length
        · have hr' := old r blk hr hlt
          obtain ⟨c, h1, h2, h3, h4, h5⟩ := hS.own r blk hr' ho
          refine ⟨c, by rw [so r hlt, b.block _ (hS.lt hr' ho)]; exact h1, by rw [so r hlt]; exact h2, by rw [so r hlt]; exact h3, h4, fun j v hj => ?_⟩
          obtain ⟨u, a1, a2, a3⟩ := h5 j v hj
          exact ⟨u, a1, a2.fut F2, a3⟩
        · obtain ⟨i, rfl, hi, hmi⟩ := new r blk hr hlt ho
          obtain ⟨nb, nb', h1, h2, h3⟩ := hM i hi
          rw [hmi] at h2
          cases h2
          obtain ⟨c, k1, k2, k3, k4, k5⟩ := S.own (ρ i) nb h1 (h3.own.symm.trans ho)
          refine ⟨c, by rw [sn, h3.el]; exact k1, by rw [sn]; exact k2, by rw [sn]; exact k3, Nat.le_trans h3.len k4, fun j v hj => ?_⟩
          obtain ⟨v0, g1, g2⟩ := h3.cs j v hj
          obtain ⟨u, a1, a2, a3⟩ := k5 j v0 g1
          exact ⟨u, a1, lif_vr (fun i hi => hM i hi) rfl (fun i _ => sn i) g2 _ a2, a3⟩,
      fun a u ha => by
        obtain ⟨h1, h2⟩ := hS.im a u ha
        exact ⟨by rw [b.cell (p := a) (hS.imlt ha)]; exact h1, h2⟩,
      fun a u ha r blk hr ho => by
        by_cases hlt : r < H.length
        · rw [so r hlt]; exact hS.sep a u ha r blk (old r blk hr hlt) ho
        · obtain ⟨i, rfl, hi, hmi⟩ := new r blk hr hlt ho
          obtain ⟨nb, nb', h1, h2, h3⟩ := hM i hi
          rw [hmi] at h2
          cases h2
          rw [sn]
          have := hnew i hi nb h1 (h3.own.symm.trans ho)
          have := hS.imlt ha
          omega,
      fun r r' blk blk' hr hr' hne ho ho' => by
        by_cases hlt : r < H.length
        · have h1 := old r blk hr hlt
          rw [so r hlt]
          by_cases hlt' : r' < H.length
          · rw [so r' hlt']; exact hS.inj r r' blk blk' h1 (old r' blk' hr' hlt') hne ho ho'
          · obtain ⟨i, rfl, hi, hmi⟩ := new r' blk' hr' hlt' ho'
            obtain ⟨nb, nb', g1, g2, g3⟩ := hM i hi
            rw [hmi] at g2
            cases g2
            rw [sn]
            have := hnew i hi nb g1 (g3.own.symm.trans ho')
            have := hS.lt h1 ho
            omega
        · obtain ⟨i, rfl, hi, hmi⟩ := new r blk hr hlt ho
          obtain ⟨nb, nb', g1, g2, g3⟩ := hM i hi
          rw [hmi] at g2
          cases g2
          rw [sn]
          by_cases hlt' : r' < H.length
          · rw [so r' hlt']
            have := hnew i hi nb g1 (g3.own.symm.trans ho)
            have := hS.lt (old r' blk' hr' hlt') ho'
            omega
          · obtain ⟨j, rfl, hj, hmj⟩ := new r' blk' hr' hlt' ho'
            obtain ⟨nc, nc', f1, f2, f3⟩ := hM j hj
            rw [hmj] at f2
            cases f2
            rw [sn]
            exact S.inj (ρ i) (ρ j) nb nc g1 f1 (fun e => hne (by rw [hinj i j hi hj e])) (g3.own.symm.trans ho) (f3.own.symm.trans ho'),
      F2.glob hS⟩
    exact ⟨v, he, σ'', H ++ M, d', F2, S2, lif_vr (fun i hi => hM i hi) rfl (fun i _ => sn i) hl _ V, hpost⟩⟩


/-! ### Who owns what -/
/-- Cells that lead to blocks of their own: each block is told once. 'x': the blocks hold no more than what is told. -/
inductive OwnL (x : Bool) (H : AH) : List Value → List Value → List Nat → Prop
  | nil : OwnL x H [] [] []
  | flat {v : Value} {l l' : List Value} {S : List Nat} (h : flatV v = true) (t : OwnL x H l l' S) : OwnL x H (v :: l) (v :: l') S
  | nils {l l' : List Value} {S : List Nat} (t : OwnL x H l l' S) : OwnL x H (.slice none 0 0 :: l) (isl 0 [] :: l') S
  | emp {r : Nat} {sp : Option Nat} {blk : Blk} {l l' : List Value} {S : List Nat} (h : H[r]? = some blk) (ho : x = true → blk.own = true ∧ blk.cs = []) (t : OwnL x H l l' S) :
      OwnL x H (.slice (some ⟨r, 0, sp⟩) 0 blk.ver :: l) (isl 0 [] :: l') (r :: S)
  | slice {r : Nat} {sp : Option Nat} {len : Nat} {blk : Blk} {cs l l' : List Value} {S T : List Nat} (h : H[r]? = some blk) (ho : blk.own = true) (hl : cs.length ≤ blk.cs.length) (hx : x = true → blk.cs.length = cs.length)
      (hn : len = 0 → cs = []) (hc : OwnL x H (blk.cs.take cs.length) cs S) (t : OwnL x H l l' T) : OwnL x H (.slice (some ⟨r, 0, sp⟩) len blk.ver :: l) (isl len cs :: l') (r :: (S ++ T))
  | agg {xs ys : Array Value} {S T : List Nat} {l l' : List Value} (hx : OwnL x H xs.toList ys.toList S) (t : OwnL x H l l' T) : OwnL x H (.agg xs :: l) (.agg ys :: l') (S ++ T)
  | tup {xs ys : Array Value} {S T : List Nat} {l l' : List Value} (hx : OwnL x H xs.toList ys.toList S) (t : OwnL x H l l' T) : OwnL x H (.tuple xs :: l) (.tuple ys :: l') (S ++ T)

theorem OwnL.len {x : Bool} {H : AH} {l l' : List Value} {S : List Nat} (h : OwnL x H l l' S) : l.length = l'.length := by
  induction h with
  | nil => rfl
  | flat _ _ ih => simp [ih]
  | nils _ ih => simp [ih]
  | emp _ _ _ ih => simp [ih]
  | slice _ _ _ _ _ _ _ _ ih => simp [ih]
  | agg _ _ _ ih => simp [ih]
  | tup _ _ _ ih => simp [ih]
theorem OwnL.bor {x : Bool} {H : AH} {l l' : List Value} {S : List Nat} (h : OwnL x H l l' S) : BorL H l l' := by
  induction h with
  | nil => exact .nil
  | flat h _ ih => exact .cons (.same _ (.flat _ h)) ih
  | nils _ ih => exact .cons .nil ih
  | emp h _ _ ih => exact .cons (.emp _ _ _ _ _ h rfl) ih
  | slice h ho hl hx hn hc t ihc iht => exact .cons (Bor.ownL h rfl ho hn ⟨_, ihc, rfl⟩) iht
  | agg hx _ ihx iht => exact .cons (by simpa using Bor.aggL ihx) iht
  | tup hx _ ihx iht => exact .cons (by simpa using Bor.tupleL ihx) iht
theorem OwnL.frame {x : Bool} {H H' : AH} {l l' : List Value} {S : List Nat} (h : OwnL x H l l' S) : (∀ r ∈ S, H'[r]? = H[r]?) → OwnL x H' l l' S := by
  induction h with
  | nil => exact fun _ => .nil
  | flat h _ ih => exact fun hf => .flat h (ih hf)
  | nils _ ih => exact fun hf => .nils (ih hf)
  | emp h ho _ ih => exact fun hf => .emp (by rw [hf _ (by simp)]; exact h) ho (ih fun r hr => hf r (by simp [hr]))
  | slice h ho hl hx hn hc t ihc iht => exact fun hf => .slice (by rw [hf _ (by simp)]; exact h) ho hl hx hn (ihc fun r hr => hf r (by simp [hr])) (iht fun r hr => hf r (by simp [hr]))
  | agg hx _ ihx iht => exact fun hf => .agg (ihx fun r hr => hf r (by simp [hr])) (iht fun r hr => hf r (by simp [hr]))
  | tup hx _ ihx iht => exact fun hf => .tup (ihx fun r hr => hf r (by simp [hr])) (iht fun r hr => hf r (by simp [hr]))
theorem OwnL.lt {x : Bool} {H : AH} {l l' : List Value} {S : List Nat} (h : OwnL x H l l' S) : ∀ r ∈ S, r < H.length := by
  induction h with
  | nil => simp
  | flat h _ ih => exact ih
  | nils _ ih => exact ih
  | emp h ho _ ih => intro r hr; rcases List.mem_cons.1 hr with rfl | hr; exact lt_of_some h; exact ih r hr
  | slice h ho hl hx hn hc t ihc iht =>
    intro r hr
    rcases List.mem_cons.1 hr with rfl | hr
    · exact lt_of_some h
    · rcases List.mem_append.1 hr with hr | hr
      · exact ihc r hr
      · exact iht r hr
  | agg hx _ ihx iht => intro r hr; rcases List.mem_append.1 hr with hr | hr; exact ihx r hr; exact iht r hr
  | tup hx _ ihx iht => intro r hr; rcases List.mem_append.1 hr with hr | hr; exact ihx r hr; exact iht r hr
theorem OwnL.append {x : Bool} {H : AH} {l l' m m' : List Value} {S T : List Nat} (h : OwnL x H l l' S) (k : OwnL x H m m' T) : OwnL x H (l ++ m) (l' ++ m') (S ++ T) := by
  induction h with
  | nil => exact k
  | flat h _ ih => exact .flat h ih
  | nils _ ih => exact .nils ih
  | emp h ho _ ih => exact .emp h ho ih
  | slice h ho hl hx hn hc t ihc iht =>
    simp only [List.cons_append, List.append_assoc]
    exact .slice h ho hl hx hn hc iht
  | agg hx _ ihx iht =>
    rw [List.append_assoc]
    exact .agg hx iht
  | tup hx _ ihx iht =>
    rw [List.append_assoc]
    exact .tup hx iht
theorem OwnL.ofFlat {x : Bool} {H : AH} : ∀ {l : List Value}, (∀ c ∈ l, flatV c = true) → OwnL x H l l []
  | [], _ => .nil
  | v :: l, h => .flat (h v (by simp)) (OwnL.ofFlat fun c hc => h c (by simp [hc]))
theorem OwnL.loose {x : Bool} {H : AH} {l l' : List Value} {S : List Nat} (h : OwnL x H l l' S) : OwnL false H l l' S := by
  induction h with
  | nil => exact .nil
  | flat h _ ih => exact .flat h ih
  | nils _ ih => exact .nils ih
  | emp h ho _ ih => exact .emp h (fun e => by cases e) ih
  | slice h ho hl hx hn hc t ihc iht => exact .slice h ho hl (fun e => by cases e) hn ihc iht
  | agg hx _ ihx iht => exact .agg ihx iht
  | tup hx _ ihx iht => exact .tup ihx iht

inductive LifL (N : AH) (ρ : Nat → Nat) (q : Nat → Prop) (k : Nat) : List Value → List Value → Prop
  | nil : LifL N ρ q k [] []
  | cons {v d : Value} {l m : List Value} (h : Lif N ρ q k v d) (t : LifL N ρ q k l m) : LifL N ρ q k (v :: l) (d :: m)
theorem LifL.at {N : AH} {ρ : Nat → Nat} {q : Nat → Prop} {k : Nat} {l m : List Value} (h : LifL N ρ q k l m) : l.length = m.length ∧ ∀ (i : Nat) (h1 : i < l.length) (h2 : i < m.length), Lif N ρ q k l[i] m[i] := by
  induction h with
  | nil => exact ⟨rfl, fun i h1 => by simp at h1⟩
  | cons hx ht ih =>
    refine ⟨by simp [ih.1], fun i h1 h2 => ?_⟩
    cases i with
    | zero => exact hx
    | succ i => exact ih.2 i (by simpa using h1) (by simpa using h2)
theorem LifL.cells {N : AH} {ρ : Nat → Nat} {q : Nat → Prop} {k n : Nat} {cs m : List Value} (h : LifL N ρ q k (cs.take n) m) : ∀ (j : Nat) v', m[j]? = some v' → ∃ v, cs[j]? = some v ∧ Lif N ρ q k v v' := fun j v' hj => by
  obtain ⟨h1, h2⟩ := h.at
  obtain ⟨hlt, rfl⟩ := List.getElem?_eq_some_iff.1 hj
  have hl : j < (cs.take n).length := by omega
  have := h2 j hl hlt
  rw [List.getElem_take] at this
  exact ⟨_, List.getElem?_eq_getElem (by simp at hl; omega), this⟩

theorem mid_get {α : Type} {A S C : List α} {z : α} {d : α} : (A ++ (z :: S) ++ C).getD A.length d = z := by
  simp [List.getD]

theorem LifL.agg {N : AH} {ρ : Nat → Nat} {q : Nat → Prop} {k : Nat} {xs : Array Value} {m : List Value} (h : LifL N ρ q k xs.toList m) : Lif N ρ q k (.agg xs) (.agg m.toArray) :=
  .agg _ _ (by simpa using h.at.1) fun i h1 h2 => by
    have := h.at.2 i (by simpa using h1) (by simpa using h2)
    rw [Array.getElem_toList] at this
    simpa using this
theorem LifL.tup {N : AH} {ρ : Nat → Nat} {q : Nat → Prop} {k : Nat} {xs : Array Value} {m : List Value} (h : LifL N ρ q k xs.toList m) : Lif N ρ q k (.tuple xs) (.tuple m.toArray) :=
  .tuple _ _ (by simpa using h.at.1) fun i h1 h2 => by
    have := h.at.2 i (by simpa using h1) (by simpa using h2)
    rw [Array.getElem_toList] at this
    simpa using this
theorem app_getD {N : AH} {R : Nat → Nat → Prop} {S T : List Nat} {MS MT : AH} (hl : MS.length = S.length) {Q : Option Blk → Blk → Prop} (h1 : ∀ i b', MS[i]? = some b' → Q N[S.getD i 0]? b') (h2 : ∀ i b', MT[i]? = some b' → Q N[T.getD i 0]? b') :
    ∀ i b', (MS ++ MT)[i]? = some b' → Q N[(S ++ T).getD i 0]? b' := fun i b' hb => by
  rcases Nat.lt_or_ge i MS.length with hi | hi
  · rw [List.getElem?_append_left hi] at hb
    have := h1 i b' hb
    simp only [List.getD] at this ⊢
    rw [List.getElem?_append_left (by omega)]
    exact this
  · rw [List.getElem?_append_right hi] at hb
    have := h2 _ b' hb
    simp only [List.getD] at this ⊢
    rw [List.getElem?_append_right (by omega), ← hl]
    exact this
/-- What is owned, laid anew behind k blocks. -/
theorem OwnL.lift {x : Bool} {N : AH} {S0 : List Nat} {k : Nat} {l l' : List Value} {S : List Nat} (h : OwnL x N l l' S) : ∀ A C, S0 = A ++ S ++ C →
    ∃ (dl : List Value) (MS : AH), LifL N (fun i => S0.getD i 0) (fun i => i < S0.length) k l dl ∧ MS.length = S.length ∧
      (∀ i b', MS[i]? = some b' → ∃ b, N[S.getD i 0]? = some b ∧ LifB N (fun i => S0.getD i 0) (fun i => i < S0.length) k b b') ∧
      ∀ H M : AH, H.length = k → (∀ i, i < S.length → M[A.length + i]? = MS[i]?) → ∃ S', OwnL true (H ++ M) dl l' S' ∧ S'.Nodup ∧ ∀ r ∈ S', k + A.length ≤ r ∧ r < k + A.length + S.length := by
  have at2 : ∀ {H M : AH} {i : Nat}, H.length = k → (H ++ M)[k + i]? = M[i]? := fun hk => by rw [List.getElem?_append_right (by omega)]; congr 1; omega
  have both : ∀ {A S T : List Nat} {H M : AH} {MS MT : AH}, MS.length = S.length → (∀ i, i < (S ++ T).length → M[A.length + i]? = (MS ++ MT)[i]?) →
      (∀ i, i < S.length → M[A.length + i]? = MS[i]?) ∧ ∀ i, i < T.length → M[(A ++ S).length + i]? = MT[i]? := fun {A S T H M MS MT} hl hM => by
    refine ⟨fun i hi => ?_, fun i hi => ?_⟩
    · rw [hM i (by simp; omega), List.getElem?_append_left (by omega)]
    · have := hM (S.length + i) (by simp; omega)
      rw [List.getElem?_append_right (by omega), hl, Nat.add_sub_cancel_left] at this
      rw [List.length_append, Nat.add_assoc]
      exact this
  have pair : ∀ {A S T S1 S2 : List Nat}, S1.Nodup → S2.Nodup → (∀ r ∈ S1, k + A.length ≤ r ∧ r < k + A.length + S.length) → (∀ r ∈ S2, k + (A ++ S).length ≤ r ∧ r < k + (A ++ S).length + T.length) →
      (S1 ++ S2).Nodup ∧ ∀ r ∈ S1 ++ S2, k + A.length ≤ r ∧ r < k + A.length + (S ++ T).length := fun {A S T S1 S2} n1 n2 b1 b2 => by
    refine ⟨List.nodup_append.2 ⟨n1, n2, fun a ha b hb e => ?_⟩, fun r hr => ?_⟩
    · have := b1 a ha
      have := b2 b hb
      simp at this
      omega
    · simp only [List.length_append] at b2 ⊢
      rcases List.mem_append.1 hr with hr | hr
      · have := b1 r hr; omega
      · have := b2 r hr; omega
  induction h with
  | nil => exact fun A C _ => ⟨[], [], .nil, rfl, fun i b' hb => by simp at hb, fun H M _ _ => ⟨[], .nil, by simp, by simp⟩⟩
  | flat h _ ih =>
    intro A C hS
    obtain ⟨dl, MS, h1, h2, h3, h4⟩ := ih A C hS
    refine ⟨_ :: dl, MS, .cons (.flat _ h) h1, h2, h3, fun H M hk hM => ?_⟩
    obtain ⟨S', g1, g2, g3⟩ := h4 H M hk hM
    exact ⟨S', .flat h g1, g2, g3⟩
  | nils _ ih =>
    intro A C hS
    obtain ⟨dl, MS, h1, h2, h3, h4⟩ := ih A C hS
    refine ⟨_ :: dl, MS, .cons .nil h1, h2, h3, fun H M hk hM => ?_⟩
    obtain ⟨S', g1, g2, g3⟩ := h4 H M hk hM
    exact ⟨S', .nils g1, g2, g3⟩
  | @emp r sp blk l l' S h ho _ ih =>
    intro A C hS
    obtain ⟨dl, MS, h1, h2, h3, h4⟩ := ih (A ++ [r]) C (by rw [hS]; simp)
    have hr : S0.getD A.length 0 = r := by rw [hS]; exact mid_get
    have hq : A.length < S0.length := by rw [hS]; simp only [List.length_append, List.length_cons]; omega
    have hB : LifB N (fun i => S0.getD i 0) (fun i => i < S0.length) k blk ⟨blk.el, blk.sz, [], blk.ver, blk.own⟩ := ⟨rfl, rfl, rfl, rfl, by simp, fun j v' hj => by simp at hj⟩
    have h3' : ∀ i b', ([⟨blk.el, blk.sz, [], blk.ver, blk.own⟩] ++ MS)[i]? = some b' → ∃ b, N[([r] ++ S).getD i 0]? = some b ∧ LifB N (fun i => S0.getD i 0) (fun i => i < S0.length) k b b' :=
      app_getD (R := fun _ _ => True) (Q := fun o b' => ∃ b, o = some b ∧ LifB N (fun i => S0.getD i 0) (fun i => i < S0.length) k b b') rfl (fun i b' hb => by
        cases i with
        | zero => simp at hb; subst hb; exact ⟨blk, by simpa using h, hB⟩
        | succ i => simp at hb) h3
    cases hown : blk.own with
    | true =>
      rw [hown] at h3'
      refine ⟨.slice (some ⟨k + A.length, 0, sp⟩) 0 blk.ver :: dl, ⟨blk.el, blk.sz, [], blk.ver, true⟩ :: MS, .cons ?_ h1, by simp [h2], h3', fun H M hk hM => ?_⟩
      · have := Lif.slice (N := N) (ρ := fun i => S0.getD i 0) (q := fun i => i < S0.length) (k := k) A.length 0 sp 0 blk.ver hq
        simp only [hr] at this
        exact this
      · obtain ⟨m1, m2⟩ := both (A := A) (S := [r]) (T := S) (H := H) (M := M) (MS := [⟨blk.el, blk.sz, [], blk.ver, true⟩]) (MT := MS) rfl hM
        obtain ⟨S', g1, g2, g3⟩ := h4 H M hk m2
        have hb := m1 0 (by simp)
        have hat : (H ++ M)[k + A.length]? = some ⟨blk.el, blk.sz, [], blk.ver, true⟩ := by rw [at2 hk]; simpa using hb
        obtain ⟨n1, n2⟩ := pair (A := A) (S := [r]) (T := S) (S1 := [k + A.length]) (S2 := S') (by simp) g2 (by simp) g3
        exact ⟨(k + A.length) :: S', .emp (blk := ⟨blk.el, blk.sz, [], blk.ver, true⟩) hat (fun _ => ⟨rfl, rfl⟩) g1, n1, n2⟩
    | false =>
      rw [hown] at h3'
      refine ⟨.slice none 0 0 :: dl, ⟨blk.el, blk.sz, [], blk.ver, false⟩ :: MS, .cons (.gone r 0 sp blk.ver blk h rfl hown) h1, by simp [h2], h3', fun H M hk hM => ?_⟩
      obtain ⟨m1, m2⟩ := both (A := A) (S := [r]) (T := S) (H := H) (M := M) (MS := [⟨blk.el, blk.sz, [], blk.ver, false⟩]) (MT := MS) rfl hM
      obtain ⟨S', g1, g2, g3⟩ := h4 H M hk m2
      obtain ⟨n1, n2⟩ := pair (A := A) (S := [r]) (T := S) (S1 := []) (S2 := S') (by simp) g2 (by simp) g3
      exact ⟨S', .nils g1, n1, n2⟩
  | @slice r sp len blk cs l l' S T h ho hl hx hn hc t ihc iht =>
    intro A C hS
    obtain ⟨dc, MC, c1, c2, c3, c4⟩ := ihc (A ++ [r]) (T ++ C) (by rw [hS]; simp)
    obtain ⟨dt, MT, t1, t2, t3, t4⟩ := iht (A ++ [r] ++ S) C (by rw [hS]; simp)
    have hr : S0.getD A.length 0 = r := by rw [hS]; exact mid_get
    have hq : A.length < S0.length := by rw [hS]; simp only [List.length_append, List.length_cons]; omega
    have hdc : dc.length = cs.length := by have := c1.at.1; simp at this; omega
    have hB : LifB N (fun i => S0.getD i 0) (fun i => i < S0.length) k blk ⟨blk.el, blk.sz, dc, blk.ver, true⟩ := ⟨rfl, rfl, rfl, ho.symm, by dsimp only; omega, c1.cells⟩
    refine ⟨.slice (some ⟨k + A.length, 0, sp⟩) len blk.ver :: dt, ⟨blk.el, blk.sz, dc, blk.ver, true⟩ :: (MC ++ MT), .cons ?_ t1, by simp [c2, t2], ?_, fun H M hk hM => ?_⟩
    · have := Lif.slice (N := N) (ρ := fun i => S0.getD i 0) (q := fun i => i < S0.length) (k := k) A.length 0 sp len blk.ver hq
      simp only [hr] at this
      exact this
    · exact app_getD (R := fun _ _ => True) (S := [r]) (MS := [⟨blk.el, blk.sz, dc, blk.ver, true⟩]) (Q := fun o b' => ∃ b, o = some b ∧ LifB N (fun i => S0.getD i 0) (fun i => i < S0.length) k b b') rfl (fun i b' hb => by
        cases i with
        | zero => simp at hb; subst hb; exact ⟨blk, by simpa using h, hB⟩
        | succ i => simp at hb) (app_getD (R := fun _ _ => True) (Q := fun o b' => ∃ b, o = some b ∧ LifB N (fun i => S0.getD i 0) (fun i => i < S0.length) k b b') c2 c3 t3)
    · obtain ⟨m1, m2⟩ := both (A := A) (S := [r]) (T := S ++ T) (H := H) (M := M) (MS := [⟨blk.el, blk.sz, dc, blk.ver, true⟩]) (MT := MC ++ MT) rfl hM
      obtain ⟨m3, m4⟩ := both (A := A ++ [r]) (H := H) (S := S) (T := T) (M := M) (MS := MC) (MT := MT) c2 m2
      obtain ⟨S1, g1, g2, g3⟩ := c4 H M hk m3
      obtain ⟨S2, f1, f2, f3⟩ := t4 H M hk m4
      have hb := m1 0 (by simp)
      have hat : (H ++ M)[k + A.length]? = some ⟨blk.el, blk.sz, dc, blk.ver, true⟩ := by rw [at2 hk]; simpa using hb
      obtain ⟨n1, n2⟩ := pair (A := A ++ [r]) (S := S) (T := T) g2 f2 g3 f3
      obtain ⟨n3, n4⟩ := pair (A := A) (S := [r]) (T := S ++ T) (S1 := [k + A.length]) (S2 := S1 ++ S2) (by simp) n1 (by simp) n2
      exact ⟨(k + A.length) :: (S1 ++ S2), .slice (blk := ⟨blk.el, blk.sz, dc, blk.ver, true⟩) hat rfl (by dsimp only; omega) (fun _ => hdc) hn (by rw [List.take_of_length_le (by dsimp only; omega)]; exact g1) f1, n3, n4⟩
  | @agg xs ys S T l l' hx t ihx iht =>
    intro A C hS
    obtain ⟨dc, MC, c1, c2, c3, c4⟩ := ihx A (T ++ C) (by rw [hS]; simp)
    obtain ⟨dt, MT, t1, t2, t3, t4⟩ := iht (A ++ S) C (by rw [hS]; simp)
    refine ⟨.agg dc.toArray :: dt, MC ++ MT, .cons c1.agg t1, by simp [c2, t2], app_getD (R := fun _ _ => True) (Q := fun o b' => ∃ b, o = some b ∧ LifB N (fun i => S0.getD i 0) (fun i => i < S0.length) k b b') c2 c3 t3, fun H M hk hM => ?_⟩
    obtain ⟨m3, m4⟩ := both (A := A) (H := H) (S := S) (T := T) (M := M) (MS := MC) (MT := MT) c2 hM
    obtain ⟨S1, g1, g2, g3⟩ := c4 H M hk m3
    obtain ⟨S2, f1, f2, f3⟩ := t4 H M hk m4
    obtain ⟨n1, n2⟩ := pair (A := A) (S := S) (T := T) g2 f2 g3 f3
    exact ⟨S1 ++ S2, .agg g1 f1, n1, n2⟩
  | @tup xs ys S T l l' hx t ihx iht =>
    intro A C hS
    obtain ⟨dc, MC, c1, c2, c3, c4⟩ := ihx A (T ++ C) (by rw [hS]; simp)
    obtain ⟨dt, MT, t1, t2, t3, t4⟩ := iht (A ++ S) C (by rw [hS]; simp)
    refine ⟨.tuple dc.toArray :: dt, MC ++ MT, .cons c1.tup t1, by simp [c2, t2], app_getD (R := fun _ _ => True) (Q := fun o b' => ∃ b, o = some b ∧ LifB N (fun i => S0.getD i 0) (fun i => i < S0.length) k b b') c2 c3 t3, fun H M hk hM => ?_⟩
    obtain ⟨m3, m4⟩ := both (A := A) (H := H) (S := S) (T := T) (M := M) (MS := MC) (MT := MT) c2 hM
    obtain ⟨S1, g1, g2, g3⟩ := c4 H M hk m3
    obtain ⟨S2, f1, f2, f3⟩ := t4 H M hk m4
    obtain ⟨n1, n2⟩ := pair (A := A) (S := S) (T := T) g2 f2 g3 f3
    exact ⟨S1 ++ S2, .tup g1 f1, n1, n2⟩

/-- THE CONTRACT of a function that hands back new memory of its own. -/
def NCalls (P : Program) (f : FuncId) (args : List Value) (v : Value) : Prop := ACalls P 0 f args [] fun d N => ∃ S, S.Nodup ∧ OwnL false N [d] [v] S
/-- A value in new memory, in a heap that has grown. -/
structure New (H H' : AH) (d v : Value) (S : List Nat) : Prop where
  len : H.length ≤ H'.length
  old : ∀ r, r < H.length → H'[r]? = H[r]?
  own : OwnL true H' [d] [v] S
  nd : S.Nodup
  lo : ∀ r ∈ S, H.length ≤ r
theorem NCalls.use {f : FuncId} {args args' : List Value} {v : Value} (h : NCalls P f args' v) (hb : BorL H args args') : ACalls P H.length f args H fun d H' => ∃ S, New H H' d v S := by
  refine ACalls.lift h hb ?_
  rintro d N ⟨S, hnd, ho⟩
  obtain ⟨dl, MS, h1, h2, h3, h4⟩ := ho.lift (k := H.length) (S0 := S) [] [] (by simp)
  obtain ⟨S', g1, g2, g3⟩ := h4 H MS rfl (fun i _ => by simp)
  have hl := h1.at.1
  obtain ⟨d', rfl⟩ : ∃ d', dl = [d'] := by
    cases dl with
    | nil => simp at hl
    | cons d' t => cases t with
      | nil => exact ⟨d', rfl⟩
      | cons _ _ => simp at hl
  refine ⟨fun i => S.getD i 0, fun i => i < S.length, MS, d', fun i j hi hj e => ?_, ?_, fun i b' hb' _ => by have := lt_of_some hb'; omega, fun i hi => ?_, S', ?_⟩
  · have hi' : i < S.length := hi
    have hj' : j < S.length := hj
    simp only [List.getD, List.getElem?_eq_getElem hi', List.getElem?_eq_getElem hj', Option.getD_some] at e
    rcases Nat.lt_trichotomy i j with h | h | h
    · exact absurd e (List.pairwise_iff_getElem.1 hnd i j hi' hj' h)
    · exact h
    · exact absurd e.symm (List.pairwise_iff_getElem.1 hnd j i hj' hi' h)
  · have := h1.at.2 0 (by simp) (by simp)
    exact this
  · have hi' : i < MS.length := by rw [h2]; exact hi
    obtain ⟨b, k1, k2⟩ := h3 i _ (List.getElem?_eq_getElem hi')
    exact ⟨b, _, k1, List.getElem?_eq_getElem hi', k2⟩
  · exact ⟨by simp, fun r hr => List.getElem?_append_left hr, g1, g2, fun r hr => by have := g3 r hr; simp at this; omega⟩
theorem NCalls.p {f : FuncId} {args : List Value} {v : Value} (h : NCalls P f args v) : PCalls P f args v :=
  h.mono fun d N ⟨S, _, ho⟩ => by cases ho.bor; assumption
theorem intE_flat (ys : List Int) : ∀ c ∈ intE.flat ys, flatV c = true := fun c h => by
  obtain ⟨y, _, hy⟩ := List.mem_flatMap.1 h
  simp [intE, cellsV] at hy
  subst hy
  rfl
/-- A marked block, lent. -/
theorem Bor.mks {el sz m n r ver : Nat} {o : Bool} {sp : Option Nat} {q : Int} (hb : H[r]? = some ⟨el, sz, marksC q m, ver, o⟩) (ho : n ≠ 0 → o = true) (hm : n = 0 → m = 0) : Bor H (.slice (some ⟨r, 0, sp⟩) n ver) (isl n (marksC q m)) := by
  rcases Nat.eq_zero_or_pos n with h0 | h0
  · have := hm h0
    subst h0 this
    exact .emp r 0 sp ver _ hb rfl
  · exact Bor.ownL hb rfl (ho (by omega)) (fun h => by omega) ⟨marksC q m, .same fun d hd => (marksC_ok q m d hd).im, by simp⟩
end
end Go.BM

/- Marks, and what a law keeps in hand. -/
set_option linter.unusedVariables false
set_option linter.unusedSimpArgs false
namespace Go.BM
open Go.RowKit
section
variable {P : Program} {x : Bool} {H H' : AH} {l l' : List Value} {S T : List Nat} {d v y : Value} {α : Type} {E : Enc α}

theorem OwnL.nilI (h : OwnL x H l [] S) : l = [] ∧ S = [] := by cases h; exact ⟨rfl, rfl⟩
theorem OwnL.consI {v : Value} (h : OwnL x H l (v :: l') S) : ∃ d m S1 S2, l = d :: m ∧ S = S1 ++ S2 ∧ OwnL x H [d] [v] S1 ∧ OwnL x H m l' S2 := by
  cases h with
  | flat h t => exact ⟨_, _, [], _, rfl, rfl, .flat h .nil, t⟩
  | nils t => exact ⟨_, _, [], _, rfl, rfl, .nils .nil, t⟩
  | @emp r sp blk _ _ S h ho t => exact ⟨_, _, [r], S, rfl, rfl, .emp h ho .nil, t⟩
  | @slice r sp len blk cs _ _ S T h ho hl hx hn hc t => exact ⟨_, _, r :: (S ++ []), T, rfl, by simp, .slice h ho hl hx hn hc .nil, t⟩
  | @agg xs ys S T _ _ hx t => exact ⟨_, _, S ++ [], T, rfl, by simp, .agg hx .nil, t⟩
  | @tup xs ys S T _ _ hx t => exact ⟨_, _, S ++ [], T, rfl, by simp, .tup hx .nil, t⟩
theorem OwnL.flatI {v : Value} (h : OwnL x H l (v :: l') S) (hv : flatV v = true) : ∃ m, l = v :: m ∧ OwnL x H m l' S := by
  generalize hw : v = v' at h
  cases h with
  | flat h t => subst hw; exact ⟨_, rfl, t⟩
  | nils t => subst hw; simp [isl, flatV] at hv
  | emp h ho t => subst hw; simp [isl, flatV] at hv
  | slice h ho hl hx hn hc t => subst hw; simp [isl, flatV] at hv
  | agg hx t => subst hw; simp [flatV] at hv
  | @tup xs ys S T _ _ hx t =>
    subst hw
    have h0 : ys.size = 0 := by simpa [flatV] using hv
    have : ys = #[] := by apply Array.eq_empty_of_size_eq_zero h0
    subst this
    obtain ⟨h1, rfl⟩ := OwnL.nilI hx
    have : xs = #[] := by apply Array.eq_empty_of_size_eq_zero; simpa using congrArg List.length h1
    subst this
    exact ⟨_, rfl, t⟩
theorem OwnL.flatA (h : OwnL x H l l' S) : (∀ c ∈ l', flatV c = true) → S = [] ∧ l = l' := by
  induction h with
  | nil => exact fun _ => ⟨rfl, rfl⟩
  | flat h _ ih => exact fun hf => by obtain ⟨h1, h2⟩ := ih fun c hc => hf c (by simp [hc]); exact ⟨h1, by rw [h2]⟩
  | nils _ ih => intro hf; have := hf _ List.mem_cons_self; simp [isl, flatV] at this
  | emp _ _ _ ih => intro hf; have := hf _ List.mem_cons_self; simp [isl, flatV] at this
  | slice h ho hl hx hn hc t ihc iht => intro hf; have := hf _ List.mem_cons_self; simp [isl, flatV] at this
  | agg hx _ ihx iht => intro hf; have := hf _ List.mem_cons_self; simp [flatV] at this
  | @tup xs ys S T _ _ hx _ ihx iht =>
    intro hf
    have hv := hf _ List.mem_cons_self
    have h0 : ys.size = 0 := by simpa [flatV] using hv
    have : ys = #[] := Array.eq_empty_of_size_eq_zero h0
    subst this
    obtain ⟨h1, rfl⟩ := OwnL.nilI hx
    have : xs = #[] := by apply Array.eq_empty_of_size_eq_zero; simpa using congrArg List.length h1
    subst this
    obtain ⟨g1, g2⟩ := iht fun c hc => hf c (by simp [hc])
    exact ⟨by simp [g1], by rw [g2]⟩
theorem OwnL.aggI {ys : List Value} (h : OwnL x H [d] [.agg ys.toArray] S) : ∃ xs, d = .agg xs.toArray ∧ OwnL x H xs ys S := by
  generalize hw : (Value.agg ys.toArray) = w at h
  cases h with
  | flat h t => subst hw; simp [flatV] at h
  | nils t => cases hw
  | emp h ho t => cases hw
  | slice h ho hl hx hn hc t => cases hw
  | @agg xs zs S T _ _ hx t =>
    cases hw
    obtain ⟨_, rfl⟩ := OwnL.nilI t
    exact ⟨xs.toList, by simp, by simpa using hx⟩
  | tup hx t => cases hw
theorem OwnL.aggL (h : OwnL x H l l' S) : OwnL x H [.agg l.toArray] [.agg l'.toArray] S := by
  have := OwnL.agg (xs := l.toArray) (ys := l'.toArray) (by simpa using h) OwnL.nil
  simpa using this
theorem OwnL.tupL (h : OwnL x H l l' S) : OwnL x H [.tuple l.toArray] [.tuple l'.toArray] S := by
  have := OwnL.tup (xs := l.toArray) (ys := l'.toArray) (by simpa using h) OwnL.nil
  simpa using this
theorem OwnL.consL (h : OwnL x H [d] [v] S) (t : OwnL x H l l' T) : OwnL x H (d :: l) (v :: l') (S ++ T) := h.append t
/-- A slice that is owned: nil, empty, or a block. -/
theorem OwnL.slI {xs : List α} (h : OwnL x H [d] [islE E xs] S) : (d = .slice none 0 0 ∧ xs = [] ∧ S = []) ∨
    (∃ r sp blk, d = .slice (some ⟨r, 0, sp⟩) 0 blk.ver ∧ H[r]? = some blk ∧ xs = [] ∧ S = [r] ∧ (x = true → blk.own = true ∧ blk.cs = [])) ∨
    ∃ r sp blk S1, d = .slice (some ⟨r, 0, sp⟩) xs.length blk.ver ∧ H[r]? = some blk ∧ blk.own = true ∧ (E.flat xs).length ≤ blk.cs.length ∧ (x = true → blk.cs.length = (E.flat xs).length) ∧ S = r :: S1 ∧ OwnL x H (blk.cs.take (E.flat xs).length) (E.flat xs) S1 := by
  generalize hw : islE E xs = w at h
  have isl_inj : ∀ {n m : Nat} {a b : List Value}, isl n a = isl m b → n = m ∧ a = b := fun {n m a b} e => by
    unfold isl at e
    injection e with _ e1 e2
    simp at e1 e2
    exact ⟨by omega, e2⟩
  cases h with
  | flat h t => subst hw; simp [islE, isl, flatV] at h
  | nils t =>
    obtain ⟨h1, h2⟩ := isl_inj hw
    obtain ⟨_, rfl⟩ := OwnL.nilI t
    exact .inl ⟨rfl, List.eq_nil_of_length_eq_zero h1, rfl⟩
  | @emp r sp blk _ _ S h ho t =>
    obtain ⟨h1, h2⟩ := isl_inj hw
    obtain ⟨_, rfl⟩ := OwnL.nilI t
    exact .inr (.inl ⟨r, sp, blk, rfl, h, List.eq_nil_of_length_eq_zero h1, rfl, ho⟩)
  | @slice r sp len blk cs _ _ S T h ho hl hx hn hc t =>
    obtain ⟨rfl, rfl⟩ := isl_inj hw
    obtain ⟨_, rfl⟩ := OwnL.nilI t
    exact .inr (.inr ⟨r, sp, blk, S, rfl, h, ho, hl, hx, by simp, hc⟩)
  | agg hx t => simp [islE, isl] at hw
  | tup hx t => simp [islE, isl] at hw
/-- A list of flat things in a block. -/
theorem OwnL.sl {ys : List α} {r el sz ver n : Nat} {o : Bool} {sp : Option Nat} {rest : List Value} (hb : H[r]? = some ⟨el, sz, E.flat ys ++ rest, ver, o⟩) (ho : ys.length ≠ 0 → o = true) (hn : n = ys.length) (hf : ∀ c ∈ E.flat ys, flatV c = true)
    (hr : x = true → o = true ∧ rest = []) : OwnL x H [.slice (some ⟨r, 0, sp⟩) n ver] [islE E ys] [r] := by
  subst hn
  cases h : ys with
  | nil =>
    subst h
    exact OwnL.emp hb (fun e => by obtain ⟨h1, h2⟩ := hr e; exact ⟨h1, by simpa [Enc.flat] using h2⟩) .nil
  | cons y l =>
    rw [← h]
    have := OwnL.slice (x := x) (H := H) (sp := sp) (len := ys.length) (cs := E.flat ys) (S := []) (T := []) (l := []) (l' := []) hb (ho (by rw [h]; simp)) (by simp) (fun e => by rw [(hr e).2]; simp) (fun h0 => by rw [h] at h0; simp at h0) (by simp; exact .ofFlat hf) .nil
    exact this
theorem OwnL.sl1 {ys : List α} {el sz : Nat} (hf : ∀ c ∈ E.flat ys, flatV c = true) : ∃ S : List Nat, S.Nodup ∧ OwnL false ([] ++ [⟨el, sz, E.flat ys, 0, true⟩]) [.slice (some ⟨([] : AH).length, 0, none⟩) ys.length 0] [islE E ys] S :=
  ⟨[0], by simp, OwnL.sl (el := el) (sz := sz) (o := true) (rest := []) (by simp) (fun _ => rfl) rfl hf (fun e => by cases e)⟩
theorem OwnL.slNil : OwnL x H [.slice none 0 0] [islE E []] [] := OwnL.nils .nil
theorem OwnL.bor1 (h : OwnL x H [d] [v] S) : Bor H d v := by cases h.bor; assumption
theorem OwnL.bork {k : IntKind} {i : Int} (h : OwnL x H [d] [v] S) : BorL H [d, .int k i] [v, .int k i] := .cons h.bor1 (.cons (.same _ (.flat _ rfl)) .nil)
theorem OwnL.slD {xs : List α} (h : OwnL x H [d] [islE E xs] S) : ∃ a n ver, d = .slice a n ver := by
  rcases h.slI with ⟨rfl, _⟩ | ⟨r, sp, blk, rfl, _⟩ | ⟨r, sp, blk, S1, rfl, _⟩ <;> exact ⟨_, _, _, rfl⟩
theorem OwnL.im (h : OwnL x H l l' S) : ∀ c ∈ l', Im c := by
  induction h with
  | nil => exact fun c hc => by simp at hc
  | flat h _ ih => exact Im.consL (.flat _ h) ih
  | nils _ ih => exact Im.consL (Im.isl Im.nilL) ih
  | emp _ _ _ ih => exact Im.consL (Im.isl Im.nilL) ih
  | slice h ho hl hx hn hc t ihc iht => exact Im.consL (Im.isl ihc) iht
  | agg hx _ ihx iht => exact Im.consL (by simpa using Im.aggL ihx) iht
  | tup hx _ ihx iht => exact Im.consL (by simpa using Im.tupleL ihx) iht
theorem OwnL.im1 (h : OwnL x H [d] [v] S) : Im v := h.im v (by simp)
/-- What a slice that is owned is told as. -/
theorem OwnL.slY {a : Option Addr} {n ver : Nat} {m : List Value} (h : OwnL x H (.slice a n ver :: l) m S) : ∃ k cs m' S1 S2, m = isl k cs :: m' ∧ S = S1 ++ S2 ∧ OwnL x H [.slice a n ver] [isl k cs] S1 ∧ OwnL x H l m' S2 := by
  generalize hw : (Value.slice a n ver) = w at h
  cases h with
  | flat h t => subst hw; simp [flatV] at h
  | nils t => exact ⟨0, [], _, [], _, rfl, rfl, by cases hw; exact .nils .nil, t⟩
  | @emp r sp blk _ _ S h ho t => exact ⟨0, [], _, [r], S, rfl, rfl, by cases hw; exact .emp h ho .nil, t⟩
  | @slice r sp len blk cs _ _ S T h ho hl hx hn hc t => exact ⟨len, cs, _, r :: (S ++ []), T, rfl, by simp, by cases hw; exact .slice h ho hl hx hn hc .nil, t⟩
  | agg hx t => cases hw
  | tup hx t => cases hw
theorem OwnL.flatJ {m : List Value} (h : OwnL x H (v :: l) m S) (hv : flatV v = true) (hz : ∀ xs, v ≠ .tuple xs) : ∃ m', m = v :: m' ∧ OwnL x H l m' S := by
  cases h with
  | flat h t => exact ⟨_, rfl, t⟩
  | nils t => simp [flatV] at hv
  | emp h ho t => simp [flatV] at hv
  | slice h ho hl hx hn hc t => simp [flatV] at hv
  | agg hx t => simp [flatV] at hv
  | tup hx t => exact absurd rfl (hz _)
theorem OwnL.aggJ {xs : List Value} (h : OwnL x H [.agg xs.toArray] [y] S) : ∃ ys, y = .agg ys.toArray ∧ OwnL x H xs ys S := by
  generalize hw : (Value.agg xs.toArray) = w at h
  cases h with
  | flat h t => subst hw; simp [flatV] at h
  | nils t => cases hw
  | emp h ho t => cases hw
  | slice h ho hl hx hn hc t => cases hw
  | @agg zs ys S T _ _ hx t =>
    cases hw
    obtain ⟨_, rfl⟩ := OwnL.nilI t
    exact ⟨ys.toList, by simp, by simpa using hx⟩
  | tup hx t => cases hw
theorem OwnL.tupI {ys : List Value} (h : OwnL x H [d] [.tuple ys.toArray] S) (hne : ys ≠ [] := by simp) : ∃ xs, d = .tuple xs.toArray ∧ OwnL x H xs ys S := by
  generalize hw : (Value.tuple ys.toArray) = w at h
  cases h with
  | flat h t => subst hw; simp [flatV] at h; exact absurd h hne
  | nils t => cases hw
  | emp h ho t => cases hw
  | slice h ho hl hx hn hc t => cases hw
  | agg hx t => cases hw
  | @tup zs ys' S T _ _ hx t =>
    cases hw
    obtain ⟨_, rfl⟩ := OwnL.nilI t
    exact ⟨zs.toList, by simp, by simpa using hx⟩
theorem OwnL.nilJ {m : List Value} (h : OwnL x H [] m S) : m = [] ∧ S = [] := by cases h; exact ⟨rfl, rfl⟩
theorem OwnL.unagg {xs ys : List Value} (h : OwnL x H [.agg xs.toArray] [.agg ys.toArray] S) : OwnL x H xs ys S := by
  obtain ⟨zs, e, hz⟩ := h.aggJ
  have : ys = zs := by injection e with e; simpa using e
  rw [this]
  exact hz
theorem NCalls.of {f : FuncId} {args : List Value} (h : ACalls P 0 f args [] fun d N => ∃ S, S.Nodup ∧ OwnL false N [d] [v] S) : NCalls P f args v := h
/-! ### marks -/
structure Mkd (P : Program) (g : FuncId) (H H' : AH) (d : Value) (S : List Nat) (k : Int) (n : Nat) : Prop where
  len : H.length ≤ H'.length
  old : ∀ r, r < H.length → r ∉ S → H'[r]? = H[r]?
  own : ∃ y, OwnL true H' [d] [y] S ∧ PCalls P g [y, .int .i64 k] (.int .i64 (k + (n : Nat)))
/-- THE CONTRACT of a function that writes marks, and of the one that reads them. -/
def MCalls (P : Program) (f g : FuncId) (v : Value) (n : Nat) : Prop := ∀ (H : AH) (d : Value) (S : List Nat) (k : Int), OwnL true H [d] [v] S → S.Nodup → 0 ≤ k → k + (n : Nat) ≤ 1000000000000000 →
  ACalls P 0 f [d, .int .i64 k] H fun e H' => e = .int .i64 (k + (n : Nat)) ∧ Mkd P g H H' d S k n
theorem MCalls.ofSl {xs : List α} {f g : FuncId} {mk : Int → Nat → List Value} (hmk : ∀ k n, (mk k n).length = n) (hfl : ∀ k n c, c ∈ mk k n → flatV c = true) (hfE : ∀ c ∈ E.flat xs, flatV c = true)
    (h0 : ∀ k, PCalls P f [islE E [], .int .i64 k] (.int .i64 k))
    (hb : ∀ (H : AH) (r ver el sz : Nat) (cs : List Value) (sp : Option Nat) (k : Int), H[r]? = some ⟨el, sz, cs, ver, true⟩ → cs.length = xs.length * E.sz → 0 ≤ k → k ≤ 1000000000000000 →
      ACalls P 0 f [.slice (some ⟨r, 0, sp⟩) xs.length ver, .int .i64 k] H fun d H' => d = .int .i64 (k + (xs.length * E.sz : Nat)) ∧ H' = H.set r ⟨el, sz, mk k (xs.length * E.sz), ver, true⟩)
    (hg : ∀ k, 0 ≤ k → k ≤ 1000000000000000 → PCalls P g [isl xs.length (mk k (xs.length * E.sz)), .int .i64 k] (.int .i64 (k + (xs.length * E.sz : Nat)))) : MCalls P f g (islE E xs) (xs.length * E.sz) := by
  intro H d S k ho hnd hk hk2
  have hg' := hg k hk (by omega)
  rcases ho.slI with ⟨rfl, rfl, rfl⟩ | ⟨r, sp, blk, rfl, hr, rfl, rfl, hx⟩ | ⟨r, sp, blk, S1, rfl, hr, hown, hl, hx, rfl, hc⟩
  · refine ACalls.ofP (h0 k) ho.bork rfl ⟨by simp, Nat.le_refl _, fun _ _ _ => rfl, islE E [], .nils .nil, ?_⟩
    have e : mk k (([] : List α).length * E.sz) = [] := List.eq_nil_of_length_eq_zero (by rw [hmk]; simp)
    rw [e] at hg'
    exact hg'
  · refine ACalls.ofP (h0 k) ho.bork rfl ⟨by simp, Nat.le_refl _, fun _ _ _ => rfl, islE E [], ho, ?_⟩
    have e : mk k (([] : List α).length * E.sz) = [] := List.eq_nil_of_length_eq_zero (by rw [hmk]; simp)
    rw [e] at hg'
    exact hg'
  · obtain ⟨rfl, hcs⟩ := hc.flatA hfE
    have hxl := hx rfl
    obtain ⟨el, sz, cs, ver, o⟩ := blk
    dsimp only at hown hl hxl hr hcs ⊢
    subst hown
    rw [E.flat_length] at hxl
    refine (hb H r ver el sz cs sp k hr hxl hk (by omega)).mono ?_
    rintro e H' ⟨rfl, rfl⟩
    refine ⟨rfl, by simp, fun q hq hqs => List.getElem?_set_ne (by simp at hqs; omega), isl xs.length (mk k (xs.length * E.sz)), ?_, hg'⟩
    have := OwnL.slice (x := true) (H := H.set r ⟨el, sz, mk k (xs.length * E.sz), ver, true⟩) (r := r) (sp := sp) (len := xs.length) (blk := ⟨el, sz, mk k (xs.length * E.sz), ver, true⟩) (cs := mk k (xs.length * E.sz)) (S := []) (T := []) (l := []) (l' := [])
      (List.getElem?_set_self (lt_of_some hr)) rfl (Nat.le_refl _) (fun _ => rfl) (fun h0 => List.eq_nil_of_length_eq_zero (by rw [hmk, h0]; simp)) (by rw [List.take_length]; exact .ofFlat (hfl k _)) .nil
    exact this

/-! ### what a walk keeps in hand: values of its own, boxes -/
structure Cx (H : AH) (os : List (Value × Value × List Nat)) (bs : List (Nat × Blk)) : Prop where
  own : ∀ o ∈ os, OwnL true H [o.1] [o.2.1] o.2.2
  nd : (os.flatMap (fun o => o.2.2) ++ bs.map (fun b => b.1)).Nodup
  box : ∀ b ∈ bs, H[b.1]? = some b.2
theorem Cx.ltO {os : List (Value × Value × List Nat)} {bs : List (Nat × Blk)} (h : Cx H os bs) : ∀ r ∈ os.flatMap (fun o => o.2.2) ++ bs.map (fun b => b.1), r < H.length := fun r hr => by
  rcases List.mem_append.1 hr with hr | hr
  · obtain ⟨o, ho, hr⟩ := List.mem_flatMap.1 hr
    exact (h.own o ho).lt r hr
  · obtain ⟨b, hb, rfl⟩ := List.mem_map.1 hr
    exact lt_of_some (h.box b hb)
theorem Cx.grow {os : List (Value × Value × List Nat)} {bs : List (Nat × Blk)} (h : Cx H os bs) (hold : ∀ r, r < H.length → H'[r]? = H[r]?) : Cx H' os bs :=
  ⟨fun o ho => (h.own o ho).frame fun r hr => hold r ((h.own o ho).lt r hr), h.nd, fun b hb => (hold _ (lt_of_some (h.box b hb))).trans (h.box b hb)⟩
theorem Cx.new {os : List (Value × Value × List Nat)} {bs : List (Nat × Blk)} (h : Cx H os bs) (hN : New H H' d v S) : Cx H' (os ++ [(d, v, S)]) bs := by
  have g := h.grow hN.old
  refine ⟨fun o ho => ?_, ?_, g.box⟩
  · rcases List.mem_append.1 ho with ho | ho
    · exact g.own o ho
    · rw [List.mem_singleton] at ho
      subst ho
      exact hN.own
  · obtain ⟨h1, h2, h3⟩ := List.nodup_append.1 h.nd
    have hl := h.ltO
    rw [List.flatMap_append, List.flatMap_singleton]
    refine List.nodup_append.2 ⟨List.nodup_append.2 ⟨h1, hN.nd, fun a ha b hb e => ?_⟩, h2, fun a ha b hb e => ?_⟩
    · have := hN.lo b hb
      have := hl a (List.mem_append_left _ ha)
      omega
    · rcases List.mem_append.1 ha with ha | ha
      · exact h3 a ha b hb e
      · have := hN.lo a ha
        have := hl b (List.mem_append_right _ hb)
        omega
theorem Cx.push {os : List (Value × Value × List Nat)} {bs : List (Nat × Blk)} (h : Cx H os bs) (b : Blk) : Cx (H ++ [b]) os ((H.length, b) :: bs) := by
  have g := h.grow (H' := H ++ [b]) fun r hr => List.getElem?_append_left hr
  refine ⟨g.own, ?_, fun c hc => ?_⟩
  · rw [List.map_cons]
    obtain ⟨h1, h2, h3⟩ := List.nodup_append.1 h.nd
    have hl : ∀ r ∈ os.flatMap (fun o => o.2.2) ++ bs.map (fun b => b.1), r < H.length := h.ltO
    refine List.nodup_append.2 ⟨h1, List.nodup_cons.2 ⟨fun hm => ?_, h2⟩, fun a ha c hc e => ?_⟩
    · exact Nat.lt_irrefl _ (hl _ (List.mem_append_right _ hm))
    · rcases List.mem_cons.1 hc with rfl | hc
      · have := hl _ (List.mem_append_left _ ha)
        dsimp only at e
        omega
      · exact h3 a ha c hc e
  · rcases List.mem_cons.1 hc with rfl | hc
    · simp
    · exact g.box c hc
theorem Cx.mark {os : List (Value × Value × List Nat)} {bs : List (Nat × Blk)} {g : FuncId} {k : Int} {n : Nat} (h : Cx H os bs) (i : Nat) (hi : os[i]? = some (d, v, S)) (hM : Mkd P g H H' d S k n) :
    ∃ y, PCalls P g [y, .int .i64 k] (.int .i64 (k + (n : Nat))) ∧ Cx H' (os.set i (d, y, S)) bs := by
  obtain ⟨y, hy, hg⟩ := hM.own
  obtain ⟨hlt, hget⟩ := List.getElem?_eq_some_iff.1 hi
  have hsp : os = os.take i ++ (d, v, S) :: os.drop (i + 1) := by rw [← hget]; simp
  have hse : os.set i (d, y, S) = os.take i ++ (d, y, S) :: os.drop (i + 1) := by rw [List.set_eq_take_append_cons_drop, if_pos hlt]
  have hfl : (os.set i (d, y, S)).flatMap (fun o => o.2.2) = os.flatMap (fun o => o.2.2) := by
    rw [hse]; conv => rhs; rw [hsp]
    simp
  have hnd := h.nd
  rw [hsp] at hnd
  simp only [List.flatMap_append, List.flatMap_cons, List.append_assoc] at hnd
  have hdis : ∀ o ∈ os.take i ++ os.drop (i + 1), ∀ r ∈ o.2.2, r ∉ S := fun o ho r hr hrS => by
    rw [List.nodup_append] at hnd
    obtain ⟨_, h2, h3⟩ := hnd
    rcases List.mem_append.1 ho with ho | ho
    · exact h3 r (List.mem_flatMap.2 ⟨o, ho, hr⟩) r (by simp [hrS]) rfl
    · rw [List.nodup_append] at h2
      exact h2.2.2 r hrS r (List.mem_append_left _ (List.mem_flatMap.2 ⟨o, ho, hr⟩)) rfl
  have hdisb : ∀ b ∈ bs, b.1 ∉ S := fun b hb hrS => by
    rw [List.nodup_append] at hnd
    obtain ⟨_, h2, _⟩ := hnd
    rw [List.nodup_append] at h2
    exact h2.2.2 b.1 hrS b.1 (List.mem_append_right _ (List.mem_map.2 ⟨b, hb, rfl⟩)) rfl
  have hold : ∀ o ∈ os, OwnL true H [o.1] [o.2.1] o.2.2 := h.own
  refine ⟨y, hg, ⟨fun o ho => ?_, ?_, fun b hb => (hM.old _ (lt_of_some (h.box b hb)) (hdisb b hb)).trans (h.box b hb)⟩⟩
  · rw [hse] at ho
    have : o = (d, y, S) ∨ o ∈ os.take i ++ os.drop (i + 1) := by
      rcases List.mem_append.1 ho with ho | ho
      · exact .inr (List.mem_append_left _ ho)
      · rcases List.mem_cons.1 ho with rfl | ho
        · exact .inl rfl
        · exact .inr (List.mem_append_right _ ho)
    rcases this with rfl | hm
    · exact hy
    · have ho' : o ∈ os := by
        rcases List.mem_append.1 hm with h | h
        · exact List.mem_of_mem_take h
        · exact List.mem_of_mem_drop h
      exact (hold o ho').frame fun r hr => hM.old r ((hold o ho').lt r hr) (hdis o hm r hr)
  · rw [hfl]; exact h.nd
theorem Cx.get {os : List (Value × Value × List Nat)} {bs : List (Nat × Blk)} (h : Cx H os bs) (i : Nat) (hi : os[i]? = some (d, v, S)) : OwnL true H [d] [v] S := h.own _ (List.mem_of_getElem? hi)
theorem Cx.getNd {os : List (Value × Value × List Nat)} {bs : List (Nat × Blk)} (h : Cx H os bs) (i : Nat) (hi : os[i]? = some (d, v, S)) : S.Nodup := by
  have hnd := (List.nodup_append.1 h.nd).1
  obtain ⟨hlt, hget⟩ := List.getElem?_eq_some_iff.1 hi
  have hsp : os = os.take i ++ (d, v, S) :: os.drop (i + 1) := by rw [← hget]; simp
  rw [hsp, List.flatMap_append, List.flatMap_cons] at hnd
  exact (List.nodup_append.1 (List.nodup_append.1 hnd).2.1).1
theorem New.more (h : New H H' d v S) : ∃ M, H' = H ++ M := pre_append rfl h.old h.len
theorem OwnL.app (h : OwnL x H l l' S) (M : AH) : OwnL x (H ++ M) l l' S := h.frame fun r hr => List.getElem?_append_left (h.lt r hr)
/-- Boxes ahead, and behind them what is owned. -/
def CxP (n : Nat) (M : AH) (os : List (Value × Value × List Nat)) : Prop := ∀ p : AH, p.length = n → Cx (p ++ M) os []
theorem CxP.nil (n : Nat) : CxP n [] [] := fun p _ => ⟨by simp, by simp, by simp⟩
theorem CxP.new {n : Nat} {M : AH} {os : List (Value × Value × List Nat)} (h : CxP n M os) (p : AH) (hp : p.length = n) (hN : New (p ++ M) H' d v S) : ∃ N, H' = p ++ (M ++ N) ∧ CxP n (M ++ N) (os ++ [(d, v, S)]) := by
  obtain ⟨N, rfl⟩ := hN.more
  have hc := (h p hp).new hN
  have hS : ∀ r ∈ S, n ≤ r := fun r hr => by have := hN.lo r hr; simp at this; omega
  refine ⟨N, by simp, fun q hq => ?_⟩
  have hq2 := h q hq
  have hfr : ∀ r, n ≤ r → (q ++ (M ++ N))[r]? = (p ++ M ++ N)[r]? := fun r hr => by
    rw [List.append_assoc p M N, List.getElem?_append_right (show q.length ≤ r by omega), List.getElem?_append_right (show p.length ≤ r by omega), hp, hq]
  refine ⟨fun o ho => ?_, hc.nd, by simp⟩
  rcases List.mem_append.1 ho with ho | ho
  · have := (hq2.own o ho).app N
    rwa [List.append_assoc] at this
  · rw [List.mem_singleton] at ho
    subst ho
    exact hN.own.frame fun r hr => hfr r (hS r hr)
theorem ACalls.absb {B : Nat} {f : FuncId} {args : List Value} {k : Value → AH → Prop} {os : List (Value × Value × List Nat)} {bs : List (Nat × Blk)} {b : Blk} (hc : Cx H os bs) (h : ∀ H', Cx H' os ((H.length, b) :: bs) → ACalls P B f args H' k) : ACalls P B f args (H ++ [b]) k := h _ (hc.push b)
def idxL : Nat → AH → List (Nat × Blk)
  | _, [] => []
  | n, b :: l => (n, b) :: idxL (n + 1) l
theorem idxL_mem : ∀ (L : AH) (n : Nat) (c : Nat × Blk), c ∈ idxL n L → n ≤ c.1 ∧ L[c.1 - n]? = some c.2
  | [], n, c, h => by simp [idxL] at h
  | b :: l, n, c, h => by
    rcases List.mem_cons.1 h with rfl | h
    · simp
    · obtain ⟨h1, h2⟩ := idxL_mem l (n + 1) c h
      refine ⟨by omega, ?_⟩
      rw [show c.1 - n = (c.1 - (n + 1)) + 1 by omega, List.getElem?_cons_succ]
      exact h2
theorem idxL_nd : ∀ (L : AH) (n : Nat), ((idxL n L).map fun b => b.1).Nodup
  | [], n => by simp [idxL]
  | b :: l, n => by
    simp only [idxL, List.map_cons]
    refine List.nodup_cons.2 ⟨fun hm => ?_, idxL_nd l (n + 1)⟩
    obtain ⟨c, hc, e⟩ := List.mem_map.1 hm
    have := (idxL_mem l (n + 1) c hc).1
    omega
theorem Cx.lit (L : AH) : Cx L [] (idxL 0 L) := ⟨by simp, by simpa using idxL_nd L 0, fun b hb => by have := (idxL_mem L 0 b hb).2; simpa using this⟩
theorem ACalls.absL {B : Nat} {f : FuncId} {args : List Value} {k : Value → AH → Prop} {L : AH} (h : ∀ H', Cx H' [] (idxL 0 L) → ACalls P B f args H' k) : ACalls P B f args L k := h _ (Cx.lit L)
theorem CxP.out {n : Nat} {M : AH} {os : List (Value × Value × List Nat)} (h : CxP n M os) (p : AH) (hp : p.length = n) (hQ : ∀ H, Cx H os [] → ∃ S : List Nat, S.Nodup ∧ OwnL false H [d] [v] S) : ∃ S : List Nat, S.Nodup ∧ OwnL false (p ++ M) [d] [v] S := hQ _ (h p hp)
theorem szI_le {n : Nat} {k : Int} (h : 0 ≤ k) : szI n k ≤ k := by unfold szI; split <;> omega
theorem szI_nn {n : Nat} {k : Int} (h : ¬ szI n k < 0) : 0 ≤ szI n k := by omega
theorem flatE_of (h : ∀ y, ∀ c ∈ cellsV (E.val y), flatV c = true) (ys : List α) : ∀ c ∈ E.flat ys, flatV c = true := fun c hc => by
  obtain ⟨y, _, hy⟩ := List.mem_flatMap.1 hc
  exact h y c hy
theorem marksC_flat (k : Int) (n : Nat) : ∀ c ∈ marksC k n, flatV c = true := fun c hc => by
  obtain ⟨j, _, rfl⟩ := List.mem_map.1 hc
  rfl
theorem marksS_flat (f : Int → ByteArray) (k : Int) (n : Nat) : ∀ c ∈ marksS f k n, flatV c = true := fun c hc => by
  obtain ⟨j, _, rfl⟩ := List.mem_map.1 hc
  rfl
theorem strE_flat (ys : List ByteArray) : ∀ c ∈ strE.flat ys, flatV c = true := flatE_of (fun y c hc => by simp [strE, cellsV] at hc; subst hc; rfl) ys
theorem Cx.bx {os : List (Value × Value × List Nat)} {bs : List (Nat × Blk)} {r : Nat} {b : Blk} (h : Cx H os bs) (i : Nat) (hi : bs[i]? = some (r, b)) : H[r]? = some b := h.box _ (List.mem_of_getElem? hi)
end
end Go.BM

/- Lists that a loop makes: nil or a block, behind boxes. -/
set_option linter.unusedVariables false
set_option linter.unusedSimpArgs false
namespace Go.BM
open Go.RowKit
section
variable {P : Program} {B : Nat} {α : Type} {E : Enc α}
/-- A slice that is nil, or the whole of a block behind n boxes. -/
def SlM (n : Nat) (el : TypeId) (E : Enc α) (M : AH) (a : Option Addr) (len ver : Nat) (ys : List α) : Prop :=
  (a = none ∧ len = 0 ∧ ver = 0 ∧ ys = []) ∨ ∃ r, a = some ⟨n + r, 0, none⟩ ∧ len = ys.length ∧ M[r]? = some (sb el E ys ver true)
theorem SlM.nil (n : Nat) (el : TypeId) (E : Enc α) (M : AH) : SlM n el E M none 0 0 [] := .inl ⟨rfl, rfl, rfl, rfl⟩
theorem SlM.blk {n el : Nat} {M : AH} {r q len ver : Nat} {ys : List α} (h : M[r]? = some (sb el E ys ver true)) (hq : q = n + r) (hl : len = ys.length) : SlM n el E M (some ⟨q, 0, none⟩) len ver ys := .inr ⟨r, by rw [hq], hl, h⟩
theorem SlM.app {n el by_ : Nat} {M : AH} {a : Option Addr} {len ver t tx : Nat} {ys : List α} {z : TypeId × Nat × Nat} (h : SlM n el E M a len ver ys) (p : AH) (hp : p.length = n) (q : Nat) (hq : q = n + M.length) (hz : elZ P t = some (el, E.sz, by_)) (hzx : elZ P tx = some z) (hok : zOk P el E.sz = true) (hB : B ≤ n)
    (y : α) (h1 : (ys.length + 1) * by_ ≤ 140737488355328) (h2 : ys.length + 1 ≤ 140737488355328) :
    ∃ a' len' ver' M', appendH P B (p ++ (M ++ [⟨el, E.sz, cellsV (E.val y), 0, true⟩])) t tx (.slice a len ver) (.slice (some ⟨q, 0, none⟩) 1 0) = some (.slice a' len' ver', p ++ M') ∧ SlM n el E M' a' len' ver' (ys ++ [y]) ∧ M.length ≤ M'.length ∧
      ∀ i, i < M.length → a ≠ some ⟨n + i, 0, none⟩ → M'[i]? = M[i]? := by
  subst hq
  have hat : (p ++ (M ++ [⟨el, E.sz, cellsV (E.val y), 0, true⟩]))[n + M.length]? = some ⟨el, E.sz, cellsV (E.val y), 0, true⟩ := by
    rw [List.getElem?_append_right (by omega), List.getElem?_append_right (by omega)]
    simp [hp]
  have hsrc : srcV P (p ++ (M ++ [(⟨el, E.sz, cellsV (E.val y), 0, true⟩ : Blk)])) el E.sz tx (.slice (some ⟨n + M.length, 0, none⟩) 1 0) = some ([y].length, E.flat [y]) :=
    srcV_own hzx hat rfl rfl (by simp only [E.flat_one, List.drop_zero, List.length_cons, List.length_nil, Nat.zero_add, Nat.one_mul]; exact List.take_of_length_le (by rw [E.hsz]; exact Nat.le_refl _)) (by simp [E.hsz])
  rcases h with ⟨rfl, rfl, rfl, rfl⟩ | ⟨r, rfl, rfl, hr⟩
  · refine ⟨some ⟨n + (M.length + 1), 0, none⟩, 1, 0, M ++ [⟨el, E.sz, cellsV (E.val y), 0, true⟩] ++ [sb el E [y] 0 true], ?_, ?_, by simp, fun i hi _ => ?_⟩
    · rw [appendH_nil hz hok hsrc (by simp) (by simpa using h1) (by simp)]
      simp only [List.append_assoc, List.length_append, List.length_cons, List.length_nil, hp, Nat.zero_add]
    · refine .inr ⟨M.length + 1, rfl, rfl, ?_⟩
      · rw [List.getElem?_append_right (by simp)]
        simp
    · rw [List.append_assoc, List.getElem?_append_left hi]
  · have hrl : r < M.length := lt_of_some hr
    have hg : (p ++ (M ++ [⟨el, E.sz, cellsV (E.val y), 0, true⟩]))[n + r]? = some (sb el E ys ver true) := by
      rw [List.getElem?_append_right (by omega), show n + r - p.length = r by omega, List.getElem?_append_left hrl]
      exact hr
    refine ⟨some ⟨n + r, 0, none⟩, (ys ++ [y]).length, ver + 1, (M ++ [(⟨el, E.sz, cellsV (E.val y), 0, true⟩ : Blk)]).set r (sb el E (ys ++ [y]) (ver + 1) true), ?_, ?_, by simp, fun i hi hne => ?_⟩
    · rw [appendH_sb hz hok hg (by omega) hsrc h1 h2]
      rw [List.set_append_right _ _ (by omega), show n + r - p.length = r by omega]
      rfl
    · exact .inr ⟨r, rfl, rfl, List.getElem?_set_self (by simp; omega)⟩
    · have : r ≠ i := fun e => hne (by rw [e])
      rw [List.getElem?_set_ne this, List.getElem?_append_left hi]
theorem SlM.bor {n el : Nat} {M : AH} {a : Option Addr} {len ver : Nat} {ys : List α} (h : SlM n el E M a len ver ys) (p : AH) (hp : p.length = n) : Bor (p ++ M) (.slice a len ver) (islE E ys) := by
  rcases h with ⟨rfl, rfl, rfl, rfl⟩ | ⟨r, rfl, rfl, hr⟩
  · exact Bor.nil
  · refine Bor.sb (el := el) (o := true) ?_ (fun _ => rfl) rfl
    rw [List.getElem?_append_right (by omega), show n + r - p.length = r by omega]
    exact hr
theorem Bor.sbE {H : AH} {r el ver n : Nat} {o : Bool} {sp : Option Nat} {ys : List α} (hb : H[r]? = some ⟨el, E.sz, E.flat ys, ver, o⟩) (ho : ys.length ≠ 0 → o = true) (hn : n = ys.length) : Bor H (.slice (some ⟨r, 0, sp⟩) n ver) (islE E ys) := Bor.sb (el := el) (o := o) hb ho hn
theorem SlM.grow {n el : Nat} {M : AH} {a : Option Addr} {len ver : Nat} {ys : List α} (h : SlM n el E M a len ver ys) (N : AH) : SlM n el E (M ++ N) a len ver ys := by
  rcases h with h | ⟨r, h1, h2, h3⟩
  · exact .inl h
  · exact .inr ⟨r, h1, h2, by rw [List.getElem?_append_left (lt_of_some h3)]; exact h3⟩
end
end Go.BM
/- Loops as functions of lists: the first code that is not 0. -/
set_option linter.unusedVariables false
namespace Go.BM
/-- The first code that is not 0, each thing judged with those ahead of it; K, if there is none. -/
def scanK {α : Type} (f : List α → α → Int) (K : Int) : List α → List α → Int
  | _, [] => K
  | pre, x :: l => if f pre x == 0 then scanK f K (pre ++ [x]) l else f pre x
theorem scanK_step {α : Type} (f : List α → α → Int) (K : Int) (xs : List α) (k : Nat) (hk : k < xs.length) : scanK f K (xs.take k) (xs.drop k) = if f (xs.take k) xs[k] == 0 then scanK f K (xs.take (k + 1)) (xs.drop (k + 1)) else f (xs.take k) xs[k] := by
  rw [List.drop_eq_getElem_cons hk, ← take_next xs k hk]
  rfl
theorem scanK_end {α : Type} (f : List α → α → Int) (K : Int) (xs : List α) (k : Nat) (hk : ¬ k < xs.length) : scanK f K (xs.take k) (xs.drop k) = K := by
  rw [List.drop_eq_nil_of_le (by omega)]
  rfl
theorem any_hit {α : Type} (p : α → Bool) (xs : List α) (k : Nat) (hk : k < xs.length) (h : p xs[k] = true) : xs.any p = true := List.any_eq_true.2 ⟨_, List.getElem_mem hk, h⟩
theorem any_none {α : Type} (p : α → Bool) (xs : List α) (h : ∀ j (hj : j < xs.length), p xs[j] = false) : xs.any p = false := List.any_eq_false.2 fun x hx => by
  obtain ⟨j, hj, rfl⟩ := List.getElem_of_mem hx
  rw [h j hj]
  exact Bool.false_ne_true
theorem any_findI {α : Type} (p : α → Bool) (xs : List α) : decide (0 < findI p xs + 1) = xs.any p := by
  rw [← findI_any]
  congr 1
  apply propext
  omega
theorem map_step {α β : Type} (g : α → β) (xs : List α) (k : Nat) (hk : k < xs.length) : (xs.take (k + 1)).map g = (xs.take k).map g ++ [g xs[k]] := by
  rw [← take_next xs k hk, List.map_append]
  rfl
end Go.BM
/- Numbers in decimal digits. -/
set_option linter.unusedVariables false
namespace Go.BM
/-- The digits of a number, none for 0. -/
def dgt (n : Nat) : List UInt8 := if n = 0 then [] else dgt (n / 10) ++ [UInt8.ofNat (48 + n % 10)]
termination_by n
decreasing_by omega
theorem dgt_zero : dgt 0 = [] := by unfold dgt; rfl
theorem dgt_pos {n : Nat} (h : 0 < n) : dgt n = dgt (n / 10) ++ [UInt8.ofNat (48 + n % 10)] := by rw [dgt, if_neg (by omega)]
/-- The text of a mark. -/
def mt (k : Int) : ByteArray := if k ≤ 0 then bs [109, 48] else bs ([109] ++ dgt k.toNat)
theorem digit_u8 (n : Nat) : IntKind.u8.wrap (IntKind.i64.wrap (48 + ((n : Int)).tmod 10)) = ((48 + n % 10 : Nat) : Int) := by
  have h : ((n : Int)).tmod 10 = ((n % 10 : Nat) : Int) := by
    rw [Int.tmod_eq_emod_of_nonneg (by omega)]
    omega
  rw [h, wr (by omega) (by omega)]
  have h2 : n % 10 < 10 := Nat.mod_lt _ (by omega)
  generalize n % 10 = d at h2
  have : d = 0 ∨ d = 1 ∨ d = 2 ∨ d = 3 ∨ d = 4 ∨ d = 5 ∨ d = 6 ∨ d = 7 ∨ d = 8 ∨ d = 9 := by omega
  rcases this with rfl | rfl | rfl | rfl | rfl | rfl | rfl | rfl | rfl | rfl <;> decide
theorem quo10 {n : Nat} (h : n ≤ 9223372036854775807) : IntKind.i64.wrap (((n : Int)).tdiv 10) = ((n / 10 : Nat) : Int) := by
  have e : ((n : Int)).tdiv 10 = ((n / 10 : Nat) : Int) := by
    rw [Int.tdiv_eq_ediv_of_nonneg (by omega)]
    omega
  rw [e, wr (by omega) (by omega)]
end Go.BM
/- Marks that nobody reads again. -/
set_option linter.unusedVariables false
set_option linter.unusedSimpArgs false
namespace Go.BM
open Go.RowKit
section
variable {P : Program} {x : Bool} {H H' : AH} {l l' : List Value} {S T : List Nat} {d v y : Value} {α : Type} {E : Enc α}

structure Mkd0 (H H' : AH) (d : Value) (S : List Nat) : Prop where
  len : H.length ≤ H'.length
  old : ∀ r, r < H.length → r ∉ S → H'[r]? = H[r]?
  own : ∃ y, OwnL true H' [d] [y] S
def MCalls0 (P : Program) (f : FuncId) (v : Value) (n : Nat) : Prop := ∀ (H : AH) (d : Value) (S : List Nat) (k : Int), OwnL true H [d] [v] S → S.Nodup → 0 ≤ k → k + (n : Nat) ≤ 1000000000000000 →
  ACalls P 0 f [d, .int .i64 k] H fun e H' => e = .int .i64 (k + (n : Nat)) ∧ Mkd0 H H' d S
theorem MCalls0.ofSl {xs : List α} {f : FuncId} {mk : Int → Nat → List Value} (hmk : ∀ k n, (mk k n).length = n) (hfl : ∀ k n c, c ∈ mk k n → flatV c = true) (hfE : ∀ c ∈ E.flat xs, flatV c = true)
    (h0 : ∀ k, PCalls P f [islE E [], .int .i64 k] (.int .i64 k))
    (hb : ∀ (H : AH) (r ver el sz : Nat) (cs : List Value) (sp : Option Nat) (k : Int), H[r]? = some ⟨el, sz, cs, ver, true⟩ → cs.length = xs.length * E.sz → 0 ≤ k → k ≤ 1000000000000000 →
      ACalls P 0 f [.slice (some ⟨r, 0, sp⟩) xs.length ver, .int .i64 k] H fun d H' => d = .int .i64 (k + (xs.length * E.sz : Nat)) ∧ H' = H.set r ⟨el, sz, mk k (xs.length * E.sz), ver, true⟩) : MCalls0 P f (islE E xs) (xs.length * E.sz) := by
  intro H d S k ho hnd hk hk2
  rcases ho.slI with ⟨rfl, rfl, rfl⟩ | ⟨r, sp, blk, rfl, hr, rfl, rfl, hx⟩ | ⟨r, sp, blk, S1, rfl, hr, hown, hl, hx, rfl, hc⟩
  · refine ACalls.ofP (h0 k) ho.bork rfl ⟨by simp, Nat.le_refl _, fun _ _ _ => rfl, islE E [], .nils .nil⟩
  · refine ACalls.ofP (h0 k) ho.bork rfl ⟨by simp, Nat.le_refl _, fun _ _ _ => rfl, islE E [], ho⟩
  · obtain ⟨rfl, hcs⟩ := hc.flatA hfE
    have hxl := hx rfl
    obtain ⟨el, sz, cs, ver, o⟩ := blk
    dsimp only at hown hl hxl hr hcs ⊢
    subst hown
    rw [E.flat_length] at hxl
    refine (hb H r ver el sz cs sp k hr hxl hk (by omega)).mono ?_
    rintro e H' ⟨rfl, rfl⟩
    refine ⟨rfl, by simp, fun q hq hqs => List.getElem?_set_ne (by simp at hqs; omega), isl xs.length (mk k (xs.length * E.sz)), ?_⟩
    have := OwnL.slice (x := true) (H := H.set r ⟨el, sz, mk k (xs.length * E.sz), ver, true⟩) (r := r) (sp := sp) (len := xs.length) (blk := ⟨el, sz, mk k (xs.length * E.sz), ver, true⟩) (cs := mk k (xs.length * E.sz)) (S := []) (T := []) (l := []) (l' := [])
      (List.getElem?_set_self (lt_of_some hr)) rfl (Nat.le_refl _) (fun _ => rfl) (fun h0 => List.eq_nil_of_length_eq_zero (by rw [hmk, h0]; simp)) (by rw [List.take_length]; exact .ofFlat (hfl k _)) .nil
    exact this

theorem Cx.mark0 {os : List (Value × Value × List Nat)} {bs : List (Nat × Blk)} (h : Cx H os bs) (i : Nat) (hi : os[i]? = some (d, v, S)) (hM : Mkd0 H H' d S) :
    ∃ y, Cx H' (os.set i (d, y, S)) bs := by
  obtain ⟨y, hy⟩ := hM.own
  obtain ⟨hlt, hget⟩ := List.getElem?_eq_some_iff.1 hi
  have hsp : os = os.take i ++ (d, v, S) :: os.drop (i + 1) := by rw [← hget]; simp
  have hse : os.set i (d, y, S) = os.take i ++ (d, y, S) :: os.drop (i + 1) := by rw [List.set_eq_take_append_cons_drop, if_pos hlt]
  have hfl : (os.set i (d, y, S)).flatMap (fun o => o.2.2) = os.flatMap (fun o => o.2.2) := by
    rw [hse]; conv => rhs; rw [hsp]
    simp
  have hnd := h.nd
  rw [hsp] at hnd
  simp only [List.flatMap_append, List.flatMap_cons, List.append_assoc] at hnd
  have hdis : ∀ o ∈ os.take i ++ os.drop (i + 1), ∀ r ∈ o.2.2, r ∉ S := fun o ho r hr hrS => by
    rw [List.nodup_append] at hnd
    obtain ⟨_, h2, h3⟩ := hnd
    rcases List.mem_append.1 ho with ho | ho
    · exact h3 r (List.mem_flatMap.2 ⟨o, ho, hr⟩) r (by simp [hrS]) rfl
    · rw [List.nodup_append] at h2
      exact h2.2.2 r hrS r (List.mem_append_left _ (List.mem_flatMap.2 ⟨o, ho, hr⟩)) rfl
  have hdisb : ∀ b ∈ bs, b.1 ∉ S := fun b hb hrS => by
    rw [List.nodup_append] at hnd
    obtain ⟨_, h2, _⟩ := hnd
    rw [List.nodup_append] at h2
    exact h2.2.2 b.1 hrS b.1 (List.mem_append_right _ (List.mem_map.2 ⟨b, hb, rfl⟩)) rfl
  have hold : ∀ o ∈ os, OwnL true H [o.1] [o.2.1] o.2.2 := h.own
  refine ⟨y, ⟨fun o ho => ?_, ?_, fun b hb => (hM.old _ (lt_of_some (h.box b hb)) (hdisb b hb)).trans (h.box b hb)⟩⟩
  · rw [hse] at ho
    have : o = (d, y, S) ∨ o ∈ os.take i ++ os.drop (i + 1) := by
      rcases List.mem_append.1 ho with ho | ho
      · exact .inr (List.mem_append_left _ ho)
      · rcases List.mem_cons.1 ho with rfl | ho
        · exact .inl rfl
        · exact .inr (List.mem_append_right _ ho)
    rcases this with rfl | hm
    · exact hy
    · have ho' : o ∈ os := by
        rcases List.mem_append.1 hm with h | h
        · exact List.mem_of_mem_take h
        · exact List.mem_of_mem_drop h
      exact (hold o ho').frame fun r hr => hM.old r ((hold o ho').lt r hr) (hdis o hm r hr)
  · rw [hfl]; exact h.nd
end
end Go.BM
/- The engine: texts C29. -/
/- A source of draws: one block ahead that is written; what is drawn is new, or a value. -/
set_option linter.unusedVariables false
set_option linter.unusedSimpArgs false
namespace Go.BM
open Go.RowKit

section
variable {P : Program} {B : Nat} {σ σ' : Sg} {H N : AH} {w w' : World} {r : Nat} {T : TypeId} {code : List UInt8} {a a' : Int}

/-- A call by values, of which some value comes: at any heap. -/
theorem ACalls.ofE {f : FuncId} {args : List Value} {R : Value → Prop} (h : ACalls P 0 f args [] fun d N => ∃ v, R v ∧ Im v ∧ Bor N d v) (hi : ∀ d ∈ args, Im d) : ACalls P B f args H fun d H' => R d ∧ Im d ∧ H' = H :=
  ⟨h.1, fun σ w vals hS hB hvl => by
    have hS0 : Sim ⟨σ.loc, σ.im⟩ [] w := ⟨fun r blk h => by simp at h, hS.im, fun a u h r blk hb => by simp at hb, fun r r' blk blk' h => by simp at h, hS.glob⟩
    refine (h.2 ⟨σ.loc, σ.im⟩ w vals hS0 (Nat.le_refl _) (hvl.im hi fun _ _ h => h)).mono fun e w' ⟨x, he, σ', H', d, h1, h2, h3, v, hR, hIm, ho⟩ => ?_
    obtain ⟨F, S⟩ := keep_sim (B := B) hS (snap_fut h1) (snap_sim h2)
    exact ⟨x, he, _, H, v, F, S, (bor_vr h2 ho x h3).im hIm fun _ _ h => h, hR, hIm, rfl⟩⟩
end
end Go.BM
/- Cuts behind drawn regions: what is in hand, told anew. -/
set_option linter.unusedVariables false
set_option linter.unusedSimpArgs false
namespace Go.BM
open Go.RowKit
section
variable {P : Program} {n B : Nat} {c : Code} {Q : Exit → Env → AH → Prop} {e : Env} {H : AH} {f : FuncId} {args : List Value} {k : Value → AH → Prop} {os : List (Value × Value × List Nat)} {bs : List (Nat × Blk)} {b : Blk}
structure Shp (bs : List Blk) (F : (Nat → Nat) → Value) : Prop where
  fl : ∀ b ∈ bs, ∀ c ∈ b.cs, flatV c = true
  lif : ∀ N ρ k, Lif N ρ (fun i => i < bs.length) k (F ρ) (F fun i => k + i)
/-- One block: the value made of it. -/
theorem Shp.one {el sz ver : Nat} {o : Bool} {cs : List Value} {F : (Nat → Nat) → Value} (hf : ∀ c ∈ cs, flatV c = true) (hl : ∀ N ρ k, Lif N ρ (fun i => i < 1) k (F ρ) (F fun i => k + i)) : Shp [⟨el, sz, cs, ver, o⟩] F :=
  ⟨fun b hb c hc => by simp at hb; subst hb; exact hf c hc, hl⟩
theorem Shp.none {F : (Nat → Nat) → Value} (hl : ∀ N ρ k, Lif N ρ (fun i => i < 0) k (F ρ) (F fun i => k + i)) : Shp [] F := ⟨fun b hb => by simp at hb, hl⟩
theorem LifL.aggL {N : AH} {ρ : Nat → Nat} {q : Nat → Prop} {k : Nat} {xs m : List Value} (h : LifL N ρ q k xs m) : Lif N ρ q k (.agg xs.toArray) (.agg m.toArray) := LifL.agg (by simpa using h)
/-- One thing more, behind a list that is ours. -/
theorem appendH_one {α : Type} {E : Enc α} {H0 : AH} {t tx el by_ r ver : Nat} {z : TypeId × Nat × Nat} {ys : List α} (y : α) (hz : elZ P t = some (el, E.sz, by_)) (hzx : elZ P tx = some z) (hok : zOk P el E.sz = true) (hb : H0[r]? = some ⟨el, E.sz, E.flat ys, ver, true⟩) (hB : B ≤ r)
    (h1 : (ys.length + 1) * by_ ≤ 140737488355328) (h2 : ys.length + 1 ≤ 140737488355328) :
    appendH P B (H0 ++ [⟨el, E.sz, cellsV (E.val y), 0, true⟩]) t tx (.slice (some ⟨r, 0, none⟩) ys.length ver) (.slice (some ⟨H0.length, 0, none⟩) 1 0) = some (.slice (some ⟨r, 0, none⟩) (ys.length + 1) (ver + 1), H0.set r ⟨el, E.sz, E.flat (ys ++ [y]), ver + 1, true⟩ ++ [⟨el, E.sz, cellsV (E.val y), 0, true⟩]) := by
  have := appendH_sb (P := P) (B := B) (H := H0 ++ [⟨el, E.sz, cellsV (E.val y), 0, true⟩]) (E := E) (xs := ys) (ys := [y]) (r := r) (x := .slice (some ⟨H0.length, 0, none⟩) 1 0) (t := t) (tx := tx) (o := true) (ver := ver) hz hok (by rw [List.getElem?_append_left (lt_of_some hb)]; exact hb) hB
    (srcV_own hzx (by rw [List.getElem?_append_right (Nat.le_refl _), Nat.sub_self]; rfl) rfl rfl (by simp only [E.flat_one, List.drop_zero, List.length_cons, List.length_nil, Nat.zero_add, Nat.one_mul]; exact List.take_of_length_le (by rw [E.hsz]; exact Nat.le_refl _)) (by simp [E.hsz])) h1 h2
  rw [this, List.set_append_left _ _ (lt_of_some hb)]
  simp [sb]
end
end Go.BM
/- What comes in new memory, told as a value that nobody writes. -/
set_option linter.unusedVariables false
set_option linter.unusedSimpArgs false
namespace Go.BM
open Go.RowKit
section
variable {P : Program} {B : Nat} {σ σ' τ : Sg} {H N : AH} {w w' : World}

/-- Some value of which R holds. -/
def EOut (R : Value → Prop) (d : Value) (N : AH) : Prop := ∃ v, R v ∧ Im v ∧ Bor N d v
/-- THE CONTRACT of a call by values of which some value comes. -/
def ECalls (P : Program) (f : FuncId) (args : List Value) (R : Value → Prop) : Prop := ACalls P 0 f args [] fun d N => EOut R d N
theorem ECalls.use {f : FuncId} {args : List Value} {R : Value → Prop} (h : ECalls P f args R) (hi : ∀ d ∈ args, Im d) : ACalls P B f args H fun d H' => R d ∧ Im d ∧ H' = H := ACalls.ofE h hi
end
end Go.BM
/- Functions that hand back blocks of their own, each told. -/
set_option linter.unusedVariables false
set_option linter.unusedSimpArgs false
namespace Go.BM
open Go.RowKit
section
variable {P : Program} {B : Nat} {H N : AH}
def NFOut (R : List Blk → ((Nat → Nat) → Value) → Prop) (d : Value) (N : AH) : Prop :=
  ∃ bs F ρ, R bs F ∧ d = F ρ ∧ (∀ i, i < bs.length → N[ρ i]? = bs[i]?) ∧ (∀ i j, i < bs.length → j < bs.length → ρ i = ρ j → i = j)
theorem NFOut.none {R : List Blk → ((Nat → Nat) → Value) → Prop} {d : Value} {F : (Nat → Nat) → Value} (hR : R [] F) (hd : d = F fun _ => 0) : NFOut R d N :=
  ⟨[], F, _, hR, hd, fun i hi => by simp at hi, fun i j hi => by simp at hi⟩
theorem NFOut.one {R : List Blk → ((Nat → Nat) → Value) → Prop} {d : Value} {F : (Nat → Nat) → Value} {b : Blk} (q : Nat) (hq : N[q]? = some b) (hR : R [b] F) (hd : d = F fun _ => q) : NFOut R d N :=
  ⟨[b], F, _, hR, hd, fun i hi => by simp at hi; subst hi; exact hq, fun i j hi hj _ => by simp at hi hj; omega⟩
/-- THE CONTRACT of a call by values that hands back blocks of its own, each told. -/
def NFun (P : Program) (f : FuncId) (args : List Value) (R : List Blk → ((Nat → Nat) → Value) → Prop) : Prop := ACalls P 0 f args [] fun d N => NFOut R d N
theorem NFun.use {f : FuncId} {args args' : List Value} {R : List Blk → ((Nat → Nat) → Value) → Prop} (h : NFun P f args' R) (hsh : ∀ bs F, R bs F → Shp bs F) (hb : BorL H args args') :
    ACalls P H.length f args H fun d H' => ∃ bs F, R bs F ∧ d = F (fun i => H.length + i) ∧ H' = H ++ bs := by
  refine ACalls.lift h hb ?_
  rintro d N ⟨bs, F, ρ, hR, rfl, hbs, hinj⟩
  have sh := hsh bs F hR
  refine ⟨ρ, fun i => i < bs.length, bs, _, fun i j hi hj e => hinj i j hi hj e, sh.lif N ρ H.length, fun i b' hb' _ => lt_of_some hb', fun i hi => ?_, bs, F, hR, rfl, rfl⟩
  have hi' : i < bs.length := hi
  exact ⟨bs[i], bs[i], by rw [hbs i hi]; exact List.getElem?_eq_getElem hi', List.getElem?_eq_getElem hi', ⟨rfl, rfl, rfl, rfl, Nat.le_refl _, fun j v hj => ⟨v, hj, .flat v (sh.fl _ (List.getElem_mem hi') v (List.mem_of_getElem? hj))⟩⟩⟩
end
end Go.BM
/- The engine: texts C35, C36, C37. -/
/- A region that asks for its order and writes only what it made itself: what is read of the elder memory comes first. -/
set_option linter.unusedVariables false
set_option linter.unusedSimpArgs false
namespace Go.BM
open Go.RowKit
section
variable {P : Program} {ops : Array Oper} {Q : Exit → Act → World → Prop} {md : Region.Mode} {st : Nat → Bool} {I : World → Prop}
/-- As wpG; and behind each operation I stands. -/
def wpJ (P : Program) (md : Region.Mode) (ops : Array Oper) (Q : Exit → Act → World → Prop) (st : Nat → Bool) (I : World → Prop) : Nat → Array Bool → Act → World → Prop
  | 0, listed, a, w => Region.ready md ops listed = [] ∧ Q .normal a w
  | fuel + 1, listed, a, w =>
    (Region.ready md ops listed = [] → Q .normal a w) ∧
    ∀ i ∈ Region.ready md ops listed, wpOp P ops Q i (fun a' w' => (st i = true → Below w.heap.size w w') ∧ I w' ∧ wpJ P md ops Q st I fuel (listed.setIfInBounds i true) a' w') a w
theorem wpAny_of_J : ∀ (fuel : Nat) (listed : Array Bool) (a : Act) (w : World), wpJ P md ops Q st I fuel listed a w → wpAny P md ops Q fuel listed a w
  | 0, _, _, _, h => h
  | fuel + 1, _, _, _, h => ⟨h.1, fun i hi => wpOp_mono (fun a' w' h' => wpAny_of_J fuel _ a' w' h'.2.2) (h.2 i hi)⟩
theorem wpJ_first {i : Nat} {oi : Oper} {v : Value} (hi : ops[i]? = some oi) (hsel : ∀ (j : Nat) (o : Oper) cs b, ops[j]? = some o → o.op ≠ .select cs b)
    (hQ : ∀ c a w, Q (.panic c) (a.put oi.dst v) w → Q (.panic c) a w) (R : Array Bool) (hRi : R.getD i false = false)
    (hRc : ∀ (j : Nat) oj, ops[j]? = some oj → R.getD j false = false → j = i ∨ ∃ e ∈ oj.after, Region.binds md e = true ∧ R.getD e.on false = false) (wt : World) :
    ∀ (fuel : Nat) (listed : Array Bool) (a : Act) (w : World),
      (∀ k, listed.getD k false = true → R.getD k false = true) → (∀ k, R.getD k false = true → listed.getD k true = false → st k = true) →
      (∀ j oj, ops[j]? = some oj → j ≠ i → listed.getD j true = false → (∀ e ∈ oj.after, Region.binds md e = true → e.on ≠ i) → oi.apart ops oj = true) →
      i ∈ Region.ready md ops listed → YieldsIf P ops (fun w' => Below wt.heap.size wt w') oi v a → Below wt.heap.size wt w → I w →
      wpJ P md ops Q st I fuel (listed.setIfInBounds i true) (a.put oi.dst v) w → wpJ P md ops Q st I (fuel + 1) listed a w := by
  intro fuel
  induction fuel with
  | zero =>
    intro listed a w _ _ _ hr hy hS hI H
    refine ⟨fun h => (by rw [h] at hr; cases hr), fun j hj => ?_⟩
    by_cases hji : j = i
    · subst hji; exact hy.wpOp hi hS ⟨fun _ => Below.refl _ _, hI, H⟩
    · have := ready_mono hj hji
      rw [H.1] at this
      cases this
  | succ fuel ih =>
    intro listed a w hsub hst hfree hr hy hS hI H
    refine ⟨fun h => (by rw [h] at hr; cases hr), fun j hj => ?_⟩
    by_cases hji : j = i
    · subst hji; exact hy.wpOp hi hS ⟨fun _ => Below.refl _ _, hI, H⟩
    · have h1 := H.2 j (ready_mono hj hji)
      obtain ⟨hjun, oj, hoj, hall⟩ := mem_ready.1 hj
      have hnot : ∀ e ∈ oj.after, Region.binds md e = true → e.on ≠ i := fun e he hb heq => by
        have h1 := hall e he hb
        have h0 := (mem_ready.1 hr).1
        rw [heq] at h1
        rcases Nat.lt_or_ge i listed.size with h' | h'
        · simp [h'] at h0 h1; rw [h0] at h1; cases h1
        · simp [Array.getElem?_eq_none h'] at h1
      have hRj : R.getD j false = true := by
        cases hRj : R.getD j false with
        | true => rfl
        | false =>
          rcases hRc j oj hoj hRj with h | ⟨e, he, hb, hR⟩
          · exact absurd h hji
          · have := hsub _ (hall e he hb)
            rw [hR] at this
            cases this
      have hstj := hst j hRj hjun
      have h2 := wpOp_putIf hoj (hfree j oj hoj hji hjun hnot) (fun cs b => hsel i oi cs b hi) (fun cs b => hsel j oj cs b hoj) hQ hy h1
      have hfree' : ∀ k ok, ops[k]? = some ok → k ≠ i → (listed.setIfInBounds j true).getD k true = false →
          (∀ e ∈ ok.after, Region.binds md e = true → e.on ≠ i) → oi.apart ops ok = true := fun k ok hk hki hun hno => by
        refine hfree k ok hk hki ?_ hno
        by_cases hjk : j = k
        · subst hjk; exact hjun
        · rw [getD_set_ne true hjk] at hun; exact hun
      have hsub' : ∀ k, (listed.setIfInBounds j true).getD k false = true → R.getD k false = true := fun k hk => by
        by_cases hjk : j = k
        · subst hjk; exact hRj
        · rw [getD_set_ne false hjk] at hk; exact hsub k hk
      have hst' : ∀ k, R.getD k false = true → (listed.setIfInBounds j true).getD k true = false → st k = true := fun k hk hun => by
        refine hst k hk ?_
        by_cases hjk : j = k
        · subst hjk; exact hjun
        · rw [getD_set_ne true hjk] at hun; exact hun
      refine wpOp_mono (fun a' w' h3 => ?_) h2
      have hbj := h3.2.1 hstj
      have hS' : Below wt.heap.size wt w' := hS.trans (hbj.mono hS.size)
      refine ⟨fun _ => hbj, h3.2.2.1, ih (listed.setIfInBounds j true) a' w' hsub' hst' hfree' (ready_mono hr (Ne.symm hji)) h3.1 hS' h3.2.2.1 ?_⟩
      rw [Array.setIfInBounds_comm _ _ hji]
      exact h3.2.2.2

theorem wpJ_firstU {i : Nat} {oi : Oper} {v : Value} (hi : ops[i]? = some oi) (hsel : ∀ (j : Nat) (o : Oper) cs b, ops[j]? = some o → o.op ≠ .select cs b)
    (hQ : ∀ c a w, Q (.panic c) (a.put oi.dst v) w → Q (.panic c) a w) (R : Array Bool) (hRi : R.getD i false = false)
    (hRc : ∀ (j : Nat) oj, ops[j]? = some oj → R.getD j false = false → j = i ∨ ∃ e ∈ oj.after, Region.binds md e = true ∧ R.getD e.on false = false) :
    ∀ (fuel : Nat) (listed : Array Bool) (a : Act) (w : World),
      (∀ k, listed.getD k false = true → R.getD k false = true) →
      (∀ j oj, ops[j]? = some oj → j ≠ i → listed.getD j true = false → (∀ e ∈ oj.after, Region.binds md e = true → e.on ≠ i) → oi.apart ops oj = true) →
      i ∈ Region.ready md ops listed → YieldsIf P ops (fun _ => True) oi v a → I w →
      wpJ P md ops Q st I fuel (listed.setIfInBounds i true) (a.put oi.dst v) w → wpJ P md ops Q st I (fuel + 1) listed a w := by
  intro fuel
  induction fuel with
  | zero =>
    intro listed a w _ _ hr hy hI H
    refine ⟨fun h => (by rw [h] at hr; cases hr), fun j hj => ?_⟩
    by_cases hji : j = i
    · subst hji; exact hy.wpOp hi trivial ⟨fun _ => Below.refl _ _, hI, H⟩
    · have := ready_mono hj hji
      rw [H.1] at this
      cases this
  | succ fuel ih =>
    intro listed a w hsub hfree hr hy hI H
    refine ⟨fun h => (by rw [h] at hr; cases hr), fun j hj => ?_⟩
    by_cases hji : j = i
    · subst hji; exact hy.wpOp hi trivial ⟨fun _ => Below.refl _ _, hI, H⟩
    · have h1 := H.2 j (ready_mono hj hji)
      obtain ⟨hjun, oj, hoj, hall⟩ := mem_ready.1 hj
      have hnot : ∀ e ∈ oj.after, Region.binds md e = true → e.on ≠ i := fun e he hb heq => by
        have h1 := hall e he hb
        have h0 := (mem_ready.1 hr).1
        rw [heq] at h1
        rcases Nat.lt_or_ge i listed.size with h' | h'
        · simp [h'] at h0 h1; rw [h0] at h1; cases h1
        · simp [Array.getElem?_eq_none h'] at h1
      have hRj : R.getD j false = true := by
        cases hRj : R.getD j false with
        | true => rfl
        | false =>
          rcases hRc j oj hoj hRj with h | ⟨e, he, hb, hR⟩
          · exact absurd h hji
          · have := hsub _ (hall e he hb)
            rw [hR] at this
            cases this
      have h2 := wpOp_putIf hoj (hfree j oj hoj hji hjun hnot) (fun cs b => hsel i oi cs b hi) (fun cs b => hsel j oj cs b hoj) hQ hy h1
      have hfree' : ∀ k ok, ops[k]? = some ok → k ≠ i → (listed.setIfInBounds j true).getD k true = false →
          (∀ e ∈ ok.after, Region.binds md e = true → e.on ≠ i) → oi.apart ops ok = true := fun k ok hk hki hun hno => by
        refine hfree k ok hk hki ?_ hno
        by_cases hjk : j = k
        · subst hjk; exact hjun
        · rw [getD_set_ne true hjk] at hun; exact hun
      have hsub' : ∀ k, (listed.setIfInBounds j true).getD k false = true → R.getD k false = true := fun k hk => by
        by_cases hjk : j = k
        · subst hjk; exact hRj
        · rw [getD_set_ne false hjk] at hk; exact hsub k hk
      refine wpOp_mono (fun a' w' h3 => ?_) h2
      refine ⟨h3.2.1, h3.2.2.1, ih (listed.setIfInBounds j true) a' w' hsub' hfree' (ready_mono hr (Ne.symm hji)) h3.1 h3.2.2.1 ?_⟩
      rw [Array.setIfInBounds_comm _ _ hji]
      exact h3.2.2.2

theorem wpJ_done {listed : Array Bool} {a : Act} {w : World} (hr : Region.ready md ops listed = []) (h : Q .normal a w) :
    ∀ fuel, wpJ P md ops Q st I fuel listed a w
  | 0 => ⟨hr, h⟩
  | _ + 1 => ⟨fun _ => h, by rw [hr]; simp⟩

theorem wpJ_firstI {i : Nat} {oi : Oper} {v : Value} (hi : ops[i]? = some oi) (hsel : ∀ (j : Nat) (o : Oper) cs b, ops[j]? = some o → o.op ≠ .select cs b)
    (hQ : ∀ c a w, Q (.panic c) (a.put oi.dst v) w → Q (.panic c) a w) (R : Array Bool) (hRi : R.getD i false = false)
    (hRc : ∀ (j : Nat) oj, ops[j]? = some oj → R.getD j false = false → j = i ∨ ∃ e ∈ oj.after, Region.binds md e = true ∧ R.getD e.on false = false) :
    ∀ (fuel : Nat) (listed : Array Bool) (a : Act) (w : World),
      (∀ k, listed.getD k false = true → R.getD k false = true) →
      (∀ j oj, ops[j]? = some oj → j ≠ i → listed.getD j true = false → (∀ e ∈ oj.after, Region.binds md e = true → e.on ≠ i) → oi.apart ops oj = true) →
      i ∈ Region.ready md ops listed → YieldsIf P ops I oi v a → I w →
      wpJ P md ops Q st I fuel (listed.setIfInBounds i true) (a.put oi.dst v) w → wpJ P md ops Q st I (fuel + 1) listed a w := by
  intro fuel
  induction fuel with
  | zero =>
    intro listed a w _ _ hr hy hI H
    refine ⟨fun h => (by rw [h] at hr; cases hr), fun j hj => ?_⟩
    by_cases hji : j = i
    · subst hji; exact hy.wpOp hi hI ⟨fun _ => Below.refl _ _, hI, H⟩
    · have := ready_mono hj hji
      rw [H.1] at this
      cases this
  | succ fuel ih =>
    intro listed a w hsub hfree hr hy hI H
    refine ⟨fun h => (by rw [h] at hr; cases hr), fun j hj => ?_⟩
    by_cases hji : j = i
    · subst hji; exact hy.wpOp hi hI ⟨fun _ => Below.refl _ _, hI, H⟩
    · have h1 := H.2 j (ready_mono hj hji)
      obtain ⟨hjun, oj, hoj, hall⟩ := mem_ready.1 hj
      have hnot : ∀ e ∈ oj.after, Region.binds md e = true → e.on ≠ i := fun e he hb heq => by
        have h1 := hall e he hb
        have h0 := (mem_ready.1 hr).1
        rw [heq] at h1
        rcases Nat.lt_or_ge i listed.size with h' | h'
        · simp [h'] at h0 h1; rw [h0] at h1; cases h1
        · simp [Array.getElem?_eq_none h'] at h1
      have hRj : R.getD j false = true := by
        cases hRj : R.getD j false with
        | true => rfl
        | false =>
          rcases hRc j oj hoj hRj with h | ⟨e, he, hb, hR⟩
          · exact absurd h hji
          · have := hsub _ (hall e he hb)
            rw [hR] at this
            cases this
      have h2 := wpOp_putIf hoj (hfree j oj hoj hji hjun hnot) (fun cs b => hsel i oi cs b hi) (fun cs b => hsel j oj cs b hoj) hQ hy h1
      have hfree' : ∀ k ok, ops[k]? = some ok → k ≠ i → (listed.setIfInBounds j true).getD k true = false →
          (∀ e ∈ ok.after, Region.binds md e = true → e.on ≠ i) → oi.apart ops ok = true := fun k ok hk hki hun hno => by
        refine hfree k ok hk hki ?_ hno
        by_cases hjk : j = k
        · subst hjk; exact hjun
        · rw [getD_set_ne true hjk] at hun; exact hun
      have hsub' : ∀ k, (listed.setIfInBounds j true).getD k false = true → R.getD k false = true := fun k hk => by
        by_cases hjk : j = k
        · subst hjk; exact hRj
        · rw [getD_set_ne false hjk] at hk; exact hsub k hk
      refine wpOp_mono (fun a' w' h3 => ?_) h2
      refine ⟨h3.2.1, h3.2.2.1, ih (listed.setIfInBounds j true) a' w' hsub' hfree' (ready_mono hr (Ne.symm hji)) h3.1 h3.2.2.1 ?_⟩
      rw [Array.setIfInBounds_comm _ _ hji]
      exact h3.2.2.2
end
section
variable {P : Program} {B n : Nat} {σ0 : Sg} {H0 : AH} {w0 : World}
/-- What is taken first as long as nothing was made; then a tree of orders. -/
def mixR0 (ops : Array Oper) (st : Nat → Bool) : SchT → Array Bool → Bool
  | .nil, listed => mixF ops st true .nil listed
  | .alt i k t r, listed => mixF ops st true (.alt i k t r) listed
  | .cons i 0 t, listed => (Region.free .any ops listed i && (Region.ready .any ops listed).contains i && relB ops (fun _ => true) listed i (reachB ops i)) && mixR0 ops st t (listed.setIfInBounds i true)
  | .cons i (k + 1) t, listed => mixF ops st true (.cons i (k + 1) t) listed
end
end Go.BM

/- A branch that is left by one way only: what is told behind it. -/
set_option linter.unusedVariables false
namespace Go.BM
end Go.BM

/- Drawn regions: what no world turns is taken first wherever it stands. -/
set_option linter.unusedVariables false
set_option linter.unusedSimpArgs false
namespace Go.BM
open Go.RowKit
def isU : Op → Bool
  | .move _ | .assign _ | .pick .. | .binOp .. | .unOp .. | .fieldAddr .. | .field .. | .indexAddr .. | .index .. | .slice .. | .extract .. | .build .. => true
  | _ => false
def uB (ops : Array Oper) (i : Nat) : Bool := match ops[i]? with | some o => isU o.op | none => false
section
variable {P : Program} {B n : Nat} {σ : Sg} {H : AH} {w : World} {a : Act} {e : Env}
theorem popU_sound (hS : Sim σ H w) (hE : ER n σ H a e) {o : Oper} (hok : o.op.operands.all (opdOk n) = true) {d : Value} (h : popV P e H o.type o.op = some d) (hU : isU o.op = true) :
    ∃ v, VR σ H v d ∧ ∀ w', (execOp a.eval o).run P w' = .ok (.value v) w' := by
  obtain ⟨dst, op, ty, pos, af, g⟩ := o
  dsimp only at hok h hU
  have ok : ∀ x ∈ op.operands.toList, opdOk n x = true := fun x hx => Array.all_eq_true'.1 hok x (by simpa using hx)
  cases op <;> simp only [Op.operands] at ok <;> simp only [popV] at h <;> try (first | (cases h; done) | (cases hU; done))
  case move x => cases h; exact ⟨_, hE.eval (ok x (by simp)), fun w' => by simp [execOp]⟩
  case assign x => cases h; exact ⟨_, hE.eval (ok x (by simp)), fun w' => by simp [execOp]⟩
  case pick c x y =>
    obtain ⟨u, hu, hr⟩ := pick_sound (P := P) (hE.eval (ok c (by simp))) (hE.eval (ok x (by simp))) (hE.eval (ok y (by simp))) h
    exact ⟨u, hu, fun w' => by unfold execOp; exact hr w'⟩
  case binOp op t x y yt =>
    obtain ⟨hu, hr⟩ := bin_sound (hE.eval (ok x (by simp))) (hE.eval (ok y (by simp))) h
    exact ⟨d, hu, fun w' => by
      have := hr w'
      simp only [execOp, Sem.run_bind] at this ⊢
      rw [this]; rfl⟩
  case unOp op t x =>
    obtain ⟨hu, hr⟩ := un_sound (P := P) (hE.eval (ok x (by simp))) h
    exact ⟨d, hu, fun w' => by simp [execOp, hr w']⟩
  case fieldAddr s x f =>
    obtain ⟨u, hu, hr⟩ := fld_sound (P := P) (hE.eval (ok x (by simp))) h
    exact ⟨u, hu, fun w' => by simp [execOp, hr w']⟩
  case field s x f =>
    obtain ⟨u, hu, hr⟩ := field_sound (P := P) (hE.eval (ok x (by simp))) h
    exact ⟨u, hu, fun w' => by simp [execOp, hr w']⟩
  case indexAddr t x i =>
    obtain ⟨u, hu, hr⟩ := idx_sound (P := P) (hE.eval (ok x (by simp))) (hE.eval (ok i (by simp))) h
    exact ⟨u, hu, fun w' => by simp [execOp, hr w']⟩
  case index t x i =>
    obtain ⟨hu, hr⟩ := strIdx_sound (P := P) (hE.eval (ok x (by simp))) (hE.eval (ok i (by simp))) h
    exact ⟨d, hu, fun w' => by simp [execOp, hr w']⟩
  case slice t x lo hi mx =>
    have hv := hE.eval (ok x (by simp))
    have hlo := optEval hE (o := lo) (fun y hy => ok y (by simp; exact .inr (.inl (by simpa using hy))))
    have hhi := optEval hE (o := hi) (fun y hy => ok y (by simp; exact .inr (.inr (.inl (by simpa using hy)))))
    have hmx := optEval hE (o := mx) (fun y hy => ok y (by simp; exact .inr (.inr (.inr (by simpa using hy)))))
    unfold slV at h
    split at h
    · rename_i s hx
      rw [hx] at hv
      have hs := hv.str
      unfold strSliceS at h
      by_cases hp : pureV (.string s) = true ∧ ((lo.map (ev e)).all pureV && (hi.map (ev e)).all pureV && (mx.map (ev e)).all pureV) = true
      · rw [if_pos hp] at h
        obtain ⟨h1, h2⟩ := runV_some h
        obtain ⟨_, hp2⟩ := hp
        simp only [Bool.and_eq_true] at hp2
        obtain ⟨⟨p1, p2⟩, p3⟩ := hp2
        have same : ∀ (o : Option Operand), (∀ y ∈ o.toList, opdOk n y = true) → (o.map (ev e)).all pureV = true → o.map a.eval = o.map (ev e) := fun o ho hp => by
          cases o with
          | none => rfl
          | some y =>
            simp only [Option.map_some, Option.all_some] at hp ⊢
            rw [(hE.eval (ho y (by simp))).pureE hp]
        refine ⟨d, .ofPure h1, fun w' => ?_⟩
        have e1 := same lo (fun y hy => ok y (by simp; exact .inr (.inl (by simpa using hy)))) p1
        have e2 := same hi (fun y hy => ok y (by simp; exact .inr (.inr (.inl (by simpa using hy))))) p2
        have e3 := same mx (fun y hy => ok y (by simp; exact .inr (.inr (.inr (by simpa using hy))))) p3
        simp [execOp, hs, e1, e2, e3, h2 w']
      · rw [if_neg hp] at h; cases h
    · obtain ⟨u, hu, hr⟩ := slice_sound (P := P) hv hS (hlo 0) hhi hmx (by cases hi <;> rfl) (by cases mx <;> rfl) h
      exact ⟨u, hu, fun w' => by simp [execOp, hr w']⟩
  case extract x i =>
    obtain ⟨u, hu, hr⟩ := extract_sound (P := P) (hE.eval (ok x (by simp))) h
    exact ⟨u, hu, fun w' => by simp [execOp, hr w']⟩
  case build t ps =>
    obtain ⟨u, hu, hr⟩ := build_sound (P := P) hE (fun p hp => ok p.2 (by simp; exact ⟨p.1, by simpa using hp⟩)) h
    exact ⟨u, hu, fun w' => by
      have := hr w'
      simp [execOp, this]⟩
end
def mixU (ops : Array Oper) (st : Nat → Bool) : Bool → SchT → Array Bool → Bool
  | top, .nil, listed => top && (Region.ready .any ops listed).isEmpty
  | top, .cons i k t, listed =>
    (if k == 0 then top && (Region.free .any ops listed i && (Region.ready .any ops listed).contains i && (relB ops st listed i (reachB ops i) || uB ops i && relB ops (fun _ => true) listed i (reachB ops i))) else !top || Region.ready .any ops listed == [i]) &&
      (k == 0 || k == 1 || !st i) && mixU ops st true t (listed.setIfInBounds i true)
  | top, .alt i k t r, listed => k != 0 && (!top || (Region.ready .any ops listed).all (fun j => (i :: r.firsts).contains j) && !(Region.ready .any ops listed).isEmpty) && (k == 1 || !st i) && mixU ops st true t (listed.setIfInBounds i true) && mixU ops st false r listed
section
variable {P : Program} {B n : Nat} {σ0 : Sg} {H0 : AH} {w0 : World}
theorem mixU_sound {ops : Array Oper} (hops : ops.all (operOk n) = true) (hsel : Region.noSelect ops = true) {st : Nat → Bool} {K : Env → AH → Prop} {I : World → Prop} (hI : ∀ σ H w, Fut B σ0 H0 w0 σ H w → I w) : ∀ (t : SchT) (listed : Array Bool) (e : Env) (H : AH) (σ : Sg) (w : World) (a : Act) (fuel : Nat),
    t.size ≤ fuel → Fut B σ0 H0 w0 σ H w → Sim σ H w → B ≤ H.length → ER n σ H a e → mopsT P B ops K t e H →
      (mixU ops st true t listed = true → wpJ P .any ops (RelN n B σ0 H0 w0 K) st I fuel listed a w) ∧
      (mixU ops st false t listed = true → ∀ f, fuel = f + 1 → ∀ j ∈ t.firsts, wpOp P ops (RelN n B σ0 H0 w0 K) j (fun a' w' => (st j = true → Below w.heap.size w w') ∧ I w' ∧ wpJ P .any ops (RelN n B σ0 H0 w0 K) st I f (listed.setIfInBounds j true) a' w') a w)
  | .nil, listed, e, H, σ, w, a, fuel, hf, F, hS, hB, hE, h => by
    refine ⟨fun hm => ?_, fun hm => ?_⟩
    · simp only [mixU, Bool.true_and, List.isEmpty_iff] at hm
      exact wpJ_done hm ⟨σ, e, H, F, hS, hE, h⟩ fuel
    · simp [mixU] at hm
  | .cons i k t, listed, e, H, σ, w, a, 0, hf, F, hS, hB, hE, h => by simp [SchT.size] at hf
  | .cons i k t, listed, e, H, σ, w, a, fuel + 1, hf, F, hS, hB, hE, h => by
    have next : mixU ops st true t (listed.setIfInBounds i true) = true → ∀ o, ops[i]? = some o → dstOk n o.dst = true → ∀ v d w' σ' H', Fut B σ H w σ' H' w' → Sim σ' H' w' → VR σ' H' v d → mopsT P B ops K t (put e o.dst d) H' → wpJ P .any ops (RelN n B σ0 H0 w0 K) st I fuel (listed.setIfInBounds i true) (a.put o.dst v) w' :=
      fun hm o ho hd v d w' σ' H' F' S' V' h' => (mixU_sound hops hsel hI t _ _ _ σ' w' _ fuel (by simp [SchT.size] at hf; omega) (F.trans F') S' (Nat.le_trans hB F'.len) ((hE.fut F').put hd V') h').1 hm
    by_cases hk0 : k = 0
    · subst hk0
      refine ⟨fun hm => ?_, fun hm => by simp [mixU] at hm⟩
      simp only [mixU, beq_self_eq_true, if_true, Bool.true_and, Bool.and_eq_true] at hm
      obtain ⟨⟨⟨⟨hfree, hready⟩, hrel0⟩, _⟩, hm3⟩ := hm
      obtain ⟨o, ho, hoo, cases2⟩ := step_cases hops hE h
      have next := next hm3 o ho hoo.1
      rcases Bool.or_eq_true_iff.1 hrel0 with hrel | hmv
      case inr =>
        rw [Bool.and_eq_true] at hmv
        obtain ⟨hmv, hrel⟩ := hmv
        obtain ⟨r1, r2, r3, r4⟩ := relB_spec hrel
        unfold uB at hmv
        rw [ho] at hmv
        dsimp only at hmv
        have take : ∀ v, YieldsIf P ops (fun _ => True) o v a → wpJ P .any ops (RelN n B σ0 H0 w0 K) st I fuel (listed.setIfInBounds i true) (a.put o.dst v) w → wpJ P .any ops (RelN n B σ0 H0 w0 K) st I (fuel + 1) listed a w := fun v hyv hn =>
          wpJ_firstU ho (Region.noSelect_spec hsel) (fun c a w hq => hq.elim) _ r1 r2 fuel listed a w r3 (Region.free_spec ho hfree) (by simpa using hready) hyv (hI _ _ _ F) hn
        rcases cases2 with ⟨hw, hc⟩ | ⟨hw, hc⟩
        · simp only [mop, if_true] at hc
          by_cases hp : isPop o.op = true
          · rw [if_pos hp] at hc
            cases hv : popV P e H o.type o.op with
            | none => rw [hv] at hc; exact hc.elim
            | some d =>
              rw [hv] at hc
              obtain ⟨v, hvr, hrun⟩ := popU_sound (P := P) hS hE hoo.2 hv hmv
              exact take v (.inl ⟨hw, fun w' _ => hrun w'⟩) (next v d w σ H (.refl _ _ _ _) hS hvr hc)
          · rw [if_neg hp] at hc; exact hc.elim
        · exact take undef (.inr ⟨hw, rfl⟩) (next undef undef w σ H (.refl _ _ _ _) hS (.flat _ rfl) hc)
      obtain ⟨r1, r2, r3, r4⟩ := relB_spec hrel
      have take : ∀ v, YieldsIf P ops (fun w' => Below w.heap.size w w') o v a → wpJ P .any ops (RelN n B σ0 H0 w0 K) st I fuel (listed.setIfInBounds i true) (a.put o.dst v) w → wpJ P .any ops (RelN n B σ0 H0 w0 K) st I (fuel + 1) listed a w := fun v hyv hn =>
        wpJ_first ho (Region.noSelect_spec hsel) (fun c a w hq => hq.elim) _ r1 r2 w fuel listed a w r3 r4 (Region.free_spec ho hfree) (by simpa using hready) hyv (Below.refl _ _) (hI _ _ _ F) hn
      rcases cases2 with ⟨hw, hc⟩ | ⟨hw, hc⟩
      · simp only [mop, if_true] at hc
        by_cases hp : isPop o.op = true
        · rw [if_pos hp] at hc
          cases hv : popV P e H o.type o.op with
          | none => rw [hv] at hc; exact hc.elim
          | some d =>
            rw [hv] at hc
            obtain ⟨v, hvr, hrun⟩ := pop_sound hS hE hoo.2 hv
            exact take v (.inl ⟨hw, fun w' hb => hrun w' hb⟩) (next v d w σ H (.refl _ _ _ _) hS hvr hc)
        · rw [if_neg hp] at hc; exact hc.elim
      · exact take undef (.inr ⟨hw, rfl⟩) (next undef undef w σ H (.refl _ _ _ _) hS (.flat _ rfl) hc)
    · have hk0' : (k == 0) = false := by simpa using hk0
      have hst : (k == 0 || k == 1 || !st i) = true → k = 1 ∨ st i = false := fun h => by simp [hk0'] at h; exact h
      refine ⟨fun hm => ?_, fun hm f hfe j hj => ?_⟩
      · simp only [mixU, hk0', Bool.false_eq_true, if_false, Bool.not_true, Bool.false_or, beq_iff_eq, Bool.and_eq_true] at hm
        obtain ⟨⟨hm1, hm2⟩, hm3⟩ := hm
        refine ⟨fun h0 => (by rw [hm1] at h0; cases h0), fun j hj => ?_⟩
        rw [hm1] at hj
        obtain rfl : j = i := by simpa using hj
        exact eff_step hops hk0 (hst (by simpa [hk0'] using hm2)) hS hB hE h (fun o ho hd v d w' σ' H' F' S' V' h' => ⟨hI _ _ _ (F.trans F'), next hm3 o ho hd v d w' σ' H' F' S' V' h'⟩)
      · simp only [mixU, hk0', Bool.false_eq_true, if_false, Bool.not_false, Bool.true_or, Bool.true_and, Bool.and_eq_true] at hm
        obtain rfl : fuel = f := by omega
        obtain rfl : j = i := by simpa [SchT.firsts] using hj
        exact eff_step hops hk0 (hst (by simpa [hk0'] using hm.1)) hS hB hE h (fun o ho hd v d w' σ' H' F' S' V' h' => ⟨hI _ _ _ (F.trans F'), next hm.2 o ho hd v d w' σ' H' F' S' V' h'⟩)
  | .alt i k t r, listed, e, H, σ, w, a, 0, hf, F, hS, hB, hE, h => by simp [SchT.size] at hf
  | .alt i k t r, listed, e, H, σ, w, a, fuel + 1, hf, F, hS, hB, hE, h => by
    have next : mixU ops st true t (listed.setIfInBounds i true) = true → ∀ o, ops[i]? = some o → dstOk n o.dst = true → ∀ v d w' σ' H', Fut B σ H w σ' H' w' → Sim σ' H' w' → VR σ' H' v d → mopsT P B ops K t (put e o.dst d) H' → wpJ P .any ops (RelN n B σ0 H0 w0 K) st I fuel (listed.setIfInBounds i true) (a.put o.dst v) w' :=
      fun hm o ho hd v d w' σ' H' F' S' V' h' => (mixU_sound hops hsel hI t _ _ _ σ' w' _ fuel (by simp [SchT.size] at hf; omega) (F.trans F') S' (Nat.le_trans hB F'.len) ((hE.fut F').put hd V') h').1 hm
    have rest := (mixU_sound (st := st) hops hsel hI r listed e H σ w a (fuel + 1) (by simp [SchT.size] at hf; omega) F hS hB hE h.2).2
    have main : (k != 0) = true → (k == 1 || !st i) = true → mixU ops st true t (listed.setIfInBounds i true) = true → mixU ops st false r listed = true → ∀ j ∈ i :: r.firsts, wpOp P ops (RelN n B σ0 H0 w0 K) j (fun a' w' => (st j = true → Below w.heap.size w w') ∧ I w' ∧ wpJ P .any ops (RelN n B σ0 H0 w0 K) st I fuel (listed.setIfInBounds j true) a' w') a w := by
      intro c1 c2 c3 c4 j hj
      rcases List.mem_cons.1 hj with rfl | hj
      · exact eff_step hops (by simpa using c1) (by simpa using c2) hS hB hE h.1 (fun o ho hd v d w' σ' H' F' S' V' h' => ⟨hI _ _ _ (F.trans F'), next c3 o ho hd v d w' σ' H' F' S' V' h'⟩)
      · exact rest c4 fuel rfl j hj
    refine ⟨fun hm => ?_, fun hm f hfe j hj => ?_⟩
    · simp only [mixU, Bool.not_true, Bool.false_or, Bool.and_eq_true] at hm
      obtain ⟨⟨⟨⟨c1, c5, c6⟩, c2⟩, c3⟩, c4⟩ := hm
      refine ⟨fun h0 => by rw [h0] at c6; simp at c6, fun j hj => main c1 c2 c3 c4 j ?_⟩
      have := List.all_eq_true.1 c5 j hj
      simpa using this
    · simp only [mixU, Bool.not_false, Bool.true_or, Bool.and_eq_true] at hm
      obtain ⟨⟨⟨⟨c1, _⟩, c2⟩, c3⟩, c4⟩ := hm
      obtain rfl : fuel = f := by omega
      exact main c1 c2 c3 c4 j hj
/-- What is taken first as long as nothing was made; then a tree of orders where what no world turns comes first. -/
def mixV0 (ops : Array Oper) (st : Nat → Bool) : SchT → Array Bool → Bool
  | .nil, listed => mixU ops st true .nil listed
  | .alt i k t r, listed => mixU ops st true (.alt i k t r) listed
  | .cons i 0 t, listed => (Region.free .any ops listed i && (Region.ready .any ops listed).contains i && relB ops (fun _ => true) listed i (reachB ops i)) && mixV0 ops st t (listed.setIfInBounds i true)
  | .cons i (k + 1) t, listed => mixU ops st true (.cons i (k + 1) t) listed
def mixV (ops : Array Oper) (t : SchT) : Bool := Region.noSelect ops && mixV0 ops (fun j => !t.writes j) t (Array.replicate ops.size false) && decide (t.size ≤ ops.size)
theorem mixV_sound {ops : Array Oper} (hops : ops.all (operOk n) = true) (hsel : Region.noSelect ops = true) {st : Nat → Bool} {K : Env → AH → Prop} (hS : Sim σ0 H0 w0) : ∀ (t : SchT) (listed : Array Bool) (e : Env) (a : Act) (fuel : Nat),
    t.size ≤ fuel → ER n σ0 H0 a e → mopsT P H0.length ops K t e H0 → mixV0 ops st t listed = true → wpJ P .any ops (RelN n H0.length σ0 H0 w0 K) st (fun x => Below w0.heap.size w0 x) fuel listed a w0
  | .nil, listed, e, a, fuel, hf, hE, h, hm => (mixU_sound hops hsel (fun _ _ _ F => F.forget) .nil listed e H0 σ0 w0 a fuel hf (.refl _ _ _ _) hS (Nat.le_refl _) hE h).1 hm
  | .alt i k t r, listed, e, a, fuel, hf, hE, h, hm => (mixU_sound hops hsel (fun _ _ _ F => F.forget) (.alt i k t r) listed e H0 σ0 w0 a fuel hf (.refl _ _ _ _) hS (Nat.le_refl _) hE h).1 hm
  | .cons i (k + 1) t, listed, e, a, fuel, hf, hE, h, hm => (mixU_sound hops hsel (fun _ _ _ F => F.forget) (.cons i (k + 1) t) listed e H0 σ0 w0 a fuel hf (.refl _ _ _ _) hS (Nat.le_refl _) hE h).1 hm
  | .cons i 0 t, listed, e, a, 0, hf, hE, h, hm => by simp [SchT.size] at hf
  | .cons i 0 t, listed, e, a, fuel + 1, hf, hE, h, hm => by
    simp only [mixV0, Bool.and_eq_true] at hm
    obtain ⟨⟨⟨hfree, hready⟩, hrel⟩, hm3⟩ := hm
    obtain ⟨o, ho, hoo, cases2⟩ := step_cases hops hE h
    have next : ∀ v d, VR σ0 H0 v d → mopsT P H0.length ops K t (put e o.dst d) H0 → wpJ P .any ops (RelN n H0.length σ0 H0 w0 K) st (fun x => Below w0.heap.size w0 x) fuel (listed.setIfInBounds i true) (a.put o.dst v) w0 :=
      fun v d V' h' => mixV_sound hops hsel hS t _ _ _ fuel (by simp [SchT.size] at hf; omega) (hE.put hoo.1 V') h' hm3
    obtain ⟨r1, r2, r3, r4⟩ := relB_spec hrel
    have take : ∀ v, YieldsIf P ops (fun w' => Below w0.heap.size w0 w') o v a → wpJ P .any ops (RelN n H0.length σ0 H0 w0 K) st (fun x => Below w0.heap.size w0 x) fuel (listed.setIfInBounds i true) (a.put o.dst v) w0 → wpJ P .any ops (RelN n H0.length σ0 H0 w0 K) st (fun x => Below w0.heap.size w0 x) (fuel + 1) listed a w0 := fun v hyv hn =>
      wpJ_firstI ho (Region.noSelect_spec hsel) (fun c a w hq => hq.elim) _ r1 r2 fuel listed a w0 r3 (Region.free_spec ho hfree) (by simpa using hready) hyv (Below.refl _ _) hn
    rcases cases2 with ⟨hw, hc⟩ | ⟨hw, hc⟩
    · simp only [mop, if_true] at hc
      by_cases hp : isPop o.op = true
      · rw [if_pos hp] at hc
        cases hv : popV P e H0 o.type o.op with
        | none => rw [hv] at hc; exact hc.elim
        | some d =>
          rw [hv] at hc
          obtain ⟨v, hvr, hrun⟩ := pop_sound hS hE hoo.2 hv
          exact take v (.inl ⟨hw, fun w' hb => hrun w' hb⟩) (next v d hvr hc)
      · rw [if_neg hp] at hc; exact hc.elim
    · exact take undef (.inr ⟨hw, rfl⟩) (next undef undef (.flat _ rfl) hc)
theorem AWp.mixedV {id : Nat} {ops : Array Oper} {e : Env} {H : AH} {Q : Exit → Env → AH → Prop} (t : SchT) (hm : P.follows .mixedOrders = true) (hc : mixV ops t = true)
    (h : mopsT P H.length ops (Q .normal) t e H) : AWp P n B (.region id ops true) Q e H := fun hok σ w a hS hB hE => by
  simp only [codeOk] at hok
  simp only [mixV, Bool.and_eq_true, decide_eq_true_eq] at hc
  have hb : Below w.heap.size w { w with drawn := w.drawn + 1 } := ⟨rfl, rfl, rfl, Nat.le_refl _, fun _ _ => rfl⟩
  have hS' := hS.below hb
  have := mixV_sound (P := P) (σ0 := σ) (H0 := H) (w0 := { w with drawn := w.drawn + 1 }) hok hc.1.1 (st := fun j => !t.writes j) (K := Q .normal) hS' t (Array.replicate ops.size false) e a ops.size hc.2 hE h hc.1.2
  refine wp_mono (wp_region_any hm (wpAny_of_J _ _ _ _ this)) fun ex a' w' hq => ?_
  cases ex with
  | normal =>
    obtain ⟨σ', e', H', F, S', E', hq⟩ := hq
    exact ⟨σ', e', H', ((Fut.of_below hb).trans F).base hB, S', E', hq⟩
  | _ => exact hq.elim
end
end Go.BM
