/- The engine: texts C29. -/
import Derived.Test.YtboephigjgncaaaGreatDoorC25
/- A source of draws: one block ahead that is written; what is drawn is new, or a value. -/
set_option linter.unusedVariables false
set_option linter.unusedSimpArgs false
namespace Go.BM
open Go.RowKit

/-- The source: its bytes, and how many draws there were. -/
def srcB (T : TypeId) (code : List UInt8) (a : Int) : Blk := ⟨T, 0, [islE byteE code, .int .i64 a], 0, true⟩
theorem srcB_im (T : TypeId) (code : List UInt8) (a : Int) : ∀ c ∈ (srcB T code a).cs, Im c := Im.consL (islE_im _ _) (Im.consL (.flat _ rfl) Im.nilL)
def ptr0 : Value := .pointer (some ⟨0, 0, some 0⟩)
section
variable {P : Program} {B : Nat} {σ σ' : Sg} {H N : AH} {w w' : World} {r : Nat} {T : TypeId} {code : List UInt8} {a a' : Int}

theorem one_get {b blk : Blk} {q : Nat} (h : [b][q]? = some blk) : q = 0 ∧ blk = b := by
  cases q with
  | zero => simp at h; exact ⟨rfl, h.symm⟩
  | succ q => simp at h

theorem src_sim (hS : Sim σ H w) (hr : H[r]? = some (srcB T code a)) : Sim ⟨fun _ => σ r, σ.im⟩ [srcB T code a] w where
  own := fun q blk hq ho => by
    obtain ⟨rfl, rfl⟩ := one_get hq
    obtain ⟨c, h1, h2, h3, h4, h5⟩ := hS.own r _ hr rfl
    refine ⟨c, h1, h2, h3, h4, fun j v hj => ?_⟩
    obtain ⟨u, g1, g2, g3⟩ := h5 j v hj
    exact ⟨u, g1, g2.im (srcB_im T code a v (List.mem_of_getElem? hj)) fun _ _ h => h, g3⟩
  im := hS.im
  sep := fun x u hx q blk hq ho => by
    obtain ⟨rfl, rfl⟩ := one_get hq
    exact hS.sep x u hx r _ hr rfl
  inj := fun q q' b b' h1 h2 hne => by
    obtain ⟨rfl, _⟩ := one_get h1
    obtain ⟨rfl, _⟩ := one_get h2
    exact absurd rfl hne
  glob := hS.glob

theorem src_args (hS : Sim σ H w) (hr : H[r]? = some (srcB T code a)) {vs args : List Value} (hi : ∀ d ∈ args, Im d) (h : VRL σ H vs (.pointer (some ⟨r, 0, some 0⟩) :: args)) :
    VRL ⟨fun _ => σ r, σ.im⟩ [srcB T code a] vs (ptr0 :: args) := by
  refine ⟨h.1, fun j u hu => ?_⟩
  cases j with
  | zero =>
    obtain ⟨x, h1, h2⟩ := h.2 0 _ rfl
    have hg : getB H r 0 = some (srcB T code a).cs := by simp [getB, hr, srcB]
    have := h2.ptrI hg
    subst this
    refine ⟨_, h1, ?_⟩
    simp only [List.getElem?_cons_zero, Option.some.injEq] at hu
    subst hu
    exact VR.ptr (σ := ⟨fun _ => σ r, σ.im⟩) (H := [srcB T code a]) 0 0 0 (srcB T code a) rfl rfl rfl
  | succ j =>
    obtain ⟨x, h1, h2⟩ := h.2 (j + 1) u (by simpa using hu)
    exact ⟨x, h1, h2.im (hi u (List.mem_of_getElem? (by simpa using hu))) fun _ _ h => h⟩

structure SrcF (σ : Sg) (r : Nat) (w : World) (σ' : Sg) (w' : World) : Prop where
  os : w'.os = w.os
  tape : w'.tape = w.tape
  output : w'.output = w.output
  size : w.heap.size ≤ w'.heap.size
  frame : ∀ k, k < w.heap.size → (σ r).b ≠ k → w'.heap[k]? = w.heap[k]?
  at0 : σ' 0 = σ r
  imk : ∀ a u, σ.im a = some u → σ'.im a = some u
  imn : ∀ a u, σ'.im a = some u → σ.im a = some u ∨ w.heap.size ≤ a.block
theorem src_fut (F : Fut 0 ⟨fun _ => σ r, σ.im⟩ [srcB T code a] w σ' N w') (S : Sim σ' N w') (hN : N[0]? = some (srcB T code a')) : SrcF σ r w σ' w' := by
  have h0 : σ' 0 = σ r := by
    obtain ⟨b, h1, h2, h3⟩ := F.keep 0 (srcB T code a) rfl
    rw [hN] at h1
    cases h1
    exact (h3 rfl).1
  refine ⟨F.os, F.tape, F.output, F.size, fun k hk hne => F.frame k hk fun q blk _ hq ho => ?_, h0, F.imk, fun x u hx => ?_⟩
  · obtain ⟨rfl, rfl⟩ := one_get hq
    exact hne
  · rcases F.imn x u hx with h | h | ⟨q, blk, _, hq, ho, he⟩
    · exact .inl h
    · exact .inr h
    · obtain ⟨rfl, rfl⟩ := one_get hq
      have := S.sep x u hx 0 _ hN rfl
      rw [h0] at this
      exact absurd he this

/-- A draw, used in any heap that holds the source: what is new stands behind our blocks. -/
theorem ACalls.liftS {f : FuncId} {args : List Value} {post post' : Value → AH → Prop} (h : ACalls P 0 f (ptr0 :: args) [srcB T code a] post) (hr : H[r]? = some (srcB T code a)) (hB : B ≤ r) (hi : ∀ d ∈ args, Im d)
    (hp : ∀ d N, post d N → ∃ (a' : Int) (ρ : Nat → Nat) (q : Nat → Prop) (M : AH) (d' : Value), N[0]? = some (srcB T code a') ∧ (∀ i j, q i → q j → ρ i = ρ j → i = j) ∧ (∀ i, q i → ρ i ≠ 0) ∧ Lif N ρ q H.length d d' ∧ (∀ i b', M[i]? = some b' → b'.own = true → q i) ∧
      (∀ i, q i → ∃ b b', N[ρ i]? = some b ∧ M[i]? = some b' ∧ LifB N ρ q H.length b b') ∧ post' d' (H.set r (srcB T code a') ++ M)) : ACalls P B f (.pointer (some ⟨r, 0, some 0⟩) :: args) H post' :=
  ⟨h.1, fun σ w vals hS hBl hvl => (h.2 ⟨fun _ => σ r, σ.im⟩ w vals (src_sim hS hr) (Nat.zero_le _) (src_args hS hr hi hvl)).mono fun e w' ⟨v, he, σ', N, d, F, S, V, hd⟩ => by
    obtain ⟨a', ρ, q, M, d', hN, hinj, h0, hl, hown, hM, hpost⟩ := hp d N hd
    have G := src_fut F S hN
    have hrl := lt_of_some hr
    have hnew : ∀ i, q i → ∀ nb, N[ρ i]? = some nb → nb.own = true → w.heap.size ≤ (σ' (ρ i)).b := fun i hi nb h1 h2 => by
      rcases F.loc (ρ i) nb h1 h2 with ⟨b0, g, _⟩ | g
      · obtain ⟨g0, _⟩ := one_get g
        exact absurd g0 (h0 i hi)
      · exact g
    let σ'' : Sg := ⟨fun q => if q < H.length then σ q else σ' (ρ (q - H.length)), σ'.im⟩
    have so : ∀ q, q < H.length → σ'' q = σ q := fun q hq => if_pos hq
    have sn : ∀ i, σ'' (H.length + i) = σ' (ρ i) := fun i => by show (if _ then _ else _) = _; rw [if_neg (by omega), Nat.add_sub_cancel_left]
    have hHl : (H.set r (srcB T code a')).length = H.length := by simp
    have old : ∀ q blk, (H.set r (srcB T code a') ++ M)[q]? = some blk → q < H.length → q ≠ r → H[q]? = some blk := fun q blk h1 h2 h3 => by rwa [List.getElem?_append_left (by omega), List.getElem?_set_ne (Ne.symm h3)] at h1
    have atr : (H.set r (srcB T code a') ++ M)[r]? = some (srcB T code a') := by rw [List.getElem?_append_left (by omega), List.getElem?_set_self hrl]
    have new : ∀ r' blk, (H.set r (srcB T code a') ++ M)[r']? = some blk → ¬ r' < H.length → blk.own = true → ∃ i, r' = H.length + i ∧ q i ∧ M[i]? = some blk := fun r' blk h1 h2 h3 => by
      rw [List.getElem?_append_right (by omega), hHl] at h1
      exact ⟨r' - H.length, by omega, hown _ _ h1 h3, h1⟩
    have F2 : Fut B σ H w σ'' (H.set r (srcB T code a') ++ M) w' := {
      os := G.os
      tape := G.tape
      output := G.output
      size := G.size
      frame := fun k hk hne => G.frame k hk (hne r _ hB hr rfl)
      pre := fun q hq => by rw [List.getElem?_append_left (by omega), List.getElem?_set_ne (by omega)]
      preσ := fun q hq hql => so q hql
      keep := fun q blk h => by
        by_cases e : q = r
        · subst e
          rw [hr] at h
          cases h
          exact ⟨_, atr, Nat.le_refl _, fun _ => ⟨so q hrl, rfl, rfl⟩⟩
        · exact ⟨blk, by rw [List.getElem?_append_left (by have := lt_of_some h; omega), List.getElem?_set_ne (Ne.symm e)]; exact h, Nat.le_refl _, fun _ => ⟨so q (lt_of_some h), rfl, rfl⟩⟩
      loc := fun q blk' hq ho => by
        by_cases hlt : q < H.length
        · by_cases e : q = r
          · subst e; exact .inl ⟨_, hr, rfl, so q hlt⟩
          · exact .inl ⟨blk', old q blk' hq hlt e, ho, so q hlt⟩
        · obtain ⟨i, rfl, hi, hmi⟩ := new q blk' hq hlt ho
          obtain ⟨nb, nb', h1, h2, h3⟩ := hM i hi
          rw [hmi] at h2
          cases h2
          exact .inr (by rw [sn]; exact hnew i hi nb h1 (h3.own.symm.trans ho))
      imk := G.imk
      imn := fun x u hx => by
        rcases G.imn x u hx with h | h
        · exact .inl h
        · exact .inr (.inl h) }
    have lift : ∀ {d d' : Value}, Lif N ρ q H.length d d' → ∀ v, VR σ' N v d → VR σ'' (H.set r (srcB T code a') ++ M) v d' := fun hL v hv => lif_vr (fun i hi => hM i hi) hHl (fun i _ => sn i) hL v hv
    have S2 : Sim σ'' (H.set r (srcB T code a') ++ M) w' := ⟨fun q' blk hq ho => by
        by_cases hlt : q' < H.length
        · by_cases e : q' = r
          · subst e
            rw [atr] at hq
            cases hq
            obtain ⟨c, h1, h2, h3, h4, h5⟩ := S.own 0 _ hN rfl
            rw [G.at0] at h1 h2 h3
            refine ⟨c, by rw [so q' hlt]; exact h1, by rw [so q' hlt]; exact h2, by rw [so q' hlt]; exact h3, h4, fun j v hj => ?_⟩
            obtain ⟨u, b1, b2, b3⟩ := h5 j v hj
            exact ⟨u, b1, b2.im (srcB_im T code a' v (List.mem_of_getElem? hj)) fun _ _ h => h, b3⟩
          · have hr' := old q' blk hq hlt e
            obtain ⟨c, h1, h2, h3, h4, h5⟩ := hS.own q' blk hr' ho
            refine ⟨c, by rw [so q' hlt, G.frame _ (hS.lt hr' ho) (hS.inj r q' _ _ hr hr' (Ne.symm e) rfl ho)]; exact h1, by rw [so q' hlt]; exact h2, by rw [so q' hlt]; exact h3, h4, fun j v hj => ?_⟩
            obtain ⟨u, b1, b2, b3⟩ := h5 j v hj
            exact ⟨u, b1, b2.fut F2, b3⟩
        · obtain ⟨i, rfl, hi, hmi⟩ := new q' blk hq hlt ho
          obtain ⟨nb, nb', h1, h2, h3⟩ := hM i hi
          rw [hmi] at h2
          cases h2
          obtain ⟨c, k1, k2, k3, k4, k5⟩ := S.own (ρ i) nb h1 (h3.own.symm.trans ho)
          refine ⟨c, by rw [sn, h3.el]; exact k1, by rw [sn]; exact k2, by rw [sn]; exact k3, Nat.le_trans h3.len k4, fun j v hj => ?_⟩
          obtain ⟨v0, g1, g2⟩ := h3.cs j v hj
          obtain ⟨u, b1, b2, b3⟩ := k5 j v0 g1
          exact ⟨u, b1, lift g2 _ b2, b3⟩,
      S.im,
      fun x u hx q' blk hq ho => by
        by_cases hlt : q' < H.length
        · rw [so q' hlt]
          by_cases e : q' = r
          · subst e
            have := S.sep x u hx 0 _ hN rfl
            rwa [G.at0] at this
          · have hr' := old q' blk hq hlt e
            rcases G.imn x u hx with h | h
            · exact hS.sep x u h q' blk hr' ho
            · have := hS.lt hr' ho
              omega
        · obtain ⟨i, rfl, hi, hmi⟩ := new q' blk hq hlt ho
          obtain ⟨nb, nb', h1, h2, h3⟩ := hM i hi
          rw [hmi] at h2
          cases h2
          rw [sn]
          exact S.sep x u hx (ρ i) nb h1 (h3.own.symm.trans ho),
      fun p p' blk blk' hp' hq' hne ho ho' => by
        have own_old : ∀ p blk, (H.set r (srcB T code a') ++ M)[p]? = some blk → p < H.length → blk.own = true → ∃ b0, H[p]? = some b0 ∧ b0.own = true := fun p blk h1 h2 h3 => by
          by_cases e : p = r
          · subst e; exact ⟨_, hr, rfl⟩
          · exact ⟨_, old p blk h1 h2 e, h3⟩
        by_cases hlt : p < H.length
        · obtain ⟨b0, h1, h1o⟩ := own_old p blk hp' hlt ho
          rw [so p hlt]
          by_cases hlt' : p' < H.length
          · obtain ⟨b1, h2, h2o⟩ := own_old p' blk' hq' hlt' ho'
            rw [so p' hlt']; exact hS.inj p p' b0 b1 h1 h2 hne h1o h2o
          · obtain ⟨i, rfl, hi, hmi⟩ := new p' blk' hq' hlt' ho'
            obtain ⟨nb, nb', g1, g2, g3⟩ := hM i hi
            rw [hmi] at g2
            cases g2
            rw [sn]
            have := hnew i hi nb g1 (g3.own.symm.trans ho')
            have := hS.lt h1 h1o
            omega
        · obtain ⟨i, rfl, hi, hmi⟩ := new p blk hp' hlt ho
          obtain ⟨nb, nb', g1, g2, g3⟩ := hM i hi
          rw [hmi] at g2
          cases g2
          rw [sn]
          by_cases hlt' : p' < H.length
          · obtain ⟨b1, h2, h2o⟩ := own_old p' blk' hq' hlt' ho'
            rw [so p' hlt']
            have := hnew i hi nb g1 (g3.own.symm.trans ho)
            have := hS.lt h2 h2o
            omega
          · obtain ⟨j, rfl, hj, hmj⟩ := new p' blk' hq' hlt' ho'
            obtain ⟨nc, nc', f1, f2, f3⟩ := hM j hj
            rw [hmj] at f2
            cases f2
            rw [sn]
            exact S.inj (ρ i) (ρ j) nb nc g1 f1 (fun e => hne (by rw [hinj i j hi hj e])) (g3.own.symm.trans ho) (f3.own.symm.trans ho'),
      F2.glob hS⟩
    exact ⟨v, he, σ'', _, d', F2, S2, lift hl _ V, hpost⟩⟩

/-- What a draw leaves. -/
def DOut (T : TypeId) (c : Nat) (R : Value → Prop) (code : List UInt8) (a : Int) (d : Value) (N : AH) : Prop :=
  ∃ v a' S, R v ∧ a ≤ a' ∧ a' ≤ a + (c : Nat) ∧ N[0]? = some (srcB T code a') ∧ S.Nodup ∧ 0 ∉ S ∧ OwnL false N [d] [v] S
theorem DOut.flat {c : Nat} {R : Value → Prop} {d : Value} {N : AH} (a' : Int) (hN : N[0]? = some (srcB T code a')) (hf : flatV d = true) (hR : R d) (h1 : a ≤ a') (h2 : a' ≤ a + (c : Nat)) : DOut T c R code a d N :=
  ⟨d, a', [], hR, h1, h2, hN, by simp, by simp, .ofF hf⟩
theorem DOut.mk {c : Nat} {R : Value → Prop} {d v : Value} {N : AH} (a' : Int) (S : List Nat) (hN : N[0]? = some (srcB T code a')) (ho : OwnL false N [d] [v] S) (hnd : S.Nodup) (h0 : 0 ∉ S) (hR : R v) (h1 : a ≤ a') (h2 : a' ≤ a + (c : Nat)) : DOut T c R code a d N :=
  ⟨v, a', S, hR, h1, h2, hN, hnd, h0, ho⟩
theorem srcB_eq (T : TypeId) (code : List UInt8) (a : Int) : srcB T code a = ⟨T, 0, [islE byteE code, .int .i64 a], 0, true⟩ := rfl
theorem get_set {H : AH} {r : Nat} {x : Blk} (h : H[r]? = some x) (b : Blk) : (H.set r b)[r]? = some b := List.getElem?_set_self (lt_of_some h)
theorem get_setne {H : AH} {r q : Nat} {x : Blk} (h : H[q]? = some x) (hne : q ≠ r) (b : Blk) : (H.set r b)[q]? = some x := by rw [List.getElem?_set_ne (Ne.symm hne)]; exact h
theorem tmod_nat (m n : Nat) : ((m : Int)).tmod (n : Int) = ((m % n : Nat) : Int) := by
  rw [Int.tmod_eq_emod_of_nonneg (by omega)]
  rfl
theorem tdiv_nat (m n : Nat) : ((m : Int)).tdiv (n : Int) = ((m / n : Nat) : Int) := by
  rw [Int.tdiv_eq_ediv_of_nonneg (by omega)]
  rfl
theorem wr_nat {m : Nat} (h : m ≤ 9223372036854775807) : IntKind.i64.wrap (m : Int) = (m : Int) := by rw [wr] <;> omega
theorem wr_byte (x : UInt8) : IntKind.i64.wrap ((x.toNat : Nat) : Int) = ((x.toNat : Nat) : Int) := wr_nat (by have := x.toNat_lt; omega)
/-- THE CONTRACT of a draw: the source stands ahead; what comes is a value of which R holds, in new memory; c draws at most. -/
def DCalls (P : Program) (T : TypeId) (c : Nat) (f : FuncId) (args : List Value) (R : Value → Prop) : Prop :=
  ∀ (code : List UInt8) (a : Int), code.length ≤ 1048576 → 0 ≤ a → a + (c : Nat) ≤ 1000000 → ACalls P 0 f (ptr0 :: args) [srcB T code a] fun d N => DOut T c R code a d N

/-- What is drawn, in new memory. -/
theorem DCalls.own {c : Nat} {f : FuncId} {args : List Value} {R : Value → Prop} (h : DCalls P T c f args R) (hr : H[r]? = some (srcB T code a)) (hB : B ≤ r) (hi : ∀ d ∈ args, Im d) (hc : code.length ≤ 1048576) (h0 : 0 ≤ a) (h1 : a + (c : Nat) ≤ 1000000) :
    ACalls P B f (.pointer (some ⟨r, 0, some 0⟩) :: args) H fun d H' => ∃ v a' S, R v ∧ a ≤ a' ∧ a' ≤ a + (c : Nat) ∧ New (H.set r (srcB T code a')) H' d v S := by
  refine ACalls.liftS (h code a hc h0 h1) hr hB hi ?_
  rintro d N ⟨v, a', S, hR, ha1, ha2, hN, hnd, h0S, ho⟩
  obtain ⟨dl, MS, g1, g2, g3, g4⟩ := ho.lift (k := H.length) (S0 := S) [] [] (by simp)
  obtain ⟨S', k1, k2, k3⟩ := g4 (H.set r (srcB T code a')) MS (by simp) (fun i _ => by simp)
  have hl := g1.at.1
  obtain ⟨d', rfl⟩ : ∃ d', dl = [d'] := by
    cases dl with
    | nil => simp at hl
    | cons d' t => cases t with
      | nil => exact ⟨d', rfl⟩
      | cons _ _ => simp at hl
  refine ⟨a', fun i => S.getD i 0, fun i => i < S.length, MS, d', hN, fun i j hi hj e => ?_, fun i hi e => ?_, ?_, fun i b' hb' _ => by have := lt_of_some hb'; omega, fun i hi => ?_, v, a', S', hR, ha1, ha2, ?_⟩
  · have hi' : i < S.length := hi
    have hj' : j < S.length := hj
    simp only [List.getD, List.getElem?_eq_getElem hi', List.getElem?_eq_getElem hj', Option.getD_some] at e
    rcases Nat.lt_trichotomy i j with h | h | h
    · exact absurd e (List.pairwise_iff_getElem.1 hnd i j hi' hj' h)
    · exact h
    · exact absurd e.symm (List.pairwise_iff_getElem.1 hnd j i hj' hi' h)
  · have hi' : i < S.length := hi
    simp only [List.getD, List.getElem?_eq_getElem hi', Option.getD_some] at e
    exact h0S (by rw [← e]; exact List.getElem_mem hi')
  · exact g1.at.2 0 (by simp) (by simp)
  · have hi' : i < MS.length := by rw [g2]; exact hi
    obtain ⟨b, q1, q2⟩ := g3 i _ (List.getElem?_eq_getElem hi')
    exact ⟨b, _, q1, List.getElem?_eq_getElem hi', q2⟩
  · exact ⟨by simp, fun q hq => List.getElem?_append_left hq, k1, k2, fun q hq => by have := k3 q hq; simp at this ⊢; omega⟩

/-- What is drawn, as a value that nobody writes any more. -/
theorem DCalls.val {c : Nat} {f : FuncId} {args : List Value} {R : Value → Prop} (h : DCalls P T c f args R) (hr : H[r]? = some (srcB T code a)) (hB : B ≤ r) (hi : ∀ d ∈ args, Im d) (hc : code.length ≤ 1048576) (h0 : 0 ≤ a) (h1 : a + (c : Nat) ≤ 1000000) :
    ACalls P B f (.pointer (some ⟨r, 0, some 0⟩) :: args) H fun d H' => ∃ a', R d ∧ Im d ∧ a ≤ a' ∧ a' ≤ a + (c : Nat) ∧ H' = H.set r (srcB T code a') :=
  ⟨h code a hc h0 h1 |>.1, fun σ w vals hS hBl hvl => ((h code a hc h0 h1).2 ⟨fun _ => σ r, σ.im⟩ w vals (src_sim hS hr) (Nat.zero_le _) (src_args hS hr hi hvl)).mono fun e w' ⟨x, he, σ', N, d, F, S, V, v, a', Sb, hR, ha1, ha2, hN, hnd, h0S, ho⟩ => by
    have G := src_fut F S hN
    have hrl := lt_of_some hr
    -- the source put aside: the rest, as it stands
    obtain ⟨Fv, Sv⟩ := void_sound (B := 0) (blk' := ⟨T, 0, [], 1, false⟩) S hN (Nat.le_refl _) (by show (0 : Nat) < 1; omega) rfl
    have ho' : OwnL false (N.set 0 ⟨T, 0, [], 1, false⟩) [d] [v] Sb := ho.frame fun q hq => List.getElem?_set_ne fun e => h0S (by rw [e]; exact hq)
    have hVs := bor_vr Sv ho'.bor1 x (V.fut Fv)
    have hIm : Im v := ho.im1
    have hss := snap_sim Sv
    let σ'' : Sg := ⟨σ.loc, (snap σ' (N.set 0 ⟨T, 0, [], 1, false⟩) w').im⟩
    have imold : ∀ y u, (snap σ' (N.set 0 ⟨T, 0, [], 1, false⟩) w').im y = some u → σ.im y = some u ∨ w.heap.size ≤ y.block := fun y u hy => by
      unfold snap at hy
      dsimp only at hy
      cases him : σ'.im y with
      | some u' => rw [him] at hy; cases hy; exact G.imn y _ him
      | none =>
        rw [him] at hy
        dsimp only at hy
        split at hy
        case isFalse => cases hy
        rename_i hx
        obtain ⟨q, blk, hb, hbo, e1, e2, e3⟩ := hx
        by_cases e : q = 0
        · subst e
          rw [List.getElem?_set_self (lt_of_some hN)] at hb
          cases hb
          cases hbo
        · rw [List.getElem?_set_ne (Ne.symm e)] at hb
          rcases F.loc q blk hb hbo with ⟨b0, g, _⟩ | g
          · exact absurd (one_get g).1 e
          · exact .inr (by rw [e1] at g; exact g)
    have sepr : ∀ y u, (snap σ' (N.set 0 ⟨T, 0, [], 1, false⟩) w').im y = some u → (σ r).b ≠ y.block := fun y u hy => by
      rcases imold y u hy with h | h
      · exact hS.sep y u h r _ hr rfl
      · have := hS.lt hr rfl
        omega
    have F2 : Fut B σ H w σ'' (H.set r (srcB T code a')) w' := {
      os := G.os
      tape := G.tape
      output := G.output
      size := G.size
      frame := fun k hk hne => G.frame k hk (hne r _ hB hr rfl)
      pre := fun q hq => by rw [List.getElem?_set_ne (by omega)]
      preσ := fun q hq hql => rfl
      keep := fun q blk h => by
        by_cases e : q = r
        · subst e
          rw [hr] at h
          cases h
          exact ⟨_, List.getElem?_set_self hrl, Nat.le_refl _, fun _ => ⟨rfl, rfl, rfl⟩⟩
        · exact ⟨blk, by rw [List.getElem?_set_ne (Ne.symm e)]; exact h, Nat.le_refl _, fun _ => ⟨rfl, rfl, rfl⟩⟩
      loc := fun q blk' hq ho => by
        by_cases e : q = r
        · subst e; exact .inl ⟨_, hr, rfl, rfl⟩
        · rw [List.getElem?_set_ne (Ne.symm e)] at hq
          exact .inl ⟨blk', hq, ho, rfl⟩
      imk := fun y u hy => snap_im (G.imk y u hy)
      imn := fun y u hy => by
        rcases imold y u hy with h | h
        · exact .inl h
        · exact .inr (.inl h) }
    have S2 : Sim σ'' (H.set r (srcB T code a')) w' := ⟨fun q blk hq ho => by
        by_cases e : q = r
        · subst e
          rw [List.getElem?_set_self hrl] at hq
          cases hq
          obtain ⟨c, h1, h2, h3, h4, h5⟩ := S.own 0 _ hN rfl
          rw [G.at0] at h1 h2 h3
          refine ⟨c, h1, h2, h3, h4, fun j v hj => ?_⟩
          obtain ⟨u, b1, b2, b3⟩ := h5 j v hj
          exact ⟨u, b1, b2.im (srcB_im T code a' v (List.mem_of_getElem? hj)) fun _ _ h => snap_im h, b3⟩
        · rw [List.getElem?_set_ne (Ne.symm e)] at hq
          obtain ⟨c, h1, h2, h3, h4, h5⟩ := hS.own q blk hq ho
          refine ⟨c, by show w'.heap[(σ q).b]? = _; rw [G.frame _ (hS.lt hq ho) (hS.inj r q _ _ hr hq (Ne.symm e) rfl ho)]; exact h1, h2, h3, h4, fun j v hj => ?_⟩
          obtain ⟨u, b1, b2, b3⟩ := h5 j v hj
          exact ⟨u, b1, b2.fut F2, b3⟩,
      hss.im,
      fun y u hy q blk hq ho => by
        by_cases e : q = r
        · subst e; exact sepr y u hy
        · rw [List.getElem?_set_ne (Ne.symm e)] at hq
          rcases imold y u hy with h | h
          · exact hS.sep y u h q blk hq ho
          · have := hS.lt hq ho
            show (σ q).b ≠ _
            omega,
      fun p p' blk blk' hp' hq' hne ho ho' => by
        have own_old : ∀ (p : Nat) (blk : Blk), (H.set r (srcB T code a'))[p]? = some blk → blk.own = true → ∃ b0 : Blk, H[p]? = some b0 ∧ b0.own = true := fun p blk h1 h3 => by
          by_cases e : p = r
          · subst e; exact ⟨_, hr, rfl⟩
          · rw [List.getElem?_set_ne (Ne.symm e)] at h1
            exact ⟨_, h1, h3⟩
        obtain ⟨b0, h1, h1o⟩ := own_old p blk hp' ho
        obtain ⟨b1, h2, h2o⟩ := own_old p' blk' hq' ho'
        exact hS.inj p p' b0 b1 h1 h2 hne h1o h2o,
      F2.glob hS⟩
    exact ⟨x, he, σ'', _, v, F2, S2, hVs.im hIm fun _ _ h => h, a', hR, hIm, ha1, ha2, rfl⟩⟩
/-- A call by values, of which some value comes: at any heap. -/
theorem ACalls.ofE {f : FuncId} {args : List Value} {R : Value → Prop} (h : ACalls P 0 f args [] fun d N => ∃ v, R v ∧ Im v ∧ Bor N d v) (hi : ∀ d ∈ args, Im d) : ACalls P B f args H fun d H' => R d ∧ Im d ∧ H' = H :=
  ⟨h.1, fun σ w vals hS hB hvl => by
    have hS0 : Sim ⟨σ.loc, σ.im⟩ [] w := ⟨fun r blk h => by simp at h, hS.im, fun a u h r blk hb => by simp at hb, fun r r' blk blk' h => by simp at h, hS.glob⟩
    refine (h.2 ⟨σ.loc, σ.im⟩ w vals hS0 (Nat.le_refl _) (hvl.im hi fun _ _ h => h)).mono fun e w' ⟨x, he, σ', H', d, h1, h2, h3, v, hR, hIm, ho⟩ => ?_
    obtain ⟨F, S⟩ := keep_sim (B := B) hS (snap_fut h1) (snap_sim h2)
    exact ⟨x, he, _, H, v, F, S, (bor_vr h2 ho x h3).im hIm fun _ _ h => h, hR, hIm, rfl⟩⟩
end
end Go.BM
/- Cuts behind drawn regions: what is in hand, told anew. -/
set_option linter.unusedVariables false
set_option linter.unusedSimpArgs false
namespace Go.BM
open Go.RowKit
section
variable {P : Program} {n B : Nat} {c : Code} {Q : Exit → Env → AH → Prop} {e : Env} {H : AH} {f : FuncId} {args : List Value} {k : Value → AH → Prop} {os : List (Value × Value × List Nat)} {bs : List (Nat × Blk)} {b : Blk}
theorem AWp.absb (hc : Cx H os bs) (h : ∀ H', Cx H' os ((H.length, b) :: bs) → AWp P n B c Q e H') : AWp P n B c Q e (H ++ [b]) := h _ (hc.push b)
theorem ACalls.absbL (hc : Cx H os bs) (h : ∀ H', H'.length = H.length + 1 → Cx H' os ((H.length, b) :: bs) → ACalls P B f args H' k) : ACalls P B f args (H ++ [b]) k := h _ (by simp) (hc.push b)
/-- Behind a cut: a thing more in hand, and a box that holds it. -/
def CxE (hc : Cx H os bs) (q : Nat) (T : TypeId) (v : Value) (sh : List Value → Prop) (e' : Env) (H' : AH) : Prop :=
  ∃ (r : Nat) (xs : List Value) (S : List Nat), e' q = .pointer (some ⟨r, 0, some 0⟩) ∧ sh xs ∧ Cx H' (os ++ [(.agg xs.toArray, v, S)]) ((r, ⟨T, 0, xs, 0, true⟩) :: bs)
theorem get_c0 {N : AH} {b : Blk} : (N ++ [b])[N.length]? = some b := by simp
theorem get_c1 {b0 b : Blk} {N : AH} : (b0 :: (N ++ [b]))[N.length + 1]? = some b := by simp
theorem get_c2 {b0 b1 b : Blk} {N : AH} : (b0 :: b1 :: (N ++ [b]))[N.length + 1 + 1]? = some b := by simp
theorem get_c3 {b0 b1 b2 b : Blk} {N : AH} : (b0 :: b1 :: b2 :: (N ++ [b]))[N.length + 1 + 1 + 1]? = some b := by simp
theorem get_c4 {b0 b1 b2 b3 b : Blk} {N : AH} : (b0 :: b1 :: b2 :: b3 :: (N ++ [b]))[N.length + 1 + 1 + 1 + 1]? = some b := by simp
theorem get_c2m {b0 b1 b c : Blk} {N : AH} : (b0 :: b1 :: (N ++ [c, b]))[N.length + 1 + 1 + 1]? = some b := by rw [show N ++ [c, b] = (N ++ [c]) ++ [b] by simp, show N.length + 1 + 1 + 1 = (N ++ [c]).length + 1 + 1 by simp]; exact get_c2
theorem get_c3m {b0 b1 b2 b c : Blk} {N : AH} : (b0 :: b1 :: b2 :: (N ++ [c, b]))[N.length + 1 + 1 + 1 + 1]? = some b := by rw [show N ++ [c, b] = (N ++ [c]) ++ [b] by simp, show N.length + 1 + 1 + 1 + 1 = (N ++ [c]).length + 1 + 1 + 1 by simp]; exact get_c3
theorem DCalls.mono {T : TypeId} {c : Nat} {R R' : Value → Prop} (h : DCalls P T c f args R) (hR : ∀ v, R v → R' v) : DCalls P T c f args R' :=
  fun code a hc h0 h1 => (h code a hc h0 h1).mono fun d N ⟨v, a', S, g1, g2⟩ => ⟨v, a', S, hR v g1, g2⟩
def DFOut (T : TypeId) (c : Nat) (R : List Blk → ((Nat → Nat) → Value) → Prop) (code : List UInt8) (a : Int) (d : Value) (N : AH) : Prop :=
  ∃ bs F a' ρ, R bs F ∧ a ≤ a' ∧ a' ≤ a + (c : Nat) ∧ N[0]? = some (srcB T code a') ∧ d = F ρ ∧
    (∀ i, i < bs.length → ρ i ≠ 0 ∧ N[ρ i]? = bs[i]?) ∧ (∀ i j, i < bs.length → j < bs.length → ρ i = ρ j → i = j)
theorem DFOut.none {T : TypeId} {c : Nat} {R : List Blk → ((Nat → Nat) → Value) → Prop} {code : List UInt8} {a : Int} {d : Value} {N : AH} {F : (Nat → Nat) → Value} (a' : Int) (hN : N[0]? = some (srcB T code a')) (hR : R [] F) (hd : d = F fun _ => 0) (h1 : a ≤ a') (h2 : a' ≤ a + (c : Nat)) : DFOut T c R code a d N :=
  ⟨[], F, a', _, hR, h1, h2, hN, hd, fun i hi => by simp at hi, fun i j hi => by simp at hi⟩
theorem DFOut.one {T : TypeId} {c : Nat} {R : List Blk → ((Nat → Nat) → Value) → Prop} {code : List UInt8} {a : Int} {d : Value} {N : AH} {F : (Nat → Nat) → Value} {b : Blk} (a' : Int) (q : Nat) (hN : N[0]? = some (srcB T code a')) (hq : N[q]? = some b) (hR : R [b] F) (hd : d = F fun _ => q) (h0 : q ≠ 0) (h1 : a ≤ a') (h2 : a' ≤ a + (c : Nat)) : DFOut T c R code a d N :=
  ⟨[b], F, a', _, hR, h1, h2, hN, hd, fun i hi => by simp at hi; subst hi; exact ⟨h0, hq⟩, fun i j hi hj _ => by simp at hi hj; omega⟩
theorem DFOut.two {T : TypeId} {c : Nat} {R : List Blk → ((Nat → Nat) → Value) → Prop} {code : List UInt8} {a : Int} {d : Value} {N : AH} {F : (Nat → Nat) → Value} {b b' : Blk} (a' : Int) (q q' : Nat) (hN : N[0]? = some (srcB T code a')) (hq : N[q]? = some b) (hq' : N[q']? = some b') (hR : R [b, b'] F) (hd : d = F fun i => if i = 0 then q else q') (h0 : q ≠ 0) (h0' : q' ≠ 0) (hne : q ≠ q') (h1 : a ≤ a') (h2 : a' ≤ a + (c : Nat)) : DFOut T c R code a d N :=
  ⟨[b, b'], F, a', _, hR, h1, h2, hN, hd, fun i hi => by
    have : i = 0 ∨ i = 1 := by simp at hi; omega
    rcases this with rfl | rfl
    · exact ⟨h0, hq⟩
    · exact ⟨h0', hq'⟩, fun i j hi hj e => by
    have h1 : i = 0 ∨ i = 1 := by simp at hi; omega
    have h2 : j = 0 ∨ j = 1 := by simp at hj; omega
    rcases h1 with rfl | rfl <;> rcases h2 with rfl | rfl
    · rfl
    · simp at e; exact absurd e hne
    · simp at e; exact absurd e.symm hne
    · rfl⟩
/-- THE CONTRACT of a draw that hands back blocks of its own, each told: blocks, and the value out of their numbers. -/
def DFun (P : Program) (T : TypeId) (c : Nat) (f : FuncId) (args : List Value) (R : List Blk → ((Nat → Nat) → Value) → Prop) : Prop :=
  ∀ (code : List UInt8) (a : Int), code.length ≤ 1048576 → 0 ≤ a → a + (c : Nat) ≤ 1000000 → ACalls P 0 f (ptr0 :: args) [srcB T code a] fun d N => DFOut T c R code a d N
structure Shp (bs : List Blk) (F : (Nat → Nat) → Value) : Prop where
  fl : ∀ b ∈ bs, ∀ c ∈ b.cs, flatV c = true
  lif : ∀ N ρ k, Lif N ρ (fun i => i < bs.length) k (F ρ) (F fun i => k + i)
theorem DFun.use {T : TypeId} {c r : Nat} {R : List Blk → ((Nat → Nat) → Value) → Prop} {code : List UInt8} {a : Int} (h : DFun P T c f args R) (hsh : ∀ bs F, R bs F → Shp bs F) (hr : H[r]? = some (srcB T code a)) (hB : B ≤ r) (hi : ∀ d ∈ args, Im d) (hc : code.length ≤ 1048576) (h0 : 0 ≤ a) (h1 : a + (c : Nat) ≤ 1000000) :
    ACalls P B f (.pointer (some ⟨r, 0, some 0⟩) :: args) H fun d H' => ∃ bs F a', R bs F ∧ a ≤ a' ∧ a' ≤ a + (c : Nat) ∧ d = F (fun i => H.length + i) ∧ H' = H.set r (srcB T code a') ++ bs := by
  refine ACalls.liftS (h code a hc h0 h1) hr hB hi ?_
  rintro d N ⟨bs, F, a', ρ, hR, ha1, ha2, hN, rfl, hb, hinj⟩
  have sh := hsh bs F hR
  refine ⟨a', ρ, fun i => i < bs.length, bs, _, hN, fun i j hi hj e => hinj i j hi hj e, fun i hi => (hb i hi).1, sh.lif N ρ H.length, fun i b' hb' _ => lt_of_some hb', fun i hi => ?_, bs, F, a', hR, ha1, ha2, rfl, rfl⟩
  have hi' : i < bs.length := hi
  refine ⟨bs[i], bs[i], by rw [(hb i hi).2]; exact List.getElem?_eq_getElem hi', List.getElem?_eq_getElem hi', ⟨rfl, rfl, rfl, rfl, Nat.le_refl _, fun j v hj => ⟨v, hj, .flat v (sh.fl _ (List.getElem_mem hi') v (List.mem_of_getElem? hj))⟩⟩⟩
theorem DFun.calls {T : TypeId} {c : Nat} {R : List Blk → ((Nat → Nat) → Value) → Prop} {R' : Value → Prop} (h : DFun P T c f args R) (hv : ∀ bs F, R bs F → ∃ v, R' v ∧ ∀ N ρ, (∀ i, i < bs.length → N[ρ i]? = bs[i]?) → OwnL false N [F ρ] [v] ((List.range bs.length).map ρ)) : DCalls P T c f args R' :=
  fun code a hc h0 h1 => (h code a hc h0 h1).mono fun d N ⟨bs, F, a', ρ, hR, ha1, ha2, hN, hd, hb, hinj⟩ => by
    subst hd
    obtain ⟨v, hv1, hv2⟩ := hv bs F hR
    refine DOut.mk a' _ hN (hv2 N ρ fun i hi => (hb i hi).2) ?_ ?_ hv1 ha1 ha2
    · refine List.pairwise_map.2 ?_
      refine (List.pairwise_lt_range (n := bs.length)).imp_of_mem fun hi hj hlt e => ?_
      have := hinj _ _ (List.mem_range.1 hi) (List.mem_range.1 hj) e
      omega
    · intro hm
      obtain ⟨i, hi, e⟩ := List.mem_map.1 hm
      exact (hb i (List.mem_range.1 hi)).1 e
/-- One block: the value made of it. -/
theorem Shp.one {el sz ver : Nat} {o : Bool} {cs : List Value} {F : (Nat → Nat) → Value} (hf : ∀ c ∈ cs, flatV c = true) (hl : ∀ N ρ k, Lif N ρ (fun i => i < 1) k (F ρ) (F fun i => k + i)) : Shp [⟨el, sz, cs, ver, o⟩] F :=
  ⟨fun b hb c hc => by simp at hb; subst hb; exact hf c hc, hl⟩
theorem Shp.none {F : (Nat → Nat) → Value} (hl : ∀ N ρ k, Lif N ρ (fun i => i < 0) k (F ρ) (F fun i => k + i)) : Shp [] F := ⟨fun b hb => by simp at hb, hl⟩
theorem LifL.aggL {N : AH} {ρ : Nat → Nat} {q : Nat → Prop} {k : Nat} {xs m : List Value} (h : LifL N ρ q k xs m) : Lif N ρ q k (.agg xs.toArray) (.agg m.toArray) := LifL.agg (by simpa using h)
/-- One thing more, behind a list that is ours. -/
theorem appendH_one {α : Type} {E : Enc α} {H0 : AH} {t tx el by_ r ver : Nat} {z : TypeId × Nat × Nat} {ys : List α} (y : α) (hz : elZ P t = some (el, E.sz, by_)) (hzx : elZ P tx = some z) (hok : zOk P el E.sz = true) (hb : H0[r]? = some ⟨el, E.sz, E.flat ys, ver, true⟩) (hB : B ≤ r)
    (h1 : (ys.length + 1) * by_ ≤ 140737488355328) (h2 : ys.length + 1 ≤ 140737488355328) :
    appendH P B (H0 ++ [⟨el, E.sz, cellsV (E.val y), 0, true⟩]) t tx (.slice (some ⟨r, 0, none⟩) ys.length ver) (.slice (some ⟨H0.length, 0, none⟩) 1 0) = some (.slice (some ⟨r, 0, none⟩) (ys.length + 1) (ver + 1), H0.set r ⟨el, E.sz, E.flat (ys ++ [y]), ver + 1, true⟩ ++ [⟨el, E.sz, cellsV (E.val y), 0, true⟩]) := by
  have := appendH_sb (P := P) (B := B) (H := H0 ++ [⟨el, E.sz, cellsV (E.val y), 0, true⟩]) (E := E) (xs := ys) (ys := [y]) (r := r) (x := .slice (some ⟨H0.length, 0, none⟩) 1 0) (t := t) (tx := tx) (o := true) (ver := ver) hz hok (by rw [List.getElem?_append_left (lt_of_some hb)]; exact hb) hB
    (srcV_own hzx (by rw [List.getElem?_append_right (Nat.le_refl _), Nat.sub_self]; rfl) rfl rfl (by simp only [E.flat_one, List.drop_zero, List.length_cons, List.length_nil, Nat.zero_add, Nat.one_mul]; exact List.take_of_length_le (by rw [E.hsz]; exact Nat.le_refl _)) (by simp [E.hsz])) h1 h2
  rw [this, List.set_append_left _ _ (lt_of_some hb)]
  simp [sb]
end
end Go.BM
/- What comes in new memory, told as a value that nobody writes. -/
set_option linter.unusedVariables false
set_option linter.unusedSimpArgs false
namespace Go.BM
open Go.RowKit
section
variable {P : Program} {B : Nat} {σ σ' τ : Sg} {H N : AH} {w w' : World}

theorem own_cells (hS : Sim σ' N w') (hτ : ∀ r blk, N[r]? = some blk → blk.own = true → ∀ j, j < blk.cs.length → ∀ u, w'.cell? ⟨(σ' r).b, (σ' r).base + j, none⟩ = some u → τ.im ⟨(σ' r).b, (σ' r).base + j, none⟩ = some u)
    {r : Nat} {blk : Blk} {cs : List Value} (h : N[r]? = some blk) (ho : blk.own = true) (hl : cs.length ≤ blk.cs.length)
    (ih : ∀ us, VRL σ' N us (blk.cs.take cs.length) → VRL τ [] us cs) :
    ∃ us : List Value, us.length = cs.length ∧ (∀ (j : Nat) u, us[j]? = some u → τ.im ⟨(σ' r).b, (σ' r).base + j, none⟩ = some u) ∧ ∀ (j : Nat) u, cs[j]? = some u → ∃ x, us[j]? = some x ∧ VR τ [] x u := by
  obtain ⟨us, h1, h2, h3⟩ := hS.cells h ho 0 cs.length (by omega)
  have hv : VRL σ' N us (blk.cs.take cs.length) := ⟨by simp; omega, fun j u hj => by
    obtain ⟨hjl, rfl⟩ := List.getElem?_eq_some_iff.1 hj
    have hju : j < us.length := by simp at hjl; omega
    exact ⟨_, List.getElem?_eq_getElem hju, by simpa using h3 j hju (by simpa using hjl)⟩⟩
  refine ⟨us, h1, fun j u hj => ?_, (ih us hv).2⟩
  have hjl : j < us.length := (List.getElem?_eq_some_iff.1 hj).1
  have := (h2 j u hj).1
  simp only [Nat.add_zero] at this
  exact hτ r blk h ho j (by omega) u this

theorem own_vr (hS : Sim σ' N w') (hτ : ∀ r blk, N[r]? = some blk → blk.own = true → ∀ j, j < blk.cs.length → ∀ u, w'.cell? ⟨(σ' r).b, (σ' r).base + j, none⟩ = some u → τ.im ⟨(σ' r).b, (σ' r).base + j, none⟩ = some u)
    {x : Bool} {l l' : List Value} {S : List Nat} (h : OwnL x N l l' S) : ∀ us, VRL σ' N us l → VRL τ [] us l' := by
  have split : ∀ {us : List Value} {d : Value} {l : List Value}, VRL σ' N us (d :: l) → ∃ u t, us = u :: t ∧ VR σ' N u d ∧ VRL σ' N t l := fun {us d l} hv => by
    cases us with
    | nil => have := hv.1; simp at this
    | cons u t =>
      obtain ⟨y, h1, h2⟩ := hv.2 0 d rfl
      simp at h1
      subst h1
      exact ⟨u, t, rfl, h2, by have := hv.1; simpa using this, fun j z hz => by simpa using hv.2 (j + 1) z (by simpa using hz)⟩
  have join : ∀ {u y : Value} {t l : List Value}, VR τ [] u y → VRL τ [] t l → VRL τ [] (u :: t) (y :: l) := fun {u y t l} h1 h2 => ⟨by have := h2.1; simp [this], fun j z hz => by
    cases j with
    | zero => simp at hz; subst hz; exact ⟨u, rfl, h1⟩
    | succ j => simpa using h2.2 j z (by simpa using hz)⟩
  induction h with
  | nil => exact fun us hv => ⟨by simpa using hv.1, fun j u hu => by simp at hu⟩
  | flat h _ ih =>
    intro us hv
    obtain ⟨u, t, rfl, h1, h2⟩ := split hv
    have := h1.flatE h
    subst this
    exact join (.flat _ h) (ih t h2)
  | nils _ ih =>
    intro us hv
    obtain ⟨u, t, rfl, h1, h2⟩ := split hv
    obtain ⟨a, rfl⟩ := h1.sliceNil rfl
    have := VR.isl0 (σ := τ) (H := []) a 0 (Nat.zero_le _)
    exact join (by simpa [isl] using this) (ih t h2)
  | @emp r sp blk l l' S h ho _ ih =>
    intro us hv
    obtain ⟨u, t, rfl, h1, h2⟩ := split hv
    refine join ?_ (ih t h2)
    cases h1 with
    | flat _ h => simp [flatV] at h
    | mt a _ _ hd =>
      have := VR.isl0 (σ := τ) (H := []) a 0 (Nat.zero_le _)
      simpa [isl] using this
    | slice _ _ _ cap _ _ blk' h' hv2 ho hl hsp hm hc =>
      have := VR.isl0 (σ := τ) (H := []) (some ⟨(σ' r).b, (σ' r).base + 0, none⟩) cap hm
      simpa [isl] using this
    | stale _ _ _ _ _ blk' h' hv' => rw [h] at h'; cases h'; omega
  | @slice r sp len blk cs l l' S T h ho hl hx hn hc t ihc iht =>
    intro us hv
    obtain ⟨u, t, rfl, h1, h2⟩ := split hv
    refine join ?_ (iht t h2)
    have hg : getB N r blk.ver = some blk.cs := by simp [getB, h, ho]
    rcases h1.sliceI hg with ⟨rfl, _, a, rfl⟩ | ⟨cap, blk', hb', rfl, hlc, hsp, hcm, hcn⟩
    · have hcs := hn rfl
      subst hcs
      have := VR.isl0 (σ := τ) (H := []) a 0 (Nat.zero_le _)
      simpa [isl] using this
    · obtain ⟨us, l1, l2, l3⟩ := own_cells (τ := τ) hS hτ h ho hl ihc
      have := VR.mkI (σ := τ) (H := []) (b := (σ' r).b) (o := (σ' r).base) hlc hcm l1 l2 l3
      simpa using this
  | @agg xs ys S T l l' hx _ ihx iht =>
    intro us hv
    obtain ⟨u, t, rfl, h1, h2⟩ := split hv
    obtain ⟨zs, rfl, hz, hzv⟩ := h1.aggI
    refine join ?_ (iht t h2)
    have := (ihx zs.toList ⟨by simpa using hz, fun j z hj => by
      obtain ⟨hjl, rfl⟩ := List.getElem?_eq_some_iff.1 hj
      have hjz : j < zs.size := by simp at hjl; omega
      exact ⟨zs[j], by simp [hjz], by simpa using hzv j hjz (by simpa using hjl)⟩⟩).toAgg
    simpa using this
  | @tup xs ys S T l l' hx _ ihx iht =>
    intro us hv
    obtain ⟨u, t, rfl, h1, h2⟩ := split hv
    obtain ⟨zs, rfl, hz, hzv⟩ := h1.tupleI
    refine join ?_ (iht t h2)
    have hq := ihx zs.toList ⟨by simpa using hz, fun j z hj => by
      obtain ⟨hjl, rfl⟩ := List.getElem?_eq_some_iff.1 hj
      have hjz : j < zs.size := by simp at hjl; omega
      exact ⟨zs[j], by simp [hjz], by simpa using hzv j hjz (by simpa using hjl)⟩⟩
    refine .tuple _ _ (by simpa using hq.1) fun i h1 h2 => ?_
    obtain ⟨x, hx1, hx2⟩ := hq.2 i ys[i] (by simp [h2])
    have e : zs[i] = x := by
      have : zs.toList[i]? = some zs[i] := by simp [h1]
      rw [this] at hx1
      exact Option.some.inj hx1
    rw [e]; exact hx2

open Classical in
/-- What is known of memory ahead of a call, and the new blocks behind it. -/
noncomputable def newIm (σ : Sg) (w : World) (σ' : Sg) (N : AH) (w' : World) : Sg :=
  ⟨σ.loc, fun a => match σ.im a with
    | some u => some u
    | none => if w.heap.size ≤ a.block ∧ a.spot = none ∧ ∃ r blk, N[r]? = some blk ∧ blk.own = true ∧ (σ' r).b = a.block ∧ a.off < blk.cs.length then w'.cell? a else none⟩

/-- A thing in new memory that nobody marks: a value. -/
theorem NCalls.val {f : FuncId} {args args' : List Value} {v : Value} {k : Value → AH → Prop} (h : NCalls P f args' v) (hb : BorL H args args') (hk : k v H) : ACalls P B f args H k :=
  ⟨h.1, fun σ w vals hS hB hvl => (h.2 (snap σ H w) w vals (snap_sim hS) (Nat.le_refl _) (hb.vr hS _ hvl)).mono fun e w' ⟨x, he, σ', N, d, F, S, V, Sb, hnd, ho⟩ => by
    have b := F.below0
    have hnew : ∀ r blk, N[r]? = some blk → blk.own = true → w.heap.size ≤ (σ' r).b := fun r blk h1 h2 => by
      rcases F.loc r blk h1 h2 with ⟨b0, g, _⟩ | g
      · simp at g
      · exact g
    have hτ : ∀ r blk, N[r]? = some blk → blk.own = true → ∀ j, j < blk.cs.length → ∀ u, w'.cell? ⟨(σ' r).b, (σ' r).base + j, none⟩ = some u → (newIm σ w σ' N w').im ⟨(σ' r).b, (σ' r).base + j, none⟩ = some u := fun r blk h1 h2 j hj u hu => by
      have hge := hnew r blk h1 h2
      obtain ⟨c, _, hbase, _⟩ := S.own r blk h1 h2
      unfold newIm
      dsimp only
      cases him : σ.im ⟨(σ' r).b, (σ' r).base + j, none⟩ with
      | some u' => have := hS.imlt him; dsimp only at this; omega
      | none =>
        dsimp only
        rw [if_pos ⟨hge, rfl, r, blk, h1, h2, rfl, by rw [hbase, Nat.zero_add]; exact hj⟩]
        exact hu
    have hv := own_vr (τ := newIm σ w σ' N w') S hτ ho [x] ⟨rfl, fun j u hj => by
      cases j with
      | zero => simp at hj; subst hj; exact ⟨x, rfl, V⟩
      | succ j => simp at hj⟩
    obtain ⟨y, hy1, hy2⟩ := hv.2 0 v rfl
    simp at hy1
    subst hy1
    have imcase : ∀ a u, (newIm σ w σ' N w').im a = some u → σ.im a = some u ∨ (w.heap.size ≤ a.block ∧ a.spot = none ∧ w'.cell? a = some u ∧ ∃ r blk, N[r]? = some blk ∧ blk.own = true ∧ (σ' r).b = a.block ∧ a.off < blk.cs.length) := fun a u ha => by
      unfold newIm at ha
      dsimp only at ha
      cases him : σ.im a with
      | some u' => rw [him] at ha; cases ha; exact .inl rfl
      | none =>
        rw [him] at ha
        dsimp only at ha
        split at ha
        case isFalse => cases ha
        rename_i hx
        exact .inr ⟨hx.1, hx.2.1, ha, hx.2.2⟩
    have F2 : Fut B σ H w (newIm σ w σ' N w') H w' := {
      os := b.os
      tape := b.tape
      output := b.output
      size := b.size
      frame := fun k hk _ => b.block k hk
      pre := fun _ _ => rfl
      preσ := fun _ _ _ => rfl
      keep := fun r blk h => ⟨blk, h, Nat.le_refl _, fun _ => ⟨rfl, rfl, rfl⟩⟩
      loc := fun r blk h ho => .inl ⟨blk, h, ho, rfl⟩
      imk := fun a u hu => by unfold newIm; simp only [hu]
      imn := fun a u hu => by
        rcases imcase a u hu with h1 | h1
        · exact .inl h1
        · exact .inr (.inl h1.1) }
    have S2 : Sim (newIm σ w σ' N w') H w' := ⟨fun r blk h1 h2 => by
        obtain ⟨c, k1, k2, k3, k4, k5⟩ := hS.own r blk h1 h2
        refine ⟨c, by show w'.heap[(σ r).b]? = _; rw [b.block _ (hS.lt h1 h2)]; exact k1, k2, k3, k4, fun j v hj => ?_⟩
        obtain ⟨u, a1, a2, a3⟩ := k5 j v hj
        exact ⟨u, a1, a2.fut F2, a3⟩,
      fun a u ha => by
        rcases imcase a u ha with h1 | ⟨h1, h2, h3, r, blk, g1, g2, g3, g4⟩
        · obtain ⟨k1, k2⟩ := hS.im a u h1
          exact ⟨by rw [b.cell (p := a) (hS.imlt h1)]; exact k1, k2⟩
        · refine ⟨h3, h2, ?_⟩
          obtain ⟨u', q1, q2, q3⟩ := S.cell g1 g2 (List.getElem?_eq_getElem g4)
          obtain ⟨c, _, hbase, _⟩ := S.own r blk g1 g2
          obtain ⟨ab, ao, as'⟩ := a
          dsimp only at h2 g3 g4 q1
          subst h2 g3
          rw [hbase, Nat.zero_add] at q1
          rw [q1] at h3
          cases h3
          exact q3,
      fun a u ha r blk h1 h2 => by
        rcases imcase a u ha with h3 | ⟨h3, _⟩
        · exact hS.sep a u h3 r blk h1 h2
        · have := hS.lt h1 h2
          show (σ r).b ≠ a.block
          omega,
      hS.inj, F2.glob hS⟩
    exact ⟨x, he, _, H, v, F2, S2, hy2.im ho.im1 fun _ _ h => h, hk⟩⟩
theorem OwnL.pure {x : Bool} {d : Value} (h : pureV d = true) : OwnL x N [d] [d] [] := by
  unfold pureV at h
  rcases Bool.or_eq_true_iff.1 h with h | h
  · exact .ofF h
  · cases d <;> try (cases h; done)
    rename_i cs _
    have := OwnL.agg (x := x) (H := N) (xs := cs) (ys := cs) (OwnL.ofFlat fun c hc => Array.all_eq_true'.1 h c (by simpa using hc)) OwnL.nil
    simpa using this
theorem DOut.pure {T : TypeId} {c : Nat} {R : Value → Prop} {code : List UInt8} {a : Int} {d : Value} {N : AH} (a' : Int) (hN : N[0]? = some (srcB T code a')) (hf : pureV d = true) (hR : R d) (h1 : a ≤ a') (h2 : a' ≤ a + (c : Nat)) : DOut T c R code a d N :=
  DOut.mk a' [] hN (OwnL.pure hf) (by simp) (by simp) hR h1 h2
/-- Some value of which R holds. -/
def EOut (R : Value → Prop) (d : Value) (N : AH) : Prop := ∃ v, R v ∧ Im v ∧ Bor N d v
theorem EOut.val {R : Value → Prop} {d : Value} {N : AH} (h : Im d) (hR : R d) : EOut R d N := ⟨d, hR, h, .same d h⟩
/-- THE CONTRACT of a call by values of which some value comes. -/
def ECalls (P : Program) (f : FuncId) (args : List Value) (R : Value → Prop) : Prop := ACalls P 0 f args [] fun d N => EOut R d N
theorem ECalls.use {f : FuncId} {args : List Value} {R : Value → Prop} (h : ECalls P f args R) (hi : ∀ d ∈ args, Im d) : ACalls P B f args H fun d H' => R d ∧ Im d ∧ H' = H := ACalls.ofE h hi
end
end Go.BM
/- Functions that hand back blocks of their own, each told. -/
set_option linter.unusedVariables false
set_option linter.unusedSimpArgs false
namespace Go.BM
open Go.RowKit
section
variable {P : Program} {B : Nat} {H N : AH}
def NFOut (R : List Blk → ((Nat → Nat) → Value) → Prop) (d : Value) (N : AH) : Prop :=
  ∃ bs F ρ, R bs F ∧ d = F ρ ∧ (∀ i, i < bs.length → N[ρ i]? = bs[i]?) ∧ (∀ i j, i < bs.length → j < bs.length → ρ i = ρ j → i = j)
theorem NFOut.none {R : List Blk → ((Nat → Nat) → Value) → Prop} {d : Value} {F : (Nat → Nat) → Value} (hR : R [] F) (hd : d = F fun _ => 0) : NFOut R d N :=
  ⟨[], F, _, hR, hd, fun i hi => by simp at hi, fun i j hi => by simp at hi⟩
theorem NFOut.one {R : List Blk → ((Nat → Nat) → Value) → Prop} {d : Value} {F : (Nat → Nat) → Value} {b : Blk} (q : Nat) (hq : N[q]? = some b) (hR : R [b] F) (hd : d = F fun _ => q) : NFOut R d N :=
  ⟨[b], F, _, hR, hd, fun i hi => by simp at hi; subst hi; exact hq, fun i j hi hj _ => by simp at hi hj; omega⟩
theorem NFOut.two {R : List Blk → ((Nat → Nat) → Value) → Prop} {d : Value} {F : (Nat → Nat) → Value} {b b' : Blk} (q q' : Nat) (hq : N[q]? = some b) (hq' : N[q']? = some b') (hR : R [b, b'] F) (hd : d = F fun i => if i = 0 then q else q') (hne : q ≠ q') : NFOut R d N :=
  ⟨[b, b'], F, _, hR, hd, fun i hi => by
    have : i = 0 ∨ i = 1 := by simp at hi; omega
    rcases this with rfl | rfl
    · exact hq
    · exact hq', fun i j hi hj e => by
    have h1 : i = 0 ∨ i = 1 := by simp at hi; omega
    have h2 : j = 0 ∨ j = 1 := by simp at hj; omega
    rcases h1 with rfl | rfl <;> rcases h2 with rfl | rfl
    · rfl
    · simp at e; exact absurd e hne
    · simp at e; exact absurd e.symm hne
    · rfl⟩
/-- THE CONTRACT of a call by values that hands back blocks of its own, each told. -/
def NFun (P : Program) (f : FuncId) (args : List Value) (R : List Blk → ((Nat → Nat) → Value) → Prop) : Prop := ACalls P 0 f args [] fun d N => NFOut R d N
theorem NFun.use {f : FuncId} {args args' : List Value} {R : List Blk → ((Nat → Nat) → Value) → Prop} (h : NFun P f args' R) (hsh : ∀ bs F, R bs F → Shp bs F) (hb : BorL H args args') :
    ACalls P H.length f args H fun d H' => ∃ bs F, R bs F ∧ d = F (fun i => H.length + i) ∧ H' = H ++ bs := by
  refine ACalls.lift h hb ?_
  rintro d N ⟨bs, F, ρ, hR, rfl, hbs, hinj⟩
  have sh := hsh bs F hR
  refine ⟨ρ, fun i => i < bs.length, bs, _, fun i j hi hj e => hinj i j hi hj e, sh.lif N ρ H.length, fun i b' hb' _ => lt_of_some hb', fun i hi => ?_, bs, F, hR, rfl, rfl⟩
  have hi' : i < bs.length := hi
  exact ⟨bs[i], bs[i], by rw [hbs i hi]; exact List.getElem?_eq_getElem hi', List.getElem?_eq_getElem hi', ⟨rfl, rfl, rfl, rfl, Nat.le_refl _, fun j v hj => ⟨v, hj, .flat v (sh.fl _ (List.getElem_mem hi') v (List.mem_of_getElem? hj))⟩⟩⟩
/-- A cell of a thing in a list. -/
theorem Enc.flat_cell {α : Type} (E : Enc α) (xs : List α) (k o : Nat) (hk : k < xs.length) (ho : o < E.sz) : (E.flat xs)[k * E.sz + o]? = (cellsV (E.val xs[k]))[o]? := by
  have h := congrArg (fun l => l[o]?) (E.flat_drop xs k)
  simp only [List.getElem?_drop] at h
  rw [h, E.drop_cons xs k hk, List.getElem?_append_left (by rw [E.hsz]; exact ho)]
theorem Enc.flat_cellSet {α : Type} (E : Enc α) (xs : List α) (k o : Nat) (c : Value) (y : α) (hk : k < xs.length) (ho : o < E.sz) (hy : cellsV (E.val y) = (cellsV (E.val xs[k])).set o c) : splice (E.flat xs) (k * E.sz + o) [c] = E.flat (xs.set k y) := by
  have hfit : k * E.sz + E.sz ≤ (E.flat xs).length := by
    rw [E.flat_length, ← Nat.succ_mul]
    exact Nat.mul_le_mul_right _ hk
  rw [← E.flat_set xs k y hk]
  apply List.ext_getElem?
  intro j
  rw [splice_get (by simp; omega), splice_get (by rw [E.hsz]; omega), E.hsz]
  simp only [List.length_cons, List.length_nil, Nat.zero_add]
  by_cases h1 : j < k * E.sz + o
  · rw [if_pos h1]
    by_cases h2 : j < k * E.sz
    · rw [if_pos h2]
    · rw [if_neg h2, if_pos (by omega), hy, List.getElem?_set_ne (by omega)]
      have := E.flat_cell xs k (j - k * E.sz) hk (by omega)
      rw [← this]
      congr 1
      omega
  · rw [if_neg h1]
    by_cases h2 : j < k * E.sz + o + 1
    · have e : j = k * E.sz + o := by omega
      subst e
      rw [if_pos h2, if_neg (by omega), if_pos (by omega), hy]
      rw [Nat.sub_self, show k * E.sz + o - k * E.sz = o by omega, List.getElem?_set_self (by rw [E.hsz]; exact ho)]
      rfl
    · rw [if_neg h2, if_neg (by omega)]
      by_cases h3 : j < k * E.sz + E.sz
      · rw [if_pos h3, hy, List.getElem?_set_ne (by omega)]
        have := E.flat_cell xs k (j - k * E.sz) hk (by omega)
        rw [← this]
        congr 1
        omega
      · rw [if_neg h3]
end
end Go.BM
