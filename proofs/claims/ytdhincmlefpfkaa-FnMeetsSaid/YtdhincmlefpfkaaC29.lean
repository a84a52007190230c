/- A source of draws: one block ahead that is written; what is drawn is new, or a value. -/
import Derived.Test.YtdhincmlefpfkaaC28
set_option linter.unusedVariables false
set_option linter.unusedSimpArgs false
namespace Go.BM
open Go.RowKit

/-- The source: its bytes, and how many draws there were. -/
def srcB (T : TypeId) (code : List UInt8) (a : Int) : Blk := ⟨T, 0, [islE byteE code, .int .i64 a], 0, true⟩
theorem srcB_im (T : TypeId) (code : List UInt8) (a : Int) : ∀ c ∈ (srcB T code a).cs, Im c := Im.consL (islE_im _ _) (Im.consL (.flat _ rfl) Im.nilL)
def ptr0 : Value := .pointer (some ⟨0, 0, some 0⟩)
section
variable {P : Program} {B : Nat} {σ σ' : Sg} {H N : AH} {w w' : World} {r : Nat} {T : TypeId} {code : List UInt8} {a a' : Int}

theorem one_get {b blk : Blk} {q : Nat} (h : [b][q]? = some blk) : q = 0 ∧ blk = b := by
  cases q with
  | zero => simp at h; exact ⟨rfl, h.symm⟩
  | succ q => simp at h

theorem src_sim (hS : Sim σ H w) (hr : H[r]? = some (srcB T code a)) : Sim ⟨fun _ => σ r, σ.im⟩ [srcB T code a] w where
  own := fun q blk hq ho => by
    obtain ⟨rfl, rfl⟩ := one_get hq
    obtain ⟨c, h1, h2, h3, h4, h5⟩ := hS.own r _ hr rfl
    refine ⟨c, h1, h2, h3, h4, fun j v hj => ?_⟩
    obtain ⟨u, g1, g2, g3⟩ := h5 j v hj
    exact ⟨u, g1, g2.im (srcB_im T code a v (List.mem_of_getElem? hj)) fun _ _ h => h, g3⟩
  im := hS.im
  sep := fun x u hx q blk hq ho => by
    obtain ⟨rfl, rfl⟩ := one_get hq
    exact hS.sep x u hx r _ hr rfl
  inj := fun q q' b b' h1 h2 hne => by
    obtain ⟨rfl, _⟩ := one_get h1
    obtain ⟨rfl, _⟩ := one_get h2
    exact absurd rfl hne

theorem src_args (hS : Sim σ H w) (hr : H[r]? = some (srcB T code a)) {vs args : List Value} (hi : ∀ d ∈ args, Im d) (h : VRL σ H vs (.pointer (some ⟨r, 0, some 0⟩) :: args)) :
    VRL ⟨fun _ => σ r, σ.im⟩ [srcB T code a] vs (ptr0 :: args) := by
  refine ⟨h.1, fun j u hu => ?_⟩
  cases j with
  | zero =>
    obtain ⟨x, h1, h2⟩ := h.2 0 _ rfl
    have hg : getB H r 0 = some (srcB T code a).cs := by simp [getB, hr, srcB]
    have := h2.ptrI hg
    subst this
    refine ⟨_, h1, ?_⟩
    simp only [List.getElem?_cons_zero, Option.some.injEq] at hu
    subst hu
    exact VR.ptr (σ := ⟨fun _ => σ r, σ.im⟩) (H := [srcB T code a]) 0 0 0 (srcB T code a) rfl rfl rfl
  | succ j =>
    obtain ⟨x, h1, h2⟩ := h.2 (j + 1) u (by simpa using hu)
    exact ⟨x, h1, h2.im (hi u (List.mem_of_getElem? (by simpa using hu))) fun _ _ h => h⟩

structure SrcF (σ : Sg) (r : Nat) (w : World) (σ' : Sg) (w' : World) : Prop where
  os : w'.os = w.os
  tape : w'.tape = w.tape
  output : w'.output = w.output
  size : w.heap.size ≤ w'.heap.size
  frame : ∀ k, k < w.heap.size → (σ r).b ≠ k → w'.heap[k]? = w.heap[k]?
  at0 : σ' 0 = σ r
  imk : ∀ a u, σ.im a = some u → σ'.im a = some u
  imn : ∀ a u, σ'.im a = some u → σ.im a = some u ∨ w.heap.size ≤ a.block
theorem src_fut (F : Fut 0 ⟨fun _ => σ r, σ.im⟩ [srcB T code a] w σ' N w') (S : Sim σ' N w') (hN : N[0]? = some (srcB T code a')) : SrcF σ r w σ' w' := by
  have h0 : σ' 0 = σ r := by
    obtain ⟨b, h1, h2, h3⟩ := F.keep 0 (srcB T code a) rfl
    rw [hN] at h1
    cases h1
    exact (h3 rfl).1
  refine ⟨F.os, F.tape, F.output, F.size, fun k hk hne => F.frame k hk fun q blk _ hq ho => ?_, h0, F.imk, fun x u hx => ?_⟩
  · obtain ⟨rfl, rfl⟩ := one_get hq
    exact hne
  · rcases F.imn x u hx with h | h | ⟨q, blk, _, hq, ho, he⟩
    · exact .inl h
    · exact .inr h
    · obtain ⟨rfl, rfl⟩ := one_get hq
      have := S.sep x u hx 0 _ hN rfl
      rw [h0] at this
      exact absurd he this

/-- A draw, used in any heap that holds the source: what is new stands behind our blocks. -/
theorem ACalls.liftS {f : FuncId} {args : List Value} {post post' : Value → AH → Prop} (h : ACalls P 0 f (ptr0 :: args) [srcB T code a] post) (hr : H[r]? = some (srcB T code a)) (hB : B ≤ r) (hi : ∀ d ∈ args, Im d)
    (hp : ∀ d N, post d N → ∃ (a' : Int) (ρ : Nat → Nat) (q : Nat → Prop) (M : AH) (d' : Value), N[0]? = some (srcB T code a') ∧ (∀ i j, q i → q j → ρ i = ρ j → i = j) ∧ (∀ i, q i → ρ i ≠ 0) ∧ Lif N ρ q H.length d d' ∧ (∀ i b', M[i]? = some b' → b'.own = true → q i) ∧
      (∀ i, q i → ∃ b b', N[ρ i]? = some b ∧ M[i]? = some b' ∧ LifB N ρ q H.length b b') ∧ post' d' (H.set r (srcB T code a') ++ M)) : ACalls P B f (.pointer (some ⟨r, 0, some 0⟩) :: args) H post' :=
  ⟨h.1, fun σ w vals hS hBl hvl => (h.2 ⟨fun _ => σ r, σ.im⟩ w vals (src_sim hS hr) (Nat.zero_le _) (src_args hS hr hi hvl)).mono fun e w' ⟨v, he, σ', N, d, F, S, V, hd⟩ => by
    obtain ⟨a', ρ, q, M, d', hN, hinj, h0, hl, hown, hM, hpost⟩ := hp d N hd
    have G := src_fut F S hN
    have hrl := lt_of_some hr
    have hnew : ∀ i, q i → ∀ nb, N[ρ i]? = some nb → nb.own = true → w.heap.size ≤ (σ' (ρ i)).b := fun i hi nb h1 h2 => by
      rcases F.loc (ρ i) nb h1 h2 with ⟨b0, g, _⟩ | g
      · obtain ⟨g0, _⟩ := one_get g
        exact absurd g0 (h0 i hi)
      · exact g
    let σ'' : Sg := ⟨fun q => if q < H.length then σ q else σ' (ρ (q - H.length)), σ'.im⟩
    have so : ∀ q, q < H.length → σ'' q = σ q := fun q hq => if_pos hq
    have sn : ∀ i, σ'' (H.length + i) = σ' (ρ i) := fun i => by show (if _ then _ else _) = _; rw [if_neg (by omega), Nat.add_sub_cancel_left]
    have hHl : (H.set r (srcB T code a')).length = H.length := by simp
    have old : ∀ q blk, (H.set r (srcB T code a') ++ M)[q]? = some blk → q < H.length → q ≠ r → H[q]? = some blk := fun q blk h1 h2 h3 => by rwa [List.getElem?_append_left (by omega), List.getElem?_set_ne (Ne.symm h3)] at h1
    have atr : (H.set r (srcB T code a') ++ M)[r]? = some (srcB T code a') := by rw [List.getElem?_append_left (by omega), List.getElem?_set_self hrl]
    have new : ∀ r' blk, (H.set r (srcB T code a') ++ M)[r']? = some blk → ¬ r' < H.length → blk.own = true → ∃ i, r' = H.length + i ∧ q i ∧ M[i]? = some blk := fun r' blk h1 h2 h3 => by
      rw [List.getElem?_append_right (by omega), hHl] at h1
      exact ⟨r' - H.length, by omega, hown _ _ h1 h3, h1⟩
    have F2 : Fut B σ H w σ'' (H.set r (srcB T code a') ++ M) w' := {
      os := G.os
      tape := G.tape
      output := G.output
      size := G.size
      frame := fun k hk hne => G.frame k hk (hne r _ hB hr rfl)
      pre := fun q hq => by rw [List.getElem?_append_left (by omega), List.getElem?_set_ne (by omega)]
      preσ := fun q hq hql => so q hql
      keep := fun q blk h => by
        by_cases e : q = r
        · subst e
          rw [hr] at h
          cases h
          exact ⟨_, atr, Nat.le_refl _, fun _ => ⟨so q hrl, rfl, rfl⟩⟩
        · exact ⟨blk, by rw [List.getElem?_append_left (by have := lt_of_some h; omega), List.getElem?_set_ne (Ne.symm e)]; exact h, Nat.le_refl _, fun _ => ⟨so q (lt_of_some h), rfl, rfl⟩⟩
      loc := fun q blk' hq ho => by
        by_cases hlt : q < H.length
        · by_cases e : q = r
          · subst e; exact .inl ⟨_, hr, rfl, so q hlt⟩
          · exact .inl ⟨blk', old q blk' hq hlt e, ho, so q hlt⟩
        · obtain ⟨i, rfl, hi, hmi⟩ := new q blk' hq hlt ho
          obtain ⟨nb, nb', h1, h2, h3⟩ := hM i hi
          rw [hmi] at h2
          cases h2
          exact .inr (by rw [sn]; exact hnew i hi nb h1 (h3.own.symm.trans ho))
      imk := G.imk
      imn := fun x u hx => by
        rcases G.imn x u hx with h | h
        · exact .inl h
        · exact .inr (.inl h) }
    have lift : ∀ {d d' : Value}, Lif N ρ q H.length d d' → ∀ v, VR σ' N v d → VR σ'' (H.set r (srcB T code a') ++ M) v d' := fun hL v hv => lif_vr (fun i hi => hM i hi) hHl (fun i _ => sn i) hL v hv
    have S2 : Sim σ'' (H.set r (srcB T code a') ++ M) w' := ⟨fun q' blk hq ho => by
        by_cases hlt : q' < H.length
        · by_cases e : q' = r
          · subst e
            rw [atr] at hq
            cases hq
            obtain ⟨c, h1, h2, h3, h4, h5⟩ := S.own 0 _ hN rfl
            rw [G.at0] at h1 h2 h3
            refine ⟨c, by rw [so q' hlt]; exact h1, by rw [so q' hlt]; exact h2, by rw [so q' hlt]; exact h3, h4, fun j v hj => ?_⟩
            obtain ⟨u, b1, b2, b3⟩ := h5 j v hj
            exact ⟨u, b1, b2.im (srcB_im T code a' v (List.mem_of_getElem? hj)) fun _ _ h => h, b3⟩
          · have hr' := old q' blk hq hlt e
            obtain ⟨c, h1, h2, h3, h4, h5⟩ := hS.own q' blk hr' ho
            refine ⟨c, by rw [so q' hlt, G.frame _ (hS.lt hr' ho) (hS.inj r q' _ _ hr hr' (Ne.symm e) rfl ho)]; exact h1, by rw [so q' hlt]; exact h2, by rw [so q' hlt]; exact h3, h4, fun j v hj => ?_⟩
            obtain ⟨u, b1, b2, b3⟩ := h5 j v hj
            exact ⟨u, b1, b2.fut F2, b3⟩
        · obtain ⟨i, rfl, hi, hmi⟩ := new q' blk hq hlt ho
          obtain ⟨nb, nb', h1, h2, h3⟩ := hM i hi
          rw [hmi] at h2
          cases h2
          obtain ⟨c, k1, k2, k3, k4, k5⟩ := S.own (ρ i) nb h1 (h3.own.symm.trans ho)
          refine ⟨c, by rw [sn, h3.el]; exact k1, by rw [sn]; exact k2, by rw [sn]; exact k3, Nat.le_trans h3.len k4, fun j v hj => ?_⟩
          obtain ⟨v0, g1, g2⟩ := h3.cs j v hj
          obtain ⟨u, b1, b2, b3⟩ := k5 j v0 g1
          exact ⟨u, b1, lift g2 _ b2, b3⟩,
      S.im,
      fun x u hx q' blk hq ho => by
        by_cases hlt : q' < H.length
        · rw [so q' hlt]
          by_cases e : q' = r
          · subst e
            have := S.sep x u hx 0 _ hN rfl
            rwa [G.at0] at this
          · have hr' := old q' blk hq hlt e
            rcases G.imn x u hx with h | h
            · exact hS.sep x u h q' blk hr' ho
            · have := hS.lt hr' ho
              omega
        · obtain ⟨i, rfl, hi, hmi⟩ := new q' blk hq hlt ho
          obtain ⟨nb, nb', h1, h2, h3⟩ := hM i hi
          rw [hmi] at h2
          cases h2
          rw [sn]
          exact S.sep x u hx (ρ i) nb h1 (h3.own.symm.trans ho),
      fun p p' blk blk' hp' hq' hne ho ho' => by
        have own_old : ∀ p blk, (H.set r (srcB T code a') ++ M)[p]? = some blk → p < H.length → blk.own = true → ∃ b0, H[p]? = some b0 ∧ b0.own = true := fun p blk h1 h2 h3 => by
          by_cases e : p = r
          · subst e; exact ⟨_, hr, rfl⟩
          · exact ⟨_, old p blk h1 h2 e, h3⟩
        by_cases hlt : p < H.length
        · obtain ⟨b0, h1, h1o⟩ := own_old p blk hp' hlt ho
          rw [so p hlt]
          by_cases hlt' : p' < H.length
          · obtain ⟨b1, h2, h2o⟩ := own_old p' blk' hq' hlt' ho'
            rw [so p' hlt']; exact hS.inj p p' b0 b1 h1 h2 hne h1o h2o
          · obtain ⟨i, rfl, hi, hmi⟩ := new p' blk' hq' hlt' ho'
            obtain ⟨nb, nb', g1, g2, g3⟩ := hM i hi
            rw [hmi] at g2
            cases g2
            rw [sn]
            have := hnew i hi nb g1 (g3.own.symm.trans ho')
            have := hS.lt h1 h1o
            omega
        · obtain ⟨i, rfl, hi, hmi⟩ := new p blk hp' hlt ho
          obtain ⟨nb, nb', g1, g2, g3⟩ := hM i hi
          rw [hmi] at g2
          cases g2
          rw [sn]
          by_cases hlt' : p' < H.length
          · obtain ⟨b1, h2, h2o⟩ := own_old p' blk' hq' hlt' ho'
            rw [so p' hlt']
            have := hnew i hi nb g1 (g3.own.symm.trans ho)
            have := hS.lt h2 h2o
            omega
          · obtain ⟨j, rfl, hj, hmj⟩ := new p' blk' hq' hlt' ho'
            obtain ⟨nc, nc', f1, f2, f3⟩ := hM j hj
            rw [hmj] at f2
            cases f2
            rw [sn]
            exact S.inj (ρ i) (ρ j) nb nc g1 f1 (fun e => hne (by rw [hinj i j hi hj e])) (g3.own.symm.trans ho) (f3.own.symm.trans ho')⟩
    exact ⟨v, he, σ'', _, d', F2, S2, lift hl _ V, hpost⟩⟩

/-- What a draw leaves. -/
def DOut (T : TypeId) (c : Nat) (R : Value → Prop) (code : List UInt8) (a : Int) (d : Value) (N : AH) : Prop :=
  ∃ v a' S, R v ∧ a ≤ a' ∧ a' ≤ a + (c : Nat) ∧ N[0]? = some (srcB T code a') ∧ S.Nodup ∧ 0 ∉ S ∧ OwnL false N [d] [v] S
theorem DOut.flat {c : Nat} {R : Value → Prop} {d : Value} {N : AH} (a' : Int) (hN : N[0]? = some (srcB T code a')) (hf : flatV d = true) (hR : R d) (h1 : a ≤ a') (h2 : a' ≤ a + (c : Nat)) : DOut T c R code a d N :=
  ⟨d, a', [], hR, h1, h2, hN, by simp, by simp, .ofF hf⟩
theorem DOut.mk {c : Nat} {R : Value → Prop} {d v : Value} {N : AH} (a' : Int) (S : List Nat) (hN : N[0]? = some (srcB T code a')) (ho : OwnL false N [d] [v] S) (hnd : S.Nodup) (h0 : 0 ∉ S) (hR : R v) (h1 : a ≤ a') (h2 : a' ≤ a + (c : Nat)) : DOut T c R code a d N :=
  ⟨v, a', S, hR, h1, h2, hN, hnd, h0, ho⟩
theorem srcB_eq (T : TypeId) (code : List UInt8) (a : Int) : srcB T code a = ⟨T, 0, [islE byteE code, .int .i64 a], 0, true⟩ := rfl
theorem get_set {H : AH} {r : Nat} {x : Blk} (h : H[r]? = some x) (b : Blk) : (H.set r b)[r]? = some b := List.getElem?_set_self (lt_of_some h)
theorem get_setne {H : AH} {r q : Nat} {x : Blk} (h : H[q]? = some x) (hne : q ≠ r) (b : Blk) : (H.set r b)[q]? = some x := by rw [List.getElem?_set_ne (Ne.symm hne)]; exact h
theorem tmod_nat (m n : Nat) : ((m : Int)).tmod (n : Int) = ((m % n : Nat) : Int) := by
  rw [Int.tmod_eq_emod_of_nonneg (by omega)]
  rfl
theorem tdiv_nat (m n : Nat) : ((m : Int)).tdiv (n : Int) = ((m / n : Nat) : Int) := by
  rw [Int.tdiv_eq_ediv_of_nonneg (by omega)]
  rfl
theorem wr_nat {m : Nat} (h : m ≤ 9223372036854775807) : IntKind.i64.wrap (m : Int) = (m : Int) := by rw [wr] <;> omega
theorem wr_byte (x : UInt8) : IntKind.i64.wrap ((x.toNat : Nat) : Int) = ((x.toNat : Nat) : Int) := wr_nat (by have := x.toNat_lt; omega)
/-- THE CONTRACT of a draw: the source stands ahead; what comes is a value of which R holds, in new memory; c draws at most. -/
def DCalls (P : Program) (T : TypeId) (c : Nat) (f : FuncId) (args : List Value) (R : Value → Prop) : Prop :=
  ∀ (code : List UInt8) (a : Int), code.length ≤ 1048576 → 0 ≤ a → a + (c : Nat) ≤ 1000000 → ACalls P 0 f (ptr0 :: args) [srcB T code a] fun d N => DOut T c R code a d N

/-- What is drawn, in new memory. -/
theorem DCalls.own {c : Nat} {f : FuncId} {args : List Value} {R : Value → Prop} (h : DCalls P T c f args R) (hr : H[r]? = some (srcB T code a)) (hB : B ≤ r) (hi : ∀ d ∈ args, Im d) (hc : code.length ≤ 1048576) (h0 : 0 ≤ a) (h1 : a + (c : Nat) ≤ 1000000) :
    ACalls P B f (.pointer (some ⟨r, 0, some 0⟩) :: args) H fun d H' => ∃ v a' S, R v ∧ a ≤ a' ∧ a' ≤ a + (c : Nat) ∧ New (H.set r (srcB T code a')) H' d v S := by
  refine ACalls.liftS (h code a hc h0 h1) hr hB hi ?_
  rintro d N ⟨v, a', S, hR, ha1, ha2, hN, hnd, h0S, ho⟩
  obtain ⟨dl, MS, g1, g2, g3, g4⟩ := ho.lift (k := H.length) (S0 := S) [] [] (by simp)
  obtain ⟨S', k1, k2, k3⟩ := g4 (H.set r (srcB T code a')) MS (by simp) (fun i _ => by simp)
  have hl := g1.at.1
  obtain ⟨d', rfl⟩ : ∃ d', dl = [d'] := by
    cases dl with
    | nil => simp at hl
    | cons d' t => cases t with
      | nil => exact ⟨d', rfl⟩
      | cons _ _ => simp at hl
  refine ⟨a', fun i => S.getD i 0, fun i => i < S.length, MS, d', hN, fun i j hi hj e => ?_, fun i hi e => ?_, ?_, fun i b' hb' _ => by have := lt_of_some hb'; omega, fun i hi => ?_, v, a', S', hR, ha1, ha2, ?_⟩
  · have hi' : i < S.length := hi
    have hj' : j < S.length := hj
    simp only [List.getD, List.getElem?_eq_getElem hi', List.getElem?_eq_getElem hj', Option.getD_some] at e
    rcases Nat.lt_trichotomy i j with h | h | h
    · exact absurd e (List.pairwise_iff_getElem.1 hnd i j hi' hj' h)
    · exact h
    · exact absurd e.symm (List.pairwise_iff_getElem.1 hnd j i hj' hi' h)
  · have hi' : i < S.length := hi
    simp only [List.getD, List.getElem?_eq_getElem hi', Option.getD_some] at e
    exact h0S (by rw [← e]; exact List.getElem_mem hi')
  · exact g1.at.2 0 (by simp) (by simp)
  · have hi' : i < MS.length := by rw [g2]; exact hi
    obtain ⟨b, q1, q2⟩ := g3 i _ (List.getElem?_eq_getElem hi')
    exact ⟨b, _, q1, List.getElem?_eq_getElem hi', q2⟩
  · exact ⟨by simp, fun q hq => List.getElem?_append_left hq, k1, k2, fun q hq => by have := k3 q hq; simp at this ⊢; omega⟩

/-- What is drawn, as a value that nobody writes any more. -/
theorem DCalls.val {c : Nat} {f : FuncId} {args : List Value} {R : Value → Prop} (h : DCalls P T c f args R) (hr : H[r]? = some (srcB T code a)) (hB : B ≤ r) (hi : ∀ d ∈ args, Im d) (hc : code.length ≤ 1048576) (h0 : 0 ≤ a) (h1 : a + (c : Nat) ≤ 1000000) :
    ACalls P B f (.pointer (some ⟨r, 0, some 0⟩) :: args) H fun d H' => ∃ a', R d ∧ Im d ∧ a ≤ a' ∧ a' ≤ a + (c : Nat) ∧ H' = H.set r (srcB T code a') :=
  ⟨h code a hc h0 h1 |>.1, fun σ w vals hS hBl hvl => ((h code a hc h0 h1).2 ⟨fun _ => σ r, σ.im⟩ w vals (src_sim hS hr) (Nat.zero_le _) (src_args hS hr hi hvl)).mono fun e w' ⟨x, he, σ', N, d, F, S, V, v, a', Sb, hR, ha1, ha2, hN, hnd, h0S, ho⟩ => by
    have G := src_fut F S hN
    have hrl := lt_of_some hr
    -- the source put aside: the rest, as it stands
    obtain ⟨Fv, Sv⟩ := void_sound (B := 0) (blk' := ⟨T, 0, [], 1, false⟩) S hN (Nat.le_refl _) (by show (0 : Nat) < 1; omega) rfl
    have ho' : OwnL false (N.set 0 ⟨T, 0, [], 1, false⟩) [d] [v] Sb := ho.frame fun q hq => List.getElem?_set_ne fun e => h0S (by rw [e]; exact hq)
    have hVs := bor_vr Sv ho'.bor1 x (V.fut Fv)
    have hIm : Im v := ho.im1
    have hss := snap_sim Sv
    let σ'' : Sg := ⟨σ.loc, (snap σ' (N.set 0 ⟨T, 0, [], 1, false⟩) w').im⟩
    have imold : ∀ y u, (snap σ' (N.set 0 ⟨T, 0, [], 1, false⟩) w').im y = some u → σ.im y = some u ∨ w.heap.size ≤ y.block := fun y u hy => by
      unfold snap at hy
      dsimp only at hy
      cases him : σ'.im y with
      | some u' => rw [him] at hy; cases hy; exact G.imn y _ him
      | none =>
        rw [him] at hy
        dsimp only at hy
        split at hy
        case isFalse => cases hy
        rename_i hx
        obtain ⟨q, blk, hb, hbo, e1, e2, e3⟩ := hx
        by_cases e : q = 0
        · subst e
          rw [List.getElem?_set_self (lt_of_some hN)] at hb
          cases hb
          cases hbo
        · rw [List.getElem?_set_ne (Ne.symm e)] at hb
          rcases F.loc q blk hb hbo with ⟨b0, g, _⟩ | g
          · exact absurd (one_get g).1 e
          · exact .inr (by rw [e1] at g; exact g)
    have sepr : ∀ y u, (snap σ' (N.set 0 ⟨T, 0, [], 1, false⟩) w').im y = some u → (σ r).b ≠ y.block := fun y u hy => by
      rcases imold y u hy with h | h
      · exact hS.sep y u h r _ hr rfl
      · have := hS.lt hr rfl
        omega
    have F2 : Fut B σ H w σ'' (H.set r (srcB T code a')) w' := {
      os := G.os
      tape := G.tape
      output := G.output
      size := G.size
      frame := fun k hk hne => G.frame k hk (hne r _ hB hr rfl)
      pre := fun q hq => by rw [List.getElem?_set_ne (by omega)]
      preσ := fun q hq hql => rfl
      keep := fun q blk h => by
        by_cases e : q = r
        · subst e
          rw [hr] at h
          cases h
          exact ⟨_, List.getElem?_set_self hrl, Nat.le_refl _, fun _ => ⟨rfl, rfl, rfl⟩⟩
        · exact ⟨blk, by rw [List.getElem?_set_ne (Ne.symm e)]; exact h, Nat.le_refl _, fun _ => ⟨rfl, rfl, rfl⟩⟩
      loc := fun q blk' hq ho => by
        by_cases e : q = r
        · subst e; exact .inl ⟨_, hr, rfl, rfl⟩
        · rw [List.getElem?_set_ne (Ne.symm e)] at hq
          exact .inl ⟨blk', hq, ho, rfl⟩
      imk := fun y u hy => snap_im (G.imk y u hy)
      imn := fun y u hy => by
        rcases imold y u hy with h | h
        · exact .inl h
        · exact .inr (.inl h) }
    have S2 : Sim σ'' (H.set r (srcB T code a')) w' := ⟨fun q blk hq ho => by
        by_cases e : q = r
        · subst e
          rw [List.getElem?_set_self hrl] at hq
          cases hq
          obtain ⟨c, h1, h2, h3, h4, h5⟩ := S.own 0 _ hN rfl
          rw [G.at0] at h1 h2 h3
          refine ⟨c, h1, h2, h3, h4, fun j v hj => ?_⟩
          obtain ⟨u, b1, b2, b3⟩ := h5 j v hj
          exact ⟨u, b1, b2.im (srcB_im T code a' v (List.mem_of_getElem? hj)) fun _ _ h => snap_im h, b3⟩
        · rw [List.getElem?_set_ne (Ne.symm e)] at hq
          obtain ⟨c, h1, h2, h3, h4, h5⟩ := hS.own q blk hq ho
          refine ⟨c, by show w'.heap[(σ q).b]? = _; rw [G.frame _ (hS.lt hq ho) (hS.inj r q _ _ hr hq (Ne.symm e) rfl ho)]; exact h1, h2, h3, h4, fun j v hj => ?_⟩
          obtain ⟨u, b1, b2, b3⟩ := h5 j v hj
          exact ⟨u, b1, b2.fut F2, b3⟩,
      hss.im,
      fun y u hy q blk hq ho => by
        by_cases e : q = r
        · subst e; exact sepr y u hy
        · rw [List.getElem?_set_ne (Ne.symm e)] at hq
          rcases imold y u hy with h | h
          · exact hS.sep y u h q blk hq ho
          · have := hS.lt hq ho
            show (σ q).b ≠ _
            omega,
      fun p p' blk blk' hp' hq' hne ho ho' => by
        have own_old : ∀ (p : Nat) (blk : Blk), (H.set r (srcB T code a'))[p]? = some blk → blk.own = true → ∃ b0 : Blk, H[p]? = some b0 ∧ b0.own = true := fun p blk h1 h3 => by
          by_cases e : p = r
          · subst e; exact ⟨_, hr, rfl⟩
          · rw [List.getElem?_set_ne (Ne.symm e)] at h1
            exact ⟨_, h1, h3⟩
        obtain ⟨b0, h1, h1o⟩ := own_old p blk hp' ho
        obtain ⟨b1, h2, h2o⟩ := own_old p' blk' hq' ho'
        exact hS.inj p p' b0 b1 h1 h2 hne h1o h2o⟩
    exact ⟨x, he, σ'', _, v, F2, S2, hVs.im hIm fun _ _ h => h, a', hR, hIm, ha1, ha2, rfl⟩⟩
/-- A call by values, of which some value comes: at any heap. -/
theorem ACalls.ofE {f : FuncId} {args : List Value} {R : Value → Prop} (h : ACalls P 0 f args [] fun d N => ∃ v, R v ∧ Im v ∧ Bor N d v) (hi : ∀ d ∈ args, Im d) : ACalls P B f args H fun d H' => R d ∧ Im d ∧ H' = H :=
  ⟨h.1, fun σ w vals hS hB hvl => by
    have hS0 : Sim ⟨σ.loc, σ.im⟩ [] w := ⟨fun r blk h => by simp at h, hS.im, fun a u h r blk hb => by simp at hb, fun r r' blk blk' h => by simp at h⟩
    refine (h.2 ⟨σ.loc, σ.im⟩ w vals hS0 (Nat.le_refl _) (hvl.im hi fun _ _ h => h)).mono fun e w' ⟨x, he, σ', H', d, h1, h2, h3, v, hR, hIm, ho⟩ => ?_
    obtain ⟨F, S⟩ := keep_sim (B := B) hS (snap_fut h1) (snap_sim h2)
    exact ⟨x, he, _, H, v, F, S, (bor_vr h2 ho x h3).im hIm fun _ _ h => h, hR, hIm, rfl⟩⟩
end
end Go.BM
