/- Packed: C39, Facts, K1, T1, K2, D1, T2, K4, Sh2. -/
import Derived.Test.YtboephigjgncaaaGreatDoorProg
import Derived.KernelRfl
import Derived.Lib.AppendIntMem
import Derived.Lib.AtoiErrMem
import Derived.WalkSmall
import Derived.Lib.SplitLaws
import Derived.Shelf.Strings.Cut
import Derived.Test.YtboephigjgncaaaGreatDoorZ0
import Derived.Test.YtboephigjgncaaaGreatDoorZ2
import Derived.Test.YtboephigjgncaaaGreatDoorZ3
/- The engine: texts C38, C39, C40, C41, C42. -/
/- Drawn regions by what stands behind each operation: no order is told. -/
set_option linter.unusedVariables false
set_option linter.unusedSimpArgs false
namespace Go.BM
open Go.RowKit
section
variable {P : Program} {B n : Nat} {σ0 : Sg} {H0 : AH} {w0 : World}
end
section
variable {P : Program} {B n : Nat}
end
section
variable {P : Program} {B n : Nat} {ops : Array Oper} {e : Env} {H : AH}
end
end Go.BM

/- Places that are read: fewer cells of them; sizes of slices of slices; nil arguments. -/
set_option linter.unusedVariables false
set_option linter.unusedSimpArgs false
namespace Go.BM
open Go.RowKit
theorem VR.ipTake {σ : Sg} {H : AH} {v : Value} {cs ds : List Value} (h : VR σ H v (BM.ip (cs ++ ds))) : VR σ H v (BM.ip cs) := by
  obtain ⟨b, o, us, rfl, hl, him, hv⟩ := h.aptr (asP_ip _)
  rw [List.length_append] at hl
  refine VR.mkP (us := us.take cs.length) (by rw [List.length_take]; omega) (fun j u hu => ?_) fun j u hu => ?_
  · have hj : j < cs.length := by
      have := lt_of_some'' hu
      rw [List.length_take] at this
      omega
    rw [List.getElem?_take_of_lt hj] at hu
    exact him j u hu
  · have hj : j < cs.length := lt_of_some'' hu
    obtain ⟨x, hx, hxv⟩ := hv j u (by rw [List.getElem?_append_left hj]; exact hu)
    exact ⟨x, by rw [List.getElem?_take_of_lt hj]; exact hx, hxv⟩
section
variable {P : Program} {B : Nat} {H : AH} {f : FuncId} {k : Value → AH → Prop}
theorem ACalls.weak {args args' : List Value} (h : ACalls P B f args' H k) (hw : ∀ (σ : Sg) vs, VRL σ H vs args → VRL σ H vs args') : ACalls P B f args H k :=
  ⟨h.1, fun σ w vals hS hB hvl => h.2 σ w vals hS hB (hw σ _ hvl)⟩
theorem VRL.set1 {σ : Sg} {vs pre post : List Value} {x y : Value} (h : VRL σ H vs (pre ++ x :: post)) (hx : ∀ v, VR σ H v x → VR σ H v y) : VRL σ H vs (pre ++ y :: post) := by
  refine ⟨by have := h.1; simpa using this, fun j u hu => ?_⟩
  by_cases e : j = pre.length
  · subst e
    rw [List.getElem?_append_right (Nat.le_refl _), Nat.sub_self] at hu
    cases hu
    obtain ⟨z, h1, h2⟩ := h.2 pre.length x (by simp)
    exact ⟨z, h1, hx z h2⟩
  · refine h.2 j u ?_
    by_cases hj : j < pre.length
    · rw [List.getElem?_append_left hj] at hu ⊢; exact hu
    · rw [List.getElem?_append_right (by omega)] at hu ⊢
      obtain ⟨m, hm⟩ : ∃ m, j - pre.length = m + 1 := ⟨j - pre.length - 1, by omega⟩
      rw [hm] at hu ⊢
      simpa using hu
theorem ACalls.more {pre post cs : List Value} (ds : List Value) (h : ACalls P B f (pre ++ ip cs :: post) H k) : ACalls P B f (pre ++ ip (cs ++ ds) :: post) H k := h.weak fun σ vs hv => hv.set1 fun v => VR.ipTake
theorem PCalls.more {post cs : List Value} {v : Value} (ds : List Value) (h : PCalls P f (ip cs :: post) v) : PCalls P f (ip (cs ++ ds) :: post) v := ACalls.more (pre := []) ds h
end
/-- The size of a slice whose things have sizes. -/
def sumN {α : Type} (f : α → Nat) (xs : List α) : Nat := xs.length + (xs.map f).sum
theorem sumN_len {α : Type} (f : α → Nat) (xs : List α) : xs.length ≤ sumN f xs := Nat.le_add_right _ _
theorem sumN_at {α : Type} (f : α → Nat) {xs : List α} {x : α} (h : x ∈ xs) : f x ≤ sumN f xs := by
  have : f x ≤ (xs.map f).sum := by
    induction xs with
    | nil => cases h
    | cons y l ih =>
      rw [List.map_cons, List.sum_cons]
      rcases List.mem_cons.1 h with rfl | h
      · omega
      · have := ih h; omega
  unfold sumN
  omega
end Go.BM

/- Those of the lowest ranks, in rising order. -/
set_option linter.unusedVariables false
set_option linter.unusedSimpArgs false
namespace Go.BM
/-! Sorting by insertion. -/
section
variable {α : Type} {κ : α → Int} {zs : List α} {j k : Nat}
end
end Go.BM

/- Drawn regions by what stands behind each operation: values may name the blocks of others, and outlive a kill. -/
set_option linter.unusedVariables false
set_option linter.unusedSimpArgs false
namespace Go.BM
open Go.RowKit
section
variable {P : Program} {B n : Nat}
end
end Go.BM

/- Lists of things that own what they lead to, made by a loop behind boxes. -/
set_option linter.unusedVariables false
set_option linter.unusedSimpArgs false
namespace Go.BM
open Go.RowKit
section
variable {P : Program} {B : Nat} {α : Type} {E : Enc α}
/-- A slice that is nil, or the whole of a block behind n boxes; S: what it owns. -/
def SlO (n : Nat) (el : TypeId) (E : Enc α) (M : AH) (a : Option Addr) (len ver : Nat) (ys : List α) (S : List Nat) : Prop :=
  (a = none ∧ len = 0 ∧ ver = 0 ∧ ys = [] ∧ S = []) ∨
  ∃ r cs T, a = some ⟨n + r, 0, none⟩ ∧ len = ys.length ∧ M[r]? = some ⟨el, E.sz, cs, ver, true⟩ ∧ S = (n + r) :: T ∧ (∀ q ∈ S, n ≤ q) ∧ S.Nodup ∧ ∀ p : AH, p.length = n → OwnL true (p ++ M) cs (E.flat ys) T
theorem SlO.nil (n : Nat) (el : TypeId) (E : Enc α) (M : AH) : SlO n el E M none 0 0 [] [] := .inl ⟨rfl, rfl, rfl, rfl, rfl⟩
theorem SlO.nd {n el : Nat} {M : AH} {a : Option Addr} {len ver : Nat} {ys : List α} {S : List Nat} (h : SlO n el E M a len ver ys S) : S.Nodup := by
  rcases h with ⟨_, _, _, _, rfl⟩ | ⟨r, cs, T, _, _, _, _, _, h, _⟩
  · exact List.nodup_nil
  · exact h
theorem repl_len (n : Nat) : (List.replicate n (⟨0, 0, [], 0, true⟩ : Blk)).length = n := List.length_replicate ..
theorem SlO.lt {n el : Nat} {M : AH} {a : Option Addr} {len ver : Nat} {ys : List α} {S : List Nat} (h : SlO n el E M a len ver ys S) : ∀ q ∈ S, q < n + M.length := by
  rcases h with ⟨_, _, _, _, rfl⟩ | ⟨r, cs, T, _, _, hr, rfl, _, _, ho⟩
  · intro q hq; simp at hq
  · intro q hq
    rcases List.mem_cons.1 hq with rfl | hq
    · have := lt_of_some hr; omega
    · have := (ho _ (repl_len n)).lt q hq
      simpa using this
theorem SlO.own {n el : Nat} {M : AH} {a : Option Addr} {len ver : Nat} {ys : List α} {S : List Nat} (h : SlO n el E M a len ver ys S) (p : AH) (hp : p.length = n) : OwnL true (p ++ M) [.slice a len ver] [islE E ys] S := by
  rcases h with ⟨rfl, rfl, rfl, rfl, rfl⟩ | ⟨r, cs, T, rfl, rfl, hr, rfl, _, _, ho⟩
  · exact OwnL.slNil
  · have hg : (p ++ M)[n + r]? = some ⟨el, E.sz, cs, ver, true⟩ := by rw [List.getElem?_append_right (by omega), show n + r - p.length = r by omega]; exact hr
    have hl := (ho p hp).len
    have := OwnL.slice (x := true) (H := p ++ M) (r := n + r) (sp := none) (len := ys.length) (blk := ⟨el, E.sz, cs, ver, true⟩) (cs := E.flat ys) (S := T) (T := []) (l := []) (l' := []) hg rfl (by dsimp only; omega) (fun _ => hl) (fun h0 => by have : ys = [] := List.eq_nil_of_length_eq_zero h0; subst this; rfl) (by dsimp only; rw [← hl, List.take_length]; exact ho p hp) .nil
    rw [List.append_nil] at this
    exact this
theorem SlO.bor {n el : Nat} {M : AH} {a : Option Addr} {len ver : Nat} {ys : List α} {S : List Nat} (h : SlO n el E M a len ver ys S) (p : AH) (hp : p.length = n) : Bor (p ++ M) (.slice a len ver) (islE E ys) := (h.own p hp).bor1
/-- The heap behind the boxes changed, but not what is owned. -/
theorem SlO.frame {n el : Nat} {M M' : AH} {a : Option Addr} {len ver : Nat} {ys : List α} {S : List Nat} (h : SlO n el E M a len ver ys S) (hf : ∀ i, n + i ∈ S → M'[i]? = M[i]?) : SlO n el E M' a len ver ys S := by
  rcases h with h | ⟨r, cs, T, h1, h2, hr, rfl, h3, h4, ho⟩
  · exact .inl h
  · refine .inr ⟨r, cs, T, h1, h2, (hf r (by simp)).trans hr, rfl, h3, h4, fun p hp => (ho p hp).frame fun q hq => ?_⟩
    have hn := h3 q (by simp [hq])
    obtain ⟨i, rfl⟩ : ∃ i, q = n + i := ⟨q - n, by omega⟩
    rw [List.getElem?_append_right (by omega), List.getElem?_append_right (by omega), hp, Nat.add_sub_cancel_left]
    exact hf i (by simp [hq])
theorem SlO.grow {n el : Nat} {M : AH} {a : Option Addr} {len ver : Nat} {ys : List α} {S : List Nat} (h : SlO n el E M a len ver ys S) (N : AH) : SlO n el E (M ++ N) a len ver ys S :=
  h.frame fun i hi => List.getElem?_append_left (by have := h.lt _ hi; omega)
/-- Several plain values at once come of what is lent. -/
theorem ACalls.ofPT {H : AH} {f : FuncId} {args args' ys : List Value} {k : Value → AH → Prop} (h : PCalls P f args' (.tuple ys.toArray)) (hb : BorL H args args') (hf : ∀ d ∈ ys, flatV d = true) (hk : k (.tuple ys.toArray) H) : ACalls P B f args H k :=
  ⟨h.1, fun σ w vals hS hB hvl => (h.2 (snap σ H w) w vals (snap_sim hS) (Nat.le_refl _) (hb.vr hS _ hvl)).mono fun e w' ⟨x, he, σ', H', d, h1, h2, h3, h4⟩ => by
    have hb := h1.below0
    obtain ⟨zs, rfl, hz, hv⟩ := (bor_vr h2 h4 x h3).tupleI
    have hx : ∀ i (h1 : i < ys.toArray.size), flatV ys.toArray[i] = true := fun i h1 => hf _ (by simp)
    have e : zs = ys.toArray := Array.ext hz fun i g1 g2 => (hv i g1 g2).flatE (hx i g2)
    subst e
    exact ⟨_, he, σ, H, _, .of_below hb, hS.below hb, .tuple _ _ rfl (fun i h1 _ => .flat _ (hx i h1)), hk⟩⟩
/-- One thing more, that owns what it leads to. -/
theorem SlO.app {n el by_ : Nat} {M : AH} {a : Option Addr} {len ver t tx : Nat} {ys : List α} {S U : List Nat} {z : TypeId × Nat × Nat} {ds : List Value} (h : SlO n el E M a len ver ys S) (p : AH) (hp : p.length = n) (q : Nat) (hq : q = n + M.length)
    (hz : elZ P t = some (el, E.sz, by_)) (hzx : elZ P tx = some z) (hok : zOk P el E.sz = true) (hB : B ≤ n)
    (y : α) (hU : ∀ p : AH, p.length = n → OwnL true (p ++ M) ds (cellsV (E.val y)) U) (hUn : U.Nodup) (hUl : ∀ r ∈ U, n ≤ r) (hSU : ∀ r ∈ S, r ∉ U) (h1 : (ys.length + 1) * by_ ≤ 140737488355328) (h2 : ys.length + 1 ≤ 140737488355328) :
    ∃ a' len' ver' S' M', appendH P B (p ++ (M ++ [⟨el, E.sz, ds, 0, true⟩])) t tx (.slice a len ver) (.slice (some ⟨q, 0, none⟩) 1 0) = some (.slice a' len' ver', p ++ M') ∧ SlO n el E M' a' len' ver' (ys ++ [y]) S' ∧ M.length ≤ M'.length ∧
      (∀ r ∈ S', r ∈ S ∨ r ∈ U ∨ n + M.length ≤ r) ∧ ∀ i, i < M.length → n + i ∉ S → M'[i]? = M[i]? := by
  subst hq
  have hdl : ds.length = E.sz := by rw [(hU p hp).len, E.hsz]
  have hat : (p ++ (M ++ [⟨el, E.sz, ds, 0, true⟩]))[n + M.length]? = some ⟨el, E.sz, ds, 0, true⟩ := by
    rw [List.getElem?_append_right (by omega), List.getElem?_append_right (by omega)]
    simp [hp]
  have hsrc : srcV P (p ++ (M ++ [(⟨el, E.sz, ds, 0, true⟩ : Blk)])) el E.sz tx (.slice (some ⟨n + M.length, 0, none⟩) 1 0) = some (1, ds) :=
    srcV_own hzx hat rfl rfl (by simp only [List.drop_zero, Nat.one_mul]; exact List.take_of_length_le (by omega)) (by simp [hdl])
  have hUlt : ∀ r ∈ U, r < n + M.length := fun r hr => by have := (hU p hp).lt r hr; simp [hp] at this; exact this
  rcases h with ⟨rfl, rfl, rfl, rfl, rfl⟩ | ⟨r, cs, T, rfl, rfl, hr, rfl, hlo, hnd, ho⟩
  · refine ⟨some ⟨n + (M.length + 1), 0, none⟩, 1, 0, (n + (M.length + 1)) :: U, M ++ [⟨el, E.sz, ds, 0, true⟩] ++ [⟨el, E.sz, ds, 0, true⟩], ?_, ?_, by simp, fun r hr => ?_, fun i hi _ => ?_⟩
    · unfold appendH
      rw [hz]
      dsimp only
      rw [hsrc]
      dsimp only
      rw [if_pos hok, if_pos ⟨by simpa using h1, by omega⟩, if_neg (by omega)]
      simp only [mkB, List.append_assoc, List.length_append, List.length_cons, List.length_nil, hp, Nat.zero_add]
    · refine .inr ⟨M.length + 1, ds, U, rfl, rfl, ?_, rfl, fun q hq => ?_, ?_, fun p' hp' => ?_⟩
      · rw [List.getElem?_append_right (by simp)]
        simp
      · rcases List.mem_cons.1 hq with rfl | hq
        · omega
        · exact hUl q hq
      · refine List.nodup_cons.2 ⟨fun hm => ?_, hUn⟩
        have := hUlt _ hm
        omega
      · have := ((hU p' hp').app [⟨el, E.sz, ds, 0, true⟩]).app [⟨el, E.sz, ds, 0, true⟩]
        rw [List.append_assoc p', List.append_assoc p'] at this
        rw [List.nil_append, E.flat_one]
        exact this
    · rcases List.mem_cons.1 hr with rfl | hr
      · exact .inr (.inr (by omega))
      · exact .inr (.inl hr)
    · rw [List.append_assoc, List.getElem?_append_left hi]
  · have hrl : r < M.length := lt_of_some hr
    have hg : (p ++ (M ++ [⟨el, E.sz, ds, 0, true⟩]))[n + r]? = some ⟨el, E.sz, cs, ver, true⟩ := by
      rw [List.getElem?_append_right (by omega), show n + r - p.length = r by omega, List.getElem?_append_left hrl]
      exact hr
    have hcl : cs.length = ys.length * E.sz := by rw [(ho p hp).len, E.flat_length]
    have hrU : n + r ∉ U := hSU _ (by simp)
    obtain ⟨hrT, hTn⟩ := List.nodup_cons.1 hnd
    refine ⟨some ⟨n + r, 0, none⟩, ys.length + 1, ver + 1, (n + r) :: (T ++ U), (M ++ [(⟨el, E.sz, ds, 0, true⟩ : Blk)]).set r ⟨el, E.sz, cs ++ ds, ver + 1, true⟩, ?_, ?_, by simp, fun q hq => ?_, fun i hi hne => ?_⟩
    · unfold appendH
      simp only [hz, hsrc, hok, if_true, hg]
      rw [if_pos ⟨trivial, by omega, trivial, trivial, by rw [hcl]; exact Nat.le_refl _, h1, h2⟩]
      simp only [Option.isSome_none, Bool.false_eq_true, false_and, if_false]
      rw [List.take_of_length_le (by rw [hcl]; exact Nat.le_refl _), List.set_append_right _ _ (by omega), show n + r - p.length = r by omega]
      simp
    · refine .inr ⟨r, cs ++ ds, T ++ U, rfl, by simp, List.getElem?_set_self (by simp; omega), rfl, fun q hq => ?_, ?_, fun p' hp' => ?_⟩
      · rcases List.mem_cons.1 hq with rfl | hq
        · omega
        · rcases List.mem_append.1 hq with hq | hq
          · exact hlo q (by simp [hq])
          · exact hUl q hq
      · refine List.nodup_cons.2 ⟨fun hm => ?_, List.nodup_append.2 ⟨hTn, hUn, fun a ha b hb e => ?_⟩⟩
        · rcases List.mem_append.1 hm with hm | hm
          · exact hrT hm
          · exact hrU hm
        · subst e
          exact hSU a (by simp [ha]) hb
      · have hfr : ∀ q, n ≤ q → q < n + M.length → q ≠ n + r → (p' ++ (M ++ [(⟨el, E.sz, ds, 0, true⟩ : Blk)]).set r ⟨el, E.sz, cs ++ ds, ver + 1, true⟩)[q]? = (p' ++ M)[q]? := fun q h1 h2 h3 => by
          rw [List.getElem?_append_right (by omega), List.getElem?_append_right (by omega), List.getElem?_set_ne (by omega), List.getElem?_append_left (by omega)]
        have e : E.flat (ys ++ [y]) = E.flat ys ++ cellsV (E.val y) := by rw [E.flat_append, E.flat_one]
        rw [e]
        refine ((ho p' hp').frame fun q hq => ?_).append ((hU p' hp').frame fun q hq => ?_)
        · refine hfr q (hlo q (by simp [hq])) ?_ fun e => hrT (e ▸ hq)
          have := (ho p' hp').lt q hq
          simp [hp'] at this
          exact this
        · exact hfr q (hUl q hq) (hUlt q hq) fun e => hrU (e ▸ hq)
    · rcases List.mem_cons.1 hq with rfl | hq
      · exact .inl (by simp)
      · rcases List.mem_append.1 hq with hq | hq
        · exact .inl (by simp [hq])
        · exact .inr (.inl hq)
    · have : r ≠ i := fun e => hne (by rw [e]; simp)
      rw [List.getElem?_set_ne this, List.getElem?_append_left hi]
end
end Go.BM
/- Facts on the types of the program, by the kernel. -/
namespace Go.BM
open Go.Proofs
theorem lay2 : lay Tryz.prog 2 = some (false, 1) := by kernel_rfl
theorem und2 : Tryz.prog.underlying 2 = some (.int .i64) := by kernel_rfl
theorem zer2 : zeroV Tryz.prog 2 = some (.int .i64 0) := by kernel_rfl
theorem lay3 : lay Tryz.prog 3 = some (false, 1) := by kernel_rfl
theorem und3 : Tryz.prog.underlying 3 = some (.int .i64) := by kernel_rfl
theorem zer3 : zeroV Tryz.prog 3 = some (.int .i64 0) := by kernel_rfl
theorem lay4 : lay Tryz.prog 4 = some (false, 1) := by kernel_rfl
theorem und4 : Tryz.prog.underlying 4 = some .bool := by kernel_rfl
theorem zer4 : zeroV Tryz.prog 4 = some (.bool false) := by kernel_rfl
theorem lay5 : lay Tryz.prog 5 = some (false, 1) := by kernel_rfl
theorem und5 : Tryz.prog.underlying 5 = some (.int .u8) := by kernel_rfl
theorem zer5 : zeroV Tryz.prog 5 = some (.int .u8 0) := by kernel_rfl
theorem lay9 : lay Tryz.prog 9 = some (false, 1) := by kernel_rfl
theorem und9 : Tryz.prog.underlying 9 = some .string := by kernel_rfl
theorem zer9 : zeroV Tryz.prog 9 = some (.string ⟨#[]⟩) := by kernel_rfl
theorem lay21 : lay Tryz.prog 21 = some (false, 1) := by kernel_rfl
theorem und21 : Tryz.prog.underlying 21 = some (.int .i32) := by kernel_rfl
theorem zer21 : zeroV Tryz.prog 21 = some (.int .i32 0) := by kernel_rfl
theorem lay22 : lay Tryz.prog 22 = some (false, 1) := by kernel_rfl
theorem elZ22 : elZ Tryz.prog 22 = some (9, 1, 16) := by kernel_rfl
theorem zOk22 : zOk Tryz.prog 9 1 = true := by kernel_rfl
theorem zer22 : zeroV Tryz.prog 22 = some (.slice none 0 0) := by kernel_rfl
theorem lay23 : lay Tryz.prog 23 = some (false, 1) := by kernel_rfl
theorem elZ23 : elZ Tryz.prog 23 = some (80, 2, 16) := by kernel_rfl
theorem zOk23 : zOk Tryz.prog 80 2 = true := by kernel_rfl
theorem zer23 : zeroV Tryz.prog 23 = some (.slice none 0 0) := by kernel_rfl
theorem lay25 : lay Tryz.prog 25 = some (true, 2) := by kernel_rfl
theorem fld25_0 : fldOff Tryz.prog 25 0 = some 0 := by kernel_rfl
theorem fla25_0 : fldAt Tryz.prog 25 0 = some (0, false, 1) := by kernel_rfl
theorem fld25_1 : fldOff Tryz.prog 25 1 = some 1 := by kernel_rfl
theorem fla25_1 : fldAt Tryz.prog 25 1 = some (1, false, 1) := by kernel_rfl
theorem str25 : strT Tryz.prog 25 = some ([.slice none 0 0, .slice none 0 0], [(0, 1), (1, 1)]) := by kernel_rfl
theorem zer25 : zeroV Tryz.prog 25 = some (.agg #[.slice none 0 0, .slice none 0 0]) := by kernel_rfl
theorem lay27 : lay Tryz.prog 27 = some (false, 1) := by kernel_rfl
theorem elZ27 : elZ Tryz.prog 27 = some (2, 1, 8) := by kernel_rfl
theorem zOk27 : zOk Tryz.prog 2 1 = true := by kernel_rfl
theorem zer27 : zeroV Tryz.prog 27 = some (.slice none 0 0) := by kernel_rfl
theorem lay29 : lay Tryz.prog 29 = some (true, 4) := by kernel_rfl
theorem fld29_0 : fldOff Tryz.prog 29 0 = some 0 := by kernel_rfl
theorem fla29_0 : fldAt Tryz.prog 29 0 = some (0, false, 1) := by kernel_rfl
theorem fld29_1 : fldOff Tryz.prog 29 1 = some 1 := by kernel_rfl
theorem fla29_1 : fldAt Tryz.prog 29 1 = some (1, false, 1) := by kernel_rfl
theorem fld29_2 : fldOff Tryz.prog 29 2 = some 2 := by kernel_rfl
theorem fla29_2 : fldAt Tryz.prog 29 2 = some (2, false, 1) := by kernel_rfl
theorem fld29_3 : fldOff Tryz.prog 29 3 = some 3 := by kernel_rfl
theorem fla29_3 : fldAt Tryz.prog 29 3 = some (3, false, 1) := by kernel_rfl
theorem str29 : strT Tryz.prog 29 = some ([.int .i64 0, .int .i64 0, .int .i64 0, .slice none 0 0], [(0, 1), (1, 1), (2, 1), (3, 1)]) := by kernel_rfl
theorem zer29 : zeroV Tryz.prog 29 = some (.agg #[.int .i64 0, .int .i64 0, .int .i64 0, .slice none 0 0]) := by kernel_rfl
theorem lay31 : lay Tryz.prog 31 = some (true, 5) := by kernel_rfl
theorem fld31_0 : fldOff Tryz.prog 31 0 = some 0 := by kernel_rfl
theorem fla31_0 : fldAt Tryz.prog 31 0 = some (0, false, 1) := by kernel_rfl
theorem fld31_1 : fldOff Tryz.prog 31 1 = some 1 := by kernel_rfl
theorem fla31_1 : fldAt Tryz.prog 31 1 = some (1, true, 4) := by kernel_rfl
theorem str31 : strT Tryz.prog 31 = some ([.int .i64 0, .int .i64 0, .int .i64 0, .int .i64 0, .slice none 0 0], [(0, 1), (1, 4)]) := by kernel_rfl
theorem zer31 : zeroV Tryz.prog 31 = some (.agg #[.int .i64 0, .int .i64 0, .int .i64 0, .int .i64 0, .slice none 0 0]) := by kernel_rfl
theorem lay33 : lay Tryz.prog 33 = some (false, 1) := by kernel_rfl
theorem elZ33 : elZ Tryz.prog 33 = some (78, 2, 16) := by kernel_rfl
theorem zOk33 : zOk Tryz.prog 78 2 = true := by kernel_rfl
theorem zer33 : zeroV Tryz.prog 33 = some (.slice none 0 0) := by kernel_rfl
theorem lay35 : lay Tryz.prog 35 = some (true, 2) := by kernel_rfl
theorem fld35_0 : fldOff Tryz.prog 35 0 = some 0 := by kernel_rfl
theorem fla35_0 : fldAt Tryz.prog 35 0 = some (0, false, 1) := by kernel_rfl
theorem fld35_1 : fldOff Tryz.prog 35 1 = some 1 := by kernel_rfl
theorem fla35_1 : fldAt Tryz.prog 35 1 = some (1, false, 1) := by kernel_rfl
theorem str35 : strT Tryz.prog 35 = some ([.slice none 0 0, .slice none 0 0], [(0, 1), (1, 1)]) := by kernel_rfl
theorem zer35 : zeroV Tryz.prog 35 = some (.agg #[.slice none 0 0, .slice none 0 0]) := by kernel_rfl
theorem lay42 : lay Tryz.prog 42 = some (false, 1) := by kernel_rfl
theorem elZ42 : elZ Tryz.prog 42 = some (128, 2, 16) := by kernel_rfl
theorem zOk42 : zOk Tryz.prog 128 2 = true := by kernel_rfl
theorem zer42 : zeroV Tryz.prog 42 = some (.slice none 0 0) := by kernel_rfl
theorem lay43 : lay Tryz.prog 43 = some (false, 1) := by kernel_rfl
theorem elZ43 : elZ Tryz.prog 43 = some (120, 4, 48) := by kernel_rfl
theorem zOk43 : zOk Tryz.prog 120 4 = true := by kernel_rfl
theorem zer43 : zeroV Tryz.prog 43 = some (.slice none 0 0) := by kernel_rfl
theorem lay45 : lay Tryz.prog 45 = some (true, 4) := by kernel_rfl
theorem fld45_0 : fldOff Tryz.prog 45 0 = some 0 := by kernel_rfl
theorem fla45_0 : fldAt Tryz.prog 45 0 = some (0, false, 1) := by kernel_rfl
theorem fld45_1 : fldOff Tryz.prog 45 1 = some 1 := by kernel_rfl
theorem fla45_1 : fldAt Tryz.prog 45 1 = some (1, false, 1) := by kernel_rfl
theorem fld45_2 : fldOff Tryz.prog 45 2 = some 2 := by kernel_rfl
theorem fla45_2 : fldAt Tryz.prog 45 2 = some (2, false, 1) := by kernel_rfl
theorem fld45_3 : fldOff Tryz.prog 45 3 = some 3 := by kernel_rfl
theorem fla45_3 : fldAt Tryz.prog 45 3 = some (3, false, 1) := by kernel_rfl
theorem str45 : strT Tryz.prog 45 = some ([.int .i64 0, .int .i64 0, .slice none 0 0, .slice none 0 0], [(0, 1), (1, 1), (2, 1), (3, 1)]) := by kernel_rfl
theorem zer45 : zeroV Tryz.prog 45 = some (.agg #[.int .i64 0, .int .i64 0, .slice none 0 0, .slice none 0 0]) := by kernel_rfl
theorem lay47 : lay Tryz.prog 47 = some (true, 5) := by kernel_rfl
theorem fld47_0 : fldOff Tryz.prog 47 0 = some 0 := by kernel_rfl
theorem fla47_0 : fldAt Tryz.prog 47 0 = some (0, false, 1) := by kernel_rfl
theorem fld47_1 : fldOff Tryz.prog 47 1 = some 1 := by kernel_rfl
theorem fla47_1 : fldAt Tryz.prog 47 1 = some (1, true, 4) := by kernel_rfl
theorem str47 : strT Tryz.prog 47 = some ([.int .i64 0, .int .i64 0, .int .i64 0, .slice none 0 0, .slice none 0 0], [(0, 1), (1, 4)]) := by kernel_rfl
theorem zer47 : zeroV Tryz.prog 47 = some (.agg #[.int .i64 0, .int .i64 0, .int .i64 0, .slice none 0 0, .slice none 0 0]) := by kernel_rfl
theorem lay54 : lay Tryz.prog 54 = some (true, 2) := by kernel_rfl
theorem fld54_0 : fldOff Tryz.prog 54 0 = some 0 := by kernel_rfl
theorem fla54_0 : fldAt Tryz.prog 54 0 = some (0, false, 1) := by kernel_rfl
theorem fld54_1 : fldOff Tryz.prog 54 1 = some 1 := by kernel_rfl
theorem fla54_1 : fldAt Tryz.prog 54 1 = some (1, false, 1) := by kernel_rfl
theorem str54 : strT Tryz.prog 54 = some ([.int .i64 0, .string ⟨#[]⟩], [(0, 1), (1, 1)]) := by kernel_rfl
theorem zer54 : zeroV Tryz.prog 54 = some (.agg #[.int .i64 0, .string ⟨#[]⟩]) := by kernel_rfl
theorem lay78 : lay Tryz.prog 78 = some (true, 2) := by kernel_rfl
theorem fld78_0 : fldOff Tryz.prog 78 0 = some 0 := by kernel_rfl
theorem fla78_0 : fldAt Tryz.prog 78 0 = some (0, false, 1) := by kernel_rfl
theorem fld78_1 : fldOff Tryz.prog 78 1 = some 1 := by kernel_rfl
theorem fla78_1 : fldAt Tryz.prog 78 1 = some (1, false, 1) := by kernel_rfl
theorem str78 : strT Tryz.prog 78 = some ([.int .i64 0, .int .i64 0], [(0, 1), (1, 1)]) := by kernel_rfl
theorem zer78 : zeroV Tryz.prog 78 = some (.agg #[.int .i64 0, .int .i64 0]) := by kernel_rfl
theorem lay80 : lay Tryz.prog 80 = some (true, 2) := by kernel_rfl
theorem fld80_0 : fldOff Tryz.prog 80 0 = some 0 := by kernel_rfl
theorem fla80_0 : fldAt Tryz.prog 80 0 = some (0, false, 1) := by kernel_rfl
theorem fld80_1 : fldOff Tryz.prog 80 1 = some 1 := by kernel_rfl
theorem fla80_1 : fldAt Tryz.prog 80 1 = some (1, false, 1) := by kernel_rfl
theorem str80 : strT Tryz.prog 80 = some ([.int .i64 0, .int .i64 0], [(0, 1), (1, 1)]) := by kernel_rfl
theorem zer80 : zeroV Tryz.prog 80 = some (.agg #[.int .i64 0, .int .i64 0]) := by kernel_rfl
theorem lay111 : lay Tryz.prog 111 = some (false, 1) := by kernel_rfl
theorem elZ111 : elZ Tryz.prog 111 = some (5, 1, 1) := by kernel_rfl
theorem zOk111 : zOk Tryz.prog 5 1 = true := by kernel_rfl
theorem zer111 : zeroV Tryz.prog 111 = some (.slice none 0 0) := by kernel_rfl
theorem lay115 : lay Tryz.prog 115 = some (true, 3) := by kernel_rfl
theorem fld115_0 : fldOff Tryz.prog 115 0 = some 0 := by kernel_rfl
theorem fla115_0 : fldAt Tryz.prog 115 0 = some (0, false, 1) := by kernel_rfl
theorem fld115_1 : fldOff Tryz.prog 115 1 = some 1 := by kernel_rfl
theorem fla115_1 : fldAt Tryz.prog 115 1 = some (1, false, 1) := by kernel_rfl
theorem fld115_2 : fldOff Tryz.prog 115 2 = some 2 := by kernel_rfl
theorem fla115_2 : fldAt Tryz.prog 115 2 = some (2, false, 1) := by kernel_rfl
theorem str115 : strT Tryz.prog 115 = some ([.slice none 0 0, .int .i64 0, .int .i64 0], [(0, 1), (1, 1), (2, 1)]) := by kernel_rfl
theorem zer115 : zeroV Tryz.prog 115 = some (.agg #[.slice none 0 0, .int .i64 0, .int .i64 0]) := by kernel_rfl
theorem lay120 : lay Tryz.prog 120 = some (true, 4) := by kernel_rfl
theorem fld120_0 : fldOff Tryz.prog 120 0 = some 0 := by kernel_rfl
theorem fla120_0 : fldAt Tryz.prog 120 0 = some (0, false, 1) := by kernel_rfl
theorem fld120_1 : fldOff Tryz.prog 120 1 = some 1 := by kernel_rfl
theorem fla120_1 : fldAt Tryz.prog 120 1 = some (1, true, 3) := by kernel_rfl
theorem str120 : strT Tryz.prog 120 = some ([.int .i64 0, .slice none 0 0, .int .i64 0, .int .i64 0], [(0, 1), (1, 3)]) := by kernel_rfl
theorem zer120 : zeroV Tryz.prog 120 = some (.agg #[.int .i64 0, .slice none 0 0, .int .i64 0, .int .i64 0]) := by kernel_rfl
theorem lay128 : lay Tryz.prog 128 = some (true, 2) := by kernel_rfl
theorem fld128_0 : fldOff Tryz.prog 128 0 = some 0 := by kernel_rfl
theorem fla128_0 : fldAt Tryz.prog 128 0 = some (0, false, 1) := by kernel_rfl
theorem fld128_1 : fldOff Tryz.prog 128 1 = some 1 := by kernel_rfl
theorem fla128_1 : fldAt Tryz.prog 128 1 = some (1, false, 1) := by kernel_rfl
theorem str128 : strT Tryz.prog 128 = some ([.int .i64 0, .int .i64 0], [(0, 1), (1, 1)]) := by kernel_rfl
theorem zer128 : zeroV Tryz.prog 128 = some (.agg #[.int .i64 0, .int .i64 0]) := by kernel_rfl
theorem lay138 : lay Tryz.prog 138 = some (false, 1) := by kernel_rfl
theorem zer138 : zeroV Tryz.prog 138 = some (.nilIface) := by kernel_rfl
theorem lay161 : lay Tryz.prog 161 = some (false, 1) := by kernel_rfl
theorem zer161 : zeroV Tryz.prog 161 = some (.pointer none) := by kernel_rfl
theorem lay163 : lay Tryz.prog 163 = some (true, 2) := by kernel_rfl
theorem fld163_0 : fldOff Tryz.prog 163 0 = some 0 := by kernel_rfl
theorem fla163_0 : fldAt Tryz.prog 163 0 = some (0, false, 1) := by kernel_rfl
theorem fld163_1 : fldOff Tryz.prog 163 1 = some 1 := by kernel_rfl
theorem fla163_1 : fldAt Tryz.prog 163 1 = some (1, false, 1) := by kernel_rfl
theorem str163 : strT Tryz.prog 163 = some ([.pointer none, .slice none 0 0], [(0, 1), (1, 1)]) := by kernel_rfl
theorem zer163 : zeroV Tryz.prog 163 = some (.agg #[.pointer none, .slice none 0 0]) := by kernel_rfl
theorem lay172 : lay Tryz.prog 172 = some (false, 1) := by kernel_rfl
theorem und172 : Tryz.prog.underlying 172 = some (.int .i64) := by kernel_rfl
theorem zer172 : zeroV Tryz.prog 172 = some (.int .i64 0) := by kernel_rfl
theorem lay173 : lay Tryz.prog 173 = some (false, 1) := by kernel_rfl
theorem und173 : Tryz.prog.underlying 173 = some (.int .u64) := by kernel_rfl
theorem zer173 : zeroV Tryz.prog 173 = some (.int .u64 0) := by kernel_rfl
theorem lay176 : lay Tryz.prog 176 = some (false, 1) := by kernel_rfl
theorem und176 : Tryz.prog.underlying 176 = some (.int .u64) := by kernel_rfl
theorem zer176 : zeroV Tryz.prog 176 = some (.int .u64 0) := by kernel_rfl
theorem lay177 : lay Tryz.prog 177 = some (false, 1) := by kernel_rfl
theorem zer177 : zeroV Tryz.prog 177 = some (.pointer none) := by kernel_rfl
theorem lay182 : lay Tryz.prog 182 = some (false, 1) := by kernel_rfl
theorem zer182 : zeroV Tryz.prog 182 = some (.pointer none) := by kernel_rfl
theorem lay186 : lay Tryz.prog 186 = some (true, 3) := by kernel_rfl
theorem fld186_0 : fldOff Tryz.prog 186 0 = some 0 := by kernel_rfl
theorem fla186_0 : fldAt Tryz.prog 186 0 = some (0, false, 1) := by kernel_rfl
theorem fld186_1 : fldOff Tryz.prog 186 1 = some 1 := by kernel_rfl
theorem fla186_1 : fldAt Tryz.prog 186 1 = some (1, false, 1) := by kernel_rfl
theorem fld186_2 : fldOff Tryz.prog 186 2 = some 2 := by kernel_rfl
theorem fla186_2 : fldAt Tryz.prog 186 2 = some (2, false, 1) := by kernel_rfl
theorem str186 : strT Tryz.prog 186 = some ([.string ⟨#[]⟩, .string ⟨#[]⟩, .nilIface], [(0, 1), (1, 1), (2, 1)]) := by kernel_rfl
theorem zer186 : zeroV Tryz.prog 186 = some (.agg #[.string ⟨#[]⟩, .string ⟨#[]⟩, .nilIface]) := by kernel_rfl
theorem lay188 : lay Tryz.prog 188 = some (true, 24) := by kernel_rfl
theorem zer188 : zeroV Tryz.prog 188 = some (.agg #[.int .u8 0, .int .u8 0, .int .u8 0, .int .u8 0, .int .u8 0, .int .u8 0, .int .u8 0, .int .u8 0, .int .u8 0, .int .u8 0, .int .u8 0, .int .u8 0, .int .u8 0, .int .u8 0, .int .u8 0, .int .u8 0, .int .u8 0, .int .u8 0, .int .u8 0, .int .u8 0, .int .u8 0, .int .u8 0, .int .u8 0, .int .u8 0]) := by kernel_rfl
theorem lay193 : lay Tryz.prog 193 = some (false, 1) := by kernel_rfl
theorem und193 : Tryz.prog.underlying 193 = some (.int .u32) := by kernel_rfl
theorem zer193 : zeroV Tryz.prog 193 = some (.int .u32 0) := by kernel_rfl
theorem lay197 : lay Tryz.prog 197 = some (false, 1) := by kernel_rfl
theorem zer197 : zeroV Tryz.prog 197 = some (.pointer none) := by kernel_rfl
theorem lay200 : lay Tryz.prog 200 = some (true, 256) := by kernel_rfl
theorem zer200 : zeroV Tryz.prog 200 = some (.agg #[.int .u8 0, .int .u8 0, .int .u8 0, .int .u8 0, .int .u8 0, .int .u8 0, .int .u8 0, .int .u8 0, .int .u8 0, .int .u8 0, .int .u8 0, .int .u8 0, .int .u8 0, .int .u8 0, .int .u8 0, .int .u8 0, .int .u8 0, .int .u8 0, .int .u8 0, .int .u8 0, .int .u8 0, .int .u8 0, .int .u8 0, .int .u8 0, .int .u8 0, .int .u8 0, .int .u8 0, .int .u8 0, .int .u8 0, .int .u8 0, .int .u8 0, .int .u8 0, .int .u8 0, .int .u8 0, .int .u8 0, .int .u8 0, .int .u8 0, .int .u8 0, .int .u8 0, .int .u8 0, .int .u8 0, .int .u8 0, .int .u8 0, .int .u8 0, .int .u8 0, .int .u8 0, .int .u8 0, .int .u8 0, .int .u8 0, .int .u8 0, .int .u8 0, .int .u8 0, .int .u8 0, .int .u8 0, .int .u8 0, .int .u8 0, .int .u8 0, .int .u8 0, .int .u8 0, .int .u8 0, .int .u8 0, .int .u8 0, .int .u8 0, .int .u8 0, .int .u8 0, .int .u8 0, .int .u8 0, .int .u8 0, .int .u8 0, .int .u8 0, .int .u8 0, .int .u8 0, .int .u8 0, .int .u8 0, .int .u8 0, .int .u8 0, .int .u8 0, .int .u8 0, .int .u8 0, .int .u8 0, .int .u8 0, .int .u8 0, .int .u8 0, .int .u8 0, .int .u8 0, .int .u8 0, .int .u8 0, .int .u8 0, .int .u8 0, .int .u8 0, .int .u8 0, .int .u8 0, .int .u8 0, .int .u8 0, .int .u8 0, .int .u8 0, .int .u8 0, .int .u8 0, .int .u8 0, .int .u8 0, .int .u8 0, .int .u8 0, .int .u8 0, .int .u8 0, .int .u8 0, .int .u8 0, .int .u8 0, .int .u8 0, .int .u8 0, .int .u8 0, .int .u8 0, .int .u8 0, .int .u8 0, .int .u8 0, .int .u8 0, .int .u8 0, .int .u8 0, .int .u8 0, .int .u8 0, .int .u8 0, .int .u8 0, .int .u8 0, .int .u8 0, .int .u8 0, .int .u8 0, .int .u8 0, .int .u8 0, .int .u8 0, .int .u8 0, .int .u8 0, .int .u8 0, .int .u8 0, .int .u8 0, .int .u8 0, .int .u8 0, .int .u8 0, .int .u8 0, .int .u8 0, .int .u8 0, .int .u8 0, .int .u8 0, .int .u8 0, .int .u8 0, .int .u8 0, .int .u8 0, .int .u8 0, .int .u8 0, .int .u8 0, .int .u8 0, .int .u8 0, .int .u8 0, .int .u8 0, .int .u8 0, .int .u8 0, .int .u8 0, .int .u8 0, .int .u8 0, .int .u8 0, .int .u8 0, .int .u8 0, .int .u8 0, .int .u8 0, .int .u8 0, .int .u8 0, .int .u8 0, .int .u8 0, .int .u8 0, .int .u8 0, .int .u8 0, .int .u8 0, .int .u8 0, .int .u8 0, .int .u8 0, .int .u8 0, .int .u8 0, .int .u8 0, .int .u8 0, .int .u8 0, .int .u8 0, .int .u8 0, .int .u8 0, .int .u8 0, .int .u8 0, .int .u8 0, .int .u8 0, .int .u8 0, .int .u8 0, .int .u8 0, .int .u8 0, .int .u8 0, .int .u8 0, .int .u8 0, .int .u8 0, .int .u8 0, .int .u8 0, .int .u8 0, .int .u8 0, .int .u8 0, .int .u8 0, .int .u8 0, .int .u8 0, .int .u8 0, .int .u8 0, .int .u8 0, .int .u8 0, .int .u8 0, .int .u8 0, .int .u8 0, .int .u8 0, .int .u8 0, .int .u8 0, .int .u8 0, .int .u8 0, .int .u8 0, .int .u8 0, .int .u8 0, .int .u8 0, .int .u8 0, .int .u8 0, .int .u8 0, .int .u8 0, .int .u8 0, .int .u8 0, .int .u8 0, .int .u8 0, .int .u8 0, .int .u8 0, .int .u8 0, .int .u8 0, .int .u8 0, .int .u8 0, .int .u8 0, .int .u8 0, .int .u8 0, .int .u8 0, .int .u8 0, .int .u8 0, .int .u8 0, .int .u8 0, .int .u8 0, .int .u8 0, .int .u8 0, .int .u8 0, .int .u8 0, .int .u8 0, .int .u8 0, .int .u8 0, .int .u8 0, .int .u8 0, .int .u8 0, .int .u8 0, .int .u8 0, .int .u8 0, .int .u8 0, .int .u8 0, .int .u8 0]) := by kernel_rfl
theorem lay202 : lay Tryz.prog 202 = some (true, 2) := by kernel_rfl
theorem fld202_0 : fldOff Tryz.prog 202 0 = some 0 := by kernel_rfl
theorem fla202_0 : fldAt Tryz.prog 202 0 = some (0, false, 1) := by kernel_rfl
theorem fld202_1 : fldOff Tryz.prog 202 1 = some 1 := by kernel_rfl
theorem fla202_1 : fldAt Tryz.prog 202 1 = some (1, false, 1) := by kernel_rfl
theorem str202 : strT Tryz.prog 202 = some ([.int .u8 0, .int .u8 0], [(0, 1), (1, 1)]) := by kernel_rfl
theorem zer202 : zeroV Tryz.prog 202 = some (.agg #[.int .u8 0, .int .u8 0]) := by kernel_rfl
theorem lay203 : lay Tryz.prog 203 = some (true, 32) := by kernel_rfl
theorem zer203 : zeroV Tryz.prog 203 = some (.agg #[.int .u8 0, .int .u8 0, .int .u8 0, .int .u8 0, .int .u8 0, .int .u8 0, .int .u8 0, .int .u8 0, .int .u8 0, .int .u8 0, .int .u8 0, .int .u8 0, .int .u8 0, .int .u8 0, .int .u8 0, .int .u8 0, .int .u8 0, .int .u8 0, .int .u8 0, .int .u8 0, .int .u8 0, .int .u8 0, .int .u8 0, .int .u8 0, .int .u8 0, .int .u8 0, .int .u8 0, .int .u8 0, .int .u8 0, .int .u8 0, .int .u8 0, .int .u8 0]) := by kernel_rfl
theorem lay204 : lay Tryz.prog 204 = some (false, 1) := by kernel_rfl
theorem zer204 : zeroV Tryz.prog 204 = some (.pointer none) := by kernel_rfl
theorem lay206 : lay Tryz.prog 206 = some (true, 1) := by kernel_rfl
theorem fld206_0 : fldOff Tryz.prog 206 0 = some 0 := by kernel_rfl
theorem fla206_0 : fldAt Tryz.prog 206 0 = some (0, false, 1) := by kernel_rfl
theorem str206 : strT Tryz.prog 206 = some ([.string ⟨#[]⟩], [(0, 1)]) := by kernel_rfl
theorem zer206 : zeroV Tryz.prog 206 = some (.agg #[.string ⟨#[]⟩]) := by kernel_rfl
theorem lay208 : lay Tryz.prog 208 = some (true, 20) := by kernel_rfl
theorem zer208 : zeroV Tryz.prog 208 = some (.agg #[.int .u64 0, .int .u64 0, .int .u64 0, .int .u64 0, .int .u64 0, .int .u64 0, .int .u64 0, .int .u64 0, .int .u64 0, .int .u64 0, .int .u64 0, .int .u64 0, .int .u64 0, .int .u64 0, .int .u64 0, .int .u64 0, .int .u64 0, .int .u64 0, .int .u64 0, .int .u64 0]) := by kernel_rfl
theorem lay209 : lay Tryz.prog 209 = some (true, 65) := by kernel_rfl
theorem zer209 : zeroV Tryz.prog 209 = some (.agg #[.int .u8 0, .int .u8 0, .int .u8 0, .int .u8 0, .int .u8 0, .int .u8 0, .int .u8 0, .int .u8 0, .int .u8 0, .int .u8 0, .int .u8 0, .int .u8 0, .int .u8 0, .int .u8 0, .int .u8 0, .int .u8 0, .int .u8 0, .int .u8 0, .int .u8 0, .int .u8 0, .int .u8 0, .int .u8 0, .int .u8 0, .int .u8 0, .int .u8 0, .int .u8 0, .int .u8 0, .int .u8 0, .int .u8 0, .int .u8 0, .int .u8 0, .int .u8 0, .int .u8 0, .int .u8 0, .int .u8 0, .int .u8 0, .int .u8 0, .int .u8 0, .int .u8 0, .int .u8 0, .int .u8 0, .int .u8 0, .int .u8 0, .int .u8 0, .int .u8 0, .int .u8 0, .int .u8 0, .int .u8 0, .int .u8 0, .int .u8 0, .int .u8 0, .int .u8 0, .int .u8 0, .int .u8 0, .int .u8 0, .int .u8 0, .int .u8 0, .int .u8 0, .int .u8 0, .int .u8 0, .int .u8 0, .int .u8 0, .int .u8 0, .int .u8 0, .int .u8 0]) := by kernel_rfl
theorem lay213 : lay Tryz.prog 213 = some (true, 32) := by kernel_rfl
theorem zer213 : zeroV Tryz.prog 213 = some (.agg #[.int .u8 0, .int .u8 0, .int .u8 0, .int .u8 0, .int .u8 0, .int .u8 0, .int .u8 0, .int .u8 0, .int .u8 0, .int .u8 0, .int .u8 0, .int .u8 0, .int .u8 0, .int .u8 0, .int .u8 0, .int .u8 0, .int .u8 0, .int .u8 0, .int .u8 0, .int .u8 0, .int .u8 0, .int .u8 0, .int .u8 0, .int .u8 0, .int .u8 0, .int .u8 0, .int .u8 0, .int .u8 0, .int .u8 0, .int .u8 0, .int .u8 0, .int .u8 0]) := by kernel_rfl
theorem lay214 : lay Tryz.prog 214 = some (true, 64) := by kernel_rfl
theorem zer214 : zeroV Tryz.prog 214 = some (.agg #[.int .u8 0, .int .u8 0, .int .u8 0, .int .u8 0, .int .u8 0, .int .u8 0, .int .u8 0, .int .u8 0, .int .u8 0, .int .u8 0, .int .u8 0, .int .u8 0, .int .u8 0, .int .u8 0, .int .u8 0, .int .u8 0, .int .u8 0, .int .u8 0, .int .u8 0, .int .u8 0, .int .u8 0, .int .u8 0, .int .u8 0, .int .u8 0, .int .u8 0, .int .u8 0, .int .u8 0, .int .u8 0, .int .u8 0, .int .u8 0, .int .u8 0, .int .u8 0, .int .u8 0, .int .u8 0, .int .u8 0, .int .u8 0, .int .u8 0, .int .u8 0, .int .u8 0, .int .u8 0, .int .u8 0, .int .u8 0, .int .u8 0, .int .u8 0, .int .u8 0, .int .u8 0, .int .u8 0, .int .u8 0, .int .u8 0, .int .u8 0, .int .u8 0, .int .u8 0, .int .u8 0, .int .u8 0, .int .u8 0, .int .u8 0, .int .u8 0, .int .u8 0, .int .u8 0, .int .u8 0, .int .u8 0, .int .u8 0, .int .u8 0, .int .u8 0]) := by kernel_rfl
theorem eqA78 (d : Nat) (w : World) (a_0 : Int) (a_1 : Int) (b_0 : Int) (b_1 : Int) : (Op.equalIn (d + 2) 78 (.agg #[.int .i64 a_0, .int .i64 a_1]) (.agg #[.int .i64 b_0, .int .i64 b_1])).run Tryz.prog w = .ok ((a_0 == b_0) && (a_1 == b_1)) w := by
  refine eqs_of Tryz.underlying78 (by kernel_rfl) ?_
  refine eqf_more (by rfl) (by go_simp; try rfl) (by go_simp; try rfl) (by go_simp) ?_
  exact eqf_one (by rfl) (by go_simp; try rfl) (by go_simp; try rfl) (by go_simp)
theorem eql78 (xo yo : Operand) (a_0 : Int) (a_1 : Int) (b_0 : Int) (b_1 : Int) : binS Tryz.prog .eql 78 xo yo (.agg #[.int .i64 a_0, .int .i64 a_1]) (.agg #[.int .i64 b_0, .int .i64 b_1]) = some (.bool (((a_0 == b_0) && (a_1 == b_1)))) := eql_of 2 (by decide) (by simp [pureV, flatV]) (by simp [pureV, flatV]) (by kernel_rfl) fun d w => eqA78 d w _ _ _ _
theorem neq78 (xo yo : Operand) (a_0 : Int) (a_1 : Int) (b_0 : Int) (b_1 : Int) : binS Tryz.prog .neq 78 xo yo (.agg #[.int .i64 a_0, .int .i64 a_1]) (.agg #[.int .i64 b_0, .int .i64 b_1]) = some (.bool (!((a_0 == b_0) && (a_1 == b_1)))) := neq_of 2 (by decide) (by simp [pureV, flatV]) (by simp [pureV, flatV]) (by kernel_rfl) fun d w => eqA78 d w _ _ _ _
theorem eqA128 (d : Nat) (w : World) (a_0 : Int) (a_1 : Int) (b_0 : Int) (b_1 : Int) : (Op.equalIn (d + 2) 128 (.agg #[.int .i64 a_0, .int .i64 a_1]) (.agg #[.int .i64 b_0, .int .i64 b_1])).run Tryz.prog w = .ok ((a_0 == b_0) && (a_1 == b_1)) w := by
  refine eqs_of Tryz.underlying128 (by kernel_rfl) ?_
  refine eqf_more (by rfl) (by go_simp; try rfl) (by go_simp; try rfl) (by go_simp) ?_
  exact eqf_one (by rfl) (by go_simp; try rfl) (by go_simp; try rfl) (by go_simp)
theorem eql128 (xo yo : Operand) (a_0 : Int) (a_1 : Int) (b_0 : Int) (b_1 : Int) : binS Tryz.prog .eql 128 xo yo (.agg #[.int .i64 a_0, .int .i64 a_1]) (.agg #[.int .i64 b_0, .int .i64 b_1]) = some (.bool (((a_0 == b_0) && (a_1 == b_1)))) := eql_of 2 (by decide) (by simp [pureV, flatV]) (by simp [pureV, flatV]) (by kernel_rfl) fun d w => eqA128 d w _ _ _ _
theorem neq128 (xo yo : Operand) (a_0 : Int) (a_1 : Int) (b_0 : Int) (b_1 : Int) : binS Tryz.prog .neq 128 xo yo (.agg #[.int .i64 a_0, .int .i64 a_1]) (.agg #[.int .i64 b_0, .int .i64 b_1]) = some (.bool (!((a_0 == b_0) && (a_1 == b_1)))) := neq_of 2 (by decide) (by simp [pureV, flatV]) (by simp [pureV, flatV]) (by kernel_rfl) fun d w => eqA128 d w _ _ _ _
theorem tys : type_of% (And.intro (And.intro (And.intro (And.intro (And.intro (And.intro (And.intro (@lay2) (And.intro (@und2) (@zer2))) (And.intro (@lay3) (And.intro (@und3) (@zer3)))) (And.intro (And.intro (@lay4) (And.intro (@und4) (@zer4))) (And.intro (And.intro (@lay5) (@und5)) (And.intro (@zer5) (@lay9))))) (And.intro (And.intro (And.intro (@und9) (And.intro (@zer9) (@lay21))) (And.intro (@und21) (And.intro (@zer21) (@lay22)))) (And.intro (And.intro (@elZ22) (And.intro (@zOk22) (@zer22))) (And.intro (And.intro (@lay23) (@elZ23)) (And.intro (@zOk23) (@zer23)))))) (And.intro (And.intro (And.intro (And.intro (@lay25) (And.intro (@fld25_0) (@fla25_0))) (And.intro (@fld25_1) (And.intro (@fla25_1) (@str25)))) (And.intro (And.intro (@zer25) (And.intro (@lay27) (@elZ27))) (And.intro (And.intro (@zOk27) (@zer27)) (And.intro (@lay29) (@fld29_0))))) (And.intro (And.intro (And.intro (@fla29_0) (And.intro (@fld29_1) (@fla29_1))) (And.intro (@fld29_2) (And.intro (@fla29_2) (@fld29_3)))) (And.intro (And.intro (@fla29_3) (And.intro (@str29) (@zer29))) (And.intro (And.intro (@lay31) (@fld31_0)) (And.intro (@fla31_0) (@fld31_1))))))) (And.intro (And.intro (And.intro (And.intro (And.intro (@fla31_1) (And.intro (@str31) (@zer31))) (And.intro (@lay33) (And.intro (@elZ33) (@zOk33)))) (And.intro (And.intro (@zer33) (And.intro (@lay35) (@fld35_0))) (And.intro (And.intro (@fla35_0) (@fld35_1)) (And.intro (@fla35_1) (@str35))))) (And.intro (And.intro (And.intro (@zer35) (And.intro (@lay42) (@elZ42))) (And.intro (@zOk42) (And.intro (@zer42) (@lay43)))) (And.intro (And.intro (@elZ43) (And.intro (@zOk43) (@zer43))) (And.intro (And.intro (@lay45) (@fld45_0)) (And.intro (@fla45_0) (@fld45_1)))))) (And.intro (And.intro (And.intro (And.intro (@fla45_1) (And.intro (@fld45_2) (@fla45_2))) (And.intro (@fld45_3) (And.intro (@fla45_3) (@str45)))) (And.intro (And.intro (@zer45) (And.intro (@lay47) (@fld47_0))) (And.intro (And.intro (@fla47_0) (@fld47_1)) (And.intro (@fla47_1) (@str47))))) (And.intro (And.intro (And.intro (@zer47) (And.intro (@lay54) (@fld54_0))) (And.intro (And.intro (@fla54_0) (@fld54_1)) (And.intro (@fla54_1) (@str54)))) (And.intro (And.intro (@zer54) (And.intro (@lay78) (@fld78_0))) (And.intro (And.intro (@fla78_0) (@fld78_1)) (And.intro (@fla78_1) (@str78)))))))) (And.intro (And.intro (And.intro (And.intro (And.intro (And.intro (@zer78) (And.intro (@lay80) (@fld80_0))) (And.intro (@fla80_0) (And.intro (@fld80_1) (@fla80_1)))) (And.intro (And.intro (@str80) (And.intro (@zer80) (@lay111))) (And.intro (And.intro (@elZ111) (@zOk111)) (And.intro (@zer111) (@lay115))))) (And.intro (And.intro (And.intro (@fld115_0) (And.intro (@fla115_0) (@fld115_1))) (And.intro (@fla115_1) (And.intro (@fld115_2) (@fla115_2)))) (And.intro (And.intro (@str115) (And.intro (@zer115) (@lay120))) (And.intro (And.intro (@fld120_0) (@fla120_0)) (And.intro (@fld120_1) (@fla120_1)))))) (And.intro (And.intro (And.intro (And.intro (@str120) (And.intro (@zer120) (@lay128))) (And.intro (@fld128_0) (And.intro (@fla128_0) (@fld128_1)))) (And.intro (And.intro (@fla128_1) (And.intro (@str128) (@zer128))) (And.intro (And.intro (@lay138) (@zer138)) (And.intro (@lay161) (@zer161))))) (And.intro (And.intro (And.intro (@lay163) (And.intro (@fld163_0) (@fla163_0))) (And.intro (@fld163_1) (And.intro (@fla163_1) (@str163)))) (And.intro (And.intro (@zer163) (And.intro (@lay172) (@und172))) (And.intro (And.intro (@zer172) (@lay173)) (And.intro (@und173) (@zer173))))))) (And.intro (And.intro (And.intro (And.intro (And.intro (@lay176) (And.intro (@und176) (@zer176))) (And.intro (@lay177) (And.intro (@zer177) (@lay182)))) (And.intro (And.intro (@zer182) (And.intro (@lay186) (@fld186_0))) (And.intro (And.intro (@fla186_0) (@fld186_1)) (And.intro (@fla186_1) (@fld186_2))))) (And.intro (And.intro (And.intro (@fla186_2) (And.intro (@str186) (@zer186))) (And.intro (@lay188) (And.intro (@zer188) (@lay193)))) (And.intro (And.intro (@und193) (And.intro (@zer193) (@lay197))) (And.intro (And.intro (@zer197) (@lay200)) (And.intro (@zer200) (@lay202)))))) (And.intro (And.intro (And.intro (And.intro (@fld202_0) (And.intro (@fla202_0) (@fld202_1))) (And.intro (@fla202_1) (And.intro (@str202) (@zer202)))) (And.intro (And.intro (@lay203) (And.intro (@zer203) (@lay204))) (And.intro (And.intro (@zer204) (@lay206)) (And.intro (@fld206_0) (@fla206_0))))) (And.intro (And.intro (And.intro (@str206) (And.intro (@zer206) (@lay208))) (And.intro (And.intro (@zer208) (@lay209)) (And.intro (@zer209) (@lay213)))) (And.intro (And.intro (@zer213) (And.intro (@lay214) (@zer214))) (And.intro (And.intro (@eql78) (@neq78)) (And.intro (@eql128) (@neq128))))))))) := And.intro (And.intro (And.intro (And.intro (And.intro (And.intro (And.intro (@lay2) (And.intro (@und2) (@zer2))) (And.intro (@lay3) (And.intro (@und3) (@zer3)))) (And.intro (And.intro (@lay4) (And.intro (@und4) (@zer4))) (And.intro (And.intro (@lay5) (@und5)) (And.intro (@zer5) (@lay9))))) (And.intro (And.intro (And.intro (@und9) (And.intro (@zer9) (@lay21))) (And.intro (@und21) (And.intro (@zer21) (@lay22)))) (And.intro (And.intro (@elZ22) (And.intro (@zOk22) (@zer22))) (And.intro (And.intro (@lay23) (@elZ23)) (And.intro (@zOk23) (@zer23)))))) (And.intro (And.intro (And.intro (And.intro (@lay25) (And.intro (@fld25_0) (@fla25_0))) (And.intro (@fld25_1) (And.intro (@fla25_1) (@str25)))) (And.intro (And.intro (@zer25) (And.intro (@lay27) (@elZ27))) (And.intro (And.intro (@zOk27) (@zer27)) (And.intro (@lay29) (@fld29_0))))) (And.intro (And.intro (And.intro (@fla29_0) (And.intro (@fld29_1) (@fla29_1))) (And.intro (@fld29_2) (And.intro (@fla29_2) (@fld29_3)))) (And.intro (And.intro (@fla29_3) (And.intro (@str29) (@zer29))) (And.intro (And.intro (@lay31) (@fld31_0)) (And.intro (@fla31_0) (@fld31_1))))))) (And.intro (And.intro (And.intro (And.intro (And.intro (@fla31_1) (And.intro (@str31) (@zer31))) (And.intro (@lay33) (And.intro (@elZ33) (@zOk33)))) (And.intro (And.intro (@zer33) (And.intro (@lay35) (@fld35_0))) (And.intro (And.intro (@fla35_0) (@fld35_1)) (And.intro (@fla35_1) (@str35))))) (And.intro (And.intro (And.intro (@zer35) (And.intro (@lay42) (@elZ42))) (And.intro (@zOk42) (And.intro (@zer42) (@lay43)))) (And.intro (And.intro (@elZ43) (And.intro (@zOk43) (@zer43))) (And.intro (And.intro (@lay45) (@fld45_0)) (And.intro (@fla45_0) (@fld45_1)))))) (And.intro (And.intro (And.intro (And.intro (@fla45_1) (And.intro (@fld45_2) (@fla45_2))) (And.intro (@fld45_3) (And.intro (@fla45_3) (@str45)))) (And.intro (And.intro (@zer45) (And.intro (@lay47) (@fld47_0))) (And.intro (And.intro (@fla47_0) (@fld47_1)) (And.intro (@fla47_1) (@str47))))) (And.intro (And.intro (And.intro (@zer47) (And.intro (@lay54) (@fld54_0))) (And.intro (And.intro (@fla54_0) (@fld54_1)) (And.intro (@fla54_1) (@str54)))) (And.intro (And.intro (@zer54) (And.intro (@lay78) (@fld78_0))) (And.intro (And.intro (@fla78_0) (@fld78_1)) (And.intro (@fla78_1) (@str78)))))))) (And.intro (And.intro (And.intro (And.intro (And.intro (And.intro (@zer78) (And.intro (@lay80) (@fld80_0))) (And.intro (@fla80_0) (And.intro (@fld80_1) (@fla80_1)))) (And.intro (And.intro (@str80) (And.intro (@zer80) (@lay111))) (And.intro (And.intro (@elZ111) (@zOk111)) (And.intro (@zer111) (@lay115))))) (And.intro (And.intro (And.intro (@fld115_0) (And.intro (@fla115_0) (@fld115_1))) (And.intro (@fla115_1) (And.intro (@fld115_2) (@fla115_2)))) (And.intro (And.intro (@str115) (And.intro (@zer115) (@lay120))) (And.intro (And.intro (@fld120_0) (@fla120_0)) (And.intro (@fld120_1) (@fla120_1)))))) (And.intro (And.intro (And.intro (And.intro (@str120) (And.intro (@zer120) (@lay128))) (And.intro (@fld128_0) (And.intro (@fla128_0) (@fld128_1)))) (And.intro (And.intro (@fla128_1) (And.intro (@str128) (@zer128))) (And.intro (And.intro (@lay138) (@zer138)) (And.intro (@lay161) (@zer161))))) (And.intro (And.intro (And.intro (@lay163) (And.intro (@fld163_0) (@fla163_0))) (And.intro (@fld163_1) (And.intro (@fla163_1) (@str163)))) (And.intro (And.intro (@zer163) (And.intro (@lay172) (@und172))) (And.intro (And.intro (@zer172) (@lay173)) (And.intro (@und173) (@zer173))))))) (And.intro (And.intro (And.intro (And.intro (And.intro (@lay176) (And.intro (@und176) (@zer176))) (And.intro (@lay177) (And.intro (@zer177) (@lay182)))) (And.intro (And.intro (@zer182) (And.intro (@lay186) (@fld186_0))) (And.intro (And.intro (@fla186_0) (@fld186_1)) (And.intro (@fla186_1) (@fld186_2))))) (And.intro (And.intro (And.intro (@fla186_2) (And.intro (@str186) (@zer186))) (And.intro (@lay188) (And.intro (@zer188) (@lay193)))) (And.intro (And.intro (@und193) (And.intro (@zer193) (@lay197))) (And.intro (And.intro (@zer197) (@lay200)) (And.intro (@zer200) (@lay202)))))) (And.intro (And.intro (And.intro (And.intro (@fld202_0) (And.intro (@fla202_0) (@fld202_1))) (And.intro (@fla202_1) (And.intro (@str202) (@zer202)))) (And.intro (And.intro (@lay203) (And.intro (@zer203) (@lay204))) (And.intro (And.intro (@zer204) (@lay206)) (And.intro (@fld206_0) (@fla206_0))))) (And.intro (And.intro (And.intro (@str206) (And.intro (@zer206) (@lay208))) (And.intro (And.intro (@zer208) (@lay209)) (And.intro (@zer209) (@lay213)))) (And.intro (And.intro (@zer213) (And.intro (@lay214) (@zer214))) (And.intro (And.intro (@eql78) (@neq78)) (And.intro (@eql128) (@neq128))))))))
end Go.BM
/- The library's functions, as contracts of the engine: Split, Join, FormatInt, and the reading of a number. -/
set_option linter.unusedVariables false
set_option linter.unusedSimpArgs false
set_option maxRecDepth 100000
namespace Go.BM
open Go.RowKit
theorem flat_vr {σ : Sg} {H : AH} {v d : Value} (h : VR σ H v d) (hd : flatV d = true) : v = d := by
  cases h with
  | flat => rfl
  | tuple xs ys hs h =>
    have h0 : ys.size = 0 := by simpa [flatV] using hd
    have h1 : xs.size = 0 := by omega
    rw [Array.eq_empty_of_size_eq_zero h0, Array.eq_empty_of_size_eq_zero h1]
  | _ => simp [flatV] at hd
theorem flat_vrl {σ : Sg} {H : AH} : ∀ {vs ds : List Value}, VRL σ H vs ds → (∀ d ∈ ds, flatV d = true) → vs = ds := fun {vs ds} h hd => by
  apply List.ext_getElem?
  intro j
  rcases Nat.lt_or_ge j ds.length with hj | hj
  · obtain ⟨x, hx, hv⟩ := h.2 j ds[j] (List.getElem?_eq_getElem hj)
    rw [hx, List.getElem?_eq_getElem hj, flat_vr hv (hd _ (List.getElem_mem hj))]
  · rw [List.getElem?_eq_none hj, List.getElem?_eq_none (by have := h.1; omega)]
/-- A contract over whole worlds, for values alone. -/
theorem PCalls.ofC {P : Program} {f : FuncId} {args : List Value} {v : Value} (hc : callable P f = true) (ha : ∀ d ∈ args, flatV d = true) (hv : flatV v = true)
    (h : ∀ (σ : Sg) (w : World), Sim σ [] w → Calls P f args.toArray w fun e w' => e = .returned v ∧ Below w.heap.size w w') : PCalls P f args v :=
  ⟨hc, fun σ w vals hS hB hvl => by
    have e : vals = args.toArray := by rw [← flat_vrl hvl ha]
    rw [e]
    exact (h σ w hS).mono fun e w' ⟨h1, h2⟩ => ⟨v, h1, σ, [], v, .of_below h2, hS.below h2, .flat _ hv, .same _ (.flat _ hv)⟩⟩
theorem Sim.var1 {P : Program} {σ : Sg} {H : AH} {w : World} (hS : Sim σ H w) (g : P.globalNamed "strconv.ErrSyntax" = some 1) : ∃ tp p, w.var? P "strconv.ErrSyntax" = some #[.iface tp p] := by
  obtain ⟨_, ⟨tp, p, _, ty, mk, h⟩, _⟩ := hS.glob
  exact ⟨tp, p, by unfold World.var?; rw [g]; simp only [Option.bind_some, h]⟩
theorem Sim.var2 {P : Program} {σ : Sg} {H : AH} {w : World} (hS : Sim σ H w) (g : P.globalNamed "strconv.ErrRange" = some 2) : ∃ tp p, w.var? P "strconv.ErrRange" = some #[.iface tp p] := by
  obtain ⟨_, _, ⟨tp, p, _, ty, mk, h⟩, _⟩ := hS.glob
  exact ⟨tp, p, by unfold World.var?; rw [g]; simp only [Option.bind_some, h]⟩
theorem Sim.tab {P : Program} {σ : Sg} {H : AH} {w : World} (hS : Sim σ H w) (g : P.globalNamed "internal/strconv.uint64pow10" = some 5) : Lib.TabIs P w "internal/strconv.uint64pow10" .u64 Lib.pow10Tab := by
  obtain ⟨_, _, _, ⟨u, _, ty, mk, h⟩⟩ := hS.glob
  unfold Lib.TabIs World.var?
  rw [g]
  simp only [Option.bind_some, h]
  unfold pow10V Lib.pow10Tab
  rw [List.map_map]
  rfl
theorem Sim.maxLen {σ : Sg} {H : AH} {w : World} (hS : Sim σ H w) : ∃ m : Int, w.cell? ⟨0, 0, none⟩ = some (.int .i64 m) := by
  obtain ⟨⟨m, h⟩, _⟩ := hS.glob
  exact ⟨m, (hS.im _ _ h).1⟩
end Go.BM
namespace Go.Proofs
open Go.RowKit Go.BM
theorem Tryz.gSyn : Tryz.prog.globalNamed "strconv.ErrSyntax" = some 1 := by kernel_rfl
theorem Tryz.gRng : Tryz.prog.globalNamed "strconv.ErrRange" = some 2 := by kernel_rfl
theorem Tryz.gPow : Tryz.prog.globalNamed "internal/strconv.uint64pow10" = some 5 := by kernel_rfl
theorem dec_calls (n : Int) (h0 : -9223372036854775808 ≤ n) (h1 : n ≤ 9223372036854775807) (w : World) (htab : Lib.TabIs Tryz.prog w "internal/strconv.uint64pow10" .u64 Lib.pow10Tab) :
    Calls Tryz.prog 93 #[.int .i64 n] w fun e w' => e = .returned (.string ⟨(Lib.itoa n).toArray⟩) ∧ Below w.heap.size w w' := by
  go_enter Tryz.func93, Tryz.ntmps93
  go_wp2_with (go_at_call 117; refine (Tryz.strconv_FormatInt_10 n h0 h1 _ htab).mono ?_; rintro e w' ⟨rfl, k, os, rfl⟩)
  go_ret
  exact ⟨rfl, Lib.below_grow _ _ (Nat.le_refl _) _ _⟩
/-- A number, read: -1 for none. -/
def numF (s : ByteArray) : Int := match Lib.parseIntB 64 s.data.toList with
  | .ok v => if s.size ≤ 10 ∧ Lib.itoa v = s.data.toList then v else -1
  | _ => -1
theorem number_calls (s : ByteArray) (hs : s.size ≤ 281474976710656) (w : World) (htab : ∀ w' : World, Below w.heap.size w w' → Lib.TabIs Tryz.prog w' "internal/strconv.uint64pow10" .u64 Lib.pow10Tab)
    (tp1 tp2 : TypeId) (p1 p2 : Value) (hv1 : w.var? Tryz.prog "strconv.ErrSyntax" = some #[.iface tp1 p1]) (hv2 : w.var? Tryz.prog "strconv.ErrRange" = some #[.iface tp2 p2]) :
    Calls Tryz.prog 74 #[.string s] w fun e w' => e = .returned (.int .i64 (numF s)) ∧ Below w.heap.size w w' := by
  unfold numF
  cases h : Lib.parseIntB 64 s.data.toList with
  | ok v =>
    dsimp only
    obtain ⟨R, hR⟩ : ∃ R : Int, R = if s.size ≤ 10 ∧ Lib.itoa v = s.data.toList then v else -1 := ⟨_, rfl⟩
    rw [← hR]
    have hvb := Lib.parseIntB_bounds h
    have hd := fun (w1 : World) (hw1 : Below w.heap.size w w1) => dec_calls v (by have := hvb.1; simp at this; omega) (by have := hvb.2; simp at this; omega) w1 (htab w1 hw1)
    go_enter Tryz.func74, Tryz.ntmps74
    go_wp2_with (first
      | (go_at_call 92; refine (Tryz.strconv_ParseInt_10_at64_ok s (by omega) v h _).mono ?_; rintro e w1 ⟨rfl, hw1⟩; have hb1 : Below w.heap.size w w1 := by (rcases hw1 with rfl | ⟨t, rfl⟩; exact .refl _ _; exact Lib.bytesWorld_below _ _ _))
      | (go_at_call 93; refine (hd _ (by assumption)).mono ?_; rintro e w2 ⟨rfl, hb2⟩))
    · go_ret
      rename_i h2
      refine ⟨?_, hb1.trans (hb2.mono hb1.size)⟩
      show Ending.returned (.int .i64 (-1)) = _
      rw [hR, if_neg (fun hc => ?_)]
      rw [Lib.toList_data, hc.2] at h2
      simp at h2
      omega
    · go_ret
      rename_i h2
      refine ⟨?_, hb1.trans (hb2.mono hb1.size)⟩
      show Ending.returned (.int .i64 v) = _
      obtain ⟨h3, h4⟩ := h2
      rw [Lib.toList_data] at h4
      rw [hR, if_pos ⟨by omega, by simpa using h4⟩]
    all_goals
      rename_i h2 h3
      go_ret
      refine ⟨?_, hb1⟩
      rfl
  | range =>
    go_enter Tryz.func74, Tryz.ntmps74
    go_wp2_with (go_at_call 92; refine (Tryz.strconv_ParseInt_10_at64_range_var s hs h tp2 p2 _ hv2).mono ?_; rintro e w' ⟨N, rfl, -, -, hb⟩)
    go_ret
    exact ⟨rfl, hb⟩
  | _ =>
    go_enter Tryz.func74, Tryz.ntmps74
    go_wp2_with (go_at_call 92; refine (Tryz.strconv_ParseInt_10_at64_syntax_var s hs (h.trans (by kernel_rfl)) tp1 p1 _ hv1).mono ?_; rintro e w' ⟨N, rfl, -, -, hb⟩)
    go_ret
    exact ⟨rfl, hb⟩
end Go.Proofs
namespace Go.BM
open Go.RowKit Go.Proofs
theorem lib_dec (n : Int) (h0 : -9223372036854775808 ≤ n) (h1 : n ≤ 9223372036854775807) : PCalls Tryz.prog 93 [.int .i64 n] (.string ⟨(Lib.itoa n).toArray⟩) :=
  PCalls.ofC (by kernel_rfl) (by simp [flatV]) rfl fun σ w hS => dec_calls n h0 h1 w (hS.tab Tryz.gPow)
theorem lib_number (s : ByteArray) (hs : s.size ≤ 281474976710656) : PCalls Tryz.prog 74 [.string s] (.int .i64 (numF s)) :=
  PCalls.ofC (by kernel_rfl) (by simp [flatV]) rfl fun σ w hS => by
    obtain ⟨tp1, p1, h1⟩ := hS.var1 Tryz.gSyn
    obtain ⟨tp2, p2, h2⟩ := hS.var2 Tryz.gRng
    exact number_calls s hs w (fun w' hb => (hS.below hb).tab Tryz.gPow) tp1 tp2 p1 p2 h1 h2
/-- The words of a text. -/
def splitW (s sep : ByteArray) : List ByteArray := Lib.splitB sep 0 (Lib.countB s sep) s
theorem splitW_len (s sep : ByteArray) (h1 : 1 ≤ sep.size) : (splitW s sep).length = Lib.countB s sep + 1 := Lib.splitB_all sep h1 0 _ s rfl
theorem strE_cells (xs : List ByteArray) : strE.flat xs = xs.map Value.string := by
  induction xs with
  | nil => rfl
  | cons x l ih => rw [List.map_cons, ← ih]; rfl
theorem lib_Split (s sep : ByteArray) (hs : s.size < 4294967281) (h1 : 1 ≤ sep.size) : NCalls Tryz.prog 73 [.string s, .string sep] (islE strE (splitW s sep)) :=
  ⟨by kernel_rfl, fun σ w vals hS hB hvl => by
    have e : vals = #[.string s, .string sep] := by rw [show vals = vals.toList.toArray by simp, flat_vrl hvl (by simp [flatV])]
    obtain ⟨m, hm⟩ := hS.maxLen
    have hlen := splitW_len s sep h1
    have hcl := Lib.countB_le sep h1 s.size s (Nat.le_refl _)
    rw [e]
    refine (Tryz.strings_Split s sep m w hs hm h1).mono fun e w' ⟨he, hw⟩ => ?_
    have hmx : Lib.countB s sep + 1 ≤ maxLen := by unfold maxLen; omega
    subst hw
    obtain ⟨σ', F, S, V⟩ := new_slice (B := 0) hS hB (.refl _ _) 9 1 (Lib.countB s sep + 1) (Lib.countB s sep + 1) ((splitW s sep).map Value.string) ((splitW s sep).map Value.string).toArray (by simp)
      (fun j v hj => ⟨v, by simpa using hj, by
        obtain ⟨x, _, rfl⟩ := List.mem_map.1 (List.mem_of_getElem? hj)
        exact ⟨.flat _ rfl, rfl⟩⟩) (Nat.le_refl _) hmx (by simp [hlen])
    refine ⟨_, he, σ', _, _, F, S, V, [0], by simp, ?_⟩
    rw [← hlen]
    exact OwnL.sl (E := strE) (ys := splitW s sep) (el := 9) (sz := 1) (o := true) (rest := []) (by simp [mkB, strE_cells]) (fun _ => rfl) rfl (strE_flat _) (fun e => by cases e)⟩
theorem lib_Join (xs : List ByteArray) (sep : ByteArray) (hN : xs.length ≤ 140737488355328) (hlen : (Lib.join (xs.map (·.data.toList)) sep.data.toList).length ≤ 140737488355328) :
    PCalls Tryz.prog 109 [islE strE xs, .string sep] (.string ⟨(Lib.join (xs.map (·.data.toList)) sep.data.toList).toArray⟩) :=
  ⟨by kernel_rfl, fun σ w vals hS hB hvl => by
    obtain ⟨v0, hv0, r0⟩ := hvl.2 0 _ rfl
    obtain ⟨v1, hv1, r1⟩ := hvl.2 1 _ rfl
    have e1 : v1 = .string sep := flat_vr r1 rfl
    have hl := hvl.1
    have e : vals = #[v0, .string sep] := by
      apply Array.ext'
      subst e1
      match hq : vals.toList, hl, hv0, hv1 with
      | [a, b], _, hv0, hv1 => simp at hv0 hv1; rw [hv0, hv1]
    rw [e]
    have fin : ∀ (v : Value), flatV v = true → ∀ w', Below w.heap.size w w' → ∃ v', Ending.returned v = .returned v' ∧ ∃ σ' H' d, Fut 0 σ [] w σ' H' w' ∧ Sim σ' H' w' ∧ VR σ' H' v' d ∧ Bor H' d v :=
      fun v hv w' hb => ⟨v, rfl, σ, [], v, .of_below hb, hS.below hb, .flat _ hv, .same _ (.flat _ hv)⟩
    have jn : ∀ a c, v0 = .slice a 0 c → xs = [] → Calls Tryz.prog 109 #[v0, .string sep] w fun e w' => ∃ v', e = .returned v' ∧ ∃ σ' H' d, Fut 0 σ [] w σ' H' w' ∧ Sim σ' H' w' ∧ VR σ' H' v' d ∧ Bor H' d (.string ⟨(Lib.join (xs.map (·.data.toList)) sep.data.toList).toArray⟩) := fun a c h1 h2 => by
      subst h1 h2
      refine (Tryz.strings_Join_none a c sep w).mono fun e w' ⟨he, hw⟩ => ?_
      subst he hw
      exact fin _ rfl _ (.refl _ _)
    rcases r0.aslice (asI_isl xs.length (strE.flat xs)) with ⟨h1, h2, a, cap, h3, h4⟩ | ⟨b, o, cap, us, h3, h4, h5, h6, h7, h8⟩
    · exact jn a cap h3 (List.eq_nil_of_length_eq_zero h1)
    · rcases Nat.eq_zero_or_pos xs.length with h0 | h0
      · rw [h0] at h3
        exact jn _ _ h3 (List.eq_nil_of_length_eq_zero h0)
      · subst h3
        rw [strE_cells] at h6 h8
        have hcell : ∀ (j : Nat) x, xs[j]? = some x → w.cell? ⟨b, o + j, none⟩ = some (.string x) := fun j x hx => by
          obtain ⟨u, hu, hv⟩ := h8 j (.string x) (by rw [List.getElem?_map, hx]; rfl)
          have := hv.str
          subst this
          exact (hS.im _ _ (h7 j _ hu)).1
        have hbk : b < w.heap.size := cell_lt (hcell 0 _ (List.getElem?_eq_getElem h0))
        refine (Tryz.strings_Join b o cap xs sep w hcell hbk hN h4 hlen).mono fun e w' ⟨he, hw⟩ => ?_
        subst he
        exact fin _ rfl _ hw⟩
end Go.BM
/- The first functions: bounds, keys, refs; a search with a function value. -/
set_option linter.unusedVariables false
set_option linter.unusedSimpArgs false
set_option maxRecDepth 100000
set_option maxHeartbeats 4000000
namespace Go.BM
open Go.Proofs Go.RowKit
attribute [local irreducible] ACalls AWp aops qops optK optP cK gateA condK mops qcallK PCalls loadV fldV idxV lenV slV storeH binS
theorem impl_within (a b c : Int) : PCalls Tryz.prog 46 [.int .i64 a, .int .i64 b, .int .i64 c] (.bool (inB a b c)) := by
  unfold inB
  by_cases h1 : b ≤ a
  all_goals
    refine PCalls.flat rfl ?_; refine ACalls.enter (n := 15) (rs := [.tmp 6]) Tryz.func46 rfl rfl rfl (by kernel_rfl) (by kernel_rfl) (by kernel_rfl) (Nat.le_of_ble_eq_true rfl) ?_
    repeat' (first | (refine KT.run _ ?_) | (refine AWp.seqH fun KC => ?_) | (refine AWp.region ?_) | (refine AWp.ret ?_) | (simp only [bse, wk, tys, storeH_ptr, Nat.reduceEqDiff, ↓reduceIte, reduceCtorEq, Nat.reduceAdd, Nat.reduceLeDiff, Int.reduceBEq, Int.reduceLT, Int.reduceLE, Int.reduceEq, ne_eq, not_false_eq_true, Nat.reduceMul, *]))
    try simp
theorem impl_isKey (a : Int) : PCalls Tryz.prog 45 [.int .i64 a] (.bool (inB a 1 999)) := by
  refine PCalls.flat rfl ?_; refine ACalls.enter (n := 5) (rs := [.tmp 2]) Tryz.func45 rfl rfl rfl (by kernel_rfl) (by kernel_rfl) (by kernel_rfl) (Nat.le_of_ble_eq_true rfl) ?_
  repeat' (first | (refine ACalls.start ?_; first | (refine ACalls.ofJi (impl_within _ _ _) rfl ?_)) | (refine KV.run _ ?_) | (refine KT.run _ ?_) | (refine AWp.seqH fun KC => ?_) | (refine AWp.region ?_) | (refine AWp.ret ?_) | (refine aops_callH rfl fun kC => ?_) | (simp only [bse, wk, tys, storeH_ptr, Nat.reduceEqDiff, ↓reduceIte, reduceCtorEq, Nat.reduceAdd, Nat.reduceLeDiff, Int.reduceBEq, Int.reduceLT, Int.reduceLE, Int.reduceEq, ne_eq, not_false_eq_true, Nat.reduceMul, *]))
theorem impl_isId (a : Int) : PCalls Tryz.prog 94 [.int .i64 a] (.bool (inB a 1 60)) := by
  refine PCalls.flat rfl ?_; refine ACalls.enter (n := 5) (rs := [.tmp 2]) Tryz.func94 rfl rfl rfl (by kernel_rfl) (by kernel_rfl) (by kernel_rfl) (Nat.le_of_ble_eq_true rfl) ?_
  repeat' (first | (refine ACalls.start ?_; first | (refine ACalls.ofJi (impl_within _ _ _) rfl ?_)) | (refine KV.run _ ?_) | (refine KT.run _ ?_) | (refine AWp.seqH fun KC => ?_) | (refine AWp.region ?_) | (refine AWp.ret ?_) | (refine aops_callH rfl fun kC => ?_) | (simp only [bse, wk, tys, storeH_ptr, Nat.reduceEqDiff, ↓reduceIte, reduceCtorEq, Nat.reduceAdd, Nat.reduceLeDiff, Int.reduceBEq, Int.reduceLT, Int.reduceLE, Int.reduceEq, ne_eq, not_false_eq_true, Nat.reduceMul, *]))
theorem impl_areKeys1 (a : Int) : PCalls Tryz.prog 157 [.int .i64 a] (.bool (!inB a 1 999)) := by
  refine PCalls.flat rfl ?_; refine ACalls.enter (n := 6) (rs := [.tmp 2]) Tryz.func157 rfl rfl rfl (by kernel_rfl) (by kernel_rfl) (by kernel_rfl) (Nat.le_of_ble_eq_true rfl) ?_
  repeat' (first | (refine ACalls.start ?_; first | (refine ACalls.ofJi (impl_isKey _) rfl ?_)) | (refine KV.run _ ?_) | (refine KT.run _ ?_) | (refine AWp.seqH fun KC => ?_) | (refine AWp.region ?_) | (refine AWp.ret ?_) | (refine aops_callH rfl fun kC => ?_) | (simp only [bse, wk, tys, storeH_ptr, Nat.reduceEqDiff, ↓reduceIte, reduceCtorEq, Nat.reduceAdd, Nat.reduceLeDiff, Int.reduceBEq, Int.reduceLT, Int.reduceLE, Int.reduceEq, ne_eq, not_false_eq_true, Nat.reduceMul, *]))
theorem lib_IndexFunc_int (xs : List Int) (hn : xs.length < 4611686018427387904) (g : FuncId) (caps : Array Value) (hc : ∀ c ∈ caps.toList, Im c) (p : Int → Bool)
    (hp : ∀ x ∈ xs, PCalls Tryz.prog g ([.int .i64 x] ++ caps.toList) (.bool (p x))) :
    PCalls Tryz.prog 166 [islE intE xs, .func (.func g) #[] caps] (.int .i64 (findI p xs)) := by
  haveI : ImLs caps.toList := ⟨hc⟩
  refine PCalls.flat rfl ?_; refine ACalls.enter (n := 19) (rs := [.tmp 4]) Tryz.func166 rfl rfl rfl (by kernel_rfl) (by kernel_rfl) (by kernel_rfl) (Nat.le_of_ble_eq_true rfl) ?_
  repeat' (first | (refine KT.run _ ?_) | (refine AWp.seqH fun KC => ?_) | (refine AWp.block ?_) | (refine AWp.region ?_) | (simp only [bse, wk, tys, storeH_ptr, Nat.reduceEqDiff, ↓reduceIte, reduceCtorEq, Nat.reduceAdd, Nat.reduceLeDiff, Int.reduceBEq, Int.reduceLT, Int.reduceLE, Int.reduceEq, ne_eq, not_false_eq_true, Nat.reduceMul, *]))
  refine AWp.loopH [9, 10, 5, 11, 12, 13, 14, 15, 16, 17, 4, 18, 8] (fun m e' H' => ∃ k : Nat, k ≤ xs.length ∧ m = xs.length - k ∧ e' 8 = .int .i64 k ∧ H' = [] ∧ Hid (∀ j (hj : j < xs.length), j < k → p xs[j] = false)) xs.length ⟨0, by omega, by omega, rfl, rfl, fun j _ h => by omega⟩ ?_
  rintro m e' H' hA ⟨k, hk, rfl, h8, rfl, hno⟩ hJ
  have a0 := hA 0 rfl; have a1 := hA 1 rfl; have a7 := hA 7 rfl; try simp only [bse, wk, tys, storeH_ptr, Nat.reduceEqDiff, ↓reduceIte, reduceCtorEq, Nat.reduceAdd, Nat.reduceLeDiff, Int.reduceBEq, Int.reduceLT, Int.reduceLE, Int.reduceEq, ne_eq, not_false_eq_true, Nat.reduceMul] at a0 a1 a7; clear hA
  by_cases hlt : k < xs.length
  · have hlt' : (k : Int) < (xs.length : Int) := by omega
    have hw := wr_succ (k := k) (by omega)
    have hpk := hp _ (List.getElem_mem hlt)
    cases hc : p xs[k] with
    | true =>
      rw [hc] at hpk
      repeat' (first | (refine ACalls.start ?_; first | (refine ACalls.ofJi (hpk) rfl ?_)) | (refine KV.run _ ?_) | (refine KT.run _ ?_) | (refine AWp.seqH fun KC => ?_) | (refine AWp.block ?_) | (refine AWp.region ?_) | (refine AWp.ret ?_) | (refine AWp.skip ?_) | (refine aops_callH rfl fun kC => ?_) | (refine AWp.condB ?_) | (simp only [bse, wk, tys, storeH_ptr, Nat.reduceEqDiff, ↓reduceIte, reduceCtorEq, Nat.reduceAdd, Nat.reduceLeDiff, Int.reduceBEq, Int.reduceLT, Int.reduceLE, Int.reduceEq, ne_eq, not_false_eq_true, Nat.reduceMul, *]))
      rw [findI_hit p xs k hlt hno.out hc]
    | false =>
      rw [hc] at hpk
      repeat' (first | (refine ACalls.start ?_; first | (refine ACalls.ofJi (hpk) rfl ?_)) | (refine KV.run _ ?_) | (refine KT.run _ ?_) | (refine AWp.seqH fun KC => ?_) | (refine AWp.block ?_) | (refine AWp.region ?_) | (refine AWp.skip ?_) | (refine aops_callH rfl fun kC => ?_) | (refine AWp.condB ?_) | (simp only [bse, wk, tys, storeH_ptr, Nat.reduceEqDiff, ↓reduceIte, reduceCtorEq, Nat.reduceAdd, Nat.reduceLeDiff, Int.reduceBEq, Int.reduceLT, Int.reduceLE, Int.reduceEq, ne_eq, not_false_eq_true, Nat.reduceMul, *]))
      refine hJ.out _ _ ⟨xs.length - (k + 1), by omega, k + 1, by omega, rfl, rfl, rfl, fun j hj hjk => ?_⟩ (by repeat (first | exact Agree.refl _ _ | assumption | refine Agree.put ?_ rfl _))
      by_cases e : j = k
      · subst e; exact hc
      · exact hno.out j hj (by omega)
  · have hlt' : ¬ (k : Int) < (xs.length : Int) := by omega
    repeat' (first | (refine KT.run _ ?_) | (refine AWp.seqH fun KC => ?_) | (refine AWp.region ?_) | (refine AWp.ret ?_) | (refine AWp.exit ?_) | (refine AWp.condB ?_) | (simp only [bse, wk, tys, storeH_ptr, Nat.reduceEqDiff, ↓reduceIte, reduceCtorEq, Nat.reduceAdd, Nat.reduceLeDiff, Int.reduceBEq, Int.reduceLT, Int.reduceLE, Int.reduceEq, ne_eq, not_false_eq_true, Nat.reduceMul, *]))
    rw [findI_none p xs (fun j hj => hno.out j hj (by omega))]
end Go.BM
/- The reference's words: a text cut at a byte, a number of few digits. -/
set_option linter.unusedVariables false
set_option linter.unusedSimpArgs false
set_option maxRecDepth 100000
set_option maxHeartbeats 4000000
namespace Go.BM
open Go.Proofs Go.RowKit
attribute [local irreducible] ACalls AWp aops qops optK optP cK gateA condK mops qcallK PCalls loadV fldV idxV lenV slV storeH binS
/-- A text cut at a byte. -/
def cutL (c : UInt8) : List UInt8 → List (List UInt8)
  | [] => [[]]
  | x :: l => if x = c then [] :: cutL c l else match cutL c l with
    | [] => [[x]]
    | w :: ws => (x :: w) :: ws
theorem cutL_ne (c : UInt8) : ∀ l : List UInt8, cutL c l ≠ []
  | [] => by simp [cutL]
  | x :: l => by
    unfold cutL
    split
    · simp
    · split <;> simp
theorem cutL_app (c : UInt8) : ∀ (a l : List UInt8), (∀ x ∈ a, x ≠ c) → cutL c (a ++ c :: l) = a :: cutL c l
  | [], l, _ => by simp [cutL]
  | x :: a, l, h => by
    have hx := h x (by simp)
    rw [List.cons_append, cutL, if_neg hx, cutL_app c a l fun y hy => h y (by simp [hy])]
theorem cutL_one (c : UInt8) : ∀ (a : List UInt8), (∀ x ∈ a, x ≠ c) → cutL c a = [a]
  | [], _ => rfl
  | x :: a, h => by
    have hx := h x (by simp)
    rw [cutL, if_neg hx, cutL_one c a fun y hy => h y (by simp [hy])]
theorem cutL_mem (c : UInt8) : ∀ (l w : List UInt8), w ∈ cutL c l → w.length ≤ l.length
  | [], w, h => by simp [cutL] at h; simp [h]
  | x :: l, w, h => by
    have ih := cutL_mem c l
    unfold cutL at h
    split at h
    · rcases List.mem_cons.1 h with rfl | h
      · simp
      · have := ih w h; simp; omega
    · split at h
      · simp at h; subst h; simp
      · rename_i w0 ws he
        rcases List.mem_cons.1 h with rfl | h
        · have := ih w0 (by rw [he]; simp); simp; omega
        · have := ih w (by rw [he]; simp [h]); simp; omega
theorem cutL_len (c : UInt8) : ∀ l : List UInt8, (cutL c l).length ≤ l.length + 1
  | [] => by simp [cutL]
  | x :: l => by
    have ih := cutL_len c l
    unfold cutL
    split
    · simp; omega
    · split
      · simp
      · rename_i w0 ws he; rw [he] at ih; simp at ih ⊢; omega
def cutW (c : UInt8) (t : List UInt8) : List ByteArray := (cutL c t).map bs
def CutS (c : UInt8) (t : List UInt8) (i f : Nat) (ys : List ByteArray) : Prop :=
  (i ≤ t.length → (∀ x ∈ (t.drop f).take (i - f), x ≠ c) ∧ ys ++ (cutL c (t.drop f)).map bs = cutW c t) ∧ (t.length < i → ys = cutW c t)
theorem CutS.fin {c : UInt8} {t : List UInt8} {i f : Nat} {ys : List ByteArray} (h : CutS c t i f ys) (hf : f ≤ i) (hi : i = t.length) : CutS c t (i + 1) (i + 1) (ys ++ [bs ((t.drop f).take (i - f))]) := by
  subst hi
  obtain ⟨h1, h2⟩ := h.1 (Nat.le_refl _)
  have ht : (t.drop f).take (t.length - f) = t.drop f := List.take_of_length_le (by rw [List.length_drop]; exact Nat.le_refl _)
  rw [ht] at h1 ⊢
  refine ⟨fun h => by omega, fun _ => ?_⟩
  rw [cutL_one c _ h1] at h2
  exact h2
theorem CutS.hit {c : UInt8} {t : List UInt8} {i f : Nat} {ys : List ByteArray} (h : CutS c t i f ys) (hf : f ≤ i) (hi : i < t.length) (hc : t.getD i 0 = c) : CutS c t (i + 1) (i + 1) (ys ++ [bs ((t.drop f).take (i - f))]) := by
  obtain ⟨h1, h2⟩ := h.1 (by omega)
  refine ⟨fun _ => ⟨fun x hx => by simp at hx, ?_⟩, fun h => by omega⟩
  have hs : t.drop f = (t.drop f).take (i - f) ++ c :: t.drop (i + 1) := by
    conv => lhs; rw [← List.take_append_drop (i - f) (t.drop f)]
    congr 1
    rw [List.drop_drop, show f + (i - f) = i by omega, List.drop_eq_getElem_cons hi]
    rw [← hc]
    simp [List.getD, List.getElem?_eq_getElem hi]
  rw [hs, cutL_app c _ _ h1] at h2
  rw [← h2]
  simp
theorem CutS.miss {c : UInt8} {t : List UInt8} {i f : Nat} {ys : List ByteArray} (h : CutS c t i f ys) (hf : f ≤ i) (hi : i < t.length) (hc : t.getD i 0 ≠ c) : CutS c t (i + 1) f ys := by
  obtain ⟨h1, h2⟩ := h.1 (by omega)
  refine ⟨fun _ => ⟨fun x hx => ?_, h2⟩, fun h => by omega⟩
  rw [show i + 1 - f = (i - f) + 1 by omega] at hx
  have hlt : i - f < (t.drop f).length := by rw [List.length_drop]; omega
  rw [← take_next _ _ hlt] at hx
  rcases List.mem_append.1 hx with hx | hx
  · exact h1 x hx
  · rw [List.mem_singleton] at hx
    subst hx
    rw [List.getElem_drop]
    simp only [show f + (i - f) = i by omega]
    simpa [List.getD, List.getElem?_eq_getElem hi] using hc
theorem u8_eq (a b : UInt8) : (((a.toNat : Nat) : Int) == ((b.toNat : Nat) : Int)) = decide (a = b) := by
  by_cases h : a = b
  · subst h; simp
  · have : a.toNat ≠ b.toNat := fun e => h (UInt8.toNat_inj.1 e)
    simp [h]
    omega
theorem slV_bs2 {P : Program} {H : AH} {tt : TypeId} (h : P.underlying tt = some .string) (l : List UInt8) (i j : Nat) (hij : i ≤ j) (hj : j ≤ l.length) : slV P H tt (.string (bs l)) (some (.int .i64 (i : Int))) (some (.int .i64 (j : Int))) none = some (.string (bs ((l.drop i).take (j - i)))) := by
  unfold slV
  dsimp only
  rw [strSl2 _ l _ _ _ _ h, if_pos ⟨by omega, by omega, by omega⟩, Int.toNat_natCast, Int.toNat_natCast]
theorem spec_l2Cut (t : List UInt8) (c : UInt8) (cn : Int) (hcn : cn = ((c.toNat : Nat) : Int)) (hn : t.length ≤ 1048576) : PCalls Tryz.prog 67 [.string (bs t), .int .u8 cn] (islE strE (cutW c t)) := by
  subst hcn
  refine PCalls.of ?_; refine ACalls.enter (n := 36) (rs := [.tmp 4]) Tryz.func67 rfl rfl rfl (by kernel_rfl) (by kernel_rfl) (by kernel_rfl) (Nat.le_of_ble_eq_true rfl) ?_
  repeat' (first | (refine KT.run _ ?_) | (refine AWp.seqH fun KC => ?_) | (refine AWp.block ?_) | (refine AWp.region ?_) | (simp only [bse, wk, tys, storeH_ptr, Nat.reduceEqDiff, ↓reduceIte, reduceCtorEq, Nat.reduceAdd, Nat.reduceLeDiff, Int.reduceBEq, Int.reduceLT, Int.reduceLE, Int.reduceEq, ne_eq, not_false_eq_true, Nat.reduceMul, Int.reduceToNat, Int.toNat_zero, *]))
  refine AWp.loopH [9, 10, 11, 12, 15, 16, 17, 18, 19, 20, 21, 22, 23, 24, 25, 26, 27, 28, 29, 30, 31, 32, 5, 33, 34, 6, 13, 14, 7] (fun m e' H' => ∃ (i f ver : Nat) (ys : List ByteArray) (G : AH), i ≤ t.length + 1 ∧ m = t.length + 1 - i ∧ f ≤ i ∧ ys.length ≤ i ∧ e' 7 = .int .i64 i ∧ e' 6 = .int .i64 f ∧ e' 5 = .slice (some ⟨0, 0, none⟩) ys.length ver ∧ H' = ⟨9, 1, strE.flat ys, ver, true⟩ :: G ∧ Hid (CutS c t i f ys)) (t.length + 1) ⟨0, 0, 0, [], [], by omega, by omega, by omega, by simp, rfl, rfl, rfl, rfl, ⟨fun _ => ⟨fun x hx => by simp at hx, rfl⟩, fun h => by omega⟩⟩ ?_
  rintro m e' H' hA ⟨i, f, ver, ys, G, hi, rfl, hf, hy, e7, e6, e5, rfl, hF⟩ hJ
  have a0 := hA 0 rfl; have a1 := hA 1 rfl; have a4 := hA 4 rfl; try simp only [bse, wk, tys, storeH_ptr, Nat.reduceEqDiff, ↓reduceIte, reduceCtorEq, Nat.reduceAdd, Nat.reduceLeDiff, Int.reduceBEq, Int.reduceLT, Int.reduceLE, Int.reduceEq, ne_eq, not_false_eq_true, Nat.reduceMul] at a0 a1 a4; clear hA
  by_cases hle : i ≤ t.length
  · have hle' : (i : Int) ≤ (t.length : Int) := by omega
    have hw := wr_succ (k := i) (by omega)
    have hfi : (f : Int) ≤ (i : Int) := by omega
    have h0f : (0 : Int) ≤ (f : Int) := by omega
    have hap := fun y : ByteArray => appendH_one (P := Tryz.prog) (B := 0) (E := strE) (H0 := ⟨9, 1, strE.flat ys, ver, true⟩ :: G) (ys := ys) y elZ22 elZ22 zOk22 (r := 0) rfl (Nat.zero_le _) (by omega) (by omega)
    simp only [List.cons_append, List.length_cons, List.set_cons_succ, List.set_cons_zero, strE_sz, strE_val, cells_str] at hap
    have hsl := fun H : AH => slV_bs2 (P := Tryz.prog) (H := H) Tryz.underlying9 t f i hf hle
    by_cases hn : i = t.length
    · have hst : Hid _ := hF.out.fin hf hn
      clear hF
      have hn' : ((i : Int) == (t.length : Int)) = true := by simp [hn]
      have hil : (i : Int) = (t.length : Int) := by omega
      clear hn hil
      repeat' (first | (refine KT.run _ ?_) | (refine AWp.seqH fun KC => ?_) | (refine AWp.block ?_) | (refine AWp.region ?_) | (refine AWp.skip ?_) | (refine AWp.condB ?_) | (simp only [bse, wk, tys, storeH_ptr, Nat.reduceEqDiff, ↓reduceIte, reduceCtorEq, Nat.reduceAdd, Nat.reduceLeDiff, Int.reduceBEq, Int.reduceLT, Int.reduceLE, Int.reduceEq, ne_eq, not_false_eq_true, Nat.reduceMul, Int.reduceToNat, Int.toNat_zero, *]))
      exact hJ.out _ _ ⟨t.length + 1 - (i + 1), by omega, i + 1, i + 1, ver + 1, ys ++ [_], _, by omega, rfl, by omega, by simp; omega, rfl, rfl, by simp [put], rfl, hst⟩ (by repeat (first | exact Agree.refl _ _ | assumption | refine Agree.put ?_ rfl _))
    · have hlt : (i : Int) < (t.length : Int) := by omega
      have h0i : (0 : Int) ≤ (i : Int) := by omega
      have hn' : ((i : Int) == (t.length : Int)) = false := by simp; omega
      have hu := u8_eq (t.getD i 0) c
      by_cases hc : t.getD i 0 = c
      · have hst : Hid _ := hF.out.hit hf (by omega) hc
        have hu' : (((t.getD i 0).toNat : Int) == (c.toNat : Int)) = true := by rw [hu]; exact decide_eq_true hc
        clear hF hu hc hn
        repeat' (first | (refine KT.run _ ?_) | (refine AWp.seqH fun KC => ?_) | (refine AWp.block ?_) | (refine AWp.region ?_) | (refine AWp.skip ?_) | (refine AWp.condB ?_) | (simp only [bse, wk, tys, storeH_ptr, Nat.reduceEqDiff, ↓reduceIte, reduceCtorEq, Nat.reduceAdd, Nat.reduceLeDiff, Int.reduceBEq, Int.reduceLT, Int.reduceLE, Int.reduceEq, ne_eq, not_false_eq_true, Nat.reduceMul, Int.reduceToNat, Int.toNat_zero, *]))
        exact hJ.out _ _ ⟨t.length + 1 - (i + 1), by omega, i + 1, i + 1, ver + 1, ys ++ [_], _, by omega, rfl, by omega, by simp; omega, rfl, rfl, by simp [put], rfl, hst⟩ (by repeat (first | exact Agree.refl _ _ | assumption | refine Agree.put ?_ rfl _))
      · have hst : Hid _ := hF.out.miss hf (by omega) hc
        have hu' : (((t.getD i 0).toNat : Int) == (c.toNat : Int)) = false := by rw [hu]; exact decide_eq_false hc
        clear hF hu hc hn
        repeat' (first | (refine KT.run _ ?_) | (refine AWp.seqH fun KC => ?_) | (refine AWp.block ?_) | (refine AWp.region ?_) | (refine AWp.skip ?_) | (refine AWp.condB ?_) | (simp only [bse, wk, tys, storeH_ptr, Nat.reduceEqDiff, ↓reduceIte, reduceCtorEq, Nat.reduceAdd, Nat.reduceLeDiff, Int.reduceBEq, Int.reduceLT, Int.reduceLE, Int.reduceEq, ne_eq, not_false_eq_true, Nat.reduceMul, Int.reduceToNat, Int.toNat_zero, *]))
        exact hJ.out _ _ ⟨t.length + 1 - (i + 1), by omega, i + 1, f, ver, ys, _, by omega, rfl, by omega, by omega, rfl, e6, e5, rfl, hst⟩ (by repeat (first | exact Agree.refl _ _ | assumption | refine Agree.put ?_ rfl _))
  · have hle' : ¬ (i : Int) ≤ (t.length : Int) := by omega
    have hs : Hid (ys = cutW c t) := hF.out.2 (by omega)
    clear hF
    have hs2 := hs.out
    clear hs
    subst hs2
    repeat' (first | (refine KT.run _ ?_) | (refine AWp.seqH fun KC => ?_) | (refine AWp.region ?_) | (refine AWp.ret ?_) | (refine AWp.exit ?_) | (refine AWp.condB ?_) | (simp only [bse, wk, tys, storeH_ptr, Nat.reduceEqDiff, ↓reduceIte, reduceCtorEq, Nat.reduceAdd, Nat.reduceLeDiff, Int.reduceBEq, Int.reduceLT, Int.reduceLE, Int.reduceEq, ne_eq, not_false_eq_true, Nat.reduceMul, Int.reduceToNat, Int.toNat_zero, *]))
    exact Bor.sb (E := strE) rfl (fun _ => rfl) rfl
/-- The value of digits. -/
def valD (l : List UInt8) : Nat := l.foldl (fun v x => v * 10 + (x.toNat - 48)) 0
def digB (x : UInt8) : Bool := !(decide (((x.toNat : Nat) : Int) < 48)) && !(decide ((57 : Int) < ((x.toNat : Nat) : Int)))
theorem valD_step (l : List UInt8) (i : Nat) (hi : i < l.length) : valD (l.take (i + 1)) = valD (l.take i) * 10 + ((l.getD i 0).toNat - 48) := by
  unfold valD
  rw [← take_next l i hi, List.foldl_append]
  simp [List.getD, List.getElem?_eq_getElem hi]
theorem valD_lt : ∀ (l : List UInt8), (∀ x ∈ l, digB x = true) → ∀ i, i ≤ l.length → valD (l.take i) < 10 ^ i
  | l, h, 0, _ => by simp [valD]
  | l, h, i + 1, hi => by
    have ih := valD_lt l h i (by omega)
    rw [valD_step l i (by omega), Nat.pow_succ]
    have hd := h _ (List.getElem_mem (show i < l.length by omega))
    have : (l.getD i 0).toNat - 48 ≤ 9 := by
      unfold digB at hd
      simp at hd
      simp [List.getD, List.getElem?_eq_getElem (show i < l.length by omega)]
      omega
    omega
def numD (n : Nat) (l : List UInt8) : Int × Bool :=
  if decide ((l.length : Int) < 1) || decide ((n : Int) < (l.length : Int)) || (decide ((1 : Int) < (l.length : Int)) && decide (l.getD 0 0 = 48)) then (0, false)
  else if l.all digB then ((valD l : Nat), true) else (0, false)
theorem dig_wrap {x : UInt8} (h : digB x = true) : IntKind.u8.wrap (((x.toNat : Nat) : Int) - 48) = ((x.toNat - 48 : Nat) : Int) ∧ x.toNat - 48 ≤ 9 ∧ 48 ≤ x.toNat := by
  unfold digB at h
  simp at h
  refine ⟨?_, by omega, by omega⟩
  rw [show ((x.toNat : Nat) : Int) - 48 = ((x.toNat - 48 : Nat) : Int) by omega]
  unfold IntKind.wrap
  simp [IntKind.bits, IntKind.signed]
  omega
theorem dig_no {l : List UInt8} {i : Nat} (hi : i < l.length) (h : digB (l.getD i 0) = false) : l.all digB = false := by
  rw [List.all_eq_false]
  refine ⟨l[i], List.getElem_mem hi, ?_⟩
  rw [show l.getD i 0 = l[i] by simp [List.getD, List.getElem?_eq_getElem hi]] at h
  simp [h]
theorem dig_all {l : List UInt8} (h : ∀ j, j < l.length → digB (l.getD j 0) = true) : l.all digB = true := by
  rw [List.all_eq_true]
  intro x hx
  obtain ⟨j, hj, rfl⟩ := List.getElem_of_mem hx
  have := h j hj
  rwa [show l.getD j 0 = l[j] by simp [List.getD, List.getElem?_eq_getElem hj]] at this
theorem valD_lt' (l : List UInt8) (i : Nat) (hi : i ≤ l.length) (h : ∀ j, j < i → digB (l.getD j 0) = true) : valD (l.take i) < 10 ^ i := by
  have := valD_lt (l.take i) (fun x hx => by
    obtain ⟨j, hj, rfl⟩ := List.getElem_of_mem hx
    have hj' : j < i := by simp at hj; omega
    have := h j hj'
    rw [List.getElem_take]
    rwa [show l.getD j 0 = l[j]'(by omega) by simp [List.getD, List.getElem?_eq_getElem (show j < l.length by omega)]] at this) i (by simp; omega)
  rwa [List.take_take, Nat.min_self] at this
theorem spec_l2Number (l : List UInt8) (n : Nat) (hn : n ≤ 9) (hl : l.length ≤ 1048576) : PCalls Tryz.prog 68 [.string (bs l), .int .i64 n] (.tuple #[.int .i64 (numD n l).1, .bool (numD n l).2]) := by
  obtain ⟨R, hR⟩ : ∃ R : Int × Bool, R = numD n l := ⟨_, rfl⟩
  rw [← hR]
  have hRH : Hid (R = numD n l) := hR
  clear hR
  by_cases h1 : (l.length : Int) < 1
  · have : R = (0, false) := by rw [hRH.out]; unfold numD; simp only [h1, decide_true, Bool.true_or, if_true]
    subst this
    refine PCalls.val (by first | exact islE_im _ _ | exact Enc.val_im _ _ | exact Im.flat _ rfl | (repeat' (first | exact Im.nilL | refine Im.consL ?_ ?_ | exact Im.flat _ rfl | exact islE_im _ _ | exact Enc.val_im _ _ | refine Im.aggL ?_ | refine Im.tupleL ?_ | refine Im.isl ?_))) ?_; refine ACalls.enter (n := 52) (rs := [.tmp 4, .tmp 5]) Tryz.func68 rfl rfl rfl (by kernel_rfl) (by kernel_rfl) (by kernel_rfl) (Nat.le_of_ble_eq_true rfl) ?_
    repeat' (first | (refine KT.run _ ?_) | (refine AWp.seqH fun KC => ?_) | (refine AWp.region ?_) | (refine AWp.ret ?_) | (refine AWp.condB ?_) | (simp only [bse, wk, tys, storeH_ptr, Nat.reduceEqDiff, ↓reduceIte, reduceCtorEq, Nat.reduceAdd, Nat.reduceLeDiff, Int.reduceBEq, Int.reduceLT, Int.reduceLE, Int.reduceEq, ne_eq, not_false_eq_true, Nat.reduceMul, Int.reduceToNat, Int.toNat_zero, *]))
  by_cases h2 : (n : Int) < (l.length : Int)
  · have : R = (0, false) := by rw [hRH.out]; unfold numD; simp only [h2, decide_true, Bool.true_or, Bool.or_true, if_true]
    subst this
    refine PCalls.val (by first | exact islE_im _ _ | exact Enc.val_im _ _ | exact Im.flat _ rfl | (repeat' (first | exact Im.nilL | refine Im.consL ?_ ?_ | exact Im.flat _ rfl | exact islE_im _ _ | exact Enc.val_im _ _ | refine Im.aggL ?_ | refine Im.tupleL ?_ | refine Im.isl ?_))) ?_; refine ACalls.enter (n := 52) (rs := [.tmp 4, .tmp 5]) Tryz.func68 rfl rfl rfl (by kernel_rfl) (by kernel_rfl) (by kernel_rfl) (Nat.le_of_ble_eq_true rfl) ?_
    repeat' (first | (refine KT.run _ ?_) | (refine AWp.seqH fun KC => ?_) | (refine AWp.region ?_) | (refine AWp.ret ?_) | (refine AWp.condB ?_) | (simp only [bse, wk, tys, storeH_ptr, Nat.reduceEqDiff, ↓reduceIte, reduceCtorEq, Nat.reduceAdd, Nat.reduceLeDiff, Int.reduceBEq, Int.reduceLT, Int.reduceLE, Int.reduceEq, ne_eq, not_false_eq_true, Nat.reduceMul, Int.reduceToNat, Int.toNat_zero, *]))
  have hu := u8_eq (l.getD 0 0) 48
  by_cases h3 : (1 : Int) < (l.length : Int) ∧ l.getD 0 0 = 48
  · have : R = (0, false) := by rw [hRH.out]; unfold numD; simp only [h3.1, h3.2, decide_true, Bool.true_and, Bool.or_true, if_true]
    subst this
    obtain ⟨h4, h5⟩ := h3
    have hu' : (((l.getD 0 0).toNat : Int) == 48) = true := by rw [show ((48 : Int)) = (((48 : UInt8).toNat : Nat) : Int) from rfl, hu]; exact decide_eq_true h5
    have h0l : (0 : Int) < (l.length : Int) := by omega
    clear hu h5
    refine PCalls.val (by first | exact islE_im _ _ | exact Enc.val_im _ _ | exact Im.flat _ rfl | (repeat' (first | exact Im.nilL | refine Im.consL ?_ ?_ | exact Im.flat _ rfl | exact islE_im _ _ | exact Enc.val_im _ _ | refine Im.aggL ?_ | refine Im.tupleL ?_ | refine Im.isl ?_))) ?_; refine ACalls.enter (n := 52) (rs := [.tmp 4, .tmp 5]) Tryz.func68 rfl rfl rfl (by kernel_rfl) (by kernel_rfl) (by kernel_rfl) (Nat.le_of_ble_eq_true rfl) ?_
    repeat' (first | (refine KT.run _ ?_) | (refine AWp.seqH fun KC => ?_) | (refine AWp.region ?_) | (refine AWp.ret ?_) | (refine AWp.condB ?_) | (simp only [bse, wk, tys, storeH_ptr, Nat.reduceEqDiff, ↓reduceIte, reduceCtorEq, Nat.reduceAdd, Nat.reduceLeDiff, Int.reduceBEq, Int.reduceLT, Int.reduceLE, Int.reduceEq, ne_eq, not_false_eq_true, Nat.reduceMul, Int.reduceToNat, Int.toNat_zero, *]))
  have hRall : Hid (R = if l.all digB then (((valD l : Nat) : Int), true) else (0, false)) := by
    unfold Hid
    rw [hRH.out]
    unfold numD
    rw [if_neg]
    simp only [Bool.or_eq_true, Bool.and_eq_true, decide_eq_true_eq, not_or]
    exact ⟨⟨h1, h2⟩, h3⟩
  clear hRH
  have h0l : (0 : Int) < (l.length : Int) := by omega
  have hln : l.length ≤ 9 := by omega
  by_cases h4 : (1 : Int) < (l.length : Int)
  · have hz : (((l.getD 0 0).toNat : Int) == 48) = false := by
      rw [show ((48 : Int)) = (((48 : UInt8).toNat : Nat) : Int) from rfl, hu]
      exact decide_eq_false fun e => h3 ⟨h4, e⟩
    clear hu h3
    refine PCalls.val (by first | exact islE_im _ _ | exact Enc.val_im _ _ | exact Im.flat _ rfl | (repeat' (first | exact Im.nilL | refine Im.consL ?_ ?_ | exact Im.flat _ rfl | exact islE_im _ _ | exact Enc.val_im _ _ | refine Im.aggL ?_ | refine Im.tupleL ?_ | refine Im.isl ?_))) ?_; refine ACalls.enter (n := 52) (rs := [.tmp 4, .tmp 5]) Tryz.func68 rfl rfl rfl (by kernel_rfl) (by kernel_rfl) (by kernel_rfl) (Nat.le_of_ble_eq_true rfl) ?_
    repeat' (first | (refine KT.run _ ?_) | (refine AWp.seqH fun KC => ?_) | (refine AWp.block ?_) | (refine AWp.region ?_) | (refine AWp.skip ?_) | (refine AWp.condB ?_) | (simp only [bse, wk, tys, storeH_ptr, Nat.reduceEqDiff, ↓reduceIte, reduceCtorEq, Nat.reduceAdd, Nat.reduceLeDiff, Int.reduceBEq, Int.reduceLT, Int.reduceLE, Int.reduceEq, ne_eq, not_false_eq_true, Nat.reduceMul, Int.reduceToNat, Int.toNat_zero, *]))
    refine AWp.loopH [27, 28, 29, 30, 33, 34, 35, 36, 37, 38, 39, 40, 41, 42, 4, 5, 43, 44, 45, 46, 47, 48, 49, 50, 6, 31, 32, 7] (fun m e' H' => ∃ i : Nat, i ≤ l.length ∧ m = l.length - i ∧ e' 7 = .int .i64 i ∧ e' 6 = .int .i64 ((valD (l.take i) : Nat) : Int) ∧ H' = [] ∧ Hid (∀ j, j < i → digB (l.getD j 0) = true)) l.length ⟨0, by omega, by omega, rfl, rfl, rfl, fun j hj => by omega⟩ ?_
    rintro m e' H' hA ⟨i, hi, rfl, e7, e6, rfl, hF⟩ hJ
    have a0 := hA 0 rfl; try simp only [bse, wk, tys, storeH_ptr, Nat.reduceEqDiff, ↓reduceIte, reduceCtorEq, Nat.reduceAdd, Nat.reduceLeDiff, Int.reduceBEq, Int.reduceLT, Int.reduceLE, Int.reduceEq, ne_eq, not_false_eq_true, Nat.reduceMul] at a0; clear hA
    by_cases hlt : i < l.length
    · have hlt' : (i : Int) < (l.length : Int) := by omega
      have h0i : (0 : Int) ≤ (i : Int) := by omega
      have hw := wr_succ (k := i) (by omega)
      cases hd : digB (l.getD i 0) with
      | false =>
        have hRR : R = (0, false) := by rw [hRall.out, dig_no hlt hd]; rfl
        subst hRR
        by_cases hx : (((l.getD i 0).toNat : Nat) : Int) < 48
        · clear hd hRall hF
          repeat' (first | (refine KT.run _ ?_) | (refine AWp.seqH fun KC => ?_) | (refine AWp.block ?_) | (refine AWp.region ?_) | (refine AWp.ret ?_) | (refine AWp.skip ?_) | (refine AWp.condB ?_) | (simp only [bse, wk, tys, storeH_ptr, Nat.reduceEqDiff, ↓reduceIte, reduceCtorEq, Nat.reduceAdd, Nat.reduceLeDiff, Int.reduceBEq, Int.reduceLT, Int.reduceLE, Int.reduceEq, ne_eq, not_false_eq_true, Nat.reduceMul, Int.reduceToNat, Int.toNat_zero, *]))
        · have hx2 : (57 : Int) < (((l.getD i 0).toNat : Nat) : Int) := by
            unfold digB at hd
            rw [decide_eq_false hx] at hd
            simpa using hd
          clear hd hRall hF
          repeat' (first | (refine KT.run _ ?_) | (refine AWp.seqH fun KC => ?_) | (refine AWp.block ?_) | (refine AWp.region ?_) | (refine AWp.ret ?_) | (refine AWp.skip ?_) | (refine AWp.condB ?_) | (simp only [bse, wk, tys, storeH_ptr, Nat.reduceEqDiff, ↓reduceIte, reduceCtorEq, Nat.reduceAdd, Nat.reduceLeDiff, Int.reduceBEq, Int.reduceLT, Int.reduceLE, Int.reduceEq, ne_eq, not_false_eq_true, Nat.reduceMul, Int.reduceToNat, Int.toNat_zero, *]))
      | true =>
        obtain ⟨hs1, hs2, hs3⟩ := dig_wrap hd
        have hx1 : ¬ (((l.getD i 0).toNat : Nat) : Int) < 48 := by omega
        have hx2 : ¬ (57 : Int) < (((l.getD i 0).toNat : Nat) : Int) := by unfold digB at hd; simp at hd; simp; omega
        have hv := valD_lt' l i hi hF.out
        have hp : 10 ^ i ≤ 10 ^ 9 := Nat.pow_le_pow_right (by omega) (by omega)
        have hst : Hid (∀ j, j < i + 1 → digB (l.getD j 0) = true) := fun j hj => by
          by_cases e : j = i
          · rw [e]; exact hd
          · exact hF.out j (by omega)
        have hvs := valD_step l i hlt
        obtain ⟨v, hV⟩ : ∃ v, v = valD (l.take i) := ⟨_, rfl⟩
        rw [← hV] at hv hvs e6
        clear hV
        have hm : IntKind.i64.wrap ((v : Int) * 10) = ((v * 10 : Nat) : Int) := by rw [wr] <;> omega
        have hcv : IntKind.i64.wrap (((l.getD i 0).toNat - 48 : Nat) : Int) = (((l.getD i 0).toNat - 48 : Nat) : Int) := by rw [wr] <;> omega
        have ha : IntKind.i64.wrap (((v * 10 : Nat) : Int) + (((l.getD i 0).toNat - 48 : Nat) : Int)) = ((valD (l.take (i + 1)) : Nat) : Int) := by rw [hvs, wr] <;> omega
        clear hd hF hv hp hvs hs2 hs3
        repeat' (first | (refine KT.run _ ?_) | (refine AWp.seqH fun KC => ?_) | (refine AWp.block ?_) | (refine AWp.region ?_) | (refine AWp.skip ?_) | (refine AWp.condB ?_) | (simp only [bse, wk, tys, storeH_ptr, Nat.reduceEqDiff, ↓reduceIte, reduceCtorEq, Nat.reduceAdd, Nat.reduceLeDiff, Int.reduceBEq, Int.reduceLT, Int.reduceLE, Int.reduceEq, ne_eq, not_false_eq_true, Nat.reduceMul, Int.reduceToNat, Int.toNat_zero, *]))
        exact hJ.out _ _ ⟨l.length - (i + 1), by omega, i + 1, by omega, rfl, rfl, rfl, rfl, hst⟩ (by repeat (first | exact Agree.refl _ _ | assumption | refine Agree.put ?_ rfl _))
    · have hlt' : ¬ (i : Int) < (l.length : Int) := by omega
      have hRR : R = (((valD (l.take i) : Nat) : Int), true) := by
        have hil : i = l.length := by omega
        subst hil
        rw [hRall.out, dig_all hF.out, List.take_length]
        rfl
      subst hRR
      clear hRall hF
      repeat' (first | (refine KT.run _ ?_) | (refine AWp.seqH fun KC => ?_) | (refine AWp.region ?_) | (refine AWp.ret ?_) | (refine AWp.exit ?_) | (refine AWp.condB ?_) | (simp only [bse, wk, tys, storeH_ptr, Nat.reduceEqDiff, ↓reduceIte, reduceCtorEq, Nat.reduceAdd, Nat.reduceLeDiff, Int.reduceBEq, Int.reduceLT, Int.reduceLE, Int.reduceEq, ne_eq, not_false_eq_true, Nat.reduceMul, Int.reduceToNat, Int.toNat_zero, *]))
  · clear hu h3
    refine PCalls.val (by first | exact islE_im _ _ | exact Enc.val_im _ _ | exact Im.flat _ rfl | (repeat' (first | exact Im.nilL | refine Im.consL ?_ ?_ | exact Im.flat _ rfl | exact islE_im _ _ | exact Enc.val_im _ _ | refine Im.aggL ?_ | refine Im.tupleL ?_ | refine Im.isl ?_))) ?_; refine ACalls.enter (n := 52) (rs := [.tmp 4, .tmp 5]) Tryz.func68 rfl rfl rfl (by kernel_rfl) (by kernel_rfl) (by kernel_rfl) (Nat.le_of_ble_eq_true rfl) ?_
    repeat' (first | (refine KT.run _ ?_) | (refine AWp.seqH fun KC => ?_) | (refine AWp.block ?_) | (refine AWp.region ?_) | (refine AWp.skip ?_) | (refine AWp.condB ?_) | (simp only [bse, wk, tys, storeH_ptr, Nat.reduceEqDiff, ↓reduceIte, reduceCtorEq, Nat.reduceAdd, Nat.reduceLeDiff, Int.reduceBEq, Int.reduceLT, Int.reduceLE, Int.reduceEq, ne_eq, not_false_eq_true, Nat.reduceMul, Int.reduceToNat, Int.toNat_zero, *]))
    refine AWp.loopH [27, 28, 29, 30, 33, 34, 35, 36, 37, 38, 39, 40, 41, 42, 4, 5, 43, 44, 45, 46, 47, 48, 49, 50, 6, 31, 32, 7] (fun m e' H' => ∃ i : Nat, i ≤ l.length ∧ m = l.length - i ∧ e' 7 = .int .i64 i ∧ e' 6 = .int .i64 ((valD (l.take i) : Nat) : Int) ∧ H' = [] ∧ Hid (∀ j, j < i → digB (l.getD j 0) = true)) l.length ⟨0, by omega, by omega, rfl, rfl, rfl, fun j hj => by omega⟩ ?_
    rintro m e' H' hA ⟨i, hi, rfl, e7, e6, rfl, hF⟩ hJ
    have a0 := hA 0 rfl; try simp only [bse, wk, tys, storeH_ptr, Nat.reduceEqDiff, ↓reduceIte, reduceCtorEq, Nat.reduceAdd, Nat.reduceLeDiff, Int.reduceBEq, Int.reduceLT, Int.reduceLE, Int.reduceEq, ne_eq, not_false_eq_true, Nat.reduceMul] at a0; clear hA
    by_cases hlt : i < l.length
    · have hlt' : (i : Int) < (l.length : Int) := by omega
      have h0i : (0 : Int) ≤ (i : Int) := by omega
      have hw := wr_succ (k := i) (by omega)
      cases hd : digB (l.getD i 0) with
      | false =>
        have hRR : R = (0, false) := by rw [hRall.out, dig_no hlt hd]; rfl
        subst hRR
        by_cases hx : (((l.getD i 0).toNat : Nat) : Int) < 48
        · clear hd hRall hF
          repeat' (first | (refine KT.run _ ?_) | (refine AWp.seqH fun KC => ?_) | (refine AWp.block ?_) | (refine AWp.region ?_) | (refine AWp.ret ?_) | (refine AWp.skip ?_) | (refine AWp.condB ?_) | (simp only [bse, wk, tys, storeH_ptr, Nat.reduceEqDiff, ↓reduceIte, reduceCtorEq, Nat.reduceAdd, Nat.reduceLeDiff, Int.reduceBEq, Int.reduceLT, Int.reduceLE, Int.reduceEq, ne_eq, not_false_eq_true, Nat.reduceMul, Int.reduceToNat, Int.toNat_zero, *]))
        · have hx2 : (57 : Int) < (((l.getD i 0).toNat : Nat) : Int) := by
            unfold digB at hd
            rw [decide_eq_false hx] at hd
            simpa using hd
          clear hd hRall hF
          repeat' (first | (refine KT.run _ ?_) | (refine AWp.seqH fun KC => ?_) | (refine AWp.block ?_) | (refine AWp.region ?_) | (refine AWp.ret ?_) | (refine AWp.skip ?_) | (refine AWp.condB ?_) | (simp only [bse, wk, tys, storeH_ptr, Nat.reduceEqDiff, ↓reduceIte, reduceCtorEq, Nat.reduceAdd, Nat.reduceLeDiff, Int.reduceBEq, Int.reduceLT, Int.reduceLE, Int.reduceEq, ne_eq, not_false_eq_true, Nat.reduceMul, Int.reduceToNat, Int.toNat_zero, *]))
      | true =>
        obtain ⟨hs1, hs2, hs3⟩ := dig_wrap hd
        have hx1 : ¬ (((l.getD i 0).toNat : Nat) : Int) < 48 := by omega
        have hx2 : ¬ (57 : Int) < (((l.getD i 0).toNat : Nat) : Int) := by unfold digB at hd; simp at hd; simp; omega
        have hv := valD_lt' l i hi hF.out
        have hp : 10 ^ i ≤ 10 ^ 9 := Nat.pow_le_pow_right (by omega) (by omega)
        have hst : Hid (∀ j, j < i + 1 → digB (l.getD j 0) = true) := fun j hj => by
          by_cases e : j = i
          · rw [e]; exact hd
          · exact hF.out j (by omega)
        have hvs := valD_step l i hlt
        obtain ⟨v, hV⟩ : ∃ v, v = valD (l.take i) := ⟨_, rfl⟩
        rw [← hV] at hv hvs e6
        clear hV
        have hm : IntKind.i64.wrap ((v : Int) * 10) = ((v * 10 : Nat) : Int) := by rw [wr] <;> omega
        have hcv : IntKind.i64.wrap (((l.getD i 0).toNat - 48 : Nat) : Int) = (((l.getD i 0).toNat - 48 : Nat) : Int) := by rw [wr] <;> omega
        have ha : IntKind.i64.wrap (((v * 10 : Nat) : Int) + (((l.getD i 0).toNat - 48 : Nat) : Int)) = ((valD (l.take (i + 1)) : Nat) : Int) := by rw [hvs, wr] <;> omega
        clear hd hF hv hp hvs hs2 hs3
        repeat' (first | (refine KT.run _ ?_) | (refine AWp.seqH fun KC => ?_) | (refine AWp.block ?_) | (refine AWp.region ?_) | (refine AWp.skip ?_) | (refine AWp.condB ?_) | (simp only [bse, wk, tys, storeH_ptr, Nat.reduceEqDiff, ↓reduceIte, reduceCtorEq, Nat.reduceAdd, Nat.reduceLeDiff, Int.reduceBEq, Int.reduceLT, Int.reduceLE, Int.reduceEq, ne_eq, not_false_eq_true, Nat.reduceMul, Int.reduceToNat, Int.toNat_zero, *]))
        exact hJ.out _ _ ⟨l.length - (i + 1), by omega, i + 1, by omega, rfl, rfl, rfl, rfl, hst⟩ (by repeat (first | exact Agree.refl _ _ | assumption | refine Agree.put ?_ rfl _))
    · have hlt' : ¬ (i : Int) < (l.length : Int) := by omega
      have hRR : R = (((valD (l.take i) : Nat) : Int), true) := by
        have hil : i = l.length := by omega
        subst hil
        rw [hRall.out, dig_all hF.out, List.take_length]
        rfl
      subst hRR
      clear hRall hF
      repeat' (first | (refine KT.run _ ?_) | (refine AWp.seqH fun KC => ?_) | (refine AWp.region ?_) | (refine AWp.ret ?_) | (refine AWp.exit ?_) | (refine AWp.condB ?_) | (simp only [bse, wk, tys, storeH_ptr, Nat.reduceEqDiff, ↓reduceIte, reduceCtorEq, Nat.reduceAdd, Nat.reduceLeDiff, Int.reduceBEq, Int.reduceLT, Int.reduceLE, Int.reduceEq, ne_eq, not_false_eq_true, Nat.reduceMul, Int.reduceToNat, Int.toNat_zero, *]))
end Go.BM
/- Data: flat structs, their slices. -/
set_option linter.unusedVariables false
set_option linter.unusedSimpArgs false
set_option maxRecDepth 100000
set_option maxHeartbeats 4000000
namespace Go.BM
open Go.Proofs Go.RowKit
attribute [local irreducible] ACalls AWp aops qops optK optP cK gateA condK mops qcallK PCalls loadV fldV idxV lenV slV storeH binS

theorem laws_eqInt64S (xs : List Int) (hn : xs.length ≤ 1000000000000) : PCalls Tryz.prog 50 [islE intE xs, islE intE xs] (.bool true) := by
  refine PCalls.flat rfl ?_; refine ACalls.enter (n := 26) (rs := [.tmp 4]) Tryz.func50 rfl rfl rfl (by kernel_rfl) (by kernel_rfl) (by kernel_rfl) (Nat.le_of_ble_eq_true rfl) ?_
  repeat' (first | (refine KT.run _ ?_) | (refine AWp.seqH fun KC => ?_) | (refine AWp.block ?_) | (refine AWp.region ?_) | (refine AWp.skip ?_) | (refine AWp.condB ?_) | (simp only [bse, wk, tys, storeH_ptr, Nat.reduceEqDiff, ↓reduceIte, reduceCtorEq, Nat.reduceAdd, Nat.reduceLeDiff, Int.reduceBEq, Int.reduceLT, Int.reduceLE, Int.reduceEq, ne_eq, not_false_eq_true, Nat.reduceMul, *]))
  refine AWp.loopH [11, 12, 13, 14, 17, 18, 19, 20, 21, 22, 23, 24, 25, 4, 15, 16, 5] (fun m e' H' => ∃ k : Nat, k ≤ xs.length ∧ m = xs.length - k ∧ e' 5 = .int .i64 k ∧ H' = []) xs.length ⟨0, by omega, by omega, rfl, rfl⟩ ?_
  rintro m e' H' hA ⟨k, hk, rfl, h5, rfl⟩ hJ
  have a0 := hA 0 rfl; have a1 := hA 1 rfl; try simp only [bse, wk, tys, storeH_ptr, Nat.reduceEqDiff, ↓reduceIte, reduceCtorEq, Nat.reduceAdd, Nat.reduceLeDiff, Int.reduceBEq, Int.reduceLT, Int.reduceLE, Int.reduceEq, ne_eq, not_false_eq_true, Nat.reduceMul] at a0 a1; clear hA
  by_cases hlt : k < xs.length
  · have hlt' : (k : Int) < (xs.length : Int) := by omega
    have hw := wr_succ (k := k) (by omega)
    repeat' (first | (refine AWp.quiet (id := 6) (by kernel_rfl) (by kernel_rfl) ?_) | (refine KT.run _ ?_) | (refine AWp.seqH fun KC => ?_) | (refine AWp.block ?_) | (refine AWp.region ?_) | (refine AWp.skip ?_) | (refine AWp.condB ?_) | (simp only [bse, wk, tys, storeH_ptr, Nat.reduceEqDiff, ↓reduceIte, reduceCtorEq, Nat.reduceAdd, Nat.reduceLeDiff, Int.reduceBEq, Int.reduceLT, Int.reduceLE, Int.reduceEq, ne_eq, not_false_eq_true, Nat.reduceMul, *]))
    exact hJ.out _ _ ⟨xs.length - (k + 1), by omega, k + 1, by omega, rfl, rfl, rfl⟩ (by repeat (first | exact Agree.refl _ _ | assumption | refine Agree.put ?_ rfl _))
  · have hlt' : ¬ (k : Int) < (xs.length : Int) := by omega
    repeat' (first | (refine KT.run _ ?_) | (refine AWp.seqH fun KC => ?_) | (refine AWp.region ?_) | (refine AWp.ret ?_) | (refine AWp.exit ?_) | (refine AWp.condB ?_) | (simp only [bse, wk, tys, storeH_ptr, Nat.reduceEqDiff, ↓reduceIte, reduceCtorEq, Nat.reduceAdd, Nat.reduceLeDiff, Int.reduceBEq, Int.reduceLT, Int.reduceLE, Int.reduceEq, ne_eq, not_false_eq_true, Nat.reduceMul, *]))

theorem laws_eqRef (x : TRef) : PCalls Tryz.prog 88 [refE.val x, refE.val x] (.bool true) := by
  refine PCalls.flat rfl ?_; refine ACalls.enter (n := 15) (rs := [.tmp 4]) Tryz.func88 rfl rfl rfl (by kernel_rfl) (by kernel_rfl) (by kernel_rfl) (Nat.le_of_ble_eq_true rfl) ?_
  repeat' (first | (refine KT.run _ ?_) | (refine AWp.seqH fun KC => ?_) | (refine AWp.region ?_) | (refine AWp.ret ?_) | (refine AWp.skip ?_) | (refine AWp.condB ?_) | (simp only [bse, wk, tys, storeH_ptr, Nat.reduceEqDiff, ↓reduceIte, reduceCtorEq, Nat.reduceAdd, Nat.reduceLeDiff, Int.reduceBEq, Int.reduceLT, Int.reduceLE, Int.reduceEq, ne_eq, not_false_eq_true, Nat.reduceMul, refE_val, refE_sz, *]))

theorem laws_toSign (x : TSign) : PCalls Tryz.prog 42 [signE.val x] (signE.val x) := by
  refine PCalls.val (by first | exact islE_im _ _ | exact Enc.val_im _ _ | exact Im.flat _ rfl | (repeat' (first | exact Im.nilL | refine Im.consL ?_ ?_ | exact Im.flat _ rfl | exact islE_im _ _ | exact Enc.val_im _ _ | refine Im.aggL ?_ | refine Im.tupleL ?_ | refine Im.isl ?_))) ?_; refine ACalls.enter (n := 11) (rs := [.cell 2 78]) Tryz.func42 rfl rfl rfl (by kernel_rfl) (by kernel_rfl) (by kernel_rfl) (Nat.le_of_ble_eq_true rfl) ?_
  repeat' (first | (refine KT.run _ ?_) | (refine AWp.seqH fun KC => ?_) | (refine AWp.region ?_) | (refine AWp.ret ?_) | (simp only [bse, wk, tys, storeH_ptr, Nat.reduceEqDiff, ↓reduceIte, reduceCtorEq, Nat.reduceAdd, Nat.reduceLeDiff, Int.reduceBEq, Int.reduceLT, Int.reduceLE, Int.reduceEq, ne_eq, not_false_eq_true, Nat.reduceMul, signE_val, signE_sz, *]))
theorem laws_eqSign (x : TSign) : PCalls Tryz.prog 51 [signE.val x, signE.val x] (.bool true) := by
  refine PCalls.flat rfl ?_; refine ACalls.enter (n := 15) (rs := [.tmp 4]) Tryz.func51 rfl rfl rfl (by kernel_rfl) (by kernel_rfl) (by kernel_rfl) (Nat.le_of_ble_eq_true rfl) ?_
  repeat' (first | (refine KT.run _ ?_) | (refine AWp.seqH fun KC => ?_) | (refine AWp.region ?_) | (refine AWp.ret ?_) | (refine AWp.skip ?_) | (refine AWp.condB ?_) | (simp only [bse, wk, tys, storeH_ptr, Nat.reduceEqDiff, ↓reduceIte, reduceCtorEq, Nat.reduceAdd, Nat.reduceLeDiff, Int.reduceBEq, Int.reduceLT, Int.reduceLE, Int.reduceEq, ne_eq, not_false_eq_true, Nat.reduceMul, signE_val, signE_sz, *]))


theorem laws_szSignS (xs : List TSign) (k : Int) (hk : 0 ≤ k) (hk2 : k ≤ 4611686018427387904) (hn : xs.length ≤ 9223372036854775807) :
    PCalls Tryz.prog 20 [islE signE xs, .int .i64 k] (.int .i64 (szI xs.length k)) := by
  have hw : IntKind.i64.wrap (k - (xs.length : Int)) = k - xs.length := wr (by omega) (by omega)
  unfold szI
  by_cases hlt : k - (xs.length : Int) < 0
  all_goals
    refine PCalls.flat rfl ?_; refine ACalls.enter (n := 12) (rs := [.tmp 4]) Tryz.func20 rfl rfl rfl (by kernel_rfl) (by kernel_rfl) (by kernel_rfl) (Nat.le_of_ble_eq_true rfl) ?_
    repeat' (first | (refine KT.run _ ?_) | (refine AWp.seqH fun KC => ?_) | (refine AWp.region ?_) | (refine AWp.ret ?_) | (refine AWp.skip ?_) | (refine AWp.condB ?_) | (simp only [bse, wk, tys, storeH_ptr, Nat.reduceEqDiff, ↓reduceIte, reduceCtorEq, Nat.reduceAdd, Nat.reduceLeDiff, Int.reduceBEq, Int.reduceLT, Int.reduceLE, Int.reduceEq, ne_eq, not_false_eq_true, Nat.reduceMul, signE_val, signE_sz, *]))


theorem laws_toSignS_own (H : AH) (xs : List TSign) (hn : xs.length ≤ 1048576) :
    ACalls Tryz.prog H.length 24 [islE signE xs] H fun d H' => d = .slice (some ⟨H.length, 0, none⟩) xs.length 0 ∧ H' = H ++ [⟨78, signE.sz, signE.flat xs, 0, true⟩] := by
  have hmk := makeH_cells (H := H) (P := Tryz.prog) elZ33 zer78 zOk33 (n := xs.length) (by omega) (by omega)
  refine ACalls.enter (n := 23) (rs := [.tmp 2]) Tryz.func24 rfl rfl rfl (by kernel_rfl) (by kernel_rfl) (by kernel_rfl) (Nat.le_of_ble_eq_true rfl) ?_
  repeat' (first | (refine KT.run _ ?_) | (refine AWp.seqH fun KC => ?_) | (refine AWp.block ?_) | (refine AWp.region ?_) | (simp only [bse, wk, tys, storeH_ptr, Nat.reduceEqDiff, ↓reduceIte, reduceCtorEq, Nat.reduceAdd, Nat.reduceLeDiff, Int.reduceBEq, Int.reduceLT, Int.reduceLE, Int.reduceEq, ne_eq, not_false_eq_true, Nat.reduceMul, signE_val, signE_sz, *]))
  refine AWp.loopH [8, 9, 10, 11, 14, 15, 16, 17, 18, 19, 20, 21, 12, 13, 4] (fun m e' H' => ∃ k : Nat, k ≤ xs.length ∧ m = xs.length - k ∧ e' 4 = .int .i64 k ∧ H' = H ++ [⟨78, signE.sz, signE.flat (xs.take k) ++ zerosOf [.int .i64 0, .int .i64 0] ((xs.length - k) * signE.sz), 0, true⟩]) xs.length ⟨0, by omega, by omega, rfl, by simp [signE, Enc.flat, cellsV]⟩ ?_
  rintro m e' H' hA ⟨k, hk, rfl, h4, rfl⟩ hJ
  have a0 := hA 0 rfl; have a2 := hA 2 rfl; have a3 := hA 3 rfl; try simp only [bse, wk, tys, storeH_ptr, Nat.reduceEqDiff, ↓reduceIte, reduceCtorEq, Nat.reduceAdd, Nat.reduceLeDiff, Int.reduceBEq, Int.reduceLT, Int.reduceLE, Int.reduceEq, ne_eq, not_false_eq_true, Nat.reduceMul] at a0 a2 a3; clear hA
  by_cases hlt : k < xs.length
  · have hlt' : (k : Int) < (xs.length : Int) := by omega
    have hst := store_next (P := Tryz.prog) (B := H.length) (E := signE) (H := H ++ [⟨78, signE.sz, signE.flat (xs.take k) ++ zerosOf [.int .i64 0, .int .i64 0] ((xs.length - k) * signE.sz), 0, true⟩]) (T := 78) (r := H.length) (k := k) (n := xs.length) (ys := xs.take k) (y := xs[k]) (by rw [get_app0]; rfl) (by simp; omega) hlt (Nat.le_refl _) lay78 rfl
    rw [take_next xs k hlt] at hst
    simp only [signE_sz, signE_val, Nat.mul_one] at hst
    have hw := wr_succ (k := k) (by omega)
    repeat' (first | (refine ACalls.start ?_; first | (refine ACalls.ofJi (laws_toSign _) rfl ?_)) | (refine KV.run _ ?_) | (refine KT.run _ ?_) | (refine AWp.seqH fun KC => ?_) | (refine AWp.block ?_) | (refine AWp.region ?_) | (refine AWp.skip ?_) | (refine aops_callH rfl fun kC => ?_) | (refine AWp.condB ?_) | (simp only [bse, wk, tys, Nat.reduceEqDiff, ↓reduceIte, reduceCtorEq, Nat.reduceAdd, Nat.reduceLeDiff, Int.reduceBEq, Int.reduceLT, Int.reduceLE, Int.reduceEq, ne_eq, not_false_eq_true, Nat.reduceMul, signE_val, signE_sz, *]))
    exact hJ.out _ _ ⟨xs.length - (k + 1), by omega, k + 1, by omega, rfl, rfl, by simp only [signE_sz, Nat.mul_one]⟩ (by repeat (first | exact Agree.refl _ _ | assumption | refine Agree.put ?_ rfl _))
  · have hlt' : ¬ (k : Int) < (xs.length : Int) := by omega
    have : k = xs.length := by omega
    subst this
    repeat' (first | (refine KT.run _ ?_) | (refine AWp.seqH fun KC => ?_) | (refine AWp.region ?_) | (refine AWp.ret ?_) | (refine AWp.exit ?_) | (refine AWp.condB ?_) | (simp only [bse, wk, tys, storeH_ptr, Nat.reduceEqDiff, ↓reduceIte, reduceCtorEq, Nat.reduceAdd, Nat.reduceLeDiff, Int.reduceBEq, Int.reduceLT, Int.reduceLE, Int.reduceEq, ne_eq, not_false_eq_true, Nat.reduceMul, signE_val, signE_sz, *]))
    simp [zerosOf_zero]
theorem laws_eqSignS (xs : List TSign) (hn : xs.length ≤ 1000000000000) : PCalls Tryz.prog 29 [islE signE xs, islE signE xs] (.bool true) := by
  refine PCalls.flat rfl ?_; refine ACalls.enter (n := 27) (rs := [.tmp 4]) Tryz.func29 rfl rfl rfl (by kernel_rfl) (by kernel_rfl) (by kernel_rfl) (Nat.le_of_ble_eq_true rfl) ?_
  repeat' (first | (refine KT.run _ ?_) | (refine AWp.seqH fun KC => ?_) | (refine AWp.block ?_) | (refine AWp.region ?_) | (refine AWp.skip ?_) | (refine AWp.condB ?_) | (simp only [bse, wk, tys, storeH_ptr, Nat.reduceEqDiff, ↓reduceIte, reduceCtorEq, Nat.reduceAdd, Nat.reduceLeDiff, Int.reduceBEq, Int.reduceLT, Int.reduceLE, Int.reduceEq, ne_eq, not_false_eq_true, Nat.reduceMul, signE_val, signE_sz, *]))
  refine AWp.loopH [11, 12, 13, 14, 17, 18, 19, 20, 21, 22, 23, 24, 25, 26, 4, 15, 16, 5] (fun m e' H' => ∃ k : Nat, k ≤ xs.length ∧ m = xs.length - k ∧ e' 5 = .int .i64 k ∧ H' = []) xs.length ⟨0, by omega, by omega, rfl, rfl⟩ ?_
  rintro m e' H' hA ⟨k, hk, rfl, h5, rfl⟩ hJ
  have a0 := hA 0 rfl; have a1 := hA 1 rfl; try simp only [bse, wk, tys, storeH_ptr, Nat.reduceEqDiff, ↓reduceIte, reduceCtorEq, Nat.reduceAdd, Nat.reduceLeDiff, Int.reduceBEq, Int.reduceLT, Int.reduceLE, Int.reduceEq, ne_eq, not_false_eq_true, Nat.reduceMul] at a0 a1; clear hA
  by_cases hlt : k < xs.length
  · have hlt' : (k : Int) < (xs.length : Int) := by omega
    have hw := wr_succ (k := k) (by omega)
    repeat' (first | (refine AWp.quiet (id := 6) (by kernel_rfl) (by kernel_rfl) ?_) | (refine qcall_start ?_; first | (refine qcallFi (laws_eqSign _) rfl ?_ ?_; (focus ((first | exact rfl | (simp [pureV, flatV, signE_val, signE_sz]; done)))))) | (refine KQ.run _ ?_) | (refine KT.run _ ?_) | (refine AWp.seqH fun KC => ?_) | (refine AWp.block ?_) | (refine AWp.region ?_) | (refine AWp.skip ?_) | (refine qops_callH rfl fun kC => ?_) | (refine AWp.condB ?_) | (simp only [bse, wk, tys, storeH_ptr, Nat.reduceEqDiff, ↓reduceIte, reduceCtorEq, Nat.reduceAdd, Nat.reduceLeDiff, Int.reduceBEq, Int.reduceLT, Int.reduceLE, Int.reduceEq, ne_eq, not_false_eq_true, Nat.reduceMul, signE_val, signE_sz, *]))
    exact hJ.out _ _ ⟨xs.length - (k + 1), by omega, k + 1, by omega, rfl, rfl, rfl⟩ (by repeat (first | exact Agree.refl _ _ | assumption | refine Agree.put ?_ rfl _))
  · have hlt' : ¬ (k : Int) < (xs.length : Int) := by omega
    repeat' (first | (refine KT.run _ ?_) | (refine AWp.seqH fun KC => ?_) | (refine AWp.region ?_) | (refine AWp.ret ?_) | (refine AWp.exit ?_) | (refine AWp.condB ?_) | (simp only [bse, wk, tys, storeH_ptr, Nat.reduceEqDiff, ↓reduceIte, reduceCtorEq, Nat.reduceAdd, Nat.reduceLeDiff, Int.reduceBEq, Int.reduceLT, Int.reduceLE, Int.reduceEq, ne_eq, not_false_eq_true, Nat.reduceMul, signE_val, signE_sz, *]))

end Go.BM
/- Votes and voters: what is wrong with them. -/
set_option linter.unusedVariables false
set_option linter.unusedSimpArgs false
set_option maxRecDepth 100000
set_option maxHeartbeats 4000000
namespace Go.BM
open Go.Proofs Go.RowKit
attribute [local irreducible] ACalls AWp aops qops optK optP cK gateA condK mops qcallK PCalls loadV fldV idxV lenV slV storeH binS
theorem spec_l1In (a b c : Int) : PCalls Tryz.prog 65 [.int .i64 a, .int .i64 b, .int .i64 c] (.bool (inB a b c)) := by
  unfold inB
  by_cases h1 : b ≤ a
  all_goals
    refine PCalls.flat rfl ?_; refine ACalls.enter (n := 15) (rs := [.tmp 6]) Tryz.func65 rfl rfl rfl (by kernel_rfl) (by kernel_rfl) (by kernel_rfl) (Nat.le_of_ble_eq_true rfl) ?_
    repeat' (first | (refine KT.run _ ?_) | (refine AWp.seqH fun KC => ?_) | (refine AWp.region ?_) | (refine AWp.ret ?_) | (simp only [bse, wk, tys, storeH_ptr, Nat.reduceEqDiff, ↓reduceIte, reduceCtorEq, Nat.reduceAdd, Nat.reduceLeDiff, Int.reduceBEq, Int.reduceLT, Int.reduceLE, Int.reduceEq, ne_eq, not_false_eq_true, Nat.reduceMul, *]))
  all_goals (try simp)
theorem spec_l1Key (a : Int) : PCalls Tryz.prog 64 [.int .i64 a] (.bool (inB a 1 999)) := by
  refine PCalls.flat rfl ?_; refine ACalls.enter (n := 5) (rs := [.tmp 2]) Tryz.func64 rfl rfl rfl (by kernel_rfl) (by kernel_rfl) (by kernel_rfl) (Nat.le_of_ble_eq_true rfl) ?_
  repeat' (first | (refine ACalls.start ?_; first | (refine ACalls.ofJi (spec_l1In _ _ _) rfl ?_)) | (refine KV.run _ ?_) | (refine KT.run _ ?_) | (refine AWp.seqH fun KC => ?_) | (refine AWp.region ?_) | (refine AWp.ret ?_) | (refine aops_callH rfl fun kC => ?_) | (simp only [bse, wk, tys, storeH_ptr, Nat.reduceEqDiff, ↓reduceIte, reduceCtorEq, Nat.reduceAdd, Nat.reduceLeDiff, Int.reduceBEq, Int.reduceLT, Int.reduceLE, Int.reduceEq, ne_eq, not_false_eq_true, Nat.reduceMul, *]))
def refB (r : TRef) : Bool := inB r.tx 1 60 && inB r.at' 0 3
theorem spec_l3Ref (r : TRef) : PCalls Tryz.prog 98 [refE.val r] (.bool (refB r)) := by
  refine PCalls.flat rfl ?_; refine ACalls.enter (n := 11) (rs := [.tmp 2]) Tryz.func98 rfl rfl rfl (by kernel_rfl) (by kernel_rfl) (by kernel_rfl) (Nat.le_of_ble_eq_true rfl) ?_
  repeat' (first | (refine ACalls.start ?_; first | (refine ACalls.ofJi (spec_l1In _ _ _) rfl ?_)) | (refine KV.run _ ?_) | (refine KT.run _ ?_) | (refine AWp.seqH fun KC => ?_) | (refine AWp.region ?_) | (refine AWp.ret ?_) | (refine aops_callH rfl fun kC => ?_) | (simp only [bse, wk, tys, storeH_ptr, Nat.reduceEqDiff, ↓reduceIte, reduceCtorEq, Nat.reduceAdd, Nat.reduceLeDiff, Int.reduceBEq, Int.reduceLT, Int.reduceLE, Int.reduceEq, ne_eq, not_false_eq_true, Nat.reduceMul, refE_val, refE_sz, choiceE_val, choiceE_sz, *]) | (refine condK_bool (fun hb => ?_) (fun hb => ?_) <;> ((try simp only [Bool.not_eq_true', Bool.not_eq_false'] at hb) <;> (try (have hbe := of_decide_eq_true hb)) <;> (try (have hbe := eq_of_beq hb)))) | (refine aops_partB ?_))
  all_goals simp [refB, *]
theorem impl_isRef (r : TRef) : PCalls Tryz.prog 106 [refE.val r] (.bool (refB r)) := by
  refine PCalls.flat rfl ?_; refine ACalls.enter (n := 11) (rs := [.tmp 2]) Tryz.func106 rfl rfl rfl (by kernel_rfl) (by kernel_rfl) (by kernel_rfl) (Nat.le_of_ble_eq_true rfl) ?_
  repeat' (first | (refine ACalls.start ?_; first | (refine ACalls.ofJi (impl_isId _) rfl ?_) | (refine ACalls.ofJi (impl_within _ _ _) rfl ?_)) | (refine KV.run _ ?_) | (refine KT.run _ ?_) | (refine AWp.seqH fun KC => ?_) | (refine AWp.region ?_) | (refine AWp.ret ?_) | (refine aops_callH rfl fun kC => ?_) | (simp only [bse, wk, tys, storeH_ptr, Nat.reduceEqDiff, ↓reduceIte, reduceCtorEq, Nat.reduceAdd, Nat.reduceLeDiff, Int.reduceBEq, Int.reduceLT, Int.reduceLE, Int.reduceEq, ne_eq, not_false_eq_true, Nat.reduceMul, refE_val, refE_sz, choiceE_val, choiceE_sz, *]) | (refine condK_bool (fun hb => ?_) (fun hb => ?_) <;> ((try simp only [Bool.not_eq_true', Bool.not_eq_false'] at hb) <;> (try (have hbe := of_decide_eq_true hb)) <;> (try (have hbe := eq_of_beq hb)))) | (refine aops_partB ?_))
  all_goals simp [refB, *]
end Go.BM
/- Words of texts, numbers of words, the text of a block: the program. -/
set_option linter.unusedVariables false
set_option linter.unusedSimpArgs false
set_option maxRecDepth 100000
set_option maxHeartbeats 4000000
namespace Go.BM
open Go.Proofs Go.RowKit
attribute [local irreducible] ACalls AWp aops qops optK optP cK gateA condK mops qcallK PCalls loadV fldV idxV lenV slV storeH binS
theorem split_cut (c : UInt8) : ∀ s : List UInt8, Lib.splitK [c] 0 (Lib.count s [c]) s = cutL c s
  | [] => by
    rw [Lib.count_miss (by simp [Lib.index])]
    rfl
  | b :: l => by
    by_cases h : b = c
    · subst h
      have hix : Lib.index (b :: l) [b] = 0 := by rw [Lib.index]; simp [List.isPrefixOf]
      rw [Lib.count_cons_eq, Nat.add_comm, Lib.splitK, hix, if_neg (by decide)]
      simp only [cutL, if_true]
      rw [← split_cut b l]
      rfl
    · have ih := split_cut c l
      rw [Lib.count_cons_ne b c l h, cutL, if_neg h]
      have hp : ([c] : List UInt8).isPrefixOf (b :: l) = false := by simp [List.isPrefixOf, Ne.symm h]
      have hix : Lib.index (b :: l) [c] = if Lib.index l [c] == -1 then -1 else Lib.index l [c] + 1 := by rw [Lib.index, hp]; simp
      by_cases hm : Lib.index l [c] = -1
      · rw [Lib.count_miss hm] at ih ⊢
        rw [← ih]
        rfl
      · have hge := Lib.index_ge l [c]
        obtain ⟨j, hj⟩ : ∃ j : Nat, Lib.index l [c] = j := ⟨(Lib.index l [c]).toNat, by omega⟩
        rw [Lib.count_hit (by simp) hj, Nat.add_comm] at ih ⊢
        have hjn : ¬ ((j : Int) == -1) = true := fun e => by have := beq_iff_eq.1 e; omega
        have hjn1 : ¬ ((j : Int) + 1 == -1) = true := fun e => by have := beq_iff_eq.1 e; omega
        rw [Lib.splitK, hj, if_neg hjn] at ih
        rw [Lib.splitK, hix, hj, if_neg hjn, if_neg hjn1, ← ih]
        have e1 : ((j : Int) + 1).toNat = j + 1 := by omega
        have e2 : ((j : Int)).toNat = j := by omega
        rw [e1, e2]
        rfl
theorem bs_list (l : List UInt8) : (bs l).data.toList = l := by simp
theorem splitW_cut (c : UInt8) (t : List UInt8) : splitW (bs t) (bs [c]) = cutW c t := by
  have h := Lib.splitB_data (bs [c]) 0 (Lib.countB (bs t) (bs [c])) (bs t)
  rw [bs_list, bs_list] at h
  have hc : Lib.countB (bs t) (bs [c]) = Lib.count t [c] := by
    show Lib.count (bs t).data.toList (bs [c]).data.toList = _
    rw [bs_list, bs_list]
  rw [hc, split_cut] at h
  unfold splitW cutW
  rw [hc, ← h, List.map_map]
  conv => lhs; rw [← List.map_id (Lib.splitB (bs [c]) 0 (Lib.count t [c]) (bs t))]
  apply List.map_congr_left
  intro s _
  exact (bs_of s).symm
def numL (w : List UInt8) : Int := numF (bs w)
theorem lib_SplitC (t : List UInt8) (c : UInt8) (ht : t.length ≤ 1048576) : PCalls Tryz.prog 73 [.string (bs t), .string (bs [c])] (islE strE (cutW c t)) := by
  rw [← splitW_cut c t]
  exact (lib_Split (bs t) (bs [c]) (by rw [bs_size]; omega) (by rw [bs_size]; simp)).p
end Go.BM
/-
  DERIVED: THE SHELF's CONTRACTS AT THIS DUMP, IN PLAIN WORDS (tools/lay-plain.mjs out of 'TryzShelf2.lean', which tools/lay-shelf.mjs wrote): THE SAME DECLARATIONS UNDER THE SAME NAMES: 'import', 'namespace', 'open', 'def', 'theorem' AND NOTHING ELSE: no command of the shelf's: FOR A HAND-IN. Each laying: the table of numbers ('.._ren') and one theorem, a field a fact of the dump's own or the kernel's comparison; each contract: ONE APPLICATION.
-/
namespace Go.Proofs
open Go.Shelf
def Tryz.lays145_ren : Go.Shelf.Ren := ⟨fun | 145 => 84 | 220 => 103 | 219 => 120 | 217 => 135 | 225 => 136 | 224 => 137 | 267 => 138 | 266 => 154 | 314 => 155 | n => n, fun | 9 => 9 | 4 => 4 | 59 => 125 | 3 => 3 | 5 => 5 | 46 => 176 | 146 => 194 | 51 => 193 | n => n, fun | 1 => 0 | n => n⟩
theorem Tryz.lays145 : Go.Proofs.Lays.n145 Tryz.prog Tryz.lays145_ren := {
  mixed := by kernel_rfl
  f145 := Tryz.func84.trans (congrArg some (by kernel_rfl))
  f217 := Tryz.func135.trans (congrArg some (by kernel_rfl))
  f219 := Tryz.func120.trans (congrArg some (by kernel_rfl))
  f220 := Tryz.func103.trans (congrArg some (by kernel_rfl))
  f224 := Tryz.func137.trans (congrArg some (by kernel_rfl))
  f225 := Tryz.func136.trans (congrArg some (by kernel_rfl))
  f266 := Tryz.func154.trans (congrArg some (by kernel_rfl))
  f267 := Tryz.func138.trans (congrArg some (by kernel_rfl))
  f314 := Tryz.func155.trans (congrArg some (by kernel_rfl))
  t3 := Tryz.underlying3
  a3 := Tryz.isAgg3
  z3 := Tryz.sizeOf3
  v3 := Tryz.zeroValue3
  t4 := Tryz.underlying4
  a4 := Tryz.isAgg4
  z4 := Tryz.sizeOf4
  v4 := Tryz.zeroValue4
  t5 := Tryz.underlying5
  a5 := Tryz.isAgg5
  z5 := Tryz.sizeOf5
  v5 := Tryz.zeroValue5
  t9 := Tryz.underlying9
  a9 := Tryz.isAgg9
  z9 := Tryz.sizeOf9
  v9 := Tryz.zeroValue9
  t46 := Tryz.underlying176
  a46 := Tryz.isAgg176
  z46 := Tryz.sizeOf176
  v46 := Tryz.zeroValue176
  t51 := Tryz.underlying193
  a51 := Tryz.isAgg193
  z51 := Tryz.sizeOf193
  v51 := Tryz.zeroValue193
  t59 := Tryz.underlying125
  a59 := Tryz.isAgg125
  z59 := Tryz.sizeOf125
  v59 := Tryz.zeroValue125
  t146 := Tryz.underlying194
  a146 := Tryz.isAgg194
  z146 := Tryz.sizeOf194
  v146 := Tryz.zeroValue194
  g1 := by kernel_rfl }
theorem Tryz.strings_Cut (s sep : ByteArray) (m : Int) (w : World) (hs : s.size < 4294967281) (hm : w.cell? ⟨0, 0, none⟩ = some (.int .i64 m)) :
    Calls Tryz.prog 84 #[.string s, .string sep] w fun e w' => e = .returned (.tuple #[.string ⟨(Lib.cut s.data.toList sep.data.toList).1.toArray⟩, .string ⟨(Lib.cut s.data.toList sep.data.toList).2.1.toArray⟩, .bool (Lib.cut s.data.toList sep.data.toList).2.2]) ∧ ∃ n, w' = w.drewN n := Any.strings_Cut Tryz.lays145 s sep m w hs hm

end Go.Proofs
