/- Marks, and what a law keeps in hand. -/
import Derived.Test.YtfggnccpbdfpeaaC23
set_option linter.unusedVariables false
set_option linter.unusedSimpArgs false
namespace Go.BM
open Go.RowKit
section
variable {P : Program} {x : Bool} {H H' : AH} {l l' : List Value} {S T : List Nat} {d v y : Value} {α : Type} {E : Enc α}

theorem OwnL.nilI (h : OwnL x H l [] S) : l = [] ∧ S = [] := by cases h; exact ⟨rfl, rfl⟩
theorem OwnL.consI {v : Value} (h : OwnL x H l (v :: l') S) : ∃ d m S1 S2, l = d :: m ∧ S = S1 ++ S2 ∧ OwnL x H [d] [v] S1 ∧ OwnL x H m l' S2 := by
  cases h with
  | flat h t => exact ⟨_, _, [], _, rfl, rfl, .flat h .nil, t⟩
  | nils t => exact ⟨_, _, [], _, rfl, rfl, .nils .nil, t⟩
  | @emp r sp blk _ _ S h ho t => exact ⟨_, _, [r], S, rfl, rfl, .emp h ho .nil, t⟩
  | @slice r sp len blk cs _ _ S T h ho hl hx hn hc t => exact ⟨_, _, r :: (S ++ []), T, rfl, by simp, .slice h ho hl hx hn hc .nil, t⟩
  | @agg xs ys S T _ _ hx t => exact ⟨_, _, S ++ [], T, rfl, by simp, .agg hx .nil, t⟩
  | @tup xs ys S T _ _ hx t => exact ⟨_, _, S ++ [], T, rfl, by simp, .tup hx .nil, t⟩
theorem OwnL.flatI {v : Value} (h : OwnL x H l (v :: l') S) (hv : flatV v = true) : ∃ m, l = v :: m ∧ OwnL x H m l' S := by
  generalize hw : v = v' at h
  cases h with
  | flat h t => subst hw; exact ⟨_, rfl, t⟩
  | nils t => subst hw; simp [isl, flatV] at hv
  | emp h ho t => subst hw; simp [isl, flatV] at hv
  | slice h ho hl hx hn hc t => subst hw; simp [isl, flatV] at hv
  | agg hx t => subst hw; simp [flatV] at hv
  | @tup xs ys S T _ _ hx t =>
    subst hw
    have h0 : ys.size = 0 := by simpa [flatV] using hv
    have : ys = #[] := by apply Array.eq_empty_of_size_eq_zero h0
    subst this
    obtain ⟨h1, rfl⟩ := OwnL.nilI hx
    have : xs = #[] := by apply Array.eq_empty_of_size_eq_zero; simpa using congrArg List.length h1
    subst this
    exact ⟨_, rfl, t⟩
theorem OwnL.flatA (h : OwnL x H l l' S) : (∀ c ∈ l', flatV c = true) → S = [] ∧ l = l' := by
  induction h with
  | nil => exact fun _ => ⟨rfl, rfl⟩
  | flat h _ ih => exact fun hf => by obtain ⟨h1, h2⟩ := ih fun c hc => hf c (by simp [hc]); exact ⟨h1, by rw [h2]⟩
  | nils _ ih => intro hf; have := hf _ List.mem_cons_self; simp [isl, flatV] at this
  | emp _ _ _ ih => intro hf; have := hf _ List.mem_cons_self; simp [isl, flatV] at this
  | slice h ho hl hx hn hc t ihc iht => intro hf; have := hf _ List.mem_cons_self; simp [isl, flatV] at this
  | agg hx _ ihx iht => intro hf; have := hf _ List.mem_cons_self; simp [flatV] at this
  | @tup xs ys S T _ _ hx _ ihx iht =>
    intro hf
    have hv := hf _ List.mem_cons_self
    have h0 : ys.size = 0 := by simpa [flatV] using hv
    have : ys = #[] := Array.eq_empty_of_size_eq_zero h0
    subst this
    obtain ⟨h1, rfl⟩ := OwnL.nilI hx
    have : xs = #[] := by apply Array.eq_empty_of_size_eq_zero; simpa using congrArg List.length h1
    subst this
    obtain ⟨g1, g2⟩ := iht fun c hc => hf c (by simp [hc])
    exact ⟨by simp [g1], by rw [g2]⟩
theorem OwnL.aggI {ys : List Value} (h : OwnL x H [d] [.agg ys.toArray] S) : ∃ xs, d = .agg xs.toArray ∧ OwnL x H xs ys S := by
  generalize hw : (Value.agg ys.toArray) = w at h
  cases h with
  | flat h t => subst hw; simp [flatV] at h
  | nils t => cases hw
  | emp h ho t => cases hw
  | slice h ho hl hx hn hc t => cases hw
  | @agg xs zs S T _ _ hx t =>
    cases hw
    obtain ⟨_, rfl⟩ := OwnL.nilI t
    exact ⟨xs.toList, by simp, by simpa using hx⟩
  | tup hx t => cases hw
theorem OwnL.aggL (h : OwnL x H l l' S) : OwnL x H [.agg l.toArray] [.agg l'.toArray] S := by
  have := OwnL.agg (xs := l.toArray) (ys := l'.toArray) (by simpa using h) OwnL.nil
  simpa using this
theorem OwnL.tupL (h : OwnL x H l l' S) : OwnL x H [.tuple l.toArray] [.tuple l'.toArray] S := by
  have := OwnL.tup (xs := l.toArray) (ys := l'.toArray) (by simpa using h) OwnL.nil
  simpa using this
theorem OwnL.consL (h : OwnL x H [d] [v] S) (t : OwnL x H l l' T) : OwnL x H (d :: l) (v :: l') (S ++ T) := h.append t
/-- A slice that is owned: nil, empty, or a block. -/
theorem OwnL.slI {xs : List α} (h : OwnL x H [d] [islE E xs] S) : (d = .slice none 0 0 ∧ xs = [] ∧ S = []) ∨
    (∃ r sp blk, d = .slice (some ⟨r, 0, sp⟩) 0 blk.ver ∧ H[r]? = some blk ∧ xs = [] ∧ S = [r] ∧ (x = true → blk.own = true ∧ blk.cs = [])) ∨
    ∃ r sp blk S1, d = .slice (some ⟨r, 0, sp⟩) xs.length blk.ver ∧ H[r]? = some blk ∧ blk.own = true ∧ (E.flat xs).length ≤ blk.cs.length ∧ (x = true → blk.cs.length = (E.flat xs).length) ∧ S = r :: S1 ∧ OwnL x H (blk.cs.take (E.flat xs).length) (E.flat xs) S1 := by
  generalize hw : islE E xs = w at h
  have isl_inj : ∀ {n m : Nat} {a b : List Value}, isl n a = isl m b → n = m ∧ a = b := fun {n m a b} e => by
    unfold isl at e
    injection e with _ e1 e2
    simp at e1 e2
    exact ⟨by omega, e2⟩
  cases h with
  | flat h t => subst hw; simp [islE, isl, flatV] at h
  | nils t =>
    obtain ⟨h1, h2⟩ := isl_inj hw
    obtain ⟨_, rfl⟩ := OwnL.nilI t
    exact .inl ⟨rfl, List.eq_nil_of_length_eq_zero h1, rfl⟩
  | @emp r sp blk _ _ S h ho t =>
    obtain ⟨h1, h2⟩ := isl_inj hw
    obtain ⟨_, rfl⟩ := OwnL.nilI t
    exact .inr (.inl ⟨r, sp, blk, rfl, h, List.eq_nil_of_length_eq_zero h1, rfl, ho⟩)
  | @slice r sp len blk cs _ _ S T h ho hl hx hn hc t =>
    obtain ⟨rfl, rfl⟩ := isl_inj hw
    obtain ⟨_, rfl⟩ := OwnL.nilI t
    exact .inr (.inr ⟨r, sp, blk, S, rfl, h, ho, hl, hx, by simp, hc⟩)
  | agg hx t => simp [islE, isl] at hw
  | tup hx t => simp [islE, isl] at hw
/-- A list of flat things in a block. -/
theorem OwnL.sl {ys : List α} {r el sz ver n : Nat} {o : Bool} {sp : Option Nat} {rest : List Value} (hb : H[r]? = some ⟨el, sz, E.flat ys ++ rest, ver, o⟩) (ho : ys.length ≠ 0 → o = true) (hn : n = ys.length) (hf : ∀ c ∈ E.flat ys, flatV c = true)
    (hr : x = true → o = true ∧ rest = []) : OwnL x H [.slice (some ⟨r, 0, sp⟩) n ver] [islE E ys] [r] := by
  subst hn
  cases h : ys with
  | nil =>
    subst h
    exact OwnL.emp hb (fun e => by obtain ⟨h1, h2⟩ := hr e; exact ⟨h1, by simpa [Enc.flat] using h2⟩) .nil
  | cons y l =>
    rw [← h]
    have := OwnL.slice (x := x) (H := H) (sp := sp) (len := ys.length) (cs := E.flat ys) (S := []) (T := []) (l := []) (l' := []) hb (ho (by rw [h]; simp)) (by simp) (fun e => by rw [(hr e).2]; simp) (fun h0 => by rw [h] at h0; simp at h0) (by simp; exact .ofFlat hf) .nil
    exact this
theorem OwnL.sl1 {ys : List α} {el sz : Nat} (hf : ∀ c ∈ E.flat ys, flatV c = true) : ∃ S : List Nat, S.Nodup ∧ OwnL false ([] ++ [⟨el, sz, E.flat ys, 0, true⟩]) [.slice (some ⟨([] : AH).length, 0, none⟩) ys.length 0] [islE E ys] S :=
  ⟨[0], by simp, OwnL.sl (el := el) (sz := sz) (o := true) (rest := []) (by simp) (fun _ => rfl) rfl hf (fun e => by cases e)⟩
theorem OwnL.slNil : OwnL x H [.slice none 0 0] [islE E []] [] := OwnL.nils .nil
theorem OwnL.slNil' {ys : List α} (h : ys = []) : OwnL x H [.slice none 0 0] [islE E ys] [] := by subst h; exact OwnL.nils .nil
theorem islE_inj_nil {ys : List α} : islE E ys = isl 0 [] ↔ ys = [] := by
  constructor
  · intro h
    unfold islE isl at h
    injection h with _ h1 _
    simp at h1
    exact h1
  · rintro rfl; rfl

theorem OwnL.bor1 (h : OwnL x H [d] [v] S) : Bor H d v := by cases h.bor; assumption
theorem OwnL.bork {k : IntKind} {i : Int} (h : OwnL x H [d] [v] S) : BorL H [d, .int k i] [v, .int k i] := .cons h.bor1 (.cons (.same _ (.flat _ rfl)) .nil)
theorem OwnL.slD {xs : List α} (h : OwnL x H [d] [islE E xs] S) : ∃ a n ver, d = .slice a n ver := by
  rcases h.slI with ⟨rfl, _⟩ | ⟨r, sp, blk, rfl, _⟩ | ⟨r, sp, blk, S1, rfl, _⟩ <;> exact ⟨_, _, _, rfl⟩
theorem OwnL.im (h : OwnL x H l l' S) : ∀ c ∈ l', Im c := by
  induction h with
  | nil => exact fun c hc => by simp at hc
  | flat h _ ih => exact Im.consL (.flat _ h) ih
  | nils _ ih => exact Im.consL (Im.isl Im.nilL) ih
  | emp _ _ _ ih => exact Im.consL (Im.isl Im.nilL) ih
  | slice h ho hl hx hn hc t ihc iht => exact Im.consL (Im.isl ihc) iht
  | agg hx _ ihx iht => exact Im.consL (by simpa using Im.aggL ihx) iht
  | tup hx _ ihx iht => exact Im.consL (by simpa using Im.tupleL ihx) iht
theorem OwnL.im1 (h : OwnL x H [d] [v] S) : Im v := h.im v (by simp)
/-- What a slice that is owned is told as. -/
theorem OwnL.slY {a : Option Addr} {n ver : Nat} {m : List Value} (h : OwnL x H (.slice a n ver :: l) m S) : ∃ k cs m' S1 S2, m = isl k cs :: m' ∧ S = S1 ++ S2 ∧ OwnL x H [.slice a n ver] [isl k cs] S1 ∧ OwnL x H l m' S2 := by
  generalize hw : (Value.slice a n ver) = w at h
  cases h with
  | flat h t => subst hw; simp [flatV] at h
  | nils t => exact ⟨0, [], _, [], _, rfl, rfl, by cases hw; exact .nils .nil, t⟩
  | @emp r sp blk _ _ S h ho t => exact ⟨0, [], _, [r], S, rfl, rfl, by cases hw; exact .emp h ho .nil, t⟩
  | @slice r sp len blk cs _ _ S T h ho hl hx hn hc t => exact ⟨len, cs, _, r :: (S ++ []), T, rfl, by simp, by cases hw; exact .slice h ho hl hx hn hc .nil, t⟩
  | agg hx t => cases hw
  | tup hx t => cases hw
theorem OwnL.flatJ {m : List Value} (h : OwnL x H (v :: l) m S) (hv : flatV v = true) (hz : ∀ xs, v ≠ .tuple xs) : ∃ m', m = v :: m' ∧ OwnL x H l m' S := by
  cases h with
  | flat h t => exact ⟨_, rfl, t⟩
  | nils t => simp [flatV] at hv
  | emp h ho t => simp [flatV] at hv
  | slice h ho hl hx hn hc t => simp [flatV] at hv
  | agg hx t => simp [flatV] at hv
  | tup hx t => exact absurd rfl (hz _)
theorem OwnL.aggJ {xs : List Value} (h : OwnL x H [.agg xs.toArray] [y] S) : ∃ ys, y = .agg ys.toArray ∧ OwnL x H xs ys S := by
  generalize hw : (Value.agg xs.toArray) = w at h
  cases h with
  | flat h t => subst hw; simp [flatV] at h
  | nils t => cases hw
  | emp h ho t => cases hw
  | slice h ho hl hx hn hc t => cases hw
  | @agg zs ys S T _ _ hx t =>
    cases hw
    obtain ⟨_, rfl⟩ := OwnL.nilI t
    exact ⟨ys.toList, by simp, by simpa using hx⟩
  | tup hx t => cases hw
theorem OwnL.tupI {ys : List Value} (h : OwnL x H [d] [.tuple ys.toArray] S) (hne : ys ≠ [] := by simp) : ∃ xs, d = .tuple xs.toArray ∧ OwnL x H xs ys S := by
  generalize hw : (Value.tuple ys.toArray) = w at h
  cases h with
  | flat h t => subst hw; simp [flatV] at h; exact absurd h hne
  | nils t => cases hw
  | emp h ho t => cases hw
  | slice h ho hl hx hn hc t => cases hw
  | agg hx t => cases hw
  | @tup zs ys' S T _ _ hx t =>
    cases hw
    obtain ⟨_, rfl⟩ := OwnL.nilI t
    exact ⟨zs.toList, by simp, by simpa using hx⟩
/-- The first of two things handed back, where the second is flat. -/
theorem OwnL.untup1 {a b c e : Value} (h : OwnL x H [.tuple #[a, b]] [.tuple #[c, e]] S) (hb : flatV e = true := by rfl) : OwnL x H [a] [c] S := by
  obtain ⟨xs, e1, h1⟩ := OwnL.tupI (ys := [c, e]) h
  have : xs = [a, b] := by injection e1 with e1; simpa using congrArg Array.toList e1.symm
  subst this
  obtain ⟨d0, m, S1, S2, e2, rfl, h2, h3⟩ := OwnL.consI h1
  injection e2 with e2 e3
  subst e2 e3
  obtain ⟨m', e4, h4⟩ := OwnL.flatI h3 hb
  injection e4 with _ e5
  subst e5
  obtain ⟨_, rfl⟩ := OwnL.nilI h4
  simpa using h2
theorem OwnL.nilJ {m : List Value} (h : OwnL x H [] m S) : m = [] ∧ S = [] := by cases h; exact ⟨rfl, rfl⟩
theorem OwnL.unagg {xs ys : List Value} (h : OwnL x H [.agg xs.toArray] [.agg ys.toArray] S) : OwnL x H xs ys S := by
  obtain ⟨zs, e, hz⟩ := h.aggJ
  have : ys = zs := by injection e with e; simpa using e
  rw [this]
  exact hz
theorem NCalls.of {f : FuncId} {args : List Value} (h : ACalls P 0 f args [] fun d N => ∃ S, S.Nodup ∧ OwnL false N [d] [v] S) : NCalls P f args v := h
/-! ### marks -/
structure Mkd (P : Program) (g : FuncId) (H H' : AH) (d : Value) (S : List Nat) (k : Int) (n : Nat) : Prop where
  len : H.length ≤ H'.length
  old : ∀ r, r < H.length → r ∉ S → H'[r]? = H[r]?
  own : ∃ y, OwnL true H' [d] [y] S ∧ PCalls P g [y, .int .i64 k] (.int .i64 (k + (n : Nat)))
/-- THE CONTRACT of a function that writes marks, and of the one that reads them. -/
def MCalls (P : Program) (f g : FuncId) (v : Value) (n : Nat) : Prop := ∀ (H : AH) (d : Value) (S : List Nat) (k : Int), OwnL true H [d] [v] S → S.Nodup → 0 ≤ k → k + (n : Nat) ≤ 1000000000000000 →
  ACalls P 0 f [d, .int .i64 k] H fun e H' => e = .int .i64 (k + (n : Nat)) ∧ Mkd P g H H' d S k n
theorem MCalls.ofSl {xs : List α} {f g : FuncId} {mk : Int → Nat → List Value} (hmk : ∀ k n, (mk k n).length = n) (hfl : ∀ k n c, c ∈ mk k n → flatV c = true) (hfE : ∀ c ∈ E.flat xs, flatV c = true)
    (h0 : ∀ k, PCalls P f [islE E [], .int .i64 k] (.int .i64 k))
    (hb : ∀ (H : AH) (r ver el sz : Nat) (cs : List Value) (sp : Option Nat) (k : Int), H[r]? = some ⟨el, sz, cs, ver, true⟩ → cs.length = xs.length * E.sz → 0 ≤ k → k ≤ 1000000000000000 →
      ACalls P 0 f [.slice (some ⟨r, 0, sp⟩) xs.length ver, .int .i64 k] H fun d H' => d = .int .i64 (k + (xs.length * E.sz : Nat)) ∧ H' = H.set r ⟨el, sz, mk k (xs.length * E.sz), ver, true⟩)
    (hg : ∀ k, 0 ≤ k → k ≤ 1000000000000000 → PCalls P g [isl xs.length (mk k (xs.length * E.sz)), .int .i64 k] (.int .i64 (k + (xs.length * E.sz : Nat)))) : MCalls P f g (islE E xs) (xs.length * E.sz) := by
  intro H d S k ho hnd hk hk2
  have hg' := hg k hk (by omega)
  rcases ho.slI with ⟨rfl, rfl, rfl⟩ | ⟨r, sp, blk, rfl, hr, rfl, rfl, hx⟩ | ⟨r, sp, blk, S1, rfl, hr, hown, hl, hx, rfl, hc⟩
  · refine ACalls.ofP (h0 k) ho.bork rfl ⟨by simp, Nat.le_refl _, fun _ _ _ => rfl, islE E [], .nils .nil, ?_⟩
    have e : mk k (([] : List α).length * E.sz) = [] := List.eq_nil_of_length_eq_zero (by rw [hmk]; simp)
    rw [e] at hg'
    exact hg'
  · refine ACalls.ofP (h0 k) ho.bork rfl ⟨by simp, Nat.le_refl _, fun _ _ _ => rfl, islE E [], ho, ?_⟩
    have e : mk k (([] : List α).length * E.sz) = [] := List.eq_nil_of_length_eq_zero (by rw [hmk]; simp)
    rw [e] at hg'
    exact hg'
  · obtain ⟨rfl, hcs⟩ := hc.flatA hfE
    have hxl := hx rfl
    obtain ⟨el, sz, cs, ver, o⟩ := blk
    dsimp only at hown hl hxl hr hcs ⊢
    subst hown
    rw [E.flat_length] at hxl
    refine (hb H r ver el sz cs sp k hr hxl hk (by omega)).mono ?_
    rintro e H' ⟨rfl, rfl⟩
    refine ⟨rfl, by simp, fun q hq hqs => List.getElem?_set_ne (by simp at hqs; omega), isl xs.length (mk k (xs.length * E.sz)), ?_, hg'⟩
    have := OwnL.slice (x := true) (H := H.set r ⟨el, sz, mk k (xs.length * E.sz), ver, true⟩) (r := r) (sp := sp) (len := xs.length) (blk := ⟨el, sz, mk k (xs.length * E.sz), ver, true⟩) (cs := mk k (xs.length * E.sz)) (S := []) (T := []) (l := []) (l' := [])
      (List.getElem?_set_self (lt_of_some hr)) rfl (Nat.le_refl _) (fun _ => rfl) (fun h0 => List.eq_nil_of_length_eq_zero (by rw [hmk, h0]; simp)) (by rw [List.take_length]; exact .ofFlat (hfl k _)) .nil
    exact this

/-! ### what a walk keeps in hand: values of its own, boxes -/
structure Cx (H : AH) (os : List (Value × Value × List Nat)) (bs : List (Nat × Blk)) : Prop where
  own : ∀ o ∈ os, OwnL true H [o.1] [o.2.1] o.2.2
  nd : (os.flatMap (fun o => o.2.2) ++ bs.map (fun b => b.1)).Nodup
  box : ∀ b ∈ bs, H[b.1]? = some b.2
theorem Cx.nil : Cx H [] [] := ⟨by simp, by simp, by simp⟩
theorem Cx.ltO {os : List (Value × Value × List Nat)} {bs : List (Nat × Blk)} (h : Cx H os bs) : ∀ r ∈ os.flatMap (fun o => o.2.2) ++ bs.map (fun b => b.1), r < H.length := fun r hr => by
  rcases List.mem_append.1 hr with hr | hr
  · obtain ⟨o, ho, hr⟩ := List.mem_flatMap.1 hr
    exact (h.own o ho).lt r hr
  · obtain ⟨b, hb, rfl⟩ := List.mem_map.1 hr
    exact lt_of_some (h.box b hb)
theorem Cx.grow {os : List (Value × Value × List Nat)} {bs : List (Nat × Blk)} (h : Cx H os bs) (hold : ∀ r, r < H.length → H'[r]? = H[r]?) : Cx H' os bs :=
  ⟨fun o ho => (h.own o ho).frame fun r hr => hold r ((h.own o ho).lt r hr), h.nd, fun b hb => (hold _ (lt_of_some (h.box b hb))).trans (h.box b hb)⟩
theorem Cx.new {os : List (Value × Value × List Nat)} {bs : List (Nat × Blk)} (h : Cx H os bs) (hN : New H H' d v S) : Cx H' (os ++ [(d, v, S)]) bs := by
  have g := h.grow hN.old
  refine ⟨fun o ho => ?_, ?_, g.box⟩
  · rcases List.mem_append.1 ho with ho | ho
    · exact g.own o ho
    · rw [List.mem_singleton] at ho
      subst ho
      exact hN.own
  · obtain ⟨h1, h2, h3⟩ := List.nodup_append.1 h.nd
    have hl := h.ltO
    rw [List.flatMap_append, List.flatMap_singleton]
    refine List.nodup_append.2 ⟨List.nodup_append.2 ⟨h1, hN.nd, fun a ha b hb e => ?_⟩, h2, fun a ha b hb e => ?_⟩
    · have := hN.lo b hb
      have := hl a (List.mem_append_left _ ha)
      omega
    · rcases List.mem_append.1 ha with ha | ha
      · exact h3 a ha b hb e
      · have := hN.lo a ha
        have := hl b (List.mem_append_right _ hb)
        omega
theorem Cx.push {os : List (Value × Value × List Nat)} {bs : List (Nat × Blk)} (h : Cx H os bs) (b : Blk) : Cx (H ++ [b]) os ((H.length, b) :: bs) := by
  have g := h.grow (H' := H ++ [b]) fun r hr => List.getElem?_append_left hr
  refine ⟨g.own, ?_, fun c hc => ?_⟩
  · rw [List.map_cons]
    obtain ⟨h1, h2, h3⟩ := List.nodup_append.1 h.nd
    have hl : ∀ r ∈ os.flatMap (fun o => o.2.2) ++ bs.map (fun b => b.1), r < H.length := h.ltO
    refine List.nodup_append.2 ⟨h1, List.nodup_cons.2 ⟨fun hm => ?_, h2⟩, fun a ha c hc e => ?_⟩
    · exact Nat.lt_irrefl _ (hl _ (List.mem_append_right _ hm))
    · rcases List.mem_cons.1 hc with rfl | hc
      · have := hl _ (List.mem_append_left _ ha)
        dsimp only at e
        omega
      · exact h3 a ha c hc e
  · rcases List.mem_cons.1 hc with rfl | hc
    · simp
    · exact g.box c hc
theorem Cx.mark {os : List (Value × Value × List Nat)} {bs : List (Nat × Blk)} {g : FuncId} {k : Int} {n : Nat} (h : Cx H os bs) (i : Nat) (hi : os[i]? = some (d, v, S)) (hM : Mkd P g H H' d S k n) :
    ∃ y, PCalls P g [y, .int .i64 k] (.int .i64 (k + (n : Nat))) ∧ Cx H' (os.set i (d, y, S)) bs := by
  obtain ⟨y, hy, hg⟩ := hM.own
  obtain ⟨hlt, hget⟩ := List.getElem?_eq_some_iff.1 hi
  have hsp : os = os.take i ++ (d, v, S) :: os.drop (i + 1) := by rw [← hget]; simp
  have hse : os.set i (d, y, S) = os.take i ++ (d, y, S) :: os.drop (i + 1) := by rw [List.set_eq_take_append_cons_drop, if_pos hlt]
  have hfl : (os.set i (d, y, S)).flatMap (fun o => o.2.2) = os.flatMap (fun o => o.2.2) := by
    rw [hse]; conv => rhs; rw [hsp]
    simp
  have hnd := h.nd
  rw [hsp] at hnd
  simp only [List.flatMap_append, List.flatMap_cons, List.append_assoc] at hnd
  have hdis : ∀ o ∈ os.take i ++ os.drop (i + 1), ∀ r ∈ o.2.2, r ∉ S := fun o ho r hr hrS => by
    rw [List.nodup_append] at hnd
    obtain ⟨_, h2, h3⟩ := hnd
    rcases List.mem_append.1 ho with ho | ho
    · exact h3 r (List.mem_flatMap.2 ⟨o, ho, hr⟩) r (by simp [hrS]) rfl
    · rw [List.nodup_append] at h2
      exact h2.2.2 r hrS r (List.mem_append_left _ (List.mem_flatMap.2 ⟨o, ho, hr⟩)) rfl
  have hdisb : ∀ b ∈ bs, b.1 ∉ S := fun b hb hrS => by
    rw [List.nodup_append] at hnd
    obtain ⟨_, h2, _⟩ := hnd
    rw [List.nodup_append] at h2
    exact h2.2.2 b.1 hrS b.1 (List.mem_append_right _ (List.mem_map.2 ⟨b, hb, rfl⟩)) rfl
  have hold : ∀ o ∈ os, OwnL true H [o.1] [o.2.1] o.2.2 := h.own
  refine ⟨y, hg, ⟨fun o ho => ?_, ?_, fun b hb => (hM.old _ (lt_of_some (h.box b hb)) (hdisb b hb)).trans (h.box b hb)⟩⟩
  · rw [hse] at ho
    have : o = (d, y, S) ∨ o ∈ os.take i ++ os.drop (i + 1) := by
      rcases List.mem_append.1 ho with ho | ho
      · exact .inr (List.mem_append_left _ ho)
      · rcases List.mem_cons.1 ho with rfl | ho
        · exact .inl rfl
        · exact .inr (List.mem_append_right _ ho)
    rcases this with rfl | hm
    · exact hy
    · have ho' : o ∈ os := by
        rcases List.mem_append.1 hm with h | h
        · exact List.mem_of_mem_take h
        · exact List.mem_of_mem_drop h
      exact (hold o ho').frame fun r hr => hM.old r ((hold o ho').lt r hr) (hdis o hm r hr)
  · rw [hfl]; exact h.nd
theorem Cx.get {os : List (Value × Value × List Nat)} {bs : List (Nat × Blk)} (h : Cx H os bs) (i : Nat) (hi : os[i]? = some (d, v, S)) : OwnL true H [d] [v] S := h.own _ (List.mem_of_getElem? hi)
theorem Cx.getNd {os : List (Value × Value × List Nat)} {bs : List (Nat × Blk)} (h : Cx H os bs) (i : Nat) (hi : os[i]? = some (d, v, S)) : S.Nodup := by
  have hnd := (List.nodup_append.1 h.nd).1
  obtain ⟨hlt, hget⟩ := List.getElem?_eq_some_iff.1 hi
  have hsp : os = os.take i ++ (d, v, S) :: os.drop (i + 1) := by rw [← hget]; simp
  rw [hsp, List.flatMap_append, List.flatMap_cons] at hnd
  exact (List.nodup_append.1 (List.nodup_append.1 hnd).2.1).1
theorem Cx.setBox {os : List (Value × Value × List Nat)} {bs : List (Nat × Blk)} {r : Nat} {b : Blk} (h : Cx H os bs) (j : Nat) (hj : bs[j]? = some (r, b)) (b' : Blk) : Cx (H.set r b') os (bs.set j (r, b')) := by
  obtain ⟨h1, h2, h3⟩ := List.nodup_append.1 h.nd
  obtain ⟨hlt, hget⟩ := List.getElem?_eq_some_iff.1 hj
  have hrm : r ∈ bs.map (fun b => b.1) := List.mem_map.2 ⟨(r, b), List.mem_of_getElem? hj, rfl⟩
  have hm : (bs.set j (r, b')).map (fun b => b.1) = bs.map (fun b => b.1) := by
    rw [List.map_set]
    apply List.ext_getElem?
    intro i
    by_cases e : i = j
    · subst e
      rw [List.getElem?_set_self (by simpa using hlt), List.getElem?_map, hj]
      rfl
    · rw [List.getElem?_set_ne (Ne.symm e)]
  refine ⟨fun o ho => (h.own o ho).frame fun q hq => List.getElem?_set_ne fun e => h3 q (List.mem_flatMap.2 ⟨o, ho, hq⟩) r hrm e.symm, by rw [hm]; exact h.nd, fun c hc => ?_⟩
  obtain ⟨i, hi, rfl⟩ := List.getElem_of_mem hc
  by_cases e : i = j
  · subst e
    rw [List.getElem_set_self]
    exact List.getElem?_set_self (lt_of_some (h.box _ (List.mem_of_getElem? hj)))
  · have hi' : i < bs.length := by simpa using hi
    rw [List.getElem_set_ne (Ne.symm e)]
    have hne : bs[i].1 ≠ r := fun e2 => by
      rcases Nat.lt_trichotomy i j with h | h | h
      · exact List.pairwise_iff_getElem.1 h2 i j (by simpa using hi') (by simpa using hlt) h (by simp [e2, hget])
      · exact e h
      · exact List.pairwise_iff_getElem.1 h2 j i (by simpa using hlt) (by simpa using hi') h (by simp [e2, hget])
    rw [List.getElem?_set_ne (Ne.symm hne)]
    exact h.box _ (List.getElem_mem hi')
theorem New.more (h : New H H' d v S) : ∃ M, H' = H ++ M := pre_append rfl h.old h.len
theorem OwnL.app (h : OwnL x H l l' S) (M : AH) : OwnL x (H ++ M) l l' S := h.frame fun r hr => List.getElem?_append_left (h.lt r hr)
/-- Boxes ahead, and behind them what is owned. -/
def CxP (n : Nat) (M : AH) (os : List (Value × Value × List Nat)) : Prop := ∀ p : AH, p.length = n → Cx (p ++ M) os []
theorem CxP.nil (n : Nat) : CxP n [] [] := fun p _ => ⟨by simp, by simp, by simp⟩
theorem CxP.new {n : Nat} {M : AH} {os : List (Value × Value × List Nat)} (h : CxP n M os) (p : AH) (hp : p.length = n) (hN : New (p ++ M) H' d v S) : ∃ N, H' = p ++ (M ++ N) ∧ CxP n (M ++ N) (os ++ [(d, v, S)]) := by
  obtain ⟨N, rfl⟩ := hN.more
  have hc := (h p hp).new hN
  have hS : ∀ r ∈ S, n ≤ r := fun r hr => by have := hN.lo r hr; simp at this; omega
  refine ⟨N, by simp, fun q hq => ?_⟩
  have hq2 := h q hq
  have hfr : ∀ r, n ≤ r → (q ++ (M ++ N))[r]? = (p ++ M ++ N)[r]? := fun r hr => by
    rw [List.append_assoc p M N, List.getElem?_append_right (show q.length ≤ r by omega), List.getElem?_append_right (show p.length ≤ r by omega), hp, hq]
  refine ⟨fun o ho => ?_, hc.nd, by simp⟩
  rcases List.mem_append.1 ho with ho | ho
  · have := (hq2.own o ho).app N
    rwa [List.append_assoc] at this
  · rw [List.mem_singleton] at ho
    subst ho
    exact hN.own.frame fun r hr => hfr r (hS r hr)
theorem ACalls.absb {B : Nat} {f : FuncId} {args : List Value} {k : Value → AH → Prop} {os : List (Value × Value × List Nat)} {bs : List (Nat × Blk)} {b : Blk} (hc : Cx H os bs) (h : ∀ H', Cx H' os ((H.length, b) :: bs) → ACalls P B f args H' k) : ACalls P B f args (H ++ [b]) k := h _ (hc.push b)
def idxL : Nat → AH → List (Nat × Blk)
  | _, [] => []
  | n, b :: l => (n, b) :: idxL (n + 1) l
theorem idxL_mem : ∀ (L : AH) (n : Nat) (c : Nat × Blk), c ∈ idxL n L → n ≤ c.1 ∧ L[c.1 - n]? = some c.2
  | [], n, c, h => by simp [idxL] at h
  | b :: l, n, c, h => by
    rcases List.mem_cons.1 h with rfl | h
    · simp
    · obtain ⟨h1, h2⟩ := idxL_mem l (n + 1) c h
      refine ⟨by omega, ?_⟩
      rw [show c.1 - n = (c.1 - (n + 1)) + 1 by omega, List.getElem?_cons_succ]
      exact h2
theorem idxL_nd : ∀ (L : AH) (n : Nat), ((idxL n L).map fun b => b.1).Nodup
  | [], n => by simp [idxL]
  | b :: l, n => by
    simp only [idxL, List.map_cons]
    refine List.nodup_cons.2 ⟨fun hm => ?_, idxL_nd l (n + 1)⟩
    obtain ⟨c, hc, e⟩ := List.mem_map.1 hm
    have := (idxL_mem l (n + 1) c hc).1
    omega
theorem Cx.lit (L : AH) : Cx L [] (idxL 0 L) := ⟨by simp, by simpa using idxL_nd L 0, fun b hb => by have := (idxL_mem L 0 b hb).2; simpa using this⟩
theorem ACalls.absL {B : Nat} {f : FuncId} {args : List Value} {k : Value → AH → Prop} {L : AH} (h : ∀ H', Cx H' [] (idxL 0 L) → ACalls P B f args H' k) : ACalls P B f args L k := h _ (Cx.lit L)
theorem CxP.out {n : Nat} {M : AH} {os : List (Value × Value × List Nat)} (h : CxP n M os) (p : AH) (hp : p.length = n) (hQ : ∀ H, Cx H os [] → ∃ S : List Nat, S.Nodup ∧ OwnL false H [d] [v] S) : ∃ S : List Nat, S.Nodup ∧ OwnL false (p ++ M) [d] [v] S := hQ _ (h p hp)
theorem szI_le {n : Nat} {k : Int} (h : 0 ≤ k) : szI n k ≤ k := by unfold szI; split <;> omega
theorem szI_nn {n : Nat} {k : Int} (h : ¬ szI n k < 0) : 0 ≤ szI n k := by omega
theorem flatE_of (h : ∀ y, ∀ c ∈ cellsV (E.val y), flatV c = true) (ys : List α) : ∀ c ∈ E.flat ys, flatV c = true := fun c hc => by
  obtain ⟨y, _, hy⟩ := List.mem_flatMap.1 hc
  exact h y c hy
theorem marksC_flat (k : Int) (n : Nat) : ∀ c ∈ marksC k n, flatV c = true := fun c hc => by
  obtain ⟨j, _, rfl⟩ := List.mem_map.1 hc
  rfl
theorem marksS_flat (f : Int → ByteArray) (k : Int) (n : Nat) : ∀ c ∈ marksS f k n, flatV c = true := fun c hc => by
  obtain ⟨j, _, rfl⟩ := List.mem_map.1 hc
  rfl
theorem strE_flat (ys : List ByteArray) : ∀ c ∈ strE.flat ys, flatV c = true := flatE_of (fun y c hc => by simp [strE, cellsV] at hc; subst hc; rfl) ys
theorem Cx.bx {os : List (Value × Value × List Nat)} {bs : List (Nat × Blk)} {r : Nat} {b : Blk} (h : Cx H os bs) (i : Nat) (hi : bs[i]? = some (r, b)) : H[r]? = some b := h.box _ (List.mem_of_getElem? hi)
end
end Go.BM
