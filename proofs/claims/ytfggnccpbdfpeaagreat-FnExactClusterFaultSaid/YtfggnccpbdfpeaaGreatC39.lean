/- The engine: texts C38, C39. -/
import Derived.Test.YtfggnccpbdfpeaaGreatC37
/- Drawn regions by what stands behind each operation: no order is told. -/
set_option linter.unusedVariables false
set_option linter.unusedSimpArgs false
namespace Go.BM
open Go.RowKit
def upL (L : Nat → Bool) (i : Nat) : Nat → Bool := fun q => if q = i then true else L q
theorem upL_self (L : Nat → Bool) (i : Nat) : upL L i i = true := by simp [upL]
theorem upL_ne (L : Nat → Bool) {i q : Nat} (h : q ≠ i) : upL L i q = L q := by simp [upL, h]
theorem cnt_lt {p p' : Nat → Bool} {i : Nat} (hle : ∀ x, p' x = true → p x = true) (hi : p i = true) (hi' : p' i = false) : ∀ l : List Nat, i ∈ l → l.countP p' + 1 ≤ l.countP p
  | x :: l, h => by
    have hm : l.countP p' ≤ l.countP p := List.countP_mono_left fun x _ => hle x
    rcases List.mem_cons.1 h with rfl | h
    · rw [List.countP_cons_of_neg (by simp [hi']), List.countP_cons_of_pos hi]; omega
    · have := cnt_lt hle hi hi' l h
      rw [List.countP_cons, List.countP_cons]
      by_cases hx : p' x = true
      · simp [hx, hle x hx]; omega
      · simp [hx]; split <;> omega
def acycB (ops : Array Oper) : Bool := (List.range ops.size).all fun i => match ops[i]? with | some o => o.after.all (fun e => !Region.binds .any e || decide (e.on < i)) | none => true
section
variable {P : Program} {B n : Nat} {σ0 : Sg} {H0 : AH} {w0 : World}
theorem mixI_sound {ops : Array Oper} (hops : ops.all (operOk n) = true) (hac : acycB ops = true) {I : (Nat → Bool) → Env → AH → Prop} {K : Env → AH → Prop}
    (hstep : ∀ L e H, I L e H → ∀ i o, ops[i]? = some o → L i = false → (∀ x ∈ o.after, Region.binds .any x = true → L x.on = true) → stepP P B ops i 2 (I (upL L i)) e H)
    (hend : ∀ L e H, I L e H → (∀ i, i < ops.size → L i = true) → K e H) : ∀ (fuel : Nat) (listed : Array Bool) (e : Env) (H : AH) (σ : Sg) (w : World) (a : Act),
      listed.size = ops.size → (List.range ops.size).countP (fun i => !listed.getD i true) ≤ fuel → Fut B σ0 H0 w0 σ H w → Sim σ H w → B ≤ H.length → ER n σ H a e → I (fun q => listed.getD q false) e H →
      wpAny P .any ops (RelN n B σ0 H0 w0 K) fuel listed a w := by
  have noReady : ∀ listed : Array Bool, listed.size = ops.size → Region.ready .any ops listed = [] → ∀ i, i < ops.size → listed.getD i false = true := fun listed hsz hr i => by
    induction i using Nat.strongRecOn with
    | _ i ih =>
      intro hi
      cases hl : listed.getD i false with
      | true => rfl
      | false =>
        exfalso
        have hl' : listed.getD i true = false := by
          have : i < listed.size := by omega
          simp [this] at hl ⊢; exact hl
        have hm : i ∈ Region.ready .any ops listed := mem_ready.2 ⟨hl', _, Array.getElem?_eq_getElem hi, fun x hx hb => by
          have h1 := List.all_eq_true.1 hac i (List.mem_range.2 hi)
          rw [Array.getElem?_eq_getElem hi] at h1
          dsimp only at h1
          have h2 := Array.all_eq_true'.1 h1 x hx
          rw [hb] at h2
          simp at h2
          exact ih x.on h2 (by omega)⟩
        rw [hr] at hm
        cases hm
  intro fuel
  induction fuel with
  | zero =>
    intro listed e H σ w a hsz hc F hS hB hE hI
    have hall : ∀ i, i < ops.size → listed.getD i true = true := fun i hi => by
      have h0 : (List.range ops.size).countP (fun i => !listed.getD i true) = 0 := by omega
      have := List.countP_eq_zero.1 h0 i (List.mem_range.2 hi)
      simpa using this
    have hr : Region.ready .any ops listed = [] := List.eq_nil_iff_forall_not_mem.2 fun i hi => by
      obtain ⟨h1, o, ho, _⟩ := mem_ready.1 hi
      rw [hall i (Array.getElem?_eq_some_iff.1 ho).1] at h1
      cases h1
    exact ⟨hr, ⟨σ, e, H, F, hS, hE, hend _ e H hI (noReady listed hsz hr)⟩⟩
  | succ fuel ih =>
    intro listed e H σ w a hsz hc F hS hB hE hI
    refine ⟨fun hr => ⟨σ, e, H, F, hS, hE, hend _ e H hI (noReady listed hsz hr)⟩, fun i hi => ?_⟩
    obtain ⟨h1, o, ho, hdep⟩ := mem_ready.1 hi
    have hi' : i < ops.size := (Array.getElem?_eq_some_iff.1 ho).1
    have hil : i < listed.size := by omega
    have h1f : listed.getD i false = false := by simp [hil] at h1 ⊢; exact h1
    have hst := hstep _ e H hI i o ho h1f hdep
    refine wpOp_mono (fun a' w' h => h.2) (eff_step (st := fun _ => false) hops (by omega) (.inr rfl) hS hB hE hst (W := fun a' w' => wpAny P .any ops (RelN n B σ0 H0 w0 K) fuel (listed.setIfInBounds i true) a' w') ?_)
    intro o' ho' hd v d w' σ' H' F' S' V' hI'
    refine ih _ _ H' σ' w' _ (by simp [hsz]) ?_ (F.trans F') S' (Nat.le_trans hB F'.len) ((hE.fut F').put hd V') ?_
    · have := cnt_lt (p := fun q => !listed.getD q true) (p' := fun q => !(listed.setIfInBounds i true).getD q true) (i := i) (fun x hx => by
        by_cases e : i = x
        · subst e; simp [hil] at hx
        · rw [getD_set_ne true e] at hx; exact hx) (by simpa using h1) (by simp [hil]) (List.range ops.size) (List.mem_range.2 hi')
      omega
    · have : (fun q => (listed.setIfInBounds i true).getD q false) = upL (fun q => listed.getD q false) i := funext fun q => by
        by_cases e : q = i
        · subst e; simp [upL, hil]
        · rw [upL_ne _ e, getD_set_ne false (Ne.symm e)]
      rw [this]
      exact hI'
end
def dstAt (ops : Array Oper) (i : Nat) : Option Tmp := (ops[i]?).bind (·.dst)
def dstsOf (ops : Array Oper) : List Nat := ops.toList.filterMap (·.dst)
/-- All that an operation waits for. -/
def depsF (ops : Array Oper) : Nat → Nat → List Nat
  | 0, _ => []
  | f + 1, i => match ops[i]? with
    | none => []
    | some o => (o.after.toList.filter (Region.binds .any)).flatMap fun x => x.on :: depsF ops f x.on
/-- kl: whose memory an operation takes over or writes; dl: whose facts it uses. -/
def factC (ops : Array Oper) (kl dl : List (List Nat)) : Bool :=
  acycB ops && decide ((dstsOf ops).Nodup) && (List.range ops.size).all (fun i => (dl.getD i []).all fun j => (depsF ops ops.size i).contains j && (List.range ops.size).all fun k => !(kl.getD k []).contains j || k == i || (depsF ops ops.size k).contains i) &&
    decide (kl.length ≤ ops.size) && (List.range ops.size).all (fun i => (kl.getD i []).all fun j => (dl.getD i []).contains j)
def allTo (G : Nat → Prop) : Nat → Prop
  | 0 => True
  | n + 1 => allTo G n ∧ G n
theorem allTo_at {G : Nat → Prop} : ∀ {n : Nat}, allTo G n → ∀ i, i < n → G i
  | 0, _, i, hi => by omega
  | n + 1, h, i, hi => by
    by_cases e : i = n
    · subst e; exact h.2
    · exact allTo_at h.1 i (by omega)
/-- What is in hand ahead of operation i. -/
structure SHyp (ops : Array Oper) (X : List Nat) (dl : List (List Nat)) (Base : (Nat → Bool) → AH → Prop) (Pf : Nat → Nat → Nat → Value → AH → Prop) (e0 : Env) (H0 : AH) (i : Nat) (L : Nat → Bool) (lo hi : Nat → Nat) (e : Env) (H : AH) : Prop where
  agree : Agree (dstsOf ops) e0 e
  base : Base L H
  nL : L i = false
  dL : ∀ j ∈ dl.getD i [], L j = true
  fact : ∀ j ∈ dl.getD i [], ∀ d, dstAt ops j = some d → Pf j (lo j) (hi j) (e d) H
  disj : ∀ j ∈ dl.getD i [], ∀ k ∈ dl.getD i [], j ≠ k → hi j ≤ lo k ∨ hi k ≤ lo j
  bnd : ∀ j ∈ dl.getD i [], H0.length ≤ lo j ∧ hi j ≤ H.length
  elder : ∀ q b, q ∉ X → H0[q]? = some b → H[q]? = some b
  len : H0.length ≤ H.length
/-- What must stand behind operation i. -/
structure KFact (X : List Nat) (kl : List (List Nat)) (Base : (Nat → Bool) → AH → Prop) (Pf : Nat → Nat → Nat → Value → AH → Prop) (i : Nat) (L : Nat → Bool) (lo hi : Nat → Nat) (e : Env) (H : AH) (d : Option Tmp) (e' : Env) (H' : AH) : Prop where
  ex : ∃ v l h, e' = put e d v ∧ Pf i l h v H' ∧ ((l = H.length ∧ h = H'.length) ∨ ∃ j ∈ kl.getD i [], l = lo j ∧ h = hi j)
  ext : ∀ q b, q ∉ X → (∀ j ∈ kl.getD i [], ¬ (lo j ≤ q ∧ q < hi j)) → H[q]? = some b → H'[q]? = some b
  base : Base (upL L i) H'
  len : H.length ≤ H'.length
/-- What is in hand behind all. -/
structure EHyp (ops : Array Oper) (X : List Nat) (kl : List (List Nat)) (Base : (Nat → Bool) → AH → Prop) (Pf : Nat → Nat → Nat → Value → AH → Prop) (e0 : Env) (H0 : AH) (lo hi : Nat → Nat) (e : Env) (H : AH) : Prop where
  agree : Agree (dstsOf ops) e0 e
  base : ∃ L : Nat → Bool, (∀ i, i < ops.size → L i = true) ∧ Base L H
  fact : ∀ j d, dstAt ops j = some d → (List.range ops.size).all (fun k => !(kl.getD k []).contains j) = true → Pf j (lo j) (hi j) (e d) H
  disj : ∀ j k, j < ops.size → k < ops.size → j ≠ k → (List.range ops.size).all (fun q => !(kl.getD q []).contains j && !(kl.getD q []).contains k) = true → hi j ≤ lo k ∨ hi k ≤ lo j
  bnd : ∀ j, j < ops.size → H0.length ≤ lo j ∧ hi j ≤ H.length
  elder : ∀ q b, q ∉ X → H0[q]? = some b → H[q]? = some b
  len : H0.length ≤ H.length
theorem nodup_dstL {d : Nat} : ∀ (l : List Oper), (l.filterMap (fun o => o.dst)).Nodup → ∀ {i j : Nat}, (l[i]?).bind (fun o : Oper => o.dst) = some d → (l[j]?).bind (fun o : Oper => o.dst) = some d → i = j
  | [], _, i, j, hi, hj => by simp at hi
  | o :: l, h, i, j, hi, hj => by
    have hmem : ∀ k : Nat, (l[k]?).bind (fun o : Oper => o.dst) = some d → d ∈ l.filterMap (fun o => o.dst) := fun k hk => by
      cases ho : l[k]? with
      | none => rw [ho] at hk; cases hk
      | some o' => rw [ho] at hk; exact List.mem_filterMap.2 ⟨o', List.mem_of_getElem? ho, hk⟩
    have hl : (l.filterMap (fun o => o.dst)).Nodup := by
      rw [List.filterMap_cons] at h
      split at h
      · exact h
      · exact (List.nodup_cons.1 h).2
    have hno : o.dst = some d → d ∉ l.filterMap (fun o => o.dst) := fun he => by
      rw [List.filterMap_cons, he] at h
      exact (List.nodup_cons.1 h).1
    cases i with
    | zero =>
      cases j with
      | zero => rfl
      | succ j => exact absurd (hmem j (by simpa using hj)) (hno (by simpa using hi))
    | succ i =>
      cases j with
      | zero => exact absurd (hmem i (by simpa using hi)) (hno (by simpa using hj))
      | succ j => rw [nodup_dstL l hl (i := i) (j := j) (by simpa using hi) (by simpa using hj)]
theorem nodup_dst {ops : Array Oper} (h : (dstsOf ops).Nodup) {i j d : Nat} (hi : dstAt ops i = some d) (hj : dstAt ops j = some d) : i = j := by
  unfold dstAt at hi hj
  unfold dstsOf at h
  rw [← Array.getElem?_toList] at hi hj
  exact nodup_dstL _ h hi hj
section
variable {P : Program} {B n : Nat}
structure IF (ops : Array Oper) (X : List Nat) (kl : List (List Nat)) (Base : (Nat → Bool) → AH → Prop) (Pf : Nat → Nat → Nat → Value → AH → Prop) (e0 : Env) (H0 : AH) (L : Nat → Bool) (lo hi : Nat → Nat) (e : Env) (H : AH) : Prop where
  agree : Agree (dstsOf ops) e0 e
  base : Base L H
  clos : ∀ j o, ops[j]? = some o → L j = true → ∀ x ∈ o.after, Region.binds .any x = true → L x.on = true
  fact : ∀ j d, L j = true → (∀ k, L k = true → j ∉ kl.getD k []) → dstAt ops j = some d → Pf j (lo j) (hi j) (e d) H
  disj : ∀ j k, L j = true → L k = true → (∀ q, L q = true → j ∉ kl.getD q []) → (∀ q, L q = true → k ∉ kl.getD q []) → j ≠ k → hi j ≤ lo k ∨ hi k ≤ lo j
  bnd : ∀ j, L j = true → H0.length ≤ lo j ∧ hi j ≤ H.length
  elder : ∀ q b, q ∉ X → H0[q]? = some b → H[q]? = some b
  len : H0.length ≤ H.length
theorem deps_listed {ops : Array Oper} {L : Nat → Bool} (hcl : ∀ j o, ops[j]? = some o → L j = true → ∀ x ∈ o.after, Region.binds .any x = true → L x.on = true) : ∀ (f i : Nat), (∀ o, ops[i]? = some o → ∀ x ∈ o.after, Region.binds .any x = true → L x.on = true) → ∀ j ∈ depsF ops f i, L j = true
  | 0, i, h, j, hj => by simp [depsF] at hj
  | f + 1, i, h, j, hj => by
    unfold depsF at hj
    cases ho : ops[i]? with
    | none => rw [ho] at hj; simp at hj
    | some o =>
      rw [ho] at hj
      dsimp only at hj
      obtain ⟨x, hx, hj⟩ := List.mem_flatMap.1 hj
      obtain ⟨hx1, hx2⟩ := List.mem_filter.1 hx
      have hLx := h o ho x (by simpa using hx1) hx2
      rcases List.mem_cons.1 hj with rfl | hj
      · exact hLx
      · exact deps_listed hcl f x.on (fun o' ho' y hy hb => hcl _ o' ho' hLx y hy hb) j hj
theorem AWp.mixedF {id : Nat} {ops : Array Oper} {e : Env} {H : AH} {Q : Exit → Env → AH → Prop} (X : List Nat) (kl dl : List (List Nat)) (Base : (Nat → Bool) → AH → Prop) (Pf : Nat → Nat → Nat → Value → AH → Prop) (N : Nat)
    (hm : P.follows .mixedOrders = true) (hN : (ops.size == N && factC ops kl dl) = true) (hX : ∀ q ∈ X, q < H.length)
    (hmono : ∀ i l h v H1 H2, (∀ q b, l ≤ q → q < h → H1[q]? = some b → H2[q]? = some b) → Pf i l h v H1 → Pf i l h v H2) (h0 : Base (fun _ => false) H)
    (hstep : allTo (fun i => ∀ L lo hi e' H', SHyp ops X dl Base Pf e H i L lo hi e' H' → stepP P B ops i 2 (KFact X kl Base Pf i L lo hi e' H' (dstAt ops i)) e' H') N)
    (hend : ∀ lo hi e' H', EHyp ops X kl Base Pf e H lo hi e' H' → Q .normal e' H') :
    AWp P n B (.region id ops true) Q e H := fun hok σ w a hS hB hE => by
  simp only [codeOk] at hok
  obtain ⟨hN, hc⟩ := Bool.and_eq_true_iff.1 hN
  have hN : ops.size = N := eq_of_beq hN
  simp only [factC, Bool.and_eq_true, decide_eq_true_eq] at hc
  obtain ⟨⟨⟨⟨hac, hnd⟩, hdl⟩, hkl⟩, hkd⟩ := hc
  have hdl' : ∀ i, i < ops.size → ∀ j ∈ dl.getD i [], j ∈ depsF ops ops.size i ∧ ∀ k, k < ops.size → j ∈ kl.getD k [] → k = i ∨ i ∈ depsF ops ops.size k := fun i hi j hj => by
    have h1 := List.all_eq_true.1 (List.all_eq_true.1 hdl i (List.mem_range.2 hi)) j hj
    rw [Bool.and_eq_true] at h1
    refine ⟨by simpa using h1.1, fun k hk hjk => ?_⟩
    have h2 := List.all_eq_true.1 h1.2 k (List.mem_range.2 hk)
    simp only [Bool.or_eq_true, Bool.not_eq_true', beq_iff_eq] at h2
    rcases h2 with (h2 | h2) | h2
    · rw [List.contains_eq_mem, decide_eq_false_iff_not] at h2; exact absurd hjk h2
    · exact .inl h2
    · exact .inr (by simpa using h2)
  have hkn : ∀ k, ops.size ≤ k → kl.getD k [] = [] := fun k hk => by
    rw [List.getD_eq_getElem?_getD, List.getElem?_eq_none (by omega)]; rfl
  have hb : Below w.heap.size w { w with drawn := w.drawn + 1 } := ⟨rfl, rfl, rfl, Nat.le_refl _, fun _ _ => rfl⟩
  let I : (Nat → Bool) → Env → AH → Prop := fun L e' H' => ∃ lo hi, IF ops X kl Base Pf e H L lo hi e' H'
  have := mixI_sound (P := P) (B := B) (σ0 := σ) (H0 := H) (w0 := w) hok hac (I := I) (K := Q .normal)
    (fun L e' H' ⟨lo, hi, hI⟩ i o ho hL hdep => by
      have hi' : i < ops.size := (Array.getElem?_eq_some_iff.1 ho).1
      have hdst : dstAt ops i = o.dst := by unfold dstAt; rw [ho]; rfl
      have hLd : ∀ j ∈ depsF ops ops.size i, L j = true := deps_listed hI.clos _ _ fun o' ho' => by rw [ho] at ho'; cases ho'; exact hdep
      have hal : ∀ j ∈ dl.getD i [], ∀ k, L k = true → j ∉ kl.getD k [] := fun j hj k hk hjk => by
        by_cases hks : k < ops.size
        · rcases (hdl' i hi' j hj).2 k hks hjk with h | h
          · rw [h, hL] at hk; cases hk
          · have := deps_listed hI.clos ops.size k (fun o' ho' x hx hb => hI.clos k o' ho' hk x hx hb) i h
            rw [hL] at this; cases this
        · rw [hkn k (by omega)] at hjk; cases hjk
      have hsh : SHyp ops X dl Base Pf e H i L lo hi e' H' := ⟨hI.agree, hI.base, hL, fun j hj => hLd j (hdl' i hi' j hj).1,
        fun j hj d hd => hI.fact j d (hLd j (hdl' i hi' j hj).1) (hal j hj) hd,
        fun j hj k hk hne => hI.disj j k (hLd j (hdl' i hi' j hj).1) (hLd k (hdl' i hi' k hk).1) (hal j hj) (hal k hk) hne,
        fun j hj => hI.bnd j (hLd j (hdl' i hi' j hj).1), hI.elder, hI.len⟩
      refine stepP_mono (fun e'' H'' hK => ?_) (allTo_at hstep i (by omega) L lo hi e' H' hsh)
      rw [hdst] at hK
      obtain ⟨v, l, h, he, hp, hlh⟩ := hK.ex
      let lo' : Nat → Nat := fun q => if q = i then l else lo q
      let hi'' : Nat → Nat := fun q => if q = i then h else hi q
      have hkin : ∀ j ∈ kl.getD i [], j ∈ dl.getD i [] := fun j hj => by
        have := List.all_eq_true.1 (List.all_eq_true.1 hkd i (List.mem_range.2 hi')) j hj
        simpa using this
      have hlist : ∀ {j}, upL L i j = true → j ≠ i → L j = true := fun hj hne => by rw [upL_ne _ hne] at hj; exact hj
      have halive : ∀ {j}, (∀ k, upL L i k = true → j ∉ kl.getD k []) → (∀ k, L k = true → j ∉ kl.getD k []) ∧ j ∉ kl.getD i [] := fun hj =>
        ⟨fun k hk => hj k (by by_cases e : k = i; · rw [e, upL_self]
                              · rw [upL_ne _ e]; exact hk), hj i (upL_self _ _)⟩
      have hsep : ∀ j, L j = true → j ≠ i → (∀ k, L k = true → j ∉ kl.getD k []) → j ∉ kl.getD i [] → h ≤ lo j ∨ hi j ≤ l := fun j hj hne hal1 hal2 => by
        rcases hlh with ⟨rfl, rfl⟩ | ⟨k, hk, rfl, rfl⟩
        · exact .inr (hI.bnd j hj).2
        · have hkd' := hkin k hk
          have := hI.disj j k hj (hLd k (hdl' i hi' k hkd').1) hal1 (hal k hkd') (fun e => hal2 (e ▸ hk))
          omega
      refine ⟨lo', hi'', ?_, hK.base, fun j o' ho' hj x hx hb => ?_, fun j d hj hal' hd => ?_, fun j k hj hk haj hak hne => ?_, fun j hj => ?_, fun q b hq hb => ?_, Nat.le_trans hI.len hK.len⟩
      · rw [he]
        cases hd : o.dst with
        | none => exact hI.agree
        | some t => exact hI.agree.put (by
            rw [List.contains_iff_mem]
            exact List.mem_filterMap.2 ⟨o, Array.mem_toList_iff.2 (Array.mem_of_getElem? ho), hd⟩) _
      · by_cases hji : j = i
        · subst hji
          rw [ho] at ho'; cases ho'
          have := hdep x hx hb
          by_cases e : x.on = j
          · rw [e, upL_self]
          · rw [upL_ne _ e]; exact this
        · have := hI.clos j o' ho' (hlist hj hji) x hx hb
          by_cases e : x.on = i
          · rw [e, upL_self]
          · rw [upL_ne _ e]; exact this
      · by_cases hji : j = i
        · subst hji
          have hd' : o.dst = some d := by rw [← hdst]; exact hd
          rw [he, hd']
          simp only [lo', hi'', if_true]
          simpa [put] using hp
        · obtain ⟨ha1, ha2⟩ := halive hal'
          have hLj := hlist hj hji
          have hne : e'' d = e' d := by
            rw [he]
            cases hd' : o.dst with
            | none => rfl
            | some t =>
              have : d ≠ t := fun h => hji (nodup_dst hnd hd (by rw [hdst, h]; exact hd'))
              simp [put, this]
          rw [hne]
          simp only [lo', hi'', if_neg hji]
          refine hmono j _ _ _ _ _ (fun q b h1 h2 h3 => hK.ext q b (fun hx => ?_) (fun k hk => ?_) h3) (hI.fact j d hLj ha1 hd)
          · have := hX q hx
            have := (hI.bnd j hLj).1
            omega
          · have hkd' := hkin k hk
            have := hI.disj j k hLj (hLd k (hdl' i hi' k hkd').1) ha1 (hal k hkd') (fun e => ha2 (e ▸ hk))
            omega
      · obtain ⟨ha1, ha2⟩ := halive haj
        obtain ⟨hb1, hb2⟩ := halive hak
        by_cases hji : j = i
        · subst hji
          have hki : k ≠ j := Ne.symm hne
          simp only [lo', hi'', if_true, if_neg hki]
          exact hsep k (hlist hk hki) hki hb1 hb2
        · by_cases hki : k = i
          · subst hki
            simp only [lo', hi'', if_true, if_neg hji]
            have := hsep j (hlist hj hji) hji ha1 ha2
            omega
          · simp only [lo', hi'', if_neg hji, if_neg hki]
            exact hI.disj j k (hlist hj hji) (hlist hk hki) ha1 hb1 hne
      · by_cases hji : j = i
        · subst hji
          simp only [lo', hi'', if_true]
          rcases hlh with ⟨rfl, rfl⟩ | ⟨k, hk, rfl, rfl⟩
          · exact ⟨hI.len, Nat.le_refl _⟩
          · have := hI.bnd k (hLd k (hdl' j hi' k (hkin k hk)).1)
            have := hK.len
            omega
        · simp only [lo', hi'', if_neg hji]
          have := hI.bnd j (hlist hj hji)
          have := hK.len
          omega
      · refine hK.ext q b hq (fun j hj => ?_) (hI.elder q b hq hb)
        have := (hI.bnd j (hLd j (hdl' i hi' j (hkin j hj)).1)).1
        have := lt_of_some hb
        omega)
    (fun L e' H' ⟨lo, hi, hI⟩ hall => hend lo hi e' H' ⟨hI.agree, ⟨L, hall, hI.base⟩, fun j d hd hk => hI.fact j d (hall j (by
        unfold dstAt at hd
        cases ho : ops[j]? with
        | none => rw [ho] at hd; cases hd
        | some o => exact (Array.getElem?_eq_some_iff.1 ho).1)) (fun k _ hjk => by
        by_cases hks : k < ops.size
        · have := List.all_eq_true.1 hk k (List.mem_range.2 hks)
          rw [Bool.not_eq_true', List.contains_eq_mem, decide_eq_false_iff_not] at this
          exact this hjk
        · rw [hkn k (by omega)] at hjk; cases hjk) hd,
      fun j k hj hk hne hal => by
        have h1 : ∀ q, j ∉ kl.getD q [] ∧ k ∉ kl.getD q [] := fun q => by
          by_cases hqs : q < ops.size
          · have := List.all_eq_true.1 hal q (List.mem_range.2 hqs)
            simp only [Bool.and_eq_true, Bool.not_eq_true', List.contains_eq_mem, decide_eq_false_iff_not] at this
            exact this
          · rw [hkn q (by omega)]; simp
        exact hI.disj j k (hall j hj) (hall k hk) (fun q _ => (h1 q).1) (fun q _ => (h1 q).2) hne,
      fun j hj => hI.bnd j (hall j hj), hI.elder, hI.len⟩)
    ops.size (Array.replicate ops.size false) e H σ { w with drawn := w.drawn + 1 } a (by simp) (Nat.le_trans List.countP_le_length (by simp)) (.of_below hb) (hS.below hb) hB hE
    (by
      have : (fun q => (Array.replicate ops.size false).getD q false) = fun _ => false := funext fun q => by
        by_cases h : q < ops.size <;> simp [Array.getD, h]
      rw [this]
      exact ⟨fun _ => 0, fun _ => 0, Agree.refl _ _, h0, fun j o _ hj => (by cases hj), fun j d hj => (by cases hj), fun j k hj => (by cases hj), fun j hj => (by cases hj), fun q b _ h => h, Nat.le_refl _⟩)
  refine wp_mono (wp_region_any hm this) fun ex a' w' hq => ?_
  cases ex with
  | normal => exact hq
  | _ => exact hq.elim
end
end Go.BM

/- Places that are read: fewer cells of them; sizes of slices of slices; nil arguments. -/
set_option linter.unusedVariables false
set_option linter.unusedSimpArgs false
namespace Go.BM
open Go.RowKit
theorem VR.ipTake {σ : Sg} {H : AH} {v : Value} {cs ds : List Value} (h : VR σ H v (BM.ip (cs ++ ds))) : VR σ H v (BM.ip cs) := by
  obtain ⟨b, o, us, rfl, hl, him, hv⟩ := h.aptr (asP_ip _)
  rw [List.length_append] at hl
  refine VR.mkP (us := us.take cs.length) (by rw [List.length_take]; omega) (fun j u hu => ?_) fun j u hu => ?_
  · have hj : j < cs.length := by
      have := lt_of_some'' hu
      rw [List.length_take] at this
      omega
    rw [List.getElem?_take_of_lt hj] at hu
    exact him j u hu
  · have hj : j < cs.length := lt_of_some'' hu
    obtain ⟨x, hx, hxv⟩ := hv j u (by rw [List.getElem?_append_left hj]; exact hu)
    exact ⟨x, by rw [List.getElem?_take_of_lt hj]; exact hx, hxv⟩
section
variable {P : Program} {B : Nat} {H : AH} {f : FuncId} {k : Value → AH → Prop}
theorem ACalls.weak {args args' : List Value} (h : ACalls P B f args' H k) (hw : ∀ (σ : Sg) vs, VRL σ H vs args → VRL σ H vs args') : ACalls P B f args H k :=
  ⟨h.1, fun σ w vals hS hB hvl => h.2 σ w vals hS hB (hw σ _ hvl)⟩
theorem VRL.set1 {σ : Sg} {vs pre post : List Value} {x y : Value} (h : VRL σ H vs (pre ++ x :: post)) (hx : ∀ v, VR σ H v x → VR σ H v y) : VRL σ H vs (pre ++ y :: post) := by
  refine ⟨by have := h.1; simpa using this, fun j u hu => ?_⟩
  by_cases e : j = pre.length
  · subst e
    rw [List.getElem?_append_right (Nat.le_refl _), Nat.sub_self] at hu
    cases hu
    obtain ⟨z, h1, h2⟩ := h.2 pre.length x (by simp)
    exact ⟨z, h1, hx z h2⟩
  · refine h.2 j u ?_
    by_cases hj : j < pre.length
    · rw [List.getElem?_append_left hj] at hu ⊢; exact hu
    · rw [List.getElem?_append_right (by omega)] at hu ⊢
      obtain ⟨m, hm⟩ : ∃ m, j - pre.length = m + 1 := ⟨j - pre.length - 1, by omega⟩
      rw [hm] at hu ⊢
      simpa using hu
theorem ACalls.more {pre post cs : List Value} (ds : List Value) (h : ACalls P B f (pre ++ ip cs :: post) H k) : ACalls P B f (pre ++ ip (cs ++ ds) :: post) H k := h.weak fun σ vs hv => hv.set1 fun v => VR.ipTake
theorem PCalls.more {post cs : List Value} {v : Value} (ds : List Value) (h : PCalls P f (ip cs :: post) v) : PCalls P f (ip (cs ++ ds) :: post) v := ACalls.more (pre := []) ds h
theorem PCalls.more2 {x : Value} {post cs : List Value} {v : Value} (ds : List Value) (h : PCalls P f (x :: ip cs :: post) v) : PCalls P f (x :: ip (cs ++ ds) :: post) v := ACalls.more (pre := [x]) ds h
/-- The nil slice serves where the empty list is wanted. -/
theorem VR.nilE {α : Type} {σ : Sg} {v : Value} {E : Enc α} (h : VR σ H v (.slice none 0 0)) : VR σ H v (islE E []) := by
  obtain ⟨a, rfl⟩ := h.sliceNil rfl
  have := VR.isl0 (σ := σ) (H := H) a 0 (Nat.zero_le _)
  simpa [islE, BM.isl, Enc.flat] using this
theorem ACalls.nil1 {α : Type} {E : Enc α} {pre post : List Value} (h : ACalls P B f (pre ++ islE E [] :: post) H k) : ACalls P B f (pre ++ .slice none 0 0 :: post) H k := h.weak fun σ vs hv => hv.set1 fun v => VR.nilE
end
/-- The size of a slice whose things have sizes. -/
def sumN {α : Type} (f : α → Nat) (xs : List α) : Nat := xs.length + (xs.map f).sum
theorem sumN_len {α : Type} (f : α → Nat) (xs : List α) : xs.length ≤ sumN f xs := Nat.le_add_right _ _
theorem sumN_at {α : Type} (f : α → Nat) {xs : List α} {x : α} (h : x ∈ xs) : f x ≤ sumN f xs := by
  have : f x ≤ (xs.map f).sum := by
    induction xs with
    | nil => cases h
    | cons y l ih =>
      rw [List.map_cons, List.sum_cons]
      rcases List.mem_cons.1 h with rfl | h
      · omega
      · have := ih h; omega
  unfold sumN
  omega
def szGo {α : Type} (f : α → Nat) : List α → Int → Int
  | [], k => k
  | x :: l, k => if szI (f x) k < 0 then -1 else szGo f l (szI (f x) k)
theorem szGo_eq {α : Type} (f : α → Nat) : ∀ (xs : List α) (k : Int), 0 ≤ k → szGo f xs k = szI (xs.map f).sum k
  | [], k, h => by simp [szGo, szI]; omega
  | x :: l, k, h => by
    unfold szGo
    rw [List.map_cons, List.sum_cons]
    split
    · rename_i h1
      unfold szI at h1 ⊢
      (repeat' split at h1) <;> (repeat' split) <;> omega
    · rename_i h1
      rw [szGo_eq f l _ (by omega)]
      unfold szI at h1 ⊢
      (repeat' split at h1) <;> (repeat' split) <;> omega
theorem szGo_step {α : Type} (f : α → Nat) (xs : List α) (j : Nat) (hj : j < xs.length) (k : Int) : szGo f (xs.drop j) k = if szI (f xs[j]) k < 0 then -1 else szGo f (xs.drop (j + 1)) (szI (f xs[j]) k) := by
  rw [List.drop_eq_getElem_cons hj]
  rfl
end Go.BM
