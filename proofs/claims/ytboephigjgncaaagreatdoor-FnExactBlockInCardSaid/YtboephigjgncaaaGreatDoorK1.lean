/- The library's functions, as contracts of the engine: Split, Join, FormatInt, and the reading of a number. -/
import Derived.Test.YtboephigjgncaaaGreatDoorSh
import Derived.Test.YtboephigjgncaaaGreatDoorC25
import Derived.Test.YtboephigjgncaaaGreatDoorC39
import Derived.Test.YtboephigjgncaaaGreatDoorFacts
import Derived.Lib.AppendIntMem
import Derived.Lib.AtoiErrMem
import Derived.WalkSmall
set_option linter.unusedVariables false
set_option linter.unusedSimpArgs false
set_option maxRecDepth 100000
namespace Go.BM
open Go.RowKit
theorem flat_vr {σ : Sg} {H : AH} {v d : Value} (h : VR σ H v d) (hd : flatV d = true) : v = d := by
  cases h with
  | flat => rfl
  | tuple xs ys hs h =>
    have h0 : ys.size = 0 := by simpa [flatV] using hd
    have h1 : xs.size = 0 := by omega
    rw [Array.eq_empty_of_size_eq_zero h0, Array.eq_empty_of_size_eq_zero h1]
  | _ => simp [flatV] at hd
theorem flat_vrl {σ : Sg} {H : AH} : ∀ {vs ds : List Value}, VRL σ H vs ds → (∀ d ∈ ds, flatV d = true) → vs = ds := fun {vs ds} h hd => by
  apply List.ext_getElem?
  intro j
  rcases Nat.lt_or_ge j ds.length with hj | hj
  · obtain ⟨x, hx, hv⟩ := h.2 j ds[j] (List.getElem?_eq_getElem hj)
    rw [hx, List.getElem?_eq_getElem hj, flat_vr hv (hd _ (List.getElem_mem hj))]
  · rw [List.getElem?_eq_none hj, List.getElem?_eq_none (by have := h.1; omega)]
/-- A contract over whole worlds, for values alone. -/
theorem PCalls.ofC {P : Program} {f : FuncId} {args : List Value} {v : Value} (hc : callable P f = true) (ha : ∀ d ∈ args, flatV d = true) (hv : flatV v = true)
    (h : ∀ (σ : Sg) (w : World), Sim σ [] w → Calls P f args.toArray w fun e w' => e = .returned v ∧ Below w.heap.size w w') : PCalls P f args v :=
  ⟨hc, fun σ w vals hS hB hvl => by
    have e : vals = args.toArray := by rw [← flat_vrl hvl ha]
    rw [e]
    exact (h σ w hS).mono fun e w' ⟨h1, h2⟩ => ⟨v, h1, σ, [], v, .of_below h2, hS.below h2, .flat _ hv, .same _ (.flat _ hv)⟩⟩
theorem Sim.var1 {P : Program} {σ : Sg} {H : AH} {w : World} (hS : Sim σ H w) (g : P.globalNamed "strconv.ErrSyntax" = some 1) : ∃ tp p, w.var? P "strconv.ErrSyntax" = some #[.iface tp p] := by
  obtain ⟨_, ⟨tp, p, _, ty, mk, h⟩, _⟩ := hS.glob
  exact ⟨tp, p, by unfold World.var?; rw [g]; simp only [Option.bind_some, h]⟩
theorem Sim.var2 {P : Program} {σ : Sg} {H : AH} {w : World} (hS : Sim σ H w) (g : P.globalNamed "strconv.ErrRange" = some 2) : ∃ tp p, w.var? P "strconv.ErrRange" = some #[.iface tp p] := by
  obtain ⟨_, _, ⟨tp, p, _, ty, mk, h⟩, _⟩ := hS.glob
  exact ⟨tp, p, by unfold World.var?; rw [g]; simp only [Option.bind_some, h]⟩
theorem Sim.tab {P : Program} {σ : Sg} {H : AH} {w : World} (hS : Sim σ H w) (g : P.globalNamed "internal/strconv.uint64pow10" = some 5) : Lib.TabIs P w "internal/strconv.uint64pow10" .u64 Lib.pow10Tab := by
  obtain ⟨_, _, _, ⟨u, _, ty, mk, h⟩⟩ := hS.glob
  unfold Lib.TabIs World.var?
  rw [g]
  simp only [Option.bind_some, h]
  unfold pow10V Lib.pow10Tab
  rw [List.map_map]
  rfl
theorem Sim.maxLen {σ : Sg} {H : AH} {w : World} (hS : Sim σ H w) : ∃ m : Int, w.cell? ⟨0, 0, none⟩ = some (.int .i64 m) := by
  obtain ⟨⟨m, h⟩, _⟩ := hS.glob
  exact ⟨m, (hS.im _ _ h).1⟩
end Go.BM
namespace Go.Proofs
open Go.RowKit Go.BM
theorem Tryz.gSyn : Tryz.prog.globalNamed "strconv.ErrSyntax" = some 1 := by kernel_rfl
theorem Tryz.gRng : Tryz.prog.globalNamed "strconv.ErrRange" = some 2 := by kernel_rfl
theorem Tryz.gPow : Tryz.prog.globalNamed "internal/strconv.uint64pow10" = some 5 := by kernel_rfl
theorem dec_calls (n : Int) (h0 : -9223372036854775808 ≤ n) (h1 : n ≤ 9223372036854775807) (w : World) (htab : Lib.TabIs Tryz.prog w "internal/strconv.uint64pow10" .u64 Lib.pow10Tab) :
    Calls Tryz.prog 93 #[.int .i64 n] w fun e w' => e = .returned (.string ⟨(Lib.itoa n).toArray⟩) ∧ Below w.heap.size w w' := by
  go_enter Tryz.func93, Tryz.ntmps93
  go_wp2_with (go_at_call 117; refine (Tryz.strconv_FormatInt_10 n h0 h1 _ htab).mono ?_; rintro e w' ⟨rfl, k, os, rfl⟩)
  go_ret
  exact ⟨rfl, Lib.below_grow _ _ (Nat.le_refl _) _ _⟩
/-- A number, read: -1 for none. -/
def numF (s : ByteArray) : Int := match Lib.parseIntB 64 s.data.toList with
  | .ok v => if s.size ≤ 10 ∧ Lib.itoa v = s.data.toList then v else -1
  | _ => -1
theorem number_calls (s : ByteArray) (hs : s.size ≤ 281474976710656) (w : World) (htab : ∀ w' : World, Below w.heap.size w w' → Lib.TabIs Tryz.prog w' "internal/strconv.uint64pow10" .u64 Lib.pow10Tab)
    (tp1 tp2 : TypeId) (p1 p2 : Value) (hv1 : w.var? Tryz.prog "strconv.ErrSyntax" = some #[.iface tp1 p1]) (hv2 : w.var? Tryz.prog "strconv.ErrRange" = some #[.iface tp2 p2]) :
    Calls Tryz.prog 74 #[.string s] w fun e w' => e = .returned (.int .i64 (numF s)) ∧ Below w.heap.size w w' := by
  unfold numF
  cases h : Lib.parseIntB 64 s.data.toList with
  | ok v =>
    dsimp only
    obtain ⟨R, hR⟩ : ∃ R : Int, R = if s.size ≤ 10 ∧ Lib.itoa v = s.data.toList then v else -1 := ⟨_, rfl⟩
    rw [← hR]
    have hvb := Lib.parseIntB_bounds h
    have hd := fun (w1 : World) (hw1 : Below w.heap.size w w1) => dec_calls v (by have := hvb.1; simp at this; omega) (by have := hvb.2; simp at this; omega) w1 (htab w1 hw1)
    go_enter Tryz.func74, Tryz.ntmps74
    go_wp2_with (first
      | (go_at_call 92; refine (Tryz.strconv_ParseInt_10_at64_ok s (by omega) v h _).mono ?_; rintro e w1 ⟨rfl, hw1⟩; have hb1 : Below w.heap.size w w1 := by (rcases hw1 with rfl | ⟨t, rfl⟩; exact .refl _ _; exact Lib.bytesWorld_below _ _ _))
      | (go_at_call 93; refine (hd _ (by assumption)).mono ?_; rintro e w2 ⟨rfl, hb2⟩))
    · go_ret
      rename_i h2
      refine ⟨?_, hb1.trans (hb2.mono hb1.size)⟩
      show Ending.returned (.int .i64 (-1)) = _
      rw [hR, if_neg (fun hc => ?_)]
      rw [Lib.toList_data, hc.2] at h2
      simp at h2
      omega
    · go_ret
      rename_i h2
      refine ⟨?_, hb1.trans (hb2.mono hb1.size)⟩
      show Ending.returned (.int .i64 v) = _
      obtain ⟨h3, h4⟩ := h2
      rw [Lib.toList_data] at h4
      rw [hR, if_pos ⟨by omega, by simpa using h4⟩]
    all_goals
      rename_i h2 h3
      go_ret
      refine ⟨?_, hb1⟩
      rfl
  | range =>
    go_enter Tryz.func74, Tryz.ntmps74
    go_wp2_with (go_at_call 92; refine (Tryz.strconv_ParseInt_10_at64_range_var s hs h tp2 p2 _ hv2).mono ?_; rintro e w' ⟨N, rfl, -, -, hb⟩)
    go_ret
    exact ⟨rfl, hb⟩
  | _ =>
    go_enter Tryz.func74, Tryz.ntmps74
    go_wp2_with (go_at_call 92; refine (Tryz.strconv_ParseInt_10_at64_syntax_var s hs (h.trans (by kernel_rfl)) tp1 p1 _ hv1).mono ?_; rintro e w' ⟨N, rfl, -, -, hb⟩)
    go_ret
    exact ⟨rfl, hb⟩
end Go.Proofs
namespace Go.BM
open Go.RowKit Go.Proofs
theorem lib_dec (n : Int) (h0 : -9223372036854775808 ≤ n) (h1 : n ≤ 9223372036854775807) : PCalls Tryz.prog 93 [.int .i64 n] (.string ⟨(Lib.itoa n).toArray⟩) :=
  PCalls.ofC (by kernel_rfl) (by simp [flatV]) rfl fun σ w hS => dec_calls n h0 h1 w (hS.tab Tryz.gPow)
theorem lib_number (s : ByteArray) (hs : s.size ≤ 281474976710656) : PCalls Tryz.prog 74 [.string s] (.int .i64 (numF s)) :=
  PCalls.ofC (by kernel_rfl) (by simp [flatV]) rfl fun σ w hS => by
    obtain ⟨tp1, p1, h1⟩ := hS.var1 Tryz.gSyn
    obtain ⟨tp2, p2, h2⟩ := hS.var2 Tryz.gRng
    exact number_calls s hs w (fun w' hb => (hS.below hb).tab Tryz.gPow) tp1 tp2 p1 p2 h1 h2
/-- The words of a text. -/
def splitW (s sep : ByteArray) : List ByteArray := Lib.splitB sep 0 (Lib.countB s sep) s
theorem splitW_len (s sep : ByteArray) (h1 : 1 ≤ sep.size) : (splitW s sep).length = Lib.countB s sep + 1 := Lib.splitB_all sep h1 0 _ s rfl
theorem strE_cells (xs : List ByteArray) : strE.flat xs = xs.map Value.string := by
  induction xs with
  | nil => rfl
  | cons x l ih => rw [List.map_cons, ← ih]; rfl
theorem lib_Split (s sep : ByteArray) (hs : s.size < 4294967281) (h1 : 1 ≤ sep.size) : NCalls Tryz.prog 73 [.string s, .string sep] (islE strE (splitW s sep)) :=
  ⟨by kernel_rfl, fun σ w vals hS hB hvl => by
    have e : vals = #[.string s, .string sep] := by rw [show vals = vals.toList.toArray by simp, flat_vrl hvl (by simp [flatV])]
    obtain ⟨m, hm⟩ := hS.maxLen
    have hlen := splitW_len s sep h1
    have hcl := Lib.countB_le sep h1 s.size s (Nat.le_refl _)
    rw [e]
    refine (Tryz.strings_Split s sep m w hs hm h1).mono fun e w' ⟨he, hw⟩ => ?_
    have hmx : Lib.countB s sep + 1 ≤ maxLen := by unfold maxLen; omega
    subst hw
    obtain ⟨σ', F, S, V⟩ := new_slice (B := 0) hS hB (.refl _ _) 9 1 (Lib.countB s sep + 1) (Lib.countB s sep + 1) ((splitW s sep).map Value.string) ((splitW s sep).map Value.string).toArray (by simp)
      (fun j v hj => ⟨v, by simpa using hj, by
        obtain ⟨x, _, rfl⟩ := List.mem_map.1 (List.mem_of_getElem? hj)
        exact ⟨.flat _ rfl, rfl⟩⟩) (Nat.le_refl _) hmx (by simp [hlen])
    refine ⟨_, he, σ', _, _, F, S, V, [0], by simp, ?_⟩
    rw [← hlen]
    exact OwnL.sl (E := strE) (ys := splitW s sep) (el := 9) (sz := 1) (o := true) (rest := []) (by simp [mkB, strE_cells]) (fun _ => rfl) rfl (strE_flat _) (fun e => by cases e)⟩
theorem lib_Join (xs : List ByteArray) (sep : ByteArray) (hN : xs.length ≤ 140737488355328) (hlen : (Lib.join (xs.map (·.data.toList)) sep.data.toList).length ≤ 140737488355328) :
    PCalls Tryz.prog 109 [islE strE xs, .string sep] (.string ⟨(Lib.join (xs.map (·.data.toList)) sep.data.toList).toArray⟩) :=
  ⟨by kernel_rfl, fun σ w vals hS hB hvl => by
    obtain ⟨v0, hv0, r0⟩ := hvl.2 0 _ rfl
    obtain ⟨v1, hv1, r1⟩ := hvl.2 1 _ rfl
    have e1 : v1 = .string sep := flat_vr r1 rfl
    have hl := hvl.1
    have e : vals = #[v0, .string sep] := by
      apply Array.ext'
      subst e1
      match hq : vals.toList, hl, hv0, hv1 with
      | [a, b], _, hv0, hv1 => simp at hv0 hv1; rw [hv0, hv1]
    rw [e]
    have fin : ∀ (v : Value), flatV v = true → ∀ w', Below w.heap.size w w' → ∃ v', Ending.returned v = .returned v' ∧ ∃ σ' H' d, Fut 0 σ [] w σ' H' w' ∧ Sim σ' H' w' ∧ VR σ' H' v' d ∧ Bor H' d v :=
      fun v hv w' hb => ⟨v, rfl, σ, [], v, .of_below hb, hS.below hb, .flat _ hv, .same _ (.flat _ hv)⟩
    have jn : ∀ a c, v0 = .slice a 0 c → xs = [] → Calls Tryz.prog 109 #[v0, .string sep] w fun e w' => ∃ v', e = .returned v' ∧ ∃ σ' H' d, Fut 0 σ [] w σ' H' w' ∧ Sim σ' H' w' ∧ VR σ' H' v' d ∧ Bor H' d (.string ⟨(Lib.join (xs.map (·.data.toList)) sep.data.toList).toArray⟩) := fun a c h1 h2 => by
      subst h1 h2
      refine (Tryz.strings_Join_none a c sep w).mono fun e w' ⟨he, hw⟩ => ?_
      subst he hw
      exact fin _ rfl _ (.refl _ _)
    rcases r0.aslice (asI_isl xs.length (strE.flat xs)) with ⟨h1, h2, a, cap, h3, h4⟩ | ⟨b, o, cap, us, h3, h4, h5, h6, h7, h8⟩
    · exact jn a cap h3 (List.eq_nil_of_length_eq_zero h1)
    · rcases Nat.eq_zero_or_pos xs.length with h0 | h0
      · rw [h0] at h3
        exact jn _ _ h3 (List.eq_nil_of_length_eq_zero h0)
      · subst h3
        rw [strE_cells] at h6 h8
        have hcell : ∀ (j : Nat) x, xs[j]? = some x → w.cell? ⟨b, o + j, none⟩ = some (.string x) := fun j x hx => by
          obtain ⟨u, hu, hv⟩ := h8 j (.string x) (by rw [List.getElem?_map, hx]; rfl)
          have := hv.str
          subst this
          exact (hS.im _ _ (h7 j _ hu)).1
        have hbk : b < w.heap.size := cell_lt (hcell 0 _ (List.getElem?_eq_getElem h0))
        refine (Tryz.strings_Join b o cap xs sep w hcell hbk hN h4 hlen).mono fun e w' ⟨he, hw⟩ => ?_
        subst he
        exact fin _ rfl _ hw⟩
end Go.BM
