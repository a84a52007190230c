/- What the row's condition gives on the library's variables; and the builder of a row that has both its condition and the world's shape. -/
import Derived.Test.YtboephigjgncaaaGreatDoorRows
import Derived.Test.YtboephigjgncaaaGreatDoorK1
import Derived.Test.YtboephigjgncaaaGreatDoorC19
import Derived.SizedLaws
import Derived.Handed
import Derived.LaidMore
import Derived.OpenShut
import Derived.Stop.LaidErr
import Derived.Shelf.Vars
import Derived.Lib.LaidTab
set_option linter.unusedVariables false
set_option maxRecDepth 100000
namespace Go
section
variable {H : Type} {enc : TypeId × Value → H}
theorem returnsInHanded_of_change_andS {a : Assume} {C : Checked} {os : Os} {f : FuncId} {fn : Func} {s : ChangeSpec} {conds : List PathCond} {apart fresh handsOn again : Bool} {X : World → Array Value → Prop}
    (hX : ∀ (w w' : World) (args : Array Value), w.heap = w'.heap → X w args → X w' args)
    (own : ownKnob C.prog.godebug = none) (started : os.Started) (noInit : C.prog.inits.idxOf? f = none) (hfn : C.prog.funcs[f]? = some fn)
    (witness : ∃ (w : World) (tape : Tape) (i : Input), w.os = os ∧ (w.forCall tape i).Shaped C.prog ∧ i.vars = [] ∧ Input.okWide C.prog (w.forCall tape i) .any w.heap.size f i ∧
      ((s.pre enc C.prog fn conds apart (w.forCall tape i).memory i.args ∧ X (w.forCall tape i).memory i.args) ∧ sizedMet enc C.prog fn (OpenSpec.ofChange s) apart (w.forCall tape i).memory i.args) ∧ a.holds C.prog (lone (Frame.enter C.prog f i.args .normal) [] (w.forCall tape i)))
    (contract : ∀ (W : World) (base : Nat) (args : Array Value) (ds gs : List (DataW H)) (before : List MemPlace),
      (∀ (j : Nat) t v, fn.params[j]? = some t → args[j]? = some v → Value.okWide C.prog W .any base t v) →
      DataW.Whole enc C.prog fn.params.toList s.vars apart W args.toList ds gs before →
      conds.all (PathCond.test C.prog ⟨fn.params.toList, ds, s.plain.varTypes C.prog, gs⟩) = true →
      (DataW.weightsEach C.prog (fn.params.toList ++ s.plain.varTypes C.prog) (ds ++ gs)).all (· ≤ reachBytes) = true → W.ShapedOpen C.prog → X W args →
      a.holds C.prog (lone (Frame.enter C.prog f args .normal) [] W) →
      Calls C.prog f args W fun e W' => ∃ v, e = .returned v ∧ s.post enc C.prog fn apart fresh handsOn again W args v W') :
    ReturnsInHanded a C os f .any (fun w args => (s.pre enc C.prog fn conds apart w args ∧ X w args) ∧ sizedMet enc C.prog fn (OpenSpec.ofChange s) apart w args) (s.post enc C.prog fn apart fresh handsOn again) := by
  refine returnsInHanded_of_calls own started noInit witness ?_
  intro w tape i _ hsh _ hok hpre hholds
  obtain ⟨_, _, _, fn', hfn', _, _, _, _, hval⟩ := hok
  have e : fn' = fn := Option.some.inj (hfn'.symm.trans hfn)
  subst e
  obtain ⟨⟨⟨ds, gs, before, hw, hc⟩, hx⟩, hz⟩ := hpre
  have hw' := DataW.Whole.of_heap (w' := w.forCall tape i) (by rfl) hw
  refine (contract (w.forCall tape i) w.heap.size i.args ds gs before hval hw' hc (hz.weights hw) hsh (hX _ _ _ (by rfl) hx) hholds).mono fun e W' ⟨v, he, hp⟩ => ?_
  subst he
  exact ChangeSpec.post_blind hp
end
theorem World.heap_of_var {P : Program} {w : World} {n : String} {g : Nat} {cs : Array Value} (hg : P.globalNamed n = some g) (h : w.var? P n = some cs) : ∃ ty mk, w.heap[g]? = some (.cells cs ty mk) := by
  simp only [World.var?, hg, Option.bind_some] at h
  split at h
  · rename_i cs' ty mk e
    cases h
    exact ⟨ty, mk, e⟩
  · cases h
end Go
namespace Go.BM
open Go.RowKit Go.Proofs Go.Proofs.YtboephigjgncaaaGreatDoor
theorem Tryz.gSynT : (Tryz.prog.globals[1]?).map (·.type) = some 138 := by kernel_rfl
theorem Tryz.gRngT : (Tryz.prog.globals[2]?).map (·.type) = some 138 := by kernel_rfl
theorem Tryz.gPowT : (Tryz.prog.globals[5]?).map (·.type) = some 208 := by kernel_rfl
theorem Tryz.star : "*" ++ "errors.errorString" = "*errors.errorString" := by decide
theorem Tryz.rowE (u : TypeId) (h : Tryz.prog.typeName? 3 u = some "*errors.errorString") : u = 204 :=
  typeName_ptr_named (nm := "errors.errorString") (by rw [Tryz.star]; kernel_rfl) (by kernel_rfl) (by decide) u (by rw [Tryz.star]; exact h)
theorem Tryz.maxCell {W : World} (h : W.ShapedOpen Tryz.prog) : ∃ m, W.cell? ⟨0, 0, none⟩ = some (.int .i64 m) :=
  cell_of_shapedOpen_int (t := 3) (zero := #[.int .i64 0]) h (of_decide_eq_true (by kernel_rfl)) (by kernel_rfl) rfl (by kernel_rfl) (by kernel_rfl) (by kernel_rfl)
theorem gi_of_list {W : World} {d0 d1 d3 d6 : DataW Unit} {n0 n1 n3 n6 : String} (hsh : W.ShapedOpen Tryz.prog)
    (hL : laidMet Tryz.prog [(n0, d0), (n1, d1), ("internal/strconv.uint64pow10", Rows.laid_internal_strconv_uint64pow10), (n3, d3), ("strconv.ErrRange", Rows.laid_strconv_ErrRange), ("strconv.ErrSyntax", Rows.laid_strconv_ErrSyntax), (n6, d6)] W) : GI (allM W).im W := by
  have t2 := hL.tail.tail
  have t4 := t2.tail.tail
  have t5 := t4.tail
  have hp : (Rows.laid_internal_strconv_uint64pow10 : DataW Unit) = Lib.tabData .u64 Lib.pow10Tab := by kernel_rfl
  rw [hp] at t2
  have v5 := Lib.tabIs_of_head (n := 20) (e := 173) (t := 208) Tryz.gPow Tryz.gPowT (by kernel_rfl) (by kernel_rfl) (by kernel_rfl) (by kernel_rfl) t2
  have hs9 : Tryz.prog.underlying 9 = some .string := by kernel_rfl
  have c206 : Tryz.prog.cellsOf 206 = 1 := by kernel_rfl
  have c9 : Tryz.prog.cellsOf 9 = 1 := by kernel_rfl
  have u204 : Tryz.prog.underlying 204 = some (.pointer 206) := by kernel_rfl
  obtain ⟨ms, u138⟩ : ∃ ms, Tryz.prog.underlying 138 = some (.interface ms) := by
    have hq : (match Tryz.prog.underlying 138 with | some (.interface _) => true | _ => false) = true := by kernel_rfl
    split at hq
    case h_2 => cases hq
    rename_i ms hms
    exact ⟨ms, hms⟩
  obtain ⟨f, u206, f1, f2⟩ : ∃ f : Field, Tryz.prog.underlying 206 = some (.struct #[f]) ∧ f.type = 9 ∧ f.offset = 0 := by
    have hq : (match Tryz.prog.underlying 206 with | some (.struct fs) => (match fs.toList with | [f] => decide (f.type = 9) && decide (f.offset = 0) | _ => false) | _ => false) = true := by kernel_rfl
    split at hq
    case h_2 => cases hq
    rename_i fs hfs
    split at hq
    case h_2 => cases hq
    rename_i f hf
    obtain ⟨x1, x2⟩ : f.type = 9 ∧ f.offset = 0 := by simpa using hq
    have hfs' : fs = #[f] := by rw [← Array.toList_inj, hf]
    exact ⟨f, by rw [hfs, hfs'], x1, x2⟩
  obtain ⟨a2, s2, v2, _⟩ := laid_sentinel t4 Tryz.gRng Tryz.gRngT u138 Tryz.rowE u204 u206 f1 f2 hs9 c206 c9
  obtain ⟨a1, s1, v1, _⟩ := laid_sentinel t5 Tryz.gSyn Tryz.gSynT u138 Tryz.rowE u204 u206 f1 f2 hs9 c206 c9
  obtain ⟨m, h0⟩ := Tryz.maxCell hsh
  have c1 : W.cell? ⟨1, 0, none⟩ = some (.iface 204 (.pointer (some a1))) := by simpa using World.var?_cell Tryz.gSyn v1 0
  have c2 : W.cell? ⟨2, 0, none⟩ = some (.iface 204 (.pointer (some a2))) := by simpa using World.var?_cell Tryz.gRng v2 0
  have hV : (Lib.pow10Tab.map fun z => Value.int .u64 z).toArray = pow10V := by kernel_rfl
  have v5' : W.var? Tryz.prog "internal/strconv.uint64pow10" = some pow10V := by rw [← hV]; exact v5
  have c5 : W.cell? ⟨5, 0, none⟩ = some (.int .u64 1) := by
    rw [World.var?_cell Tryz.gPow v5' 0]
    kernel_rfl
  exact ⟨⟨m, allM_im rfl h0 rfl⟩, ⟨_, _, allM_im rfl c1 rfl, World.heap_of_var Tryz.gSyn v1⟩, ⟨_, _, allM_im rfl c2 rfl, World.heap_of_var Tryz.gRng v2⟩, ⟨_, allM_im rfl c5 rfl, World.heap_of_var Tryz.gPow v5'⟩⟩
#print axioms gi_of_list
end Go.BM
