/- What the row's listed variables give to the library's contracts; the builder that keeps both the listed variables and the world's shape. -/
import Derived.Test.YtijdlejngdhpjaaDoorRows
import Derived.Test.YtijdlejngdhpjaaDoorPrsD
import Derived.Stop.LaidErr
import Derived.Lib.LaidTab
import Derived.LaidSub
import Derived.MakeChecks
import Derived.Shelf.Vars
import Derived.HandedShaped
namespace Go.Proofs.YtijdlejngdhpjaaDoor
open Go.ChangeShapes Go.WideShapes Go.ChangeAt Go.RowKit Go.Proofs
set_option linter.unusedVariables false

theorem Tryd.tTab : (Tryd.prog.globals[3]?).map (·.type) = some 120 := by kernel_rfl
theorem Tryd.tSyn : (Tryd.prog.globals[1]?).map (·.type) = some 69 := by kernel_rfl
theorem Tryd.tRng : (Tryd.prog.globals[2]?).map (·.type) = some 69 := by kernel_rfl
theorem Tryd.gDb : Tryd.prog.globalNamed "math/bits.deBruijn64tab" = some 7 := by kernel_rfl
theorem Tryd.cEs : Tryd.prog.cellsOf 133 = 1 := by kernel_rfl
theorem Tryd.cSt : Tryd.prog.cellsOf 9 = 1 := by kernel_rfl
theorem Tryd.cU : Tryd.prog.cellsOf 96 = 1 := by kernel_rfl
theorem Tryd.cTab : Tryd.prog.cellsOf 120 = 20 := by kernel_rfl
theorem Tryd.starE : "*" ++ "errors.errorString" = "*errors.errorString" := by decide
theorem Tryd.rowE (u : TypeId) (h : Tryd.prog.typeName? 3 u = some "*errors.errorString") : u = 131 :=
  typeName_ptr_named (nm := "errors.errorString") (by rw [Tryd.starE]; kernel_rfl) (by kernel_rfl) (by decide) u (by rw [Tryd.starE]; exact h)

theorem tab_data : (Rows.laid_internal_strconv_uint64pow10 : DataW Unit) = Lib.tabData .u64 Lib.pow10Tab := by kernel_rfl

theorem lt_of_var {P : Program} {w : World} {n : String} {g : Nat} {cs : Array Value} (hg : P.globalNamed n = some g) (h : w.var? P n = some cs) : g < w.heap.size := by
  unfold World.var? at h
  rw [hg, Option.bind_some] at h
  rcases Nat.lt_or_ge g w.heap.size with h1 | h1
  · exact h1
  · rw [Array.getElem?_eq_none h1] at h
    cases h

theorem lw_of_laid {W : World} (h : laidMetH Tryd.prog Rows.fnExactParseSquaresRow.laid W) (hsh : W.ShapedOpen Tryd.prog) : LW W := by
  rw [MakeChecks.laidMetH_plain _ _ _ (by kernel_rfl)] at h
  have hT : laidMet Tryd.prog [("internal/strconv.uint64pow10", Rows.laid_internal_strconv_uint64pow10)] W := laidMet.filter (fun x => x.1 == "internal/strconv.uint64pow10") h
  have hS : laidMet Tryd.prog [("strconv.ErrSyntax", Rows.laid_strconv_ErrSyntax)] W := laidMet.filter (fun x => x.1 == "strconv.ErrSyntax") h
  have hR : laidMet Tryd.prog [("strconv.ErrRange", Rows.laid_strconv_ErrRange)] W := laidMet.filter (fun x => x.1 == "strconv.ErrRange") h
  have hD : laidMet Tryd.prog [("math/bits.deBruijn64tab", Rows.laid_math_bits_deBruijn64tab)] W := laidMet.filter (fun x => x.1 == "math/bits.deBruijn64tab") h
  clear h
  rw [tab_data] at hT
  obtain ⟨a1, _, hv1, _⟩ := laid_sentinel hS Tryd.gSyn Tryd.tSyn Tryd.underlying69 Tryd.rowE Tryd.underlying131 Tryd.underlying133 rfl rfl Tryd.underlying9 Tryd.cEs Tryd.cSt
  obtain ⟨a2, _, hv2, _⟩ := laid_sentinel hR Tryd.gRng Tryd.tRng Tryd.underlying69 Tryd.rowE Tryd.underlying131 Tryd.underlying133 rfl rfl Tryd.underlying9 Tryd.cEs Tryd.cSt
  obtain ⟨_, ⟨g0, _, cs0, _, _, _, hg0, _, hv0, _⟩, _⟩ := hD
  obtain rfl := Option.some.inj (Tryd.gDb.symm.trans hg0)
  refine ⟨lt_of_var Tryd.gDb hv0, Lib.tabIs_of_head Tryd.gTab Tryd.tTab Tryd.underlying120 Tryd.underlying96 Tryd.cU Tryd.cTab hT, ⟨_, _, hv1⟩, ⟨_, _, hv2⟩, ?_⟩
  exact cell_of_shapedOpen_int (zero := #[.int .i64 0]) (t := 3) hsh (of_decide_eq_true (by kernel_rfl)) (by kernel_rfl) rfl (by kernel_rfl) (by kernel_rfl) Tryd.underlying3

/-- the kit's wrap of a row with listed variables, the world's shape kept -/
theorem handed_and_shaped {H : Type} {enc : TypeId × Value → H} {a : Assume} {C : Checked} {os : Os} {f : FuncId} {fn : Func} {s : ChangeSpec} {conds : List PathCond} {apart fresh handsOn again : Bool} {X : World → Array Value → Prop}
    (hX : ∀ (w w' : World) (args : Array Value), w.heap = w'.heap → X w args → X w' args)
    (own : ownKnob C.prog.godebug = none) (started : os.Started) (noInit : C.prog.inits.idxOf? f = none) (hfn : C.prog.funcs[f]? = some fn)
    (witness : ∃ (w : World) (tape : Tape) (i : Input), w.os = os ∧ (w.forCall tape i).Shaped C.prog ∧ i.vars = [] ∧ Input.okWide C.prog (w.forCall tape i) .any w.heap.size f i ∧
      ((s.pre enc C.prog fn conds apart (w.forCall tape i).memory i.args ∧ X (w.forCall tape i).memory i.args) ∧ sizedMet enc C.prog fn (OpenSpec.ofChange s) apart (w.forCall tape i).memory i.args) ∧ a.holds C.prog (lone (Frame.enter C.prog f i.args .normal) [] (w.forCall tape i)))
    (contract : ∀ (W : World) (base : Nat) (args : Array Value) (ds gs : List (DataW H)) (before : List MemPlace),
      (∀ (j : Nat) t v, fn.params[j]? = some t → args[j]? = some v → Value.okWide C.prog W .any base t v) →
      DataW.Whole enc C.prog fn.params.toList s.vars apart W args.toList ds gs before →
      X W args → W.ShapedOpen C.prog →
      Calls C.prog f args W fun e W' => ∃ v, e = .returned v ∧ s.post enc C.prog fn apart fresh handsOn again W args v W') :
    ReturnsInHanded a C os f .any (fun w args => (s.pre enc C.prog fn conds apart w args ∧ X w args) ∧ sizedMet enc C.prog fn (OpenSpec.ofChange s) apart w args) (s.post enc C.prog fn apart fresh handsOn again) := by
  refine returnsInHanded_of_calls own started noInit witness ?_
  intro w tape i _ hsh _ hok hpre hholds
  obtain ⟨_, _, _, fn', hfn', _, _, _, _, hval⟩ := hok
  have e : fn' = fn := Option.some.inj (hfn'.symm.trans hfn)
  subst e
  obtain ⟨⟨⟨ds, gs, before, hw, hc⟩, hx⟩, hz⟩ := hpre
  have hw' := DataW.Whole.of_heap (w' := w.forCall tape i) (by rfl) hw
  refine (contract (w.forCall tape i) w.heap.size i.args ds gs before hval hw' (hX _ _ _ (by rfl) hx) hsh).mono fun e W' ⟨v, he, hp⟩ => ?_
  subst he
  exact ChangeSpec.post_blind hp

end Go.Proofs.YtijdlejngdhpjaaDoor
