/- Arguments that came in, opened: a slice of slices of int64, a struct of one field, a struct of an int64 and a slice; each read as lists. -/
import Derived.Test.YtijdlejngdhpjaaDoorMemS
import Derived.Deep.Matrix
import Derived.Lib.SmallJoins
namespace Go.Proofs.YtijdlejngdhpjaaDoor
open Go.Joins Go.ChangeShapes Go.WideShapes Go.ChangeAt Go.RowKit Go.Deep
set_option linter.unusedVariables false

/-- a row of the argument's: it reads as a list -/
theorem RI.of_cells {w : World} {A : Option Addr} {L C : Nat} {Z : List Int} (h1 : L ≤ C) (h2 : C ≤ maxLen) (h3 : Z.length = C) (h4 : ∀ n ∈ Z, (Lit.int .i64 n).wf = true) (h5 : A = none → C = 0)
    (h6 : ∀ a', A = some a' → ∀ c, c < C → w.cell? (a'.add c) = some (.int .i64 (Z.getD c 0))) : RI w A L (Z.take L) := by
  cases A with
  | none =>
    have hC := h5 rfl
    have hL : L = 0 := by omega
    subst hL
    exact RI.nil
  | some a' =>
    exact RI.of_row (cap := C) (.inr ⟨a', rfl, h1, h2, h3, fun i hi => h6 a' rfl i (by omega), h4⟩)

theorem getD_range_map {α : Type} (n i : Nat) (f : Nat → α) (d : α) (h : i < n) : ((List.range n).map f).getD i d = f i := by simp [List.getD, h]

section
variable {H : Type} {enc : TypeId × Value → H} {w : World} {base : Nat} {held : Bool}

theorem open_SS {fuel : Nat} {cs : List Value} {x : DataW H × List MemPlace} (h : DataW.trod enc Tryd.prog w base (fun _ => true) held fuel 22 cs = some x) :
    ∃ A n c vs xss, cs = [.slice A n c] ∧ RS w A n vs xss := by
  rcases open_int_rows Tryd.underlying22 Tryd.underlying38 Tryd.underlying2 (by kernel_rfl) (by kernel_rfl) h with ⟨hcs, _⟩ | ⟨a, len, cap, A, L, C, Z, hcs, _, hl, hm, _, hr⟩
  · exact ⟨none, 0, 0, [], [], hcs, RS.nil⟩
  · refine ⟨some a, len, cap, (List.range len).map fun r => (A r, L r, C r), (List.range len).map fun r => (Z r).take (L r), hcs, by simp, by simp, by omega, fun hn => ?_, fun i hi => ?_⟩
    · obtain ⟨b, off, spot⟩ := a
      have h0 := (hr 0 (by omega)).1
      have hspot : spot = none := by simpa [Addr.add] using World.cell?_spot h0
      subst hspot
      refine ⟨b, off, rfl, ?_, fun i hi => ?_⟩
      · have := World.block_lt_of_cell? w _ h0
        simpa [Addr.add] using this
      · have h1 := (hr i (by omega)).1
        rw [getD_range_map len i _ _ hi, show sv (A i, L i, C i) = .slice (A i) (L i) (C i) from rfl, ← h1]
        congr 1
        unfold Addr.add
        split <;> simp_all
    · obtain ⟨_, r1, r2, r3, r4, r5, r6⟩ := hr i (by omega)
      rw [getD_range_map len i _ _ hi, getD_range_map len i _ _ hi]
      exact RI.of_cells r1 r2 r3 r4 r5 (fun a' ha c hc => (r6 a' ha).2 c hc)

theorem open_LL {fuel : Nat} {cs : List Value} {x : DataW H × List MemPlace} (h : DataW.trod enc Tryd.prog w base (fun _ => true) held fuel 38 cs = some x) :
    ∃ A n c xs, cs = [.slice A n c] ∧ RI w A n xs := by
  rcases open_ints Tryd.underlying38 Tryd.underlying2 (by kernel_rfl) h with ⟨hcs, _⟩ | ⟨x, l, c, zs, hcs, _, hl, hm, hz, _, hcell, hwz⟩
  · exact ⟨none, 0, 0, [], hcs, RI.nil⟩
  · exact ⟨some x, l, c, zs.take l, hcs, RI.of_row (cap := c) (.inr ⟨x, rfl, hl, hm, by simpa using hz, hcell, hwz⟩)⟩

theorem open_agg1 {P : Program} {spare : Nat → Bool} {r : Reach} {b0 : Nat} {t : TypeId} {f0 : Field} {v : Value} {d : DataW H} {p : List MemPlace} (hs : P.underlying t = some (.struct #[f0])) (hone : oneCellFields P #[f0] = true) (hC : P.cellsOf t = 1)
    (hv : Value.okWide P w r b0 t v) (h : DataW.Trod enc P w base spare held t v d p) :
    ∃ (v0 : Value) (y0 : DataW H × List MemPlace) (n : Nat), v = .agg #[v0] ∧ d = .agg [y0.1] ∧ p = y0.2 ∧ DataW.trod enc P w base spare held n f0.type [v0] = some y0 := by
  obtain ⟨cs, rfl, hsz⟩ := okWide_struct hs hv
  obtain ⟨l⟩ := cs
  match l, hsz.trans hC with
  | [c0], _ =>
    obtain ⟨fuel, hf⟩ := h
    obtain ⟨xs, n, _, hx, _, hlen, hg⟩ := DataW.trod_struct hs hf
    obtain ⟨o0, k0⟩ := hone_of hone 0 f0 rfl
    match xs, hlen with
    | [y0], _ =>
      simp only [Prod.mk.injEq] at hx
      exact ⟨c0, y0, n, rfl, by simpa using hx.1, by simpa using hx.2, by simpa [Value.cells, o0, k0] using hg 0 f0 rfl⟩

end

end Go.Proofs.YtijdlejngdhpjaaDoor
