/- A struct's block beside a slice of slices: what is stored in the one leaves the other. -/
import Derived.Test.YtijdlejngdhpjaaDoorAppS
import Derived.Test.YtijdlejngdhpjaaDoorBlk
namespace Go.Proofs.YtijdlejngdhpjaaDoor
open Go.ChangeShapes Go.WideShapes Go.ChangeAt Go.RowKit
set_option linter.unusedVariables false

theorem blk_apart_row {w b t vs B e v n xs} (h : Blk w b t vs) (ho : w.ownsRow B e 1 v n xs) (hne : t ≠ e) : v.ownBlock ≠ some b := by
  intro hk
  rcases ho.2 with ⟨rfl, _⟩ | ⟨g, cap, cur, rfl, _, hg, _⟩
  · cases hk
  · have a1 : g = b := by simpa [Value.ownBlock] using hk
    subst a1
    have h2 : w.heap[g]? = some (.cells vs t (0, 0)) := h
    rw [hg] at h2
    injection h2 with h2
    injection h2 with _ ht
    exact hne ht.symm

theorem blk_apartS {w b t vs B A n c vs2 xss} (h : Blk w b t vs) (ho : OwnS w B A n c vs2 xss) (hne : t ≠ 38) : A.map (·.block) ≠ some b := by
  have := blk_apart_row h ho.1 hne
  rw [own_block] at this
  exact this

theorem blk_apartI {w b t vs B A n c xs} (h : Blk w b t vs) (ho : OwnI w B A n c xs) (hne : t ≠ 2) : A.map (·.block) ≠ some b := by
  have := blk_apart_row h ho.1 hne
  rw [own_block] at this
  exact this

theorem OwnS.setBox {w B A n c vs xss b t us} (h : OwnS w B A n c vs xss) (hb : Blk w b t us) (h1 : t ≠ 38) (h2 : t ≠ 2) (j : Nat) (u : Value) : OwnS (w.setCell ⟨b, j, none⟩ u) B A n c vs xss := by
  have hg := set_grown w ⟨b, j, none⟩ u
  refine ⟨h.1.kept hg ?_, h.2.1, fun i hi => (h.row hi).grown hg (fun a ha e => blk_apartI hb (h.row hi) h2 (by rw [ha]; exact e.symm)), h.2.2.2⟩
  rw [own_block]
  cases hA : A.map (·.block) with
  | none => exact .inl rfl
  | some k => exact .inr (fun e => blk_apartS hb h h1 (by rw [hA]; exact e))

end Go.Proofs.YtijdlejngdhpjaaDoor
