/- Boxes: a block known whole; what a step leaves of it. -/
import Derived.Test.YtijdlejngdhpjaaDoorKit
import Derived.OneCell
import Derived.Laws.Rows
namespace Go.Proofs.YtijdlejngdhpjaaDoor
open Go.ChangeShapes Go.WideShapes Go.ChangeAt Go.RowKit
set_option linter.unusedVariables false

/-- block b is a box of type t that holds vs -/
def Blk (w : World) (b : Nat) (t : TypeId) (vs : Array Value) : Prop := w.heap[b]? = some (.cells vs t (0, 0))

theorem Blk.cell {w b t vs} (h : Blk w b t vs) (j : Nat) {v : Value} (hv : vs[j]? = some v) : w.cell? ⟨b, j, none⟩ = some v := by
  have h' : w.heap[b]? = some (.cells vs t (0, 0)) := h
  simp [World.cell?, h', hv]

theorem Blk.free {w b t vs} (h : Blk w b t vs) (j : Nat) : w.frozen? ⟨b, j, none⟩ = false := by
  have h' : w.heap[b]? = some (.cells vs t (0, 0)) := h
  simp [World.frozen?, h']

theorem Blk.lt {w b t vs} (h : Blk w b t vs) : b < w.heap.size := lt_of_block h

theorem Blk.new (w : World) (vs : Array Value) (t : TypeId) : Blk (w.alloc (.cells vs t)) w.heap.size t vs := by
  first | exact heap_alloc_new w _ | exact World.heap_alloc_new w _ | exact Go.World.heap_alloc_new w _

theorem Blk.below {w w' b t vs} (h : Blk w b t vs) (hb : Below w.heap.size w w') : Blk w' b t vs := (hb.block b h.lt).trans h

theorem Blk.grown {w w' b t vs} {row : Option Nat} (h : Blk w b t vs) (hg : w.grownBy w' row) (hne : row ≠ some b) : Blk w' b t vs := (hg.block b h.lt (fun e => hne e.symm)).trans h

theorem Blk.grown_own {w w' b t vs B A n c xs} (h : Blk w b t vs) (ho : OwnI w B A n c xs) (hg : w.grownBy w' (A.map (·.block))) (hb : b < B) : Blk w' b t vs :=
  h.grown hg (fun e => by have := ho.row_ge e; omega)

theorem Blk.alloc {w b t vs} (h : Blk w b t vs) (o : Obj) : Blk (w.alloc o) b t vs := h.below (box_below w o)

theorem Blk.setFar {w b t vs} (h : Blk w b t vs) (p : Addr) (u : Value) (hp : p.block ≠ b) : Blk (w.setCell p u) b t vs :=
  h.grown (set_grown w p u) (fun e => hp (by injection e))

theorem Blk.set {w b t vs} (h : Blk w b t vs) (j : Nat) (u : Value) : Blk (w.setCell ⟨b, j, none⟩ u) b t (vs.setIfInBounds j u) := by
  first | exact World.heap_setCell_same w b j vs t u h | exact heap_setCell_same w b j vs t u h

theorem Blk.drewN {w b t vs} (h : Blk w b t vs) (k : Nat) : Blk (w.drewN k) b t vs := h

theorem OwnI.drew' {w B A n c xs} (h : OwnI w B A n c xs) : OwnI w.drew B A n c xs := h

theorem below_drew' {B : Nat} {a w : World} (h : Below B a w) : Below B a w.drew := ⟨h.os, h.tape, h.output, h.size, h.block⟩

end Go.Proofs.YtijdlejngdhpjaaDoor
