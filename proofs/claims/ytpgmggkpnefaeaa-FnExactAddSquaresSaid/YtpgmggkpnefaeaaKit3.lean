/- A boxed result that a region leaves in one of several orders. -/
import Derived.Test.YtpgmggkpnefaeaaKit2
import Derived.Test.YtpgmggkpnefaeaaBlk
import Derived.Deep.RegionWith
import Derived.Deep.DeepCutAuto
namespace Go.Proofs.Ytpgmggkpnefaeaa
open Go.ChangeShapes Go.WideShapes Go.ChangeAt Go.RowKit
set_option linter.unusedVariables false

/-- behind the world W a box g was made that holds a number and a list's slice -/
structure BoxL (t : TypeId) (W wx : World) (g : Nat) (v0 : Value) (A : Option Addr) (n c : Nat) (xs : List Int) : Prop where
  lt : g < wx.heap.size
  ge : W.heap.size ≤ g
  blk : Blk wx g t #[v0, .slice A n c]
  own : OwnI wx W.heap.size A n c xs
  bel : Below W.heap.size W wx

structure BoxS (t : TypeId) (W wx : World) (g : Nat) (A : Option Addr) (n c : Nat) (vs : List Sl) (xss : List (List Int)) : Prop where
  lt : g < wx.heap.size
  ge : W.heap.size ≤ g
  blk : Blk wx g t #[.slice A n c]
  own : OwnS wx W.heap.size A n c vs xss
  bel : Below W.heap.size W wx

theorem BoxL.last {t W w v0 A n c xs} (hb : Below W.heap.size W w) (ho : OwnI w W.heap.size A n c xs) : BoxL t W (w.alloc (.cells #[v0, .slice A n c] t)) w.heap.size v0 A n c xs :=
  ⟨by simp, hb.size, Blk.new _ _ _, ho.alloc _, hb.trans ((box_below w _).mono hb.size)⟩

theorem BoxL.early {t W w q B2 A n c xs} {v0 u0 u1 : Value} (hk : Blk w q t #[u0, u1]) (hq : W.heap.size ≤ q) (hb : Below W.heap.size W w) (ho : OwnI w B2 A n c xs) (hq2 : q < B2) : BoxL t W ((w.setCell ⟨q, 0, none⟩ v0).setCell ⟨q, 1, none⟩ (.slice A n c)) q v0 A n c xs :=
  ⟨((hk.set 0 v0).set 1 (.slice A n c)).lt, hq, (hk.set 0 v0).set 1 (.slice A n c), ((ho.setFar ⟨q, 0, none⟩ v0 hq2).setFar ⟨q, 1, none⟩ (.slice A n c) hq2).mono (by omega), (hb.setCell (p := ⟨q, 0, none⟩) hq v0).setCell (p := ⟨q, 1, none⟩) hq (.slice A n c)⟩

theorem keep_alloc {w : World} {o : Obj} {q : Addr} {x : Value} (h : w.cell? q = some x) (hq : q.block < w.heap.size) : (w.alloc o).cell? q = some x := ((box_below w o).cell hq).trans h

theorem keep_set {w : World} {p q : Addr} {u x : Value} (h : w.cell? q = some x) (hq : q.block < p.block) : (w.setCell p u).cell? q = some x :=
  (((Below.refl p.block w).setCell (p := p) (Nat.le_refl _) u).cell hq).trans h

theorem OwnS.allocs {w B A n c vs xss} (h : OwnS w B A n c vs xss) (o : Obj) : OwnS (w.alloc o) B A n c vs xss := h.alloc o

theorem BoxS.last {t W w A n c vs xss} (hb : Below W.heap.size W w) (ho : OwnS w W.heap.size A n c vs xss) : BoxS t W (w.alloc (.cells #[.slice A n c] t)) w.heap.size A n c vs xss :=
  ⟨by simp, hb.size, Blk.new _ _ _, ho.alloc _, hb.trans ((box_below w _).mono hb.size)⟩

theorem BoxS.early {t W w q B2 A n c vs xss} {u1 : Value} (hk : Blk w q t #[u1]) (hq : W.heap.size ≤ q) (hb : Below W.heap.size W w) (ho : OwnS w B2 A n c vs xss) (hq2 : q < B2) : BoxS t W (w.setCell ⟨q, 0, none⟩ (.slice A n c)) q A n c vs xss :=
  ⟨(hk.set 0 (.slice A n c)).lt, hq, hk.set 0 (.slice A n c), (ho.setFar ⟨q, 0, none⟩ (.slice A n c) hq2).mono (by omega), hb.setCell (p := ⟨q, 0, none⟩) hq (.slice A n c)⟩

end Go.Proofs.Ytpgmggkpnefaeaa
