/- IsDual of the reference. -/
import Derived.Test.YtindhmgfadipnaaMil
namespace Go.Proofs.Ytindhmgfadipnaa
open Go.ChangeShapes Go.WideShapes Go.ChangeAt Go.RowKit
set_option linter.unusedVariables false

theorem spec_l06Is {A n c vs xss w} (h : RS w A n vs xss) :
    Calls Try.prog 119 #[.agg #[.slice A n c]] w fun e w' => e = .returned (.bool (pIsDual xss)) ∧ Below w.heap.size w w' := by
  have hb0 := box_below w (.cells #[.slice A n c] 76)
  have CON := Lib.hid (spec_l04Is (c := c) (h.below hb0))
  have HB0 := Lib.hid hb0
  clear h hb0
  go_enter Try.func119, Try.ntmps119
  go_wp2_with fail
  refine CON.out.mono ?_
  rintro e w1 ⟨rfl, hb⟩
  have HB := Lib.hid (HB0.out.trans (hb.mono HB0.out.size))
  clear hb
  go_wp2
  go_ret
  exact ⟨rfl, HB.out⟩

theorem spec_IsDual {A n c vs xss w} (h : RS w A n vs xss) (hn : n + tot xss ≤ 1048576) :
    Calls Try.prog 60 #[.agg #[.slice A n c]] w fun e w' => e = .returned (.bool (pIsDual xss)) ∧ Below w.heap.size w w' := by
  have hb0 := box_below w (.cells #[.slice A n c] 76)
  have CON := Lib.hid (spec_l06Is (c := c) (h.below hb0))
  have HB0 := Lib.hid hb0
  clear h hn hb0
  go_enter Try.func60, Try.ntmps60
  go_wp2_with fail
  refine CON.out.mono ?_
  rintro e w1 ⟨rfl, hb⟩
  have HB := Lib.hid (HB0.out.trans (hb.mono HB0.out.size))
  clear hb
  go_wp2
  go_ret
  exact ⟨rfl, HB.out⟩

end Go.Proofs.Ytindhmgfadipnaa
