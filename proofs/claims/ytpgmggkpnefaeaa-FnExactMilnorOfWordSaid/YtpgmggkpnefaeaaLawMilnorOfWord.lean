/- The statement on FnExactMilnorOfWord: for every input the call returns true, and each argument reads behind the call as it read before. No condition. The frame is written by a program of this repo after the kit's shell. -/
import Derived.Test.YtpgmggkpnefaeaaMWord
import Derived.Test.YtpgmggkpnefaeaaKit2
import Derived.Test.YtpgmggkpnefaeaaFrm
import Derived.Test.YtpgmggkpnefaeaaRows
import Derived.WalkKit
import Derived.ProofKit
import Derived.OpenShut
import Derived.ShutString
import Derived.ChangeOld
import Derived.Below
import Derived.Lib.SmallJoins
import Derived.Deep.RegionHeld3
import Derived.Deep.RegionWith
namespace Go.Proofs.Ytpgmggkpnefaeaa.fnExactMilnorOfWord
open Go.Joins Go.ChangeShapes Go.WideShapes Go.ChangeAt Go.RowKit
open Go.ChangeMaps (open_string shut_string)
set_option linter.unusedVariables false

theorem own : ownKnob Try.prog.godebug = none := by kernel_rfl
theorem laidOut : laidOutB Try.prog = true := by kernel_rfl

set_option maxRecDepth 100000 in
set_option maxHeartbeats 2000000 in
theorem walk (A0 : Option Addr) (n0 c0 : Nat) (X0 : List Int) (w : World) (r0 : RI w A0 n0 X0) :
    Calls Try.prog 13 #[.slice A0 n0 c0] w fun e w' => e = .returned (.bool true) ∧ Below w.heap.size w w' := by
  have HR0 := Lib.hid r0
  have S0 := r0.small
  clear r0
  by_cases hn0 : n0 ≤ 1048576
  rotate_left
  · have hn02 : (1048576 : Int) < (n0 : Int) := by omega
    go_enter Try.func13, Try.ntmps13
    go_wp2
    go_ret
    exact ⟨rfl, Below.refl w.heap.size w⟩
  go_enter Try.func13, Try.ntmps13
  go_wp2_with fail
  refine (to_Int64S (HR0.out.below (Below.refl w.heap.size w)) (by omega)).mono ?_
  rintro e W1 ⟨Gu0, rfl, ho, hb⟩
  have HZ1 := Lib.hid hb.size
  have HB1 := Lib.hid ((Below.refl w.heap.size w).trans (hb.mono (Below.refl w.heap.size w).size))
  clear hb
  have HLu0_1 := Lib.hid ho
  clear ho
  have HTu0 := Lib.hid HLu0_1.out.ins
  go_wp2_with fail
  refine (spec_MilnorOfWord HLu0_1.out.reads (by omega)).mono ?_
  rintro e W2 ⟨AW, nW, cW, vW, rfl, ho, hb⟩
  have HZ2 := Lib.hid hb.size
  have HB2 := Lib.hid ((HB1.out).trans (hb.mono (HB1.out).size))
  have HLu0_2 := Lib.hid (HLu0_1.out.below hb)
  clear hb
  have HLW_2 := Lib.hid ho
  clear ho
  have HTW := Lib.hid HLW_2.out.ins
  have HRW := Lib.hid HLW_2.out.reads
  have hb := box_below W2 (.cells #[.slice AW nW cW] 31)
  have HXW_0_3 := Lib.hid (show (W2.alloc (.cells #[.slice AW nW cW] 31)).cell? ⟨W2.heap.size, 0, none⟩ = some (.slice AW nW cW) by rw [World.cell?_alloc_at _ _ _ _ rfl]; rfl)
  have HXSW_3 := Lib.hid (show W2.heap.size < (W2.alloc (.cells #[.slice AW nW cW] 31)).heap.size by simp)
  have HZ3 := Lib.hid hb.size
  have HB3 := Lib.hid ((HB2.out).trans (hb.mono (HB2.out).size))
  have HS3 := Lib.hid hb
  clear hb
  have cxW_0 := HXW_0_3.out
  go_wp2_with fail
  clear cxW_0
  generalize (W2.alloc (.cells #[.slice AW nW cW] 31)) = W3 at *
  refine (to_Int64S (HR0.out.below (HB3.out)) (by omega)).mono ?_
  rintro e W4 ⟨Gx0, rfl, ho, hb⟩
  have HZ4 := Lib.hid hb.size
  have HB4 := Lib.hid ((HB3.out).trans (hb.mono (HB3.out).size))
  have HS4 := Lib.hid (HS3.out.trans (hb.mono HS3.out.size))
  have HXW_0_4 := Lib.hid ((hb.cell (p := ⟨W2.heap.size, 0, none⟩) HXSW_3.out).trans HXW_0_3.out)
  have HXSW_4 := Lib.hid (Nat.lt_of_lt_of_le HXSW_3.out hb.size)
  clear hb
  have HLx0_4 := Lib.hid ho
  clear ho
  have HTx0 := Lib.hid HLx0_4.out.ins
  have cxW_0 := HXW_0_4.out
  go_wp2_with fail
  clear cxW_0
  refine (impl_MilnorOfWord HLx0_4.out.reads (by omega)).mono ?_
  rintro e W5 ⟨Ag, ng, cg, vg, rfl, ho, hb⟩
  have HZ5 := Lib.hid hb.size
  have HB5 := Lib.hid ((HB4.out).trans (hb.mono (HB4.out).size))
  have HS5 := Lib.hid (HS4.out.trans (hb.mono HS4.out.size))
  have HLx0_5 := Lib.hid (HLx0_4.out.below hb)
  have HXW_0_5 := Lib.hid ((hb.cell (p := ⟨W2.heap.size, 0, none⟩) HXSW_4.out).trans HXW_0_4.out)
  have HXSW_5 := Lib.hid (Nat.lt_of_lt_of_le HXSW_4.out hb.size)
  clear hb
  have HLg_5 := Lib.hid ho
  clear ho
  have HTg := Lib.hid HLg_5.out.ins
  obtain rfl : ng = nW := by rw [← HLg_5.out.len, HRW.out.len]
  have hb := box_below W5 (.cells #[.slice Ag ng cg] 31)
  have HXg_0_6 := Lib.hid (show (W5.alloc (.cells #[.slice Ag ng cg] 31)).cell? ⟨W5.heap.size, 0, none⟩ = some (.slice Ag ng cg) by rw [World.cell?_alloc_at _ _ _ _ rfl]; rfl)
  have HXSg_6 := Lib.hid (show W5.heap.size < (W5.alloc (.cells #[.slice Ag ng cg] 31)).heap.size by simp)
  have HZ6 := Lib.hid hb.size
  have HB6 := Lib.hid ((HB5.out).trans (hb.mono (HB5.out).size))
  have HS6 := Lib.hid (HS5.out.trans (hb.mono HS5.out.size))
  have HLx0_6 := Lib.hid (HLx0_5.out.below hb)
  have HLg_6 := Lib.hid (HLg_5.out.below hb)
  have HXW_0_6 := Lib.hid ((hb.cell (p := ⟨W2.heap.size, 0, none⟩) HXSW_5.out).trans HXW_0_5.out)
  have HXSW_6 := Lib.hid (Nat.lt_of_lt_of_le HXSW_5.out hb.size)
  clear hb
  have cxW_0 := HXW_0_6.out
  have cxg_0 := HXg_0_6.out
  go_wp2_with fail
  clear cxW_0 cxg_0
  generalize (W5.alloc (.cells #[.slice Ag ng cg] 31)) = W6 at *
  refine (eq_Milnor HLg_6.out.reads (HRW.out.below HS6.out)).mono ?_
  rintro e W7 ⟨rfl, hb⟩
  have HZ7 := Lib.hid hb.size
  have HB7 := Lib.hid ((HB6.out).trans (hb.mono (HB6.out).size))
  have HS7 := Lib.hid (HS6.out.trans (hb.mono HS6.out.size))
  have HLx0_7 := Lib.hid (HLx0_6.out.below hb)
  have HLg_7 := Lib.hid (HLg_6.out.below hb)
  have HXW_0_7 := Lib.hid ((hb.cell (p := ⟨W2.heap.size, 0, none⟩) HXSW_6.out).trans HXW_0_6.out)
  have HXSW_7 := Lib.hid (Nat.lt_of_lt_of_le HXSW_6.out hb.size)
  have HXg_0_7 := Lib.hid ((hb.cell (p := ⟨W5.heap.size, 0, none⟩) HXSg_6.out).trans HXg_0_6.out)
  have HXSg_7 := Lib.hid (Nat.lt_of_lt_of_le HXSg_6.out hb.size)
  clear hb
  have cxW_0 := HXW_0_7.out
  have cxg_0 := HXg_0_7.out
  go_wp2_with fail
  clear cxW_0 cxg_0
  refine (to_Int64S (HR0.out.below (HB7.out)) (by omega)).mono ?_
  rintro e W8 ⟨Gy0, rfl, ho, hb⟩
  have HZ8 := Lib.hid hb.size
  have HB8 := Lib.hid ((HB7.out).trans (hb.mono (HB7.out).size))
  have HS8 := Lib.hid (HS7.out.trans (hb.mono HS7.out.size))
  have HLx0_8 := Lib.hid (HLx0_7.out.below hb)
  have HLg_8 := Lib.hid (HLg_7.out.below hb)
  have HXW_0_8 := Lib.hid ((hb.cell (p := ⟨W2.heap.size, 0, none⟩) HXSW_7.out).trans HXW_0_7.out)
  have HXSW_8 := Lib.hid (Nat.lt_of_lt_of_le HXSW_7.out hb.size)
  have HXg_0_8 := Lib.hid ((hb.cell (p := ⟨W5.heap.size, 0, none⟩) HXSg_7.out).trans HXg_0_7.out)
  have HXSg_8 := Lib.hid (Nat.lt_of_lt_of_le HXSg_7.out hb.size)
  clear hb
  have HLy0_8 := Lib.hid ho
  clear ho
  have HTy0 := Lib.hid HLy0_8.out.ins
  have cxW_0 := HXW_0_8.out
  have cxg_0 := HXg_0_8.out
  go_wp2_with fail
  clear cxW_0 cxg_0
  refine (eq_Int64S HLx0_8.out.reads HLy0_8.out.reads).mono ?_
  rintro e W9 ⟨rfl, hb⟩
  have HZ9 := Lib.hid hb.size
  have HB9 := Lib.hid ((HB8.out).trans (hb.mono (HB8.out).size))
  have HS9 := Lib.hid (HS8.out.trans (hb.mono HS8.out.size))
  have HLx0_9 := Lib.hid (HLx0_8.out.below hb)
  have HLg_9 := Lib.hid (HLg_8.out.below hb)
  have HLy0_9 := Lib.hid (HLy0_8.out.below hb)
  have HXW_0_9 := Lib.hid ((hb.cell (p := ⟨W2.heap.size, 0, none⟩) HXSW_8.out).trans HXW_0_8.out)
  have HXSW_9 := Lib.hid (Nat.lt_of_lt_of_le HXSW_8.out hb.size)
  have HXg_0_9 := Lib.hid ((hb.cell (p := ⟨W5.heap.size, 0, none⟩) HXSg_8.out).trans HXg_0_8.out)
  have HXSg_9 := Lib.hid (Nat.lt_of_lt_of_le HXSg_8.out hb.size)
  clear hb
  have cxW_0 := HXW_0_9.out
  have cxg_0 := HXg_0_9.out
  go_wp2_with fail
  clear cxW_0 cxg_0
  refine (mark_Int64S HLx0_9.out HTx0.out (by omega) (by omega)).mono ?_
  rintro e W10 ⟨rfl, ho, hb⟩
  have HXW_0_10 := Lib.hid ((Mid.cell hb (p := ⟨W2.heap.size, 0, none⟩) HXSW_9.out (by show W2.heap.size < W3.heap.size ∨ W4.heap.size ≤ W2.heap.size; have q1 := HZ1.out; have q2 := HZ2.out; have q3 := HZ3.out; have q4 := HZ4.out; have q5 := HZ5.out; have q6 := HZ6.out; have q7 := HZ7.out; have q8 := HZ8.out; have q9 := HZ9.out; have r0 := HXSW_3.out; have r1 := HXSg_6.out; omega)).trans HXW_0_9.out)
  have HXSW_10 := Lib.hid (Nat.lt_of_lt_of_le HXSW_9.out hb.size)
  have HXg_0_10 := Lib.hid ((Mid.cell hb (p := ⟨W5.heap.size, 0, none⟩) HXSg_9.out (by show W5.heap.size < W3.heap.size ∨ W4.heap.size ≤ W5.heap.size; have q1 := HZ1.out; have q2 := HZ2.out; have q3 := HZ3.out; have q4 := HZ4.out; have q5 := HZ5.out; have q6 := HZ6.out; have q7 := HZ7.out; have q8 := HZ8.out; have q9 := HZ9.out; have r0 := HXSW_3.out; have r1 := HXSg_6.out; omega)).trans HXg_0_9.out)
  have HXSg_10 := Lib.hid (Nat.lt_of_lt_of_le HXSg_9.out hb.size)
  have HZ10 := Lib.hid hb.size
  have HB10 := Lib.hid (Mid.below (HB9.out) hb (by have q1 := HZ1.out; have q2 := HZ2.out; have q3 := HZ3.out; omega) (by have q1 := HZ1.out; have q2 := HZ2.out; have q3 := HZ3.out; have q4 := HZ4.out; have q5 := HZ5.out; have q6 := HZ6.out; have q7 := HZ7.out; have q8 := HZ8.out; have q9 := HZ9.out; omega))
  have HS10 := Lib.hid (Mid.below HS9.out hb (by have q3 := HZ3.out; omega) (by have q3 := HZ3.out; have q4 := HZ4.out; have q5 := HZ5.out; have q6 := HZ6.out; have q7 := HZ7.out; have q8 := HZ8.out; have q9 := HZ9.out; omega))
  have HLg_10 := Lib.hid (HLg_9.out.mid hb (Nat.le_refl _))
  have HLx0_10 := Lib.hid ho
  clear ho hb
  have cxW_0 := HXW_0_10.out
  have cxg_0 := HXg_0_10.out
  go_wp2_with fail
  clear cxW_0 cxg_0
  refine (eq_Milnor HLg_10.out.reads (HRW.out.below HS10.out)).mono ?_
  rintro e W11 ⟨rfl, hb⟩
  have HZ11 := Lib.hid hb.size
  have HB11 := Lib.hid ((HB10.out).trans (hb.mono (HB10.out).size))
  have HS11 := Lib.hid (HS10.out.trans (hb.mono HS10.out.size))
  have HLg_11 := Lib.hid (HLg_10.out.below hb)
  have HXW_0_11 := Lib.hid ((hb.cell (p := ⟨W2.heap.size, 0, none⟩) HXSW_10.out).trans HXW_0_10.out)
  have HXSW_11 := Lib.hid (Nat.lt_of_lt_of_le HXSW_10.out hb.size)
  have HXg_0_11 := Lib.hid ((hb.cell (p := ⟨W5.heap.size, 0, none⟩) HXSg_10.out).trans HXg_0_10.out)
  have HXSg_11 := Lib.hid (Nat.lt_of_lt_of_le HXSg_10.out hb.size)
  clear hb
  have NG := pMilnorOfWord_sz X0 (by have h0 := HR0.out.len; omega)
  have cxW_0 := HXW_0_11.out
  have cxg_0 := HXg_0_11.out
  go_wp2_with fail
  clear cxW_0 cxg_0
  refine (mark_Milnor HLg_11.out HTg.out (by omega) (by omega)).mono ?_
  rintro e W12 ⟨rfl, ho, hb⟩
  have HXW_0_12 := Lib.hid ((Mid.cell hb (p := ⟨W2.heap.size, 0, none⟩) HXSW_11.out (by show W2.heap.size < W4.heap.size ∨ W5.heap.size ≤ W2.heap.size; have q1 := HZ1.out; have q2 := HZ2.out; have q3 := HZ3.out; have q4 := HZ4.out; have q5 := HZ5.out; have q6 := HZ6.out; have q7 := HZ7.out; have q8 := HZ8.out; have q9 := HZ9.out; have q10 := HZ10.out; have q11 := HZ11.out; have r0 := HXSW_3.out; have r1 := HXSg_6.out; omega)).trans HXW_0_11.out)
  have HXSW_12 := Lib.hid (Nat.lt_of_lt_of_le HXSW_11.out hb.size)
  have HXg_0_12 := Lib.hid ((Mid.cell hb (p := ⟨W5.heap.size, 0, none⟩) HXSg_11.out (by show W5.heap.size < W4.heap.size ∨ W5.heap.size ≤ W5.heap.size; have q1 := HZ1.out; have q2 := HZ2.out; have q3 := HZ3.out; have q4 := HZ4.out; have q5 := HZ5.out; have q6 := HZ6.out; have q7 := HZ7.out; have q8 := HZ8.out; have q9 := HZ9.out; have q10 := HZ10.out; have q11 := HZ11.out; have r0 := HXSW_3.out; have r1 := HXSg_6.out; omega)).trans HXg_0_11.out)
  have HXSg_12 := Lib.hid (Nat.lt_of_lt_of_le HXSg_11.out hb.size)
  have HZ12 := Lib.hid hb.size
  have HB12 := Lib.hid (Mid.below (HB11.out) hb (by have q1 := HZ1.out; have q2 := HZ2.out; have q3 := HZ3.out; have q4 := HZ4.out; omega) (by have q1 := HZ1.out; have q2 := HZ2.out; have q3 := HZ3.out; have q4 := HZ4.out; have q5 := HZ5.out; have q6 := HZ6.out; have q7 := HZ7.out; have q8 := HZ8.out; have q9 := HZ9.out; have q10 := HZ10.out; have q11 := HZ11.out; omega))
  have HS12 := Lib.hid (Mid.below HS11.out hb (by have q3 := HZ3.out; have q4 := HZ4.out; omega) (by have q3 := HZ3.out; have q4 := HZ4.out; have q5 := HZ5.out; have q6 := HZ6.out; have q7 := HZ7.out; have q8 := HZ8.out; have q9 := HZ9.out; have q10 := HZ10.out; have q11 := HZ11.out; omega))
  have HLg_12 := Lib.hid ho
  clear ho hb
  have cxW_0 := HXW_0_12.out
  have cxg_0 := HXg_0_12.out
  go_wp2_with fail
  clear cxW_0 cxg_0
  refine (held_Milnor HLg_12.out.reads (by omega) (by omega)).mono ?_
  rintro e W13 ⟨rfl, hb⟩
  have HZ13 := Lib.hid hb.size
  have HB13 := Lib.hid ((HB12.out).trans (hb.mono (HB12.out).size))
  have HS13 := Lib.hid (HS12.out.trans (hb.mono HS12.out.size))
  have HLg_13 := Lib.hid (HLg_12.out.below hb)
  have HXW_0_13 := Lib.hid ((hb.cell (p := ⟨W2.heap.size, 0, none⟩) HXSW_12.out).trans HXW_0_12.out)
  have HXSW_13 := Lib.hid (Nat.lt_of_lt_of_le HXSW_12.out hb.size)
  have HXg_0_13 := Lib.hid ((hb.cell (p := ⟨W5.heap.size, 0, none⟩) HXSg_12.out).trans HXg_0_12.out)
  have HXSg_13 := Lib.hid (Nat.lt_of_lt_of_le HXSg_12.out hb.size)
  clear hb
  have cxW_0 := HXW_0_13.out
  have cxg_0 := HXg_0_13.out
  go_wp2_with fail
  clear cxW_0 cxg_0
  refine (to_Int64S (HR0.out.below (HB13.out)) (by omega)).mono ?_
  rintro e W14 ⟨Gv0, rfl, ho, hb⟩
  have HZ14 := Lib.hid hb.size
  have HB14 := Lib.hid ((HB13.out).trans (hb.mono (HB13.out).size))
  have HS14 := Lib.hid (HS13.out.trans (hb.mono HS13.out.size))
  have HLg_14 := Lib.hid (HLg_13.out.below hb)
  have HXW_0_14 := Lib.hid ((hb.cell (p := ⟨W2.heap.size, 0, none⟩) HXSW_13.out).trans HXW_0_13.out)
  have HXSW_14 := Lib.hid (Nat.lt_of_lt_of_le HXSW_13.out hb.size)
  have HXg_0_14 := Lib.hid ((hb.cell (p := ⟨W5.heap.size, 0, none⟩) HXSg_13.out).trans HXg_0_13.out)
  have HXSg_14 := Lib.hid (Nat.lt_of_lt_of_le HXSg_13.out hb.size)
  clear hb
  have HLv0_14 := Lib.hid ho
  clear ho
  have HTv0 := Lib.hid HLv0_14.out.ins
  have cxW_0 := HXW_0_14.out
  have cxg_0 := HXg_0_14.out
  go_wp2_with fail
  clear cxW_0 cxg_0
  refine (impl_MilnorOfWord HLv0_14.out.reads (by omega)).mono ?_
  rintro e W15 ⟨Ah, nh, ch, vh, rfl, ho, hb⟩
  have HZ15 := Lib.hid hb.size
  have HB15 := Lib.hid ((HB14.out).trans (hb.mono (HB14.out).size))
  have HS15 := Lib.hid (HS14.out.trans (hb.mono HS14.out.size))
  have HLg_15 := Lib.hid (HLg_14.out.below hb)
  have HLv0_15 := Lib.hid (HLv0_14.out.below hb)
  have HXW_0_15 := Lib.hid ((hb.cell (p := ⟨W2.heap.size, 0, none⟩) HXSW_14.out).trans HXW_0_14.out)
  have HXSW_15 := Lib.hid (Nat.lt_of_lt_of_le HXSW_14.out hb.size)
  have HXg_0_15 := Lib.hid ((hb.cell (p := ⟨W5.heap.size, 0, none⟩) HXSg_14.out).trans HXg_0_14.out)
  have HXSg_15 := Lib.hid (Nat.lt_of_lt_of_le HXSg_14.out hb.size)
  clear hb
  have HLh_15 := Lib.hid ho
  clear ho
  have HTh := Lib.hid HLh_15.out.ins
  obtain rfl : nh = ng := by rw [← HLh_15.out.len, HRW.out.len]
  have hb := box_below W15 (.cells #[.slice Ah nh ch] 31)
  have HXh_0_16 := Lib.hid (show (W15.alloc (.cells #[.slice Ah nh ch] 31)).cell? ⟨W15.heap.size, 0, none⟩ = some (.slice Ah nh ch) by rw [World.cell?_alloc_at _ _ _ _ rfl]; rfl)
  have HXSh_16 := Lib.hid (show W15.heap.size < (W15.alloc (.cells #[.slice Ah nh ch] 31)).heap.size by simp)
  have HZ16 := Lib.hid hb.size
  have HB16 := Lib.hid ((HB15.out).trans (hb.mono (HB15.out).size))
  have HS16 := Lib.hid (HS15.out.trans (hb.mono HS15.out.size))
  have HLg_16 := Lib.hid (HLg_15.out.below hb)
  have HLv0_16 := Lib.hid (HLv0_15.out.below hb)
  have HLh_16 := Lib.hid (HLh_15.out.below hb)
  have HXW_0_16 := Lib.hid ((hb.cell (p := ⟨W2.heap.size, 0, none⟩) HXSW_15.out).trans HXW_0_15.out)
  have HXSW_16 := Lib.hid (Nat.lt_of_lt_of_le HXSW_15.out hb.size)
  have HXg_0_16 := Lib.hid ((hb.cell (p := ⟨W5.heap.size, 0, none⟩) HXSg_15.out).trans HXg_0_15.out)
  have HXSg_16 := Lib.hid (Nat.lt_of_lt_of_le HXSg_15.out hb.size)
  clear hb
  have cxW_0 := HXW_0_16.out
  have cxg_0 := HXg_0_16.out
  have cxh_0 := HXh_0_16.out
  go_wp2_with fail
  clear cxW_0 cxg_0 cxh_0
  generalize (W15.alloc (.cells #[.slice Ah nh ch] 31)) = W16 at *
  refine (eq_Milnor HLh_16.out.reads (HRW.out.below HS16.out)).mono ?_
  rintro e W17 ⟨rfl, hb⟩
  have HZ17 := Lib.hid hb.size
  have HB17 := Lib.hid ((HB16.out).trans (hb.mono (HB16.out).size))
  have HS17 := Lib.hid (HS16.out.trans (hb.mono HS16.out.size))
  have HLg_17 := Lib.hid (HLg_16.out.below hb)
  have HLv0_17 := Lib.hid (HLv0_16.out.below hb)
  have HLh_17 := Lib.hid (HLh_16.out.below hb)
  have HXW_0_17 := Lib.hid ((hb.cell (p := ⟨W2.heap.size, 0, none⟩) HXSW_16.out).trans HXW_0_16.out)
  have HXSW_17 := Lib.hid (Nat.lt_of_lt_of_le HXSW_16.out hb.size)
  have HXg_0_17 := Lib.hid ((hb.cell (p := ⟨W5.heap.size, 0, none⟩) HXSg_16.out).trans HXg_0_16.out)
  have HXSg_17 := Lib.hid (Nat.lt_of_lt_of_le HXSg_16.out hb.size)
  have HXh_0_17 := Lib.hid ((hb.cell (p := ⟨W15.heap.size, 0, none⟩) HXSh_16.out).trans HXh_0_16.out)
  have HXSh_17 := Lib.hid (Nat.lt_of_lt_of_le HXSh_16.out hb.size)
  clear hb
  have cxW_0 := HXW_0_17.out
  have cxg_0 := HXg_0_17.out
  have cxh_0 := HXh_0_17.out
  go_wp2_with fail
  clear cxW_0 cxg_0 cxh_0
  refine (held_Milnor HLg_17.out.reads (by omega) (by omega)).mono ?_
  rintro e W18 ⟨rfl, hb⟩
  have HZ18 := Lib.hid hb.size
  have HB18 := Lib.hid ((HB17.out).trans (hb.mono (HB17.out).size))
  have HS18 := Lib.hid (HS17.out.trans (hb.mono HS17.out.size))
  have HLg_18 := Lib.hid (HLg_17.out.below hb)
  have HLv0_18 := Lib.hid (HLv0_17.out.below hb)
  have HLh_18 := Lib.hid (HLh_17.out.below hb)
  have HXW_0_18 := Lib.hid ((hb.cell (p := ⟨W2.heap.size, 0, none⟩) HXSW_17.out).trans HXW_0_17.out)
  have HXSW_18 := Lib.hid (Nat.lt_of_lt_of_le HXSW_17.out hb.size)
  have HXg_0_18 := Lib.hid ((hb.cell (p := ⟨W5.heap.size, 0, none⟩) HXSg_17.out).trans HXg_0_17.out)
  have HXSg_18 := Lib.hid (Nat.lt_of_lt_of_le HXSg_17.out hb.size)
  have HXh_0_18 := Lib.hid ((hb.cell (p := ⟨W15.heap.size, 0, none⟩) HXSh_17.out).trans HXh_0_17.out)
  have HXSh_18 := Lib.hid (Nat.lt_of_lt_of_le HXSh_17.out hb.size)
  clear hb
  have cxW_0 := HXW_0_18.out
  have cxg_0 := HXg_0_18.out
  have cxh_0 := HXh_0_18.out
  go_wp2
  go_ret
  exact ⟨rfl, HB18.out⟩

set_option maxRecDepth 100000 in
theorem lifted (os : Os) (started : os.Started) (H : Type) (enc : TypeId × Value → H) :
    ReturnsInHanded {} Try.checked os 13 .any (Rows.fnExactMilnorOfWordSpec.pre6 enc Try.prog Try.f13 Rows.fnExactMilnorOfWordRow.domain false) (Rows.fnExactMilnorOfWordSpec.post enc Try.prog Try.f13 false true false false) := by
  refine returnsInHanded_of_change (C := Try.checked) own started (by kernel_rfl) Try.func13
    (ChangeSpec.witness6 (enc := enc) (C := Try.checked) false ⟨#[], #[.slice none 0 0], []⟩ 8 (by kernel_rfl) (by kernel_rfl) (by kernel_rfl) (by kernel_rfl)) ?_
  intro W base args ds gs before hval0 hW hcnd _
  have hval : ∀ (j : Nat) t v, Try.f13.params[j]? = some t → args[j]? = some v → Value.okWide Try.prog W .any base t v := hval0
  have hW' := hW
  obtain ⟨p, q, hA0, hV, rfl, hfz, hnd⟩ := hW
  have hA : DataW.TrodAll enc Try.prog W 0 (fun _ => true) true Try.f13.params.toList args.toList ds p := hA0
  rw [Try.params13] at hA hval
  obtain ⟨v0, vs0, d0, ds0, p0, q0, hargs, rfl, rfl, h0, r0⟩ := trodAll_cons hA
  obtain ⟨rfl, rfl, rfl⟩ := trodAll_nil r0
  obtain rfl : args = #[v0] := by cases args; simp_all
  obtain ⟨rfl, rfl⟩ := trodVars_none hV
  have t0 := h0
  have lt0 : ∀ x ∈ p0, x.block < W.heap.size := by obtain ⟨m, hm⟩ := t0; exact DataW.trod_lt m _ _ _ hm
  obtain ⟨a0, l0, k0, rfl⟩ := okWide_slice Try.underlying51 (hval 0 51 v0 rfl rfl)
  obtain ⟨fuel0, hf0⟩ := h0
  obtain ⟨A0, n0, c0, X0, g0, rr0⟩ := open_LL hf0
  simp [Value.cells] at g0
  obtain ⟨rfl, rfl, rfl⟩ := g0
  clear hA0 hval0
  refine (walk a0 l0 k0 X0 W rr0).mono fun e W' ⟨he, bel⟩ => ?_
  subst he
  exact ⟨_, rfl, _, _, _, [], _, [], hW', trodAll_mk1 (shut_bool Try.underlying4 _), (trodAll_cons_mk (Below.trod laidOut (by kernel_rfl) (of_decide_eq_true (by kernel_rfl)) t0 bel lt0) trodAll_mk0), rfl, bel.frame _, fun h => by cases h⟩

theorem closed : joinedFacts Try.prog 13 Try.f13 Rows.fnExactMilnorOfWordSpec Rows.fnExactMilnorOfWordRow = true := by
  unfold joinedFacts
  rw [mayEnter_eq, liftsFinal_eq, make_eq]
  kernel_rfl


theorem over : Rows.fnExactMilnorOfWordRow.holds Try.pinned (OpenSpec.ofChange Rows.fnExactMilnorOfWordSpec) :=
  OpenClaim.holds_of_wide 13 Try.f13 rfl rfl rfl rfl rfl rfl rfl ⟨rfl, rfl, rfl, rfl, rfl⟩ rfl rfl rfl rfl rfl (by kernel_rfl) Try.func13 closed
    (of_decide_eq_true (by kernel_rfl)) (by unfold Func.isWrapper; first | (rw [if_pos (by decide +kernel)]; kernel_rfl) | (rw [if_neg (by decide +kernel)]; exact ⟨rfl, rfl⟩))
    (fun os started H enc _ => lifted os started H enc)

theorem proved : Rows.FnExactMilnorOfWordSaid := over
#print axioms proved
end Go.Proofs.Ytpgmggkpnefaeaa.fnExactMilnorOfWord
