/- The statement on FnExactMilnorOfSquares: for every input the call returns true, and each argument reads behind the call as it read before. No condition. The frame is written by a program of this repo after the kit's shell. -/
import Derived.Test.YtpgmggkpnefaeaaMSq
import Derived.Test.YtpgmggkpnefaeaaKit2
import Derived.Test.YtpgmggkpnefaeaaFrm
import Derived.Test.YtpgmggkpnefaeaaRows
import Derived.WalkKit
import Derived.ProofKit
import Derived.OpenShut
import Derived.ShutString
import Derived.ChangeOld
import Derived.Below
import Derived.Lib.SmallJoins
import Derived.Deep.RegionHeld3
import Derived.Deep.RegionWith
namespace Go.Proofs.Ytpgmggkpnefaeaa.fnExactMilnorOfSquares
open Go.Joins Go.ChangeShapes Go.WideShapes Go.ChangeAt Go.RowKit
open Go.ChangeMaps (open_string shut_string)
set_option linter.unusedVariables false

theorem own : ownKnob Try.prog.godebug = none := by kernel_rfl
theorem laidOut : laidOutB Try.prog = true := by kernel_rfl

set_option maxRecDepth 100000 in
set_option maxHeartbeats 2000000 in
theorem walk (A0 : Option Addr) (n0 c0 : Nat) (V0 : List Sl) (X0 : List (List Int)) (w : World) (r0 : RS w A0 n0 V0 X0) :
    Calls Try.prog 4 #[.agg #[.slice A0 n0 c0]] w fun e w' => e = .returned (.bool true) ∧ Below w.heap.size w w' := by
  have hbox : Below w.heap.size w (w.alloc (.cells #[.slice A0 n0 c0] 29)) := (Below.refl w.heap.size w).alloc (Nat.le_refl _) _
  have HX0_0 := Lib.hid (show (w.alloc (.cells #[.slice A0 n0 c0] 29)).cell? ⟨w.heap.size, 0, none⟩ = some (.slice A0 n0 c0) by
    have h1 : (w.alloc (.cells #[.slice A0 n0 c0] 29)).cell? ⟨w.heap.size, 0, none⟩ = some (.slice A0 n0 c0) := by rw [World.cell?_alloc_at _ _ _ _ (by simp)]; rfl
    exact h1)
  have HXS0 := Lib.hid (show w.heap.size < (w.alloc (.cells #[.slice A0 n0 c0] 29)).heap.size by simp)
  have HB00 := Lib.hid hbox
  have HR0 := Lib.hid (r0.below hbox)
  have S0 := r0.small
  clear r0
  clear hbox
  by_cases hn0 : (n0 + tot X0) ≤ 1048576
  rotate_left
  · go_enter Try.func4, Try.ntmps4
    go_wp2_with fail
    generalize (w.alloc (.cells #[.slice A0 n0 c0] 29)) = W0 at *
    refine (szno_Squares (HR0.out.below (Below.refl W0.heap.size W0)) ?_).mono ?_
    · omega
    rintro e W1 ⟨rfl, hb⟩
    have HZ1 := Lib.hid hb.size
    have HB1 := Lib.hid ((Below.refl W0.heap.size W0).trans (hb.mono (Below.refl W0.heap.size W0).size))
    have HX0_0_1 := Lib.hid ((hb.cell (p := ⟨w.heap.size, 0, none⟩) HXS0.out).trans HX0_0.out)
    have HXS0_1 := Lib.hid (Nat.lt_of_lt_of_le HXS0.out hb.size)
    clear hb
    go_wp2
    go_ret
    exact ⟨rfl, HB00.out.trans ((HB1.out).mono HB00.out.size)⟩
  go_enter Try.func4, Try.ntmps4
  go_wp2_with fail
  generalize (w.alloc (.cells #[.slice A0 n0 c0] 29)) = W0 at *
  refine (sz_Squares (HR0.out.below (Below.refl W0.heap.size W0)) ?_).mono ?_
  · omega
  rintro e W1 ⟨rfl, hb⟩
  have HZ1 := Lib.hid hb.size
  have HB1 := Lib.hid ((Below.refl W0.heap.size W0).trans (hb.mono (Below.refl W0.heap.size W0).size))
  have HX0_0_1 := Lib.hid ((hb.cell (p := ⟨w.heap.size, 0, none⟩) HXS0.out).trans HX0_0.out)
  have HXS0_1 := Lib.hid (Nat.lt_of_lt_of_le HXS0.out hb.size)
  clear hb
  have cx0_0 := HX0_0_1.out
  go_wp2_with fail
  clear cx0_0
  refine (to_Squares (HR0.out.below (HB1.out)) (by omega)).mono ?_
  rintro e W2 ⟨Gu0, Vu0, rfl, ho, hb⟩
  have HZ2 := Lib.hid hb.size
  have HB2 := Lib.hid ((HB1.out).trans (hb.mono (HB1.out).size))
  have HX0_0_2 := Lib.hid ((hb.cell (p := ⟨w.heap.size, 0, none⟩) HXS0_1.out).trans HX0_0_1.out)
  have HXS0_2 := Lib.hid (Nat.lt_of_lt_of_le HXS0_1.out hb.size)
  clear hb
  have HLu0_2 := Lib.hid ho
  clear ho
  have HTu0 := Lib.hid HLu0_2.out.ins
  have cx0_0 := HX0_0_2.out
  go_wp2_with fail
  clear cx0_0
  refine (spec_MilnorOfSquares HLu0_2.out.reads (by omega)).mono ?_
  rintro e W3 ⟨AW, nW, cW, vW, rfl, ho, hb⟩
  have HZ3 := Lib.hid hb.size
  have HB3 := Lib.hid ((HB2.out).trans (hb.mono (HB2.out).size))
  have HLu0_3 := Lib.hid (HLu0_2.out.below hb)
  have HX0_0_3 := Lib.hid ((hb.cell (p := ⟨w.heap.size, 0, none⟩) HXS0_2.out).trans HX0_0_2.out)
  have HXS0_3 := Lib.hid (Nat.lt_of_lt_of_le HXS0_2.out hb.size)
  clear hb
  have HLW_3 := Lib.hid ho
  clear ho
  have HTW := Lib.hid HLW_3.out.ins
  have HRW := Lib.hid HLW_3.out.reads
  have hb := box_below W3 (.cells #[.slice AW nW cW] 31)
  have HXW_0_4 := Lib.hid (show (W3.alloc (.cells #[.slice AW nW cW] 31)).cell? ⟨W3.heap.size, 0, none⟩ = some (.slice AW nW cW) by rw [World.cell?_alloc_at _ _ _ _ rfl]; rfl)
  have HXSW_4 := Lib.hid (show W3.heap.size < (W3.alloc (.cells #[.slice AW nW cW] 31)).heap.size by simp)
  have HZ4 := Lib.hid hb.size
  have HB4 := Lib.hid ((HB3.out).trans (hb.mono (HB3.out).size))
  have HS4 := Lib.hid hb
  have HX0_0_4 := Lib.hid ((hb.cell (p := ⟨w.heap.size, 0, none⟩) HXS0_3.out).trans HX0_0_3.out)
  have HXS0_4 := Lib.hid (Nat.lt_of_lt_of_le HXS0_3.out hb.size)
  clear hb
  have cx0_0 := HX0_0_4.out
  have cxW_0 := HXW_0_4.out
  go_wp2_with fail
  clear cx0_0 cxW_0
  generalize (W3.alloc (.cells #[.slice AW nW cW] 31)) = W4 at *
  refine (to_Squares (HR0.out.below (HB4.out)) (by omega)).mono ?_
  rintro e W5 ⟨Gx0, Vx0, rfl, ho, hb⟩
  have HZ5 := Lib.hid hb.size
  have HB5 := Lib.hid ((HB4.out).trans (hb.mono (HB4.out).size))
  have HS5 := Lib.hid (HS4.out.trans (hb.mono HS4.out.size))
  have HX0_0_5 := Lib.hid ((hb.cell (p := ⟨w.heap.size, 0, none⟩) HXS0_4.out).trans HX0_0_4.out)
  have HXS0_5 := Lib.hid (Nat.lt_of_lt_of_le HXS0_4.out hb.size)
  have HXW_0_5 := Lib.hid ((hb.cell (p := ⟨W3.heap.size, 0, none⟩) HXSW_4.out).trans HXW_0_4.out)
  have HXSW_5 := Lib.hid (Nat.lt_of_lt_of_le HXSW_4.out hb.size)
  clear hb
  have HLx0_5 := Lib.hid ho
  clear ho
  have HTx0 := Lib.hid HLx0_5.out.ins
  have hb := box_below W5 (.cells #[.slice (some ⟨Gx0, 0, none⟩) n0 n0] 34)
  have HXx0_0_6 := Lib.hid (show (W5.alloc (.cells #[.slice (some ⟨Gx0, 0, none⟩) n0 n0] 34)).cell? ⟨W5.heap.size, 0, none⟩ = some (.slice (some ⟨Gx0, 0, none⟩) n0 n0) by rw [World.cell?_alloc_at _ _ _ _ rfl]; rfl)
  have HXSx0_6 := Lib.hid (show W5.heap.size < (W5.alloc (.cells #[.slice (some ⟨Gx0, 0, none⟩) n0 n0] 34)).heap.size by simp)
  have HZ6 := Lib.hid hb.size
  have HB6 := Lib.hid ((HB5.out).trans (hb.mono (HB5.out).size))
  have HS6 := Lib.hid (HS5.out.trans (hb.mono HS5.out.size))
  have HLx0_6 := Lib.hid (HLx0_5.out.below hb)
  have HX0_0_6 := Lib.hid ((hb.cell (p := ⟨w.heap.size, 0, none⟩) HXS0_5.out).trans HX0_0_5.out)
  have HXS0_6 := Lib.hid (Nat.lt_of_lt_of_le HXS0_5.out hb.size)
  have HXW_0_6 := Lib.hid ((hb.cell (p := ⟨W3.heap.size, 0, none⟩) HXSW_5.out).trans HXW_0_5.out)
  have HXSW_6 := Lib.hid (Nat.lt_of_lt_of_le HXSW_5.out hb.size)
  clear hb
  have cx0_0 := HX0_0_6.out
  have cxW_0 := HXW_0_6.out
  have cxx0_0 := HXx0_0_6.out
  go_wp2_with fail
  clear cx0_0 cxW_0 cxx0_0
  generalize (W5.alloc (.cells #[.slice (some ⟨Gx0, 0, none⟩) n0 n0] 34)) = W6 at *
  refine (impl_MilnorOfSquares HLx0_6.out.reads (by omega)).mono ?_
  rintro e W7 ⟨Ag, ng, cg, vg, rfl, ho, hb⟩
  have HZ7 := Lib.hid hb.size
  have HB7 := Lib.hid ((HB6.out).trans (hb.mono (HB6.out).size))
  have HS7 := Lib.hid (HS6.out.trans (hb.mono HS6.out.size))
  have HLx0_7 := Lib.hid (HLx0_6.out.below hb)
  have HX0_0_7 := Lib.hid ((hb.cell (p := ⟨w.heap.size, 0, none⟩) HXS0_6.out).trans HX0_0_6.out)
  have HXS0_7 := Lib.hid (Nat.lt_of_lt_of_le HXS0_6.out hb.size)
  have HXW_0_7 := Lib.hid ((hb.cell (p := ⟨W3.heap.size, 0, none⟩) HXSW_6.out).trans HXW_0_6.out)
  have HXSW_7 := Lib.hid (Nat.lt_of_lt_of_le HXSW_6.out hb.size)
  have HXx0_0_7 := Lib.hid ((hb.cell (p := ⟨W5.heap.size, 0, none⟩) HXSx0_6.out).trans HXx0_0_6.out)
  have HXSx0_7 := Lib.hid (Nat.lt_of_lt_of_le HXSx0_6.out hb.size)
  clear hb
  have HLg_7 := Lib.hid ho
  clear ho
  have HTg := Lib.hid HLg_7.out.ins
  obtain rfl : ng = nW := by rw [← HLg_7.out.len, HRW.out.len]
  have hb := box_below W7 (.cells #[.slice Ag ng cg] 31)
  have HXg_0_8 := Lib.hid (show (W7.alloc (.cells #[.slice Ag ng cg] 31)).cell? ⟨W7.heap.size, 0, none⟩ = some (.slice Ag ng cg) by rw [World.cell?_alloc_at _ _ _ _ rfl]; rfl)
  have HXSg_8 := Lib.hid (show W7.heap.size < (W7.alloc (.cells #[.slice Ag ng cg] 31)).heap.size by simp)
  have HZ8 := Lib.hid hb.size
  have HB8 := Lib.hid ((HB7.out).trans (hb.mono (HB7.out).size))
  have HS8 := Lib.hid (HS7.out.trans (hb.mono HS7.out.size))
  have HLx0_8 := Lib.hid (HLx0_7.out.below hb)
  have HLg_8 := Lib.hid (HLg_7.out.below hb)
  have HX0_0_8 := Lib.hid ((hb.cell (p := ⟨w.heap.size, 0, none⟩) HXS0_7.out).trans HX0_0_7.out)
  have HXS0_8 := Lib.hid (Nat.lt_of_lt_of_le HXS0_7.out hb.size)
  have HXW_0_8 := Lib.hid ((hb.cell (p := ⟨W3.heap.size, 0, none⟩) HXSW_7.out).trans HXW_0_7.out)
  have HXSW_8 := Lib.hid (Nat.lt_of_lt_of_le HXSW_7.out hb.size)
  have HXx0_0_8 := Lib.hid ((hb.cell (p := ⟨W5.heap.size, 0, none⟩) HXSx0_7.out).trans HXx0_0_7.out)
  have HXSx0_8 := Lib.hid (Nat.lt_of_lt_of_le HXSx0_7.out hb.size)
  clear hb
  have cx0_0 := HX0_0_8.out
  have cxW_0 := HXW_0_8.out
  have cxx0_0 := HXx0_0_8.out
  have cxg_0 := HXg_0_8.out
  go_wp2_with fail
  clear cx0_0 cxW_0 cxx0_0 cxg_0
  generalize (W7.alloc (.cells #[.slice Ag ng cg] 31)) = W8 at *
  refine (eq_Milnor HLg_8.out.reads (HRW.out.below HS8.out)).mono ?_
  rintro e W9 ⟨rfl, hb⟩
  have HZ9 := Lib.hid hb.size
  have HB9 := Lib.hid ((HB8.out).trans (hb.mono (HB8.out).size))
  have HS9 := Lib.hid (HS8.out.trans (hb.mono HS8.out.size))
  have HLx0_9 := Lib.hid (HLx0_8.out.below hb)
  have HLg_9 := Lib.hid (HLg_8.out.below hb)
  have HX0_0_9 := Lib.hid ((hb.cell (p := ⟨w.heap.size, 0, none⟩) HXS0_8.out).trans HX0_0_8.out)
  have HXS0_9 := Lib.hid (Nat.lt_of_lt_of_le HXS0_8.out hb.size)
  have HXW_0_9 := Lib.hid ((hb.cell (p := ⟨W3.heap.size, 0, none⟩) HXSW_8.out).trans HXW_0_8.out)
  have HXSW_9 := Lib.hid (Nat.lt_of_lt_of_le HXSW_8.out hb.size)
  have HXx0_0_9 := Lib.hid ((hb.cell (p := ⟨W5.heap.size, 0, none⟩) HXSx0_8.out).trans HXx0_0_8.out)
  have HXSx0_9 := Lib.hid (Nat.lt_of_lt_of_le HXSx0_8.out hb.size)
  have HXg_0_9 := Lib.hid ((hb.cell (p := ⟨W7.heap.size, 0, none⟩) HXSg_8.out).trans HXg_0_8.out)
  have HXSg_9 := Lib.hid (Nat.lt_of_lt_of_le HXSg_8.out hb.size)
  clear hb
  have cx0_0 := HX0_0_9.out
  have cxW_0 := HXW_0_9.out
  have cxx0_0 := HXx0_0_9.out
  have cxg_0 := HXg_0_9.out
  go_wp2_with fail
  go_region_held3 (fun w' => w'.cell? ⟨W5.heap.size, 0, none⟩ = some (.slice (some ⟨Gx0, 0, none⟩) n0 n0) ∧ w'.cell? ⟨w.heap.size, 0, none⟩ = some (.slice A0 n0 c0)) (first | go_keep | exact ⟨by assumption, by assumption⟩) ((first | (go_at_call 21; refine (to_Squares (HR0.out.below (by exact ⟨(HB9.out).os, (HB9.out).tape, (HB9.out).output, (HB9.out).size, (HB9.out).block⟩)) (by omega)).mono ?_; rintro e W10 ⟨Gy0, Vy0, rfl, ho, hb0⟩; have hb : Below W9.heap.size W9 W10 := ⟨hb0.os, hb0.tape, hb0.output, hb0.size, hb0.block⟩; clear hb0; clear cx0_0 cxW_0 cxx0_0 cxg_0; have HZ10 := Lib.hid hb.size; have HB10 := Lib.hid ((HB9.out).trans (hb.mono (HB9.out).size)); have HS10 := Lib.hid (HS9.out.trans (hb.mono HS9.out.size)); have HLx0_10 := Lib.hid (HLx0_9.out.below hb); have HLg_10 := Lib.hid (HLg_9.out.below hb); have HX0_0_10 := Lib.hid ((hb.cell (p := ⟨w.heap.size, 0, none⟩) HXS0_9.out).trans HX0_0_9.out); have HXS0_10 := Lib.hid (Nat.lt_of_lt_of_le HXS0_9.out hb.size); have HXW_0_10 := Lib.hid ((hb.cell (p := ⟨W3.heap.size, 0, none⟩) HXSW_9.out).trans HXW_0_9.out); have HXSW_10 := Lib.hid (Nat.lt_of_lt_of_le HXSW_9.out hb.size); have HXx0_0_10 := Lib.hid ((hb.cell (p := ⟨W5.heap.size, 0, none⟩) HXSx0_9.out).trans HXx0_0_9.out); have HXSx0_10 := Lib.hid (Nat.lt_of_lt_of_le HXSx0_9.out hb.size); have HXg_0_10 := Lib.hid ((hb.cell (p := ⟨W7.heap.size, 0, none⟩) HXSg_9.out).trans HXg_0_9.out); have HXSg_10 := Lib.hid (Nat.lt_of_lt_of_le HXSg_9.out hb.size); clear hb; have HLy0_10 := Lib.hid ho; clear ho; have cx0_0 := HX0_0_10.out; have cxW_0 := HXW_0_10.out; have cxx0_0 := HXx0_0_10.out; have cxg_0 := HXg_0_10.out) | (go_at_call 24; refine (eq_Squares (by exact HLx0_10.out.reads) (by exact HLy0_10.out.reads)).mono ?_; rintro e W11 ⟨rfl, hb0⟩; have hb : Below W10.heap.size W10 W11 := ⟨hb0.os, hb0.tape, hb0.output, hb0.size, hb0.block⟩; clear hb0; clear cx0_0 cxW_0 cxx0_0 cxg_0; have HZ11 := Lib.hid hb.size; have HB11 := Lib.hid ((HB10.out).trans (hb.mono (HB10.out).size)); have HS11 := Lib.hid (HS10.out.trans (hb.mono HS10.out.size)); have HLx0_11 := Lib.hid (HLx0_10.out.below hb); have HLg_11 := Lib.hid (HLg_10.out.below hb); have HLy0_11 := Lib.hid (HLy0_10.out.below hb); have HX0_0_11 := Lib.hid ((hb.cell (p := ⟨w.heap.size, 0, none⟩) HXS0_10.out).trans HX0_0_10.out); have HXS0_11 := Lib.hid (Nat.lt_of_lt_of_le HXS0_10.out hb.size); have HXW_0_11 := Lib.hid ((hb.cell (p := ⟨W3.heap.size, 0, none⟩) HXSW_10.out).trans HXW_0_10.out); have HXSW_11 := Lib.hid (Nat.lt_of_lt_of_le HXSW_10.out hb.size); have HXx0_0_11 := Lib.hid ((hb.cell (p := ⟨W5.heap.size, 0, none⟩) HXSx0_10.out).trans HXx0_0_10.out); have HXSx0_11 := Lib.hid (Nat.lt_of_lt_of_le HXSx0_10.out hb.size); have HXg_0_11 := Lib.hid ((hb.cell (p := ⟨W7.heap.size, 0, none⟩) HXSg_10.out).trans HXg_0_10.out); have HXSg_11 := Lib.hid (Nat.lt_of_lt_of_le HXSg_10.out hb.size); clear hb; have cx0_0 := HX0_0_11.out; have cxW_0 := HXW_0_11.out; have cxx0_0 := HXx0_0_11.out; have cxg_0 := HXg_0_11.out)))
  clear cx0_0 cxW_0 cxx0_0 cxg_0
  have cx0_0 := HX0_0_11.out
  have cxW_0 := HXW_0_11.out
  have cxx0_0 := HXx0_0_11.out
  have cxg_0 := HXg_0_11.out
  go_wp2_with fail
  clear cx0_0 cxW_0 cxx0_0 cxg_0
  refine (mark_Squares HLx0_11.out HTx0.out (by omega) (by omega)).mono ?_
  rintro e W12 ⟨rfl, ho, hb⟩
  have HX0_0_12 := Lib.hid ((Mid.cell hb (p := ⟨w.heap.size, 0, none⟩) HXS0_11.out (by show w.heap.size < W4.heap.size ∨ W5.heap.size ≤ w.heap.size; have q1 := HZ1.out; have q2 := HZ2.out; have q3 := HZ3.out; have q4 := HZ4.out; have q5 := HZ5.out; have q6 := HZ6.out; have q7 := HZ7.out; have q8 := HZ8.out; have q9 := HZ9.out; have q10 := HZ10.out; have q11 := HZ11.out; have r0 := HXS0.out; have r1 := HXSW_4.out; have r2 := HXSx0_6.out; have r3 := HXSg_8.out; omega)).trans HX0_0_11.out)
  have HXS0_12 := Lib.hid (Nat.lt_of_lt_of_le HXS0_11.out hb.size)
  have HXW_0_12 := Lib.hid ((Mid.cell hb (p := ⟨W3.heap.size, 0, none⟩) HXSW_11.out (by show W3.heap.size < W4.heap.size ∨ W5.heap.size ≤ W3.heap.size; have q1 := HZ1.out; have q2 := HZ2.out; have q3 := HZ3.out; have q4 := HZ4.out; have q5 := HZ5.out; have q6 := HZ6.out; have q7 := HZ7.out; have q8 := HZ8.out; have q9 := HZ9.out; have q10 := HZ10.out; have q11 := HZ11.out; have r0 := HXS0.out; have r1 := HXSW_4.out; have r2 := HXSx0_6.out; have r3 := HXSg_8.out; omega)).trans HXW_0_11.out)
  have HXSW_12 := Lib.hid (Nat.lt_of_lt_of_le HXSW_11.out hb.size)
  have HXx0_0_12 := Lib.hid ((Mid.cell hb (p := ⟨W5.heap.size, 0, none⟩) HXSx0_11.out (by show W5.heap.size < W4.heap.size ∨ W5.heap.size ≤ W5.heap.size; have q1 := HZ1.out; have q2 := HZ2.out; have q3 := HZ3.out; have q4 := HZ4.out; have q5 := HZ5.out; have q6 := HZ6.out; have q7 := HZ7.out; have q8 := HZ8.out; have q9 := HZ9.out; have q10 := HZ10.out; have q11 := HZ11.out; have r0 := HXS0.out; have r1 := HXSW_4.out; have r2 := HXSx0_6.out; have r3 := HXSg_8.out; omega)).trans HXx0_0_11.out)
  have HXSx0_12 := Lib.hid (Nat.lt_of_lt_of_le HXSx0_11.out hb.size)
  have HXg_0_12 := Lib.hid ((Mid.cell hb (p := ⟨W7.heap.size, 0, none⟩) HXSg_11.out (by show W7.heap.size < W4.heap.size ∨ W5.heap.size ≤ W7.heap.size; have q1 := HZ1.out; have q2 := HZ2.out; have q3 := HZ3.out; have q4 := HZ4.out; have q5 := HZ5.out; have q6 := HZ6.out; have q7 := HZ7.out; have q8 := HZ8.out; have q9 := HZ9.out; have q10 := HZ10.out; have q11 := HZ11.out; have r0 := HXS0.out; have r1 := HXSW_4.out; have r2 := HXSx0_6.out; have r3 := HXSg_8.out; omega)).trans HXg_0_11.out)
  have HXSg_12 := Lib.hid (Nat.lt_of_lt_of_le HXSg_11.out hb.size)
  have HZ12 := Lib.hid hb.size
  have HB12 := Lib.hid (Mid.below (HB11.out) hb (by have q1 := HZ1.out; have q2 := HZ2.out; have q3 := HZ3.out; have q4 := HZ4.out; omega) (by have q1 := HZ1.out; have q2 := HZ2.out; have q3 := HZ3.out; have q4 := HZ4.out; have q5 := HZ5.out; have q6 := HZ6.out; have q7 := HZ7.out; have q8 := HZ8.out; have q9 := HZ9.out; have q10 := HZ10.out; have q11 := HZ11.out; omega))
  have HS12 := Lib.hid (Mid.below HS11.out hb (by have q4 := HZ4.out; omega) (by have q4 := HZ4.out; have q5 := HZ5.out; have q6 := HZ6.out; have q7 := HZ7.out; have q8 := HZ8.out; have q9 := HZ9.out; have q10 := HZ10.out; have q11 := HZ11.out; omega))
  have HLg_12 := Lib.hid (HLg_11.out.mid hb (by have q6 := HZ6.out; omega))
  have HLx0_12 := Lib.hid ho
  clear ho hb
  have cx0_0 := HX0_0_12.out
  have cxW_0 := HXW_0_12.out
  have cxx0_0 := HXx0_0_12.out
  have cxg_0 := HXg_0_12.out
  go_wp2_with fail
  clear cx0_0 cxW_0 cxx0_0 cxg_0
  refine (eq_Milnor HLg_12.out.reads (HRW.out.below HS12.out)).mono ?_
  rintro e W13 ⟨rfl, hb⟩
  have HZ13 := Lib.hid hb.size
  have HB13 := Lib.hid ((HB12.out).trans (hb.mono (HB12.out).size))
  have HS13 := Lib.hid (HS12.out.trans (hb.mono HS12.out.size))
  have HLg_13 := Lib.hid (HLg_12.out.below hb)
  have HX0_0_13 := Lib.hid ((hb.cell (p := ⟨w.heap.size, 0, none⟩) HXS0_12.out).trans HX0_0_12.out)
  have HXS0_13 := Lib.hid (Nat.lt_of_lt_of_le HXS0_12.out hb.size)
  have HXW_0_13 := Lib.hid ((hb.cell (p := ⟨W3.heap.size, 0, none⟩) HXSW_12.out).trans HXW_0_12.out)
  have HXSW_13 := Lib.hid (Nat.lt_of_lt_of_le HXSW_12.out hb.size)
  have HXx0_0_13 := Lib.hid ((hb.cell (p := ⟨W5.heap.size, 0, none⟩) HXSx0_12.out).trans HXx0_0_12.out)
  have HXSx0_13 := Lib.hid (Nat.lt_of_lt_of_le HXSx0_12.out hb.size)
  have HXg_0_13 := Lib.hid ((hb.cell (p := ⟨W7.heap.size, 0, none⟩) HXSg_12.out).trans HXg_0_12.out)
  have HXSg_13 := Lib.hid (Nat.lt_of_lt_of_le HXSg_12.out hb.size)
  clear hb
  have NG := pMilnorOfSquares_sz X0 (by have h0 := HR0.out.len; omega)
  have cx0_0 := HX0_0_13.out
  have cxW_0 := HXW_0_13.out
  have cxx0_0 := HXx0_0_13.out
  have cxg_0 := HXg_0_13.out
  go_wp2_with fail
  clear cx0_0 cxW_0 cxx0_0 cxg_0
  refine (mark_Milnor HLg_13.out HTg.out (by omega) (by omega)).mono ?_
  rintro e W14 ⟨rfl, ho, hb⟩
  have HX0_0_14 := Lib.hid ((Mid.cell hb (p := ⟨w.heap.size, 0, none⟩) HXS0_13.out (by show w.heap.size < W6.heap.size ∨ W7.heap.size ≤ w.heap.size; have q1 := HZ1.out; have q2 := HZ2.out; have q3 := HZ3.out; have q4 := HZ4.out; have q5 := HZ5.out; have q6 := HZ6.out; have q7 := HZ7.out; have q8 := HZ8.out; have q9 := HZ9.out; have q10 := HZ10.out; have q11 := HZ11.out; have q12 := HZ12.out; have q13 := HZ13.out; have r0 := HXS0.out; have r1 := HXSW_4.out; have r2 := HXSx0_6.out; have r3 := HXSg_8.out; omega)).trans HX0_0_13.out)
  have HXS0_14 := Lib.hid (Nat.lt_of_lt_of_le HXS0_13.out hb.size)
  have HXW_0_14 := Lib.hid ((Mid.cell hb (p := ⟨W3.heap.size, 0, none⟩) HXSW_13.out (by show W3.heap.size < W6.heap.size ∨ W7.heap.size ≤ W3.heap.size; have q1 := HZ1.out; have q2 := HZ2.out; have q3 := HZ3.out; have q4 := HZ4.out; have q5 := HZ5.out; have q6 := HZ6.out; have q7 := HZ7.out; have q8 := HZ8.out; have q9 := HZ9.out; have q10 := HZ10.out; have q11 := HZ11.out; have q12 := HZ12.out; have q13 := HZ13.out; have r0 := HXS0.out; have r1 := HXSW_4.out; have r2 := HXSx0_6.out; have r3 := HXSg_8.out; omega)).trans HXW_0_13.out)
  have HXSW_14 := Lib.hid (Nat.lt_of_lt_of_le HXSW_13.out hb.size)
  have HXx0_0_14 := Lib.hid ((Mid.cell hb (p := ⟨W5.heap.size, 0, none⟩) HXSx0_13.out (by show W5.heap.size < W6.heap.size ∨ W7.heap.size ≤ W5.heap.size; have q1 := HZ1.out; have q2 := HZ2.out; have q3 := HZ3.out; have q4 := HZ4.out; have q5 := HZ5.out; have q6 := HZ6.out; have q7 := HZ7.out; have q8 := HZ8.out; have q9 := HZ9.out; have q10 := HZ10.out; have q11 := HZ11.out; have q12 := HZ12.out; have q13 := HZ13.out; have r0 := HXS0.out; have r1 := HXSW_4.out; have r2 := HXSx0_6.out; have r3 := HXSg_8.out; omega)).trans HXx0_0_13.out)
  have HXSx0_14 := Lib.hid (Nat.lt_of_lt_of_le HXSx0_13.out hb.size)
  have HXg_0_14 := Lib.hid ((Mid.cell hb (p := ⟨W7.heap.size, 0, none⟩) HXSg_13.out (by show W7.heap.size < W6.heap.size ∨ W7.heap.size ≤ W7.heap.size; have q1 := HZ1.out; have q2 := HZ2.out; have q3 := HZ3.out; have q4 := HZ4.out; have q5 := HZ5.out; have q6 := HZ6.out; have q7 := HZ7.out; have q8 := HZ8.out; have q9 := HZ9.out; have q10 := HZ10.out; have q11 := HZ11.out; have q12 := HZ12.out; have q13 := HZ13.out; have r0 := HXS0.out; have r1 := HXSW_4.out; have r2 := HXSx0_6.out; have r3 := HXSg_8.out; omega)).trans HXg_0_13.out)
  have HXSg_14 := Lib.hid (Nat.lt_of_lt_of_le HXSg_13.out hb.size)
  have HZ14 := Lib.hid hb.size
  have HB14 := Lib.hid (Mid.below (HB13.out) hb (by have q1 := HZ1.out; have q2 := HZ2.out; have q3 := HZ3.out; have q4 := HZ4.out; have q5 := HZ5.out; have q6 := HZ6.out; omega) (by have q1 := HZ1.out; have q2 := HZ2.out; have q3 := HZ3.out; have q4 := HZ4.out; have q5 := HZ5.out; have q6 := HZ6.out; have q7 := HZ7.out; have q8 := HZ8.out; have q9 := HZ9.out; have q10 := HZ10.out; have q11 := HZ11.out; have q12 := HZ12.out; have q13 := HZ13.out; omega))
  have HS14 := Lib.hid (Mid.below HS13.out hb (by have q4 := HZ4.out; have q5 := HZ5.out; have q6 := HZ6.out; omega) (by have q4 := HZ4.out; have q5 := HZ5.out; have q6 := HZ6.out; have q7 := HZ7.out; have q8 := HZ8.out; have q9 := HZ9.out; have q10 := HZ10.out; have q11 := HZ11.out; have q12 := HZ12.out; have q13 := HZ13.out; omega))
  have HLg_14 := Lib.hid ho
  clear ho hb
  have cx0_0 := HX0_0_14.out
  have cxW_0 := HXW_0_14.out
  have cxx0_0 := HXx0_0_14.out
  have cxg_0 := HXg_0_14.out
  go_wp2_with fail
  clear cx0_0 cxW_0 cxx0_0 cxg_0
  refine (held_Milnor HLg_14.out.reads (by omega) (by omega)).mono ?_
  rintro e W15 ⟨rfl, hb⟩
  have HZ15 := Lib.hid hb.size
  have HB15 := Lib.hid ((HB14.out).trans (hb.mono (HB14.out).size))
  have HS15 := Lib.hid (HS14.out.trans (hb.mono HS14.out.size))
  have HLg_15 := Lib.hid (HLg_14.out.below hb)
  have HX0_0_15 := Lib.hid ((hb.cell (p := ⟨w.heap.size, 0, none⟩) HXS0_14.out).trans HX0_0_14.out)
  have HXS0_15 := Lib.hid (Nat.lt_of_lt_of_le HXS0_14.out hb.size)
  have HXW_0_15 := Lib.hid ((hb.cell (p := ⟨W3.heap.size, 0, none⟩) HXSW_14.out).trans HXW_0_14.out)
  have HXSW_15 := Lib.hid (Nat.lt_of_lt_of_le HXSW_14.out hb.size)
  have HXx0_0_15 := Lib.hid ((hb.cell (p := ⟨W5.heap.size, 0, none⟩) HXSx0_14.out).trans HXx0_0_14.out)
  have HXSx0_15 := Lib.hid (Nat.lt_of_lt_of_le HXSx0_14.out hb.size)
  have HXg_0_15 := Lib.hid ((hb.cell (p := ⟨W7.heap.size, 0, none⟩) HXSg_14.out).trans HXg_0_14.out)
  have HXSg_15 := Lib.hid (Nat.lt_of_lt_of_le HXSg_14.out hb.size)
  clear hb
  have cx0_0 := HX0_0_15.out
  have cxW_0 := HXW_0_15.out
  have cxx0_0 := HXx0_0_15.out
  have cxg_0 := HXg_0_15.out
  go_wp2_with fail
  clear cx0_0 cxW_0 cxx0_0 cxg_0
  refine (to_Squares (HR0.out.below (HB15.out)) (by omega)).mono ?_
  rintro e W16 ⟨Gv0, Vv0, rfl, ho, hb⟩
  have HZ16 := Lib.hid hb.size
  have HB16 := Lib.hid ((HB15.out).trans (hb.mono (HB15.out).size))
  have HS16 := Lib.hid (HS15.out.trans (hb.mono HS15.out.size))
  have HLg_16 := Lib.hid (HLg_15.out.below hb)
  have HX0_0_16 := Lib.hid ((hb.cell (p := ⟨w.heap.size, 0, none⟩) HXS0_15.out).trans HX0_0_15.out)
  have HXS0_16 := Lib.hid (Nat.lt_of_lt_of_le HXS0_15.out hb.size)
  have HXW_0_16 := Lib.hid ((hb.cell (p := ⟨W3.heap.size, 0, none⟩) HXSW_15.out).trans HXW_0_15.out)
  have HXSW_16 := Lib.hid (Nat.lt_of_lt_of_le HXSW_15.out hb.size)
  have HXx0_0_16 := Lib.hid ((hb.cell (p := ⟨W5.heap.size, 0, none⟩) HXSx0_15.out).trans HXx0_0_15.out)
  have HXSx0_16 := Lib.hid (Nat.lt_of_lt_of_le HXSx0_15.out hb.size)
  have HXg_0_16 := Lib.hid ((hb.cell (p := ⟨W7.heap.size, 0, none⟩) HXSg_15.out).trans HXg_0_15.out)
  have HXSg_16 := Lib.hid (Nat.lt_of_lt_of_le HXSg_15.out hb.size)
  clear hb
  have HLv0_16 := Lib.hid ho
  clear ho
  have HTv0 := Lib.hid HLv0_16.out.ins
  have cx0_0 := HX0_0_16.out
  have cxW_0 := HXW_0_16.out
  have cxx0_0 := HXx0_0_16.out
  have cxg_0 := HXg_0_16.out
  go_wp2_with fail
  clear cx0_0 cxW_0 cxx0_0 cxg_0
  refine (impl_MilnorOfSquares HLv0_16.out.reads (by omega)).mono ?_
  rintro e W17 ⟨Ah, nh, ch, vh, rfl, ho, hb⟩
  have HZ17 := Lib.hid hb.size
  have HB17 := Lib.hid ((HB16.out).trans (hb.mono (HB16.out).size))
  have HS17 := Lib.hid (HS16.out.trans (hb.mono HS16.out.size))
  have HLg_17 := Lib.hid (HLg_16.out.below hb)
  have HLv0_17 := Lib.hid (HLv0_16.out.below hb)
  have HX0_0_17 := Lib.hid ((hb.cell (p := ⟨w.heap.size, 0, none⟩) HXS0_16.out).trans HX0_0_16.out)
  have HXS0_17 := Lib.hid (Nat.lt_of_lt_of_le HXS0_16.out hb.size)
  have HXW_0_17 := Lib.hid ((hb.cell (p := ⟨W3.heap.size, 0, none⟩) HXSW_16.out).trans HXW_0_16.out)
  have HXSW_17 := Lib.hid (Nat.lt_of_lt_of_le HXSW_16.out hb.size)
  have HXx0_0_17 := Lib.hid ((hb.cell (p := ⟨W5.heap.size, 0, none⟩) HXSx0_16.out).trans HXx0_0_16.out)
  have HXSx0_17 := Lib.hid (Nat.lt_of_lt_of_le HXSx0_16.out hb.size)
  have HXg_0_17 := Lib.hid ((hb.cell (p := ⟨W7.heap.size, 0, none⟩) HXSg_16.out).trans HXg_0_16.out)
  have HXSg_17 := Lib.hid (Nat.lt_of_lt_of_le HXSg_16.out hb.size)
  clear hb
  have HLh_17 := Lib.hid ho
  clear ho
  have HTh := Lib.hid HLh_17.out.ins
  obtain rfl : nh = ng := by rw [← HLh_17.out.len, HRW.out.len]
  have hb := box_below W17 (.cells #[.slice Ah nh ch] 31)
  have HXh_0_18 := Lib.hid (show (W17.alloc (.cells #[.slice Ah nh ch] 31)).cell? ⟨W17.heap.size, 0, none⟩ = some (.slice Ah nh ch) by rw [World.cell?_alloc_at _ _ _ _ rfl]; rfl)
  have HXSh_18 := Lib.hid (show W17.heap.size < (W17.alloc (.cells #[.slice Ah nh ch] 31)).heap.size by simp)
  have HZ18 := Lib.hid hb.size
  have HB18 := Lib.hid ((HB17.out).trans (hb.mono (HB17.out).size))
  have HS18 := Lib.hid (HS17.out.trans (hb.mono HS17.out.size))
  have HLg_18 := Lib.hid (HLg_17.out.below hb)
  have HLv0_18 := Lib.hid (HLv0_17.out.below hb)
  have HLh_18 := Lib.hid (HLh_17.out.below hb)
  have HX0_0_18 := Lib.hid ((hb.cell (p := ⟨w.heap.size, 0, none⟩) HXS0_17.out).trans HX0_0_17.out)
  have HXS0_18 := Lib.hid (Nat.lt_of_lt_of_le HXS0_17.out hb.size)
  have HXW_0_18 := Lib.hid ((hb.cell (p := ⟨W3.heap.size, 0, none⟩) HXSW_17.out).trans HXW_0_17.out)
  have HXSW_18 := Lib.hid (Nat.lt_of_lt_of_le HXSW_17.out hb.size)
  have HXx0_0_18 := Lib.hid ((hb.cell (p := ⟨W5.heap.size, 0, none⟩) HXSx0_17.out).trans HXx0_0_17.out)
  have HXSx0_18 := Lib.hid (Nat.lt_of_lt_of_le HXSx0_17.out hb.size)
  have HXg_0_18 := Lib.hid ((hb.cell (p := ⟨W7.heap.size, 0, none⟩) HXSg_17.out).trans HXg_0_17.out)
  have HXSg_18 := Lib.hid (Nat.lt_of_lt_of_le HXSg_17.out hb.size)
  clear hb
  have cx0_0 := HX0_0_18.out
  have cxW_0 := HXW_0_18.out
  have cxx0_0 := HXx0_0_18.out
  have cxg_0 := HXg_0_18.out
  have cxh_0 := HXh_0_18.out
  go_wp2_with fail
  clear cx0_0 cxW_0 cxx0_0 cxg_0 cxh_0
  generalize (W17.alloc (.cells #[.slice Ah nh ch] 31)) = W18 at *
  refine (eq_Milnor HLh_18.out.reads (HRW.out.below HS18.out)).mono ?_
  rintro e W19 ⟨rfl, hb⟩
  have HZ19 := Lib.hid hb.size
  have HB19 := Lib.hid ((HB18.out).trans (hb.mono (HB18.out).size))
  have HS19 := Lib.hid (HS18.out.trans (hb.mono HS18.out.size))
  have HLg_19 := Lib.hid (HLg_18.out.below hb)
  have HLv0_19 := Lib.hid (HLv0_18.out.below hb)
  have HLh_19 := Lib.hid (HLh_18.out.below hb)
  have HX0_0_19 := Lib.hid ((hb.cell (p := ⟨w.heap.size, 0, none⟩) HXS0_18.out).trans HX0_0_18.out)
  have HXS0_19 := Lib.hid (Nat.lt_of_lt_of_le HXS0_18.out hb.size)
  have HXW_0_19 := Lib.hid ((hb.cell (p := ⟨W3.heap.size, 0, none⟩) HXSW_18.out).trans HXW_0_18.out)
  have HXSW_19 := Lib.hid (Nat.lt_of_lt_of_le HXSW_18.out hb.size)
  have HXx0_0_19 := Lib.hid ((hb.cell (p := ⟨W5.heap.size, 0, none⟩) HXSx0_18.out).trans HXx0_0_18.out)
  have HXSx0_19 := Lib.hid (Nat.lt_of_lt_of_le HXSx0_18.out hb.size)
  have HXg_0_19 := Lib.hid ((hb.cell (p := ⟨W7.heap.size, 0, none⟩) HXSg_18.out).trans HXg_0_18.out)
  have HXSg_19 := Lib.hid (Nat.lt_of_lt_of_le HXSg_18.out hb.size)
  have HXh_0_19 := Lib.hid ((hb.cell (p := ⟨W17.heap.size, 0, none⟩) HXSh_18.out).trans HXh_0_18.out)
  have HXSh_19 := Lib.hid (Nat.lt_of_lt_of_le HXSh_18.out hb.size)
  clear hb
  have cx0_0 := HX0_0_19.out
  have cxW_0 := HXW_0_19.out
  have cxx0_0 := HXx0_0_19.out
  have cxg_0 := HXg_0_19.out
  have cxh_0 := HXh_0_19.out
  go_wp2_with fail
  clear cx0_0 cxW_0 cxx0_0 cxg_0 cxh_0
  refine (held_Milnor HLg_19.out.reads (by omega) (by omega)).mono ?_
  rintro e W20 ⟨rfl, hb⟩
  have HZ20 := Lib.hid hb.size
  have HB20 := Lib.hid ((HB19.out).trans (hb.mono (HB19.out).size))
  have HS20 := Lib.hid (HS19.out.trans (hb.mono HS19.out.size))
  have HLg_20 := Lib.hid (HLg_19.out.below hb)
  have HLv0_20 := Lib.hid (HLv0_19.out.below hb)
  have HLh_20 := Lib.hid (HLh_19.out.below hb)
  have HX0_0_20 := Lib.hid ((hb.cell (p := ⟨w.heap.size, 0, none⟩) HXS0_19.out).trans HX0_0_19.out)
  have HXS0_20 := Lib.hid (Nat.lt_of_lt_of_le HXS0_19.out hb.size)
  have HXW_0_20 := Lib.hid ((hb.cell (p := ⟨W3.heap.size, 0, none⟩) HXSW_19.out).trans HXW_0_19.out)
  have HXSW_20 := Lib.hid (Nat.lt_of_lt_of_le HXSW_19.out hb.size)
  have HXx0_0_20 := Lib.hid ((hb.cell (p := ⟨W5.heap.size, 0, none⟩) HXSx0_19.out).trans HXx0_0_19.out)
  have HXSx0_20 := Lib.hid (Nat.lt_of_lt_of_le HXSx0_19.out hb.size)
  have HXg_0_20 := Lib.hid ((hb.cell (p := ⟨W7.heap.size, 0, none⟩) HXSg_19.out).trans HXg_0_19.out)
  have HXSg_20 := Lib.hid (Nat.lt_of_lt_of_le HXSg_19.out hb.size)
  have HXh_0_20 := Lib.hid ((hb.cell (p := ⟨W17.heap.size, 0, none⟩) HXSh_19.out).trans HXh_0_19.out)
  have HXSh_20 := Lib.hid (Nat.lt_of_lt_of_le HXSh_19.out hb.size)
  clear hb
  have cx0_0 := HX0_0_20.out
  have cxW_0 := HXW_0_20.out
  have cxx0_0 := HXx0_0_20.out
  have cxg_0 := HXg_0_20.out
  have cxh_0 := HXh_0_20.out
  go_wp2
  go_ret
  exact ⟨rfl, HB00.out.trans ((HB20.out).mono HB00.out.size)⟩

set_option maxRecDepth 100000 in
theorem lifted (os : Os) (started : os.Started) (H : Type) (enc : TypeId × Value → H) :
    ReturnsInHanded {} Try.checked os 4 .any (Rows.fnExactMilnorOfSquaresSpec.pre6 enc Try.prog Try.f4 Rows.fnExactMilnorOfSquaresRow.domain false) (Rows.fnExactMilnorOfSquaresSpec.post enc Try.prog Try.f4 false true false false) := by
  refine returnsInHanded_of_change (C := Try.checked) own started (by kernel_rfl) Try.func4
    (ChangeSpec.witness6 (enc := enc) (C := Try.checked) false ⟨#[], #[.agg #[.slice none 0 0]], []⟩ 8 (by kernel_rfl) (by kernel_rfl) (by kernel_rfl) (by kernel_rfl)) ?_
  intro W base args ds gs before hval0 hW hcnd _
  have hval : ∀ (j : Nat) t v, Try.f4.params[j]? = some t → args[j]? = some v → Value.okWide Try.prog W .any base t v := hval0
  have hW' := hW
  obtain ⟨p, q, hA0, hV, rfl, hfz, hnd⟩ := hW
  have hA : DataW.TrodAll enc Try.prog W 0 (fun _ => true) true Try.f4.params.toList args.toList ds p := hA0
  rw [Try.params4] at hA hval
  obtain ⟨v0, vs0, d0, ds0, p0, q0, hargs, rfl, rfl, h0, r0⟩ := trodAll_cons hA
  obtain ⟨rfl, rfl, rfl⟩ := trodAll_nil r0
  obtain rfl : args = #[v0] := by cases args; simp_all
  obtain ⟨rfl, rfl⟩ := trodVars_none hV
  have t0 := h0
  have lt0 : ∀ x ∈ p0, x.block < W.heap.size := by obtain ⟨m, hm⟩ := t0; exact DataW.trod_lt m _ _ _ hm
  obtain ⟨c10, y10, m0, hv0, hd0, hp0, hy0⟩ := open_agg1 Try.underlying29 (by kernel_rfl) (by kernel_rfl) (hval 0 29 v0 rfl rfl) h0
  obtain ⟨A0, n0, c0, V0, X0, g0, rr0⟩ := open_SS hy0
  have g01 := List.cons.inj g0
  have g02 := g01.1
  rw [g02] at hv0
  clear hy0 g0 g01
  subst hv0
  clear hA0 hval0
  refine (walk A0 n0 c0 V0 X0 W rr0).mono fun e W' ⟨he, bel⟩ => ?_
  subst he
  exact ⟨_, rfl, _, _, _, [], _, [], hW', trodAll_mk1 (shut_bool Try.underlying4 _), (trodAll_cons_mk (Below.trod laidOut (by kernel_rfl) (of_decide_eq_true (by kernel_rfl)) t0 bel lt0) trodAll_mk0), rfl, bel.frame _, fun h => by cases h⟩

theorem closed : joinedFacts Try.prog 4 Try.f4 Rows.fnExactMilnorOfSquaresSpec Rows.fnExactMilnorOfSquaresRow = true := by
  unfold joinedFacts
  rw [mayEnter_eq, liftsFinal_eq, make_eq]
  kernel_rfl


theorem over : Rows.fnExactMilnorOfSquaresRow.holds Try.pinned (OpenSpec.ofChange Rows.fnExactMilnorOfSquaresSpec) :=
  OpenClaim.holds_of_wide 4 Try.f4 rfl rfl rfl rfl rfl rfl rfl ⟨rfl, rfl, rfl, rfl, rfl⟩ rfl rfl rfl rfl rfl (by kernel_rfl) Try.func4 closed
    (of_decide_eq_true (by kernel_rfl)) (by unfold Func.isWrapper; first | (rw [if_pos (by decide +kernel)]; kernel_rfl) | (rw [if_neg (by decide +kernel)]; exact ⟨rfl, rfl⟩))
    (fun os started H enc _ => lifted os started H enc)

theorem proved : Rows.FnExactMilnorOfSquaresSaid := over
#print axioms proved
end Go.Proofs.Ytpgmggkpnefaeaa.fnExactMilnorOfSquares
