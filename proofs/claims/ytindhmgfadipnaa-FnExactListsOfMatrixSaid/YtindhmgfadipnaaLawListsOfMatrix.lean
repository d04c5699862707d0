/- The statement on FnExactListsOfMatrix: for every input the call returns true, and each argument reads behind the call as it read before. No condition. The frame is written by a program of this repo after the kit's shell. -/
import Derived.Test.YtindhmgfadipnaaLists
import Derived.Test.YtindhmgfadipnaaKit2
import Derived.Test.YtindhmgfadipnaaFrm
import Derived.Test.YtindhmgfadipnaaRows
import Derived.WalkKit
import Derived.ProofKit
import Derived.OpenShut
import Derived.ShutString
import Derived.ChangeOld
import Derived.Below
import Derived.Lib.SmallJoins
import Derived.Deep.RegionHeld3
namespace Go.Proofs.Ytindhmgfadipnaa.fnExactListsOfMatrix
open Go.Joins Go.ChangeShapes Go.WideShapes Go.ChangeAt Go.RowKit
open Go.ChangeMaps (open_string shut_string)
set_option linter.unusedVariables false

theorem own : ownKnob Try.prog.godebug = none := by kernel_rfl
theorem laidOut : laidOutB Try.prog = true := by kernel_rfl

set_option maxRecDepth 100000 in
set_option maxHeartbeats 2000000 in
theorem walk (k0 : Int) (A0 : Option Addr) (n0 c0 : Nat) (X0 : List Int) (w : World) (wk0 : I64 k0) (r0 : RI w A0 n0 X0) :
    Calls Try.prog 8 #[.agg #[.int .i64 k0, .slice A0 n0 c0]] w fun e w' => e = .returned (.bool true) ∧ Below w.heap.size w w' := by
  have hbox : Below w.heap.size w (w.alloc (.cells #[.int .i64 k0, .slice A0 n0 c0] 38)) := (Below.refl w.heap.size w).alloc (Nat.le_refl _) _
  have HX0_0 := Lib.hid (show (w.alloc (.cells #[.int .i64 k0, .slice A0 n0 c0] 38)).cell? ⟨w.heap.size, 0, none⟩ = some (.int .i64 k0) by
    have h1 : (w.alloc (.cells #[.int .i64 k0, .slice A0 n0 c0] 38)).cell? ⟨w.heap.size, 0, none⟩ = some (.int .i64 k0) := by rw [World.cell?_alloc_at _ _ _ _ (by simp)]; rfl
    exact h1)
  have HX0_1 := Lib.hid (show (w.alloc (.cells #[.int .i64 k0, .slice A0 n0 c0] 38)).cell? ⟨w.heap.size, 1, none⟩ = some (.slice A0 n0 c0) by
    have h1 : (w.alloc (.cells #[.int .i64 k0, .slice A0 n0 c0] 38)).cell? ⟨w.heap.size, 1, none⟩ = some (.slice A0 n0 c0) := by rw [World.cell?_alloc_at _ _ _ _ (by simp)]; rfl
    exact h1)
  have HXS0 := Lib.hid (show w.heap.size < (w.alloc (.cells #[.int .i64 k0, .slice A0 n0 c0] 38)).heap.size by simp)
  have HB00 := Lib.hid hbox
  have HR0 := Lib.hid (r0.below hbox)
  have S0 := r0.small
  clear r0
  have HW0 := Lib.hid wk0
  clear wk0
  clear hbox
  by_cases hn0 : n0 ≤ 1048576
  rotate_left
  · go_enter Try.func8, Try.ntmps8
    go_wp2_with fail
    generalize (w.alloc (.cells #[.int .i64 k0, .slice A0 n0 c0] 38)) = W0 at *
    refine (szno_Matrix (HR0.out.below (Below.refl W0.heap.size W0)) ?_).mono ?_
    · omega
    rintro e W1 ⟨rfl, hb⟩
    have HZ1 := Lib.hid hb.size
    have HB1 := Lib.hid ((Below.refl W0.heap.size W0).trans (hb.mono (Below.refl W0.heap.size W0).size))
    have HX0_0_1 := Lib.hid ((hb.cell (p := ⟨w.heap.size, 0, none⟩) HXS0.out).trans HX0_0.out)
    have HX0_1_1 := Lib.hid ((hb.cell (p := ⟨w.heap.size, 1, none⟩) HXS0.out).trans HX0_1.out)
    have HXS0_1 := Lib.hid (Nat.lt_of_lt_of_le HXS0.out hb.size)
    clear hb
    go_wp2
    go_ret
    exact ⟨rfl, HB00.out.trans ((HB1.out).mono HB00.out.size)⟩
  go_enter Try.func8, Try.ntmps8
  go_wp2_with fail
  generalize (w.alloc (.cells #[.int .i64 k0, .slice A0 n0 c0] 38)) = W0 at *
  refine (sz_Matrix (HR0.out.below (Below.refl W0.heap.size W0)) ?_).mono ?_
  · omega
  rintro e W1 ⟨rfl, hb⟩
  have HZ1 := Lib.hid hb.size
  have HB1 := Lib.hid ((Below.refl W0.heap.size W0).trans (hb.mono (Below.refl W0.heap.size W0).size))
  have HX0_0_1 := Lib.hid ((hb.cell (p := ⟨w.heap.size, 0, none⟩) HXS0.out).trans HX0_0.out)
  have HX0_1_1 := Lib.hid ((hb.cell (p := ⟨w.heap.size, 1, none⟩) HXS0.out).trans HX0_1.out)
  have HXS0_1 := Lib.hid (Nat.lt_of_lt_of_le HXS0.out hb.size)
  clear hb
  have cx0_0 := HX0_0_1.out
  have cx0_1 := HX0_1_1.out
  go_wp2_with fail
  clear cx0_0 cx0_1
  refine (to_Matrix (HR0.out.below (HB1.out)) (by omega)).mono ?_
  rintro e W2 ⟨Gu0, rfl, ho, hb⟩
  have HZ2 := Lib.hid hb.size
  have HB2 := Lib.hid ((HB1.out).trans (hb.mono (HB1.out).size))
  have HX0_0_2 := Lib.hid ((hb.cell (p := ⟨w.heap.size, 0, none⟩) HXS0_1.out).trans HX0_0_1.out)
  have HX0_1_2 := Lib.hid ((hb.cell (p := ⟨w.heap.size, 1, none⟩) HXS0_1.out).trans HX0_1_1.out)
  have HXS0_2 := Lib.hid (Nat.lt_of_lt_of_le HXS0_1.out hb.size)
  clear hb
  have HLu0_2 := Lib.hid ho
  clear ho
  have HTu0 := Lib.hid HLu0_2.out.ins
  have cx0_0 := HX0_0_2.out
  have cx0_1 := HX0_1_2.out
  go_wp2_with fail
  clear cx0_0 cx0_1
  refine (spec_ListsOfMatrix HW0.out HLu0_2.out.reads (by omega)).mono ?_
  rintro e W3 ⟨AW, nW, cW, vW, rfl, ho, hb⟩
  have HZ3 := Lib.hid hb.size
  have HB3 := Lib.hid ((HB2.out).trans (hb.mono (HB2.out).size))
  have HLu0_3 := Lib.hid (HLu0_2.out.below hb)
  have HX0_0_3 := Lib.hid ((hb.cell (p := ⟨w.heap.size, 0, none⟩) HXS0_2.out).trans HX0_0_2.out)
  have HX0_1_3 := Lib.hid ((hb.cell (p := ⟨w.heap.size, 1, none⟩) HXS0_2.out).trans HX0_1_2.out)
  have HXS0_3 := Lib.hid (Nat.lt_of_lt_of_le HXS0_2.out hb.size)
  clear hb
  have HLW_3 := Lib.hid ho
  clear ho
  have HTW := Lib.hid HLW_3.out.ins
  have HRW := Lib.hid HLW_3.out.reads
  have cx0_0 := HX0_0_3.out
  have cx0_1 := HX0_1_3.out
  go_wp2_with fail
  clear cx0_0 cx0_1
  refine (to_Matrix (HR0.out.below (HB3.out)) (by omega)).mono ?_
  rintro e W4 ⟨Gx0, rfl, ho, hb⟩
  have HZ4 := Lib.hid hb.size
  have HB4 := Lib.hid ((HB3.out).trans (hb.mono (HB3.out).size))
  have HS4 := Lib.hid hb
  have HX0_0_4 := Lib.hid ((hb.cell (p := ⟨w.heap.size, 0, none⟩) HXS0_3.out).trans HX0_0_3.out)
  have HX0_1_4 := Lib.hid ((hb.cell (p := ⟨w.heap.size, 1, none⟩) HXS0_3.out).trans HX0_1_3.out)
  have HXS0_4 := Lib.hid (Nat.lt_of_lt_of_le HXS0_3.out hb.size)
  clear hb
  have HLx0_4 := Lib.hid ho
  clear ho
  have HTx0 := Lib.hid HLx0_4.out.ins
  have hb := box_below W4 (.cells #[.int .i64 k0, .slice (some ⟨Gx0, 0, none⟩) n0 n0] 40)
  have HXx0_0_5 := Lib.hid (show (W4.alloc (.cells #[.int .i64 k0, .slice (some ⟨Gx0, 0, none⟩) n0 n0] 40)).cell? ⟨W4.heap.size, 0, none⟩ = some (.int .i64 k0) by rw [World.cell?_alloc_at _ _ _ _ rfl]; rfl)
  have HXx0_1_5 := Lib.hid (show (W4.alloc (.cells #[.int .i64 k0, .slice (some ⟨Gx0, 0, none⟩) n0 n0] 40)).cell? ⟨W4.heap.size, 1, none⟩ = some (.slice (some ⟨Gx0, 0, none⟩) n0 n0) by rw [World.cell?_alloc_at _ _ _ _ rfl]; rfl)
  have HXSx0_5 := Lib.hid (show W4.heap.size < (W4.alloc (.cells #[.int .i64 k0, .slice (some ⟨Gx0, 0, none⟩) n0 n0] 40)).heap.size by simp)
  have HZ5 := Lib.hid hb.size
  have HB5 := Lib.hid ((HB4.out).trans (hb.mono (HB4.out).size))
  have HS5 := Lib.hid (HS4.out.trans (hb.mono HS4.out.size))
  have HLx0_5 := Lib.hid (HLx0_4.out.below hb)
  have HX0_0_5 := Lib.hid ((hb.cell (p := ⟨w.heap.size, 0, none⟩) HXS0_4.out).trans HX0_0_4.out)
  have HX0_1_5 := Lib.hid ((hb.cell (p := ⟨w.heap.size, 1, none⟩) HXS0_4.out).trans HX0_1_4.out)
  have HXS0_5 := Lib.hid (Nat.lt_of_lt_of_le HXS0_4.out hb.size)
  clear hb
  have cx0_0 := HX0_0_5.out
  have cx0_1 := HX0_1_5.out
  have cxx0_0 := HXx0_0_5.out
  have cxx0_1 := HXx0_1_5.out
  go_wp2_with fail
  clear cx0_0 cx0_1 cxx0_0 cxx0_1
  generalize (W4.alloc (.cells #[.int .i64 k0, .slice (some ⟨Gx0, 0, none⟩) n0 n0] 40)) = W5 at *
  refine (impl_ListsOfMatrix HW0.out HLx0_5.out.reads (by omega)).mono ?_
  rintro e W6 ⟨Ag, ng, cg, vg, rfl, ho, hb⟩
  have HZ6 := Lib.hid hb.size
  have HB6 := Lib.hid ((HB5.out).trans (hb.mono (HB5.out).size))
  have HS6 := Lib.hid (HS5.out.trans (hb.mono HS5.out.size))
  have HLx0_6 := Lib.hid (HLx0_5.out.below hb)
  have HX0_0_6 := Lib.hid ((hb.cell (p := ⟨w.heap.size, 0, none⟩) HXS0_5.out).trans HX0_0_5.out)
  have HX0_1_6 := Lib.hid ((hb.cell (p := ⟨w.heap.size, 1, none⟩) HXS0_5.out).trans HX0_1_5.out)
  have HXS0_6 := Lib.hid (Nat.lt_of_lt_of_le HXS0_5.out hb.size)
  have HXx0_0_6 := Lib.hid ((hb.cell (p := ⟨W4.heap.size, 0, none⟩) HXSx0_5.out).trans HXx0_0_5.out)
  have HXx0_1_6 := Lib.hid ((hb.cell (p := ⟨W4.heap.size, 1, none⟩) HXSx0_5.out).trans HXx0_1_5.out)
  have HXSx0_6 := Lib.hid (Nat.lt_of_lt_of_le HXSx0_5.out hb.size)
  clear hb
  have HLg_6 := Lib.hid ho
  clear ho
  have HTg := Lib.hid HLg_6.out.ins
  obtain rfl : ng = nW := by rw [← HLg_6.out.len, HRW.out.len]
  have cx0_0 := HX0_0_6.out
  have cx0_1 := HX0_1_6.out
  have cxx0_0 := HXx0_0_6.out
  have cxx0_1 := HXx0_1_6.out
  go_wp2_with fail
  clear cx0_0 cx0_1 cxx0_0 cxx0_1
  refine (eq_Int64SS HLg_6.out.reads (HRW.out.below HS6.out)).mono ?_
  rintro e W7 ⟨rfl, hb⟩
  have HZ7 := Lib.hid hb.size
  have HB7 := Lib.hid ((HB6.out).trans (hb.mono (HB6.out).size))
  have HS7 := Lib.hid (HS6.out.trans (hb.mono HS6.out.size))
  have HLx0_7 := Lib.hid (HLx0_6.out.below hb)
  have HLg_7 := Lib.hid (HLg_6.out.below hb)
  have HX0_0_7 := Lib.hid ((hb.cell (p := ⟨w.heap.size, 0, none⟩) HXS0_6.out).trans HX0_0_6.out)
  have HX0_1_7 := Lib.hid ((hb.cell (p := ⟨w.heap.size, 1, none⟩) HXS0_6.out).trans HX0_1_6.out)
  have HXS0_7 := Lib.hid (Nat.lt_of_lt_of_le HXS0_6.out hb.size)
  have HXx0_0_7 := Lib.hid ((hb.cell (p := ⟨W4.heap.size, 0, none⟩) HXSx0_6.out).trans HXx0_0_6.out)
  have HXx0_1_7 := Lib.hid ((hb.cell (p := ⟨W4.heap.size, 1, none⟩) HXSx0_6.out).trans HXx0_1_6.out)
  have HXSx0_7 := Lib.hid (Nat.lt_of_lt_of_le HXSx0_6.out hb.size)
  clear hb
  have cx0_0 := HX0_0_7.out
  have cx0_1 := HX0_1_7.out
  have cxx0_0 := HXx0_0_7.out
  have cxx0_1 := HXx0_1_7.out
  go_wp2_with fail
  go_region_held3 (fun w' => w'.cell? ⟨W4.heap.size, 0, none⟩ = some (.int .i64 k0) ∧ w'.cell? ⟨W4.heap.size, 1, none⟩ = some (.slice (some ⟨Gx0, 0, none⟩) n0 n0) ∧ w'.cell? ⟨w.heap.size, 0, none⟩ = some (.int .i64 k0) ∧ w'.cell? ⟨w.heap.size, 1, none⟩ = some (.slice A0 n0 c0)) (first | go_keep | exact ⟨by assumption, by assumption, by assumption, by assumption⟩) ((first | (go_at_call 32; refine (to_Matrix (HR0.out.below (by exact ⟨(HB7.out).os, (HB7.out).tape, (HB7.out).output, (HB7.out).size, (HB7.out).block⟩)) (by omega)).mono ?_; rintro e W8 ⟨Gy0, rfl, ho, hb0⟩; have hb : Below W7.heap.size W7 W8 := ⟨hb0.os, hb0.tape, hb0.output, hb0.size, hb0.block⟩; clear hb0; clear cx0_0 cx0_1 cxx0_0 cxx0_1; have HZ8 := Lib.hid hb.size; have HB8 := Lib.hid ((HB7.out).trans (hb.mono (HB7.out).size)); have HS8 := Lib.hid (HS7.out.trans (hb.mono HS7.out.size)); have HLx0_8 := Lib.hid (HLx0_7.out.below hb); have HLg_8 := Lib.hid (HLg_7.out.below hb); have HX0_0_8 := Lib.hid ((hb.cell (p := ⟨w.heap.size, 0, none⟩) HXS0_7.out).trans HX0_0_7.out); have HX0_1_8 := Lib.hid ((hb.cell (p := ⟨w.heap.size, 1, none⟩) HXS0_7.out).trans HX0_1_7.out); have HXS0_8 := Lib.hid (Nat.lt_of_lt_of_le HXS0_7.out hb.size); have HXx0_0_8 := Lib.hid ((hb.cell (p := ⟨W4.heap.size, 0, none⟩) HXSx0_7.out).trans HXx0_0_7.out); have HXx0_1_8 := Lib.hid ((hb.cell (p := ⟨W4.heap.size, 1, none⟩) HXSx0_7.out).trans HXx0_1_7.out); have HXSx0_8 := Lib.hid (Nat.lt_of_lt_of_le HXSx0_7.out hb.size); clear hb; have HLy0_8 := Lib.hid ho; clear ho; have cx0_0 := HX0_0_8.out; have cx0_1 := HX0_1_8.out; have cxx0_0 := HXx0_0_8.out; have cxx0_1 := HXx0_1_8.out) | (go_at_call 34; refine (eq_Matrix (by exact HLx0_8.out.reads) (by exact HLy0_8.out.reads)).mono ?_; rintro e W9 ⟨rfl, hb0⟩; have hb : Below W8.heap.size W8 W9 := ⟨hb0.os, hb0.tape, hb0.output, hb0.size, hb0.block⟩; clear hb0; clear cx0_0 cx0_1 cxx0_0 cxx0_1; have HZ9 := Lib.hid hb.size; have HB9 := Lib.hid ((HB8.out).trans (hb.mono (HB8.out).size)); have HS9 := Lib.hid (HS8.out.trans (hb.mono HS8.out.size)); have HLx0_9 := Lib.hid (HLx0_8.out.below hb); have HLg_9 := Lib.hid (HLg_8.out.below hb); have HLy0_9 := Lib.hid (HLy0_8.out.below hb); have HX0_0_9 := Lib.hid ((hb.cell (p := ⟨w.heap.size, 0, none⟩) HXS0_8.out).trans HX0_0_8.out); have HX0_1_9 := Lib.hid ((hb.cell (p := ⟨w.heap.size, 1, none⟩) HXS0_8.out).trans HX0_1_8.out); have HXS0_9 := Lib.hid (Nat.lt_of_lt_of_le HXS0_8.out hb.size); have HXx0_0_9 := Lib.hid ((hb.cell (p := ⟨W4.heap.size, 0, none⟩) HXSx0_8.out).trans HXx0_0_8.out); have HXx0_1_9 := Lib.hid ((hb.cell (p := ⟨W4.heap.size, 1, none⟩) HXSx0_8.out).trans HXx0_1_8.out); have HXSx0_9 := Lib.hid (Nat.lt_of_lt_of_le HXSx0_8.out hb.size); clear hb; have cx0_0 := HX0_0_9.out; have cx0_1 := HX0_1_9.out; have cxx0_0 := HXx0_0_9.out; have cxx0_1 := HXx0_1_9.out)))
  clear cx0_0 cx0_1 cxx0_0 cxx0_1
  have cx0_0 := HX0_0_9.out
  have cx0_1 := HX0_1_9.out
  have cxx0_0 := HXx0_0_9.out
  have cxx0_1 := HXx0_1_9.out
  go_wp2_with fail
  clear cx0_0 cx0_1 cxx0_0 cxx0_1
  refine (mark_Matrix HLx0_9.out HTx0.out (by omega) (by omega)).mono ?_
  rintro e W10 ⟨rfl, ho, hb⟩
  have HX0_0_10 := Lib.hid ((Mid.cell hb (p := ⟨w.heap.size, 0, none⟩) HXS0_9.out (by show w.heap.size < W3.heap.size ∨ W4.heap.size ≤ w.heap.size; have q1 := HZ1.out; have q2 := HZ2.out; have q3 := HZ3.out; have q4 := HZ4.out; have q5 := HZ5.out; have q6 := HZ6.out; have q7 := HZ7.out; have q8 := HZ8.out; have q9 := HZ9.out; have r0 := HXS0.out; have r1 := HXSx0_5.out; omega)).trans HX0_0_9.out)
  have HX0_1_10 := Lib.hid ((Mid.cell hb (p := ⟨w.heap.size, 1, none⟩) HXS0_9.out (by show w.heap.size < W3.heap.size ∨ W4.heap.size ≤ w.heap.size; have q1 := HZ1.out; have q2 := HZ2.out; have q3 := HZ3.out; have q4 := HZ4.out; have q5 := HZ5.out; have q6 := HZ6.out; have q7 := HZ7.out; have q8 := HZ8.out; have q9 := HZ9.out; have r0 := HXS0.out; have r1 := HXSx0_5.out; omega)).trans HX0_1_9.out)
  have HXS0_10 := Lib.hid (Nat.lt_of_lt_of_le HXS0_9.out hb.size)
  have HXx0_0_10 := Lib.hid ((Mid.cell hb (p := ⟨W4.heap.size, 0, none⟩) HXSx0_9.out (by show W4.heap.size < W3.heap.size ∨ W4.heap.size ≤ W4.heap.size; have q1 := HZ1.out; have q2 := HZ2.out; have q3 := HZ3.out; have q4 := HZ4.out; have q5 := HZ5.out; have q6 := HZ6.out; have q7 := HZ7.out; have q8 := HZ8.out; have q9 := HZ9.out; have r0 := HXS0.out; have r1 := HXSx0_5.out; omega)).trans HXx0_0_9.out)
  have HXx0_1_10 := Lib.hid ((Mid.cell hb (p := ⟨W4.heap.size, 1, none⟩) HXSx0_9.out (by show W4.heap.size < W3.heap.size ∨ W4.heap.size ≤ W4.heap.size; have q1 := HZ1.out; have q2 := HZ2.out; have q3 := HZ3.out; have q4 := HZ4.out; have q5 := HZ5.out; have q6 := HZ6.out; have q7 := HZ7.out; have q8 := HZ8.out; have q9 := HZ9.out; have r0 := HXS0.out; have r1 := HXSx0_5.out; omega)).trans HXx0_1_9.out)
  have HXSx0_10 := Lib.hid (Nat.lt_of_lt_of_le HXSx0_9.out hb.size)
  have HZ10 := Lib.hid hb.size
  have HB10 := Lib.hid (Mid.below (HB9.out) hb (by have q1 := HZ1.out; have q2 := HZ2.out; have q3 := HZ3.out; omega) (by have q1 := HZ1.out; have q2 := HZ2.out; have q3 := HZ3.out; have q4 := HZ4.out; have q5 := HZ5.out; have q6 := HZ6.out; have q7 := HZ7.out; have q8 := HZ8.out; have q9 := HZ9.out; omega))
  have HS10 := Lib.hid (Mid.below HS9.out hb (Nat.le_refl _) (by have q4 := HZ4.out; have q5 := HZ5.out; have q6 := HZ6.out; have q7 := HZ7.out; have q8 := HZ8.out; have q9 := HZ9.out; omega))
  have HLg_10 := Lib.hid (HLg_9.out.mid hb (by have q5 := HZ5.out; omega))
  have HLx0_10 := Lib.hid ho
  clear ho hb
  have cx0_0 := HX0_0_10.out
  have cx0_1 := HX0_1_10.out
  have cxx0_0 := HXx0_0_10.out
  have cxx0_1 := HXx0_1_10.out
  go_wp2_with fail
  clear cx0_0 cx0_1 cxx0_0 cxx0_1
  refine (eq_Int64SS HLg_10.out.reads (HRW.out.below HS10.out)).mono ?_
  rintro e W11 ⟨rfl, hb⟩
  have HZ11 := Lib.hid hb.size
  have HB11 := Lib.hid ((HB10.out).trans (hb.mono (HB10.out).size))
  have HS11 := Lib.hid (HS10.out.trans (hb.mono HS10.out.size))
  have HLg_11 := Lib.hid (HLg_10.out.below hb)
  have HX0_0_11 := Lib.hid ((hb.cell (p := ⟨w.heap.size, 0, none⟩) HXS0_10.out).trans HX0_0_10.out)
  have HX0_1_11 := Lib.hid ((hb.cell (p := ⟨w.heap.size, 1, none⟩) HXS0_10.out).trans HX0_1_10.out)
  have HXS0_11 := Lib.hid (Nat.lt_of_lt_of_le HXS0_10.out hb.size)
  have HXx0_0_11 := Lib.hid ((hb.cell (p := ⟨W4.heap.size, 0, none⟩) HXSx0_10.out).trans HXx0_0_10.out)
  have HXx0_1_11 := Lib.hid ((hb.cell (p := ⟨W4.heap.size, 1, none⟩) HXSx0_10.out).trans HXx0_1_10.out)
  have HXSx0_11 := Lib.hid (Nat.lt_of_lt_of_le HXSx0_10.out hb.size)
  clear hb
  have NG := pListsOfMatrix_sz k0 X0 (by have h := HR0.out.len; omega)
  have cx0_0 := HX0_0_11.out
  have cx0_1 := HX0_1_11.out
  have cxx0_0 := HXx0_0_11.out
  have cxx0_1 := HXx0_1_11.out
  go_wp2_with fail
  clear cx0_0 cx0_1 cxx0_0 cxx0_1
  refine (mark_Int64SS HLg_11.out HTg.out (by omega) (by omega)).mono ?_
  rintro e W12 ⟨rfl, ho, hb⟩
  have HX0_0_12 := Lib.hid ((Mid.cell hb (p := ⟨w.heap.size, 0, none⟩) HXS0_11.out (by show w.heap.size < W5.heap.size ∨ W6.heap.size ≤ w.heap.size; have q1 := HZ1.out; have q2 := HZ2.out; have q3 := HZ3.out; have q4 := HZ4.out; have q5 := HZ5.out; have q6 := HZ6.out; have q7 := HZ7.out; have q8 := HZ8.out; have q9 := HZ9.out; have q10 := HZ10.out; have q11 := HZ11.out; have r0 := HXS0.out; have r1 := HXSx0_5.out; omega)).trans HX0_0_11.out)
  have HX0_1_12 := Lib.hid ((Mid.cell hb (p := ⟨w.heap.size, 1, none⟩) HXS0_11.out (by show w.heap.size < W5.heap.size ∨ W6.heap.size ≤ w.heap.size; have q1 := HZ1.out; have q2 := HZ2.out; have q3 := HZ3.out; have q4 := HZ4.out; have q5 := HZ5.out; have q6 := HZ6.out; have q7 := HZ7.out; have q8 := HZ8.out; have q9 := HZ9.out; have q10 := HZ10.out; have q11 := HZ11.out; have r0 := HXS0.out; have r1 := HXSx0_5.out; omega)).trans HX0_1_11.out)
  have HXS0_12 := Lib.hid (Nat.lt_of_lt_of_le HXS0_11.out hb.size)
  have HXx0_0_12 := Lib.hid ((Mid.cell hb (p := ⟨W4.heap.size, 0, none⟩) HXSx0_11.out (by show W4.heap.size < W5.heap.size ∨ W6.heap.size ≤ W4.heap.size; have q1 := HZ1.out; have q2 := HZ2.out; have q3 := HZ3.out; have q4 := HZ4.out; have q5 := HZ5.out; have q6 := HZ6.out; have q7 := HZ7.out; have q8 := HZ8.out; have q9 := HZ9.out; have q10 := HZ10.out; have q11 := HZ11.out; have r0 := HXS0.out; have r1 := HXSx0_5.out; omega)).trans HXx0_0_11.out)
  have HXx0_1_12 := Lib.hid ((Mid.cell hb (p := ⟨W4.heap.size, 1, none⟩) HXSx0_11.out (by show W4.heap.size < W5.heap.size ∨ W6.heap.size ≤ W4.heap.size; have q1 := HZ1.out; have q2 := HZ2.out; have q3 := HZ3.out; have q4 := HZ4.out; have q5 := HZ5.out; have q6 := HZ6.out; have q7 := HZ7.out; have q8 := HZ8.out; have q9 := HZ9.out; have q10 := HZ10.out; have q11 := HZ11.out; have r0 := HXS0.out; have r1 := HXSx0_5.out; omega)).trans HXx0_1_11.out)
  have HXSx0_12 := Lib.hid (Nat.lt_of_lt_of_le HXSx0_11.out hb.size)
  have HZ12 := Lib.hid hb.size
  have HB12 := Lib.hid (Mid.below (HB11.out) hb (by have q1 := HZ1.out; have q2 := HZ2.out; have q3 := HZ3.out; have q4 := HZ4.out; have q5 := HZ5.out; omega) (by have q1 := HZ1.out; have q2 := HZ2.out; have q3 := HZ3.out; have q4 := HZ4.out; have q5 := HZ5.out; have q6 := HZ6.out; have q7 := HZ7.out; have q8 := HZ8.out; have q9 := HZ9.out; have q10 := HZ10.out; have q11 := HZ11.out; omega))
  have HS12 := Lib.hid (Mid.below HS11.out hb (by have q4 := HZ4.out; have q5 := HZ5.out; omega) (by have q4 := HZ4.out; have q5 := HZ5.out; have q6 := HZ6.out; have q7 := HZ7.out; have q8 := HZ8.out; have q9 := HZ9.out; have q10 := HZ10.out; have q11 := HZ11.out; omega))
  have HLg_12 := Lib.hid ho
  clear ho hb
  have cx0_0 := HX0_0_12.out
  have cx0_1 := HX0_1_12.out
  have cxx0_0 := HXx0_0_12.out
  have cxx0_1 := HXx0_1_12.out
  go_wp2_with fail
  clear cx0_0 cx0_1 cxx0_0 cxx0_1
  refine (held_Int64SS HLg_12.out.reads (by omega) (by omega)).mono ?_
  rintro e W13 ⟨rfl, hb⟩
  have HZ13 := Lib.hid hb.size
  have HB13 := Lib.hid ((HB12.out).trans (hb.mono (HB12.out).size))
  have HS13 := Lib.hid (HS12.out.trans (hb.mono HS12.out.size))
  have HLg_13 := Lib.hid (HLg_12.out.below hb)
  have HX0_0_13 := Lib.hid ((hb.cell (p := ⟨w.heap.size, 0, none⟩) HXS0_12.out).trans HX0_0_12.out)
  have HX0_1_13 := Lib.hid ((hb.cell (p := ⟨w.heap.size, 1, none⟩) HXS0_12.out).trans HX0_1_12.out)
  have HXS0_13 := Lib.hid (Nat.lt_of_lt_of_le HXS0_12.out hb.size)
  have HXx0_0_13 := Lib.hid ((hb.cell (p := ⟨W4.heap.size, 0, none⟩) HXSx0_12.out).trans HXx0_0_12.out)
  have HXx0_1_13 := Lib.hid ((hb.cell (p := ⟨W4.heap.size, 1, none⟩) HXSx0_12.out).trans HXx0_1_12.out)
  have HXSx0_13 := Lib.hid (Nat.lt_of_lt_of_le HXSx0_12.out hb.size)
  clear hb
  have cx0_0 := HX0_0_13.out
  have cx0_1 := HX0_1_13.out
  have cxx0_0 := HXx0_0_13.out
  have cxx0_1 := HXx0_1_13.out
  go_wp2_with fail
  clear cx0_0 cx0_1 cxx0_0 cxx0_1
  refine (to_Matrix (HR0.out.below (HB13.out)) (by omega)).mono ?_
  rintro e W14 ⟨Gv0, rfl, ho, hb⟩
  have HZ14 := Lib.hid hb.size
  have HB14 := Lib.hid ((HB13.out).trans (hb.mono (HB13.out).size))
  have HS14 := Lib.hid (HS13.out.trans (hb.mono HS13.out.size))
  have HLg_14 := Lib.hid (HLg_13.out.below hb)
  have HX0_0_14 := Lib.hid ((hb.cell (p := ⟨w.heap.size, 0, none⟩) HXS0_13.out).trans HX0_0_13.out)
  have HX0_1_14 := Lib.hid ((hb.cell (p := ⟨w.heap.size, 1, none⟩) HXS0_13.out).trans HX0_1_13.out)
  have HXS0_14 := Lib.hid (Nat.lt_of_lt_of_le HXS0_13.out hb.size)
  have HXx0_0_14 := Lib.hid ((hb.cell (p := ⟨W4.heap.size, 0, none⟩) HXSx0_13.out).trans HXx0_0_13.out)
  have HXx0_1_14 := Lib.hid ((hb.cell (p := ⟨W4.heap.size, 1, none⟩) HXSx0_13.out).trans HXx0_1_13.out)
  have HXSx0_14 := Lib.hid (Nat.lt_of_lt_of_le HXSx0_13.out hb.size)
  clear hb
  have HLv0_14 := Lib.hid ho
  clear ho
  have HTv0 := Lib.hid HLv0_14.out.ins
  have cx0_0 := HX0_0_14.out
  have cx0_1 := HX0_1_14.out
  have cxx0_0 := HXx0_0_14.out
  have cxx0_1 := HXx0_1_14.out
  go_wp2_with fail
  clear cx0_0 cx0_1 cxx0_0 cxx0_1
  refine (impl_ListsOfMatrix HW0.out HLv0_14.out.reads (by omega)).mono ?_
  rintro e W15 ⟨Ah, nh, ch, vh, rfl, ho, hb⟩
  have HZ15 := Lib.hid hb.size
  have HB15 := Lib.hid ((HB14.out).trans (hb.mono (HB14.out).size))
  have HS15 := Lib.hid (HS14.out.trans (hb.mono HS14.out.size))
  have HLg_15 := Lib.hid (HLg_14.out.below hb)
  have HLv0_15 := Lib.hid (HLv0_14.out.below hb)
  have HX0_0_15 := Lib.hid ((hb.cell (p := ⟨w.heap.size, 0, none⟩) HXS0_14.out).trans HX0_0_14.out)
  have HX0_1_15 := Lib.hid ((hb.cell (p := ⟨w.heap.size, 1, none⟩) HXS0_14.out).trans HX0_1_14.out)
  have HXS0_15 := Lib.hid (Nat.lt_of_lt_of_le HXS0_14.out hb.size)
  have HXx0_0_15 := Lib.hid ((hb.cell (p := ⟨W4.heap.size, 0, none⟩) HXSx0_14.out).trans HXx0_0_14.out)
  have HXx0_1_15 := Lib.hid ((hb.cell (p := ⟨W4.heap.size, 1, none⟩) HXSx0_14.out).trans HXx0_1_14.out)
  have HXSx0_15 := Lib.hid (Nat.lt_of_lt_of_le HXSx0_14.out hb.size)
  clear hb
  have HLh_15 := Lib.hid ho
  clear ho
  have HTh := Lib.hid HLh_15.out.ins
  obtain rfl : nh = ng := by rw [← HLh_15.out.len, HRW.out.len]
  have cx0_0 := HX0_0_15.out
  have cx0_1 := HX0_1_15.out
  have cxx0_0 := HXx0_0_15.out
  have cxx0_1 := HXx0_1_15.out
  go_wp2_with fail
  clear cx0_0 cx0_1 cxx0_0 cxx0_1
  refine (eq_Int64SS HLh_15.out.reads (HRW.out.below HS15.out)).mono ?_
  rintro e W16 ⟨rfl, hb⟩
  have HZ16 := Lib.hid hb.size
  have HB16 := Lib.hid ((HB15.out).trans (hb.mono (HB15.out).size))
  have HS16 := Lib.hid (HS15.out.trans (hb.mono HS15.out.size))
  have HLg_16 := Lib.hid (HLg_15.out.below hb)
  have HLv0_16 := Lib.hid (HLv0_15.out.below hb)
  have HLh_16 := Lib.hid (HLh_15.out.below hb)
  have HX0_0_16 := Lib.hid ((hb.cell (p := ⟨w.heap.size, 0, none⟩) HXS0_15.out).trans HX0_0_15.out)
  have HX0_1_16 := Lib.hid ((hb.cell (p := ⟨w.heap.size, 1, none⟩) HXS0_15.out).trans HX0_1_15.out)
  have HXS0_16 := Lib.hid (Nat.lt_of_lt_of_le HXS0_15.out hb.size)
  have HXx0_0_16 := Lib.hid ((hb.cell (p := ⟨W4.heap.size, 0, none⟩) HXSx0_15.out).trans HXx0_0_15.out)
  have HXx0_1_16 := Lib.hid ((hb.cell (p := ⟨W4.heap.size, 1, none⟩) HXSx0_15.out).trans HXx0_1_15.out)
  have HXSx0_16 := Lib.hid (Nat.lt_of_lt_of_le HXSx0_15.out hb.size)
  clear hb
  have cx0_0 := HX0_0_16.out
  have cx0_1 := HX0_1_16.out
  have cxx0_0 := HXx0_0_16.out
  have cxx0_1 := HXx0_1_16.out
  go_wp2_with fail
  clear cx0_0 cx0_1 cxx0_0 cxx0_1
  refine (held_Int64SS HLg_16.out.reads (by omega) (by omega)).mono ?_
  rintro e W17 ⟨rfl, hb⟩
  have HZ17 := Lib.hid hb.size
  have HB17 := Lib.hid ((HB16.out).trans (hb.mono (HB16.out).size))
  have HS17 := Lib.hid (HS16.out.trans (hb.mono HS16.out.size))
  have HLg_17 := Lib.hid (HLg_16.out.below hb)
  have HLv0_17 := Lib.hid (HLv0_16.out.below hb)
  have HLh_17 := Lib.hid (HLh_16.out.below hb)
  have HX0_0_17 := Lib.hid ((hb.cell (p := ⟨w.heap.size, 0, none⟩) HXS0_16.out).trans HX0_0_16.out)
  have HX0_1_17 := Lib.hid ((hb.cell (p := ⟨w.heap.size, 1, none⟩) HXS0_16.out).trans HX0_1_16.out)
  have HXS0_17 := Lib.hid (Nat.lt_of_lt_of_le HXS0_16.out hb.size)
  have HXx0_0_17 := Lib.hid ((hb.cell (p := ⟨W4.heap.size, 0, none⟩) HXSx0_16.out).trans HXx0_0_16.out)
  have HXx0_1_17 := Lib.hid ((hb.cell (p := ⟨W4.heap.size, 1, none⟩) HXSx0_16.out).trans HXx0_1_16.out)
  have HXSx0_17 := Lib.hid (Nat.lt_of_lt_of_le HXSx0_16.out hb.size)
  clear hb
  have cx0_0 := HX0_0_17.out
  have cx0_1 := HX0_1_17.out
  have cxx0_0 := HXx0_0_17.out
  have cxx0_1 := HXx0_1_17.out
  go_wp2
  go_ret
  exact ⟨rfl, HB00.out.trans ((HB17.out).mono HB00.out.size)⟩

set_option maxRecDepth 100000 in
theorem lifted (os : Os) (started : os.Started) (H : Type) (enc : TypeId × Value → H) :
    ReturnsInHanded {} Try.checked os 8 .any (Rows.fnExactListsOfMatrixSpec.pre6 enc Try.prog Try.f8 Rows.fnExactListsOfMatrixRow.domain false) (Rows.fnExactListsOfMatrixSpec.post enc Try.prog Try.f8 false true false false) := by
  refine returnsInHanded_of_change (C := Try.checked) own started (by kernel_rfl) Try.func8
    (ChangeSpec.witness6 (enc := enc) (C := Try.checked) false ⟨#[], #[.agg #[.int .i64 0, .slice none 0 0]], []⟩ 8 (by kernel_rfl) (by kernel_rfl) (by kernel_rfl) (by kernel_rfl)) ?_
  intro W base args ds gs before hval0 hW hcnd _
  have hval : ∀ (j : Nat) t v, Try.f8.params[j]? = some t → args[j]? = some v → Value.okWide Try.prog W .any base t v := hval0
  have hW' := hW
  obtain ⟨p, q, hA0, hV, rfl, hfz, hnd⟩ := hW
  have hA : DataW.TrodAll enc Try.prog W 0 (fun _ => true) true Try.f8.params.toList args.toList ds p := hA0
  rw [Try.params8] at hA hval
  obtain ⟨v0, vs0, d0, ds0, p0, q0, hargs, rfl, rfl, h0, r0⟩ := trodAll_cons hA
  obtain ⟨rfl, rfl, rfl⟩ := trodAll_nil r0
  obtain rfl : args = #[v0] := by cases args; simp_all
  obtain ⟨rfl, rfl⟩ := trodVars_none hV
  have t0 := h0
  have lt0 : ∀ x ∈ p0, x.block < W.heap.size := by obtain ⟨m, hm⟩ := t0; exact DataW.trod_lt m _ _ _ hm
  obtain ⟨c00, c10, y00, y10, m0, hv0, hd0, hp0, hy00, hy0⟩ := open_agg2 Try.underlying38 (by kernel_rfl) (by kernel_rfl) (hval 0 38 v0 rfl rfl) h0
  obtain ⟨k0, e0, _, wk0⟩ := DataW.trod_int Try.underlying2 hy00
  obtain ⟨A0, n0, c0, X0, g0, rr0⟩ := open_LL hy0
  have g01 := List.cons.inj g0
  have g02 := g01.1
  have e01 := (List.cons.inj e0).1
  rw [e01, g02] at hv0
  clear hy0 g0 g01
  subst hv0
  clear hA0 hval0
  refine (walk k0 A0 n0 c0 X0 W wk0 rr0).mono fun e W' ⟨he, bel⟩ => ?_
  subst he
  exact ⟨_, rfl, _, _, _, [], _, [], hW', trodAll_mk1 (shut_bool Try.underlying4 _), (trodAll_cons_mk (Below.trod laidOut (by kernel_rfl) (of_decide_eq_true (by kernel_rfl)) t0 bel lt0) trodAll_mk0), rfl, bel.frame _, fun h => by cases h⟩

theorem closed : joinedFacts Try.prog 8 Try.f8 Rows.fnExactListsOfMatrixSpec Rows.fnExactListsOfMatrixRow = true := by
  unfold joinedFacts
  rw [mayEnter_eq, liftsFinal_eq, make_eq]
  kernel_rfl


theorem over : Rows.fnExactListsOfMatrixRow.holds Try.pinned (OpenSpec.ofChange Rows.fnExactListsOfMatrixSpec) :=
  OpenClaim.holds_of_wide 8 Try.f8 rfl rfl rfl rfl rfl rfl rfl ⟨rfl, rfl, rfl, rfl, rfl⟩ rfl rfl rfl rfl rfl (by kernel_rfl) Try.func8 closed
    (of_decide_eq_true (by kernel_rfl)) (by unfold Func.isWrapper; first | (rw [if_pos (by decide +kernel)]; kernel_rfl) | (rw [if_neg (by decide +kernel)]; exact ⟨rfl, rfl⟩))
    (fun os started H enc _ => lifted os started H enc)

theorem proved : Rows.FnExactListsOfMatrixSaid := over
#print axioms proved
end Go.Proofs.Ytindhmgfadipnaa.fnExactListsOfMatrix
