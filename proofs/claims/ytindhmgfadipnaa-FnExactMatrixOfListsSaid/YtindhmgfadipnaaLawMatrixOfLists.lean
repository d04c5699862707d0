/- The statement on FnExactMatrixOfLists: for every input the call returns true, and each argument reads behind the call as it read before. No condition. The frame is written by a program of this repo after the kit's shell. -/
import Derived.Test.YtindhmgfadipnaaMolS
import Derived.Test.YtindhmgfadipnaaKit2
import Derived.Test.YtindhmgfadipnaaFrm
import Derived.Test.YtindhmgfadipnaaRows
import Derived.WalkKit
import Derived.ProofKit
import Derived.OpenShut
import Derived.ShutString
import Derived.ChangeOld
import Derived.Below
import Derived.Lib.SmallJoins
import Derived.Deep.RegionHeld3
import Derived.Deep.RegionWith
namespace Go.Proofs.Ytindhmgfadipnaa.fnExactMatrixOfLists
open Go.Joins Go.ChangeShapes Go.WideShapes Go.ChangeAt Go.RowKit
open Go.ChangeMaps (open_string shut_string)
set_option linter.unusedVariables false

theorem own : ownKnob Try.prog.godebug = none := by kernel_rfl
theorem laidOut : laidOutB Try.prog = true := by kernel_rfl

set_option maxRecDepth 100000 in
set_option maxHeartbeats 2000000 in
theorem walk (a0 : Int) (A1 : Option Addr) (n1 c1 : Nat) (V1 : List Sl) (X1 : List (List Int)) (w : World) (w0 : I64 a0) (r1 : RS w A1 n1 V1 X1) :
    Calls Try.prog 7 #[.int .i64 a0, .slice A1 n1 c1] w fun e w' => e = .returned (.bool true) ∧ Below w.heap.size w w' := by
  have HR1 := Lib.hid r1
  have S1 := r1.small
  clear r1
  have HW0 := Lib.hid w0
  clear w0
  by_cases hn1 : (n1 + tot X1) ≤ 1048576
  rotate_left
  · go_enter Try.func7, Try.ntmps7
    go_wp2_with fail
    refine (szno_Int64SS (HR1.out.below (Below.refl w.heap.size w)) ?_).mono ?_
    · omega
    rintro e W1 ⟨rfl, hb⟩
    have HZ1 := Lib.hid hb.size
    have HB1 := Lib.hid ((Below.refl w.heap.size w).trans (hb.mono (Below.refl w.heap.size w).size))
    clear hb
    go_wp2
    go_ret
    exact ⟨rfl, HB1.out⟩
  go_enter Try.func7, Try.ntmps7
  go_wp2_with fail
  refine (sz_Int64SS (HR1.out.below (Below.refl w.heap.size w)) ?_).mono ?_
  · omega
  rintro e W1 ⟨rfl, hb⟩
  have HZ1 := Lib.hid hb.size
  have HB1 := Lib.hid ((Below.refl w.heap.size w).trans (hb.mono (Below.refl w.heap.size w).size))
  clear hb
  go_wp2_with fail
  refine (to_Int64SS (HR1.out.below (HB1.out)) (by omega)).mono ?_
  rintro e W2 ⟨Gu1, Vu1, rfl, ho, hb⟩
  have HZ2 := Lib.hid hb.size
  have HB2 := Lib.hid ((HB1.out).trans (hb.mono (HB1.out).size))
  clear hb
  have HLu1_2 := Lib.hid ho
  clear ho
  have HTu1 := Lib.hid HLu1_2.out.ins
  go_wp2_with fail
  refine (spec_MatrixOfLists HW0.out HLu1_2.out.reads (by omega)).mono ?_
  rintro e W3 ⟨AW, nW, cW, rfl, ho, hb⟩
  have HZ3 := Lib.hid hb.size
  have HB3 := Lib.hid ((HB2.out).trans (hb.mono (HB2.out).size))
  have HLu1_3 := Lib.hid (HLu1_2.out.below hb)
  clear hb
  have HLW_3 := Lib.hid ho
  clear ho
  have HTW := Lib.hid HLW_3.out.ins
  have HRW := Lib.hid HLW_3.out.reads
  have hb := box_below W3 (.cells #[.int .i64 (pMatrixOfLists a0 X1).1.1, .slice AW nW cW] 40)
  have HXW_0_4 := Lib.hid (show (W3.alloc (.cells #[.int .i64 (pMatrixOfLists a0 X1).1.1, .slice AW nW cW] 40)).cell? ⟨W3.heap.size, 0, none⟩ = some (.int .i64 (pMatrixOfLists a0 X1).1.1) by rw [World.cell?_alloc_at _ _ _ _ rfl]; rfl)
  have HXW_1_4 := Lib.hid (show (W3.alloc (.cells #[.int .i64 (pMatrixOfLists a0 X1).1.1, .slice AW nW cW] 40)).cell? ⟨W3.heap.size, 1, none⟩ = some (.slice AW nW cW) by rw [World.cell?_alloc_at _ _ _ _ rfl]; rfl)
  have HXSW_4 := Lib.hid (show W3.heap.size < (W3.alloc (.cells #[.int .i64 (pMatrixOfLists a0 X1).1.1, .slice AW nW cW] 40)).heap.size by simp)
  have HZ4 := Lib.hid hb.size
  have HB4 := Lib.hid ((HB3.out).trans (hb.mono (HB3.out).size))
  have HS4 := Lib.hid hb
  clear hb
  have cxW_0 := HXW_0_4.out
  have cxW_1 := HXW_1_4.out
  go_wp2_with fail
  clear cxW_0 cxW_1
  generalize (W3.alloc (.cells #[.int .i64 (pMatrixOfLists a0 X1).1.1, .slice AW nW cW] 40)) = W4 at *
  refine (to_Int64SS (HR1.out.below (HB4.out)) (by omega)).mono ?_
  rintro e W5 ⟨Gx1, Vx1, rfl, ho, hb⟩
  have HZ5 := Lib.hid hb.size
  have HB5 := Lib.hid ((HB4.out).trans (hb.mono (HB4.out).size))
  have HS5 := Lib.hid (HS4.out.trans (hb.mono HS4.out.size))
  have HXW_0_5 := Lib.hid ((hb.cell (p := ⟨W3.heap.size, 0, none⟩) HXSW_4.out).trans HXW_0_4.out)
  have HXW_1_5 := Lib.hid ((hb.cell (p := ⟨W3.heap.size, 1, none⟩) HXSW_4.out).trans HXW_1_4.out)
  have HXSW_5 := Lib.hid (Nat.lt_of_lt_of_le HXSW_4.out hb.size)
  clear hb
  have HLx1_5 := Lib.hid ho
  clear ho
  have HTx1 := Lib.hid HLx1_5.out.ins
  have cxW_0 := HXW_0_5.out
  have cxW_1 := HXW_1_5.out
  go_wp2_with fail
  clear cxW_0 cxW_1
  refine (impl_MatrixOfLists HW0.out HLx1_5.out.reads (by omega)).mono ?_
  rintro e W6 ⟨Ag, ng, cg, rfl, ho, hb⟩
  have HZ6 := Lib.hid hb.size
  have HB6 := Lib.hid ((HB5.out).trans (hb.mono (HB5.out).size))
  have HS6 := Lib.hid (HS5.out.trans (hb.mono HS5.out.size))
  have HLx1_6 := Lib.hid (HLx1_5.out.below hb)
  have HXW_0_6 := Lib.hid ((hb.cell (p := ⟨W3.heap.size, 0, none⟩) HXSW_5.out).trans HXW_0_5.out)
  have HXW_1_6 := Lib.hid ((hb.cell (p := ⟨W3.heap.size, 1, none⟩) HXSW_5.out).trans HXW_1_5.out)
  have HXSW_6 := Lib.hid (Nat.lt_of_lt_of_le HXSW_5.out hb.size)
  clear hb
  have HLg_6 := Lib.hid ho
  clear ho
  have HTg := Lib.hid HLg_6.out.ins
  obtain rfl : ng = nW := by rw [← HLg_6.out.len, HRW.out.len]
  have hb := box_below W6 (.cells #[.int .i64 (pMatrixOfLists a0 X1).1.1, .slice Ag ng cg] 40)
  have HXg_0_7 := Lib.hid (show (W6.alloc (.cells #[.int .i64 (pMatrixOfLists a0 X1).1.1, .slice Ag ng cg] 40)).cell? ⟨W6.heap.size, 0, none⟩ = some (.int .i64 (pMatrixOfLists a0 X1).1.1) by rw [World.cell?_alloc_at _ _ _ _ rfl]; rfl)
  have HXg_1_7 := Lib.hid (show (W6.alloc (.cells #[.int .i64 (pMatrixOfLists a0 X1).1.1, .slice Ag ng cg] 40)).cell? ⟨W6.heap.size, 1, none⟩ = some (.slice Ag ng cg) by rw [World.cell?_alloc_at _ _ _ _ rfl]; rfl)
  have HXSg_7 := Lib.hid (show W6.heap.size < (W6.alloc (.cells #[.int .i64 (pMatrixOfLists a0 X1).1.1, .slice Ag ng cg] 40)).heap.size by simp)
  have HZ7 := Lib.hid hb.size
  have HB7 := Lib.hid ((HB6.out).trans (hb.mono (HB6.out).size))
  have HS7 := Lib.hid (HS6.out.trans (hb.mono HS6.out.size))
  have HLx1_7 := Lib.hid (HLx1_6.out.below hb)
  have HLg_7 := Lib.hid (HLg_6.out.below hb)
  have HXW_0_7 := Lib.hid ((hb.cell (p := ⟨W3.heap.size, 0, none⟩) HXSW_6.out).trans HXW_0_6.out)
  have HXW_1_7 := Lib.hid ((hb.cell (p := ⟨W3.heap.size, 1, none⟩) HXSW_6.out).trans HXW_1_6.out)
  have HXSW_7 := Lib.hid (Nat.lt_of_lt_of_le HXSW_6.out hb.size)
  clear hb
  have cxW_0 := HXW_0_7.out
  have cxW_1 := HXW_1_7.out
  have cxg_0 := HXg_0_7.out
  have cxg_1 := HXg_1_7.out
  go_wp2_with fail
  clear cxW_0 cxW_1 cxg_0 cxg_1
  generalize (W6.alloc (.cells #[.int .i64 (pMatrixOfLists a0 X1).1.1, .slice Ag ng cg] 40)) = W7 at *
  refine (eq_Matrix HLg_7.out.reads (HRW.out.below HS7.out)).mono ?_
  rintro e W8 ⟨rfl, hb⟩
  have HZ8 := Lib.hid hb.size
  have HB8 := Lib.hid ((HB7.out).trans (hb.mono (HB7.out).size))
  have HS8 := Lib.hid (HS7.out.trans (hb.mono HS7.out.size))
  have HLx1_8 := Lib.hid (HLx1_7.out.below hb)
  have HLg_8 := Lib.hid (HLg_7.out.below hb)
  have HXW_0_8 := Lib.hid ((hb.cell (p := ⟨W3.heap.size, 0, none⟩) HXSW_7.out).trans HXW_0_7.out)
  have HXW_1_8 := Lib.hid ((hb.cell (p := ⟨W3.heap.size, 1, none⟩) HXSW_7.out).trans HXW_1_7.out)
  have HXSW_8 := Lib.hid (Nat.lt_of_lt_of_le HXSW_7.out hb.size)
  have HXg_0_8 := Lib.hid ((hb.cell (p := ⟨W6.heap.size, 0, none⟩) HXSg_7.out).trans HXg_0_7.out)
  have HXg_1_8 := Lib.hid ((hb.cell (p := ⟨W6.heap.size, 1, none⟩) HXSg_7.out).trans HXg_1_7.out)
  have HXSg_8 := Lib.hid (Nat.lt_of_lt_of_le HXSg_7.out hb.size)
  clear hb
  have cxW_0 := HXW_0_8.out
  have cxW_1 := HXW_1_8.out
  have cxg_0 := HXg_0_8.out
  have cxg_1 := HXg_1_8.out
  go_wp2_with fail
  clear cxW_0 cxW_1 cxg_0 cxg_1
  refine (to_Int64SS (HR1.out.below (HB8.out)) (by omega)).mono ?_
  rintro e W9 ⟨Gy1, Vy1, rfl, ho, hb⟩
  have HZ9 := Lib.hid hb.size
  have HB9 := Lib.hid ((HB8.out).trans (hb.mono (HB8.out).size))
  have HS9 := Lib.hid (HS8.out.trans (hb.mono HS8.out.size))
  have HLx1_9 := Lib.hid (HLx1_8.out.below hb)
  have HLg_9 := Lib.hid (HLg_8.out.below hb)
  have HXW_0_9 := Lib.hid ((hb.cell (p := ⟨W3.heap.size, 0, none⟩) HXSW_8.out).trans HXW_0_8.out)
  have HXW_1_9 := Lib.hid ((hb.cell (p := ⟨W3.heap.size, 1, none⟩) HXSW_8.out).trans HXW_1_8.out)
  have HXSW_9 := Lib.hid (Nat.lt_of_lt_of_le HXSW_8.out hb.size)
  have HXg_0_9 := Lib.hid ((hb.cell (p := ⟨W6.heap.size, 0, none⟩) HXSg_8.out).trans HXg_0_8.out)
  have HXg_1_9 := Lib.hid ((hb.cell (p := ⟨W6.heap.size, 1, none⟩) HXSg_8.out).trans HXg_1_8.out)
  have HXSg_9 := Lib.hid (Nat.lt_of_lt_of_le HXSg_8.out hb.size)
  clear hb
  have HLy1_9 := Lib.hid ho
  clear ho
  have HTy1 := Lib.hid HLy1_9.out.ins
  have cxW_0 := HXW_0_9.out
  have cxW_1 := HXW_1_9.out
  have cxg_0 := HXg_0_9.out
  have cxg_1 := HXg_1_9.out
  go_wp2_with fail
  clear cxW_0 cxW_1 cxg_0 cxg_1
  refine (eq_Int64SS HLx1_9.out.reads HLy1_9.out.reads).mono ?_
  rintro e W10 ⟨rfl, hb⟩
  have HZ10 := Lib.hid hb.size
  have HB10 := Lib.hid ((HB9.out).trans (hb.mono (HB9.out).size))
  have HS10 := Lib.hid (HS9.out.trans (hb.mono HS9.out.size))
  have HLx1_10 := Lib.hid (HLx1_9.out.below hb)
  have HLg_10 := Lib.hid (HLg_9.out.below hb)
  have HLy1_10 := Lib.hid (HLy1_9.out.below hb)
  have HXW_0_10 := Lib.hid ((hb.cell (p := ⟨W3.heap.size, 0, none⟩) HXSW_9.out).trans HXW_0_9.out)
  have HXW_1_10 := Lib.hid ((hb.cell (p := ⟨W3.heap.size, 1, none⟩) HXSW_9.out).trans HXW_1_9.out)
  have HXSW_10 := Lib.hid (Nat.lt_of_lt_of_le HXSW_9.out hb.size)
  have HXg_0_10 := Lib.hid ((hb.cell (p := ⟨W6.heap.size, 0, none⟩) HXSg_9.out).trans HXg_0_9.out)
  have HXg_1_10 := Lib.hid ((hb.cell (p := ⟨W6.heap.size, 1, none⟩) HXSg_9.out).trans HXg_1_9.out)
  have HXSg_10 := Lib.hid (Nat.lt_of_lt_of_le HXSg_9.out hb.size)
  clear hb
  have cxW_0 := HXW_0_10.out
  have cxW_1 := HXW_1_10.out
  have cxg_0 := HXg_0_10.out
  have cxg_1 := HXg_1_10.out
  go_wp2_with fail
  clear cxW_0 cxW_1 cxg_0 cxg_1
  refine (mark_Int64SS HLx1_10.out HTx1.out (by omega) (by omega)).mono ?_
  rintro e W11 ⟨rfl, ho, hb⟩
  have HXW_0_11 := Lib.hid ((Mid.cell hb (p := ⟨W3.heap.size, 0, none⟩) HXSW_10.out (by show W3.heap.size < W4.heap.size ∨ W5.heap.size ≤ W3.heap.size; have q1 := HZ1.out; have q2 := HZ2.out; have q3 := HZ3.out; have q4 := HZ4.out; have q5 := HZ5.out; have q6 := HZ6.out; have q7 := HZ7.out; have q8 := HZ8.out; have q9 := HZ9.out; have q10 := HZ10.out; have r0 := HXSW_4.out; have r1 := HXSg_7.out; omega)).trans HXW_0_10.out)
  have HXW_1_11 := Lib.hid ((Mid.cell hb (p := ⟨W3.heap.size, 1, none⟩) HXSW_10.out (by show W3.heap.size < W4.heap.size ∨ W5.heap.size ≤ W3.heap.size; have q1 := HZ1.out; have q2 := HZ2.out; have q3 := HZ3.out; have q4 := HZ4.out; have q5 := HZ5.out; have q6 := HZ6.out; have q7 := HZ7.out; have q8 := HZ8.out; have q9 := HZ9.out; have q10 := HZ10.out; have r0 := HXSW_4.out; have r1 := HXSg_7.out; omega)).trans HXW_1_10.out)
  have HXSW_11 := Lib.hid (Nat.lt_of_lt_of_le HXSW_10.out hb.size)
  have HXg_0_11 := Lib.hid ((Mid.cell hb (p := ⟨W6.heap.size, 0, none⟩) HXSg_10.out (by show W6.heap.size < W4.heap.size ∨ W5.heap.size ≤ W6.heap.size; have q1 := HZ1.out; have q2 := HZ2.out; have q3 := HZ3.out; have q4 := HZ4.out; have q5 := HZ5.out; have q6 := HZ6.out; have q7 := HZ7.out; have q8 := HZ8.out; have q9 := HZ9.out; have q10 := HZ10.out; have r0 := HXSW_4.out; have r1 := HXSg_7.out; omega)).trans HXg_0_10.out)
  have HXg_1_11 := Lib.hid ((Mid.cell hb (p := ⟨W6.heap.size, 1, none⟩) HXSg_10.out (by show W6.heap.size < W4.heap.size ∨ W5.heap.size ≤ W6.heap.size; have q1 := HZ1.out; have q2 := HZ2.out; have q3 := HZ3.out; have q4 := HZ4.out; have q5 := HZ5.out; have q6 := HZ6.out; have q7 := HZ7.out; have q8 := HZ8.out; have q9 := HZ9.out; have q10 := HZ10.out; have r0 := HXSW_4.out; have r1 := HXSg_7.out; omega)).trans HXg_1_10.out)
  have HXSg_11 := Lib.hid (Nat.lt_of_lt_of_le HXSg_10.out hb.size)
  have HZ11 := Lib.hid hb.size
  have HB11 := Lib.hid (Mid.below (HB10.out) hb (by have q1 := HZ1.out; have q2 := HZ2.out; have q3 := HZ3.out; have q4 := HZ4.out; omega) (by have q1 := HZ1.out; have q2 := HZ2.out; have q3 := HZ3.out; have q4 := HZ4.out; have q5 := HZ5.out; have q6 := HZ6.out; have q7 := HZ7.out; have q8 := HZ8.out; have q9 := HZ9.out; have q10 := HZ10.out; omega))
  have HS11 := Lib.hid (Mid.below HS10.out hb (by have q4 := HZ4.out; omega) (by have q4 := HZ4.out; have q5 := HZ5.out; have q6 := HZ6.out; have q7 := HZ7.out; have q8 := HZ8.out; have q9 := HZ9.out; have q10 := HZ10.out; omega))
  have HLg_11 := Lib.hid (HLg_10.out.mid hb (Nat.le_refl _))
  have HLx1_11 := Lib.hid ho
  clear ho hb
  have cxW_0 := HXW_0_11.out
  have cxW_1 := HXW_1_11.out
  have cxg_0 := HXg_0_11.out
  have cxg_1 := HXg_1_11.out
  go_wp2_with fail
  clear cxW_0 cxW_1 cxg_0 cxg_1
  refine (eq_Matrix HLg_11.out.reads (HRW.out.below HS11.out)).mono ?_
  rintro e W12 ⟨rfl, hb⟩
  have HZ12 := Lib.hid hb.size
  have HB12 := Lib.hid ((HB11.out).trans (hb.mono (HB11.out).size))
  have HS12 := Lib.hid (HS11.out.trans (hb.mono HS11.out.size))
  have HLg_12 := Lib.hid (HLg_11.out.below hb)
  have HXW_0_12 := Lib.hid ((hb.cell (p := ⟨W3.heap.size, 0, none⟩) HXSW_11.out).trans HXW_0_11.out)
  have HXW_1_12 := Lib.hid ((hb.cell (p := ⟨W3.heap.size, 1, none⟩) HXSW_11.out).trans HXW_1_11.out)
  have HXSW_12 := Lib.hid (Nat.lt_of_lt_of_le HXSW_11.out hb.size)
  have HXg_0_12 := Lib.hid ((hb.cell (p := ⟨W6.heap.size, 0, none⟩) HXSg_11.out).trans HXg_0_11.out)
  have HXg_1_12 := Lib.hid ((hb.cell (p := ⟨W6.heap.size, 1, none⟩) HXSg_11.out).trans HXg_1_11.out)
  have HXSg_12 := Lib.hid (Nat.lt_of_lt_of_le HXSg_11.out hb.size)
  clear hb
  have NG := pMatrixOfLists_sz a0 X1 (by have h := HR1.out.len; omega)
  have NGL := HLg_12.out.len
  have NGB : ng ≤ 4000000000 := by omega
  clear NG NGL
  have cxW_0 := HXW_0_12.out
  have cxW_1 := HXW_1_12.out
  have cxg_0 := HXg_0_12.out
  have cxg_1 := HXg_1_12.out
  go_wp2_with fail
  clear cxW_0 cxW_1 cxg_0 cxg_1
  refine (mark_Matrix HLg_12.out HTg.out (by omega) (by omega)).mono ?_
  rintro e W13 ⟨rfl, ho, hb⟩
  have HXW_0_13 := Lib.hid ((Mid.cell hb (p := ⟨W3.heap.size, 0, none⟩) HXSW_12.out (by show W3.heap.size < W5.heap.size ∨ W6.heap.size ≤ W3.heap.size; have q1 := HZ1.out; have q2 := HZ2.out; have q3 := HZ3.out; have q4 := HZ4.out; have q5 := HZ5.out; have q6 := HZ6.out; have q7 := HZ7.out; have q8 := HZ8.out; have q9 := HZ9.out; have q10 := HZ10.out; have q11 := HZ11.out; have q12 := HZ12.out; have r0 := HXSW_4.out; have r1 := HXSg_7.out; omega)).trans HXW_0_12.out)
  have HXW_1_13 := Lib.hid ((Mid.cell hb (p := ⟨W3.heap.size, 1, none⟩) HXSW_12.out (by show W3.heap.size < W5.heap.size ∨ W6.heap.size ≤ W3.heap.size; have q1 := HZ1.out; have q2 := HZ2.out; have q3 := HZ3.out; have q4 := HZ4.out; have q5 := HZ5.out; have q6 := HZ6.out; have q7 := HZ7.out; have q8 := HZ8.out; have q9 := HZ9.out; have q10 := HZ10.out; have q11 := HZ11.out; have q12 := HZ12.out; have r0 := HXSW_4.out; have r1 := HXSg_7.out; omega)).trans HXW_1_12.out)
  have HXSW_13 := Lib.hid (Nat.lt_of_lt_of_le HXSW_12.out hb.size)
  have HXg_0_13 := Lib.hid ((Mid.cell hb (p := ⟨W6.heap.size, 0, none⟩) HXSg_12.out (by show W6.heap.size < W5.heap.size ∨ W6.heap.size ≤ W6.heap.size; have q1 := HZ1.out; have q2 := HZ2.out; have q3 := HZ3.out; have q4 := HZ4.out; have q5 := HZ5.out; have q6 := HZ6.out; have q7 := HZ7.out; have q8 := HZ8.out; have q9 := HZ9.out; have q10 := HZ10.out; have q11 := HZ11.out; have q12 := HZ12.out; have r0 := HXSW_4.out; have r1 := HXSg_7.out; omega)).trans HXg_0_12.out)
  have HXg_1_13 := Lib.hid ((Mid.cell hb (p := ⟨W6.heap.size, 1, none⟩) HXSg_12.out (by show W6.heap.size < W5.heap.size ∨ W6.heap.size ≤ W6.heap.size; have q1 := HZ1.out; have q2 := HZ2.out; have q3 := HZ3.out; have q4 := HZ4.out; have q5 := HZ5.out; have q6 := HZ6.out; have q7 := HZ7.out; have q8 := HZ8.out; have q9 := HZ9.out; have q10 := HZ10.out; have q11 := HZ11.out; have q12 := HZ12.out; have r0 := HXSW_4.out; have r1 := HXSg_7.out; omega)).trans HXg_1_12.out)
  have HXSg_13 := Lib.hid (Nat.lt_of_lt_of_le HXSg_12.out hb.size)
  have HZ13 := Lib.hid hb.size
  have HB13 := Lib.hid (Mid.below (HB12.out) hb (by have q1 := HZ1.out; have q2 := HZ2.out; have q3 := HZ3.out; have q4 := HZ4.out; have q5 := HZ5.out; omega) (by have q1 := HZ1.out; have q2 := HZ2.out; have q3 := HZ3.out; have q4 := HZ4.out; have q5 := HZ5.out; have q6 := HZ6.out; have q7 := HZ7.out; have q8 := HZ8.out; have q9 := HZ9.out; have q10 := HZ10.out; have q11 := HZ11.out; have q12 := HZ12.out; omega))
  have HS13 := Lib.hid (Mid.below HS12.out hb (by have q4 := HZ4.out; have q5 := HZ5.out; omega) (by have q4 := HZ4.out; have q5 := HZ5.out; have q6 := HZ6.out; have q7 := HZ7.out; have q8 := HZ8.out; have q9 := HZ9.out; have q10 := HZ10.out; have q11 := HZ11.out; have q12 := HZ12.out; omega))
  have HLg_13 := Lib.hid ho
  clear ho hb
  have cxW_0 := HXW_0_13.out
  have cxW_1 := HXW_1_13.out
  have cxg_0 := HXg_0_13.out
  have cxg_1 := HXg_1_13.out
  go_wp2_with fail
  clear cxW_0 cxW_1 cxg_0 cxg_1
  refine (held_Matrix HLg_13.out.reads (by omega) (by omega)).mono ?_
  rintro e W14 ⟨rfl, hb⟩
  have HZ14 := Lib.hid hb.size
  have HB14 := Lib.hid ((HB13.out).trans (hb.mono (HB13.out).size))
  have HS14 := Lib.hid (HS13.out.trans (hb.mono HS13.out.size))
  have HLg_14 := Lib.hid (HLg_13.out.below hb)
  have HXW_0_14 := Lib.hid ((hb.cell (p := ⟨W3.heap.size, 0, none⟩) HXSW_13.out).trans HXW_0_13.out)
  have HXW_1_14 := Lib.hid ((hb.cell (p := ⟨W3.heap.size, 1, none⟩) HXSW_13.out).trans HXW_1_13.out)
  have HXSW_14 := Lib.hid (Nat.lt_of_lt_of_le HXSW_13.out hb.size)
  have HXg_0_14 := Lib.hid ((hb.cell (p := ⟨W6.heap.size, 0, none⟩) HXSg_13.out).trans HXg_0_13.out)
  have HXg_1_14 := Lib.hid ((hb.cell (p := ⟨W6.heap.size, 1, none⟩) HXSg_13.out).trans HXg_1_13.out)
  have HXSg_14 := Lib.hid (Nat.lt_of_lt_of_le HXSg_13.out hb.size)
  clear hb
  have cxW_0 := HXW_0_14.out
  have cxW_1 := HXW_1_14.out
  have cxg_0 := HXg_0_14.out
  have cxg_1 := HXg_1_14.out
  go_wp2_with fail
  clear cxW_0 cxW_1 cxg_0 cxg_1
  refine (to_Int64SS (HR1.out.below (HB14.out)) (by omega)).mono ?_
  rintro e W15 ⟨Gv1, Vv1, rfl, ho, hb⟩
  have HZ15 := Lib.hid hb.size
  have HB15 := Lib.hid ((HB14.out).trans (hb.mono (HB14.out).size))
  have HS15 := Lib.hid (HS14.out.trans (hb.mono HS14.out.size))
  have HLg_15 := Lib.hid (HLg_14.out.below hb)
  have HXW_0_15 := Lib.hid ((hb.cell (p := ⟨W3.heap.size, 0, none⟩) HXSW_14.out).trans HXW_0_14.out)
  have HXW_1_15 := Lib.hid ((hb.cell (p := ⟨W3.heap.size, 1, none⟩) HXSW_14.out).trans HXW_1_14.out)
  have HXSW_15 := Lib.hid (Nat.lt_of_lt_of_le HXSW_14.out hb.size)
  have HXg_0_15 := Lib.hid ((hb.cell (p := ⟨W6.heap.size, 0, none⟩) HXSg_14.out).trans HXg_0_14.out)
  have HXg_1_15 := Lib.hid ((hb.cell (p := ⟨W6.heap.size, 1, none⟩) HXSg_14.out).trans HXg_1_14.out)
  have HXSg_15 := Lib.hid (Nat.lt_of_lt_of_le HXSg_14.out hb.size)
  clear hb
  have HLv1_15 := Lib.hid ho
  clear ho
  have HTv1 := Lib.hid HLv1_15.out.ins
  have cxW_0 := HXW_0_15.out
  have cxW_1 := HXW_1_15.out
  have cxg_0 := HXg_0_15.out
  have cxg_1 := HXg_1_15.out
  go_wp2_with fail
  clear cxW_0 cxW_1 cxg_0 cxg_1
  refine (impl_MatrixOfLists HW0.out HLv1_15.out.reads (by omega)).mono ?_
  rintro e W16 ⟨Ah, nh, ch, rfl, ho, hb⟩
  have HZ16 := Lib.hid hb.size
  have HB16 := Lib.hid ((HB15.out).trans (hb.mono (HB15.out).size))
  have HS16 := Lib.hid (HS15.out.trans (hb.mono HS15.out.size))
  have HLg_16 := Lib.hid (HLg_15.out.below hb)
  have HLv1_16 := Lib.hid (HLv1_15.out.below hb)
  have HXW_0_16 := Lib.hid ((hb.cell (p := ⟨W3.heap.size, 0, none⟩) HXSW_15.out).trans HXW_0_15.out)
  have HXW_1_16 := Lib.hid ((hb.cell (p := ⟨W3.heap.size, 1, none⟩) HXSW_15.out).trans HXW_1_15.out)
  have HXSW_16 := Lib.hid (Nat.lt_of_lt_of_le HXSW_15.out hb.size)
  have HXg_0_16 := Lib.hid ((hb.cell (p := ⟨W6.heap.size, 0, none⟩) HXSg_15.out).trans HXg_0_15.out)
  have HXg_1_16 := Lib.hid ((hb.cell (p := ⟨W6.heap.size, 1, none⟩) HXSg_15.out).trans HXg_1_15.out)
  have HXSg_16 := Lib.hid (Nat.lt_of_lt_of_le HXSg_15.out hb.size)
  clear hb
  have HLh_16 := Lib.hid ho
  clear ho
  have HTh := Lib.hid HLh_16.out.ins
  obtain rfl : nh = ng := by rw [← HLh_16.out.len, HRW.out.len]
  have hb := box_below W16 (.cells #[.int .i64 (pMatrixOfLists a0 X1).1.1, .slice Ah nh ch] 40)
  have HXh_0_17 := Lib.hid (show (W16.alloc (.cells #[.int .i64 (pMatrixOfLists a0 X1).1.1, .slice Ah nh ch] 40)).cell? ⟨W16.heap.size, 0, none⟩ = some (.int .i64 (pMatrixOfLists a0 X1).1.1) by rw [World.cell?_alloc_at _ _ _ _ rfl]; rfl)
  have HXh_1_17 := Lib.hid (show (W16.alloc (.cells #[.int .i64 (pMatrixOfLists a0 X1).1.1, .slice Ah nh ch] 40)).cell? ⟨W16.heap.size, 1, none⟩ = some (.slice Ah nh ch) by rw [World.cell?_alloc_at _ _ _ _ rfl]; rfl)
  have HXSh_17 := Lib.hid (show W16.heap.size < (W16.alloc (.cells #[.int .i64 (pMatrixOfLists a0 X1).1.1, .slice Ah nh ch] 40)).heap.size by simp)
  have HZ17 := Lib.hid hb.size
  have HB17 := Lib.hid ((HB16.out).trans (hb.mono (HB16.out).size))
  have HS17 := Lib.hid (HS16.out.trans (hb.mono HS16.out.size))
  have HLg_17 := Lib.hid (HLg_16.out.below hb)
  have HLv1_17 := Lib.hid (HLv1_16.out.below hb)
  have HLh_17 := Lib.hid (HLh_16.out.below hb)
  have HXW_0_17 := Lib.hid ((hb.cell (p := ⟨W3.heap.size, 0, none⟩) HXSW_16.out).trans HXW_0_16.out)
  have HXW_1_17 := Lib.hid ((hb.cell (p := ⟨W3.heap.size, 1, none⟩) HXSW_16.out).trans HXW_1_16.out)
  have HXSW_17 := Lib.hid (Nat.lt_of_lt_of_le HXSW_16.out hb.size)
  have HXg_0_17 := Lib.hid ((hb.cell (p := ⟨W6.heap.size, 0, none⟩) HXSg_16.out).trans HXg_0_16.out)
  have HXg_1_17 := Lib.hid ((hb.cell (p := ⟨W6.heap.size, 1, none⟩) HXSg_16.out).trans HXg_1_16.out)
  have HXSg_17 := Lib.hid (Nat.lt_of_lt_of_le HXSg_16.out hb.size)
  clear hb
  have cxW_0 := HXW_0_17.out
  have cxW_1 := HXW_1_17.out
  have cxg_0 := HXg_0_17.out
  have cxg_1 := HXg_1_17.out
  have cxh_0 := HXh_0_17.out
  have cxh_1 := HXh_1_17.out
  go_wp2_with fail
  clear cxW_0 cxW_1 cxg_0 cxg_1 cxh_0 cxh_1
  generalize (W16.alloc (.cells #[.int .i64 (pMatrixOfLists a0 X1).1.1, .slice Ah nh ch] 40)) = W17 at *
  refine (eq_Matrix HLh_17.out.reads (HRW.out.below HS17.out)).mono ?_
  rintro e W18 ⟨rfl, hb⟩
  have HZ18 := Lib.hid hb.size
  have HB18 := Lib.hid ((HB17.out).trans (hb.mono (HB17.out).size))
  have HS18 := Lib.hid (HS17.out.trans (hb.mono HS17.out.size))
  have HLg_18 := Lib.hid (HLg_17.out.below hb)
  have HLv1_18 := Lib.hid (HLv1_17.out.below hb)
  have HLh_18 := Lib.hid (HLh_17.out.below hb)
  have HXW_0_18 := Lib.hid ((hb.cell (p := ⟨W3.heap.size, 0, none⟩) HXSW_17.out).trans HXW_0_17.out)
  have HXW_1_18 := Lib.hid ((hb.cell (p := ⟨W3.heap.size, 1, none⟩) HXSW_17.out).trans HXW_1_17.out)
  have HXSW_18 := Lib.hid (Nat.lt_of_lt_of_le HXSW_17.out hb.size)
  have HXg_0_18 := Lib.hid ((hb.cell (p := ⟨W6.heap.size, 0, none⟩) HXSg_17.out).trans HXg_0_17.out)
  have HXg_1_18 := Lib.hid ((hb.cell (p := ⟨W6.heap.size, 1, none⟩) HXSg_17.out).trans HXg_1_17.out)
  have HXSg_18 := Lib.hid (Nat.lt_of_lt_of_le HXSg_17.out hb.size)
  have HXh_0_18 := Lib.hid ((hb.cell (p := ⟨W16.heap.size, 0, none⟩) HXSh_17.out).trans HXh_0_17.out)
  have HXh_1_18 := Lib.hid ((hb.cell (p := ⟨W16.heap.size, 1, none⟩) HXSh_17.out).trans HXh_1_17.out)
  have HXSh_18 := Lib.hid (Nat.lt_of_lt_of_le HXSh_17.out hb.size)
  clear hb
  have cxW_0 := HXW_0_18.out
  have cxW_1 := HXW_1_18.out
  have cxg_0 := HXg_0_18.out
  have cxg_1 := HXg_1_18.out
  have cxh_0 := HXh_0_18.out
  have cxh_1 := HXh_1_18.out
  go_wp2_with fail
  clear cxW_0 cxW_1 cxg_0 cxg_1 cxh_0 cxh_1
  refine (held_Matrix HLg_18.out.reads (by omega) (by omega)).mono ?_
  rintro e W19 ⟨rfl, hb⟩
  have HZ19 := Lib.hid hb.size
  have HB19 := Lib.hid ((HB18.out).trans (hb.mono (HB18.out).size))
  have HS19 := Lib.hid (HS18.out.trans (hb.mono HS18.out.size))
  have HLg_19 := Lib.hid (HLg_18.out.below hb)
  have HLv1_19 := Lib.hid (HLv1_18.out.below hb)
  have HLh_19 := Lib.hid (HLh_18.out.below hb)
  have HXW_0_19 := Lib.hid ((hb.cell (p := ⟨W3.heap.size, 0, none⟩) HXSW_18.out).trans HXW_0_18.out)
  have HXW_1_19 := Lib.hid ((hb.cell (p := ⟨W3.heap.size, 1, none⟩) HXSW_18.out).trans HXW_1_18.out)
  have HXSW_19 := Lib.hid (Nat.lt_of_lt_of_le HXSW_18.out hb.size)
  have HXg_0_19 := Lib.hid ((hb.cell (p := ⟨W6.heap.size, 0, none⟩) HXSg_18.out).trans HXg_0_18.out)
  have HXg_1_19 := Lib.hid ((hb.cell (p := ⟨W6.heap.size, 1, none⟩) HXSg_18.out).trans HXg_1_18.out)
  have HXSg_19 := Lib.hid (Nat.lt_of_lt_of_le HXSg_18.out hb.size)
  have HXh_0_19 := Lib.hid ((hb.cell (p := ⟨W16.heap.size, 0, none⟩) HXSh_18.out).trans HXh_0_18.out)
  have HXh_1_19 := Lib.hid ((hb.cell (p := ⟨W16.heap.size, 1, none⟩) HXSh_18.out).trans HXh_1_18.out)
  have HXSh_19 := Lib.hid (Nat.lt_of_lt_of_le HXSh_18.out hb.size)
  clear hb
  have cxW_0 := HXW_0_19.out
  have cxW_1 := HXW_1_19.out
  have cxg_0 := HXg_0_19.out
  have cxg_1 := HXg_1_19.out
  have cxh_0 := HXh_0_19.out
  have cxh_1 := HXh_1_19.out
  go_wp2
  go_ret
  exact ⟨rfl, HB19.out⟩

set_option maxRecDepth 100000 in
theorem lifted (os : Os) (started : os.Started) (H : Type) (enc : TypeId × Value → H) :
    ReturnsInHanded {} Try.checked os 7 .any (Rows.fnExactMatrixOfListsSpec.pre6 enc Try.prog Try.f7 Rows.fnExactMatrixOfListsRow.domain false) (Rows.fnExactMatrixOfListsSpec.post enc Try.prog Try.f7 false true false false) := by
  refine returnsInHanded_of_change (C := Try.checked) own started (by kernel_rfl) Try.func7
    (ChangeSpec.witness6 (enc := enc) (C := Try.checked) false ⟨#[], #[.int .i64 0, .slice none 0 0], []⟩ 8 (by kernel_rfl) (by kernel_rfl) (by kernel_rfl) (by kernel_rfl)) ?_
  intro W base args ds gs before hval0 hW hcnd _
  have hval : ∀ (j : Nat) t v, Try.f7.params[j]? = some t → args[j]? = some v → Value.okWide Try.prog W .any base t v := hval0
  have hW' := hW
  obtain ⟨p, q, hA0, hV, rfl, hfz, hnd⟩ := hW
  have hA : DataW.TrodAll enc Try.prog W 0 (fun _ => true) true Try.f7.params.toList args.toList ds p := hA0
  rw [Try.params7] at hA hval
  obtain ⟨v0, vs0, d0, ds0, p0, q0, hargs, rfl, rfl, h0, r0⟩ := trodAll_cons hA
  obtain ⟨v1, vs1, d1, ds1, p1, q1, rfl, rfl, rfl, h1, r1⟩ := trodAll_cons r0
  obtain ⟨rfl, rfl, rfl⟩ := trodAll_nil r1
  obtain rfl : args = #[v0, v1] := by cases args; simp_all
  obtain ⟨rfl, rfl⟩ := trodVars_none hV
  obtain ⟨a0, rfl, rfl, rfl, w0⟩ := open_int Try.underlying2 (hval 0 2 v0 rfl rfl) h0
  have t1 := h1
  have lt1 : ∀ x ∈ p1, x.block < W.heap.size := by obtain ⟨m, hm⟩ := t1; exact DataW.trod_lt m _ _ _ hm
  obtain ⟨a1, l1, k1, rfl⟩ := okWide_slice Try.underlying22 (hval 1 22 v1 rfl rfl)
  obtain ⟨fuel1, hf1⟩ := h1
  obtain ⟨A1, n1, c1, V1, X1, g1, rr1⟩ := open_SS hf1
  simp [Value.cells] at g1
  obtain ⟨rfl, rfl, rfl⟩ := g1
  clear hA0 hval0
  refine (walk a0 a1 l1 k1 V1 X1 W w0 rr1).mono fun e W' ⟨he, bel⟩ => ?_
  subst he
  exact ⟨_, rfl, _, _, _, [], _, [], hW', trodAll_mk1 (shut_bool Try.underlying4 _), (trodAll_cons_mk (shut_int Try.underlying2 w0) (trodAll_cons_mk (Below.trod laidOut (by kernel_rfl) (of_decide_eq_true (by kernel_rfl)) t1 bel lt1) trodAll_mk0)), rfl, bel.frame _, fun h => by cases h⟩

theorem closed : joinedFacts Try.prog 7 Try.f7 Rows.fnExactMatrixOfListsSpec Rows.fnExactMatrixOfListsRow = true := by
  unfold joinedFacts
  rw [mayEnter_eq, liftsFinal_eq, make_eq]
  kernel_rfl


theorem over : Rows.fnExactMatrixOfListsRow.holds Try.pinned (OpenSpec.ofChange Rows.fnExactMatrixOfListsSpec) :=
  OpenClaim.holds_of_wide 7 Try.f7 rfl rfl rfl rfl rfl rfl rfl ⟨rfl, rfl, rfl, rfl, rfl⟩ rfl rfl rfl rfl rfl (by kernel_rfl) Try.func7 closed
    (of_decide_eq_true (by kernel_rfl)) (by unfold Func.isWrapper; first | (rw [if_pos (by decide +kernel)]; kernel_rfl) | (rw [if_neg (by decide +kernel)]; exact ⟨rfl, rfl⟩))
    (fun os started H enc _ => lifted os started H enc)

theorem proved : Rows.FnExactMatrixOfListsSaid := over
#print axioms proved
end Go.Proofs.Ytindhmgfadipnaa.fnExactMatrixOfLists
