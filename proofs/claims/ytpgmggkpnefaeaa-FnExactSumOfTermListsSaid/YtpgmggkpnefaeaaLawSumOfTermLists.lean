/- The statement on FnExactSumOfTermLists: for every input the call returns true, and each argument reads behind the call as it read before. No condition. The frame is written by a program of this repo after the kit's shell. -/
import Derived.Test.YtpgmggkpnefaeaaSumT
import Derived.Test.YtpgmggkpnefaeaaKit
import Derived.Test.YtpgmggkpnefaeaaFrm
import Derived.Test.YtpgmggkpnefaeaaRows
import Derived.WalkKit
import Derived.ProofKit
import Derived.OpenShut
import Derived.ShutString
import Derived.ChangeOld
import Derived.Below
import Derived.Lib.SmallJoins
import Derived.Deep.RegionHeld3
import Derived.Deep.RegionWith
namespace Go.Proofs.Ytpgmggkpnefaeaa.fnExactSumOfTermLists
open Go.Joins Go.ChangeShapes Go.WideShapes Go.ChangeAt Go.RowKit
open Go.ChangeMaps (open_string shut_string)
set_option linter.unusedVariables false

theorem own : ownKnob Try.prog.godebug = none := by kernel_rfl
theorem laidOut : laidOutB Try.prog = true := by kernel_rfl

set_option maxRecDepth 100000 in
set_option maxHeartbeats 2000000 in
theorem walk (A0 : Option Addr) (n0 c0 : Nat) (V0 : List Sl) (X0 : List (List Int)) (A1 : Option Addr) (n1 c1 : Nat) (V1 : List Sl) (X1 : List (List Int)) (w : World) (r0 : RS w A0 n0 V0 X0) (r1 : RS w A1 n1 V1 X1) :
    Calls Try.prog 9 #[.slice A0 n0 c0, .slice A1 n1 c1] w fun e w' => e = .returned (.bool true) ∧ Below w.heap.size w w' := by
  have HR0 := Lib.hid r0
  have S0 := r0.small
  clear r0
  have HR1 := Lib.hid r1
  have S1 := r1.small
  clear r1
  by_cases hn0 : (n0 + tot X0) ≤ 1048576
  rotate_left
  · go_enter Try.func9, Try.ntmps9
    go_wp2_with fail
    refine (szno_Int64SS (HR0.out.below (Below.refl w.heap.size w)) ?_).mono ?_
    · omega
    rintro e W1 ⟨rfl, hb⟩
    have HZ1 := Lib.hid hb.size
    have HB1 := Lib.hid ((Below.refl w.heap.size w).trans (hb.mono (Below.refl w.heap.size w).size))
    clear hb
    go_wp2
    go_ret
    exact ⟨rfl, HB1.out⟩
  by_cases hn1 : (n0 + tot X0) + (n1 + tot X1) ≤ 1048576
  rotate_left
  · go_enter Try.func9, Try.ntmps9
    go_wp2_with fail
    refine (sz_Int64SS (HR0.out.below (Below.refl w.heap.size w)) ?_).mono ?_
    · omega
    rintro e W1 ⟨rfl, hb⟩
    have HZ1 := Lib.hid hb.size
    have HB1 := Lib.hid ((Below.refl w.heap.size w).trans (hb.mono (Below.refl w.heap.size w).size))
    clear hb
    go_wp2_with fail
    refine (szno_Int64SS (HR1.out.below (HB1.out)) ?_).mono ?_
    · omega
    rintro e W2 ⟨rfl, hb⟩
    have HZ2 := Lib.hid hb.size
    have HB2 := Lib.hid ((HB1.out).trans (hb.mono (HB1.out).size))
    clear hb
    go_wp2
    go_ret
    exact ⟨rfl, HB2.out⟩
  go_enter Try.func9, Try.ntmps9
  go_wp2_with fail
  refine (sz_Int64SS (HR0.out.below (Below.refl w.heap.size w)) ?_).mono ?_
  · omega
  rintro e W1 ⟨rfl, hb⟩
  have HZ1 := Lib.hid hb.size
  have HB1 := Lib.hid ((Below.refl w.heap.size w).trans (hb.mono (Below.refl w.heap.size w).size))
  clear hb
  go_wp2_with fail
  refine (sz_Int64SS (HR1.out.below (HB1.out)) ?_).mono ?_
  · omega
  rintro e W2 ⟨rfl, hb⟩
  have HZ2 := Lib.hid hb.size
  have HB2 := Lib.hid ((HB1.out).trans (hb.mono (HB1.out).size))
  clear hb
  go_wp2_with fail
  refine (to_Int64SS (HR0.out.below (HB2.out)) (by omega)).mono ?_
  rintro e W3 ⟨Gu0, Vu0, rfl, ho, hb⟩
  have HZ3 := Lib.hid hb.size
  have HB3 := Lib.hid ((HB2.out).trans (hb.mono (HB2.out).size))
  clear hb
  have HLu0_3 := Lib.hid ho
  clear ho
  have HTu0 := Lib.hid HLu0_3.out.ins
  go_wp2_with fail
  refine (to_Int64SS (HR1.out.below (HB3.out)) (by omega)).mono ?_
  rintro e W4 ⟨Gu1, Vu1, rfl, ho, hb⟩
  have HZ4 := Lib.hid hb.size
  have HB4 := Lib.hid ((HB3.out).trans (hb.mono (HB3.out).size))
  have HLu0_4 := Lib.hid (HLu0_3.out.below hb)
  clear hb
  have HLu1_4 := Lib.hid ho
  clear ho
  have HTu1 := Lib.hid HLu1_4.out.ins
  go_wp2_with fail
  refine (spec_SumOfTermLists HLu0_4.out.reads (by omega) HLu1_4.out.reads (by omega)).mono ?_
  rintro e W5 ⟨AW, nW, cW, vW, rfl, ho, hb⟩
  have HZ5 := Lib.hid hb.size
  have HB5 := Lib.hid ((HB4.out).trans (hb.mono (HB4.out).size))
  have HLu0_5 := Lib.hid (HLu0_4.out.below hb)
  have HLu1_5 := Lib.hid (HLu1_4.out.below hb)
  clear hb
  have HLW_5 := Lib.hid ho
  clear ho
  have HTW := Lib.hid HLW_5.out.ins
  have HRW := Lib.hid HLW_5.out.reads
  go_wp2_with fail
  refine (to_Int64SS (HR0.out.below (HB5.out)) (by omega)).mono ?_
  rintro e W6 ⟨Gx0, Vx0, rfl, ho, hb⟩
  have HZ6 := Lib.hid hb.size
  have HB6 := Lib.hid ((HB5.out).trans (hb.mono (HB5.out).size))
  have HS6 := Lib.hid hb
  clear hb
  have HLx0_6 := Lib.hid ho
  clear ho
  have HTx0 := Lib.hid HLx0_6.out.ins
  go_wp2_with fail
  refine (to_Int64SS (HR1.out.below (HB6.out)) (by omega)).mono ?_
  rintro e W7 ⟨Gx1, Vx1, rfl, ho, hb⟩
  have HZ7 := Lib.hid hb.size
  have HB7 := Lib.hid ((HB6.out).trans (hb.mono (HB6.out).size))
  have HS7 := Lib.hid (HS6.out.trans (hb.mono HS6.out.size))
  have HLx0_7 := Lib.hid (HLx0_6.out.below hb)
  clear hb
  have HLx1_7 := Lib.hid ho
  clear ho
  have HTx1 := Lib.hid HLx1_7.out.ins
  go_wp2_with fail
  refine (impl_SumOfTermLists HLx0_7.out.reads (by omega) HLx1_7.out.reads (by omega)).mono ?_
  rintro e W8 ⟨Ag, ng, cg, vg, rfl, ho, hb⟩
  have HZ8 := Lib.hid hb.size
  have HB8 := Lib.hid ((HB7.out).trans (hb.mono (HB7.out).size))
  have HS8 := Lib.hid (HS7.out.trans (hb.mono HS7.out.size))
  have HLx0_8 := Lib.hid (HLx0_7.out.below hb)
  have HLx1_8 := Lib.hid (HLx1_7.out.below hb)
  clear hb
  have HLg_8 := Lib.hid ho
  clear ho
  have HTg := Lib.hid HLg_8.out.ins
  obtain rfl : ng = nW := by rw [← HLg_8.out.len, HRW.out.len]
  go_wp2_with fail
  refine (eq_Int64SS HLg_8.out.reads (HRW.out.below HS8.out)).mono ?_
  rintro e W9 ⟨rfl, hb⟩
  have HZ9 := Lib.hid hb.size
  have HB9 := Lib.hid ((HB8.out).trans (hb.mono (HB8.out).size))
  have HS9 := Lib.hid (HS8.out.trans (hb.mono HS8.out.size))
  have HLx0_9 := Lib.hid (HLx0_8.out.below hb)
  have HLx1_9 := Lib.hid (HLx1_8.out.below hb)
  have HLg_9 := Lib.hid (HLg_8.out.below hb)
  clear hb
  go_wp2_with fail
  refine (to_Int64SS (HR0.out.below (HB9.out)) (by omega)).mono ?_
  rintro e W10 ⟨Gy0, Vy0, rfl, ho, hb⟩
  have HZ10 := Lib.hid hb.size
  have HB10 := Lib.hid ((HB9.out).trans (hb.mono (HB9.out).size))
  have HS10 := Lib.hid (HS9.out.trans (hb.mono HS9.out.size))
  have HLx0_10 := Lib.hid (HLx0_9.out.below hb)
  have HLx1_10 := Lib.hid (HLx1_9.out.below hb)
  have HLg_10 := Lib.hid (HLg_9.out.below hb)
  clear hb
  have HLy0_10 := Lib.hid ho
  clear ho
  have HTy0 := Lib.hid HLy0_10.out.ins
  go_wp2_with fail
  refine (eq_Int64SS HLx0_10.out.reads HLy0_10.out.reads).mono ?_
  rintro e W11 ⟨rfl, hb⟩
  have HZ11 := Lib.hid hb.size
  have HB11 := Lib.hid ((HB10.out).trans (hb.mono (HB10.out).size))
  have HS11 := Lib.hid (HS10.out.trans (hb.mono HS10.out.size))
  have HLx0_11 := Lib.hid (HLx0_10.out.below hb)
  have HLx1_11 := Lib.hid (HLx1_10.out.below hb)
  have HLg_11 := Lib.hid (HLg_10.out.below hb)
  have HLy0_11 := Lib.hid (HLy0_10.out.below hb)
  clear hb
  go_wp2_with fail
  refine (to_Int64SS (HR1.out.below (HB11.out)) (by omega)).mono ?_
  rintro e W12 ⟨Gy1, Vy1, rfl, ho, hb⟩
  have HZ12 := Lib.hid hb.size
  have HB12 := Lib.hid ((HB11.out).trans (hb.mono (HB11.out).size))
  have HS12 := Lib.hid (HS11.out.trans (hb.mono HS11.out.size))
  have HLx0_12 := Lib.hid (HLx0_11.out.below hb)
  have HLx1_12 := Lib.hid (HLx1_11.out.below hb)
  have HLg_12 := Lib.hid (HLg_11.out.below hb)
  clear hb
  have HLy1_12 := Lib.hid ho
  clear ho
  have HTy1 := Lib.hid HLy1_12.out.ins
  go_wp2_with fail
  refine (eq_Int64SS HLx1_12.out.reads HLy1_12.out.reads).mono ?_
  rintro e W13 ⟨rfl, hb⟩
  have HZ13 := Lib.hid hb.size
  have HB13 := Lib.hid ((HB12.out).trans (hb.mono (HB12.out).size))
  have HS13 := Lib.hid (HS12.out.trans (hb.mono HS12.out.size))
  have HLx0_13 := Lib.hid (HLx0_12.out.below hb)
  have HLx1_13 := Lib.hid (HLx1_12.out.below hb)
  have HLg_13 := Lib.hid (HLg_12.out.below hb)
  have HLy1_13 := Lib.hid (HLy1_12.out.below hb)
  clear hb
  go_wp2_with fail
  refine (mark_Int64SS HLx0_13.out HTx0.out (by omega) (by omega)).mono ?_
  rintro e W14 ⟨rfl, ho, hb⟩
  have HZ14 := Lib.hid hb.size
  have HB14 := Lib.hid (Mid.below (HB13.out) hb (by have q1 := HZ1.out; have q2 := HZ2.out; have q3 := HZ3.out; have q4 := HZ4.out; have q5 := HZ5.out; omega) (by have q1 := HZ1.out; have q2 := HZ2.out; have q3 := HZ3.out; have q4 := HZ4.out; have q5 := HZ5.out; have q6 := HZ6.out; have q7 := HZ7.out; have q8 := HZ8.out; have q9 := HZ9.out; have q10 := HZ10.out; have q11 := HZ11.out; have q12 := HZ12.out; have q13 := HZ13.out; omega))
  have HS14 := Lib.hid (Mid.below HS13.out hb (Nat.le_refl _) (by have q6 := HZ6.out; have q7 := HZ7.out; have q8 := HZ8.out; have q9 := HZ9.out; have q10 := HZ10.out; have q11 := HZ11.out; have q12 := HZ12.out; have q13 := HZ13.out; omega))
  have HLx1_14 := Lib.hid (HLx1_13.out.mid hb (Nat.le_refl _))
  have HLg_14 := Lib.hid (HLg_13.out.mid hb (by have q7 := HZ7.out; omega))
  have HLx0_14 := Lib.hid ho
  clear ho hb
  go_wp2_with fail
  refine (mark_Int64SS HLx1_14.out HTx1.out (by omega) (by omega)).mono ?_
  rintro e W15 ⟨rfl, ho, hb⟩
  have HZ15 := Lib.hid hb.size
  have HB15 := Lib.hid (Mid.below (HB14.out) hb (by have q1 := HZ1.out; have q2 := HZ2.out; have q3 := HZ3.out; have q4 := HZ4.out; have q5 := HZ5.out; have q6 := HZ6.out; omega) (by have q1 := HZ1.out; have q2 := HZ2.out; have q3 := HZ3.out; have q4 := HZ4.out; have q5 := HZ5.out; have q6 := HZ6.out; have q7 := HZ7.out; have q8 := HZ8.out; have q9 := HZ9.out; have q10 := HZ10.out; have q11 := HZ11.out; have q12 := HZ12.out; have q13 := HZ13.out; have q14 := HZ14.out; omega))
  have HS15 := Lib.hid (Mid.below HS14.out hb (by have q6 := HZ6.out; omega) (by have q6 := HZ6.out; have q7 := HZ7.out; have q8 := HZ8.out; have q9 := HZ9.out; have q10 := HZ10.out; have q11 := HZ11.out; have q12 := HZ12.out; have q13 := HZ13.out; have q14 := HZ14.out; omega))
  have HLg_15 := Lib.hid (HLg_14.out.mid hb (Nat.le_refl _))
  have HLx1_15 := Lib.hid ho
  clear ho hb
  go_wp2_with fail
  refine (eq_Int64SS HLg_15.out.reads (HRW.out.below HS15.out)).mono ?_
  rintro e W16 ⟨rfl, hb⟩
  have HZ16 := Lib.hid hb.size
  have HB16 := Lib.hid ((HB15.out).trans (hb.mono (HB15.out).size))
  have HS16 := Lib.hid (HS15.out.trans (hb.mono HS15.out.size))
  have HLg_16 := Lib.hid (HLg_15.out.below hb)
  clear hb
  have NG := pSumOfTermLists_sz X0 (by have h0 := HR0.out.len; have h1 := HR1.out.len; omega) X1 (by have h0 := HR0.out.len; have h1 := HR1.out.len; omega)
  go_wp2_with fail
  refine (mark_Int64SS HLg_16.out HTg.out (by omega) (by omega)).mono ?_
  rintro e W17 ⟨rfl, ho, hb⟩
  have HZ17 := Lib.hid hb.size
  have HB17 := Lib.hid (Mid.below (HB16.out) hb (by have q1 := HZ1.out; have q2 := HZ2.out; have q3 := HZ3.out; have q4 := HZ4.out; have q5 := HZ5.out; have q6 := HZ6.out; have q7 := HZ7.out; omega) (by have q1 := HZ1.out; have q2 := HZ2.out; have q3 := HZ3.out; have q4 := HZ4.out; have q5 := HZ5.out; have q6 := HZ6.out; have q7 := HZ7.out; have q8 := HZ8.out; have q9 := HZ9.out; have q10 := HZ10.out; have q11 := HZ11.out; have q12 := HZ12.out; have q13 := HZ13.out; have q14 := HZ14.out; have q15 := HZ15.out; have q16 := HZ16.out; omega))
  have HS17 := Lib.hid (Mid.below HS16.out hb (by have q6 := HZ6.out; have q7 := HZ7.out; omega) (by have q6 := HZ6.out; have q7 := HZ7.out; have q8 := HZ8.out; have q9 := HZ9.out; have q10 := HZ10.out; have q11 := HZ11.out; have q12 := HZ12.out; have q13 := HZ13.out; have q14 := HZ14.out; have q15 := HZ15.out; have q16 := HZ16.out; omega))
  have HLg_17 := Lib.hid ho
  clear ho hb
  go_wp2_with fail
  refine (held_Int64SS HLg_17.out.reads (by omega) (by omega)).mono ?_
  rintro e W18 ⟨rfl, hb⟩
  have HZ18 := Lib.hid hb.size
  have HB18 := Lib.hid ((HB17.out).trans (hb.mono (HB17.out).size))
  have HS18 := Lib.hid (HS17.out.trans (hb.mono HS17.out.size))
  have HLg_18 := Lib.hid (HLg_17.out.below hb)
  clear hb
  go_wp2_with fail
  refine (to_Int64SS (HR0.out.below (HB18.out)) (by omega)).mono ?_
  rintro e W19 ⟨Gv0, Vv0, rfl, ho, hb⟩
  have HZ19 := Lib.hid hb.size
  have HB19 := Lib.hid ((HB18.out).trans (hb.mono (HB18.out).size))
  have HS19 := Lib.hid (HS18.out.trans (hb.mono HS18.out.size))
  have HLg_19 := Lib.hid (HLg_18.out.below hb)
  clear hb
  have HLv0_19 := Lib.hid ho
  clear ho
  have HTv0 := Lib.hid HLv0_19.out.ins
  go_wp2_with fail
  refine (to_Int64SS (HR1.out.below (HB19.out)) (by omega)).mono ?_
  rintro e W20 ⟨Gv1, Vv1, rfl, ho, hb⟩
  have HZ20 := Lib.hid hb.size
  have HB20 := Lib.hid ((HB19.out).trans (hb.mono (HB19.out).size))
  have HS20 := Lib.hid (HS19.out.trans (hb.mono HS19.out.size))
  have HLg_20 := Lib.hid (HLg_19.out.below hb)
  have HLv0_20 := Lib.hid (HLv0_19.out.below hb)
  clear hb
  have HLv1_20 := Lib.hid ho
  clear ho
  have HTv1 := Lib.hid HLv1_20.out.ins
  go_wp2_with fail
  refine (impl_SumOfTermLists HLv0_20.out.reads (by omega) HLv1_20.out.reads (by omega)).mono ?_
  rintro e W21 ⟨Ah, nh, ch, vh, rfl, ho, hb⟩
  have HZ21 := Lib.hid hb.size
  have HB21 := Lib.hid ((HB20.out).trans (hb.mono (HB20.out).size))
  have HS21 := Lib.hid (HS20.out.trans (hb.mono HS20.out.size))
  have HLg_21 := Lib.hid (HLg_20.out.below hb)
  have HLv0_21 := Lib.hid (HLv0_20.out.below hb)
  have HLv1_21 := Lib.hid (HLv1_20.out.below hb)
  clear hb
  have HLh_21 := Lib.hid ho
  clear ho
  have HTh := Lib.hid HLh_21.out.ins
  obtain rfl : nh = ng := by rw [← HLh_21.out.len, HRW.out.len]
  go_wp2_with fail
  refine (eq_Int64SS HLh_21.out.reads (HRW.out.below HS21.out)).mono ?_
  rintro e W22 ⟨rfl, hb⟩
  have HZ22 := Lib.hid hb.size
  have HB22 := Lib.hid ((HB21.out).trans (hb.mono (HB21.out).size))
  have HS22 := Lib.hid (HS21.out.trans (hb.mono HS21.out.size))
  have HLg_22 := Lib.hid (HLg_21.out.below hb)
  have HLv0_22 := Lib.hid (HLv0_21.out.below hb)
  have HLv1_22 := Lib.hid (HLv1_21.out.below hb)
  have HLh_22 := Lib.hid (HLh_21.out.below hb)
  clear hb
  go_wp2_with fail
  refine (held_Int64SS HLg_22.out.reads (by omega) (by omega)).mono ?_
  rintro e W23 ⟨rfl, hb⟩
  have HZ23 := Lib.hid hb.size
  have HB23 := Lib.hid ((HB22.out).trans (hb.mono (HB22.out).size))
  have HS23 := Lib.hid (HS22.out.trans (hb.mono HS22.out.size))
  have HLg_23 := Lib.hid (HLg_22.out.below hb)
  have HLv0_23 := Lib.hid (HLv0_22.out.below hb)
  have HLv1_23 := Lib.hid (HLv1_22.out.below hb)
  have HLh_23 := Lib.hid (HLh_22.out.below hb)
  clear hb
  go_wp2
  go_ret
  exact ⟨rfl, HB23.out⟩

set_option maxRecDepth 100000 in
theorem lifted (os : Os) (started : os.Started) (H : Type) (enc : TypeId × Value → H) :
    ReturnsInHanded {} Try.checked os 9 .any (Rows.fnExactSumOfTermListsSpec.pre6 enc Try.prog Try.f9 Rows.fnExactSumOfTermListsRow.domain false) (Rows.fnExactSumOfTermListsSpec.post enc Try.prog Try.f9 false true false false) := by
  refine returnsInHanded_of_change (C := Try.checked) own started (by kernel_rfl) Try.func9
    (ChangeSpec.witness6 (enc := enc) (C := Try.checked) false ⟨#[], #[.slice none 0 0, .slice none 0 0], []⟩ 8 (by kernel_rfl) (by kernel_rfl) (by kernel_rfl) (by kernel_rfl)) ?_
  intro W base args ds gs before hval0 hW hcnd _
  have hval : ∀ (j : Nat) t v, Try.f9.params[j]? = some t → args[j]? = some v → Value.okWide Try.prog W .any base t v := hval0
  have hW' := hW
  obtain ⟨p, q, hA0, hV, rfl, hfz, hnd⟩ := hW
  have hA : DataW.TrodAll enc Try.prog W 0 (fun _ => true) true Try.f9.params.toList args.toList ds p := hA0
  rw [Try.params9] at hA hval
  obtain ⟨v0, vs0, d0, ds0, p0, q0, hargs, rfl, rfl, h0, r0⟩ := trodAll_cons hA
  obtain ⟨v1, vs1, d1, ds1, p1, q1, rfl, rfl, rfl, h1, r1⟩ := trodAll_cons r0
  obtain ⟨rfl, rfl, rfl⟩ := trodAll_nil r1
  obtain rfl : args = #[v0, v1] := by cases args; simp_all
  obtain ⟨rfl, rfl⟩ := trodVars_none hV
  have t0 := h0
  have lt0 : ∀ x ∈ p0, x.block < W.heap.size := by obtain ⟨m, hm⟩ := t0; exact DataW.trod_lt m _ _ _ hm
  obtain ⟨a0, l0, k0, rfl⟩ := okWide_slice Try.underlying22 (hval 0 22 v0 rfl rfl)
  obtain ⟨fuel0, hf0⟩ := h0
  obtain ⟨A0, n0, c0, V0, X0, g0, rr0⟩ := open_SS hf0
  simp [Value.cells] at g0
  obtain ⟨rfl, rfl, rfl⟩ := g0
  have t1 := h1
  have lt1 : ∀ x ∈ p1, x.block < W.heap.size := by obtain ⟨m, hm⟩ := t1; exact DataW.trod_lt m _ _ _ hm
  obtain ⟨a1, l1, k1, rfl⟩ := okWide_slice Try.underlying22 (hval 1 22 v1 rfl rfl)
  obtain ⟨fuel1, hf1⟩ := h1
  obtain ⟨A1, n1, c1, V1, X1, g1, rr1⟩ := open_SS hf1
  simp [Value.cells] at g1
  obtain ⟨rfl, rfl, rfl⟩ := g1
  clear hA0 hval0
  refine (walk a0 l0 k0 V0 X0 a1 l1 k1 V1 X1 W rr0 rr1).mono fun e W' ⟨he, bel⟩ => ?_
  subst he
  exact ⟨_, rfl, _, _, _, [], _, [], hW', trodAll_mk1 (shut_bool Try.underlying4 _), (trodAll_cons_mk (Below.trod laidOut (by kernel_rfl) (of_decide_eq_true (by kernel_rfl)) t0 bel lt0) (trodAll_cons_mk (Below.trod laidOut (by kernel_rfl) (of_decide_eq_true (by kernel_rfl)) t1 bel lt1) trodAll_mk0)), rfl, bel.frame _, fun h => by cases h⟩

theorem closed : joinedFacts Try.prog 9 Try.f9 Rows.fnExactSumOfTermListsSpec Rows.fnExactSumOfTermListsRow = true := by
  unfold joinedFacts
  rw [mayEnter_eq, liftsFinal_eq, make_eq]
  kernel_rfl


theorem over : Rows.fnExactSumOfTermListsRow.holds Try.pinned (OpenSpec.ofChange Rows.fnExactSumOfTermListsSpec) :=
  OpenClaim.holds_of_wide 9 Try.f9 rfl rfl rfl rfl rfl rfl rfl ⟨rfl, rfl, rfl, rfl, rfl⟩ rfl rfl rfl rfl rfl (by kernel_rfl) Try.func9 closed
    (of_decide_eq_true (by kernel_rfl)) (by unfold Func.isWrapper; first | (rw [if_pos (by decide +kernel)]; kernel_rfl) | (rw [if_neg (by decide +kernel)]; exact ⟨rfl, rfl⟩))
    (fun os started H enc _ => lifted os started H enc)

theorem proved : Rows.FnExactSumOfTermListsSaid := over
#print axioms proved
end Go.Proofs.Ytpgmggkpnefaeaa.fnExactSumOfTermLists
