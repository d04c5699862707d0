/- The statement on FnExactBasisOfProfile: for every input the call returns true, and each argument reads behind the call as it read before. No condition. The frame is written by a program of this repo after the kit's shell. -/
import Derived.Test.YtpgmggkpnefaeaaDelF
import Derived.Test.YtpgmggkpnefaeaaKit
import Derived.Test.YtpgmggkpnefaeaaFrm
import Derived.Test.YtpgmggkpnefaeaaRows
import Derived.WalkKit
import Derived.ProofKit
import Derived.OpenShut
import Derived.ShutString
import Derived.ChangeOld
import Derived.Below
import Derived.Lib.SmallJoins
import Derived.Deep.RegionHeld3
import Derived.Deep.RegionWith
namespace Go.Proofs.Ytpgmggkpnefaeaa.fnExactBasisOfProfile
open Go.Joins Go.ChangeShapes Go.WideShapes Go.ChangeAt Go.RowKit
open Go.ChangeMaps (open_string shut_string)
set_option linter.unusedVariables false

theorem own : ownKnob Try.prog.godebug = none := by kernel_rfl
theorem laidOut : laidOutB Try.prog = true := by kernel_rfl

set_option maxRecDepth 100000 in
set_option maxHeartbeats 2000000 in
theorem walk (A0 : Option Addr) (n0 c0 : Nat) (X0 : List Int) (a1 : Int) (w : World) (r0 : RI w A0 n0 X0) (w1 : I64 a1) :
    Calls Try.prog 10 #[.slice A0 n0 c0, .int .i64 a1] w fun e w' => e = .returned (.bool true) ∧ Below w.heap.size w w' := by
  have HR0 := Lib.hid r0
  have S0 := r0.small
  clear r0
  have HW1 := Lib.hid w1
  clear w1
  by_cases hn0 : n0 ≤ 1048576
  rotate_left
  · have hn02 : (1048576 : Int) < (n0 : Int) := by omega
    go_enter Try.func10, Try.ntmps10
    go_wp2
    go_ret
    exact ⟨rfl, Below.refl w.heap.size w⟩
  go_enter Try.func10, Try.ntmps10
  go_wp2_with fail
  refine (to_Int64S (HR0.out.below (Below.refl w.heap.size w)) (by omega)).mono ?_
  rintro e W1 ⟨Gu0, rfl, ho, hb⟩
  have HZ1 := Lib.hid hb.size
  have HB1 := Lib.hid ((Below.refl w.heap.size w).trans (hb.mono (Below.refl w.heap.size w).size))
  clear hb
  have HLu0_1 := Lib.hid ho
  clear ho
  have HTu0 := Lib.hid HLu0_1.out.ins
  go_wp2_with fail
  refine (spec_BasisOfProfile HLu0_1.out.reads (by omega) HW1.out).mono ?_
  rintro e W2 ⟨AW, nW, cW, vW, rfl, ho, hb⟩
  have HZ2 := Lib.hid hb.size
  have HB2 := Lib.hid ((HB1.out).trans (hb.mono (HB1.out).size))
  have HLu0_2 := Lib.hid (HLu0_1.out.below hb)
  clear hb
  have HLW_2 := Lib.hid ho
  clear ho
  have HTW := Lib.hid HLW_2.out.ins
  have HRW := Lib.hid HLW_2.out.reads
  go_wp2_with fail
  refine (to_Int64S (HR0.out.below (HB2.out)) (by omega)).mono ?_
  rintro e W3 ⟨Gx0, rfl, ho, hb⟩
  have HZ3 := Lib.hid hb.size
  have HB3 := Lib.hid ((HB2.out).trans (hb.mono (HB2.out).size))
  have HS3 := Lib.hid hb
  clear hb
  have HLx0_3 := Lib.hid ho
  clear ho
  have HTx0 := Lib.hid HLx0_3.out.ins
  go_wp2_with fail
  refine (impl_BasisOfProfile HLx0_3.out.reads (by omega) HW1.out).mono ?_
  rintro e W4 ⟨Ag, ng, cg, vg, rfl, ho, hb⟩
  have HZ4 := Lib.hid hb.size
  have HB4 := Lib.hid ((HB3.out).trans (hb.mono (HB3.out).size))
  have HS4 := Lib.hid (HS3.out.trans (hb.mono HS3.out.size))
  have HLx0_4 := Lib.hid (HLx0_3.out.below hb)
  clear hb
  have HLg_4 := Lib.hid ho
  clear ho
  have HTg := Lib.hid HLg_4.out.ins
  obtain rfl : ng = nW := by rw [← HLg_4.out.len, HRW.out.len]
  go_wp2_with fail
  refine (eq_Int64SS HLg_4.out.reads (HRW.out.below HS4.out)).mono ?_
  rintro e W5 ⟨rfl, hb⟩
  have HZ5 := Lib.hid hb.size
  have HB5 := Lib.hid ((HB4.out).trans (hb.mono (HB4.out).size))
  have HS5 := Lib.hid (HS4.out.trans (hb.mono HS4.out.size))
  have HLx0_5 := Lib.hid (HLx0_4.out.below hb)
  have HLg_5 := Lib.hid (HLg_4.out.below hb)
  clear hb
  go_wp2_with fail
  refine (to_Int64S (HR0.out.below (HB5.out)) (by omega)).mono ?_
  rintro e W6 ⟨Gy0, rfl, ho, hb⟩
  have HZ6 := Lib.hid hb.size
  have HB6 := Lib.hid ((HB5.out).trans (hb.mono (HB5.out).size))
  have HS6 := Lib.hid (HS5.out.trans (hb.mono HS5.out.size))
  have HLx0_6 := Lib.hid (HLx0_5.out.below hb)
  have HLg_6 := Lib.hid (HLg_5.out.below hb)
  clear hb
  have HLy0_6 := Lib.hid ho
  clear ho
  have HTy0 := Lib.hid HLy0_6.out.ins
  go_wp2_with fail
  refine (eq_Int64S HLx0_6.out.reads HLy0_6.out.reads).mono ?_
  rintro e W7 ⟨rfl, hb⟩
  have HZ7 := Lib.hid hb.size
  have HB7 := Lib.hid ((HB6.out).trans (hb.mono (HB6.out).size))
  have HS7 := Lib.hid (HS6.out.trans (hb.mono HS6.out.size))
  have HLx0_7 := Lib.hid (HLx0_6.out.below hb)
  have HLg_7 := Lib.hid (HLg_6.out.below hb)
  have HLy0_7 := Lib.hid (HLy0_6.out.below hb)
  clear hb
  go_wp2_with fail
  refine (mark_Int64S HLx0_7.out HTx0.out (by omega) (by omega)).mono ?_
  rintro e W8 ⟨rfl, ho, hb⟩
  have HZ8 := Lib.hid hb.size
  have HB8 := Lib.hid (Mid.below (HB7.out) hb (by have q1 := HZ1.out; have q2 := HZ2.out; omega) (by have q1 := HZ1.out; have q2 := HZ2.out; have q3 := HZ3.out; have q4 := HZ4.out; have q5 := HZ5.out; have q6 := HZ6.out; have q7 := HZ7.out; omega))
  have HS8 := Lib.hid (Mid.below HS7.out hb (Nat.le_refl _) (by have q3 := HZ3.out; have q4 := HZ4.out; have q5 := HZ5.out; have q6 := HZ6.out; have q7 := HZ7.out; omega))
  have HLg_8 := Lib.hid (HLg_7.out.mid hb (Nat.le_refl _))
  have HLx0_8 := Lib.hid ho
  clear ho hb
  go_wp2_with fail
  refine (eq_Int64SS HLg_8.out.reads (HRW.out.below HS8.out)).mono ?_
  rintro e W9 ⟨rfl, hb⟩
  have HZ9 := Lib.hid hb.size
  have HB9 := Lib.hid ((HB8.out).trans (hb.mono (HB8.out).size))
  have HS9 := Lib.hid (HS8.out.trans (hb.mono HS8.out.size))
  have HLg_9 := Lib.hid (HLg_8.out.below hb)
  clear hb
  have NG := pBasisOfProfile_sz X0 (by have h := HR0.out.len; omega) a1
  go_wp2_with fail
  refine (mark_Int64SS HLg_9.out HTg.out (by omega) (by omega)).mono ?_
  rintro e W10 ⟨rfl, ho, hb⟩
  have HZ10 := Lib.hid hb.size
  have HB10 := Lib.hid (Mid.below (HB9.out) hb (by have q1 := HZ1.out; have q2 := HZ2.out; have q3 := HZ3.out; omega) (by have q1 := HZ1.out; have q2 := HZ2.out; have q3 := HZ3.out; have q4 := HZ4.out; have q5 := HZ5.out; have q6 := HZ6.out; have q7 := HZ7.out; have q8 := HZ8.out; have q9 := HZ9.out; omega))
  have HS10 := Lib.hid (Mid.below HS9.out hb (by have q3 := HZ3.out; omega) (by have q3 := HZ3.out; have q4 := HZ4.out; have q5 := HZ5.out; have q6 := HZ6.out; have q7 := HZ7.out; have q8 := HZ8.out; have q9 := HZ9.out; omega))
  have HLg_10 := Lib.hid ho
  clear ho hb
  go_wp2_with fail
  refine (held_Int64SS HLg_10.out.reads (by omega) (by omega)).mono ?_
  rintro e W11 ⟨rfl, hb⟩
  have HZ11 := Lib.hid hb.size
  have HB11 := Lib.hid ((HB10.out).trans (hb.mono (HB10.out).size))
  have HS11 := Lib.hid (HS10.out.trans (hb.mono HS10.out.size))
  have HLg_11 := Lib.hid (HLg_10.out.below hb)
  clear hb
  go_wp2_with fail
  refine (to_Int64S (HR0.out.below (HB11.out)) (by omega)).mono ?_
  rintro e W12 ⟨Gv0, rfl, ho, hb⟩
  have HZ12 := Lib.hid hb.size
  have HB12 := Lib.hid ((HB11.out).trans (hb.mono (HB11.out).size))
  have HS12 := Lib.hid (HS11.out.trans (hb.mono HS11.out.size))
  have HLg_12 := Lib.hid (HLg_11.out.below hb)
  clear hb
  have HLv0_12 := Lib.hid ho
  clear ho
  have HTv0 := Lib.hid HLv0_12.out.ins
  go_wp2_with fail
  refine (impl_BasisOfProfile HLv0_12.out.reads (by omega) HW1.out).mono ?_
  rintro e W13 ⟨Ah, nh, ch, vh, rfl, ho, hb⟩
  have HZ13 := Lib.hid hb.size
  have HB13 := Lib.hid ((HB12.out).trans (hb.mono (HB12.out).size))
  have HS13 := Lib.hid (HS12.out.trans (hb.mono HS12.out.size))
  have HLg_13 := Lib.hid (HLg_12.out.below hb)
  have HLv0_13 := Lib.hid (HLv0_12.out.below hb)
  clear hb
  have HLh_13 := Lib.hid ho
  clear ho
  have HTh := Lib.hid HLh_13.out.ins
  obtain rfl : nh = ng := by rw [← HLh_13.out.len, HRW.out.len]
  go_wp2_with fail
  refine (eq_Int64SS HLh_13.out.reads (HRW.out.below HS13.out)).mono ?_
  rintro e W14 ⟨rfl, hb⟩
  have HZ14 := Lib.hid hb.size
  have HB14 := Lib.hid ((HB13.out).trans (hb.mono (HB13.out).size))
  have HS14 := Lib.hid (HS13.out.trans (hb.mono HS13.out.size))
  have HLg_14 := Lib.hid (HLg_13.out.below hb)
  have HLv0_14 := Lib.hid (HLv0_13.out.below hb)
  have HLh_14 := Lib.hid (HLh_13.out.below hb)
  clear hb
  go_wp2_with fail
  refine (held_Int64SS HLg_14.out.reads (by omega) (by omega)).mono ?_
  rintro e W15 ⟨rfl, hb⟩
  have HZ15 := Lib.hid hb.size
  have HB15 := Lib.hid ((HB14.out).trans (hb.mono (HB14.out).size))
  have HS15 := Lib.hid (HS14.out.trans (hb.mono HS14.out.size))
  have HLg_15 := Lib.hid (HLg_14.out.below hb)
  have HLv0_15 := Lib.hid (HLv0_14.out.below hb)
  have HLh_15 := Lib.hid (HLh_14.out.below hb)
  clear hb
  go_wp2
  go_ret
  exact ⟨rfl, HB15.out⟩

set_option maxRecDepth 100000 in
theorem lifted (os : Os) (started : os.Started) (H : Type) (enc : TypeId × Value → H) :
    ReturnsInHanded {} Try.checked os 10 .any (Rows.fnExactBasisOfProfileSpec.pre6 enc Try.prog Try.f10 Rows.fnExactBasisOfProfileRow.domain false) (Rows.fnExactBasisOfProfileSpec.post enc Try.prog Try.f10 false true false false) := by
  refine returnsInHanded_of_change (C := Try.checked) own started (by kernel_rfl) Try.func10
    (ChangeSpec.witness6 (enc := enc) (C := Try.checked) false ⟨#[], #[.slice none 0 0, .int .i64 0], []⟩ 8 (by kernel_rfl) (by kernel_rfl) (by kernel_rfl) (by kernel_rfl)) ?_
  intro W base args ds gs before hval0 hW hcnd _
  have hval : ∀ (j : Nat) t v, Try.f10.params[j]? = some t → args[j]? = some v → Value.okWide Try.prog W .any base t v := hval0
  have hW' := hW
  obtain ⟨p, q, hA0, hV, rfl, hfz, hnd⟩ := hW
  have hA : DataW.TrodAll enc Try.prog W 0 (fun _ => true) true Try.f10.params.toList args.toList ds p := hA0
  rw [Try.params10] at hA hval
  obtain ⟨v0, vs0, d0, ds0, p0, q0, hargs, rfl, rfl, h0, r0⟩ := trodAll_cons hA
  obtain ⟨v1, vs1, d1, ds1, p1, q1, rfl, rfl, rfl, h1, r1⟩ := trodAll_cons r0
  obtain ⟨rfl, rfl, rfl⟩ := trodAll_nil r1
  obtain rfl : args = #[v0, v1] := by cases args; simp_all
  obtain ⟨rfl, rfl⟩ := trodVars_none hV
  have t0 := h0
  have lt0 : ∀ x ∈ p0, x.block < W.heap.size := by obtain ⟨m, hm⟩ := t0; exact DataW.trod_lt m _ _ _ hm
  obtain ⟨a0, l0, k0, rfl⟩ := okWide_slice Try.underlying51 (hval 0 51 v0 rfl rfl)
  obtain ⟨fuel0, hf0⟩ := h0
  obtain ⟨A0, n0, c0, X0, g0, rr0⟩ := open_LL hf0
  simp [Value.cells] at g0
  obtain ⟨rfl, rfl, rfl⟩ := g0
  obtain ⟨a1, rfl, rfl, rfl, w1⟩ := open_int Try.underlying2 (hval 1 2 v1 rfl rfl) h1
  clear hA0 hval0
  refine (walk a0 l0 k0 X0 a1 W rr0 w1).mono fun e W' ⟨he, bel⟩ => ?_
  subst he
  exact ⟨_, rfl, _, _, _, [], _, [], hW', trodAll_mk1 (shut_bool Try.underlying4 _), (trodAll_cons_mk (Below.trod laidOut (by kernel_rfl) (of_decide_eq_true (by kernel_rfl)) t0 bel lt0) (trodAll_cons_mk (shut_int Try.underlying2 w1) trodAll_mk0)), rfl, bel.frame _, fun h => by cases h⟩

theorem closed : joinedFacts Try.prog 10 Try.f10 Rows.fnExactBasisOfProfileSpec Rows.fnExactBasisOfProfileRow = true := by
  unfold joinedFacts
  rw [mayEnter_eq, liftsFinal_eq, make_eq]
  kernel_rfl


theorem over : Rows.fnExactBasisOfProfileRow.holds Try.pinned (OpenSpec.ofChange Rows.fnExactBasisOfProfileSpec) :=
  OpenClaim.holds_of_wide 10 Try.f10 rfl rfl rfl rfl rfl rfl rfl ⟨rfl, rfl, rfl, rfl, rfl⟩ rfl rfl rfl rfl rfl (by kernel_rfl) Try.func10 closed
    (of_decide_eq_true (by kernel_rfl)) (by unfold Func.isWrapper; first | (rw [if_pos (by decide +kernel)]; kernel_rfl) | (rw [if_neg (by decide +kernel)]; exact ⟨rfl, rfl⟩))
    (fun os started H enc _ => lifted os started H enc)

theorem proved : Rows.FnExactBasisOfProfileSaid := over
#print axioms proved
end Go.Proofs.Ytpgmggkpnefaeaa.fnExactBasisOfProfile
