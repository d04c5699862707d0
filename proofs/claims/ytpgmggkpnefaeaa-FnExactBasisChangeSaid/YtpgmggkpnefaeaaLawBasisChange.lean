/- The statement on FnExactBasisChange: for every input the call returns true, and each argument reads behind the call as it read before. No condition. The frame is written by a program of this repo after the kit's shell. -/
import Derived.Test.YtpgmggkpnefaeaaBch
import Derived.Test.YtpgmggkpnefaeaaKit2
import Derived.Test.YtpgmggkpnefaeaaFrm
import Derived.Test.YtpgmggkpnefaeaaRows
import Derived.WalkKit
import Derived.ProofKit
import Derived.OpenShut
import Derived.ShutString
import Derived.ChangeOld
import Derived.Below
import Derived.Lib.SmallJoins
import Derived.Deep.RegionHeld3
import Derived.Deep.RegionWith
namespace Go.Proofs.Ytpgmggkpnefaeaa.fnExactBasisChange
open Go.Joins Go.ChangeShapes Go.WideShapes Go.ChangeAt Go.RowKit
open Go.ChangeMaps (open_string shut_string)
set_option linter.unusedVariables false

theorem own : ownKnob Try.prog.godebug = none := by kernel_rfl
theorem laidOut : laidOutB Try.prog = true := by kernel_rfl

set_option maxRecDepth 100000 in
set_option maxHeartbeats 2000000 in
theorem walk (a0 : Int) (w : World) (w0 : I64 a0) :
    Calls Try.prog 3 #[.int .i64 a0] w fun e w' => e = .returned (.bool true) ∧ Below w.heap.size w w' := by
  have HW0 := Lib.hid w0
  clear w0
  go_enter Try.func3, Try.ntmps3
  go_wp2_with fail
  refine (spec_BasisChange HW0.out).mono ?_
  rintro e W1 ⟨AW, nW, cW, vW, rfl, ho, hb⟩
  have HZ1 := Lib.hid hb.size
  have HB1 := Lib.hid ((Below.refl w.heap.size w).trans (hb.mono (Below.refl w.heap.size w).size))
  clear hb
  have HLW_1 := Lib.hid ho
  clear ho
  have HTW := Lib.hid HLW_1.out.ins
  have HRW := Lib.hid HLW_1.out.reads
  go_wp2_with fail
  refine (impl_BasisChange HW0.out).mono ?_
  rintro e W2 ⟨Ag, ng, cg, vg, rfl, ho, hb⟩
  have HZ2 := Lib.hid hb.size
  have HB2 := Lib.hid ((HB1.out).trans (hb.mono (HB1.out).size))
  have HS2 := Lib.hid hb
  clear hb
  have HLg_2 := Lib.hid ho
  clear ho
  have HTg := Lib.hid HLg_2.out.ins
  obtain rfl : ng = nW := by rw [← HLg_2.out.len, HRW.out.len]
  go_wp2_with fail
  refine (eq_Int64SS HLg_2.out.reads (HRW.out.below HS2.out)).mono ?_
  rintro e W3 ⟨rfl, hb⟩
  have HZ3 := Lib.hid hb.size
  have HB3 := Lib.hid ((HB2.out).trans (hb.mono (HB2.out).size))
  have HS3 := Lib.hid (HS2.out.trans (hb.mono HS2.out.size))
  have HLg_3 := Lib.hid (HLg_2.out.below hb)
  clear hb
  have NG := pBasisChange_sz a0
  go_wp2_with fail
  refine (mark_Int64SS HLg_3.out HTg.out (by omega) (by omega)).mono ?_
  rintro e W4 ⟨rfl, ho, hb⟩
  have HZ4 := Lib.hid hb.size
  have HB4 := Lib.hid (Mid.below (HB3.out) hb (by have q1 := HZ1.out; omega) (by have q1 := HZ1.out; have q2 := HZ2.out; have q3 := HZ3.out; omega))
  have HS4 := Lib.hid (Mid.below HS3.out hb (Nat.le_refl _) (by have q2 := HZ2.out; have q3 := HZ3.out; omega))
  have HLg_4 := Lib.hid ho
  clear ho hb
  go_wp2_with fail
  refine (held_Int64SS HLg_4.out.reads (by omega) (by omega)).mono ?_
  rintro e W5 ⟨rfl, hb⟩
  have HZ5 := Lib.hid hb.size
  have HB5 := Lib.hid ((HB4.out).trans (hb.mono (HB4.out).size))
  have HS5 := Lib.hid (HS4.out.trans (hb.mono HS4.out.size))
  have HLg_5 := Lib.hid (HLg_4.out.below hb)
  clear hb
  go_wp2_with fail
  refine (impl_BasisChange HW0.out).mono ?_
  rintro e W6 ⟨Ah, nh, ch, vh, rfl, ho, hb⟩
  have HZ6 := Lib.hid hb.size
  have HB6 := Lib.hid ((HB5.out).trans (hb.mono (HB5.out).size))
  have HS6 := Lib.hid (HS5.out.trans (hb.mono HS5.out.size))
  have HLg_6 := Lib.hid (HLg_5.out.below hb)
  clear hb
  have HLh_6 := Lib.hid ho
  clear ho
  have HTh := Lib.hid HLh_6.out.ins
  obtain rfl : nh = ng := by rw [← HLh_6.out.len, HRW.out.len]
  go_wp2_with fail
  refine (eq_Int64SS HLh_6.out.reads (HRW.out.below HS6.out)).mono ?_
  rintro e W7 ⟨rfl, hb⟩
  have HZ7 := Lib.hid hb.size
  have HB7 := Lib.hid ((HB6.out).trans (hb.mono (HB6.out).size))
  have HS7 := Lib.hid (HS6.out.trans (hb.mono HS6.out.size))
  have HLg_7 := Lib.hid (HLg_6.out.below hb)
  have HLh_7 := Lib.hid (HLh_6.out.below hb)
  clear hb
  go_wp2_with fail
  refine (held_Int64SS HLg_7.out.reads (by omega) (by omega)).mono ?_
  rintro e W8 ⟨rfl, hb⟩
  have HZ8 := Lib.hid hb.size
  have HB8 := Lib.hid ((HB7.out).trans (hb.mono (HB7.out).size))
  have HS8 := Lib.hid (HS7.out.trans (hb.mono HS7.out.size))
  have HLg_8 := Lib.hid (HLg_7.out.below hb)
  have HLh_8 := Lib.hid (HLh_7.out.below hb)
  clear hb
  go_wp2
  go_ret
  exact ⟨rfl, HB8.out⟩

set_option maxRecDepth 100000 in
theorem lifted (os : Os) (started : os.Started) (H : Type) (enc : TypeId × Value → H) :
    ReturnsInHanded {} Try.checked os 3 .any (Rows.fnExactBasisChangeSpec.pre6 enc Try.prog Try.f3 Rows.fnExactBasisChangeRow.domain false) (Rows.fnExactBasisChangeSpec.post enc Try.prog Try.f3 false true false false) := by
  refine returnsInHanded_of_change (C := Try.checked) own started (by kernel_rfl) Try.func3
    (ChangeSpec.witness6 (enc := enc) (C := Try.checked) false ⟨#[], #[.int .i64 0], []⟩ 8 (by kernel_rfl) (by kernel_rfl) (by kernel_rfl) (by kernel_rfl)) ?_
  intro W base args ds gs before hval0 hW hcnd _
  have hval : ∀ (j : Nat) t v, Try.f3.params[j]? = some t → args[j]? = some v → Value.okWide Try.prog W .any base t v := hval0
  have hW' := hW
  obtain ⟨p, q, hA0, hV, rfl, hfz, hnd⟩ := hW
  have hA : DataW.TrodAll enc Try.prog W 0 (fun _ => true) true Try.f3.params.toList args.toList ds p := hA0
  rw [Try.params3] at hA hval
  obtain ⟨v0, vs0, d0, ds0, p0, q0, hargs, rfl, rfl, h0, r0⟩ := trodAll_cons hA
  obtain ⟨rfl, rfl, rfl⟩ := trodAll_nil r0
  obtain rfl : args = #[v0] := by cases args; simp_all
  obtain ⟨rfl, rfl⟩ := trodVars_none hV
  obtain ⟨a0, rfl, rfl, rfl, w0⟩ := open_int Try.underlying2 (hval 0 2 v0 rfl rfl) h0
  clear hA0 hval0
  simp only [List.append_nil] at hW'
  refine (walk a0 W w0).mono fun e W' ⟨he, bel⟩ => ?_
  subst he
  exact ⟨_, rfl, _, _, _, [], _, [], hW', trodAll_mk1 (shut_bool Try.underlying4 _), (trodAll_cons_mk (shut_int Try.underlying2 w0) trodAll_mk0), rfl, bel.frame _, fun h => by cases h⟩

theorem closed : joinedFacts Try.prog 3 Try.f3 Rows.fnExactBasisChangeSpec Rows.fnExactBasisChangeRow = true := by
  unfold joinedFacts
  rw [mayEnter_eq, liftsFinal_eq, make_eq]
  kernel_rfl


theorem over : Rows.fnExactBasisChangeRow.holds Try.pinned (OpenSpec.ofChange Rows.fnExactBasisChangeSpec) :=
  OpenClaim.holds_of_wide 3 Try.f3 rfl rfl rfl rfl rfl rfl rfl ⟨rfl, rfl, rfl, rfl, rfl⟩ rfl rfl rfl rfl rfl (by kernel_rfl) Try.func3 closed
    (of_decide_eq_true (by kernel_rfl)) (by unfold Func.isWrapper; first | (rw [if_pos (by decide +kernel)]; kernel_rfl) | (rw [if_neg (by decide +kernel)]; exact ⟨rfl, rfl⟩))
    (fun os started H enc _ => lifted os started H enc)

theorem proved : Rows.FnExactBasisChangeSaid := over
#print axioms proved
end Go.Proofs.Ytpgmggkpnefaeaa.fnExactBasisChange
