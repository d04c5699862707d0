/- The statement on FnExactMonomialsOf: for every input the call returns true, and each argument reads behind the call as it read before. No condition. The frame is written by a program of this repo after the kit's shell. -/
import Derived.Test.YtiajkfgicpidkaaMonB
import Derived.Test.YtiajkfgicpidkaaHelpS
import Derived.Test.YtiajkfgicpidkaaRows
import Derived.WalkKit
import Derived.ProofKit
import Derived.OpenShut
import Derived.ShutString
import Derived.ChangeOld
import Derived.Below
namespace Go.Proofs.Ytiajkfgicpidkaa.fnExactMonomialsOf
open Go.ChangeShapes Go.WideShapes Go.ChangeAt Go.RowKit
open Go.ChangeMaps (open_string shut_string)
set_option linter.unusedVariables false

theorem own : ownKnob Try.prog.godebug = none := by kernel_rfl
theorem laidOut : laidOutB Try.prog = true := by kernel_rfl

theorem walk (a0 : Int) (a1 : Int) (w : World) (w0 : (Lit.int .i64 a0).wf = true) (w1 : (Lit.int .i64 a1).wf = true) :
    Calls Try.prog 10 #[.int .i64 a0, .int .i64 a1] w fun e w' => e = .returned (.bool true) ∧ Below w.heap.size w w' := by
  have HW0 := Lib.hid w0
  clear w0
  have HW1 := Lib.hid w1
  clear w1
  go_enter Try.func10, Try.ntmps10
  go_wp2_with fail
  refine (spec_MonomialsOf a0 a1 _ HW0.out HW1.out).mono ?_
  rintro e W1 ⟨AW, nW, cW, vW, rfl, ho, hb⟩
  have HB1 := Lib.hid ((Below.refl w.heap.size w).trans (hb.mono (Below.refl w.heap.size w).size))
  clear hb
  have HLW1 := Lib.hid ho
  clear ho
  have LBW := Lib.hid (Nat.le_refl w.heap.size)
  have HRW := Lib.hid HLW1.out.reads
  go_wp2_with fail
  refine (impl_MonomialsOf a0 a1 _ HW0.out HW1.out).mono ?_
  rintro e W2 ⟨Ag, ng, cg, vg, rfl, ho, hb⟩
  have HB2 := Lib.hid ((HB1.out).trans (hb.mono (HB1.out).size))
  have HS2 := Lib.hid hb
  clear hb
  have HLg2 := Lib.hid ho
  clear ho
  have LBg := Lib.hid (HB1.out.size)
  have LSg := Lib.hid (Nat.le_refl W1.heap.size)
  obtain rfl : ng = nW := by rw [← HLg2.out.len, HRW.out.len]
  go_wp2_with fail
  refine (eqS_same _ _ _ _ _ _ _ _ _ (HLg2.out.reads) (HRW.out.below HS2.out)).mono ?_
  rintro e W3 ⟨rfl, hb⟩
  have HB3 := Lib.hid ((HB2.out).trans (hb.mono (HB2.out).size))
  have HS3 := Lib.hid (HS2.out.trans (hb.mono HS2.out.size))
  have HLg3 := Lib.hid (HLg2.out.below hb)
  clear hb
  have NG := pMonomialsOf_tot a0 a1
  have HIN := Lib.hid HLg2.out.inS
  go_wp2_with fail
  refine (markS_any _ _ _ _ _ _ _ _ _ (HLg3.out) HIN.out (by omega) (by omega)).mono ?_
  rintro e W4 ⟨rfl, ho, hb⟩
  have HB4 := Lib.hid (Mid.below HB3.out hb LBg.out HB3.out.size)
  have HS4 := Lib.hid (Mid.below HS3.out hb LSg.out HS3.out.size)
  have HLg4 := Lib.hid ho
  clear ho
  clear hb
  go_wp2_with fail
  refine (heldS_any _ _ _ _ _ _ _ (HLg4.out.reads) (by omega) (by omega)).mono ?_
  rintro e W5 ⟨rfl, hb⟩
  have HB5 := Lib.hid ((HB4.out).trans (hb.mono (HB4.out).size))
  have HS5 := Lib.hid (HS4.out.trans (hb.mono HS4.out.size))
  have HLg5 := Lib.hid (HLg4.out.below hb)
  clear hb
  go_wp2_with fail
  refine (impl_MonomialsOf a0 a1 _ HW0.out HW1.out).mono ?_
  rintro e W6 ⟨Ah, nh, ch, vh, rfl, ho, hb⟩
  have HB6 := Lib.hid ((HB5.out).trans (hb.mono (HB5.out).size))
  have HS6 := Lib.hid (HS5.out.trans (hb.mono HS5.out.size))
  have HLg6 := Lib.hid (HLg5.out.below hb)
  clear hb
  have HLh6 := Lib.hid ho
  clear ho
  have LBh := Lib.hid (HB5.out.size)
  have LSh := Lib.hid (HS5.out.size)
  obtain rfl : nh = ng := by rw [← HLh6.out.len, HRW.out.len]
  go_wp2_with fail
  refine (eqS_same _ _ _ _ _ _ _ _ _ (HLh6.out.reads) (HRW.out.below HS6.out)).mono ?_
  rintro e W7 ⟨rfl, hb⟩
  have HB7 := Lib.hid ((HB6.out).trans (hb.mono (HB6.out).size))
  have HS7 := Lib.hid (HS6.out.trans (hb.mono HS6.out.size))
  have HLg7 := Lib.hid (HLg6.out.below hb)
  have HLh7 := Lib.hid (HLh6.out.below hb)
  clear hb
  go_wp2_with fail
  refine (heldS_any _ _ _ _ _ _ _ (HLg7.out.reads) (by omega) (by omega)).mono ?_
  rintro e W8 ⟨rfl, hb⟩
  have HB8 := Lib.hid ((HB7.out).trans (hb.mono (HB7.out).size))
  have HS8 := Lib.hid (HS7.out.trans (hb.mono HS7.out.size))
  have HLg8 := Lib.hid (HLg7.out.below hb)
  have HLh8 := Lib.hid (HLh7.out.below hb)
  clear hb
  go_wp2
  go_ret
  exact ⟨rfl, HB8.out⟩

set_option maxRecDepth 100000 in
theorem lifted (os : Os) (started : os.Started) (H : Type) (enc : TypeId × Value → H) :
    ReturnsInHanded {} Try.checked os 10 .any (Rows.fnExactMonomialsOfSpec.pre6 enc Try.prog Try.f10 Rows.fnExactMonomialsOfRow.domain false) (Rows.fnExactMonomialsOfSpec.post enc Try.prog Try.f10 false true false false) := by
  refine returnsInHanded_of_change (C := Try.checked) own started (by kernel_rfl) Try.func10
    (ChangeSpec.witness6 (enc := enc) (C := Try.checked) false ⟨#[], #[.int .i64 0, .int .i64 0], []⟩ 8 (by kernel_rfl) (by kernel_rfl) (by kernel_rfl) (by kernel_rfl)) ?_
  intro W base args ds gs before hval0 hW hcnd _
  have hval : ∀ (j : Nat) t v, Try.f10.params[j]? = some t → args[j]? = some v → Value.okWide Try.prog W .any base t v := hval0
  have hW' := hW
  obtain ⟨p, q, hA0, hV, rfl, hfz, hnd⟩ := hW
  have hA : DataW.TrodAll enc Try.prog W 0 (fun _ => true) true Try.f10.params.toList args.toList ds p := hA0
  rw [Try.params10] at hA hval
  obtain ⟨v0, vs0, d0, ds0, p0, q0, hargs, rfl, rfl, h0, r0⟩ := trodAll_cons hA
  obtain ⟨v1, vs1, d1, ds1, p1, q1, rfl, rfl, rfl, h1, r1⟩ := trodAll_cons r0
  obtain ⟨rfl, rfl, rfl⟩ := trodAll_nil r1
  obtain rfl : args = #[v0, v1] := by cases args; simp_all
  obtain ⟨rfl, rfl⟩ := trodVars_none hV
  obtain ⟨a0, rfl, rfl, rfl, w0⟩ := open_int Try.underlying2 (hval 0 2 v0 rfl rfl) h0
  obtain ⟨a1, rfl, rfl, rfl, w1⟩ := open_int Try.underlying2 (hval 1 2 v1 rfl rfl) h1
  clear hA0 hval0
  simp only [List.append_nil] at hW'
  refine (walk a0 a1 W w0 w1).mono fun e W' ⟨he, bel⟩ => ?_
  subst he
  exact ⟨_, rfl, _, _, _, [], _, [], hW', trodAll_mk1 (shut_bool Try.underlying4 _), (trodAll_cons_mk (shut_int Try.underlying2 w0) (trodAll_cons_mk (shut_int Try.underlying2 w1) trodAll_mk0)), rfl, bel.frame _, fun h => by cases h⟩

theorem over : Rows.fnExactMonomialsOfRow.holds Try.pinned (OpenSpec.ofChange Rows.fnExactMonomialsOfSpec) :=
  OpenClaim.holds_of_wide 10 Try.f10 rfl rfl rfl rfl rfl rfl rfl ⟨rfl, rfl, rfl, rfl, rfl⟩ rfl rfl rfl rfl rfl (by kernel_rfl) Try.func10 (by kernel_rfl)
    (of_decide_eq_true (by kernel_rfl)) (by unfold Func.isWrapper; first | (rw [if_pos (by decide +kernel)]; kernel_rfl) | (rw [if_neg (by decide +kernel)]; exact ⟨rfl, rfl⟩))
    (fun os started H enc _ => lifted os started H enc)

theorem proved : Rows.FnExactMonomialsOfSaid := over
#print axioms proved
end Go.Proofs.Ytiajkfgicpidkaa.fnExactMonomialsOf
