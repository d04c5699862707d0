/- The statement on FnExactIsClosedProfile: for every input the call returns true, and each argument reads behind the call as it read before. No condition. The frame is written by a program of this repo after the kit's shell. -/
import Derived.Test.YtiajkfgicpidkaaCls
import Derived.Test.YtiajkfgicpidkaaRows
import Derived.WalkKit
import Derived.ProofKit
import Derived.OpenShut
import Derived.ShutString
import Derived.ChangeOld
import Derived.Below
namespace Go.Proofs.Ytiajkfgicpidkaa.fnExactIsClosedProfile
open Go.ChangeShapes Go.WideShapes Go.ChangeAt Go.RowKit
open Go.ChangeMaps (open_string shut_string)
set_option linter.unusedVariables false

theorem own : ownKnob Try.prog.godebug = none := by kernel_rfl
theorem laidOut : laidOutB Try.prog = true := by kernel_rfl

theorem walk (a0 : Option Addr) (len0 cap0 : Nat) (z0 : List Int) (w : World) (w0 : IsRow w a0 len0 cap0 z0) :
    Calls Try.prog 8 #[.slice a0 len0 cap0] w fun e w' => e = .returned (.bool true) ∧ Below w.heap.size w w' := by
  have R0 := RI.of_row w0
  have S0 := R0.small
  generalize hz0 : z0.take len0 = X0 at R0
  clear hz0 w0
  by_cases hn0 : len0 ≤ 1048576
  rotate_left
  · go_enter Try.func8, Try.ntmps8
    go_wp2
    go_ret
    exact ⟨rfl, Below.refl _ _⟩
  have HR0 := Lib.hid R0
  clear R0
  go_enter Try.func8, Try.ntmps8
  go_wp2_with fail
  refine (to_any _ _ _ _ _ (HR0.out.below (Below.refl w.heap.size w)) hn0).mono ?_
  rintro e W1 ⟨Gu0, rfl, ho, hb⟩
  have HB1 := Lib.hid ((Below.refl w.heap.size w).trans (hb.mono (Below.refl w.heap.size w).size))
  clear hb
  have HLu01 := Lib.hid ho
  clear ho
  have LBu0 := Lib.hid (Nat.le_refl w.heap.size)
  go_wp2_with fail
  refine (spec_IsClosedProfile _ _ _ _ _ (HLu01.out.reads) hn0).mono ?_
  rintro e W2 ⟨rfl, hb⟩
  have HB2 := Lib.hid ((HB1.out).trans (hb.mono (HB1.out).size))
  have HLu02 := Lib.hid (HLu01.out.below hb)
  clear hb
  go_wp2_with fail
  refine (to_any _ _ _ _ _ (HR0.out.below (HB2.out)) hn0).mono ?_
  rintro e W3 ⟨Gx0, rfl, ho, hb⟩
  have HB3 := Lib.hid ((HB2.out).trans (hb.mono (HB2.out).size))
  have HS3 := Lib.hid hb
  clear hb
  have HLx03 := Lib.hid ho
  clear ho
  have LBx0 := Lib.hid (HB2.out.size)
  have LSx0 := Lib.hid (Nat.le_refl W2.heap.size)
  go_wp2_with fail
  refine (impl_IsClosedProfile _ _ _ _ _ (HLx03.out.reads) hn0).mono ?_
  rintro e W4 ⟨rfl, hb⟩
  have HB4 := Lib.hid ((HB3.out).trans (hb.mono (HB3.out).size))
  have HS4 := Lib.hid (HS3.out.trans (hb.mono HS3.out.size))
  have HLx04 := Lib.hid (HLx03.out.below hb)
  clear hb
  go_wp2_with fail
  refine (to_any _ _ _ _ _ (HR0.out.below (HB4.out)) hn0).mono ?_
  rintro e W5 ⟨Gy0, rfl, ho, hb⟩
  have HB5 := Lib.hid ((HB4.out).trans (hb.mono (HB4.out).size))
  have HS5 := Lib.hid (HS4.out.trans (hb.mono HS4.out.size))
  have HLx05 := Lib.hid (HLx04.out.below hb)
  clear hb
  have HLy05 := Lib.hid ho
  clear ho
  have LBy0 := Lib.hid (HB4.out.size)
  have LSy0 := Lib.hid (HS4.out.size)
  clear LBy0 LSy0
  go_wp2_with fail
  refine (eq_same _ _ _ _ _ _ _ (HLx05.out.reads) (HLy05.out.reads)).mono ?_
  rintro e W6 ⟨rfl, hb⟩
  have HB6 := Lib.hid ((HB5.out).trans (hb.mono (HB5.out).size))
  have HS6 := Lib.hid (HS5.out.trans (hb.mono HS5.out.size))
  have HLx06 := Lib.hid (HLx05.out.below hb)
  have HLy06 := Lib.hid (HLy05.out.below hb)
  clear hb
  go_wp2
  go_ret
  exact ⟨rfl, HB6.out⟩

set_option maxRecDepth 100000 in
theorem lifted (os : Os) (started : os.Started) (H : Type) (enc : TypeId × Value → H) :
    ReturnsInHanded {} Try.checked os 8 .any (Rows.fnExactIsClosedProfileSpec.pre6 enc Try.prog Try.f8 Rows.fnExactIsClosedProfileRow.domain false) (Rows.fnExactIsClosedProfileSpec.post enc Try.prog Try.f8 false true false false) := by
  refine returnsInHanded_of_change (C := Try.checked) own started (by kernel_rfl) Try.func8
    (ChangeSpec.witness6 (enc := enc) (C := Try.checked) false ⟨#[], #[.slice none 0 0], []⟩ 8 (by kernel_rfl) (by kernel_rfl) (by kernel_rfl) (by kernel_rfl)) ?_
  intro W base args ds gs before hval0 hW hcnd _
  have hval : ∀ (j : Nat) t v, Try.f8.params[j]? = some t → args[j]? = some v → Value.okWide Try.prog W .any base t v := hval0
  have hW' := hW
  obtain ⟨p, q, hA0, hV, rfl, hfz, hnd⟩ := hW
  have hA : DataW.TrodAll enc Try.prog W 0 (fun _ => true) true Try.f8.params.toList args.toList ds p := hA0
  rw [Try.params8] at hA hval
  obtain ⟨v0, vs0, d0, ds0, p0, q0, hargs, rfl, rfl, h0, r0⟩ := trodAll_cons hA
  obtain ⟨rfl, rfl, rfl⟩ := trodAll_nil r0
  obtain rfl : args = #[v0] := by cases args; simp_all
  obtain ⟨rfl, rfl⟩ := trodVars_none hV
  obtain ⟨a0, len0, cap0, rfl⟩ := okWide_slice Try.underlying22 (hval 0 22 v0 rfl rfl)
  have k0 := h0
  have lt0 : ∀ x ∈ p0, x.block < W.heap.size := by obtain ⟨m, hm⟩ := k0; exact DataW.trod_lt m _ _ _ hm
  obtain ⟨z0, w0⟩ : ∃ zs, IsRow W a0 len0 cap0 zs := by
    obtain ⟨fuel, hf⟩ := h0
    rcases open_ints Try.underlying22 Try.underlying2 (by kernel_rfl) hf with ⟨hcs, _⟩ | ⟨x, l, c, zs, hcs, _, hl, hm, hz, _, hcell, hwz⟩
    · simp [Value.cells] at hcs
      obtain ⟨rfl, rfl, rfl⟩ := hcs
      exact ⟨[], .inl ⟨rfl, rfl, rfl, rfl⟩⟩
    · simp [Value.cells] at hcs
      obtain ⟨rfl, rfl, rfl⟩ := hcs
      exact ⟨zs, .inr ⟨_, rfl, hl, hm, by simpa using hz, hcell, hwz⟩⟩
  clear hA0 hval0
  refine (walk a0 len0 cap0 z0 W w0).mono fun e W' ⟨he, bel⟩ => ?_
  subst he
  exact ⟨_, rfl, _, _, _, [], _, [], hW', trodAll_mk1 (shut_bool Try.underlying4 _), (trodAll_cons_mk (Below.trod laidOut (by kernel_rfl) (of_decide_eq_true (by kernel_rfl)) k0 bel lt0) trodAll_mk0), rfl, bel.frame _, fun h => by cases h⟩

theorem over : Rows.fnExactIsClosedProfileRow.holds Try.pinned (OpenSpec.ofChange Rows.fnExactIsClosedProfileSpec) :=
  OpenClaim.holds_of_wide 8 Try.f8 rfl rfl rfl rfl rfl rfl rfl ⟨rfl, rfl, rfl, rfl, rfl⟩ rfl rfl rfl rfl rfl (by kernel_rfl) Try.func8 (by kernel_rfl)
    (of_decide_eq_true (by kernel_rfl)) (by unfold Func.isWrapper; first | (rw [if_pos (by decide +kernel)]; kernel_rfl) | (rw [if_neg (by decide +kernel)]; exact ⟨rfl, rfl⟩))
    (fun os started H enc _ => lifted os started H enc)

theorem proved : Rows.FnExactIsClosedProfileSaid := over
#print axioms proved
end Go.Proofs.Ytiajkfgicpidkaa.fnExactIsClosedProfile
