/- The statement on FnExactIsContainedProfile: for every input the call returns true, and each argument reads behind the call as it read before. No condition. The frame is written by a program of this repo after the kit's shell. -/
import Derived.Test.YtiajkfgicpidkaaCl
import Derived.Test.YtiajkfgicpidkaaRows
import Derived.WalkKit
import Derived.ProofKit
import Derived.OpenShut
import Derived.ShutString
import Derived.ChangeOld
import Derived.Below
namespace Go.Proofs.Ytiajkfgicpidkaa.fnExactIsContainedProfile
open Go.ChangeShapes Go.WideShapes Go.ChangeAt Go.RowKit
open Go.ChangeMaps (open_string shut_string)
set_option linter.unusedVariables false

theorem own : ownKnob Try.prog.godebug = none := by kernel_rfl
theorem laidOut : laidOutB Try.prog = true := by kernel_rfl

theorem walk (a0 : Option Addr) (len0 cap0 : Nat) (z0 : List Int) (a1 : Option Addr) (len1 cap1 : Nat) (z1 : List Int) (w : World) (w0 : IsRow w a0 len0 cap0 z0) (w1 : IsRow w a1 len1 cap1 z1) :
    Calls Try.prog 4 #[.slice a0 len0 cap0, .slice a1 len1 cap1] w fun e w' => e = .returned (.bool true) ∧ Below w.heap.size w w' := by
  have R0 := RI.of_row w0
  have S0 := R0.small
  generalize hz0 : z0.take len0 = X0 at R0
  clear hz0 w0
  by_cases hn0 : len0 ≤ 1048576
  rotate_left
  · go_enter Try.func4, Try.ntmps4
    go_wp2
    go_ret
    exact ⟨rfl, Below.refl _ _⟩
  have R1 := RI.of_row w1
  have S1 := R1.small
  generalize hz1 : z1.take len1 = X1 at R1
  clear hz1 w1
  by_cases hn1 : len1 ≤ 1048576
  rotate_left
  · go_enter Try.func4, Try.ntmps4
    go_wp2
    go_ret
    exact ⟨rfl, Below.refl _ _⟩
  have HR0 := Lib.hid R0
  clear R0
  have HR1 := Lib.hid R1
  clear R1
  go_enter Try.func4, Try.ntmps4
  go_wp2_with fail
  refine (to_any _ _ _ _ _ (HR0.out.below (Below.refl w.heap.size w)) hn0).mono ?_
  rintro e W1 ⟨Gu0, rfl, ho, hb⟩
  have HB1 := Lib.hid ((Below.refl w.heap.size w).trans (hb.mono (Below.refl w.heap.size w).size))
  clear hb
  have HLu01 := Lib.hid ho
  clear ho
  have LBu0 := Lib.hid (Nat.le_refl w.heap.size)
  go_wp2_with fail
  refine (to_any _ _ _ _ _ (HR1.out.below (HB1.out)) hn1).mono ?_
  rintro e W2 ⟨Gu1, rfl, ho, hb⟩
  have HB2 := Lib.hid ((HB1.out).trans (hb.mono (HB1.out).size))
  have HLu02 := Lib.hid (HLu01.out.below hb)
  clear hb
  have HLu12 := Lib.hid ho
  clear ho
  have LBu1 := Lib.hid (HB1.out.size)
  go_wp2_with fail
  refine (spec_IsContainedProfile _ _ _ _ _ _ _ _ _ (HLu02.out.reads) hn0 (HLu12.out.reads) hn1).mono ?_
  rintro e W3 ⟨rfl, hb⟩
  have HB3 := Lib.hid ((HB2.out).trans (hb.mono (HB2.out).size))
  have HLu03 := Lib.hid (HLu02.out.below hb)
  have HLu13 := Lib.hid (HLu12.out.below hb)
  clear hb
  go_wp2_with fail
  refine (to_any _ _ _ _ _ (HR0.out.below (HB3.out)) hn0).mono ?_
  rintro e W4 ⟨Gx0, rfl, ho, hb⟩
  have HB4 := Lib.hid ((HB3.out).trans (hb.mono (HB3.out).size))
  have HS4 := Lib.hid hb
  clear hb
  have HLx04 := Lib.hid ho
  clear ho
  have LBx0 := Lib.hid (HB3.out.size)
  have LSx0 := Lib.hid (Nat.le_refl W3.heap.size)
  go_wp2_with fail
  refine (to_any _ _ _ _ _ (HR1.out.below (HB4.out)) hn1).mono ?_
  rintro e W5 ⟨Gx1, rfl, ho, hb⟩
  have HB5 := Lib.hid ((HB4.out).trans (hb.mono (HB4.out).size))
  have HS5 := Lib.hid (HS4.out.trans (hb.mono HS4.out.size))
  have HLx05 := Lib.hid (HLx04.out.below hb)
  clear hb
  have HLx15 := Lib.hid ho
  clear ho
  have LBx1 := Lib.hid (HB4.out.size)
  have LSx1 := Lib.hid (HS4.out.size)
  go_wp2_with fail
  refine (impl_IsContainedProfile _ _ _ _ _ _ _ _ _ (HLx05.out.reads) hn0 (HLx15.out.reads) hn1).mono ?_
  rintro e W6 ⟨rfl, hb⟩
  have HB6 := Lib.hid ((HB5.out).trans (hb.mono (HB5.out).size))
  have HS6 := Lib.hid (HS5.out.trans (hb.mono HS5.out.size))
  have HLx06 := Lib.hid (HLx05.out.below hb)
  have HLx16 := Lib.hid (HLx15.out.below hb)
  clear hb
  go_wp2_with fail
  refine (to_any _ _ _ _ _ (HR0.out.below (HB6.out)) hn0).mono ?_
  rintro e W7 ⟨Gy0, rfl, ho, hb⟩
  have HB7 := Lib.hid ((HB6.out).trans (hb.mono (HB6.out).size))
  have HS7 := Lib.hid (HS6.out.trans (hb.mono HS6.out.size))
  have HLx07 := Lib.hid (HLx06.out.below hb)
  have HLx17 := Lib.hid (HLx16.out.below hb)
  clear hb
  have HLy07 := Lib.hid ho
  clear ho
  have LBy0 := Lib.hid (HB6.out.size)
  have LSy0 := Lib.hid (HS6.out.size)
  clear LBy0 LSy0
  go_wp2_with fail
  refine (eq_same _ _ _ _ _ _ _ (HLx07.out.reads) (HLy07.out.reads)).mono ?_
  rintro e W8 ⟨rfl, hb⟩
  have HB8 := Lib.hid ((HB7.out).trans (hb.mono (HB7.out).size))
  have HS8 := Lib.hid (HS7.out.trans (hb.mono HS7.out.size))
  have HLx08 := Lib.hid (HLx07.out.below hb)
  have HLx18 := Lib.hid (HLx17.out.below hb)
  have HLy08 := Lib.hid (HLy07.out.below hb)
  clear hb
  go_wp2_with fail
  refine (to_any _ _ _ _ _ (HR1.out.below (HB8.out)) hn1).mono ?_
  rintro e W9 ⟨Gy1, rfl, ho, hb⟩
  have HB9 := Lib.hid ((HB8.out).trans (hb.mono (HB8.out).size))
  have HS9 := Lib.hid (HS8.out.trans (hb.mono HS8.out.size))
  have HLx09 := Lib.hid (HLx08.out.below hb)
  have HLx19 := Lib.hid (HLx18.out.below hb)
  clear hb
  have HLy19 := Lib.hid ho
  clear ho
  have LBy1 := Lib.hid (HB8.out.size)
  have LSy1 := Lib.hid (HS8.out.size)
  clear LBy1 LSy1
  go_wp2_with fail
  refine (eq_same _ _ _ _ _ _ _ (HLx19.out.reads) (HLy19.out.reads)).mono ?_
  rintro e W10 ⟨rfl, hb⟩
  have HB10 := Lib.hid ((HB9.out).trans (hb.mono (HB9.out).size))
  have HS10 := Lib.hid (HS9.out.trans (hb.mono HS9.out.size))
  have HLx010 := Lib.hid (HLx09.out.below hb)
  have HLx110 := Lib.hid (HLx19.out.below hb)
  have HLy110 := Lib.hid (HLy19.out.below hb)
  clear hb
  go_wp2
  go_ret
  exact ⟨rfl, HB10.out⟩

set_option maxRecDepth 100000 in
theorem lifted (os : Os) (started : os.Started) (H : Type) (enc : TypeId × Value → H) :
    ReturnsInHanded {} Try.checked os 4 .any (Rows.fnExactIsContainedProfileSpec.pre6 enc Try.prog Try.f4 Rows.fnExactIsContainedProfileRow.domain false) (Rows.fnExactIsContainedProfileSpec.post enc Try.prog Try.f4 false true false false) := by
  refine returnsInHanded_of_change (C := Try.checked) own started (by kernel_rfl) Try.func4
    (ChangeSpec.witness6 (enc := enc) (C := Try.checked) false ⟨#[], #[.slice none 0 0, .slice none 0 0], []⟩ 8 (by kernel_rfl) (by kernel_rfl) (by kernel_rfl) (by kernel_rfl)) ?_
  intro W base args ds gs before hval0 hW hcnd _
  have hval : ∀ (j : Nat) t v, Try.f4.params[j]? = some t → args[j]? = some v → Value.okWide Try.prog W .any base t v := hval0
  have hW' := hW
  obtain ⟨p, q, hA0, hV, rfl, hfz, hnd⟩ := hW
  have hA : DataW.TrodAll enc Try.prog W 0 (fun _ => true) true Try.f4.params.toList args.toList ds p := hA0
  rw [Try.params4] at hA hval
  obtain ⟨v0, vs0, d0, ds0, p0, q0, hargs, rfl, rfl, h0, r0⟩ := trodAll_cons hA
  obtain ⟨v1, vs1, d1, ds1, p1, q1, rfl, rfl, rfl, h1, r1⟩ := trodAll_cons r0
  obtain ⟨rfl, rfl, rfl⟩ := trodAll_nil r1
  obtain rfl : args = #[v0, v1] := by cases args; simp_all
  obtain ⟨rfl, rfl⟩ := trodVars_none hV
  obtain ⟨a0, len0, cap0, rfl⟩ := okWide_slice Try.underlying22 (hval 0 22 v0 rfl rfl)
  have k0 := h0
  have lt0 : ∀ x ∈ p0, x.block < W.heap.size := by obtain ⟨m, hm⟩ := k0; exact DataW.trod_lt m _ _ _ hm
  obtain ⟨z0, w0⟩ : ∃ zs, IsRow W a0 len0 cap0 zs := by
    obtain ⟨fuel, hf⟩ := h0
    rcases open_ints Try.underlying22 Try.underlying2 (by kernel_rfl) hf with ⟨hcs, _⟩ | ⟨x, l, c, zs, hcs, _, hl, hm, hz, _, hcell, hwz⟩
    · simp [Value.cells] at hcs
      obtain ⟨rfl, rfl, rfl⟩ := hcs
      exact ⟨[], .inl ⟨rfl, rfl, rfl, rfl⟩⟩
    · simp [Value.cells] at hcs
      obtain ⟨rfl, rfl, rfl⟩ := hcs
      exact ⟨zs, .inr ⟨_, rfl, hl, hm, by simpa using hz, hcell, hwz⟩⟩
  obtain ⟨a1, len1, cap1, rfl⟩ := okWide_slice Try.underlying22 (hval 1 22 v1 rfl rfl)
  have k1 := h1
  have lt1 : ∀ x ∈ p1, x.block < W.heap.size := by obtain ⟨m, hm⟩ := k1; exact DataW.trod_lt m _ _ _ hm
  obtain ⟨z1, w1⟩ : ∃ zs, IsRow W a1 len1 cap1 zs := by
    obtain ⟨fuel, hf⟩ := h1
    rcases open_ints Try.underlying22 Try.underlying2 (by kernel_rfl) hf with ⟨hcs, _⟩ | ⟨x, l, c, zs, hcs, _, hl, hm, hz, _, hcell, hwz⟩
    · simp [Value.cells] at hcs
      obtain ⟨rfl, rfl, rfl⟩ := hcs
      exact ⟨[], .inl ⟨rfl, rfl, rfl, rfl⟩⟩
    · simp [Value.cells] at hcs
      obtain ⟨rfl, rfl, rfl⟩ := hcs
      exact ⟨zs, .inr ⟨_, rfl, hl, hm, by simpa using hz, hcell, hwz⟩⟩
  clear hA0 hval0
  refine (walk a0 len0 cap0 z0 a1 len1 cap1 z1 W w0 w1).mono fun e W' ⟨he, bel⟩ => ?_
  subst he
  exact ⟨_, rfl, _, _, _, [], _, [], hW', trodAll_mk1 (shut_bool Try.underlying4 _), (trodAll_cons_mk (Below.trod laidOut (by kernel_rfl) (of_decide_eq_true (by kernel_rfl)) k0 bel lt0) (trodAll_cons_mk (Below.trod laidOut (by kernel_rfl) (of_decide_eq_true (by kernel_rfl)) k1 bel lt1) trodAll_mk0)), rfl, bel.frame _, fun h => by cases h⟩

theorem over : Rows.fnExactIsContainedProfileRow.holds Try.pinned (OpenSpec.ofChange Rows.fnExactIsContainedProfileSpec) :=
  OpenClaim.holds_of_wide 4 Try.f4 rfl rfl rfl rfl rfl rfl rfl ⟨rfl, rfl, rfl, rfl, rfl⟩ rfl rfl rfl rfl rfl (by kernel_rfl) Try.func4 (by kernel_rfl)
    (of_decide_eq_true (by kernel_rfl)) (by unfold Func.isWrapper; first | (rw [if_pos (by decide +kernel)]; kernel_rfl) | (rw [if_neg (by decide +kernel)]; exact ⟨rfl, rfl⟩))
    (fun os started H enc _ => lifted os started H enc)

theorem proved : Rows.FnExactIsContainedProfileSaid := over
#print axioms proved
end Go.Proofs.Ytiajkfgicpidkaa.fnExactIsContainedProfile
