/- The statement on FnExactMeetOfProfiles: for every input the call returns true, and each argument reads behind the call as it read before. No condition. The frame is written by a program of this repo after the kit's shell. -/
import Derived.Test.YtiajkfgicpidkaaMeet
import Derived.Test.YtiajkfgicpidkaaRows
import Derived.WalkKit
import Derived.ProofKit
import Derived.OpenShut
import Derived.ShutString
import Derived.ChangeOld
import Derived.Below
namespace Go.Proofs.Ytiajkfgicpidkaa.fnExactMeetOfProfiles
open Go.ChangeShapes Go.WideShapes Go.ChangeAt Go.RowKit
open Go.ChangeMaps (open_string shut_string)
set_option linter.unusedVariables false

theorem own : ownKnob Try.prog.godebug = none := by kernel_rfl
theorem laidOut : laidOutB Try.prog = true := by kernel_rfl

theorem walk (a0 : Option Addr) (len0 cap0 : Nat) (z0 : List Int) (a1 : Option Addr) (len1 cap1 : Nat) (z1 : List Int) (w : World) (w0 : IsRow w a0 len0 cap0 z0) (w1 : IsRow w a1 len1 cap1 z1) :
    Calls Try.prog 11 #[.slice a0 len0 cap0, .slice a1 len1 cap1] w fun e w' => e = .returned (.bool true) ∧ Below w.heap.size w w' := by
  have R0 := RI.of_row w0
  have S0 := R0.small
  generalize hz0 : z0.take len0 = X0 at R0
  clear hz0 w0
  by_cases hn0 : len0 ≤ 1048576
  rotate_left
  · go_enter Try.func11, Try.ntmps11
    go_wp2
    go_ret
    exact ⟨rfl, Below.refl _ _⟩
  have R1 := RI.of_row w1
  have S1 := R1.small
  generalize hz1 : z1.take len1 = X1 at R1
  clear hz1 w1
  by_cases hn1 : len1 ≤ 1048576
  rotate_left
  · go_enter Try.func11, Try.ntmps11
    go_wp2
    go_ret
    exact ⟨rfl, Below.refl _ _⟩
  have HR0 := Lib.hid R0
  clear R0
  have HR1 := Lib.hid R1
  clear R1
  go_enter Try.func11, Try.ntmps11
  go_wp2_with fail
  refine (to_any _ _ _ _ _ (HR0.out.below (Below.refl w.heap.size w)) hn0).mono ?_
  rintro e W1 ⟨Gu0, rfl, ho, hb⟩
  have HB1 := Lib.hid ((Below.refl w.heap.size w).trans (hb.mono (Below.refl w.heap.size w).size))
  clear hb
  have HLu01 := Lib.hid ho
  clear ho
  have LBu0 := Lib.hid (Nat.le_refl w.heap.size)
  go_wp2_with fail
  refine (to_any _ _ _ _ _ (HR1.out.below (HB1.out)) hn1).mono ?_
  rintro e W2 ⟨Gu1, rfl, ho, hb⟩
  have HB2 := Lib.hid ((HB1.out).trans (hb.mono (HB1.out).size))
  have HLu02 := Lib.hid (HLu01.out.below hb)
  clear hb
  have HLu12 := Lib.hid ho
  clear ho
  have LBu1 := Lib.hid (HB1.out.size)
  go_wp2_with fail
  refine (spec_MeetOfProfiles _ _ _ _ _ _ _ _ _ (HLu02.out.reads) hn0 (HLu12.out.reads) hn1).mono ?_
  rintro e W3 ⟨AW, nW, cW, rfl, ho, hb⟩
  have HB3 := Lib.hid ((HB2.out).trans (hb.mono (HB2.out).size))
  have HLu03 := Lib.hid (HLu02.out.below hb)
  have HLu13 := Lib.hid (HLu12.out.below hb)
  clear hb
  have HLW3 := Lib.hid ho
  clear ho
  have LBW := Lib.hid (HB2.out.size)
  have HRW := Lib.hid HLW3.out.reads
  go_wp2_with fail
  refine (to_any _ _ _ _ _ (HR0.out.below (HB3.out)) hn0).mono ?_
  rintro e W4 ⟨Gx0, rfl, ho, hb⟩
  have HB4 := Lib.hid ((HB3.out).trans (hb.mono (HB3.out).size))
  have HS4 := Lib.hid hb
  clear hb
  have HLx04 := Lib.hid ho
  clear ho
  have LBx0 := Lib.hid (HB3.out.size)
  have LSx0 := Lib.hid (Nat.le_refl W3.heap.size)
  go_wp2_with fail
  refine (to_any _ _ _ _ _ (HR1.out.below (HB4.out)) hn1).mono ?_
  rintro e W5 ⟨Gx1, rfl, ho, hb⟩
  have HB5 := Lib.hid ((HB4.out).trans (hb.mono (HB4.out).size))
  have HS5 := Lib.hid (HS4.out.trans (hb.mono HS4.out.size))
  have HLx05 := Lib.hid (HLx04.out.below hb)
  clear hb
  have HLx15 := Lib.hid ho
  clear ho
  have LBx1 := Lib.hid (HB4.out.size)
  have LSx1 := Lib.hid (HS4.out.size)
  go_wp2_with fail
  refine (impl_MeetOfProfiles _ _ _ _ _ _ _ _ _ (HLx05.out.reads) hn0 (HLx15.out.reads) hn1).mono ?_
  rintro e W6 ⟨Ag, ng, cg, rfl, ho, hb⟩
  have HB6 := Lib.hid ((HB5.out).trans (hb.mono (HB5.out).size))
  have HS6 := Lib.hid (HS5.out.trans (hb.mono HS5.out.size))
  have HLx06 := Lib.hid (HLx05.out.below hb)
  have HLx16 := Lib.hid (HLx15.out.below hb)
  clear hb
  have HLg6 := Lib.hid ho
  clear ho
  have LBg := Lib.hid (HB5.out.size)
  have LSg := Lib.hid (HS5.out.size)
  obtain rfl : ng = nW := by rw [← HLg6.out.len, HRW.out.len]
  go_wp2_with fail
  refine (eq_same _ _ _ _ _ _ _ (HLg6.out.reads) (HRW.out.below HS6.out)).mono ?_
  rintro e W7 ⟨rfl, hb⟩
  have HB7 := Lib.hid ((HB6.out).trans (hb.mono (HB6.out).size))
  have HS7 := Lib.hid (HS6.out.trans (hb.mono HS6.out.size))
  have HLx07 := Lib.hid (HLx06.out.below hb)
  have HLx17 := Lib.hid (HLx16.out.below hb)
  have HLg7 := Lib.hid (HLg6.out.below hb)
  clear hb
  go_wp2_with fail
  refine (to_any _ _ _ _ _ (HR0.out.below (HB7.out)) hn0).mono ?_
  rintro e W8 ⟨Gy0, rfl, ho, hb⟩
  have HB8 := Lib.hid ((HB7.out).trans (hb.mono (HB7.out).size))
  have HS8 := Lib.hid (HS7.out.trans (hb.mono HS7.out.size))
  have HLx08 := Lib.hid (HLx07.out.below hb)
  have HLx18 := Lib.hid (HLx17.out.below hb)
  have HLg8 := Lib.hid (HLg7.out.below hb)
  clear hb
  have HLy08 := Lib.hid ho
  clear ho
  have LBy0 := Lib.hid (HB7.out.size)
  have LSy0 := Lib.hid (HS7.out.size)
  clear LBy0 LSy0
  go_wp2_with fail
  refine (eq_same _ _ _ _ _ _ _ (HLx08.out.reads) (HLy08.out.reads)).mono ?_
  rintro e W9 ⟨rfl, hb⟩
  have HB9 := Lib.hid ((HB8.out).trans (hb.mono (HB8.out).size))
  have HS9 := Lib.hid (HS8.out.trans (hb.mono HS8.out.size))
  have HLx09 := Lib.hid (HLx08.out.below hb)
  have HLx19 := Lib.hid (HLx18.out.below hb)
  have HLg9 := Lib.hid (HLg8.out.below hb)
  have HLy09 := Lib.hid (HLy08.out.below hb)
  clear hb
  go_wp2_with fail
  refine (to_any _ _ _ _ _ (HR1.out.below (HB9.out)) hn1).mono ?_
  rintro e W10 ⟨Gy1, rfl, ho, hb⟩
  have HB10 := Lib.hid ((HB9.out).trans (hb.mono (HB9.out).size))
  have HS10 := Lib.hid (HS9.out.trans (hb.mono HS9.out.size))
  have HLx010 := Lib.hid (HLx09.out.below hb)
  have HLx110 := Lib.hid (HLx19.out.below hb)
  have HLg10 := Lib.hid (HLg9.out.below hb)
  clear hb
  have HLy110 := Lib.hid ho
  clear ho
  have LBy1 := Lib.hid (HB9.out.size)
  have LSy1 := Lib.hid (HS9.out.size)
  clear LBy1 LSy1
  go_wp2_with fail
  refine (eq_same _ _ _ _ _ _ _ (HLx110.out.reads) (HLy110.out.reads)).mono ?_
  rintro e W11 ⟨rfl, hb⟩
  have HB11 := Lib.hid ((HB10.out).trans (hb.mono (HB10.out).size))
  have HS11 := Lib.hid (HS10.out.trans (hb.mono HS10.out.size))
  have HLx011 := Lib.hid (HLx010.out.below hb)
  have HLx111 := Lib.hid (HLx110.out.below hb)
  have HLg11 := Lib.hid (HLg10.out.below hb)
  have HLy111 := Lib.hid (HLy110.out.below hb)
  clear hb
  go_wp2_with fail
  refine (mark_any _ _ _ _ _ _ _ (HLx011.out) (by omega) (by omega)).mono ?_
  rintro e W12 ⟨rfl, ho, hb⟩
  have HB12 := Lib.hid (HB11.out.grown hb HB11.out.size (fun k hk => Nat.le_trans LBx0.out (HLx011.out.row_ge hk)))
  have HS12 := Lib.hid (HS11.out.grown hb HS11.out.size (fun k hk => Nat.le_trans LSx0.out (HLx011.out.row_ge hk)))
  have HLx112 := Lib.hid (HLx111.out.grown_far hb (fun k hk => HLx04.out.row_lt hk))
  have HLg12 := Lib.hid (HLg11.out.grown_far hb (fun k hk => HLx05.out.row_lt hk))
  have HLx012 := Lib.hid ho
  clear ho
  clear hb
  go_wp2_with fail
  refine (mark_any _ _ _ _ _ _ _ (HLx112.out) (by omega) (by omega)).mono ?_
  rintro e W13 ⟨rfl, ho, hb⟩
  have HB13 := Lib.hid (HB12.out.grown hb HB12.out.size (fun k hk => Nat.le_trans LBx1.out (HLx112.out.row_ge hk)))
  have HS13 := Lib.hid (HS12.out.grown hb HS12.out.size (fun k hk => Nat.le_trans LSx1.out (HLx112.out.row_ge hk)))
  have HLg13 := Lib.hid (HLg12.out.grown_far hb (fun k hk => HLx15.out.row_lt hk))
  have HLx113 := Lib.hid ho
  clear ho
  clear hb
  go_wp2_with fail
  refine (eq_same _ _ _ _ _ _ _ (HLg13.out.reads) (HRW.out.below HS13.out)).mono ?_
  rintro e W14 ⟨rfl, hb⟩
  have HB14 := Lib.hid ((HB13.out).trans (hb.mono (HB13.out).size))
  have HS14 := Lib.hid (HS13.out.trans (hb.mono HS13.out.size))
  have HLg14 := Lib.hid (HLg13.out.below hb)
  clear hb
  have NG : ng ≤ 4000000000 := by have h := pMeetOfProfiles_len X0 (by rw [HR0.out.len]; exact hn0) X1 (by rw [HR1.out.len]; exact hn1); rw [HLg14.out.len] at h; omega
  go_wp2_with fail
  refine (mark_any _ _ _ _ _ _ _ (HLg14.out) (by omega) (by omega)).mono ?_
  rintro e W15 ⟨rfl, ho, hb⟩
  have HB15 := Lib.hid (HB14.out.grown hb HB14.out.size (fun k hk => Nat.le_trans LBg.out (HLg14.out.row_ge hk)))
  have HS15 := Lib.hid (HS14.out.grown hb HS14.out.size (fun k hk => Nat.le_trans LSg.out (HLg14.out.row_ge hk)))
  have HLg15 := Lib.hid ho
  clear ho
  clear hb
  go_wp2_with fail
  refine (held_any _ _ _ _ _ (HLg15.out.reads) (by omega) (by omega)).mono ?_
  rintro e W16 ⟨rfl, hb⟩
  have HB16 := Lib.hid ((HB15.out).trans (hb.mono (HB15.out).size))
  have HS16 := Lib.hid (HS15.out.trans (hb.mono HS15.out.size))
  have HLg16 := Lib.hid (HLg15.out.below hb)
  clear hb
  go_wp2_with fail
  refine (to_any _ _ _ _ _ (HR0.out.below (HB16.out)) hn0).mono ?_
  rintro e W17 ⟨Gv0, rfl, ho, hb⟩
  have HB17 := Lib.hid ((HB16.out).trans (hb.mono (HB16.out).size))
  have HS17 := Lib.hid (HS16.out.trans (hb.mono HS16.out.size))
  have HLg17 := Lib.hid (HLg16.out.below hb)
  clear hb
  have HLv017 := Lib.hid ho
  clear ho
  have LBv0 := Lib.hid (HB16.out.size)
  have LSv0 := Lib.hid (HS16.out.size)
  go_wp2_with fail
  refine (to_any _ _ _ _ _ (HR1.out.below (HB17.out)) hn1).mono ?_
  rintro e W18 ⟨Gv1, rfl, ho, hb⟩
  have HB18 := Lib.hid ((HB17.out).trans (hb.mono (HB17.out).size))
  have HS18 := Lib.hid (HS17.out.trans (hb.mono HS17.out.size))
  have HLg18 := Lib.hid (HLg17.out.below hb)
  have HLv018 := Lib.hid (HLv017.out.below hb)
  clear hb
  have HLv118 := Lib.hid ho
  clear ho
  have LBv1 := Lib.hid (HB17.out.size)
  have LSv1 := Lib.hid (HS17.out.size)
  go_wp2_with fail
  refine (impl_MeetOfProfiles _ _ _ _ _ _ _ _ _ (HLv018.out.reads) hn0 (HLv118.out.reads) hn1).mono ?_
  rintro e W19 ⟨Ah, nh, ch, rfl, ho, hb⟩
  have HB19 := Lib.hid ((HB18.out).trans (hb.mono (HB18.out).size))
  have HS19 := Lib.hid (HS18.out.trans (hb.mono HS18.out.size))
  have HLg19 := Lib.hid (HLg18.out.below hb)
  have HLv019 := Lib.hid (HLv018.out.below hb)
  have HLv119 := Lib.hid (HLv118.out.below hb)
  clear hb
  have HLh19 := Lib.hid ho
  clear ho
  have LBh := Lib.hid (HB18.out.size)
  have LSh := Lib.hid (HS18.out.size)
  obtain rfl : nh = ng := by rw [← HLh19.out.len, HRW.out.len]
  go_wp2_with fail
  refine (eq_same _ _ _ _ _ _ _ (HLh19.out.reads) (HRW.out.below HS19.out)).mono ?_
  rintro e W20 ⟨rfl, hb⟩
  have HB20 := Lib.hid ((HB19.out).trans (hb.mono (HB19.out).size))
  have HS20 := Lib.hid (HS19.out.trans (hb.mono HS19.out.size))
  have HLg20 := Lib.hid (HLg19.out.below hb)
  have HLv020 := Lib.hid (HLv019.out.below hb)
  have HLv120 := Lib.hid (HLv119.out.below hb)
  have HLh20 := Lib.hid (HLh19.out.below hb)
  clear hb
  go_wp2_with fail
  refine (held_any _ _ _ _ _ (HLg20.out.reads) (by omega) (by omega)).mono ?_
  rintro e W21 ⟨rfl, hb⟩
  have HB21 := Lib.hid ((HB20.out).trans (hb.mono (HB20.out).size))
  have HS21 := Lib.hid (HS20.out.trans (hb.mono HS20.out.size))
  have HLg21 := Lib.hid (HLg20.out.below hb)
  have HLv021 := Lib.hid (HLv020.out.below hb)
  have HLv121 := Lib.hid (HLv120.out.below hb)
  have HLh21 := Lib.hid (HLh20.out.below hb)
  clear hb
  go_wp2
  go_ret
  exact ⟨rfl, HB21.out⟩

set_option maxRecDepth 100000 in
theorem lifted (os : Os) (started : os.Started) (H : Type) (enc : TypeId × Value → H) :
    ReturnsInHanded {} Try.checked os 11 .any (Rows.fnExactMeetOfProfilesSpec.pre6 enc Try.prog Try.f11 Rows.fnExactMeetOfProfilesRow.domain false) (Rows.fnExactMeetOfProfilesSpec.post enc Try.prog Try.f11 false true false false) := by
  refine returnsInHanded_of_change (C := Try.checked) own started (by kernel_rfl) Try.func11
    (ChangeSpec.witness6 (enc := enc) (C := Try.checked) false ⟨#[], #[.slice none 0 0, .slice none 0 0], []⟩ 8 (by kernel_rfl) (by kernel_rfl) (by kernel_rfl) (by kernel_rfl)) ?_
  intro W base args ds gs before hval0 hW hcnd _
  have hval : ∀ (j : Nat) t v, Try.f11.params[j]? = some t → args[j]? = some v → Value.okWide Try.prog W .any base t v := hval0
  have hW' := hW
  obtain ⟨p, q, hA0, hV, rfl, hfz, hnd⟩ := hW
  have hA : DataW.TrodAll enc Try.prog W 0 (fun _ => true) true Try.f11.params.toList args.toList ds p := hA0
  rw [Try.params11] at hA hval
  obtain ⟨v0, vs0, d0, ds0, p0, q0, hargs, rfl, rfl, h0, r0⟩ := trodAll_cons hA
  obtain ⟨v1, vs1, d1, ds1, p1, q1, rfl, rfl, rfl, h1, r1⟩ := trodAll_cons r0
  obtain ⟨rfl, rfl, rfl⟩ := trodAll_nil r1
  obtain rfl : args = #[v0, v1] := by cases args; simp_all
  obtain ⟨rfl, rfl⟩ := trodVars_none hV
  obtain ⟨a0, len0, cap0, rfl⟩ := okWide_slice Try.underlying22 (hval 0 22 v0 rfl rfl)
  have k0 := h0
  have lt0 : ∀ x ∈ p0, x.block < W.heap.size := by obtain ⟨m, hm⟩ := k0; exact DataW.trod_lt m _ _ _ hm
  obtain ⟨z0, w0⟩ : ∃ zs, IsRow W a0 len0 cap0 zs := by
    obtain ⟨fuel, hf⟩ := h0
    rcases open_ints Try.underlying22 Try.underlying2 (by kernel_rfl) hf with ⟨hcs, _⟩ | ⟨x, l, c, zs, hcs, _, hl, hm, hz, _, hcell, hwz⟩
    · simp [Value.cells] at hcs
      obtain ⟨rfl, rfl, rfl⟩ := hcs
      exact ⟨[], .inl ⟨rfl, rfl, rfl, rfl⟩⟩
    · simp [Value.cells] at hcs
      obtain ⟨rfl, rfl, rfl⟩ := hcs
      exact ⟨zs, .inr ⟨_, rfl, hl, hm, by simpa using hz, hcell, hwz⟩⟩
  obtain ⟨a1, len1, cap1, rfl⟩ := okWide_slice Try.underlying22 (hval 1 22 v1 rfl rfl)
  have k1 := h1
  have lt1 : ∀ x ∈ p1, x.block < W.heap.size := by obtain ⟨m, hm⟩ := k1; exact DataW.trod_lt m _ _ _ hm
  obtain ⟨z1, w1⟩ : ∃ zs, IsRow W a1 len1 cap1 zs := by
    obtain ⟨fuel, hf⟩ := h1
    rcases open_ints Try.underlying22 Try.underlying2 (by kernel_rfl) hf with ⟨hcs, _⟩ | ⟨x, l, c, zs, hcs, _, hl, hm, hz, _, hcell, hwz⟩
    · simp [Value.cells] at hcs
      obtain ⟨rfl, rfl, rfl⟩ := hcs
      exact ⟨[], .inl ⟨rfl, rfl, rfl, rfl⟩⟩
    · simp [Value.cells] at hcs
      obtain ⟨rfl, rfl, rfl⟩ := hcs
      exact ⟨zs, .inr ⟨_, rfl, hl, hm, by simpa using hz, hcell, hwz⟩⟩
  clear hA0 hval0
  refine (walk a0 len0 cap0 z0 a1 len1 cap1 z1 W w0 w1).mono fun e W' ⟨he, bel⟩ => ?_
  subst he
  exact ⟨_, rfl, _, _, _, [], _, [], hW', trodAll_mk1 (shut_bool Try.underlying4 _), (trodAll_cons_mk (Below.trod laidOut (by kernel_rfl) (of_decide_eq_true (by kernel_rfl)) k0 bel lt0) (trodAll_cons_mk (Below.trod laidOut (by kernel_rfl) (of_decide_eq_true (by kernel_rfl)) k1 bel lt1) trodAll_mk0)), rfl, bel.frame _, fun h => by cases h⟩

theorem over : Rows.fnExactMeetOfProfilesRow.holds Try.pinned (OpenSpec.ofChange Rows.fnExactMeetOfProfilesSpec) :=
  OpenClaim.holds_of_wide 11 Try.f11 rfl rfl rfl rfl rfl rfl rfl ⟨rfl, rfl, rfl, rfl, rfl⟩ rfl rfl rfl rfl rfl (by kernel_rfl) Try.func11 (by kernel_rfl)
    (of_decide_eq_true (by kernel_rfl)) (by unfold Func.isWrapper; first | (rw [if_pos (by decide +kernel)]; kernel_rfl) | (rw [if_neg (by decide +kernel)]; exact ⟨rfl, rfl⟩))
    (fun os started H enc _ => lifted os started H enc)

theorem proved : Rows.FnExactMeetOfProfilesSaid := over
#print axioms proved
end Go.Proofs.Ytiajkfgicpidkaa.fnExactMeetOfProfiles
