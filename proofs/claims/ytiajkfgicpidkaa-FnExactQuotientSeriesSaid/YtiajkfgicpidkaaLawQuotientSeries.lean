/- The statement on FnExactQuotientSeries: for every input the call returns true, and each argument reads behind the call as it read before. No condition. The frame is written by a program of this repo after the kit's shell. -/
import Derived.Test.YtiajkfgicpidkaaQuo
import Derived.Test.YtiajkfgicpidkaaRows
import Derived.WalkKit
import Derived.ProofKit
import Derived.OpenShut
import Derived.ShutString
import Derived.ChangeOld
import Derived.Below
namespace Go.Proofs.Ytiajkfgicpidkaa.fnExactQuotientSeries
open Go.ChangeShapes Go.WideShapes Go.ChangeAt Go.RowKit
open Go.ChangeMaps (open_string shut_string)
set_option linter.unusedVariables false

theorem own : ownKnob Try.prog.godebug = none := by kernel_rfl
theorem laidOut : laidOutB Try.prog = true := by kernel_rfl

theorem walk (a0 : Option Addr) (len0 cap0 : Nat) (z0 : List Int) (a1 : Int) (w : World) (w0 : IsRow w a0 len0 cap0 z0) (w1 : (Lit.int .i64 a1).wf = true) :
    Calls Try.prog 15 #[.slice a0 len0 cap0, .int .i64 a1] w fun e w' => e = .returned (.bool true) ∧ Below w.heap.size w w' := by
  have R0 := RI.of_row w0
  have S0 := R0.small
  generalize hz0 : z0.take len0 = X0 at R0
  clear hz0 w0
  by_cases hn0 : len0 ≤ 1048576
  rotate_left
  · go_enter Try.func15, Try.ntmps15
    go_wp2
    go_ret
    exact ⟨rfl, Below.refl _ _⟩
  have HR0 := Lib.hid R0
  clear R0
  have HW1 := Lib.hid w1
  clear w1
  go_enter Try.func15, Try.ntmps15
  go_wp2_with fail
  refine (to_any _ _ _ _ _ (HR0.out.below (Below.refl w.heap.size w)) hn0).mono ?_
  rintro e W1 ⟨Gu0, rfl, ho, hb⟩
  have HB1 := Lib.hid ((Below.refl w.heap.size w).trans (hb.mono (Below.refl w.heap.size w).size))
  clear hb
  have HLu01 := Lib.hid ho
  clear ho
  have LBu0 := Lib.hid (Nat.le_refl w.heap.size)
  go_wp2_with fail
  refine (spec_QuotientSeries _ _ _ _ a1 _ (HLu01.out.reads) hn0 HW1.out).mono ?_
  rintro e W2 ⟨AW, nW, cW, rfl, ho, hb⟩
  have HB2 := Lib.hid ((HB1.out).trans (hb.mono (HB1.out).size))
  have HLu02 := Lib.hid (HLu01.out.below hb)
  clear hb
  have HLW2 := Lib.hid ho
  clear ho
  have LBW := Lib.hid (HB1.out.size)
  have HRW := Lib.hid HLW2.out.reads
  go_wp2_with fail
  refine (to_any _ _ _ _ _ (HR0.out.below (HB2.out)) hn0).mono ?_
  rintro e W3 ⟨Gx0, rfl, ho, hb⟩
  have HB3 := Lib.hid ((HB2.out).trans (hb.mono (HB2.out).size))
  have HS3 := Lib.hid hb
  clear hb
  have HLx03 := Lib.hid ho
  clear ho
  have LBx0 := Lib.hid (HB2.out.size)
  have LSx0 := Lib.hid (Nat.le_refl W2.heap.size)
  go_wp2_with fail
  refine (impl_QuotientSeries _ _ _ _ a1 _ (HLx03.out.reads) hn0 HW1.out).mono ?_
  rintro e W4 ⟨Ag, ng, cg, rfl, ho, hb⟩
  have HB4 := Lib.hid ((HB3.out).trans (hb.mono (HB3.out).size))
  have HS4 := Lib.hid (HS3.out.trans (hb.mono HS3.out.size))
  have HLx04 := Lib.hid (HLx03.out.below hb)
  clear hb
  have HLg4 := Lib.hid ho
  clear ho
  have LBg := Lib.hid (HB3.out.size)
  have LSg := Lib.hid (HS3.out.size)
  obtain rfl : ng = nW := by rw [← HLg4.out.len, HRW.out.len]
  go_wp2_with fail
  refine (eq_same _ _ _ _ _ _ _ (HLg4.out.reads) (HRW.out.below HS4.out)).mono ?_
  rintro e W5 ⟨rfl, hb⟩
  have HB5 := Lib.hid ((HB4.out).trans (hb.mono (HB4.out).size))
  have HS5 := Lib.hid (HS4.out.trans (hb.mono HS4.out.size))
  have HLx05 := Lib.hid (HLx04.out.below hb)
  have HLg5 := Lib.hid (HLg4.out.below hb)
  clear hb
  go_wp2_with fail
  refine (to_any _ _ _ _ _ (HR0.out.below (HB5.out)) hn0).mono ?_
  rintro e W6 ⟨Gy0, rfl, ho, hb⟩
  have HB6 := Lib.hid ((HB5.out).trans (hb.mono (HB5.out).size))
  have HS6 := Lib.hid (HS5.out.trans (hb.mono HS5.out.size))
  have HLx06 := Lib.hid (HLx05.out.below hb)
  have HLg6 := Lib.hid (HLg5.out.below hb)
  clear hb
  have HLy06 := Lib.hid ho
  clear ho
  have LBy0 := Lib.hid (HB5.out.size)
  have LSy0 := Lib.hid (HS5.out.size)
  clear LBy0 LSy0
  go_wp2_with fail
  refine (eq_same _ _ _ _ _ _ _ (HLx06.out.reads) (HLy06.out.reads)).mono ?_
  rintro e W7 ⟨rfl, hb⟩
  have HB7 := Lib.hid ((HB6.out).trans (hb.mono (HB6.out).size))
  have HS7 := Lib.hid (HS6.out.trans (hb.mono HS6.out.size))
  have HLx07 := Lib.hid (HLx06.out.below hb)
  have HLg7 := Lib.hid (HLg6.out.below hb)
  have HLy07 := Lib.hid (HLy06.out.below hb)
  clear hb
  go_wp2_with fail
  refine (mark_any _ _ _ _ _ _ _ (HLx07.out) (by omega) (by omega)).mono ?_
  rintro e W8 ⟨rfl, ho, hb⟩
  have HB8 := Lib.hid (HB7.out.grown hb HB7.out.size (fun k hk => Nat.le_trans LBx0.out (HLx07.out.row_ge hk)))
  have HS8 := Lib.hid (HS7.out.grown hb HS7.out.size (fun k hk => Nat.le_trans LSx0.out (HLx07.out.row_ge hk)))
  have HLg8 := Lib.hid (HLg7.out.grown_far hb (fun k hk => HLx03.out.row_lt hk))
  have HLx08 := Lib.hid ho
  clear ho
  clear hb
  go_wp2_with fail
  refine (eq_same _ _ _ _ _ _ _ (HLg8.out.reads) (HRW.out.below HS8.out)).mono ?_
  rintro e W9 ⟨rfl, hb⟩
  have HB9 := Lib.hid ((HB8.out).trans (hb.mono (HB8.out).size))
  have HS9 := Lib.hid (HS8.out.trans (hb.mono HS8.out.size))
  have HLg9 := Lib.hid (HLg8.out.below hb)
  clear hb
  have NG : ng ≤ 4000000000 := by have h := pQuotientSeries_len X0 (by rw [HR0.out.len]; exact hn0) a1; rw [HLg9.out.len] at h; omega
  go_wp2_with fail
  refine (mark_any _ _ _ _ _ _ _ (HLg9.out) (by omega) (by omega)).mono ?_
  rintro e W10 ⟨rfl, ho, hb⟩
  have HB10 := Lib.hid (HB9.out.grown hb HB9.out.size (fun k hk => Nat.le_trans LBg.out (HLg9.out.row_ge hk)))
  have HS10 := Lib.hid (HS9.out.grown hb HS9.out.size (fun k hk => Nat.le_trans LSg.out (HLg9.out.row_ge hk)))
  have HLg10 := Lib.hid ho
  clear ho
  clear hb
  go_wp2_with fail
  refine (held_any _ _ _ _ _ (HLg10.out.reads) (by omega) (by omega)).mono ?_
  rintro e W11 ⟨rfl, hb⟩
  have HB11 := Lib.hid ((HB10.out).trans (hb.mono (HB10.out).size))
  have HS11 := Lib.hid (HS10.out.trans (hb.mono HS10.out.size))
  have HLg11 := Lib.hid (HLg10.out.below hb)
  clear hb
  go_wp2_with fail
  refine (to_any _ _ _ _ _ (HR0.out.below (HB11.out)) hn0).mono ?_
  rintro e W12 ⟨Gv0, rfl, ho, hb⟩
  have HB12 := Lib.hid ((HB11.out).trans (hb.mono (HB11.out).size))
  have HS12 := Lib.hid (HS11.out.trans (hb.mono HS11.out.size))
  have HLg12 := Lib.hid (HLg11.out.below hb)
  clear hb
  have HLv012 := Lib.hid ho
  clear ho
  have LBv0 := Lib.hid (HB11.out.size)
  have LSv0 := Lib.hid (HS11.out.size)
  go_wp2_with fail
  refine (impl_QuotientSeries _ _ _ _ a1 _ (HLv012.out.reads) hn0 HW1.out).mono ?_
  rintro e W13 ⟨Ah, nh, ch, rfl, ho, hb⟩
  have HB13 := Lib.hid ((HB12.out).trans (hb.mono (HB12.out).size))
  have HS13 := Lib.hid (HS12.out.trans (hb.mono HS12.out.size))
  have HLg13 := Lib.hid (HLg12.out.below hb)
  have HLv013 := Lib.hid (HLv012.out.below hb)
  clear hb
  have HLh13 := Lib.hid ho
  clear ho
  have LBh := Lib.hid (HB12.out.size)
  have LSh := Lib.hid (HS12.out.size)
  obtain rfl : nh = ng := by rw [← HLh13.out.len, HRW.out.len]
  go_wp2_with fail
  refine (eq_same _ _ _ _ _ _ _ (HLh13.out.reads) (HRW.out.below HS13.out)).mono ?_
  rintro e W14 ⟨rfl, hb⟩
  have HB14 := Lib.hid ((HB13.out).trans (hb.mono (HB13.out).size))
  have HS14 := Lib.hid (HS13.out.trans (hb.mono HS13.out.size))
  have HLg14 := Lib.hid (HLg13.out.below hb)
  have HLv014 := Lib.hid (HLv013.out.below hb)
  have HLh14 := Lib.hid (HLh13.out.below hb)
  clear hb
  go_wp2_with fail
  refine (held_any _ _ _ _ _ (HLg14.out.reads) (by omega) (by omega)).mono ?_
  rintro e W15 ⟨rfl, hb⟩
  have HB15 := Lib.hid ((HB14.out).trans (hb.mono (HB14.out).size))
  have HS15 := Lib.hid (HS14.out.trans (hb.mono HS14.out.size))
  have HLg15 := Lib.hid (HLg14.out.below hb)
  have HLv015 := Lib.hid (HLv014.out.below hb)
  have HLh15 := Lib.hid (HLh14.out.below hb)
  clear hb
  go_wp2
  go_ret
  exact ⟨rfl, HB15.out⟩

set_option maxRecDepth 100000 in
theorem lifted (os : Os) (started : os.Started) (H : Type) (enc : TypeId × Value → H) :
    ReturnsInHanded {} Try.checked os 15 .any (Rows.fnExactQuotientSeriesSpec.pre6 enc Try.prog Try.f15 Rows.fnExactQuotientSeriesRow.domain false) (Rows.fnExactQuotientSeriesSpec.post enc Try.prog Try.f15 false true false false) := by
  refine returnsInHanded_of_change (C := Try.checked) own started (by kernel_rfl) Try.func15
    (ChangeSpec.witness6 (enc := enc) (C := Try.checked) false ⟨#[], #[.slice none 0 0, .int .i64 0], []⟩ 8 (by kernel_rfl) (by kernel_rfl) (by kernel_rfl) (by kernel_rfl)) ?_
  intro W base args ds gs before hval0 hW hcnd _
  have hval : ∀ (j : Nat) t v, Try.f15.params[j]? = some t → args[j]? = some v → Value.okWide Try.prog W .any base t v := hval0
  have hW' := hW
  obtain ⟨p, q, hA0, hV, rfl, hfz, hnd⟩ := hW
  have hA : DataW.TrodAll enc Try.prog W 0 (fun _ => true) true Try.f15.params.toList args.toList ds p := hA0
  rw [Try.params15] at hA hval
  obtain ⟨v0, vs0, d0, ds0, p0, q0, hargs, rfl, rfl, h0, r0⟩ := trodAll_cons hA
  obtain ⟨v1, vs1, d1, ds1, p1, q1, rfl, rfl, rfl, h1, r1⟩ := trodAll_cons r0
  obtain ⟨rfl, rfl, rfl⟩ := trodAll_nil r1
  obtain rfl : args = #[v0, v1] := by cases args; simp_all
  obtain ⟨rfl, rfl⟩ := trodVars_none hV
  obtain ⟨a0, len0, cap0, rfl⟩ := okWide_slice Try.underlying22 (hval 0 22 v0 rfl rfl)
  have k0 := h0
  have lt0 : ∀ x ∈ p0, x.block < W.heap.size := by obtain ⟨m, hm⟩ := k0; exact DataW.trod_lt m _ _ _ hm
  obtain ⟨z0, w0⟩ : ∃ zs, IsRow W a0 len0 cap0 zs := by
    obtain ⟨fuel, hf⟩ := h0
    rcases open_ints Try.underlying22 Try.underlying2 (by kernel_rfl) hf with ⟨hcs, _⟩ | ⟨x, l, c, zs, hcs, _, hl, hm, hz, _, hcell, hwz⟩
    · simp [Value.cells] at hcs
      obtain ⟨rfl, rfl, rfl⟩ := hcs
      exact ⟨[], .inl ⟨rfl, rfl, rfl, rfl⟩⟩
    · simp [Value.cells] at hcs
      obtain ⟨rfl, rfl, rfl⟩ := hcs
      exact ⟨zs, .inr ⟨_, rfl, hl, hm, by simpa using hz, hcell, hwz⟩⟩
  obtain ⟨a1, rfl, rfl, rfl, w1⟩ := open_int Try.underlying2 (hval 1 2 v1 rfl rfl) h1
  clear hA0 hval0
  refine (walk a0 len0 cap0 z0 a1 W w0 w1).mono fun e W' ⟨he, bel⟩ => ?_
  subst he
  exact ⟨_, rfl, _, _, _, [], _, [], hW', trodAll_mk1 (shut_bool Try.underlying4 _), (trodAll_cons_mk (Below.trod laidOut (by kernel_rfl) (of_decide_eq_true (by kernel_rfl)) k0 bel lt0) (trodAll_cons_mk (shut_int Try.underlying2 w1) trodAll_mk0)), rfl, bel.frame _, fun h => by cases h⟩

theorem over : Rows.fnExactQuotientSeriesRow.holds Try.pinned (OpenSpec.ofChange Rows.fnExactQuotientSeriesSpec) :=
  OpenClaim.holds_of_wide 15 Try.f15 rfl rfl rfl rfl rfl rfl rfl ⟨rfl, rfl, rfl, rfl, rfl⟩ rfl rfl rfl rfl rfl (by kernel_rfl) Try.func15 (by kernel_rfl)
    (of_decide_eq_true (by kernel_rfl)) (by unfold Func.isWrapper; first | (rw [if_pos (by decide +kernel)]; kernel_rfl) | (rw [if_neg (by decide +kernel)]; exact ⟨rfl, rfl⟩))
    (fun os started H enc _ => lifted os started H enc)

theorem proved : Rows.FnExactQuotientSeriesSaid := over
#print axioms proved
end Go.Proofs.Ytiajkfgicpidkaa.fnExactQuotientSeries
