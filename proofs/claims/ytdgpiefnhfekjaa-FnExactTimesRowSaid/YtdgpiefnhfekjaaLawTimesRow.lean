/- The statement on FnExactTimesRow: for every input the call returns true, and each argument reads behind the call as it read before. No condition. The frame is written by a program of this repo after the kit's shell. -/
import Derived.Test.YtdgpiefnhfekjaaTimes
import Derived.Test.YtdgpiefnhfekjaaFrm
import Derived.Test.YtdgpiefnhfekjaaRows
import Derived.WalkKit
import Derived.ProofKit
import Derived.OpenShut
import Derived.ShutString
import Derived.ChangeOld
import Derived.Below
import Derived.Lib.SmallJoins
import Derived.Deep.RegionHeld3
namespace Go.Proofs.Ytdgpiefnhfekjaa.fnExactTimesRow
open Go.Joins Go.ChangeShapes Go.WideShapes Go.ChangeAt Go.RowKit
open Go.ChangeMaps (open_string shut_string)
set_option linter.unusedVariables false

theorem own : ownKnob Try.prog.godebug = none := by kernel_rfl
theorem laidOut : laidOutB Try.prog = true := by kernel_rfl

set_option maxRecDepth 100000 in
set_option maxHeartbeats 2000000 in
theorem walk (a0 : Int) (k1 : Int) (A1 : Option Addr) (n1 c1 : Nat) (X1 : List Int) (w : World) (w0 : I64 a0) (wk1 : I64 k1) (r1 : RI w A1 n1 X1) :
    Calls Try.prog 5 #[.int .i64 a0, .agg #[.int .i64 k1, .slice A1 n1 c1]] w fun e w' => e = .returned (.bool true) ∧ Below w.heap.size w w' := by
  have hbox : Below w.heap.size w (w.alloc (.cells #[.int .i64 k1, .slice A1 n1 c1] 24)) := (Below.refl w.heap.size w).alloc (Nat.le_refl _) _
  have HX1_0 := Lib.hid (show (w.alloc (.cells #[.int .i64 k1, .slice A1 n1 c1] 24)).cell? ⟨w.heap.size, 0, none⟩ = some (.int .i64 k1) by
    have h1 : (w.alloc (.cells #[.int .i64 k1, .slice A1 n1 c1] 24)).cell? ⟨w.heap.size, 0, none⟩ = some (.int .i64 k1) := by rw [World.cell?_alloc_at _ _ _ _ (by simp)]; rfl
    exact h1)
  have HX1_1 := Lib.hid (show (w.alloc (.cells #[.int .i64 k1, .slice A1 n1 c1] 24)).cell? ⟨w.heap.size, 1, none⟩ = some (.slice A1 n1 c1) by
    have h1 : (w.alloc (.cells #[.int .i64 k1, .slice A1 n1 c1] 24)).cell? ⟨w.heap.size, 1, none⟩ = some (.slice A1 n1 c1) := by rw [World.cell?_alloc_at _ _ _ _ (by simp)]; rfl
    exact h1)
  have HXS1 := Lib.hid (show w.heap.size < (w.alloc (.cells #[.int .i64 k1, .slice A1 n1 c1] 24)).heap.size by simp)
  have HB00 := Lib.hid hbox
  have HR1 := Lib.hid (r1.below hbox)
  have S1 := r1.small
  clear r1
  have HW1 := Lib.hid wk1
  clear wk1
  clear hbox
  have HW0 := Lib.hid w0
  clear w0
  by_cases hn1 : n1 ≤ 1048576
  rotate_left
  · go_enter Try.func5, Try.ntmps5
    go_wp2_with fail
    generalize (w.alloc (.cells #[.int .i64 k1, .slice A1 n1 c1] 24)) = W0 at *
    refine (szno_Matrix (HR1.out.below (Below.refl W0.heap.size W0)) ?_).mono ?_
    · omega
    rintro e W1 ⟨rfl, hb⟩
    have HZ1 := Lib.hid hb.size
    have HB1 := Lib.hid ((Below.refl W0.heap.size W0).trans (hb.mono (Below.refl W0.heap.size W0).size))
    have HX1_0_1 := Lib.hid ((hb.cell (p := ⟨w.heap.size, 0, none⟩) HXS1.out).trans HX1_0.out)
    have HX1_1_1 := Lib.hid ((hb.cell (p := ⟨w.heap.size, 1, none⟩) HXS1.out).trans HX1_1.out)
    have HXS1_1 := Lib.hid (Nat.lt_of_lt_of_le HXS1.out hb.size)
    clear hb
    go_wp2
    go_ret
    exact ⟨rfl, HB00.out.trans ((HB1.out).mono HB00.out.size)⟩
  go_enter Try.func5, Try.ntmps5
  go_wp2_with fail
  generalize (w.alloc (.cells #[.int .i64 k1, .slice A1 n1 c1] 24)) = W0 at *
  refine (sz_Matrix (HR1.out.below (Below.refl W0.heap.size W0)) ?_).mono ?_
  · omega
  rintro e W1 ⟨rfl, hb⟩
  have HZ1 := Lib.hid hb.size
  have HB1 := Lib.hid ((Below.refl W0.heap.size W0).trans (hb.mono (Below.refl W0.heap.size W0).size))
  have HX1_0_1 := Lib.hid ((hb.cell (p := ⟨w.heap.size, 0, none⟩) HXS1.out).trans HX1_0.out)
  have HX1_1_1 := Lib.hid ((hb.cell (p := ⟨w.heap.size, 1, none⟩) HXS1.out).trans HX1_1.out)
  have HXS1_1 := Lib.hid (Nat.lt_of_lt_of_le HXS1.out hb.size)
  clear hb
  have cx1_0 := HX1_0_1.out
  have cx1_1 := HX1_1_1.out
  go_wp2_with fail
  clear cx1_0 cx1_1
  refine (to_Matrix (HR1.out.below (HB1.out)) (by omega)).mono ?_
  rintro e W2 ⟨Gu1, rfl, ho, hb⟩
  have HZ2 := Lib.hid hb.size
  have HB2 := Lib.hid ((HB1.out).trans (hb.mono (HB1.out).size))
  have HX1_0_2 := Lib.hid ((hb.cell (p := ⟨w.heap.size, 0, none⟩) HXS1_1.out).trans HX1_0_1.out)
  have HX1_1_2 := Lib.hid ((hb.cell (p := ⟨w.heap.size, 1, none⟩) HXS1_1.out).trans HX1_1_1.out)
  have HXS1_2 := Lib.hid (Nat.lt_of_lt_of_le HXS1_1.out hb.size)
  clear hb
  have HLu1_2 := Lib.hid ho
  clear ho
  have HTu1 := Lib.hid HLu1_2.out.ins
  have cx1_0 := HX1_0_2.out
  have cx1_1 := HX1_1_2.out
  go_wp2_with fail
  clear cx1_0 cx1_1
  refine (spec_TimesRow HW0.out HW1.out HLu1_2.out.reads (by omega)).mono ?_
  rintro e W3 ⟨rfl, hb⟩
  have HZ3 := Lib.hid hb.size
  have HB3 := Lib.hid ((HB2.out).trans (hb.mono (HB2.out).size))
  have HLu1_3 := Lib.hid (HLu1_2.out.below hb)
  have HX1_0_3 := Lib.hid ((hb.cell (p := ⟨w.heap.size, 0, none⟩) HXS1_2.out).trans HX1_0_2.out)
  have HX1_1_3 := Lib.hid ((hb.cell (p := ⟨w.heap.size, 1, none⟩) HXS1_2.out).trans HX1_1_2.out)
  have HXS1_3 := Lib.hid (Nat.lt_of_lt_of_le HXS1_2.out hb.size)
  clear hb
  have cx1_0 := HX1_0_3.out
  have cx1_1 := HX1_1_3.out
  go_wp2_with fail
  clear cx1_0 cx1_1
  refine (to_Matrix (HR1.out.below (HB3.out)) (by omega)).mono ?_
  rintro e W4 ⟨Gx1, rfl, ho, hb⟩
  have HZ4 := Lib.hid hb.size
  have HB4 := Lib.hid ((HB3.out).trans (hb.mono (HB3.out).size))
  have HS4 := Lib.hid hb
  have HX1_0_4 := Lib.hid ((hb.cell (p := ⟨w.heap.size, 0, none⟩) HXS1_3.out).trans HX1_0_3.out)
  have HX1_1_4 := Lib.hid ((hb.cell (p := ⟨w.heap.size, 1, none⟩) HXS1_3.out).trans HX1_1_3.out)
  have HXS1_4 := Lib.hid (Nat.lt_of_lt_of_le HXS1_3.out hb.size)
  clear hb
  have HLx1_4 := Lib.hid ho
  clear ho
  have HTx1 := Lib.hid HLx1_4.out.ins
  have hb := box_below W4 (.cells #[.int .i64 k1, .slice (some ⟨Gx1, 0, none⟩) n1 n1] 27)
  have HXx1_0_5 := Lib.hid (show (W4.alloc (.cells #[.int .i64 k1, .slice (some ⟨Gx1, 0, none⟩) n1 n1] 27)).cell? ⟨W4.heap.size, 0, none⟩ = some (.int .i64 k1) by rw [World.cell?_alloc_at _ _ _ _ rfl]; rfl)
  have HXx1_1_5 := Lib.hid (show (W4.alloc (.cells #[.int .i64 k1, .slice (some ⟨Gx1, 0, none⟩) n1 n1] 27)).cell? ⟨W4.heap.size, 1, none⟩ = some (.slice (some ⟨Gx1, 0, none⟩) n1 n1) by rw [World.cell?_alloc_at _ _ _ _ rfl]; rfl)
  have HXSx1_5 := Lib.hid (show W4.heap.size < (W4.alloc (.cells #[.int .i64 k1, .slice (some ⟨Gx1, 0, none⟩) n1 n1] 27)).heap.size by simp)
  have HZ5 := Lib.hid hb.size
  have HB5 := Lib.hid ((HB4.out).trans (hb.mono (HB4.out).size))
  have HS5 := Lib.hid (HS4.out.trans (hb.mono HS4.out.size))
  have HLx1_5 := Lib.hid (HLx1_4.out.below hb)
  have HX1_0_5 := Lib.hid ((hb.cell (p := ⟨w.heap.size, 0, none⟩) HXS1_4.out).trans HX1_0_4.out)
  have HX1_1_5 := Lib.hid ((hb.cell (p := ⟨w.heap.size, 1, none⟩) HXS1_4.out).trans HX1_1_4.out)
  have HXS1_5 := Lib.hid (Nat.lt_of_lt_of_le HXS1_4.out hb.size)
  clear hb
  have cx1_0 := HX1_0_5.out
  have cx1_1 := HX1_1_5.out
  have cxx1_0 := HXx1_0_5.out
  have cxx1_1 := HXx1_1_5.out
  go_wp2_with fail
  clear cx1_0 cx1_1 cxx1_0 cxx1_1
  generalize (W4.alloc (.cells #[.int .i64 k1, .slice (some ⟨Gx1, 0, none⟩) n1 n1] 27)) = W5 at *
  refine (impl_TimesRow HW0.out HW1.out HLx1_5.out.reads (by omega)).mono ?_
  rintro e W6 ⟨rfl, hb⟩
  have HZ6 := Lib.hid hb.size
  have HB6 := Lib.hid ((HB5.out).trans (hb.mono (HB5.out).size))
  have HS6 := Lib.hid (HS5.out.trans (hb.mono HS5.out.size))
  have HLx1_6 := Lib.hid (HLx1_5.out.below hb)
  have HX1_0_6 := Lib.hid ((hb.cell (p := ⟨w.heap.size, 0, none⟩) HXS1_5.out).trans HX1_0_5.out)
  have HX1_1_6 := Lib.hid ((hb.cell (p := ⟨w.heap.size, 1, none⟩) HXS1_5.out).trans HX1_1_5.out)
  have HXS1_6 := Lib.hid (Nat.lt_of_lt_of_le HXS1_5.out hb.size)
  have HXx1_0_6 := Lib.hid ((hb.cell (p := ⟨W4.heap.size, 0, none⟩) HXSx1_5.out).trans HXx1_0_5.out)
  have HXx1_1_6 := Lib.hid ((hb.cell (p := ⟨W4.heap.size, 1, none⟩) HXSx1_5.out).trans HXx1_1_5.out)
  have HXSx1_6 := Lib.hid (Nat.lt_of_lt_of_le HXSx1_5.out hb.size)
  clear hb
  have cx1_0 := HX1_0_6.out
  have cx1_1 := HX1_1_6.out
  have cxx1_0 := HXx1_0_6.out
  have cxx1_1 := HXx1_1_6.out
  go_wp2_with fail
  go_region_held3 (fun w' => w'.cell? ⟨W4.heap.size, 0, none⟩ = some (.int .i64 k1) ∧ w'.cell? ⟨W4.heap.size, 1, none⟩ = some (.slice (some ⟨Gx1, 0, none⟩) n1 n1) ∧ w'.cell? ⟨w.heap.size, 0, none⟩ = some (.int .i64 k1) ∧ w'.cell? ⟨w.heap.size, 1, none⟩ = some (.slice A1 n1 c1)) (first | go_keep | exact ⟨by assumption, by assumption, by assumption, by assumption⟩) ((first | (go_at_call 21; refine (to_Matrix (HR1.out.below (by exact ⟨(HB6.out).os, (HB6.out).tape, (HB6.out).output, (HB6.out).size, (HB6.out).block⟩)) (by omega)).mono ?_; rintro e W7 ⟨Gy1, rfl, ho, hb0⟩; have hb : Below W6.heap.size W6 W7 := ⟨hb0.os, hb0.tape, hb0.output, hb0.size, hb0.block⟩; clear hb0; clear cx1_0 cx1_1 cxx1_0 cxx1_1; have HZ7 := Lib.hid hb.size; have HB7 := Lib.hid ((HB6.out).trans (hb.mono (HB6.out).size)); have HS7 := Lib.hid (HS6.out.trans (hb.mono HS6.out.size)); have HLx1_7 := Lib.hid (HLx1_6.out.below hb); have HX1_0_7 := Lib.hid ((hb.cell (p := ⟨w.heap.size, 0, none⟩) HXS1_6.out).trans HX1_0_6.out); have HX1_1_7 := Lib.hid ((hb.cell (p := ⟨w.heap.size, 1, none⟩) HXS1_6.out).trans HX1_1_6.out); have HXS1_7 := Lib.hid (Nat.lt_of_lt_of_le HXS1_6.out hb.size); have HXx1_0_7 := Lib.hid ((hb.cell (p := ⟨W4.heap.size, 0, none⟩) HXSx1_6.out).trans HXx1_0_6.out); have HXx1_1_7 := Lib.hid ((hb.cell (p := ⟨W4.heap.size, 1, none⟩) HXSx1_6.out).trans HXx1_1_6.out); have HXSx1_7 := Lib.hid (Nat.lt_of_lt_of_le HXSx1_6.out hb.size); clear hb; have HLy1_7 := Lib.hid ho; clear ho; have cx1_0 := HX1_0_7.out; have cx1_1 := HX1_1_7.out; have cxx1_0 := HXx1_0_7.out; have cxx1_1 := HXx1_1_7.out) | (go_at_call 23; refine (eq_Matrix (by exact HLx1_7.out.reads) (by exact HLy1_7.out.reads)).mono ?_; rintro e W8 ⟨rfl, hb0⟩; have hb : Below W7.heap.size W7 W8 := ⟨hb0.os, hb0.tape, hb0.output, hb0.size, hb0.block⟩; clear hb0; clear cx1_0 cx1_1 cxx1_0 cxx1_1; have HZ8 := Lib.hid hb.size; have HB8 := Lib.hid ((HB7.out).trans (hb.mono (HB7.out).size)); have HS8 := Lib.hid (HS7.out.trans (hb.mono HS7.out.size)); have HLx1_8 := Lib.hid (HLx1_7.out.below hb); have HLy1_8 := Lib.hid (HLy1_7.out.below hb); have HX1_0_8 := Lib.hid ((hb.cell (p := ⟨w.heap.size, 0, none⟩) HXS1_7.out).trans HX1_0_7.out); have HX1_1_8 := Lib.hid ((hb.cell (p := ⟨w.heap.size, 1, none⟩) HXS1_7.out).trans HX1_1_7.out); have HXS1_8 := Lib.hid (Nat.lt_of_lt_of_le HXS1_7.out hb.size); have HXx1_0_8 := Lib.hid ((hb.cell (p := ⟨W4.heap.size, 0, none⟩) HXSx1_7.out).trans HXx1_0_7.out); have HXx1_1_8 := Lib.hid ((hb.cell (p := ⟨W4.heap.size, 1, none⟩) HXSx1_7.out).trans HXx1_1_7.out); have HXSx1_8 := Lib.hid (Nat.lt_of_lt_of_le HXSx1_7.out hb.size); clear hb; have cx1_0 := HX1_0_8.out; have cx1_1 := HX1_1_8.out; have cxx1_0 := HXx1_0_8.out; have cxx1_1 := HXx1_1_8.out)))
  clear cx1_0 cx1_1 cxx1_0 cxx1_1
  have cx1_0 := HX1_0_8.out
  have cx1_1 := HX1_1_8.out
  have cxx1_0 := HXx1_0_8.out
  have cxx1_1 := HXx1_1_8.out
  go_wp2
  go_ret
  exact ⟨rfl, HB00.out.trans ((HB8.out).mono HB00.out.size)⟩

set_option maxRecDepth 100000 in
theorem lifted (os : Os) (started : os.Started) (H : Type) (enc : TypeId × Value → H) :
    ReturnsInHanded {} Try.checked os 5 .any (Rows.fnExactTimesRowSpec.pre6 enc Try.prog Try.f5 Rows.fnExactTimesRowRow.domain false) (Rows.fnExactTimesRowSpec.post enc Try.prog Try.f5 false true false false) := by
  refine returnsInHanded_of_change (C := Try.checked) own started (by kernel_rfl) Try.func5
    (ChangeSpec.witness6 (enc := enc) (C := Try.checked) false ⟨#[], #[.int .i64 0, .agg #[.int .i64 0, .slice none 0 0]], []⟩ 8 (by kernel_rfl) (by kernel_rfl) (by kernel_rfl) (by kernel_rfl)) ?_
  intro W base args ds gs before hval0 hW hcnd _
  have hval : ∀ (j : Nat) t v, Try.f5.params[j]? = some t → args[j]? = some v → Value.okWide Try.prog W .any base t v := hval0
  have hW' := hW
  obtain ⟨p, q, hA0, hV, rfl, hfz, hnd⟩ := hW
  have hA : DataW.TrodAll enc Try.prog W 0 (fun _ => true) true Try.f5.params.toList args.toList ds p := hA0
  rw [Try.params5] at hA hval
  obtain ⟨v0, vs0, d0, ds0, p0, q0, hargs, rfl, rfl, h0, r0⟩ := trodAll_cons hA
  obtain ⟨v1, vs1, d1, ds1, p1, q1, rfl, rfl, rfl, h1, r1⟩ := trodAll_cons r0
  obtain ⟨rfl, rfl, rfl⟩ := trodAll_nil r1
  obtain rfl : args = #[v0, v1] := by cases args; simp_all
  obtain ⟨rfl, rfl⟩ := trodVars_none hV
  obtain ⟨a0, rfl, rfl, rfl, w0⟩ := open_int Try.underlying2 (hval 0 2 v0 rfl rfl) h0
  have t1 := h1
  have lt1 : ∀ x ∈ p1, x.block < W.heap.size := by obtain ⟨m, hm⟩ := t1; exact DataW.trod_lt m _ _ _ hm
  obtain ⟨c01, c11, y01, y11, m1, hv1, hd1, hp1, hy01, hy1⟩ := open_agg2 Try.underlying24 (by kernel_rfl) (by kernel_rfl) (hval 1 24 v1 rfl rfl) h1
  obtain ⟨k1, e1, _, wk1⟩ := DataW.trod_int Try.underlying2 hy01
  obtain ⟨A1, n1, c1, X1, g1, r1⟩ := open_LL hy1
  have g11 := List.cons.inj g1
  have g12 := g11.1
  have e11 := (List.cons.inj e1).1
  rw [e11, g12] at hv1
  clear hy1 g1 g11
  subst hv1
  clear hA0 hval0
  refine (walk a0 k1 A1 n1 c1 X1 W w0 wk1 r1).mono fun e W' ⟨he, bel⟩ => ?_
  subst he
  exact ⟨_, rfl, _, _, _, [], _, [], hW', trodAll_mk1 (shut_bool Try.underlying4 _), (trodAll_cons_mk (shut_int Try.underlying2 w0) (trodAll_cons_mk (Below.trod laidOut (by kernel_rfl) (of_decide_eq_true (by kernel_rfl)) t1 bel lt1) trodAll_mk0)), rfl, bel.frame _, fun h => by cases h⟩

theorem closed : joinedFacts Try.prog 5 Try.f5 Rows.fnExactTimesRowSpec Rows.fnExactTimesRowRow = true := by
  unfold joinedFacts
  rw [mayEnter_eq, liftsFinal_eq, make_eq]
  kernel_rfl


theorem over : Rows.fnExactTimesRowRow.holds Try.pinned (OpenSpec.ofChange Rows.fnExactTimesRowSpec) :=
  OpenClaim.holds_of_wide 5 Try.f5 rfl rfl rfl rfl rfl rfl rfl ⟨rfl, rfl, rfl, rfl, rfl⟩ rfl rfl rfl rfl rfl (by kernel_rfl) Try.func5 closed
    (of_decide_eq_true (by kernel_rfl)) (by unfold Func.isWrapper; first | (rw [if_pos (by decide +kernel)]; kernel_rfl) | (rw [if_neg (by decide +kernel)]; exact ⟨rfl, rfl⟩))
    (fun os started H enc _ => lifted os started H enc)

theorem proved : Rows.FnExactTimesRowSaid := over
#print axioms proved
end Go.Proofs.Ytdgpiefnhfekjaa.fnExactTimesRow
