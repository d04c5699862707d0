/- The statement on FnExactIsInPart: for every input the call returns true, and each argument reads behind the call as it read before. No condition. The frame is written by a program of this repo after the kit's shell. -/
import Derived.Test.YtindhmgfadipnaaPart
import Derived.Test.YtindhmgfadipnaaKit2
import Derived.Test.YtindhmgfadipnaaFrm
import Derived.Test.YtindhmgfadipnaaRows
import Derived.WalkKit
import Derived.ProofKit
import Derived.OpenShut
import Derived.ShutString
import Derived.ChangeOld
import Derived.Below
import Derived.Lib.SmallJoins
import Derived.Deep.RegionHeld3
namespace Go.Proofs.Ytindhmgfadipnaa.fnExactIsInPart
open Go.Joins Go.ChangeShapes Go.WideShapes Go.ChangeAt Go.RowKit
open Go.ChangeMaps (open_string shut_string)
set_option linter.unusedVariables false

theorem own : ownKnob Try.prog.godebug = none := by kernel_rfl
theorem laidOut : laidOutB Try.prog = true := by kernel_rfl

set_option maxRecDepth 100000 in
set_option maxHeartbeats 2000000 in
theorem walk (A0 : Option Addr) (n0 c0 : Nat) (V0 : List Sl) (X0 : List (List Int)) (A1 : Option Addr) (n1 c1 : Nat) (X1 : List Int) (w : World) (r0 : RS w A0 n0 V0 X0) (r1 : RI w A1 n1 X1) :
    Calls Try.prog 16 #[.agg #[.slice A0 n0 c0], .slice A1 n1 c1] w fun e w' => e = .returned (.bool true) ∧ Below w.heap.size w w' := by
  have hbox : Below w.heap.size w (w.alloc (.cells #[.slice A0 n0 c0] 60)) := (Below.refl w.heap.size w).alloc (Nat.le_refl _) _
  have HX0_0 := Lib.hid (show (w.alloc (.cells #[.slice A0 n0 c0] 60)).cell? ⟨w.heap.size, 0, none⟩ = some (.slice A0 n0 c0) by
    have h1 : (w.alloc (.cells #[.slice A0 n0 c0] 60)).cell? ⟨w.heap.size, 0, none⟩ = some (.slice A0 n0 c0) := by rw [World.cell?_alloc_at _ _ _ _ (by simp)]; rfl
    exact h1)
  have HXS0 := Lib.hid (show w.heap.size < (w.alloc (.cells #[.slice A0 n0 c0] 60)).heap.size by simp)
  have HB00 := Lib.hid hbox
  have HR0 := Lib.hid (r0.below hbox)
  have S0 := r0.small
  clear r0
  have HR1 := Lib.hid (r1.below hbox)
  have S1 := r1.small
  clear r1
  clear hbox
  by_cases hn1 : n1 ≤ 1048576
  rotate_left
  · have hn12 : (1048576 : Int) < (n1 : Int) := by omega
    go_enter Try.func16, Try.ntmps16
    go_wp2_with fail
    generalize (w.alloc (.cells #[.slice A0 n0 c0] 60)) = W0 at *
    try go_wp2
    go_ret
    exact ⟨rfl, HB00.out.trans ((Below.refl W0.heap.size W0).mono HB00.out.size)⟩
  by_cases hn0 : (n0 + tot X0) ≤ 1048576
  rotate_left
  · go_enter Try.func16, Try.ntmps16
    go_wp2_with fail
    generalize (w.alloc (.cells #[.slice A0 n0 c0] 60)) = W0 at *
    refine (szno_Milnor (HR0.out.below (Below.refl W0.heap.size W0)) ?_).mono ?_
    · omega
    rintro e W1 ⟨rfl, hb⟩
    have HZ1 := Lib.hid hb.size
    have HB1 := Lib.hid ((Below.refl W0.heap.size W0).trans (hb.mono (Below.refl W0.heap.size W0).size))
    have HX0_0_1 := Lib.hid ((hb.cell (p := ⟨w.heap.size, 0, none⟩) HXS0.out).trans HX0_0.out)
    have HXS0_1 := Lib.hid (Nat.lt_of_lt_of_le HXS0.out hb.size)
    clear hb
    go_wp2
    go_ret
    exact ⟨rfl, HB00.out.trans ((HB1.out).mono HB00.out.size)⟩
  go_enter Try.func16, Try.ntmps16
  go_wp2_with fail
  generalize (w.alloc (.cells #[.slice A0 n0 c0] 60)) = W0 at *
  refine (sz_Milnor (HR0.out.below (Below.refl W0.heap.size W0)) ?_).mono ?_
  · omega
  rintro e W1 ⟨rfl, hb⟩
  have HZ1 := Lib.hid hb.size
  have HB1 := Lib.hid ((Below.refl W0.heap.size W0).trans (hb.mono (Below.refl W0.heap.size W0).size))
  have HX0_0_1 := Lib.hid ((hb.cell (p := ⟨w.heap.size, 0, none⟩) HXS0.out).trans HX0_0.out)
  have HXS0_1 := Lib.hid (Nat.lt_of_lt_of_le HXS0.out hb.size)
  clear hb
  have cx0_0 := HX0_0_1.out
  go_wp2_with fail
  clear cx0_0
  refine (to_Milnor (HR0.out.below (HB1.out)) (by omega)).mono ?_
  rintro e W2 ⟨Gu0, Vu0, rfl, ho, hb⟩
  have HZ2 := Lib.hid hb.size
  have HB2 := Lib.hid ((HB1.out).trans (hb.mono (HB1.out).size))
  have HX0_0_2 := Lib.hid ((hb.cell (p := ⟨w.heap.size, 0, none⟩) HXS0_1.out).trans HX0_0_1.out)
  have HXS0_2 := Lib.hid (Nat.lt_of_lt_of_le HXS0_1.out hb.size)
  clear hb
  have HLu0_2 := Lib.hid ho
  clear ho
  have HTu0 := Lib.hid HLu0_2.out.ins
  have cx0_0 := HX0_0_2.out
  go_wp2_with fail
  clear cx0_0
  refine (to_Int64S (HR1.out.below (HB2.out)) (by omega)).mono ?_
  rintro e W3 ⟨Gu1, rfl, ho, hb⟩
  have HZ3 := Lib.hid hb.size
  have HB3 := Lib.hid ((HB2.out).trans (hb.mono (HB2.out).size))
  have HLu0_3 := Lib.hid (HLu0_2.out.below hb)
  have HX0_0_3 := Lib.hid ((hb.cell (p := ⟨w.heap.size, 0, none⟩) HXS0_2.out).trans HX0_0_2.out)
  have HXS0_3 := Lib.hid (Nat.lt_of_lt_of_le HXS0_2.out hb.size)
  clear hb
  have HLu1_3 := Lib.hid ho
  clear ho
  have HTu1 := Lib.hid HLu1_3.out.ins
  have cx0_0 := HX0_0_3.out
  go_wp2_with fail
  clear cx0_0
  refine (spec_IsInPart HLu0_3.out.reads (by omega) HLu1_3.out.reads (by omega)).mono ?_
  rintro e W4 ⟨rfl, hb⟩
  have HZ4 := Lib.hid hb.size
  have HB4 := Lib.hid ((HB3.out).trans (hb.mono (HB3.out).size))
  have HLu0_4 := Lib.hid (HLu0_3.out.below hb)
  have HLu1_4 := Lib.hid (HLu1_3.out.below hb)
  have HX0_0_4 := Lib.hid ((hb.cell (p := ⟨w.heap.size, 0, none⟩) HXS0_3.out).trans HX0_0_3.out)
  have HXS0_4 := Lib.hid (Nat.lt_of_lt_of_le HXS0_3.out hb.size)
  clear hb
  have cx0_0 := HX0_0_4.out
  go_wp2_with fail
  clear cx0_0
  refine (to_Milnor (HR0.out.below (HB4.out)) (by omega)).mono ?_
  rintro e W5 ⟨Gx0, Vx0, rfl, ho, hb⟩
  have HZ5 := Lib.hid hb.size
  have HB5 := Lib.hid ((HB4.out).trans (hb.mono (HB4.out).size))
  have HS5 := Lib.hid hb
  have HX0_0_5 := Lib.hid ((hb.cell (p := ⟨w.heap.size, 0, none⟩) HXS0_4.out).trans HX0_0_4.out)
  have HXS0_5 := Lib.hid (Nat.lt_of_lt_of_le HXS0_4.out hb.size)
  clear hb
  have HLx0_5 := Lib.hid ho
  clear ho
  have HTx0 := Lib.hid HLx0_5.out.ins
  have hb := box_below W5 (.cells #[.slice (some ⟨Gx0, 0, none⟩) n0 n0] 24)
  have HXx0_0_6 := Lib.hid (show (W5.alloc (.cells #[.slice (some ⟨Gx0, 0, none⟩) n0 n0] 24)).cell? ⟨W5.heap.size, 0, none⟩ = some (.slice (some ⟨Gx0, 0, none⟩) n0 n0) by rw [World.cell?_alloc_at _ _ _ _ rfl]; rfl)
  have HXSx0_6 := Lib.hid (show W5.heap.size < (W5.alloc (.cells #[.slice (some ⟨Gx0, 0, none⟩) n0 n0] 24)).heap.size by simp)
  have HZ6 := Lib.hid hb.size
  have HB6 := Lib.hid ((HB5.out).trans (hb.mono (HB5.out).size))
  have HS6 := Lib.hid (HS5.out.trans (hb.mono HS5.out.size))
  have HLx0_6 := Lib.hid (HLx0_5.out.below hb)
  have HX0_0_6 := Lib.hid ((hb.cell (p := ⟨w.heap.size, 0, none⟩) HXS0_5.out).trans HX0_0_5.out)
  have HXS0_6 := Lib.hid (Nat.lt_of_lt_of_le HXS0_5.out hb.size)
  clear hb
  have cx0_0 := HX0_0_6.out
  have cxx0_0 := HXx0_0_6.out
  go_wp2_with fail
  clear cx0_0 cxx0_0
  generalize (W5.alloc (.cells #[.slice (some ⟨Gx0, 0, none⟩) n0 n0] 24)) = W6 at *
  refine (to_Int64S (HR1.out.below (HB6.out)) (by omega)).mono ?_
  rintro e W7 ⟨Gx1, rfl, ho, hb⟩
  have HZ7 := Lib.hid hb.size
  have HB7 := Lib.hid ((HB6.out).trans (hb.mono (HB6.out).size))
  have HS7 := Lib.hid (HS6.out.trans (hb.mono HS6.out.size))
  have HLx0_7 := Lib.hid (HLx0_6.out.below hb)
  have HX0_0_7 := Lib.hid ((hb.cell (p := ⟨w.heap.size, 0, none⟩) HXS0_6.out).trans HX0_0_6.out)
  have HXS0_7 := Lib.hid (Nat.lt_of_lt_of_le HXS0_6.out hb.size)
  have HXx0_0_7 := Lib.hid ((hb.cell (p := ⟨W5.heap.size, 0, none⟩) HXSx0_6.out).trans HXx0_0_6.out)
  have HXSx0_7 := Lib.hid (Nat.lt_of_lt_of_le HXSx0_6.out hb.size)
  clear hb
  have HLx1_7 := Lib.hid ho
  clear ho
  have HTx1 := Lib.hid HLx1_7.out.ins
  have cx0_0 := HX0_0_7.out
  have cxx0_0 := HXx0_0_7.out
  go_wp2_with fail
  clear cx0_0 cxx0_0
  refine (impl_IsInPart HLx0_7.out.reads (by omega) HLx1_7.out.reads (by omega)).mono ?_
  rintro e W8 ⟨rfl, hb⟩
  have HZ8 := Lib.hid hb.size
  have HB8 := Lib.hid ((HB7.out).trans (hb.mono (HB7.out).size))
  have HS8 := Lib.hid (HS7.out.trans (hb.mono HS7.out.size))
  have HLx0_8 := Lib.hid (HLx0_7.out.below hb)
  have HLx1_8 := Lib.hid (HLx1_7.out.below hb)
  have HX0_0_8 := Lib.hid ((hb.cell (p := ⟨w.heap.size, 0, none⟩) HXS0_7.out).trans HX0_0_7.out)
  have HXS0_8 := Lib.hid (Nat.lt_of_lt_of_le HXS0_7.out hb.size)
  have HXx0_0_8 := Lib.hid ((hb.cell (p := ⟨W5.heap.size, 0, none⟩) HXSx0_7.out).trans HXx0_0_7.out)
  have HXSx0_8 := Lib.hid (Nat.lt_of_lt_of_le HXSx0_7.out hb.size)
  clear hb
  have cx0_0 := HX0_0_8.out
  have cxx0_0 := HXx0_0_8.out
  go_wp2_with fail
  go_region_held3 (fun w' => w'.cell? ⟨W5.heap.size, 0, none⟩ = some (.slice (some ⟨Gx0, 0, none⟩) n0 n0) ∧ w'.cell? ⟨w.heap.size, 0, none⟩ = some (.slice A0 n0 c0)) (first | go_keep | exact ⟨by assumption, by assumption⟩) ((first | (go_at_call 52; refine (to_Milnor (HR0.out.below (by exact ⟨(HB8.out).os, (HB8.out).tape, (HB8.out).output, (HB8.out).size, (HB8.out).block⟩)) (by omega)).mono ?_; rintro e W9 ⟨Gy0, Vy0, rfl, ho, hb0⟩; have hb : Below W8.heap.size W8 W9 := ⟨hb0.os, hb0.tape, hb0.output, hb0.size, hb0.block⟩; clear hb0; clear cx0_0 cxx0_0; have HZ9 := Lib.hid hb.size; have HB9 := Lib.hid ((HB8.out).trans (hb.mono (HB8.out).size)); have HS9 := Lib.hid (HS8.out.trans (hb.mono HS8.out.size)); have HLx0_9 := Lib.hid (HLx0_8.out.below hb); have HLx1_9 := Lib.hid (HLx1_8.out.below hb); have HX0_0_9 := Lib.hid ((hb.cell (p := ⟨w.heap.size, 0, none⟩) HXS0_8.out).trans HX0_0_8.out); have HXS0_9 := Lib.hid (Nat.lt_of_lt_of_le HXS0_8.out hb.size); have HXx0_0_9 := Lib.hid ((hb.cell (p := ⟨W5.heap.size, 0, none⟩) HXSx0_8.out).trans HXx0_0_8.out); have HXSx0_9 := Lib.hid (Nat.lt_of_lt_of_le HXSx0_8.out hb.size); clear hb; have HLy0_9 := Lib.hid ho; clear ho; have cx0_0 := HX0_0_9.out; have cxx0_0 := HXx0_0_9.out) | (go_at_call 20; refine (eq_Milnor (by exact HLx0_9.out.reads) (by exact HLy0_9.out.reads)).mono ?_; rintro e W10 ⟨rfl, hb0⟩; have hb : Below W9.heap.size W9 W10 := ⟨hb0.os, hb0.tape, hb0.output, hb0.size, hb0.block⟩; clear hb0; clear cx0_0 cxx0_0; have HZ10 := Lib.hid hb.size; have HB10 := Lib.hid ((HB9.out).trans (hb.mono (HB9.out).size)); have HS10 := Lib.hid (HS9.out.trans (hb.mono HS9.out.size)); have HLx0_10 := Lib.hid (HLx0_9.out.below hb); have HLx1_10 := Lib.hid (HLx1_9.out.below hb); have HLy0_10 := Lib.hid (HLy0_9.out.below hb); have HX0_0_10 := Lib.hid ((hb.cell (p := ⟨w.heap.size, 0, none⟩) HXS0_9.out).trans HX0_0_9.out); have HXS0_10 := Lib.hid (Nat.lt_of_lt_of_le HXS0_9.out hb.size); have HXx0_0_10 := Lib.hid ((hb.cell (p := ⟨W5.heap.size, 0, none⟩) HXSx0_9.out).trans HXx0_0_9.out); have HXSx0_10 := Lib.hid (Nat.lt_of_lt_of_le HXSx0_9.out hb.size); clear hb; have cx0_0 := HX0_0_10.out; have cxx0_0 := HXx0_0_10.out)))
  clear cx0_0 cxx0_0
  have cx0_0 := HX0_0_10.out
  have cxx0_0 := HXx0_0_10.out
  go_wp2_with fail
  clear cx0_0 cxx0_0
  refine (to_Int64S (HR1.out.below (HB10.out)) (by omega)).mono ?_
  rintro e W11 ⟨Gy1, rfl, ho, hb⟩
  have HZ11 := Lib.hid hb.size
  have HB11 := Lib.hid ((HB10.out).trans (hb.mono (HB10.out).size))
  have HS11 := Lib.hid (HS10.out.trans (hb.mono HS10.out.size))
  have HLx0_11 := Lib.hid (HLx0_10.out.below hb)
  have HLx1_11 := Lib.hid (HLx1_10.out.below hb)
  have HX0_0_11 := Lib.hid ((hb.cell (p := ⟨w.heap.size, 0, none⟩) HXS0_10.out).trans HX0_0_10.out)
  have HXS0_11 := Lib.hid (Nat.lt_of_lt_of_le HXS0_10.out hb.size)
  have HXx0_0_11 := Lib.hid ((hb.cell (p := ⟨W5.heap.size, 0, none⟩) HXSx0_10.out).trans HXx0_0_10.out)
  have HXSx0_11 := Lib.hid (Nat.lt_of_lt_of_le HXSx0_10.out hb.size)
  clear hb
  have HLy1_11 := Lib.hid ho
  clear ho
  have HTy1 := Lib.hid HLy1_11.out.ins
  have cx0_0 := HX0_0_11.out
  have cxx0_0 := HXx0_0_11.out
  go_wp2_with fail
  clear cx0_0 cxx0_0
  refine (eq_Int64S HLx1_11.out.reads HLy1_11.out.reads).mono ?_
  rintro e W12 ⟨rfl, hb⟩
  have HZ12 := Lib.hid hb.size
  have HB12 := Lib.hid ((HB11.out).trans (hb.mono (HB11.out).size))
  have HS12 := Lib.hid (HS11.out.trans (hb.mono HS11.out.size))
  have HLx0_12 := Lib.hid (HLx0_11.out.below hb)
  have HLx1_12 := Lib.hid (HLx1_11.out.below hb)
  have HLy1_12 := Lib.hid (HLy1_11.out.below hb)
  have HX0_0_12 := Lib.hid ((hb.cell (p := ⟨w.heap.size, 0, none⟩) HXS0_11.out).trans HX0_0_11.out)
  have HXS0_12 := Lib.hid (Nat.lt_of_lt_of_le HXS0_11.out hb.size)
  have HXx0_0_12 := Lib.hid ((hb.cell (p := ⟨W5.heap.size, 0, none⟩) HXSx0_11.out).trans HXx0_0_11.out)
  have HXSx0_12 := Lib.hid (Nat.lt_of_lt_of_le HXSx0_11.out hb.size)
  clear hb
  have cx0_0 := HX0_0_12.out
  have cxx0_0 := HXx0_0_12.out
  go_wp2
  go_ret
  exact ⟨rfl, HB00.out.trans ((HB12.out).mono HB00.out.size)⟩

set_option maxRecDepth 100000 in
theorem lifted (os : Os) (started : os.Started) (H : Type) (enc : TypeId × Value → H) :
    ReturnsInHanded {} Try.checked os 16 .any (Rows.fnExactIsInPartSpec.pre6 enc Try.prog Try.f16 Rows.fnExactIsInPartRow.domain false) (Rows.fnExactIsInPartSpec.post enc Try.prog Try.f16 false true false false) := by
  refine returnsInHanded_of_change (C := Try.checked) own started (by kernel_rfl) Try.func16
    (ChangeSpec.witness6 (enc := enc) (C := Try.checked) false ⟨#[], #[.agg #[.slice none 0 0], .slice none 0 0], []⟩ 8 (by kernel_rfl) (by kernel_rfl) (by kernel_rfl) (by kernel_rfl)) ?_
  intro W base args ds gs before hval0 hW hcnd _
  have hval : ∀ (j : Nat) t v, Try.f16.params[j]? = some t → args[j]? = some v → Value.okWide Try.prog W .any base t v := hval0
  have hW' := hW
  obtain ⟨p, q, hA0, hV, rfl, hfz, hnd⟩ := hW
  have hA : DataW.TrodAll enc Try.prog W 0 (fun _ => true) true Try.f16.params.toList args.toList ds p := hA0
  rw [Try.params16] at hA hval
  obtain ⟨v0, vs0, d0, ds0, p0, q0, hargs, rfl, rfl, h0, r0⟩ := trodAll_cons hA
  obtain ⟨v1, vs1, d1, ds1, p1, q1, rfl, rfl, rfl, h1, r1⟩ := trodAll_cons r0
  obtain ⟨rfl, rfl, rfl⟩ := trodAll_nil r1
  obtain rfl : args = #[v0, v1] := by cases args; simp_all
  obtain ⟨rfl, rfl⟩ := trodVars_none hV
  have t0 := h0
  have lt0 : ∀ x ∈ p0, x.block < W.heap.size := by obtain ⟨m, hm⟩ := t0; exact DataW.trod_lt m _ _ _ hm
  obtain ⟨c10, y10, m0, hv0, hd0, hp0, hy0⟩ := open_agg1 Try.underlying60 (by kernel_rfl) (by kernel_rfl) (hval 0 60 v0 rfl rfl) h0
  obtain ⟨A0, n0, c0, V0, X0, g0, rr0⟩ := open_SS hy0
  have g01 := List.cons.inj g0
  have g02 := g01.1
  rw [g02] at hv0
  clear hy0 g0 g01
  subst hv0
  have t1 := h1
  have lt1 : ∀ x ∈ p1, x.block < W.heap.size := by obtain ⟨m, hm⟩ := t1; exact DataW.trod_lt m _ _ _ hm
  obtain ⟨a1, l1, k1, rfl⟩ := okWide_slice Try.underlying36 (hval 1 36 v1 rfl rfl)
  obtain ⟨fuel1, hf1⟩ := h1
  obtain ⟨A1, n1, c1, X1, g1, rr1⟩ := open_LL hf1
  simp [Value.cells] at g1
  obtain ⟨rfl, rfl, rfl⟩ := g1
  clear hA0 hval0
  refine (walk A0 n0 c0 V0 X0 a1 l1 k1 X1 W rr0 rr1).mono fun e W' ⟨he, bel⟩ => ?_
  subst he
  exact ⟨_, rfl, _, _, _, [], _, [], hW', trodAll_mk1 (shut_bool Try.underlying4 _), (trodAll_cons_mk (Below.trod laidOut (by kernel_rfl) (of_decide_eq_true (by kernel_rfl)) t0 bel lt0) (trodAll_cons_mk (Below.trod laidOut (by kernel_rfl) (of_decide_eq_true (by kernel_rfl)) t1 bel lt1) trodAll_mk0)), rfl, bel.frame _, fun h => by cases h⟩

theorem closed : joinedFacts Try.prog 16 Try.f16 Rows.fnExactIsInPartSpec Rows.fnExactIsInPartRow = true := by
  unfold joinedFacts
  rw [mayEnter_eq, liftsFinal_eq, make_eq]
  kernel_rfl


theorem over : Rows.fnExactIsInPartRow.holds Try.pinned (OpenSpec.ofChange Rows.fnExactIsInPartSpec) :=
  OpenClaim.holds_of_wide 16 Try.f16 rfl rfl rfl rfl rfl rfl rfl ⟨rfl, rfl, rfl, rfl, rfl⟩ rfl rfl rfl rfl rfl (by kernel_rfl) Try.func16 closed
    (of_decide_eq_true (by kernel_rfl)) (by unfold Func.isWrapper; first | (rw [if_pos (by decide +kernel)]; kernel_rfl) | (rw [if_neg (by decide +kernel)]; exact ⟨rfl, rfl⟩))
    (fun os started H enc _ => lifted os started H enc)

theorem proved : Rows.FnExactIsInPartSaid := over
#print axioms proved
end Go.Proofs.Ytindhmgfadipnaa.fnExactIsInPart
