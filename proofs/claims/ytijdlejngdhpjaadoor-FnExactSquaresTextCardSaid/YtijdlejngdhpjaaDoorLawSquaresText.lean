/- The statement on FnExactSquaresText: for every input the call returns true, and each argument reads behind the call as it read before. No condition. The frame is written by a program of this repo after the kit's shell. -/
import Derived.Test.YtijdlejngdhpjaaDoorTxtS
import Derived.Test.YtijdlejngdhpjaaDoorKit2
import Derived.Test.YtijdlejngdhpjaaDoorFrm
import Derived.Test.YtijdlejngdhpjaaDoorRows
import Derived.Test.YtijdlejngdhpjaaDoorTie
import Derived.Test.YtijdlejngdhpjaaDoorCards
import Derived.LaidMore
import Derived.Stop.Joined
import Derived.SevenTiedAt
import Derived.WalkKit
import Derived.ProofKit
import Derived.OpenShut
import Derived.ShutString
import Derived.ChangeOld
import Derived.Below
import Derived.Lib.SmallJoins
import Derived.Deep.RegionHeld3
namespace Go.Proofs.YtijdlejngdhpjaaDoor.fnExactSquaresText
open Go.Joins Go.ChangeShapes Go.WideShapes Go.ChangeAt Go.RowKit
open Go.ChangeMaps (open_string shut_string)
set_option linter.unusedVariables false

theorem own : ownKnob Tryd.prog.godebug = none := by kernel_rfl
theorem laidOut : laidOutB Tryd.prog = true := by kernel_rfl

set_option maxRecDepth 100000 in
set_option maxHeartbeats 2000000 in
theorem walk (A0 : Option Addr) (n0 c0 : Nat) (V0 : List Sl) (X0 : List (List Int)) (w : World) (r0 : RS w A0 n0 V0 X0) :
    Calls Tryd.prog 4 #[.agg #[.slice A0 n0 c0]] w fun e w' => e = .returned (.bool true) ∧ Below w.heap.size w w' := by
  have hbox : Below w.heap.size w (w.alloc (.cells #[.slice A0 n0 c0] 30)) := (Below.refl w.heap.size w).alloc (Nat.le_refl _) _
  have HX0_0 := Lib.hid (show (w.alloc (.cells #[.slice A0 n0 c0] 30)).cell? ⟨w.heap.size, 0, none⟩ = some (.slice A0 n0 c0) by
    have h1 : (w.alloc (.cells #[.slice A0 n0 c0] 30)).cell? ⟨w.heap.size, 0, none⟩ = some (.slice A0 n0 c0) := by rw [World.cell?_alloc_at _ _ _ _ (by simp)]; rfl
    exact h1)
  have HXS0 := Lib.hid (show w.heap.size < (w.alloc (.cells #[.slice A0 n0 c0] 30)).heap.size by simp)
  have HB00 := Lib.hid hbox
  have HR0 := Lib.hid (r0.below hbox)
  have S0 := r0.small
  clear r0
  clear hbox
  by_cases hn0 : (n0 + tot X0) ≤ 1048576
  rotate_left
  · go_enter Tryd.func4, Tryd.ntmps4
    go_wp2_with fail
    generalize (w.alloc (.cells #[.slice A0 n0 c0] 30)) = W0 at *
    refine (szno_Squares (HR0.out.below (Below.refl W0.heap.size W0)) ?_).mono ?_
    · omega
    rintro e W1 ⟨rfl, hb⟩
    have HZ1 := Lib.hid hb.size
    have HB1 := Lib.hid ((Below.refl W0.heap.size W0).trans (hb.mono (Below.refl W0.heap.size W0).size))
    have HX0_0_1 := Lib.hid ((hb.cell (p := ⟨w.heap.size, 0, none⟩) HXS0.out).trans HX0_0.out)
    have HXS0_1 := Lib.hid (Nat.lt_of_lt_of_le HXS0.out hb.size)
    clear hb
    go_wp2
    go_ret
    exact ⟨rfl, HB00.out.trans ((HB1.out).mono HB00.out.size)⟩
  go_enter Tryd.func4, Tryd.ntmps4
  go_wp2_with fail
  generalize (w.alloc (.cells #[.slice A0 n0 c0] 30)) = W0 at *
  refine (sz_Squares (HR0.out.below (Below.refl W0.heap.size W0)) ?_).mono ?_
  · omega
  rintro e W1 ⟨rfl, hb⟩
  have HZ1 := Lib.hid hb.size
  have HB1 := Lib.hid ((Below.refl W0.heap.size W0).trans (hb.mono (Below.refl W0.heap.size W0).size))
  have HX0_0_1 := Lib.hid ((hb.cell (p := ⟨w.heap.size, 0, none⟩) HXS0.out).trans HX0_0.out)
  have HXS0_1 := Lib.hid (Nat.lt_of_lt_of_le HXS0.out hb.size)
  clear hb
  have cx0_0 := HX0_0_1.out
  go_wp2_with fail
  clear cx0_0
  refine (to_Squares (HR0.out.below (HB1.out)) (by omega)).mono ?_
  rintro e W2 ⟨Gu0, Vu0, rfl, ho, hb⟩
  have HZ2 := Lib.hid hb.size
  have HB2 := Lib.hid ((HB1.out).trans (hb.mono (HB1.out).size))
  have HX0_0_2 := Lib.hid ((hb.cell (p := ⟨w.heap.size, 0, none⟩) HXS0_1.out).trans HX0_0_1.out)
  have HXS0_2 := Lib.hid (Nat.lt_of_lt_of_le HXS0_1.out hb.size)
  clear hb
  have HLu0_2 := Lib.hid ho
  clear ho
  have HTu0 := Lib.hid HLu0_2.out.ins
  have cx0_0 := HX0_0_2.out
  go_wp2_with fail
  clear cx0_0
  refine (spec_SquaresText HLu0_2.out.reads (by omega)).mono ?_
  rintro e W3 ⟨rfl, hb⟩
  have HZ3 := Lib.hid hb.size
  have HB3 := Lib.hid ((HB2.out).trans (hb.mono (HB2.out).size))
  have HLu0_3 := Lib.hid (HLu0_2.out.below hb)
  have HX0_0_3 := Lib.hid ((hb.cell (p := ⟨w.heap.size, 0, none⟩) HXS0_2.out).trans HX0_0_2.out)
  have HXS0_3 := Lib.hid (Nat.lt_of_lt_of_le HXS0_2.out hb.size)
  clear hb
  have cx0_0 := HX0_0_3.out
  go_wp2_with fail
  clear cx0_0
  refine (to_Squares (HR0.out.below (HB3.out)) (by omega)).mono ?_
  rintro e W4 ⟨Gx0, Vx0, rfl, ho, hb⟩
  have HZ4 := Lib.hid hb.size
  have HB4 := Lib.hid ((HB3.out).trans (hb.mono (HB3.out).size))
  have HS4 := Lib.hid hb
  have HX0_0_4 := Lib.hid ((hb.cell (p := ⟨w.heap.size, 0, none⟩) HXS0_3.out).trans HX0_0_3.out)
  have HXS0_4 := Lib.hid (Nat.lt_of_lt_of_le HXS0_3.out hb.size)
  clear hb
  have HLx0_4 := Lib.hid ho
  clear ho
  have HTx0 := Lib.hid HLx0_4.out.ins
  have hb := box_below W4 (.cells #[.slice (some ⟨Gx0, 0, none⟩) n0 n0] 24)
  have HXx0_0_5 := Lib.hid (show (W4.alloc (.cells #[.slice (some ⟨Gx0, 0, none⟩) n0 n0] 24)).cell? ⟨W4.heap.size, 0, none⟩ = some (.slice (some ⟨Gx0, 0, none⟩) n0 n0) by rw [World.cell?_alloc_at _ _ _ _ rfl]; rfl)
  have HXSx0_5 := Lib.hid (show W4.heap.size < (W4.alloc (.cells #[.slice (some ⟨Gx0, 0, none⟩) n0 n0] 24)).heap.size by simp)
  have HZ5 := Lib.hid hb.size
  have HB5 := Lib.hid ((HB4.out).trans (hb.mono (HB4.out).size))
  have HS5 := Lib.hid (HS4.out.trans (hb.mono HS4.out.size))
  have HLx0_5 := Lib.hid (HLx0_4.out.below hb)
  have HX0_0_5 := Lib.hid ((hb.cell (p := ⟨w.heap.size, 0, none⟩) HXS0_4.out).trans HX0_0_4.out)
  have HXS0_5 := Lib.hid (Nat.lt_of_lt_of_le HXS0_4.out hb.size)
  clear hb
  have cx0_0 := HX0_0_5.out
  have cxx0_0 := HXx0_0_5.out
  go_wp2_with fail
  clear cx0_0 cxx0_0
  generalize (W4.alloc (.cells #[.slice (some ⟨Gx0, 0, none⟩) n0 n0] 24)) = W5 at *
  refine (impl_SquaresText HLx0_5.out.reads (by omega)).mono ?_
  rintro e W6 ⟨rfl, hb⟩
  have HZ6 := Lib.hid hb.size
  have HB6 := Lib.hid ((HB5.out).trans (hb.mono (HB5.out).size))
  have HS6 := Lib.hid (HS5.out.trans (hb.mono HS5.out.size))
  have HLx0_6 := Lib.hid (HLx0_5.out.below hb)
  have HX0_0_6 := Lib.hid ((hb.cell (p := ⟨w.heap.size, 0, none⟩) HXS0_5.out).trans HX0_0_5.out)
  have HXS0_6 := Lib.hid (Nat.lt_of_lt_of_le HXS0_5.out hb.size)
  have HXx0_0_6 := Lib.hid ((hb.cell (p := ⟨W4.heap.size, 0, none⟩) HXSx0_5.out).trans HXx0_0_5.out)
  have HXSx0_6 := Lib.hid (Nat.lt_of_lt_of_le HXSx0_5.out hb.size)
  clear hb
  have cx0_0 := HX0_0_6.out
  have cxx0_0 := HXx0_0_6.out
  go_wp2_with fail
  go_region_held3 (fun w' => w'.cell? ⟨W4.heap.size, 0, none⟩ = some (.slice (some ⟨Gx0, 0, none⟩) n0 n0) ∧ w'.cell? ⟨w.heap.size, 0, none⟩ = some (.slice A0 n0 c0)) (first | go_keep | exact ⟨by assumption, by assumption⟩) ((first | (go_at_call 12; refine (to_Squares (HR0.out.below (by exact ⟨(HB6.out).os, (HB6.out).tape, (HB6.out).output, (HB6.out).size, (HB6.out).block⟩)) (by omega)).mono ?_; rintro e W7 ⟨Gy0, Vy0, rfl, ho, hb0⟩; have hb : Below W6.heap.size W6 W7 := ⟨hb0.os, hb0.tape, hb0.output, hb0.size, hb0.block⟩; clear hb0; clear cx0_0 cxx0_0; have HZ7 := Lib.hid hb.size; have HB7 := Lib.hid ((HB6.out).trans (hb.mono (HB6.out).size)); have HS7 := Lib.hid (HS6.out.trans (hb.mono HS6.out.size)); have HLx0_7 := Lib.hid (HLx0_6.out.below hb); have HX0_0_7 := Lib.hid ((hb.cell (p := ⟨w.heap.size, 0, none⟩) HXS0_6.out).trans HX0_0_6.out); have HXS0_7 := Lib.hid (Nat.lt_of_lt_of_le HXS0_6.out hb.size); have HXx0_0_7 := Lib.hid ((hb.cell (p := ⟨W4.heap.size, 0, none⟩) HXSx0_6.out).trans HXx0_0_6.out); have HXSx0_7 := Lib.hid (Nat.lt_of_lt_of_le HXSx0_6.out hb.size); clear hb; have HLy0_7 := Lib.hid ho; clear ho; have cx0_0 := HX0_0_7.out; have cxx0_0 := HXx0_0_7.out) | (go_at_call 7; refine (eq_Squares (by exact HLx0_7.out.reads) (by exact HLy0_7.out.reads)).mono ?_; rintro e W8 ⟨rfl, hb0⟩; have hb : Below W7.heap.size W7 W8 := ⟨hb0.os, hb0.tape, hb0.output, hb0.size, hb0.block⟩; clear hb0; clear cx0_0 cxx0_0; have HZ8 := Lib.hid hb.size; have HB8 := Lib.hid ((HB7.out).trans (hb.mono (HB7.out).size)); have HS8 := Lib.hid (HS7.out.trans (hb.mono HS7.out.size)); have HLx0_8 := Lib.hid (HLx0_7.out.below hb); have HLy0_8 := Lib.hid (HLy0_7.out.below hb); have HX0_0_8 := Lib.hid ((hb.cell (p := ⟨w.heap.size, 0, none⟩) HXS0_7.out).trans HX0_0_7.out); have HXS0_8 := Lib.hid (Nat.lt_of_lt_of_le HXS0_7.out hb.size); have HXx0_0_8 := Lib.hid ((hb.cell (p := ⟨W4.heap.size, 0, none⟩) HXSx0_7.out).trans HXx0_0_7.out); have HXSx0_8 := Lib.hid (Nat.lt_of_lt_of_le HXSx0_7.out hb.size); clear hb; have cx0_0 := HX0_0_8.out; have cxx0_0 := HXx0_0_8.out)))
  clear cx0_0 cxx0_0
  have cx0_0 := HX0_0_8.out
  have cxx0_0 := HXx0_0_8.out
  go_wp2
  go_ret
  exact ⟨rfl, HB00.out.trans ((HB8.out).mono HB00.out.size)⟩

/-- the door's own heap meets the condition: closed facts -/
theorem door_met (os : Os) (args : Array Value) : laidMetH Tryd.prog Rows.fnExactSquaresTextRow.laid ((World.doorLaid Tryd.prog 72 os).forCall (fun _ _ => 0) ⟨#[], args, []⟩).memory :=
  laidMetH_of_parts3 (fuel := 8) (laidMet_of_run' 8 (by kernel_rfl) (by kernel_rfl)) (by kernel_rfl) (by kernel_rfl)

set_option maxRecDepth 100000 in
theorem lifted (os : Os) (started : os.Started) (H : Type) (enc : TypeId × Value → H) :
    ReturnsInHanded {} Tryd.checked os 4 .any (fun w args => (Rows.fnExactSquaresTextSpec.pre enc Tryd.prog Tryd.f4 [] false w args ∧ laidMetH Tryd.prog Rows.fnExactSquaresTextRow.laid w) ∧ sizedMet enc Tryd.prog Tryd.f4 (OpenSpec.ofChange Rows.fnExactSquaresTextSpec) false w args)
      (Rows.fnExactSquaresTextSpec.post enc Tryd.prog Tryd.f4 false true false false) := by
  refine returnsInHanded_of_change_and (C := Tryd.checked) (X := fun w _ => laidMetH Tryd.prog Rows.fnExactSquaresTextRow.laid w) (fun _ _ _ hh h => h.of_heap hh) own started (by kernel_rfl) Tryd.func4
    (ChangeSpec.witness_shaped (enc := enc) (C := Tryd.checked) (os := os) (X := fun w _ => laidMetH Tryd.prog Rows.fnExactSquaresTextRow.laid w) false (World.doorLaid Tryd.prog 72 os) #[.agg #[.slice none 0 0]] 8 rfl (World.shaped_of_RefB (by kernel_rfl) (by kernel_rfl)) (by kernel_rfl) (by kernel_rfl) (by kernel_rfl) (door_met os _)) ?_
  intro W base args ds gs before hval0 hW _ _ hL _
  have hval : ∀ (j : Nat) t v, Tryd.f4.params[j]? = some t → args[j]? = some v → Value.okWide Tryd.prog W .any base t v := hval0
  have hW' := hW
  obtain ⟨p, q, hA0, hV, rfl, hfz, hnd⟩ := hW
  have hA : DataW.TrodAll enc Tryd.prog W 0 (fun _ => true) true Tryd.f4.params.toList args.toList ds p := hA0
  rw [Tryd.params4] at hA hval
  obtain ⟨v0, vs0, d0, ds0, p0, q0, hargs, rfl, rfl, h0, r0⟩ := trodAll_cons hA
  obtain ⟨rfl, rfl, rfl⟩ := trodAll_nil r0
  obtain rfl : args = #[v0] := by cases args; simp_all
  obtain ⟨rfl, rfl⟩ := trodVars_none hV
  have t0 := h0
  have lt0 : ∀ x ∈ p0, x.block < W.heap.size := by obtain ⟨m, hm⟩ := t0; exact DataW.trod_lt m _ _ _ hm
  obtain ⟨c10, y10, m0, hv0, hd0, hp0, hy0⟩ := open_agg1 Tryd.underlying30 (by kernel_rfl) (by kernel_rfl) (hval 0 30 v0 rfl rfl) h0
  obtain ⟨A0, n0, c0, V0, X0, g0, r0⟩ := open_SS hy0
  have g01 := List.cons.inj g0
  have g02 := g01.1
  rw [g02] at hv0
  clear hy0 g0 g01
  subst hv0
  clear hA0 hval0
  refine (walk A0 n0 c0 V0 X0 W r0).mono fun e W' ⟨he, bel⟩ => ?_
  subst he
  exact ⟨_, rfl, _, _, _, [], _, [], hW', trodAll_mk1 (shut_bool Tryd.underlying4 _), (trodAll_cons_mk (Below.trod laidOut (by kernel_rfl) (of_decide_eq_true (by kernel_rfl)) t0 bel lt0) trodAll_mk0), rfl, bel.frame _, fun h => by cases h⟩

theorem closed : joinedFacts Tryd.prog 4 Tryd.f4 Rows.fnExactSquaresTextSpec Rows.fnExactSquaresTextRow = true := by
  unfold joinedFacts
  rw [mayEnter_eq, liftsFinal_eq, make_eq]
  kernel_rfl


theorem over : Rows.fnExactSquaresTextRow.holds Tryd.pinned (OpenSpec.ofChange Rows.fnExactSquaresTextSpec) :=
  OpenClaim.holds_of_wide 4 Tryd.f4 rfl rfl rfl rfl rfl rfl rfl ⟨rfl, rfl, rfl, rfl, rfl⟩ rfl rfl rfl rfl rfl (by kernel_rfl) Tryd.func4 closed
    (of_decide_eq_true (by kernel_rfl)) (by unfold Func.isWrapper; first | (rw [if_pos (by decide +kernel)]; kernel_rfl) | (rw [if_neg (by decide +kernel)]; exact ⟨rfl, rfl⟩))
    (fun os started H enc _ => lifted os started H enc)

theorem row_holds : Rows.FnExactSquaresTextSaid := over

theorem proved : Rows.FnExactSquaresTextCardSaid :=
  Claim7.holds_tied_plain_at .later [] [.data, .data, .data] true Rows.fnExactSquaresTextCard.stood.harness true
    row_holds (fun _ h => by cases h) (by kernel_rfl) (fun _ h => by cases h) fnExactSquaresText_row_tie rfl ⟨rfl, rfl⟩ (by kernel_rfl) rfl
    (fun f fn hf hfn => by
      obtain rfl : f = 4 := Option.some.inj ((show Tryd.prog.funcNamed "loop.example/g01154/laws.FnExactSquaresText" = some 4 by kernel_rfl).symm.trans hf) |>.symm
      obtain rfl : fn = Tryd.f4 := (Option.some.inj (Tryd.func4.symm.trans hfn)).symm
      exact ⟨by kernel_rfl, fun j t ht => by
        rw [Tryd.params4] at ht
        have hm : t ∈ [30] := by simpa using Array.mem_of_getElem? ht
        have hall : ([30].all fun u => !Tryd.prog.wantsStandIn u) = true := by kernel_rfl
        exact (show Tryd.prog.wantsStandIn t = false by simpa using List.all_eq_true.1 hall t hm)⟩)
    (by kernel_rfl)
#print axioms proved
end Go.Proofs.YtijdlejngdhpjaaDoor.fnExactSquaresText
