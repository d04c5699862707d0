/- The statement on FnExactParseSquares: for every input the call returns true, and each argument reads behind the call as it read before. No condition. The frame is written by a program of this repo after the kit's shell. -/
import Derived.Test.YtijdlejngdhpjaaDoorPrsI
import Derived.Test.YtijdlejngdhpjaaDoorKit2
import Derived.Test.YtijdlejngdhpjaaDoorFrm
import Derived.Test.YtijdlejngdhpjaaDoorRows
import Derived.Test.YtijdlejngdhpjaaDoorTie
import Derived.Test.YtijdlejngdhpjaaDoorCards
import Derived.Test.YtijdlejngdhpjaaDoorLd
import Derived.LaidMore
import Derived.Lay
import Derived.Stop.Joined
import Derived.SevenTiedAt
import Derived.ChangeMaps5
import Derived.WalkKit
import Derived.ProofKit
import Derived.OpenShut
import Derived.ShutString
import Derived.ChangeOld
import Derived.Below
import Derived.Lib.SmallJoins
import Derived.Deep.RegionHeld3
import Derived.Deep.RegionWith
namespace Go.Proofs.YtijdlejngdhpjaaDoor.fnExactParseSquares
open Go.Joins Go.ChangeShapes Go.WideShapes Go.ChangeAt Go.RowKit
open Go.ChangeMaps (open_string shut_string)
set_option linter.unusedVariables false

theorem pParseSquares_sz (l : List UInt8) (hl : l.length ≤ 1048576) : tot (pParseSquares l).1 ≤ 4000000000 := by
  rw [pParse_I]
  cases hr : rsI l with
  | none => exact Nat.zero_le _
  | some X =>
    have := rs_tot l X hr
    unfold passed
    rw [Option.bind_some]
    split
    · next x hx =>
      split at hx
      · have e := Option.some.inj hx
        subst e
        show tot X ≤ _
        omega
      · cases hx
    · exact Nat.zero_le _

theorem own : ownKnob Tryd.prog.godebug = none := by kernel_rfl
theorem laidOut : laidOutB Tryd.prog = true := by kernel_rfl

set_option maxRecDepth 100000 in
set_option maxHeartbeats 2000000 in
theorem walk (l : List UInt8) (w : World) (hlw : LW w) :
    Calls Tryd.prog 3 #[.string (sB l)] w fun e w' => e = .returned (.bool true) ∧ Below w.heap.size w w' := by
  have hs : (sB l).size = l.length := sB_size l
  have HLW := Lib.hid hlw
  clear hlw
  by_cases hl : l.length ≤ 1048576
  rotate_left
  · have hl' : (1048576 : Int) < (l.length : Int) := by omega
    go_enter Tryd.func3, Tryd.ntmps3
    go_wp2
    go_ret
    exact ⟨rfl, Below.refl _ _⟩
  have hl' : ¬ (1048576 : Int) < (l.length : Int) := by omega
  go_enter Tryd.func3, Tryd.ntmps3
  go_wp2_with fail
  refine (spec_ParseSquares l _ hl).mono ?_
  rintro e W1 ⟨AW, nW, cW, vW, rfl, ho, hb⟩
  have HZ1 := Lib.hid hb.size
  have HB1 := Lib.hid ((Below.refl w.heap.size w).trans (hb.mono (Below.refl w.heap.size w).size))
  clear hb
  have HLW_1 := Lib.hid ho
  clear ho
  have HTW := Lib.hid HLW_1.out.ins
  have HRW := Lib.hid HLW_1.out.reads
  have hb := box_below W1 (.cells #[.slice AW nW cW] 24)
  have HXW_0_2 := Lib.hid (show (W1.alloc (.cells #[.slice AW nW cW] 24)).cell? ⟨W1.heap.size, 0, none⟩ = some (.slice AW nW cW) by rw [World.cell?_alloc_at _ _ _ _ rfl]; rfl)
  have HXSW_2 := Lib.hid (show W1.heap.size < (W1.alloc (.cells #[.slice AW nW cW] 24)).heap.size by simp)
  have HZ2 := Lib.hid hb.size
  have HB2 := Lib.hid ((HB1.out).trans (hb.mono (HB1.out).size))
  have HS2 := Lib.hid hb
  clear hb
  have cxW_0 := HXW_0_2.out
  go_wp2_with fail
  clear cxW_0
  generalize (W1.alloc (.cells #[.slice AW nW cW] 24)) = W2 at *
  refine (impl_ParseSquares l _ hl (HLW.out.below HB2.out)).mono ?_
  rintro e W3 ⟨Ag, ng, cg, vg, rfl, ho, hb⟩
  have HZ3 := Lib.hid hb.size
  have HB3 := Lib.hid ((HB2.out).trans (hb.mono (HB2.out).size))
  have HS3 := Lib.hid (HS2.out.trans (hb.mono HS2.out.size))
  have HXW_0_3 := Lib.hid ((hb.cell (p := ⟨W1.heap.size, 0, none⟩) HXSW_2.out).trans HXW_0_2.out)
  have HXSW_3 := Lib.hid (Nat.lt_of_lt_of_le HXSW_2.out hb.size)
  clear hb
  have HLg_3 := Lib.hid ho
  clear ho
  have HTg := Lib.hid HLg_3.out.ins
  obtain rfl : ng = nW := by rw [← HLg_3.out.len, HRW.out.len]
  have hb := box_below W3 (.cells #[.slice Ag ng cg] 24)
  have HXg_0_4 := Lib.hid (show (W3.alloc (.cells #[.slice Ag ng cg] 24)).cell? ⟨W3.heap.size, 0, none⟩ = some (.slice Ag ng cg) by rw [World.cell?_alloc_at _ _ _ _ rfl]; rfl)
  have HXSg_4 := Lib.hid (show W3.heap.size < (W3.alloc (.cells #[.slice Ag ng cg] 24)).heap.size by simp)
  have HZ4 := Lib.hid hb.size
  have HB4 := Lib.hid ((HB3.out).trans (hb.mono (HB3.out).size))
  have HS4 := Lib.hid (HS3.out.trans (hb.mono HS3.out.size))
  have HLg_4 := Lib.hid (HLg_3.out.below hb)
  have HXW_0_4 := Lib.hid ((hb.cell (p := ⟨W1.heap.size, 0, none⟩) HXSW_3.out).trans HXW_0_3.out)
  have HXSW_4 := Lib.hid (Nat.lt_of_lt_of_le HXSW_3.out hb.size)
  clear hb
  have cxW_0 := HXW_0_4.out
  have cxg_0 := HXg_0_4.out
  go_wp2_with fail
  clear cxW_0 cxg_0
  generalize (W3.alloc (.cells #[.slice Ag ng cg] 24)) = W4 at *
  refine (eq_Squares HLg_4.out.reads (HRW.out.below HS4.out)).mono ?_
  rintro e W5 ⟨rfl, hb⟩
  have HZ5 := Lib.hid hb.size
  have HB5 := Lib.hid ((HB4.out).trans (hb.mono (HB4.out).size))
  have HS5 := Lib.hid (HS4.out.trans (hb.mono HS4.out.size))
  have HLg_5 := Lib.hid (HLg_4.out.below hb)
  have HXW_0_5 := Lib.hid ((hb.cell (p := ⟨W1.heap.size, 0, none⟩) HXSW_4.out).trans HXW_0_4.out)
  have HXSW_5 := Lib.hid (Nat.lt_of_lt_of_le HXSW_4.out hb.size)
  have HXg_0_5 := Lib.hid ((hb.cell (p := ⟨W3.heap.size, 0, none⟩) HXSg_4.out).trans HXg_0_4.out)
  have HXSg_5 := Lib.hid (Nat.lt_of_lt_of_le HXSg_4.out hb.size)
  clear hb
  have NG := pParseSquares_sz l hl
  have cxW_0 := HXW_0_5.out
  have cxg_0 := HXg_0_5.out
  go_wp2_with fail
  clear cxW_0 cxg_0
  refine (mark_Squares HLg_5.out HTg.out (by omega) (by omega)).mono ?_
  rintro e W6 ⟨rfl, ho, hb⟩
  have HXW_0_6 := Lib.hid ((Mid.cell hb (p := ⟨W1.heap.size, 0, none⟩) HXSW_5.out (by show W1.heap.size < W2.heap.size ∨ W3.heap.size ≤ W1.heap.size; have q1 := HZ1.out; have q2 := HZ2.out; have q3 := HZ3.out; have q4 := HZ4.out; have q5 := HZ5.out; have r0 := HXSW_2.out; have r1 := HXSg_4.out; omega)).trans HXW_0_5.out)
  have HXSW_6 := Lib.hid (Nat.lt_of_lt_of_le HXSW_5.out hb.size)
  have HXg_0_6 := Lib.hid ((Mid.cell hb (p := ⟨W3.heap.size, 0, none⟩) HXSg_5.out (by show W3.heap.size < W2.heap.size ∨ W3.heap.size ≤ W3.heap.size; have q1 := HZ1.out; have q2 := HZ2.out; have q3 := HZ3.out; have q4 := HZ4.out; have q5 := HZ5.out; have r0 := HXSW_2.out; have r1 := HXSg_4.out; omega)).trans HXg_0_5.out)
  have HXSg_6 := Lib.hid (Nat.lt_of_lt_of_le HXSg_5.out hb.size)
  have HZ6 := Lib.hid hb.size
  have HB6 := Lib.hid (Mid.below (HB5.out) hb (by have q1 := HZ1.out; have q2 := HZ2.out; omega) (by have q1 := HZ1.out; have q2 := HZ2.out; have q3 := HZ3.out; have q4 := HZ4.out; have q5 := HZ5.out; omega))
  have HS6 := Lib.hid (Mid.below HS5.out hb (by have q2 := HZ2.out; omega) (by have q2 := HZ2.out; have q3 := HZ3.out; have q4 := HZ4.out; have q5 := HZ5.out; omega))
  have HLg_6 := Lib.hid ho
  clear ho hb
  have cxW_0 := HXW_0_6.out
  have cxg_0 := HXg_0_6.out
  go_wp2_with fail
  clear cxW_0 cxg_0
  refine (held_Squares HLg_6.out.reads (by omega) (by omega)).mono ?_
  rintro e W7 ⟨rfl, hb⟩
  have HZ7 := Lib.hid hb.size
  have HB7 := Lib.hid ((HB6.out).trans (hb.mono (HB6.out).size))
  have HS7 := Lib.hid (HS6.out.trans (hb.mono HS6.out.size))
  have HLg_7 := Lib.hid (HLg_6.out.below hb)
  have HXW_0_7 := Lib.hid ((hb.cell (p := ⟨W1.heap.size, 0, none⟩) HXSW_6.out).trans HXW_0_6.out)
  have HXSW_7 := Lib.hid (Nat.lt_of_lt_of_le HXSW_6.out hb.size)
  have HXg_0_7 := Lib.hid ((hb.cell (p := ⟨W3.heap.size, 0, none⟩) HXSg_6.out).trans HXg_0_6.out)
  have HXSg_7 := Lib.hid (Nat.lt_of_lt_of_le HXSg_6.out hb.size)
  clear hb
  have cxW_0 := HXW_0_7.out
  have cxg_0 := HXg_0_7.out
  go_wp2_with fail
  clear cxW_0 cxg_0
  refine (impl_ParseSquares l _ hl (HLW.out.below HB7.out)).mono ?_
  rintro e W8 ⟨Ah, nh, ch, vh, rfl, ho, hb⟩
  have HZ8 := Lib.hid hb.size
  have HB8 := Lib.hid ((HB7.out).trans (hb.mono (HB7.out).size))
  have HS8 := Lib.hid (HS7.out.trans (hb.mono HS7.out.size))
  have HLg_8 := Lib.hid (HLg_7.out.below hb)
  have HXW_0_8 := Lib.hid ((hb.cell (p := ⟨W1.heap.size, 0, none⟩) HXSW_7.out).trans HXW_0_7.out)
  have HXSW_8 := Lib.hid (Nat.lt_of_lt_of_le HXSW_7.out hb.size)
  have HXg_0_8 := Lib.hid ((hb.cell (p := ⟨W3.heap.size, 0, none⟩) HXSg_7.out).trans HXg_0_7.out)
  have HXSg_8 := Lib.hid (Nat.lt_of_lt_of_le HXSg_7.out hb.size)
  clear hb
  have HLh_8 := Lib.hid ho
  clear ho
  have HTh := Lib.hid HLh_8.out.ins
  obtain rfl : nh = ng := by rw [← HLh_8.out.len, HRW.out.len]
  have hb := box_below W8 (.cells #[.slice Ah nh ch] 24)
  have HXh_0_9 := Lib.hid (show (W8.alloc (.cells #[.slice Ah nh ch] 24)).cell? ⟨W8.heap.size, 0, none⟩ = some (.slice Ah nh ch) by rw [World.cell?_alloc_at _ _ _ _ rfl]; rfl)
  have HXSh_9 := Lib.hid (show W8.heap.size < (W8.alloc (.cells #[.slice Ah nh ch] 24)).heap.size by simp)
  have HZ9 := Lib.hid hb.size
  have HB9 := Lib.hid ((HB8.out).trans (hb.mono (HB8.out).size))
  have HS9 := Lib.hid (HS8.out.trans (hb.mono HS8.out.size))
  have HLg_9 := Lib.hid (HLg_8.out.below hb)
  have HLh_9 := Lib.hid (HLh_8.out.below hb)
  have HXW_0_9 := Lib.hid ((hb.cell (p := ⟨W1.heap.size, 0, none⟩) HXSW_8.out).trans HXW_0_8.out)
  have HXSW_9 := Lib.hid (Nat.lt_of_lt_of_le HXSW_8.out hb.size)
  have HXg_0_9 := Lib.hid ((hb.cell (p := ⟨W3.heap.size, 0, none⟩) HXSg_8.out).trans HXg_0_8.out)
  have HXSg_9 := Lib.hid (Nat.lt_of_lt_of_le HXSg_8.out hb.size)
  clear hb
  have cxW_0 := HXW_0_9.out
  have cxg_0 := HXg_0_9.out
  have cxh_0 := HXh_0_9.out
  go_wp2_with fail
  clear cxW_0 cxg_0 cxh_0
  generalize (W8.alloc (.cells #[.slice Ah nh ch] 24)) = W9 at *
  refine (eq_Squares HLh_9.out.reads (HRW.out.below HS9.out)).mono ?_
  rintro e W10 ⟨rfl, hb⟩
  have HZ10 := Lib.hid hb.size
  have HB10 := Lib.hid ((HB9.out).trans (hb.mono (HB9.out).size))
  have HS10 := Lib.hid (HS9.out.trans (hb.mono HS9.out.size))
  have HLg_10 := Lib.hid (HLg_9.out.below hb)
  have HLh_10 := Lib.hid (HLh_9.out.below hb)
  have HXW_0_10 := Lib.hid ((hb.cell (p := ⟨W1.heap.size, 0, none⟩) HXSW_9.out).trans HXW_0_9.out)
  have HXSW_10 := Lib.hid (Nat.lt_of_lt_of_le HXSW_9.out hb.size)
  have HXg_0_10 := Lib.hid ((hb.cell (p := ⟨W3.heap.size, 0, none⟩) HXSg_9.out).trans HXg_0_9.out)
  have HXSg_10 := Lib.hid (Nat.lt_of_lt_of_le HXSg_9.out hb.size)
  have HXh_0_10 := Lib.hid ((hb.cell (p := ⟨W8.heap.size, 0, none⟩) HXSh_9.out).trans HXh_0_9.out)
  have HXSh_10 := Lib.hid (Nat.lt_of_lt_of_le HXSh_9.out hb.size)
  clear hb
  have cxW_0 := HXW_0_10.out
  have cxg_0 := HXg_0_10.out
  have cxh_0 := HXh_0_10.out
  go_wp2_with fail
  clear cxW_0 cxg_0 cxh_0
  refine (held_Squares HLg_10.out.reads (by omega) (by omega)).mono ?_
  rintro e W11 ⟨rfl, hb⟩
  have HZ11 := Lib.hid hb.size
  have HB11 := Lib.hid ((HB10.out).trans (hb.mono (HB10.out).size))
  have HS11 := Lib.hid (HS10.out.trans (hb.mono HS10.out.size))
  have HLg_11 := Lib.hid (HLg_10.out.below hb)
  have HLh_11 := Lib.hid (HLh_10.out.below hb)
  have HXW_0_11 := Lib.hid ((hb.cell (p := ⟨W1.heap.size, 0, none⟩) HXSW_10.out).trans HXW_0_10.out)
  have HXSW_11 := Lib.hid (Nat.lt_of_lt_of_le HXSW_10.out hb.size)
  have HXg_0_11 := Lib.hid ((hb.cell (p := ⟨W3.heap.size, 0, none⟩) HXSg_10.out).trans HXg_0_10.out)
  have HXSg_11 := Lib.hid (Nat.lt_of_lt_of_le HXSg_10.out hb.size)
  have HXh_0_11 := Lib.hid ((hb.cell (p := ⟨W8.heap.size, 0, none⟩) HXSh_10.out).trans HXh_0_10.out)
  have HXSh_11 := Lib.hid (Nat.lt_of_lt_of_le HXSh_10.out hb.size)
  clear hb
  have cxW_0 := HXW_0_11.out
  have cxg_0 := HXg_0_11.out
  have cxh_0 := HXh_0_11.out
  go_wp2
  go_ret
  exact ⟨rfl, HB11.out⟩

set_option maxRecDepth 100000 in
theorem lifted (os : Os) (started : os.Started) (H : Type) (enc : TypeId × Value → H) :
    ReturnsInHanded {} Tryd.checked os 3 .any (fun w args => (Rows.fnExactParseSquaresSpec.pre enc Tryd.prog Tryd.f3 [] false w args ∧ laidMetH Tryd.prog Rows.fnExactParseSquaresRow.laid w) ∧ sizedMet enc Tryd.prog Tryd.f3 (OpenSpec.ofChange Rows.fnExactParseSquaresSpec) false w args)
      (Rows.fnExactParseSquaresSpec.post enc Tryd.prog Tryd.f3 false true false false) := by
  refine handed_and_shaped (C := Tryd.checked) (X := fun w _ => laidMetH Tryd.prog Rows.fnExactParseSquaresRow.laid w) (fun _ _ _ hh h => h.of_heap hh) own started (by kernel_rfl) Tryd.func3
    (ChangeSpec.witness_shaped (enc := enc) (C := Tryd.checked) (os := os) (X := fun w _ => laidMetH Tryd.prog Rows.fnExactParseSquaresRow.laid w) false (World.laidAll Tryd.prog os Rows.fnExactParseSquaresRow.laid) #[.string ⟨#[]⟩] 8 (World.laidAll_os _ _ _)
      (World.shaped_of_ZipB (by kernel_rfl) (by kernel_rfl)) (by kernel_rfl) (by kernel_rfl) (by kernel_rfl)
      (by rw [MakeChecks.laidMetH_plain _ _ _ (by kernel_rfl)]; exact laidMet_laidAll _ (by kernel_rfl) (by kernel_rfl))) ?_
  intro W base args ds gs before hval0 hW hL hsh
  have hval : ∀ (j : Nat) t v, Tryd.f3.params[j]? = some t → args[j]? = some v → Value.okWide Tryd.prog W .any base t v := hval0
  have hW' := hW
  obtain ⟨p, q, hA0, hV, rfl, hfz, hnd⟩ := hW
  have hA : DataW.TrodAll enc Tryd.prog W 0 (fun _ => true) true Tryd.f3.params.toList args.toList ds p := hA0
  rw [Tryd.params3] at hA hval
  obtain ⟨v0, vs0, d0, ds0, p0, q0, hargs, rfl, rfl, h0, r0⟩ := trodAll_cons hA
  obtain ⟨rfl, rfl, rfl⟩ := trodAll_nil r0
  obtain rfl : args = #[v0] := by cases args; simp_all
  obtain ⟨rfl, rfl⟩ := trodVars_none hV
  obtain ⟨s0, rfl, rfl, rfl, w0⟩ := open_string Tryd.underlying9 (hval 0 9 v0 rfl rfl) h0
  have hlw := lw_of_laid hL hsh
  clear hA0 hval0
  simp only [List.append_nil] at hW'
  refine (walk s0.data.toList W hlw).mono fun e W' ⟨he, bel⟩ => ?_
  subst he
  exact ⟨_, rfl, _, _, _, [], _, [], hW', trodAll_mk1 (shut_bool Tryd.underlying4 _), (trodAll_cons_mk (shut_string Tryd.underlying9 w0) trodAll_mk0), rfl, bel.frame _, fun h => by cases h⟩

theorem closed : joinedFacts Tryd.prog 3 Tryd.f3 Rows.fnExactParseSquaresSpec Rows.fnExactParseSquaresRow = true := by
  unfold joinedFacts
  rw [mayEnter_eq, liftsFinal_eq, make_eq]
  kernel_rfl


theorem over : Rows.fnExactParseSquaresRow.holds Tryd.pinned (OpenSpec.ofChange Rows.fnExactParseSquaresSpec) :=
  OpenClaim.holds_of_wide 3 Tryd.f3 rfl rfl rfl rfl rfl rfl rfl ⟨rfl, rfl, rfl, rfl, rfl⟩ rfl rfl rfl rfl rfl (by kernel_rfl) Tryd.func3 closed
    (of_decide_eq_true (by kernel_rfl)) (by unfold Func.isWrapper; first | (rw [if_pos (by decide +kernel)]; kernel_rfl) | (rw [if_neg (by decide +kernel)]; exact ⟨rfl, rfl⟩))
    (fun os started H enc _ => lifted os started H enc)

theorem row_holds : Rows.FnExactParseSquaresSaid := over

theorem proved : Rows.FnExactParseSquaresCardSaid :=
  Claim7.holds_tied_plain_at .later [] [.data, .data, .data, .data, .sentinel, .sentinel, .pinned] true Rows.fnExactParseSquaresCard.stood.harness true
    row_holds (fun _ h => by cases h) (by kernel_rfl) (fun _ h => by cases h) fnExactParseSquares_row_tie rfl ⟨rfl, rfl⟩ (by kernel_rfl) rfl
    (fun f fn hf hfn => by
      obtain rfl : f = 3 := Option.some.inj ((show Tryd.prog.funcNamed "loop.example/g01154/laws.FnExactParseSquares" = some 3 by kernel_rfl).symm.trans hf) |>.symm
      obtain rfl : fn = Tryd.f3 := (Option.some.inj (Tryd.func3.symm.trans hfn)).symm
      exact ⟨by kernel_rfl, fun j t ht => by
        rw [Tryd.params3] at ht
        have hm : t ∈ [9] := by simpa using Array.mem_of_getElem? ht
        have hall : ([9].all fun u => !Tryd.prog.wantsStandIn u) = true := by kernel_rfl
        exact (show Tryd.prog.wantsStandIn t = false by simpa using List.all_eq_true.1 hall t hm)⟩)
    (by kernel_rfl)
#print axioms proved
end Go.Proofs.YtijdlejngdhpjaaDoor.fnExactParseSquares
