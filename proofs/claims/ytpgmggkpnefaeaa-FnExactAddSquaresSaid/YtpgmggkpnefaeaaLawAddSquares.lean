/- The statement on FnExactAddSquares: for every input the call returns true, and each argument reads behind the call as it read before. No condition. The frame is written by a program of this repo after the kit's shell. -/
import Derived.Test.YtpgmggkpnefaeaaAddS
import Derived.Test.YtpgmggkpnefaeaaKit3
import Derived.Test.YtpgmggkpnefaeaaFrm
import Derived.Test.YtpgmggkpnefaeaaRows
import Derived.WalkKit
import Derived.ProofKit
import Derived.OpenShut
import Derived.ShutString
import Derived.ChangeOld
import Derived.Below
import Derived.Lib.SmallJoins
import Derived.Deep.RegionHeld3
import Derived.Deep.RegionWith
namespace Go.Proofs.Ytpgmggkpnefaeaa.fnExactAddSquares
open Go.Joins Go.ChangeShapes Go.WideShapes Go.ChangeAt Go.RowKit
open Go.ChangeMaps (open_string shut_string)
set_option linter.unusedVariables false

theorem own : ownKnob Try.prog.godebug = none := by kernel_rfl
theorem laidOut : laidOutB Try.prog = true := by kernel_rfl

set_option maxRecDepth 100000 in
set_option maxHeartbeats 8000000 in
theorem walk (A0 : Option Addr) (n0 c0 : Nat) (V0 : List Sl) (X0 : List (List Int)) (A1 : Option Addr) (n1 c1 : Nat) (V1 : List Sl) (X1 : List (List Int)) (w : World) (r0 : RS w A0 n0 V0 X0) (r1 : RS w A1 n1 V1 X1) :
    Calls Try.prog 12 #[.agg #[.slice A0 n0 c0], .agg #[.slice A1 n1 c1]] w fun e w' => e = .returned (.bool true) ∧ Below w.heap.size w w' := by
  have hbox : Below w.heap.size w ((w.alloc (.cells #[.slice A0 n0 c0] 29)).alloc (.cells #[.slice A1 n1 c1] 29)) := ((Below.refl w.heap.size w).alloc (Nat.le_refl _) _).alloc (by simp) _
  have HX0_0 := Lib.hid (show ((w.alloc (.cells #[.slice A0 n0 c0] 29)).alloc (.cells #[.slice A1 n1 c1] 29)).cell? ⟨w.heap.size, 0, none⟩ = some (.slice A0 n0 c0) by
    have h1 : (w.alloc (.cells #[.slice A0 n0 c0] 29)).cell? ⟨w.heap.size, 0, none⟩ = some (.slice A0 n0 c0) := by rw [World.cell?_alloc_at _ _ _ _ (by simp)]; rfl
    have h1 := ((box_below (w.alloc (.cells #[.slice A0 n0 c0] 29)) (.cells #[.slice A1 n1 c1] 29)).cell (p := ⟨w.heap.size, 0, none⟩) (by simp)).trans h1
    exact h1)
  have HXS0 := Lib.hid (show w.heap.size < ((w.alloc (.cells #[.slice A0 n0 c0] 29)).alloc (.cells #[.slice A1 n1 c1] 29)).heap.size by first | (simp; done) | (simp; omega))
  have HX1_0 := Lib.hid (show ((w.alloc (.cells #[.slice A0 n0 c0] 29)).alloc (.cells #[.slice A1 n1 c1] 29)).cell? ⟨w.heap.size + 1, 0, none⟩ = some (.slice A1 n1 c1) by
    have h1 : ((w.alloc (.cells #[.slice A0 n0 c0] 29)).alloc (.cells #[.slice A1 n1 c1] 29)).cell? ⟨w.heap.size + 1, 0, none⟩ = some (.slice A1 n1 c1) := by rw [World.cell?_alloc_at _ _ _ _ (by simp)]; rfl
    exact h1)
  have HXS1 := Lib.hid (show w.heap.size + 1 < ((w.alloc (.cells #[.slice A0 n0 c0] 29)).alloc (.cells #[.slice A1 n1 c1] 29)).heap.size by first | (simp; done) | (simp; omega))
  have HB00 := Lib.hid hbox
  have HR0 := Lib.hid (r0.below hbox)
  have S0 := r0.small
  clear r0
  have HR1 := Lib.hid (r1.below hbox)
  have S1 := r1.small
  clear r1
  clear hbox
  by_cases hn0 : (n0 + tot X0) ≤ 1048576
  rotate_left
  · go_enter Try.func12, Try.ntmps12
    go_wp2_with fail
    generalize ((w.alloc (.cells #[.slice A0 n0 c0] 29)).alloc (.cells #[.slice A1 n1 c1] 29)) = W0 at *
    refine (szno_Squares (HR0.out.below (Below.refl W0.heap.size W0)) ?_).mono ?_
    · omega
    rintro e W1 ⟨rfl, hb⟩
    have HZ1 := Lib.hid hb.size
    have HB1 := Lib.hid ((Below.refl W0.heap.size W0).trans (hb.mono (Below.refl W0.heap.size W0).size))
    have HX0_0_1 := Lib.hid ((hb.cell (p := ⟨w.heap.size, 0, none⟩) HXS0.out).trans HX0_0.out)
    have HXS0_1 := Lib.hid (Nat.lt_of_lt_of_le HXS0.out hb.size)
    have HX1_0_1 := Lib.hid ((hb.cell (p := ⟨w.heap.size + 1, 0, none⟩) HXS1.out).trans HX1_0.out)
    have HXS1_1 := Lib.hid (Nat.lt_of_lt_of_le HXS1.out hb.size)
    clear hb
    go_wp2
    go_ret
    exact ⟨rfl, HB00.out.trans ((HB1.out).mono HB00.out.size)⟩
  by_cases hn1 : (n0 + tot X0) + (n1 + tot X1) ≤ 1048576
  rotate_left
  · go_enter Try.func12, Try.ntmps12
    go_wp2_with fail
    generalize ((w.alloc (.cells #[.slice A0 n0 c0] 29)).alloc (.cells #[.slice A1 n1 c1] 29)) = W0 at *
    refine (sz_Squares (HR0.out.below (Below.refl W0.heap.size W0)) ?_).mono ?_
    · omega
    rintro e W1 ⟨rfl, hb⟩
    have HZ1 := Lib.hid hb.size
    have HB1 := Lib.hid ((Below.refl W0.heap.size W0).trans (hb.mono (Below.refl W0.heap.size W0).size))
    have HX0_0_1 := Lib.hid ((hb.cell (p := ⟨w.heap.size, 0, none⟩) HXS0.out).trans HX0_0.out)
    have HXS0_1 := Lib.hid (Nat.lt_of_lt_of_le HXS0.out hb.size)
    have HX1_0_1 := Lib.hid ((hb.cell (p := ⟨w.heap.size + 1, 0, none⟩) HXS1.out).trans HX1_0.out)
    have HXS1_1 := Lib.hid (Nat.lt_of_lt_of_le HXS1.out hb.size)
    clear hb
    have cx0_0 := HX0_0_1.out
    have cx1_0 := HX1_0_1.out
    go_wp2_with fail
    clear cx0_0 cx1_0
    refine (szno_Squares (HR1.out.below (HB1.out)) ?_).mono ?_
    · omega
    rintro e W2 ⟨rfl, hb⟩
    have HZ2 := Lib.hid hb.size
    have HB2 := Lib.hid ((HB1.out).trans (hb.mono (HB1.out).size))
    have HX0_0_2 := Lib.hid ((hb.cell (p := ⟨w.heap.size, 0, none⟩) HXS0_1.out).trans HX0_0_1.out)
    have HXS0_2 := Lib.hid (Nat.lt_of_lt_of_le HXS0_1.out hb.size)
    have HX1_0_2 := Lib.hid ((hb.cell (p := ⟨w.heap.size + 1, 0, none⟩) HXS1_1.out).trans HX1_0_1.out)
    have HXS1_2 := Lib.hid (Nat.lt_of_lt_of_le HXS1_1.out hb.size)
    clear hb
    go_wp2
    go_ret
    exact ⟨rfl, HB00.out.trans ((HB2.out).mono HB00.out.size)⟩
  go_enter Try.func12, Try.ntmps12
  go_wp2_with fail
  generalize ((w.alloc (.cells #[.slice A0 n0 c0] 29)).alloc (.cells #[.slice A1 n1 c1] 29)) = W0 at *
  refine (sz_Squares (HR0.out.below (Below.refl W0.heap.size W0)) ?_).mono ?_
  · omega
  rintro e W1 ⟨rfl, hb⟩
  have HZ1 := Lib.hid hb.size
  have HB1 := Lib.hid ((Below.refl W0.heap.size W0).trans (hb.mono (Below.refl W0.heap.size W0).size))
  have HX0_0_1 := Lib.hid ((hb.cell (p := ⟨w.heap.size, 0, none⟩) HXS0.out).trans HX0_0.out)
  have HXS0_1 := Lib.hid (Nat.lt_of_lt_of_le HXS0.out hb.size)
  have HX1_0_1 := Lib.hid ((hb.cell (p := ⟨w.heap.size + 1, 0, none⟩) HXS1.out).trans HX1_0.out)
  have HXS1_1 := Lib.hid (Nat.lt_of_lt_of_le HXS1.out hb.size)
  clear hb
  have cx0_0 := HX0_0_1.out
  have cx1_0 := HX1_0_1.out
  go_wp2_with fail
  clear cx0_0 cx1_0
  refine (sz_Squares (HR1.out.below (HB1.out)) ?_).mono ?_
  · omega
  rintro e W2 ⟨rfl, hb⟩
  have HZ2 := Lib.hid hb.size
  have HB2 := Lib.hid ((HB1.out).trans (hb.mono (HB1.out).size))
  have HX0_0_2 := Lib.hid ((hb.cell (p := ⟨w.heap.size, 0, none⟩) HXS0_1.out).trans HX0_0_1.out)
  have HXS0_2 := Lib.hid (Nat.lt_of_lt_of_le HXS0_1.out hb.size)
  have HX1_0_2 := Lib.hid ((hb.cell (p := ⟨w.heap.size + 1, 0, none⟩) HXS1_1.out).trans HX1_0_1.out)
  have HXS1_2 := Lib.hid (Nat.lt_of_lt_of_le HXS1_1.out hb.size)
  clear hb
  have cx0_0 := HX0_0_2.out
  have cx1_0 := HX1_0_2.out
  go_wp2_with fail
  clear cx0_0 cx1_0
  go_cut [6, 7] (fun sb sc wx => ∃ (gW : Nat) (AW : Option Addr) (nW cW : Nat) (vW : List Sl), sb = .pointer (some ⟨gW, 0, none⟩) ∧ sc = .int .i64 (pAddSquares X0 X1).2 ∧ BoxS 34 W2 wx gW AW nW cW vW (pAddSquares X0 X1).1)
  case first =>
    have cx0_0 := HX0_0_2.out
    have cx1_0 := HX1_0_2.out
    go_region_held3 (fun w' => w'.cell? ⟨w.heap.size, 0, none⟩ = some (.slice A0 n0 c0) ∧ w'.cell? ⟨w.heap.size + 1, 0, none⟩ = some (.slice A1 n1 c1)) (first | go_keep | exact ⟨(by repeat (first | assumption | refine keep_set ?_ (by first | exact HXS0_5.out | exact HXS0_4.out | exact HXS0_3.out | exact HXS0_2.out | exact HXS0_1.out | exact HXS0.out) | refine keep_alloc ?_ (by first | exact HXS0_5.out | exact HXS0_4.out | exact HXS0_3.out | exact HXS0_2.out | exact HXS0_1.out | exact HXS0.out))), (by repeat (first | assumption | refine keep_set ?_ (by first | exact HXS1_5.out | exact HXS1_4.out | exact HXS1_3.out | exact HXS1_2.out | exact HXS1_1.out | exact HXS1.out) | refine keep_alloc ?_ (by first | exact HXS1_5.out | exact HXS1_4.out | exact HXS1_3.out | exact HXS1_2.out | exact HXS1_1.out | exact HXS1.out)))⟩) ((first | (go_at_call_of 21 A0; refine (to_Squares (HR0.out.below (Below.trans (HB2.out) (Below.mono (show Below W2.heap.size W2 _ by repeat (first | exact Below.refl _ _ | refine below_drewN ?_ _ | refine Below.drew ?_ | refine Below.alloc ?_ (by first | exact Nat.le_refl _ | (simp; done) | (simp; omega)) _)) (HB2.out).size))) (by omega)).mono ?_; rintro e W3 ⟨Gu0, Vu0, rfl, ho, hb0⟩; have hb : Below W2.heap.size W2 W3 := Below.trans (by repeat (first | exact Below.refl _ _ | refine below_drewN ?_ _ | refine Below.drew ?_ | refine Below.alloc ?_ (by first | exact Nat.le_refl _ | (simp; done) | (simp; omega)) _)) (Below.mono hb0 (by first | exact Nat.le_refl _ | exact Nat.le_succ _ | (simp; done) | (simp; omega))); have ho2 : OwnS W3 W2.heap.size (some ⟨Gu0, 0, none⟩) n0 n0 Vu0 X0 := ho.mono (by first | exact Nat.le_refl _ | exact Nat.le_succ _ | (simp; done) | (simp; omega)); (try (have kb0 := Lib.hid (Blk.below (by exact Blk.new W2 #[.slice none 0 0] 34) hb0))); (try (have qb0 := Lib.hid (Below.refl W2.heap.size W2).size)); (try (have lb0_3 := Lib.hid kb0.out.lt)); (try (have fb0_0 := kb0.out.free 0)); (try (have eb0_0 := kb0.out.cell 0 rfl)); clear hb0 ho; clear cx0_0 cx1_0; have HC3 := Lib.hid ((Below.refl W2.heap.size W2).trans (hb.mono (Below.refl W2.heap.size W2).size)); have HZ3 := Lib.hid hb.size; have HB3 := Lib.hid ((HB2.out).trans (hb.mono (HB2.out).size)); have HX0_0_3 := Lib.hid ((hb.cell (p := ⟨w.heap.size, 0, none⟩) HXS0_2.out).trans HX0_0_2.out); have HXS0_3 := Lib.hid (Nat.lt_of_lt_of_le HXS0_2.out hb.size); have HX1_0_3 := Lib.hid ((hb.cell (p := ⟨w.heap.size + 1, 0, none⟩) HXS1_2.out).trans HX1_0_2.out); have HXS1_3 := Lib.hid (Nat.lt_of_lt_of_le HXS1_2.out hb.size); clear hb; have HLu0_3 := Lib.hid ho2; clear ho2; have HTu0 := Lib.hid HLu0_3.out.ins; have cx0_0 := HX0_0_3.out; have cx1_0 := HX1_0_3.out) | (go_at_call_of 21 A1; refine (to_Squares (HR1.out.below (Below.trans (HB3.out) (Below.mono (show Below W3.heap.size W3 _ by repeat (first | exact Below.refl _ _ | refine below_drewN ?_ _ | refine Below.drew ?_ | refine Below.alloc ?_ (by first | exact Nat.le_refl _ | (simp; done) | (simp; omega)) _)) (HB3.out).size))) (by omega)).mono ?_; rintro e W4 ⟨Gu1, Vu1, rfl, ho, hb0⟩; have hb : Below W3.heap.size W3 W4 := Below.trans (by repeat (first | exact Below.refl _ _ | refine below_drewN ?_ _ | refine Below.drew ?_ | refine Below.alloc ?_ (by first | exact Nat.le_refl _ | (simp; done) | (simp; omega)) _)) (Below.mono hb0 (by first | exact Nat.le_refl _ | exact Nat.le_succ _ | (simp; done) | (simp; omega))); have ho2 : OwnS W4 W3.heap.size (some ⟨Gu1, 0, none⟩) n1 n1 Vu1 X1 := ho.mono (by first | exact Nat.le_refl _ | exact Nat.le_succ _ | (simp; done) | (simp; omega)); (try (have kb0 := Lib.hid (Blk.below (by exact kb0.out) hb0))); (try (have kb1 := Lib.hid (Blk.below (by exact Blk.new W3 #[.slice none 0 0] 34) hb0))); (try (have qb1 := Lib.hid (HC3.out).size)); (try (have lb0_4 := Lib.hid kb0.out.lt)); (try (have lb1_4 := Lib.hid kb1.out.lt)); (try (have fb0_0 := kb0.out.free 0)); (try (have eb0_0 := kb0.out.cell 0 rfl)); (try (have fb1_0 := kb1.out.free 0)); (try (have eb1_0 := kb1.out.cell 0 rfl)); clear hb0 ho; clear cx0_0 cx1_0; have HC4 := Lib.hid ((HC3.out).trans (hb.mono (HC3.out).size)); have HZ4 := Lib.hid hb.size; have HB4 := Lib.hid ((HB3.out).trans (hb.mono (HB3.out).size)); have HLu0_4 := Lib.hid (HLu0_3.out.below hb); have HX0_0_4 := Lib.hid ((hb.cell (p := ⟨w.heap.size, 0, none⟩) HXS0_3.out).trans HX0_0_3.out); have HXS0_4 := Lib.hid (Nat.lt_of_lt_of_le HXS0_3.out hb.size); have HX1_0_4 := Lib.hid ((hb.cell (p := ⟨w.heap.size + 1, 0, none⟩) HXS1_3.out).trans HX1_0_3.out); have HXS1_4 := Lib.hid (Nat.lt_of_lt_of_le HXS1_3.out hb.size); clear hb; have HLu1_4 := Lib.hid ho2; clear ho2; have HTu1 := Lib.hid HLu1_4.out.ins; have cx0_0 := HX0_0_4.out; have cx1_0 := HX1_0_4.out) | (go_at_call 54; refine (spec_AddSquares (a := X0) (b := X1) (HLu0_4.out.reads.below (by repeat (first | exact Below.refl _ _ | refine below_drewN ?_ _ | refine Below.drew ?_ | refine Below.alloc ?_ (by first | exact Nat.le_refl _ | (simp; done) | (simp; omega)) _))) (by omega) (HLu1_4.out.reads.below (by repeat (first | exact Below.refl _ _ | refine below_drewN ?_ _ | refine Below.drew ?_ | refine Below.alloc ?_ (by first | exact Nat.le_refl _ | (simp; done) | (simp; omega)) _))) (by omega)).mono ?_; rintro e W5 ⟨AW, nW, cW, vW, rfl, ho, hb0⟩; have hb : Below W4.heap.size W4 W5 := Below.trans (by repeat (first | exact Below.refl _ _ | refine below_drewN ?_ _ | refine Below.drew ?_ | refine Below.alloc ?_ (by first | exact Nat.le_refl _ | (simp; done) | (simp; omega)) _)) (Below.mono hb0 (by first | exact Nat.le_refl _ | exact Nat.le_succ _ | (simp; done) | (simp; omega))); (try (have kb0 := Lib.hid (Blk.below (by exact kb0.out) hb0))); (try (have kb1 := Lib.hid (Blk.below (by exact kb1.out) hb0))); (try (have kb2 := Lib.hid (Blk.below (by exact Blk.new W4 #[.slice none 0 0] 34) hb0))); (try (have qb2 := Lib.hid (HC4.out).size)); (try (have lb0_5 := Lib.hid kb0.out.lt)); (try (have lb1_5 := Lib.hid kb1.out.lt)); (try (have lb2_5 := Lib.hid kb2.out.lt)); (try (have fb0_0 := kb0.out.free 0)); (try (have eb0_0 := kb0.out.cell 0 rfl)); (try (have fb1_0 := kb1.out.free 0)); (try (have eb1_0 := kb1.out.cell 0 rfl)); (try (have fb2_0 := kb2.out.free 0)); (try (have eb2_0 := kb2.out.cell 0 rfl)); have ho2 : OwnS W5 W4.heap.size AW nW cW vW (pAddSquares X0 X1).1 := ho.mono (by first | exact Nat.le_refl _ | exact Nat.le_succ _ | (simp; done) | (simp; omega)); have HO0 := Lib.hid ho; clear ho; clear hb0; clear cx0_0 cx1_0; have HC5 := Lib.hid ((HC4.out).trans (hb.mono (HC4.out).size)); have HZ5 := Lib.hid hb.size; have HB5 := Lib.hid ((HB4.out).trans (hb.mono (HB4.out).size)); have HLu0_5 := Lib.hid (HLu0_4.out.below hb); have HLu1_5 := Lib.hid (HLu1_4.out.below hb); have HX0_0_5 := Lib.hid ((hb.cell (p := ⟨w.heap.size, 0, none⟩) HXS0_4.out).trans HX0_0_4.out); have HXS0_5 := Lib.hid (Nat.lt_of_lt_of_le HXS0_4.out hb.size); have HX1_0_5 := Lib.hid ((hb.cell (p := ⟨w.heap.size + 1, 0, none⟩) HXS1_4.out).trans HX1_0_4.out); have HXS1_5 := Lib.hid (Nat.lt_of_lt_of_le HXS1_4.out hb.size); clear hb; have HLW_5 := Lib.hid ho2; clear ho2; have HTW := Lib.hid HLW_5.out.ins; have cx0_0 := HX0_0_5.out; have cx1_0 := HX1_0_5.out)))
    all_goals (go_wp2_with fail; go_meet; first | exact ⟨_, AW, nW, cW, vW, rfl, rfl, BoxS.early kb0.out (by have := qb0.out; omega) HC5.out HO0.out (by first | exact lb0_4.out | (simp; done) | (simp; omega))⟩ | exact ⟨_, AW, nW, cW, vW, rfl, rfl, BoxS.early kb1.out (by have := qb1.out; omega) HC5.out HO0.out (by first | exact lb1_4.out | (simp; done) | (simp; omega))⟩ | exact ⟨_, AW, nW, cW, vW, rfl, rfl, BoxS.early kb2.out (by have := qb2.out; omega) HC5.out HO0.out (by first | exact lb2_4.out | (simp; done) | (simp; omega))⟩ | exact ⟨_, AW, nW, cW, vW, rfl, rfl, BoxS.last HC5.out (HO0.out.mono (by first | exact HC4.out.size | (simp; done) | omega))⟩)
  obtain ⟨gW, AW, nW, cW, vW, rfl, rfl, hbox2⟩ := hcut
  have hb := hbox2.bel
  have hgl := hbox2.lt
  have hgg := hbox2.ge
  generalize wc = W3 at *
  have HXW_0_3 := Lib.hid (hbox2.blk.cell 0 rfl)
  have HXSW_3 := Lib.hid hgl
  have HXGW := Lib.hid hgg
  have HLW_3 := Lib.hid hbox2.own
  clear hgl hgg hbox2
  have HZ3 := Lib.hid hb.size
  have HB3 := Lib.hid ((HB2.out).trans (hb.mono (HB2.out).size))
  have HX0_0_3 := Lib.hid ((hb.cell (p := ⟨w.heap.size, 0, none⟩) HXS0_2.out).trans HX0_0_2.out)
  have HXS0_3 := Lib.hid (Nat.lt_of_lt_of_le HXS0_2.out hb.size)
  have HX1_0_3 := Lib.hid ((hb.cell (p := ⟨w.heap.size + 1, 0, none⟩) HXS1_2.out).trans HX1_0_2.out)
  have HXS1_3 := Lib.hid (Nat.lt_of_lt_of_le HXS1_2.out hb.size)
  clear hb
  have HTW := Lib.hid HLW_3.out.ins
  have HRW := Lib.hid HLW_3.out.reads
  have cx0_0 := HX0_0_3.out
  have cx1_0 := HX1_0_3.out
  have cxW_0 := HXW_0_3.out
  go_wp2_with fail
  clear cx0_0 cx1_0 cxW_0
  refine (to_Squares (HR0.out.below (HB3.out)) (by omega)).mono ?_
  rintro e W4 ⟨Gx0, Vx0, rfl, ho, hb⟩
  have HZ4 := Lib.hid hb.size
  have HB4 := Lib.hid ((HB3.out).trans (hb.mono (HB3.out).size))
  have HS4 := Lib.hid hb
  have HX0_0_4 := Lib.hid ((hb.cell (p := ⟨w.heap.size, 0, none⟩) HXS0_3.out).trans HX0_0_3.out)
  have HXS0_4 := Lib.hid (Nat.lt_of_lt_of_le HXS0_3.out hb.size)
  have HX1_0_4 := Lib.hid ((hb.cell (p := ⟨w.heap.size + 1, 0, none⟩) HXS1_3.out).trans HX1_0_3.out)
  have HXS1_4 := Lib.hid (Nat.lt_of_lt_of_le HXS1_3.out hb.size)
  have HXW_0_4 := Lib.hid ((hb.cell (p := ⟨gW, 0, none⟩) HXSW_3.out).trans HXW_0_3.out)
  have HXSW_4 := Lib.hid (Nat.lt_of_lt_of_le HXSW_3.out hb.size)
  clear hb
  have HLx0_4 := Lib.hid ho
  clear ho
  have HTx0 := Lib.hid HLx0_4.out.ins
  have hb := box_below W4 (.cells #[.slice (some ⟨Gx0, 0, none⟩) n0 n0] 34)
  have HXx0_0_5 := Lib.hid (show (W4.alloc (.cells #[.slice (some ⟨Gx0, 0, none⟩) n0 n0] 34)).cell? ⟨W4.heap.size, 0, none⟩ = some (.slice (some ⟨Gx0, 0, none⟩) n0 n0) by rw [World.cell?_alloc_at _ _ _ _ rfl]; rfl)
  have HXSx0_5 := Lib.hid (show W4.heap.size < (W4.alloc (.cells #[.slice (some ⟨Gx0, 0, none⟩) n0 n0] 34)).heap.size by simp)
  have HZ5 := Lib.hid hb.size
  have HB5 := Lib.hid ((HB4.out).trans (hb.mono (HB4.out).size))
  have HS5 := Lib.hid (HS4.out.trans (hb.mono HS4.out.size))
  have HLx0_5 := Lib.hid (HLx0_4.out.below hb)
  have HX0_0_5 := Lib.hid ((hb.cell (p := ⟨w.heap.size, 0, none⟩) HXS0_4.out).trans HX0_0_4.out)
  have HXS0_5 := Lib.hid (Nat.lt_of_lt_of_le HXS0_4.out hb.size)
  have HX1_0_5 := Lib.hid ((hb.cell (p := ⟨w.heap.size + 1, 0, none⟩) HXS1_4.out).trans HX1_0_4.out)
  have HXS1_5 := Lib.hid (Nat.lt_of_lt_of_le HXS1_4.out hb.size)
  have HXW_0_5 := Lib.hid ((hb.cell (p := ⟨gW, 0, none⟩) HXSW_4.out).trans HXW_0_4.out)
  have HXSW_5 := Lib.hid (Nat.lt_of_lt_of_le HXSW_4.out hb.size)
  clear hb
  have cx0_0 := HX0_0_5.out
  have cx1_0 := HX1_0_5.out
  have cxW_0 := HXW_0_5.out
  have cxx0_0 := HXx0_0_5.out
  go_wp2_with fail
  clear cx0_0 cx1_0 cxW_0 cxx0_0
  generalize (W4.alloc (.cells #[.slice (some ⟨Gx0, 0, none⟩) n0 n0] 34)) = W5 at *
  refine (to_Squares (HR1.out.below (HB5.out)) (by omega)).mono ?_
  rintro e W6 ⟨Gx1, Vx1, rfl, ho, hb⟩
  have HZ6 := Lib.hid hb.size
  have HB6 := Lib.hid ((HB5.out).trans (hb.mono (HB5.out).size))
  have HS6 := Lib.hid (HS5.out.trans (hb.mono HS5.out.size))
  have HLx0_6 := Lib.hid (HLx0_5.out.below hb)
  have HX0_0_6 := Lib.hid ((hb.cell (p := ⟨w.heap.size, 0, none⟩) HXS0_5.out).trans HX0_0_5.out)
  have HXS0_6 := Lib.hid (Nat.lt_of_lt_of_le HXS0_5.out hb.size)
  have HX1_0_6 := Lib.hid ((hb.cell (p := ⟨w.heap.size + 1, 0, none⟩) HXS1_5.out).trans HX1_0_5.out)
  have HXS1_6 := Lib.hid (Nat.lt_of_lt_of_le HXS1_5.out hb.size)
  have HXW_0_6 := Lib.hid ((hb.cell (p := ⟨gW, 0, none⟩) HXSW_5.out).trans HXW_0_5.out)
  have HXSW_6 := Lib.hid (Nat.lt_of_lt_of_le HXSW_5.out hb.size)
  have HXx0_0_6 := Lib.hid ((hb.cell (p := ⟨W4.heap.size, 0, none⟩) HXSx0_5.out).trans HXx0_0_5.out)
  have HXSx0_6 := Lib.hid (Nat.lt_of_lt_of_le HXSx0_5.out hb.size)
  clear hb
  have HLx1_6 := Lib.hid ho
  clear ho
  have HTx1 := Lib.hid HLx1_6.out.ins
  have hb := box_below W6 (.cells #[.slice (some ⟨Gx1, 0, none⟩) n1 n1] 34)
  have HXx1_0_7 := Lib.hid (show (W6.alloc (.cells #[.slice (some ⟨Gx1, 0, none⟩) n1 n1] 34)).cell? ⟨W6.heap.size, 0, none⟩ = some (.slice (some ⟨Gx1, 0, none⟩) n1 n1) by rw [World.cell?_alloc_at _ _ _ _ rfl]; rfl)
  have HXSx1_7 := Lib.hid (show W6.heap.size < (W6.alloc (.cells #[.slice (some ⟨Gx1, 0, none⟩) n1 n1] 34)).heap.size by simp)
  have HZ7 := Lib.hid hb.size
  have HB7 := Lib.hid ((HB6.out).trans (hb.mono (HB6.out).size))
  have HS7 := Lib.hid (HS6.out.trans (hb.mono HS6.out.size))
  have HLx0_7 := Lib.hid (HLx0_6.out.below hb)
  have HLx1_7 := Lib.hid (HLx1_6.out.below hb)
  have HX0_0_7 := Lib.hid ((hb.cell (p := ⟨w.heap.size, 0, none⟩) HXS0_6.out).trans HX0_0_6.out)
  have HXS0_7 := Lib.hid (Nat.lt_of_lt_of_le HXS0_6.out hb.size)
  have HX1_0_7 := Lib.hid ((hb.cell (p := ⟨w.heap.size + 1, 0, none⟩) HXS1_6.out).trans HX1_0_6.out)
  have HXS1_7 := Lib.hid (Nat.lt_of_lt_of_le HXS1_6.out hb.size)
  have HXW_0_7 := Lib.hid ((hb.cell (p := ⟨gW, 0, none⟩) HXSW_6.out).trans HXW_0_6.out)
  have HXSW_7 := Lib.hid (Nat.lt_of_lt_of_le HXSW_6.out hb.size)
  have HXx0_0_7 := Lib.hid ((hb.cell (p := ⟨W4.heap.size, 0, none⟩) HXSx0_6.out).trans HXx0_0_6.out)
  have HXSx0_7 := Lib.hid (Nat.lt_of_lt_of_le HXSx0_6.out hb.size)
  clear hb
  have cx0_0 := HX0_0_7.out
  have cx1_0 := HX1_0_7.out
  have cxW_0 := HXW_0_7.out
  have cxx0_0 := HXx0_0_7.out
  have cxx1_0 := HXx1_0_7.out
  go_wp2_with fail
  clear cx0_0 cx1_0 cxW_0 cxx0_0 cxx1_0
  generalize (W6.alloc (.cells #[.slice (some ⟨Gx1, 0, none⟩) n1 n1] 34)) = W7 at *
  refine (impl_AddSquares HLx0_7.out.reads (by omega) HLx1_7.out.reads (by omega)).mono ?_
  rintro e W8 ⟨Ag, ng, cg, vg, rfl, ho, hb⟩
  have HZ8 := Lib.hid hb.size
  have HB8 := Lib.hid ((HB7.out).trans (hb.mono (HB7.out).size))
  have HS8 := Lib.hid (HS7.out.trans (hb.mono HS7.out.size))
  have HLx0_8 := Lib.hid (HLx0_7.out.below hb)
  have HLx1_8 := Lib.hid (HLx1_7.out.below hb)
  have HX0_0_8 := Lib.hid ((hb.cell (p := ⟨w.heap.size, 0, none⟩) HXS0_7.out).trans HX0_0_7.out)
  have HXS0_8 := Lib.hid (Nat.lt_of_lt_of_le HXS0_7.out hb.size)
  have HX1_0_8 := Lib.hid ((hb.cell (p := ⟨w.heap.size + 1, 0, none⟩) HXS1_7.out).trans HX1_0_7.out)
  have HXS1_8 := Lib.hid (Nat.lt_of_lt_of_le HXS1_7.out hb.size)
  have HXW_0_8 := Lib.hid ((hb.cell (p := ⟨gW, 0, none⟩) HXSW_7.out).trans HXW_0_7.out)
  have HXSW_8 := Lib.hid (Nat.lt_of_lt_of_le HXSW_7.out hb.size)
  have HXx0_0_8 := Lib.hid ((hb.cell (p := ⟨W4.heap.size, 0, none⟩) HXSx0_7.out).trans HXx0_0_7.out)
  have HXSx0_8 := Lib.hid (Nat.lt_of_lt_of_le HXSx0_7.out hb.size)
  have HXx1_0_8 := Lib.hid ((hb.cell (p := ⟨W6.heap.size, 0, none⟩) HXSx1_7.out).trans HXx1_0_7.out)
  have HXSx1_8 := Lib.hid (Nat.lt_of_lt_of_le HXSx1_7.out hb.size)
  clear hb
  have HLg_8 := Lib.hid ho
  clear ho
  have HTg := Lib.hid HLg_8.out.ins
  obtain rfl : ng = nW := by rw [← HLg_8.out.len, HRW.out.len]
  have hb := box_below W8 (.cells #[.slice Ag ng cg] 34)
  have HXg_0_9 := Lib.hid (show (W8.alloc (.cells #[.slice Ag ng cg] 34)).cell? ⟨W8.heap.size, 0, none⟩ = some (.slice Ag ng cg) by rw [World.cell?_alloc_at _ _ _ _ rfl]; rfl)
  have HXSg_9 := Lib.hid (show W8.heap.size < (W8.alloc (.cells #[.slice Ag ng cg] 34)).heap.size by simp)
  have HZ9 := Lib.hid hb.size
  have HB9 := Lib.hid ((HB8.out).trans (hb.mono (HB8.out).size))
  have HS9 := Lib.hid (HS8.out.trans (hb.mono HS8.out.size))
  have HLx0_9 := Lib.hid (HLx0_8.out.below hb)
  have HLx1_9 := Lib.hid (HLx1_8.out.below hb)
  have HLg_9 := Lib.hid (HLg_8.out.below hb)
  have HX0_0_9 := Lib.hid ((hb.cell (p := ⟨w.heap.size, 0, none⟩) HXS0_8.out).trans HX0_0_8.out)
  have HXS0_9 := Lib.hid (Nat.lt_of_lt_of_le HXS0_8.out hb.size)
  have HX1_0_9 := Lib.hid ((hb.cell (p := ⟨w.heap.size + 1, 0, none⟩) HXS1_8.out).trans HX1_0_8.out)
  have HXS1_9 := Lib.hid (Nat.lt_of_lt_of_le HXS1_8.out hb.size)
  have HXW_0_9 := Lib.hid ((hb.cell (p := ⟨gW, 0, none⟩) HXSW_8.out).trans HXW_0_8.out)
  have HXSW_9 := Lib.hid (Nat.lt_of_lt_of_le HXSW_8.out hb.size)
  have HXx0_0_9 := Lib.hid ((hb.cell (p := ⟨W4.heap.size, 0, none⟩) HXSx0_8.out).trans HXx0_0_8.out)
  have HXSx0_9 := Lib.hid (Nat.lt_of_lt_of_le HXSx0_8.out hb.size)
  have HXx1_0_9 := Lib.hid ((hb.cell (p := ⟨W6.heap.size, 0, none⟩) HXSx1_8.out).trans HXx1_0_8.out)
  have HXSx1_9 := Lib.hid (Nat.lt_of_lt_of_le HXSx1_8.out hb.size)
  clear hb
  have cx0_0 := HX0_0_9.out
  have cx1_0 := HX1_0_9.out
  have cxW_0 := HXW_0_9.out
  have cxx0_0 := HXx0_0_9.out
  have cxx1_0 := HXx1_0_9.out
  have cxg_0 := HXg_0_9.out
  go_wp2_with fail
  clear cx0_0 cx1_0 cxW_0 cxx0_0 cxx1_0 cxg_0
  generalize (W8.alloc (.cells #[.slice Ag ng cg] 34)) = W9 at *
  refine (eq_Squares HLg_9.out.reads (HRW.out.below HS9.out)).mono ?_
  rintro e W10 ⟨rfl, hb⟩
  have HZ10 := Lib.hid hb.size
  have HB10 := Lib.hid ((HB9.out).trans (hb.mono (HB9.out).size))
  have HS10 := Lib.hid (HS9.out.trans (hb.mono HS9.out.size))
  have HLx0_10 := Lib.hid (HLx0_9.out.below hb)
  have HLx1_10 := Lib.hid (HLx1_9.out.below hb)
  have HLg_10 := Lib.hid (HLg_9.out.below hb)
  have HX0_0_10 := Lib.hid ((hb.cell (p := ⟨w.heap.size, 0, none⟩) HXS0_9.out).trans HX0_0_9.out)
  have HXS0_10 := Lib.hid (Nat.lt_of_lt_of_le HXS0_9.out hb.size)
  have HX1_0_10 := Lib.hid ((hb.cell (p := ⟨w.heap.size + 1, 0, none⟩) HXS1_9.out).trans HX1_0_9.out)
  have HXS1_10 := Lib.hid (Nat.lt_of_lt_of_le HXS1_9.out hb.size)
  have HXW_0_10 := Lib.hid ((hb.cell (p := ⟨gW, 0, none⟩) HXSW_9.out).trans HXW_0_9.out)
  have HXSW_10 := Lib.hid (Nat.lt_of_lt_of_le HXSW_9.out hb.size)
  have HXx0_0_10 := Lib.hid ((hb.cell (p := ⟨W4.heap.size, 0, none⟩) HXSx0_9.out).trans HXx0_0_9.out)
  have HXSx0_10 := Lib.hid (Nat.lt_of_lt_of_le HXSx0_9.out hb.size)
  have HXx1_0_10 := Lib.hid ((hb.cell (p := ⟨W6.heap.size, 0, none⟩) HXSx1_9.out).trans HXx1_0_9.out)
  have HXSx1_10 := Lib.hid (Nat.lt_of_lt_of_le HXSx1_9.out hb.size)
  have HXg_0_10 := Lib.hid ((hb.cell (p := ⟨W8.heap.size, 0, none⟩) HXSg_9.out).trans HXg_0_9.out)
  have HXSg_10 := Lib.hid (Nat.lt_of_lt_of_le HXSg_9.out hb.size)
  clear hb
  have cx0_0 := HX0_0_10.out
  have cx1_0 := HX1_0_10.out
  have cxW_0 := HXW_0_10.out
  have cxx0_0 := HXx0_0_10.out
  have cxx1_0 := HXx1_0_10.out
  have cxg_0 := HXg_0_10.out
  go_wp2_with fail
  go_region_held3 (fun w' => w'.cell? ⟨W4.heap.size, 0, none⟩ = some (.slice (some ⟨Gx0, 0, none⟩) n0 n0) ∧ w'.cell? ⟨w.heap.size, 0, none⟩ = some (.slice A0 n0 c0)) (first | go_keep | exact ⟨by assumption, by assumption⟩) ((first | (go_at_call 21; refine (to_Squares (HR0.out.below (by exact ⟨(HB10.out).os, (HB10.out).tape, (HB10.out).output, (HB10.out).size, (HB10.out).block⟩)) (by omega)).mono ?_; rintro e W11 ⟨Gy0, Vy0, rfl, ho, hb0⟩; have hb : Below W10.heap.size W10 W11 := ⟨hb0.os, hb0.tape, hb0.output, hb0.size, hb0.block⟩; clear hb0; clear cx0_0 cx1_0 cxW_0 cxx0_0 cxx1_0 cxg_0; have HZ11 := Lib.hid hb.size; have HB11 := Lib.hid ((HB10.out).trans (hb.mono (HB10.out).size)); have HS11 := Lib.hid (HS10.out.trans (hb.mono HS10.out.size)); have HLx0_11 := Lib.hid (HLx0_10.out.below hb); have HLx1_11 := Lib.hid (HLx1_10.out.below hb); have HLg_11 := Lib.hid (HLg_10.out.below hb); have HX0_0_11 := Lib.hid ((hb.cell (p := ⟨w.heap.size, 0, none⟩) HXS0_10.out).trans HX0_0_10.out); have HXS0_11 := Lib.hid (Nat.lt_of_lt_of_le HXS0_10.out hb.size); have HX1_0_11 := Lib.hid ((hb.cell (p := ⟨w.heap.size + 1, 0, none⟩) HXS1_10.out).trans HX1_0_10.out); have HXS1_11 := Lib.hid (Nat.lt_of_lt_of_le HXS1_10.out hb.size); have HXW_0_11 := Lib.hid ((hb.cell (p := ⟨gW, 0, none⟩) HXSW_10.out).trans HXW_0_10.out); have HXSW_11 := Lib.hid (Nat.lt_of_lt_of_le HXSW_10.out hb.size); have HXx0_0_11 := Lib.hid ((hb.cell (p := ⟨W4.heap.size, 0, none⟩) HXSx0_10.out).trans HXx0_0_10.out); have HXSx0_11 := Lib.hid (Nat.lt_of_lt_of_le HXSx0_10.out hb.size); have HXx1_0_11 := Lib.hid ((hb.cell (p := ⟨W6.heap.size, 0, none⟩) HXSx1_10.out).trans HXx1_0_10.out); have HXSx1_11 := Lib.hid (Nat.lt_of_lt_of_le HXSx1_10.out hb.size); have HXg_0_11 := Lib.hid ((hb.cell (p := ⟨W8.heap.size, 0, none⟩) HXSg_10.out).trans HXg_0_10.out); have HXSg_11 := Lib.hid (Nat.lt_of_lt_of_le HXSg_10.out hb.size); clear hb; have HLy0_11 := Lib.hid ho; clear ho; have cx0_0 := HX0_0_11.out; have cx1_0 := HX1_0_11.out; have cxW_0 := HXW_0_11.out; have cxx0_0 := HXx0_0_11.out; have cxx1_0 := HXx1_0_11.out; have cxg_0 := HXg_0_11.out) | (go_at_call 24; refine (eq_Squares (by exact HLx0_11.out.reads) (by exact HLy0_11.out.reads)).mono ?_; rintro e W12 ⟨rfl, hb0⟩; have hb : Below W11.heap.size W11 W12 := ⟨hb0.os, hb0.tape, hb0.output, hb0.size, hb0.block⟩; clear hb0; clear cx0_0 cx1_0 cxW_0 cxx0_0 cxx1_0 cxg_0; have HZ12 := Lib.hid hb.size; have HB12 := Lib.hid ((HB11.out).trans (hb.mono (HB11.out).size)); have HS12 := Lib.hid (HS11.out.trans (hb.mono HS11.out.size)); have HLx0_12 := Lib.hid (HLx0_11.out.below hb); have HLx1_12 := Lib.hid (HLx1_11.out.below hb); have HLg_12 := Lib.hid (HLg_11.out.below hb); have HLy0_12 := Lib.hid (HLy0_11.out.below hb); have HX0_0_12 := Lib.hid ((hb.cell (p := ⟨w.heap.size, 0, none⟩) HXS0_11.out).trans HX0_0_11.out); have HXS0_12 := Lib.hid (Nat.lt_of_lt_of_le HXS0_11.out hb.size); have HX1_0_12 := Lib.hid ((hb.cell (p := ⟨w.heap.size + 1, 0, none⟩) HXS1_11.out).trans HX1_0_11.out); have HXS1_12 := Lib.hid (Nat.lt_of_lt_of_le HXS1_11.out hb.size); have HXW_0_12 := Lib.hid ((hb.cell (p := ⟨gW, 0, none⟩) HXSW_11.out).trans HXW_0_11.out); have HXSW_12 := Lib.hid (Nat.lt_of_lt_of_le HXSW_11.out hb.size); have HXx0_0_12 := Lib.hid ((hb.cell (p := ⟨W4.heap.size, 0, none⟩) HXSx0_11.out).trans HXx0_0_11.out); have HXSx0_12 := Lib.hid (Nat.lt_of_lt_of_le HXSx0_11.out hb.size); have HXx1_0_12 := Lib.hid ((hb.cell (p := ⟨W6.heap.size, 0, none⟩) HXSx1_11.out).trans HXx1_0_11.out); have HXSx1_12 := Lib.hid (Nat.lt_of_lt_of_le HXSx1_11.out hb.size); have HXg_0_12 := Lib.hid ((hb.cell (p := ⟨W8.heap.size, 0, none⟩) HXSg_11.out).trans HXg_0_11.out); have HXSg_12 := Lib.hid (Nat.lt_of_lt_of_le HXSg_11.out hb.size); clear hb; have cx0_0 := HX0_0_12.out; have cx1_0 := HX1_0_12.out; have cxW_0 := HXW_0_12.out; have cxx0_0 := HXx0_0_12.out; have cxx1_0 := HXx1_0_12.out; have cxg_0 := HXg_0_12.out)))
  clear cx0_0 cx1_0 cxW_0 cxx0_0 cxx1_0 cxg_0
  have cx0_0 := HX0_0_12.out
  have cx1_0 := HX1_0_12.out
  have cxW_0 := HXW_0_12.out
  have cxx0_0 := HXx0_0_12.out
  have cxx1_0 := HXx1_0_12.out
  have cxg_0 := HXg_0_12.out
  go_wp2_with fail
  go_region_held3 (fun w' => w'.cell? ⟨W6.heap.size, 0, none⟩ = some (.slice (some ⟨Gx1, 0, none⟩) n1 n1) ∧ w'.cell? ⟨w.heap.size + 1, 0, none⟩ = some (.slice A1 n1 c1)) (first | go_keep | exact ⟨by assumption, by assumption⟩) ((first | (go_at_call 21; refine (to_Squares (HR1.out.below (by exact ⟨(HB12.out).os, (HB12.out).tape, (HB12.out).output, (HB12.out).size, (HB12.out).block⟩)) (by omega)).mono ?_; rintro e W13 ⟨Gy1, Vy1, rfl, ho, hb0⟩; have hb : Below W12.heap.size W12 W13 := ⟨hb0.os, hb0.tape, hb0.output, hb0.size, hb0.block⟩; clear hb0; clear cx0_0 cx1_0 cxW_0 cxx0_0 cxx1_0 cxg_0; have HZ13 := Lib.hid hb.size; have HB13 := Lib.hid ((HB12.out).trans (hb.mono (HB12.out).size)); have HS13 := Lib.hid (HS12.out.trans (hb.mono HS12.out.size)); have HLx0_13 := Lib.hid (HLx0_12.out.below hb); have HLx1_13 := Lib.hid (HLx1_12.out.below hb); have HLg_13 := Lib.hid (HLg_12.out.below hb); have HX0_0_13 := Lib.hid ((hb.cell (p := ⟨w.heap.size, 0, none⟩) HXS0_12.out).trans HX0_0_12.out); have HXS0_13 := Lib.hid (Nat.lt_of_lt_of_le HXS0_12.out hb.size); have HX1_0_13 := Lib.hid ((hb.cell (p := ⟨w.heap.size + 1, 0, none⟩) HXS1_12.out).trans HX1_0_12.out); have HXS1_13 := Lib.hid (Nat.lt_of_lt_of_le HXS1_12.out hb.size); have HXW_0_13 := Lib.hid ((hb.cell (p := ⟨gW, 0, none⟩) HXSW_12.out).trans HXW_0_12.out); have HXSW_13 := Lib.hid (Nat.lt_of_lt_of_le HXSW_12.out hb.size); have HXx0_0_13 := Lib.hid ((hb.cell (p := ⟨W4.heap.size, 0, none⟩) HXSx0_12.out).trans HXx0_0_12.out); have HXSx0_13 := Lib.hid (Nat.lt_of_lt_of_le HXSx0_12.out hb.size); have HXx1_0_13 := Lib.hid ((hb.cell (p := ⟨W6.heap.size, 0, none⟩) HXSx1_12.out).trans HXx1_0_12.out); have HXSx1_13 := Lib.hid (Nat.lt_of_lt_of_le HXSx1_12.out hb.size); have HXg_0_13 := Lib.hid ((hb.cell (p := ⟨W8.heap.size, 0, none⟩) HXSg_12.out).trans HXg_0_12.out); have HXSg_13 := Lib.hid (Nat.lt_of_lt_of_le HXSg_12.out hb.size); clear hb; have HLy1_13 := Lib.hid ho; clear ho; have cx0_0 := HX0_0_13.out; have cx1_0 := HX1_0_13.out; have cxW_0 := HXW_0_13.out; have cxx0_0 := HXx0_0_13.out; have cxx1_0 := HXx1_0_13.out; have cxg_0 := HXg_0_13.out) | (go_at_call 24; refine (eq_Squares (by exact HLx1_13.out.reads) (by exact HLy1_13.out.reads)).mono ?_; rintro e W14 ⟨rfl, hb0⟩; have hb : Below W13.heap.size W13 W14 := ⟨hb0.os, hb0.tape, hb0.output, hb0.size, hb0.block⟩; clear hb0; clear cx0_0 cx1_0 cxW_0 cxx0_0 cxx1_0 cxg_0; have HZ14 := Lib.hid hb.size; have HB14 := Lib.hid ((HB13.out).trans (hb.mono (HB13.out).size)); have HS14 := Lib.hid (HS13.out.trans (hb.mono HS13.out.size)); have HLx0_14 := Lib.hid (HLx0_13.out.below hb); have HLx1_14 := Lib.hid (HLx1_13.out.below hb); have HLg_14 := Lib.hid (HLg_13.out.below hb); have HLy1_14 := Lib.hid (HLy1_13.out.below hb); have HX0_0_14 := Lib.hid ((hb.cell (p := ⟨w.heap.size, 0, none⟩) HXS0_13.out).trans HX0_0_13.out); have HXS0_14 := Lib.hid (Nat.lt_of_lt_of_le HXS0_13.out hb.size); have HX1_0_14 := Lib.hid ((hb.cell (p := ⟨w.heap.size + 1, 0, none⟩) HXS1_13.out).trans HX1_0_13.out); have HXS1_14 := Lib.hid (Nat.lt_of_lt_of_le HXS1_13.out hb.size); have HXW_0_14 := Lib.hid ((hb.cell (p := ⟨gW, 0, none⟩) HXSW_13.out).trans HXW_0_13.out); have HXSW_14 := Lib.hid (Nat.lt_of_lt_of_le HXSW_13.out hb.size); have HXx0_0_14 := Lib.hid ((hb.cell (p := ⟨W4.heap.size, 0, none⟩) HXSx0_13.out).trans HXx0_0_13.out); have HXSx0_14 := Lib.hid (Nat.lt_of_lt_of_le HXSx0_13.out hb.size); have HXx1_0_14 := Lib.hid ((hb.cell (p := ⟨W6.heap.size, 0, none⟩) HXSx1_13.out).trans HXx1_0_13.out); have HXSx1_14 := Lib.hid (Nat.lt_of_lt_of_le HXSx1_13.out hb.size); have HXg_0_14 := Lib.hid ((hb.cell (p := ⟨W8.heap.size, 0, none⟩) HXSg_13.out).trans HXg_0_13.out); have HXSg_14 := Lib.hid (Nat.lt_of_lt_of_le HXSg_13.out hb.size); clear hb; have cx0_0 := HX0_0_14.out; have cx1_0 := HX1_0_14.out; have cxW_0 := HXW_0_14.out; have cxx0_0 := HXx0_0_14.out; have cxx1_0 := HXx1_0_14.out; have cxg_0 := HXg_0_14.out)))
  clear cx0_0 cx1_0 cxW_0 cxx0_0 cxx1_0 cxg_0
  have cx0_0 := HX0_0_14.out
  have cx1_0 := HX1_0_14.out
  have cxW_0 := HXW_0_14.out
  have cxx0_0 := HXx0_0_14.out
  have cxx1_0 := HXx1_0_14.out
  have cxg_0 := HXg_0_14.out
  go_wp2_with fail
  clear cx0_0 cx1_0 cxW_0 cxx0_0 cxx1_0 cxg_0
  refine (mark_Squares HLx0_14.out HTx0.out (by omega) (by omega)).mono ?_
  rintro e W15 ⟨rfl, ho, hb⟩
  have HX0_0_15 := Lib.hid ((Mid.cell hb (p := ⟨w.heap.size, 0, none⟩) HXS0_14.out (by show w.heap.size < W3.heap.size ∨ W4.heap.size ≤ w.heap.size; have q1 := HZ1.out; have q2 := HZ2.out; have q3 := HZ3.out; have q4 := HZ4.out; have q5 := HZ5.out; have q6 := HZ6.out; have q7 := HZ7.out; have q8 := HZ8.out; have q9 := HZ9.out; have q10 := HZ10.out; have q11 := HZ11.out; have q12 := HZ12.out; have q13 := HZ13.out; have q14 := HZ14.out; have r0 := HXS0.out; have r1 := HXS1.out; have r2 := HXSW_3.out; have r3 := HXGW.out; have r4 := HXSx0_5.out; have r5 := HXSx1_7.out; have r6 := HXSg_9.out; omega)).trans HX0_0_14.out)
  have HXS0_15 := Lib.hid (Nat.lt_of_lt_of_le HXS0_14.out hb.size)
  have HX1_0_15 := Lib.hid ((Mid.cell hb (p := ⟨w.heap.size + 1, 0, none⟩) HXS1_14.out (by show w.heap.size + 1 < W3.heap.size ∨ W4.heap.size ≤ w.heap.size + 1; have q1 := HZ1.out; have q2 := HZ2.out; have q3 := HZ3.out; have q4 := HZ4.out; have q5 := HZ5.out; have q6 := HZ6.out; have q7 := HZ7.out; have q8 := HZ8.out; have q9 := HZ9.out; have q10 := HZ10.out; have q11 := HZ11.out; have q12 := HZ12.out; have q13 := HZ13.out; have q14 := HZ14.out; have r0 := HXS0.out; have r1 := HXS1.out; have r2 := HXSW_3.out; have r3 := HXGW.out; have r4 := HXSx0_5.out; have r5 := HXSx1_7.out; have r6 := HXSg_9.out; omega)).trans HX1_0_14.out)
  have HXS1_15 := Lib.hid (Nat.lt_of_lt_of_le HXS1_14.out hb.size)
  have HXW_0_15 := Lib.hid ((Mid.cell hb (p := ⟨gW, 0, none⟩) HXSW_14.out (by show gW < W3.heap.size ∨ W4.heap.size ≤ gW; have q1 := HZ1.out; have q2 := HZ2.out; have q3 := HZ3.out; have q4 := HZ4.out; have q5 := HZ5.out; have q6 := HZ6.out; have q7 := HZ7.out; have q8 := HZ8.out; have q9 := HZ9.out; have q10 := HZ10.out; have q11 := HZ11.out; have q12 := HZ12.out; have q13 := HZ13.out; have q14 := HZ14.out; have r0 := HXS0.out; have r1 := HXS1.out; have r2 := HXSW_3.out; have r3 := HXGW.out; have r4 := HXSx0_5.out; have r5 := HXSx1_7.out; have r6 := HXSg_9.out; omega)).trans HXW_0_14.out)
  have HXSW_15 := Lib.hid (Nat.lt_of_lt_of_le HXSW_14.out hb.size)
  have HXx0_0_15 := Lib.hid ((Mid.cell hb (p := ⟨W4.heap.size, 0, none⟩) HXSx0_14.out (by show W4.heap.size < W3.heap.size ∨ W4.heap.size ≤ W4.heap.size; have q1 := HZ1.out; have q2 := HZ2.out; have q3 := HZ3.out; have q4 := HZ4.out; have q5 := HZ5.out; have q6 := HZ6.out; have q7 := HZ7.out; have q8 := HZ8.out; have q9 := HZ9.out; have q10 := HZ10.out; have q11 := HZ11.out; have q12 := HZ12.out; have q13 := HZ13.out; have q14 := HZ14.out; have r0 := HXS0.out; have r1 := HXS1.out; have r2 := HXSW_3.out; have r3 := HXGW.out; have r4 := HXSx0_5.out; have r5 := HXSx1_7.out; have r6 := HXSg_9.out; omega)).trans HXx0_0_14.out)
  have HXSx0_15 := Lib.hid (Nat.lt_of_lt_of_le HXSx0_14.out hb.size)
  have HXx1_0_15 := Lib.hid ((Mid.cell hb (p := ⟨W6.heap.size, 0, none⟩) HXSx1_14.out (by show W6.heap.size < W3.heap.size ∨ W4.heap.size ≤ W6.heap.size; have q1 := HZ1.out; have q2 := HZ2.out; have q3 := HZ3.out; have q4 := HZ4.out; have q5 := HZ5.out; have q6 := HZ6.out; have q7 := HZ7.out; have q8 := HZ8.out; have q9 := HZ9.out; have q10 := HZ10.out; have q11 := HZ11.out; have q12 := HZ12.out; have q13 := HZ13.out; have q14 := HZ14.out; have r0 := HXS0.out; have r1 := HXS1.out; have r2 := HXSW_3.out; have r3 := HXGW.out; have r4 := HXSx0_5.out; have r5 := HXSx1_7.out; have r6 := HXSg_9.out; omega)).trans HXx1_0_14.out)
  have HXSx1_15 := Lib.hid (Nat.lt_of_lt_of_le HXSx1_14.out hb.size)
  have HXg_0_15 := Lib.hid ((Mid.cell hb (p := ⟨W8.heap.size, 0, none⟩) HXSg_14.out (by show W8.heap.size < W3.heap.size ∨ W4.heap.size ≤ W8.heap.size; have q1 := HZ1.out; have q2 := HZ2.out; have q3 := HZ3.out; have q4 := HZ4.out; have q5 := HZ5.out; have q6 := HZ6.out; have q7 := HZ7.out; have q8 := HZ8.out; have q9 := HZ9.out; have q10 := HZ10.out; have q11 := HZ11.out; have q12 := HZ12.out; have q13 := HZ13.out; have q14 := HZ14.out; have r0 := HXS0.out; have r1 := HXS1.out; have r2 := HXSW_3.out; have r3 := HXGW.out; have r4 := HXSx0_5.out; have r5 := HXSx1_7.out; have r6 := HXSg_9.out; omega)).trans HXg_0_14.out)
  have HXSg_15 := Lib.hid (Nat.lt_of_lt_of_le HXSg_14.out hb.size)
  have HZ15 := Lib.hid hb.size
  have HB15 := Lib.hid (Mid.below (HB14.out) hb (by have q1 := HZ1.out; have q2 := HZ2.out; have q3 := HZ3.out; omega) (by have q1 := HZ1.out; have q2 := HZ2.out; have q3 := HZ3.out; have q4 := HZ4.out; have q5 := HZ5.out; have q6 := HZ6.out; have q7 := HZ7.out; have q8 := HZ8.out; have q9 := HZ9.out; have q10 := HZ10.out; have q11 := HZ11.out; have q12 := HZ12.out; have q13 := HZ13.out; have q14 := HZ14.out; omega))
  have HS15 := Lib.hid (Mid.below HS14.out hb (Nat.le_refl _) (by have q4 := HZ4.out; have q5 := HZ5.out; have q6 := HZ6.out; have q7 := HZ7.out; have q8 := HZ8.out; have q9 := HZ9.out; have q10 := HZ10.out; have q11 := HZ11.out; have q12 := HZ12.out; have q13 := HZ13.out; have q14 := HZ14.out; omega))
  have HLx1_15 := Lib.hid (HLx1_14.out.mid hb (by have q5 := HZ5.out; omega))
  have HLg_15 := Lib.hid (HLg_14.out.mid hb (by have q5 := HZ5.out; have q6 := HZ6.out; have q7 := HZ7.out; omega))
  have HLx0_15 := Lib.hid ho
  clear ho hb
  have cx0_0 := HX0_0_15.out
  have cx1_0 := HX1_0_15.out
  have cxW_0 := HXW_0_15.out
  have cxx0_0 := HXx0_0_15.out
  have cxx1_0 := HXx1_0_15.out
  have cxg_0 := HXg_0_15.out
  go_wp2_with fail
  clear cx0_0 cx1_0 cxW_0 cxx0_0 cxx1_0 cxg_0
  refine (mark_Squares HLx1_15.out HTx1.out (by omega) (by omega)).mono ?_
  rintro e W16 ⟨rfl, ho, hb⟩
  have HX0_0_16 := Lib.hid ((Mid.cell hb (p := ⟨w.heap.size, 0, none⟩) HXS0_15.out (by show w.heap.size < W5.heap.size ∨ W6.heap.size ≤ w.heap.size; have q1 := HZ1.out; have q2 := HZ2.out; have q3 := HZ3.out; have q4 := HZ4.out; have q5 := HZ5.out; have q6 := HZ6.out; have q7 := HZ7.out; have q8 := HZ8.out; have q9 := HZ9.out; have q10 := HZ10.out; have q11 := HZ11.out; have q12 := HZ12.out; have q13 := HZ13.out; have q14 := HZ14.out; have q15 := HZ15.out; have r0 := HXS0.out; have r1 := HXS1.out; have r2 := HXSW_3.out; have r3 := HXGW.out; have r4 := HXSx0_5.out; have r5 := HXSx1_7.out; have r6 := HXSg_9.out; omega)).trans HX0_0_15.out)
  have HXS0_16 := Lib.hid (Nat.lt_of_lt_of_le HXS0_15.out hb.size)
  have HX1_0_16 := Lib.hid ((Mid.cell hb (p := ⟨w.heap.size + 1, 0, none⟩) HXS1_15.out (by show w.heap.size + 1 < W5.heap.size ∨ W6.heap.size ≤ w.heap.size + 1; have q1 := HZ1.out; have q2 := HZ2.out; have q3 := HZ3.out; have q4 := HZ4.out; have q5 := HZ5.out; have q6 := HZ6.out; have q7 := HZ7.out; have q8 := HZ8.out; have q9 := HZ9.out; have q10 := HZ10.out; have q11 := HZ11.out; have q12 := HZ12.out; have q13 := HZ13.out; have q14 := HZ14.out; have q15 := HZ15.out; have r0 := HXS0.out; have r1 := HXS1.out; have r2 := HXSW_3.out; have r3 := HXGW.out; have r4 := HXSx0_5.out; have r5 := HXSx1_7.out; have r6 := HXSg_9.out; omega)).trans HX1_0_15.out)
  have HXS1_16 := Lib.hid (Nat.lt_of_lt_of_le HXS1_15.out hb.size)
  have HXW_0_16 := Lib.hid ((Mid.cell hb (p := ⟨gW, 0, none⟩) HXSW_15.out (by show gW < W5.heap.size ∨ W6.heap.size ≤ gW; have q1 := HZ1.out; have q2 := HZ2.out; have q3 := HZ3.out; have q4 := HZ4.out; have q5 := HZ5.out; have q6 := HZ6.out; have q7 := HZ7.out; have q8 := HZ8.out; have q9 := HZ9.out; have q10 := HZ10.out; have q11 := HZ11.out; have q12 := HZ12.out; have q13 := HZ13.out; have q14 := HZ14.out; have q15 := HZ15.out; have r0 := HXS0.out; have r1 := HXS1.out; have r2 := HXSW_3.out; have r3 := HXGW.out; have r4 := HXSx0_5.out; have r5 := HXSx1_7.out; have r6 := HXSg_9.out; omega)).trans HXW_0_15.out)
  have HXSW_16 := Lib.hid (Nat.lt_of_lt_of_le HXSW_15.out hb.size)
  have HXx0_0_16 := Lib.hid ((Mid.cell hb (p := ⟨W4.heap.size, 0, none⟩) HXSx0_15.out (by show W4.heap.size < W5.heap.size ∨ W6.heap.size ≤ W4.heap.size; have q1 := HZ1.out; have q2 := HZ2.out; have q3 := HZ3.out; have q4 := HZ4.out; have q5 := HZ5.out; have q6 := HZ6.out; have q7 := HZ7.out; have q8 := HZ8.out; have q9 := HZ9.out; have q10 := HZ10.out; have q11 := HZ11.out; have q12 := HZ12.out; have q13 := HZ13.out; have q14 := HZ14.out; have q15 := HZ15.out; have r0 := HXS0.out; have r1 := HXS1.out; have r2 := HXSW_3.out; have r3 := HXGW.out; have r4 := HXSx0_5.out; have r5 := HXSx1_7.out; have r6 := HXSg_9.out; omega)).trans HXx0_0_15.out)
  have HXSx0_16 := Lib.hid (Nat.lt_of_lt_of_le HXSx0_15.out hb.size)
  have HXx1_0_16 := Lib.hid ((Mid.cell hb (p := ⟨W6.heap.size, 0, none⟩) HXSx1_15.out (by show W6.heap.size < W5.heap.size ∨ W6.heap.size ≤ W6.heap.size; have q1 := HZ1.out; have q2 := HZ2.out; have q3 := HZ3.out; have q4 := HZ4.out; have q5 := HZ5.out; have q6 := HZ6.out; have q7 := HZ7.out; have q8 := HZ8.out; have q9 := HZ9.out; have q10 := HZ10.out; have q11 := HZ11.out; have q12 := HZ12.out; have q13 := HZ13.out; have q14 := HZ14.out; have q15 := HZ15.out; have r0 := HXS0.out; have r1 := HXS1.out; have r2 := HXSW_3.out; have r3 := HXGW.out; have r4 := HXSx0_5.out; have r5 := HXSx1_7.out; have r6 := HXSg_9.out; omega)).trans HXx1_0_15.out)
  have HXSx1_16 := Lib.hid (Nat.lt_of_lt_of_le HXSx1_15.out hb.size)
  have HXg_0_16 := Lib.hid ((Mid.cell hb (p := ⟨W8.heap.size, 0, none⟩) HXSg_15.out (by show W8.heap.size < W5.heap.size ∨ W6.heap.size ≤ W8.heap.size; have q1 := HZ1.out; have q2 := HZ2.out; have q3 := HZ3.out; have q4 := HZ4.out; have q5 := HZ5.out; have q6 := HZ6.out; have q7 := HZ7.out; have q8 := HZ8.out; have q9 := HZ9.out; have q10 := HZ10.out; have q11 := HZ11.out; have q12 := HZ12.out; have q13 := HZ13.out; have q14 := HZ14.out; have q15 := HZ15.out; have r0 := HXS0.out; have r1 := HXS1.out; have r2 := HXSW_3.out; have r3 := HXGW.out; have r4 := HXSx0_5.out; have r5 := HXSx1_7.out; have r6 := HXSg_9.out; omega)).trans HXg_0_15.out)
  have HXSg_16 := Lib.hid (Nat.lt_of_lt_of_le HXSg_15.out hb.size)
  have HZ16 := Lib.hid hb.size
  have HB16 := Lib.hid (Mid.below (HB15.out) hb (by have q1 := HZ1.out; have q2 := HZ2.out; have q3 := HZ3.out; have q4 := HZ4.out; have q5 := HZ5.out; omega) (by have q1 := HZ1.out; have q2 := HZ2.out; have q3 := HZ3.out; have q4 := HZ4.out; have q5 := HZ5.out; have q6 := HZ6.out; have q7 := HZ7.out; have q8 := HZ8.out; have q9 := HZ9.out; have q10 := HZ10.out; have q11 := HZ11.out; have q12 := HZ12.out; have q13 := HZ13.out; have q14 := HZ14.out; have q15 := HZ15.out; omega))
  have HS16 := Lib.hid (Mid.below HS15.out hb (by have q4 := HZ4.out; have q5 := HZ5.out; omega) (by have q4 := HZ4.out; have q5 := HZ5.out; have q6 := HZ6.out; have q7 := HZ7.out; have q8 := HZ8.out; have q9 := HZ9.out; have q10 := HZ10.out; have q11 := HZ11.out; have q12 := HZ12.out; have q13 := HZ13.out; have q14 := HZ14.out; have q15 := HZ15.out; omega))
  have HLg_16 := Lib.hid (HLg_15.out.mid hb (by have q7 := HZ7.out; omega))
  have HLx1_16 := Lib.hid ho
  clear ho hb
  have cx0_0 := HX0_0_16.out
  have cx1_0 := HX1_0_16.out
  have cxW_0 := HXW_0_16.out
  have cxx0_0 := HXx0_0_16.out
  have cxx1_0 := HXx1_0_16.out
  have cxg_0 := HXg_0_16.out
  go_wp2_with fail
  clear cx0_0 cx1_0 cxW_0 cxx0_0 cxx1_0 cxg_0
  refine (eq_Squares HLg_16.out.reads (HRW.out.below HS16.out)).mono ?_
  rintro e W17 ⟨rfl, hb⟩
  have HZ17 := Lib.hid hb.size
  have HB17 := Lib.hid ((HB16.out).trans (hb.mono (HB16.out).size))
  have HS17 := Lib.hid (HS16.out.trans (hb.mono HS16.out.size))
  have HLg_17 := Lib.hid (HLg_16.out.below hb)
  have HX0_0_17 := Lib.hid ((hb.cell (p := ⟨w.heap.size, 0, none⟩) HXS0_16.out).trans HX0_0_16.out)
  have HXS0_17 := Lib.hid (Nat.lt_of_lt_of_le HXS0_16.out hb.size)
  have HX1_0_17 := Lib.hid ((hb.cell (p := ⟨w.heap.size + 1, 0, none⟩) HXS1_16.out).trans HX1_0_16.out)
  have HXS1_17 := Lib.hid (Nat.lt_of_lt_of_le HXS1_16.out hb.size)
  have HXW_0_17 := Lib.hid ((hb.cell (p := ⟨gW, 0, none⟩) HXSW_16.out).trans HXW_0_16.out)
  have HXSW_17 := Lib.hid (Nat.lt_of_lt_of_le HXSW_16.out hb.size)
  have HXx0_0_17 := Lib.hid ((hb.cell (p := ⟨W4.heap.size, 0, none⟩) HXSx0_16.out).trans HXx0_0_16.out)
  have HXSx0_17 := Lib.hid (Nat.lt_of_lt_of_le HXSx0_16.out hb.size)
  have HXx1_0_17 := Lib.hid ((hb.cell (p := ⟨W6.heap.size, 0, none⟩) HXSx1_16.out).trans HXx1_0_16.out)
  have HXSx1_17 := Lib.hid (Nat.lt_of_lt_of_le HXSx1_16.out hb.size)
  have HXg_0_17 := Lib.hid ((hb.cell (p := ⟨W8.heap.size, 0, none⟩) HXSg_16.out).trans HXg_0_16.out)
  have HXSg_17 := Lib.hid (Nat.lt_of_lt_of_le HXSg_16.out hb.size)
  clear hb
  have NG := pAddSquares_sz X0 (by have h0 := HR0.out.len; have h1 := HR1.out.len; omega) X1 (by have h0 := HR0.out.len; have h1 := HR1.out.len; omega)
  have cx0_0 := HX0_0_17.out
  have cx1_0 := HX1_0_17.out
  have cxW_0 := HXW_0_17.out
  have cxx0_0 := HXx0_0_17.out
  have cxx1_0 := HXx1_0_17.out
  have cxg_0 := HXg_0_17.out
  go_wp2_with fail
  clear cx0_0 cx1_0 cxW_0 cxx0_0 cxx1_0 cxg_0
  refine (mark_Squares HLg_17.out HTg.out (by omega) (by omega)).mono ?_
  rintro e W18 ⟨rfl, ho, hb⟩
  have HX0_0_18 := Lib.hid ((Mid.cell hb (p := ⟨w.heap.size, 0, none⟩) HXS0_17.out (by show w.heap.size < W7.heap.size ∨ W8.heap.size ≤ w.heap.size; have q1 := HZ1.out; have q2 := HZ2.out; have q3 := HZ3.out; have q4 := HZ4.out; have q5 := HZ5.out; have q6 := HZ6.out; have q7 := HZ7.out; have q8 := HZ8.out; have q9 := HZ9.out; have q10 := HZ10.out; have q11 := HZ11.out; have q12 := HZ12.out; have q13 := HZ13.out; have q14 := HZ14.out; have q15 := HZ15.out; have q16 := HZ16.out; have q17 := HZ17.out; have r0 := HXS0.out; have r1 := HXS1.out; have r2 := HXSW_3.out; have r3 := HXGW.out; have r4 := HXSx0_5.out; have r5 := HXSx1_7.out; have r6 := HXSg_9.out; omega)).trans HX0_0_17.out)
  have HXS0_18 := Lib.hid (Nat.lt_of_lt_of_le HXS0_17.out hb.size)
  have HX1_0_18 := Lib.hid ((Mid.cell hb (p := ⟨w.heap.size + 1, 0, none⟩) HXS1_17.out (by show w.heap.size + 1 < W7.heap.size ∨ W8.heap.size ≤ w.heap.size + 1; have q1 := HZ1.out; have q2 := HZ2.out; have q3 := HZ3.out; have q4 := HZ4.out; have q5 := HZ5.out; have q6 := HZ6.out; have q7 := HZ7.out; have q8 := HZ8.out; have q9 := HZ9.out; have q10 := HZ10.out; have q11 := HZ11.out; have q12 := HZ12.out; have q13 := HZ13.out; have q14 := HZ14.out; have q15 := HZ15.out; have q16 := HZ16.out; have q17 := HZ17.out; have r0 := HXS0.out; have r1 := HXS1.out; have r2 := HXSW_3.out; have r3 := HXGW.out; have r4 := HXSx0_5.out; have r5 := HXSx1_7.out; have r6 := HXSg_9.out; omega)).trans HX1_0_17.out)
  have HXS1_18 := Lib.hid (Nat.lt_of_lt_of_le HXS1_17.out hb.size)
  have HXW_0_18 := Lib.hid ((Mid.cell hb (p := ⟨gW, 0, none⟩) HXSW_17.out (by show gW < W7.heap.size ∨ W8.heap.size ≤ gW; have q1 := HZ1.out; have q2 := HZ2.out; have q3 := HZ3.out; have q4 := HZ4.out; have q5 := HZ5.out; have q6 := HZ6.out; have q7 := HZ7.out; have q8 := HZ8.out; have q9 := HZ9.out; have q10 := HZ10.out; have q11 := HZ11.out; have q12 := HZ12.out; have q13 := HZ13.out; have q14 := HZ14.out; have q15 := HZ15.out; have q16 := HZ16.out; have q17 := HZ17.out; have r0 := HXS0.out; have r1 := HXS1.out; have r2 := HXSW_3.out; have r3 := HXGW.out; have r4 := HXSx0_5.out; have r5 := HXSx1_7.out; have r6 := HXSg_9.out; omega)).trans HXW_0_17.out)
  have HXSW_18 := Lib.hid (Nat.lt_of_lt_of_le HXSW_17.out hb.size)
  have HXx0_0_18 := Lib.hid ((Mid.cell hb (p := ⟨W4.heap.size, 0, none⟩) HXSx0_17.out (by show W4.heap.size < W7.heap.size ∨ W8.heap.size ≤ W4.heap.size; have q1 := HZ1.out; have q2 := HZ2.out; have q3 := HZ3.out; have q4 := HZ4.out; have q5 := HZ5.out; have q6 := HZ6.out; have q7 := HZ7.out; have q8 := HZ8.out; have q9 := HZ9.out; have q10 := HZ10.out; have q11 := HZ11.out; have q12 := HZ12.out; have q13 := HZ13.out; have q14 := HZ14.out; have q15 := HZ15.out; have q16 := HZ16.out; have q17 := HZ17.out; have r0 := HXS0.out; have r1 := HXS1.out; have r2 := HXSW_3.out; have r3 := HXGW.out; have r4 := HXSx0_5.out; have r5 := HXSx1_7.out; have r6 := HXSg_9.out; omega)).trans HXx0_0_17.out)
  have HXSx0_18 := Lib.hid (Nat.lt_of_lt_of_le HXSx0_17.out hb.size)
  have HXx1_0_18 := Lib.hid ((Mid.cell hb (p := ⟨W6.heap.size, 0, none⟩) HXSx1_17.out (by show W6.heap.size < W7.heap.size ∨ W8.heap.size ≤ W6.heap.size; have q1 := HZ1.out; have q2 := HZ2.out; have q3 := HZ3.out; have q4 := HZ4.out; have q5 := HZ5.out; have q6 := HZ6.out; have q7 := HZ7.out; have q8 := HZ8.out; have q9 := HZ9.out; have q10 := HZ10.out; have q11 := HZ11.out; have q12 := HZ12.out; have q13 := HZ13.out; have q14 := HZ14.out; have q15 := HZ15.out; have q16 := HZ16.out; have q17 := HZ17.out; have r0 := HXS0.out; have r1 := HXS1.out; have r2 := HXSW_3.out; have r3 := HXGW.out; have r4 := HXSx0_5.out; have r5 := HXSx1_7.out; have r6 := HXSg_9.out; omega)).trans HXx1_0_17.out)
  have HXSx1_18 := Lib.hid (Nat.lt_of_lt_of_le HXSx1_17.out hb.size)
  have HXg_0_18 := Lib.hid ((Mid.cell hb (p := ⟨W8.heap.size, 0, none⟩) HXSg_17.out (by show W8.heap.size < W7.heap.size ∨ W8.heap.size ≤ W8.heap.size; have q1 := HZ1.out; have q2 := HZ2.out; have q3 := HZ3.out; have q4 := HZ4.out; have q5 := HZ5.out; have q6 := HZ6.out; have q7 := HZ7.out; have q8 := HZ8.out; have q9 := HZ9.out; have q10 := HZ10.out; have q11 := HZ11.out; have q12 := HZ12.out; have q13 := HZ13.out; have q14 := HZ14.out; have q15 := HZ15.out; have q16 := HZ16.out; have q17 := HZ17.out; have r0 := HXS0.out; have r1 := HXS1.out; have r2 := HXSW_3.out; have r3 := HXGW.out; have r4 := HXSx0_5.out; have r5 := HXSx1_7.out; have r6 := HXSg_9.out; omega)).trans HXg_0_17.out)
  have HXSg_18 := Lib.hid (Nat.lt_of_lt_of_le HXSg_17.out hb.size)
  have HZ18 := Lib.hid hb.size
  have HB18 := Lib.hid (Mid.below (HB17.out) hb (by have q1 := HZ1.out; have q2 := HZ2.out; have q3 := HZ3.out; have q4 := HZ4.out; have q5 := HZ5.out; have q6 := HZ6.out; have q7 := HZ7.out; omega) (by have q1 := HZ1.out; have q2 := HZ2.out; have q3 := HZ3.out; have q4 := HZ4.out; have q5 := HZ5.out; have q6 := HZ6.out; have q7 := HZ7.out; have q8 := HZ8.out; have q9 := HZ9.out; have q10 := HZ10.out; have q11 := HZ11.out; have q12 := HZ12.out; have q13 := HZ13.out; have q14 := HZ14.out; have q15 := HZ15.out; have q16 := HZ16.out; have q17 := HZ17.out; omega))
  have HS18 := Lib.hid (Mid.below HS17.out hb (by have q4 := HZ4.out; have q5 := HZ5.out; have q6 := HZ6.out; have q7 := HZ7.out; omega) (by have q4 := HZ4.out; have q5 := HZ5.out; have q6 := HZ6.out; have q7 := HZ7.out; have q8 := HZ8.out; have q9 := HZ9.out; have q10 := HZ10.out; have q11 := HZ11.out; have q12 := HZ12.out; have q13 := HZ13.out; have q14 := HZ14.out; have q15 := HZ15.out; have q16 := HZ16.out; have q17 := HZ17.out; omega))
  have HLg_18 := Lib.hid ho
  clear ho hb
  have cx0_0 := HX0_0_18.out
  have cx1_0 := HX1_0_18.out
  have cxW_0 := HXW_0_18.out
  have cxx0_0 := HXx0_0_18.out
  have cxx1_0 := HXx1_0_18.out
  have cxg_0 := HXg_0_18.out
  go_wp2_with fail
  clear cx0_0 cx1_0 cxW_0 cxx0_0 cxx1_0 cxg_0
  refine (held_Squares HLg_18.out.reads (by omega) (by omega)).mono ?_
  rintro e W19 ⟨rfl, hb⟩
  have HZ19 := Lib.hid hb.size
  have HB19 := Lib.hid ((HB18.out).trans (hb.mono (HB18.out).size))
  have HS19 := Lib.hid (HS18.out.trans (hb.mono HS18.out.size))
  have HLg_19 := Lib.hid (HLg_18.out.below hb)
  have HX0_0_19 := Lib.hid ((hb.cell (p := ⟨w.heap.size, 0, none⟩) HXS0_18.out).trans HX0_0_18.out)
  have HXS0_19 := Lib.hid (Nat.lt_of_lt_of_le HXS0_18.out hb.size)
  have HX1_0_19 := Lib.hid ((hb.cell (p := ⟨w.heap.size + 1, 0, none⟩) HXS1_18.out).trans HX1_0_18.out)
  have HXS1_19 := Lib.hid (Nat.lt_of_lt_of_le HXS1_18.out hb.size)
  have HXW_0_19 := Lib.hid ((hb.cell (p := ⟨gW, 0, none⟩) HXSW_18.out).trans HXW_0_18.out)
  have HXSW_19 := Lib.hid (Nat.lt_of_lt_of_le HXSW_18.out hb.size)
  have HXx0_0_19 := Lib.hid ((hb.cell (p := ⟨W4.heap.size, 0, none⟩) HXSx0_18.out).trans HXx0_0_18.out)
  have HXSx0_19 := Lib.hid (Nat.lt_of_lt_of_le HXSx0_18.out hb.size)
  have HXx1_0_19 := Lib.hid ((hb.cell (p := ⟨W6.heap.size, 0, none⟩) HXSx1_18.out).trans HXx1_0_18.out)
  have HXSx1_19 := Lib.hid (Nat.lt_of_lt_of_le HXSx1_18.out hb.size)
  have HXg_0_19 := Lib.hid ((hb.cell (p := ⟨W8.heap.size, 0, none⟩) HXSg_18.out).trans HXg_0_18.out)
  have HXSg_19 := Lib.hid (Nat.lt_of_lt_of_le HXSg_18.out hb.size)
  clear hb
  have cx0_0 := HX0_0_19.out
  have cx1_0 := HX1_0_19.out
  have cxW_0 := HXW_0_19.out
  have cxx0_0 := HXx0_0_19.out
  have cxx1_0 := HXx1_0_19.out
  have cxg_0 := HXg_0_19.out
  go_wp2_with fail
  clear cx0_0 cx1_0 cxW_0 cxx0_0 cxx1_0 cxg_0
  go_cut [15, 16] (fun sb sc wx => ∃ (gh : Nat) (Ah : Option Addr) (nh ch : Nat) (vh : List Sl), sb = .pointer (some ⟨gh, 0, none⟩) ∧ sc = .int .i64 (pAddSquares X0 X1).2 ∧ BoxS 34 W19 wx gh Ah nh ch vh (pAddSquares X0 X1).1)
  case first =>
    have cx0_0 := HX0_0_19.out
    have cx1_0 := HX1_0_19.out
    have cxW_0 := HXW_0_19.out
    have cxx0_0 := HXx0_0_19.out
    have cxx1_0 := HXx1_0_19.out
    have cxg_0 := HXg_0_19.out
    go_region_held3 (fun w' => w'.cell? ⟨w.heap.size, 0, none⟩ = some (.slice A0 n0 c0) ∧ w'.cell? ⟨w.heap.size + 1, 0, none⟩ = some (.slice A1 n1 c1)) (first | go_keep | exact ⟨(by repeat (first | assumption | refine keep_set ?_ (by first | exact HXS0_22.out | exact HXS0_21.out | exact HXS0_20.out | exact HXS0_19.out | exact HXS0_18.out | exact HXS0_17.out | exact HXS0_16.out | exact HXS0_15.out | exact HXS0_14.out | exact HXS0_13.out | exact HXS0_12.out | exact HXS0_11.out | exact HXS0_10.out | exact HXS0_9.out | exact HXS0_8.out | exact HXS0_7.out | exact HXS0_6.out | exact HXS0_5.out | exact HXS0_4.out | exact HXS0_3.out | exact HXS0_2.out | exact HXS0_1.out | exact HXS0.out) | refine keep_alloc ?_ (by first | exact HXS0_22.out | exact HXS0_21.out | exact HXS0_20.out | exact HXS0_19.out | exact HXS0_18.out | exact HXS0_17.out | exact HXS0_16.out | exact HXS0_15.out | exact HXS0_14.out | exact HXS0_13.out | exact HXS0_12.out | exact HXS0_11.out | exact HXS0_10.out | exact HXS0_9.out | exact HXS0_8.out | exact HXS0_7.out | exact HXS0_6.out | exact HXS0_5.out | exact HXS0_4.out | exact HXS0_3.out | exact HXS0_2.out | exact HXS0_1.out | exact HXS0.out))), (by repeat (first | assumption | refine keep_set ?_ (by first | exact HXS1_22.out | exact HXS1_21.out | exact HXS1_20.out | exact HXS1_19.out | exact HXS1_18.out | exact HXS1_17.out | exact HXS1_16.out | exact HXS1_15.out | exact HXS1_14.out | exact HXS1_13.out | exact HXS1_12.out | exact HXS1_11.out | exact HXS1_10.out | exact HXS1_9.out | exact HXS1_8.out | exact HXS1_7.out | exact HXS1_6.out | exact HXS1_5.out | exact HXS1_4.out | exact HXS1_3.out | exact HXS1_2.out | exact HXS1_1.out | exact HXS1.out) | refine keep_alloc ?_ (by first | exact HXS1_22.out | exact HXS1_21.out | exact HXS1_20.out | exact HXS1_19.out | exact HXS1_18.out | exact HXS1_17.out | exact HXS1_16.out | exact HXS1_15.out | exact HXS1_14.out | exact HXS1_13.out | exact HXS1_12.out | exact HXS1_11.out | exact HXS1_10.out | exact HXS1_9.out | exact HXS1_8.out | exact HXS1_7.out | exact HXS1_6.out | exact HXS1_5.out | exact HXS1_4.out | exact HXS1_3.out | exact HXS1_2.out | exact HXS1_1.out | exact HXS1.out)))⟩) ((first | (go_at_call_of 21 A0; refine (to_Squares (HR0.out.below (Below.trans (HB19.out) (Below.mono (show Below W19.heap.size W19 _ by repeat (first | exact Below.refl _ _ | refine below_drewN ?_ _ | refine Below.drew ?_ | refine Below.alloc ?_ (by first | exact Nat.le_refl _ | (simp; done) | (simp; omega)) _)) (HB19.out).size))) (by omega)).mono ?_; rintro e W20 ⟨Gv0, Vv0, rfl, ho, hb0⟩; have hb : Below W19.heap.size W19 W20 := Below.trans (by repeat (first | exact Below.refl _ _ | refine below_drewN ?_ _ | refine Below.drew ?_ | refine Below.alloc ?_ (by first | exact Nat.le_refl _ | (simp; done) | (simp; omega)) _)) (Below.mono hb0 (by first | exact Nat.le_refl _ | exact Nat.le_succ _ | (simp; done) | (simp; omega))); have ho2 : OwnS W20 W19.heap.size (some ⟨Gv0, 0, none⟩) n0 n0 Vv0 X0 := ho.mono (by first | exact Nat.le_refl _ | exact Nat.le_succ _ | (simp; done) | (simp; omega)); (try (have kb0 := Lib.hid (Blk.below (by exact Blk.new W19 #[.slice none 0 0] 34) hb0))); (try (have qb0 := Lib.hid (Below.refl W19.heap.size W19).size)); (try (have lb0_20 := Lib.hid kb0.out.lt)); (try (have fb0_0 := kb0.out.free 0)); (try (have eb0_0 := kb0.out.cell 0 rfl)); clear hb0 ho; clear cx0_0 cx1_0 cxW_0 cxx0_0 cxx1_0 cxg_0; have HC20 := Lib.hid ((Below.refl W19.heap.size W19).trans (hb.mono (Below.refl W19.heap.size W19).size)); have HZ20 := Lib.hid hb.size; have HB20 := Lib.hid ((HB19.out).trans (hb.mono (HB19.out).size)); have HS20 := Lib.hid (HS19.out.trans (hb.mono HS19.out.size)); have HLg_20 := Lib.hid (HLg_19.out.below hb); have HX0_0_20 := Lib.hid ((hb.cell (p := ⟨w.heap.size, 0, none⟩) HXS0_19.out).trans HX0_0_19.out); have HXS0_20 := Lib.hid (Nat.lt_of_lt_of_le HXS0_19.out hb.size); have HX1_0_20 := Lib.hid ((hb.cell (p := ⟨w.heap.size + 1, 0, none⟩) HXS1_19.out).trans HX1_0_19.out); have HXS1_20 := Lib.hid (Nat.lt_of_lt_of_le HXS1_19.out hb.size); have HXW_0_20 := Lib.hid ((hb.cell (p := ⟨gW, 0, none⟩) HXSW_19.out).trans HXW_0_19.out); have HXSW_20 := Lib.hid (Nat.lt_of_lt_of_le HXSW_19.out hb.size); have HXx0_0_20 := Lib.hid ((hb.cell (p := ⟨W4.heap.size, 0, none⟩) HXSx0_19.out).trans HXx0_0_19.out); have HXSx0_20 := Lib.hid (Nat.lt_of_lt_of_le HXSx0_19.out hb.size); have HXx1_0_20 := Lib.hid ((hb.cell (p := ⟨W6.heap.size, 0, none⟩) HXSx1_19.out).trans HXx1_0_19.out); have HXSx1_20 := Lib.hid (Nat.lt_of_lt_of_le HXSx1_19.out hb.size); have HXg_0_20 := Lib.hid ((hb.cell (p := ⟨W8.heap.size, 0, none⟩) HXSg_19.out).trans HXg_0_19.out); have HXSg_20 := Lib.hid (Nat.lt_of_lt_of_le HXSg_19.out hb.size); clear hb; have HLv0_20 := Lib.hid ho2; clear ho2; have HTv0 := Lib.hid HLv0_20.out.ins; have cx0_0 := HX0_0_20.out; have cx1_0 := HX1_0_20.out; have cxW_0 := HXW_0_20.out; have cxx0_0 := HXx0_0_20.out; have cxx1_0 := HXx1_0_20.out; have cxg_0 := HXg_0_20.out) | (go_at_call_of 21 A1; refine (to_Squares (HR1.out.below (Below.trans (HB20.out) (Below.mono (show Below W20.heap.size W20 _ by repeat (first | exact Below.refl _ _ | refine below_drewN ?_ _ | refine Below.drew ?_ | refine Below.alloc ?_ (by first | exact Nat.le_refl _ | (simp; done) | (simp; omega)) _)) (HB20.out).size))) (by omega)).mono ?_; rintro e W21 ⟨Gv1, Vv1, rfl, ho, hb0⟩; have hb : Below W20.heap.size W20 W21 := Below.trans (by repeat (first | exact Below.refl _ _ | refine below_drewN ?_ _ | refine Below.drew ?_ | refine Below.alloc ?_ (by first | exact Nat.le_refl _ | (simp; done) | (simp; omega)) _)) (Below.mono hb0 (by first | exact Nat.le_refl _ | exact Nat.le_succ _ | (simp; done) | (simp; omega))); have ho2 : OwnS W21 W20.heap.size (some ⟨Gv1, 0, none⟩) n1 n1 Vv1 X1 := ho.mono (by first | exact Nat.le_refl _ | exact Nat.le_succ _ | (simp; done) | (simp; omega)); (try (have kb0 := Lib.hid (Blk.below (by exact kb0.out) hb0))); (try (have kb1 := Lib.hid (Blk.below (by exact Blk.new W20 #[.slice none 0 0] 34) hb0))); (try (have qb1 := Lib.hid (HC20.out).size)); (try (have lb0_21 := Lib.hid kb0.out.lt)); (try (have lb1_21 := Lib.hid kb1.out.lt)); (try (have fb0_0 := kb0.out.free 0)); (try (have eb0_0 := kb0.out.cell 0 rfl)); (try (have fb1_0 := kb1.out.free 0)); (try (have eb1_0 := kb1.out.cell 0 rfl)); clear hb0 ho; clear cx0_0 cx1_0 cxW_0 cxx0_0 cxx1_0 cxg_0; have HC21 := Lib.hid ((HC20.out).trans (hb.mono (HC20.out).size)); have HZ21 := Lib.hid hb.size; have HB21 := Lib.hid ((HB20.out).trans (hb.mono (HB20.out).size)); have HS21 := Lib.hid (HS20.out.trans (hb.mono HS20.out.size)); have HLg_21 := Lib.hid (HLg_20.out.below hb); have HLv0_21 := Lib.hid (HLv0_20.out.below hb); have HX0_0_21 := Lib.hid ((hb.cell (p := ⟨w.heap.size, 0, none⟩) HXS0_20.out).trans HX0_0_20.out); have HXS0_21 := Lib.hid (Nat.lt_of_lt_of_le HXS0_20.out hb.size); have HX1_0_21 := Lib.hid ((hb.cell (p := ⟨w.heap.size + 1, 0, none⟩) HXS1_20.out).trans HX1_0_20.out); have HXS1_21 := Lib.hid (Nat.lt_of_lt_of_le HXS1_20.out hb.size); have HXW_0_21 := Lib.hid ((hb.cell (p := ⟨gW, 0, none⟩) HXSW_20.out).trans HXW_0_20.out); have HXSW_21 := Lib.hid (Nat.lt_of_lt_of_le HXSW_20.out hb.size); have HXx0_0_21 := Lib.hid ((hb.cell (p := ⟨W4.heap.size, 0, none⟩) HXSx0_20.out).trans HXx0_0_20.out); have HXSx0_21 := Lib.hid (Nat.lt_of_lt_of_le HXSx0_20.out hb.size); have HXx1_0_21 := Lib.hid ((hb.cell (p := ⟨W6.heap.size, 0, none⟩) HXSx1_20.out).trans HXx1_0_20.out); have HXSx1_21 := Lib.hid (Nat.lt_of_lt_of_le HXSx1_20.out hb.size); have HXg_0_21 := Lib.hid ((hb.cell (p := ⟨W8.heap.size, 0, none⟩) HXSg_20.out).trans HXg_0_20.out); have HXSg_21 := Lib.hid (Nat.lt_of_lt_of_le HXSg_20.out hb.size); clear hb; have HLv1_21 := Lib.hid ho2; clear ho2; have HTv1 := Lib.hid HLv1_21.out.ins; have cx0_0 := HX0_0_21.out; have cx1_0 := HX1_0_21.out; have cxW_0 := HXW_0_21.out; have cxx0_0 := HXx0_0_21.out; have cxx1_0 := HXx1_0_21.out; have cxg_0 := HXg_0_21.out) | (go_at_call 55; refine (impl_AddSquares (a := X0) (b := X1) (HLv0_21.out.reads.below (by repeat (first | exact Below.refl _ _ | refine below_drewN ?_ _ | refine Below.drew ?_ | refine Below.alloc ?_ (by first | exact Nat.le_refl _ | (simp; done) | (simp; omega)) _))) (by omega) (HLv1_21.out.reads.below (by repeat (first | exact Below.refl _ _ | refine below_drewN ?_ _ | refine Below.drew ?_ | refine Below.alloc ?_ (by first | exact Nat.le_refl _ | (simp; done) | (simp; omega)) _))) (by omega)).mono ?_; rintro e W22 ⟨Ah, nh, ch, vh, rfl, ho, hb0⟩; have hb : Below W21.heap.size W21 W22 := Below.trans (by repeat (first | exact Below.refl _ _ | refine below_drewN ?_ _ | refine Below.drew ?_ | refine Below.alloc ?_ (by first | exact Nat.le_refl _ | (simp; done) | (simp; omega)) _)) (Below.mono hb0 (by first | exact Nat.le_refl _ | exact Nat.le_succ _ | (simp; done) | (simp; omega))); (try (have kb0 := Lib.hid (Blk.below (by exact kb0.out) hb0))); (try (have kb1 := Lib.hid (Blk.below (by exact kb1.out) hb0))); (try (have kb2 := Lib.hid (Blk.below (by exact Blk.new W21 #[.slice none 0 0] 34) hb0))); (try (have qb2 := Lib.hid (HC21.out).size)); (try (have lb0_22 := Lib.hid kb0.out.lt)); (try (have lb1_22 := Lib.hid kb1.out.lt)); (try (have lb2_22 := Lib.hid kb2.out.lt)); (try (have fb0_0 := kb0.out.free 0)); (try (have eb0_0 := kb0.out.cell 0 rfl)); (try (have fb1_0 := kb1.out.free 0)); (try (have eb1_0 := kb1.out.cell 0 rfl)); (try (have fb2_0 := kb2.out.free 0)); (try (have eb2_0 := kb2.out.cell 0 rfl)); have ho2 : OwnS W22 W21.heap.size Ah nh ch vh (pAddSquares X0 X1).1 := ho.mono (by first | exact Nat.le_refl _ | exact Nat.le_succ _ | (simp; done) | (simp; omega)); have HO0 := Lib.hid ho; clear ho; clear hb0; clear cx0_0 cx1_0 cxW_0 cxx0_0 cxx1_0 cxg_0; have HC22 := Lib.hid ((HC21.out).trans (hb.mono (HC21.out).size)); have HZ22 := Lib.hid hb.size; have HB22 := Lib.hid ((HB21.out).trans (hb.mono (HB21.out).size)); have HS22 := Lib.hid (HS21.out.trans (hb.mono HS21.out.size)); have HLg_22 := Lib.hid (HLg_21.out.below hb); have HLv0_22 := Lib.hid (HLv0_21.out.below hb); have HLv1_22 := Lib.hid (HLv1_21.out.below hb); have HX0_0_22 := Lib.hid ((hb.cell (p := ⟨w.heap.size, 0, none⟩) HXS0_21.out).trans HX0_0_21.out); have HXS0_22 := Lib.hid (Nat.lt_of_lt_of_le HXS0_21.out hb.size); have HX1_0_22 := Lib.hid ((hb.cell (p := ⟨w.heap.size + 1, 0, none⟩) HXS1_21.out).trans HX1_0_21.out); have HXS1_22 := Lib.hid (Nat.lt_of_lt_of_le HXS1_21.out hb.size); have HXW_0_22 := Lib.hid ((hb.cell (p := ⟨gW, 0, none⟩) HXSW_21.out).trans HXW_0_21.out); have HXSW_22 := Lib.hid (Nat.lt_of_lt_of_le HXSW_21.out hb.size); have HXx0_0_22 := Lib.hid ((hb.cell (p := ⟨W4.heap.size, 0, none⟩) HXSx0_21.out).trans HXx0_0_21.out); have HXSx0_22 := Lib.hid (Nat.lt_of_lt_of_le HXSx0_21.out hb.size); have HXx1_0_22 := Lib.hid ((hb.cell (p := ⟨W6.heap.size, 0, none⟩) HXSx1_21.out).trans HXx1_0_21.out); have HXSx1_22 := Lib.hid (Nat.lt_of_lt_of_le HXSx1_21.out hb.size); have HXg_0_22 := Lib.hid ((hb.cell (p := ⟨W8.heap.size, 0, none⟩) HXSg_21.out).trans HXg_0_21.out); have HXSg_22 := Lib.hid (Nat.lt_of_lt_of_le HXSg_21.out hb.size); clear hb; have HLh_22 := Lib.hid ho2; clear ho2; have HTh := Lib.hid HLh_22.out.ins; have cx0_0 := HX0_0_22.out; have cx1_0 := HX1_0_22.out; have cxW_0 := HXW_0_22.out; have cxx0_0 := HXx0_0_22.out; have cxx1_0 := HXx1_0_22.out; have cxg_0 := HXg_0_22.out)))
    all_goals (go_wp2_with fail; go_meet; first | exact ⟨_, Ah, nh, ch, vh, rfl, rfl, BoxS.early kb0.out (by have := qb0.out; omega) HC22.out HO0.out (by first | exact lb0_21.out | (simp; done) | (simp; omega))⟩ | exact ⟨_, Ah, nh, ch, vh, rfl, rfl, BoxS.early kb1.out (by have := qb1.out; omega) HC22.out HO0.out (by first | exact lb1_21.out | (simp; done) | (simp; omega))⟩ | exact ⟨_, Ah, nh, ch, vh, rfl, rfl, BoxS.early kb2.out (by have := qb2.out; omega) HC22.out HO0.out (by first | exact lb2_21.out | (simp; done) | (simp; omega))⟩ | exact ⟨_, Ah, nh, ch, vh, rfl, rfl, BoxS.last HC22.out (HO0.out.mono (by first | exact HC21.out.size | (simp; done) | omega))⟩)
  obtain ⟨gh, Ah, nh, ch, vh, rfl, rfl, hbox2⟩ := hcut
  have hb := hbox2.bel
  have hgl := hbox2.lt
  have hgg := hbox2.ge
  generalize wc = W20 at *
  have HXh_0_20 := Lib.hid (hbox2.blk.cell 0 rfl)
  have HXSh_20 := Lib.hid hgl
  have HXGh := Lib.hid hgg
  have HLh_20 := Lib.hid hbox2.own
  clear hgl hgg hbox2
  have HZ20 := Lib.hid hb.size
  have HB20 := Lib.hid ((HB19.out).trans (hb.mono (HB19.out).size))
  have HS20 := Lib.hid (HS19.out.trans (hb.mono HS19.out.size))
  have HLg_20 := Lib.hid (HLg_19.out.below hb)
  have HX0_0_20 := Lib.hid ((hb.cell (p := ⟨w.heap.size, 0, none⟩) HXS0_19.out).trans HX0_0_19.out)
  have HXS0_20 := Lib.hid (Nat.lt_of_lt_of_le HXS0_19.out hb.size)
  have HX1_0_20 := Lib.hid ((hb.cell (p := ⟨w.heap.size + 1, 0, none⟩) HXS1_19.out).trans HX1_0_19.out)
  have HXS1_20 := Lib.hid (Nat.lt_of_lt_of_le HXS1_19.out hb.size)
  have HXW_0_20 := Lib.hid ((hb.cell (p := ⟨gW, 0, none⟩) HXSW_19.out).trans HXW_0_19.out)
  have HXSW_20 := Lib.hid (Nat.lt_of_lt_of_le HXSW_19.out hb.size)
  have HXx0_0_20 := Lib.hid ((hb.cell (p := ⟨W4.heap.size, 0, none⟩) HXSx0_19.out).trans HXx0_0_19.out)
  have HXSx0_20 := Lib.hid (Nat.lt_of_lt_of_le HXSx0_19.out hb.size)
  have HXx1_0_20 := Lib.hid ((hb.cell (p := ⟨W6.heap.size, 0, none⟩) HXSx1_19.out).trans HXx1_0_19.out)
  have HXSx1_20 := Lib.hid (Nat.lt_of_lt_of_le HXSx1_19.out hb.size)
  have HXg_0_20 := Lib.hid ((hb.cell (p := ⟨W8.heap.size, 0, none⟩) HXSg_19.out).trans HXg_0_19.out)
  have HXSg_20 := Lib.hid (Nat.lt_of_lt_of_le HXSg_19.out hb.size)
  clear hb
  have HTh := Lib.hid HLh_20.out.ins
  obtain rfl : nh = ng := by rw [← HLh_20.out.len, HRW.out.len]
  have cx0_0 := HX0_0_20.out
  have cx1_0 := HX1_0_20.out
  have cxW_0 := HXW_0_20.out
  have cxx0_0 := HXx0_0_20.out
  have cxx1_0 := HXx1_0_20.out
  have cxg_0 := HXg_0_20.out
  have cxh_0 := HXh_0_20.out
  go_wp2_with fail
  clear cx0_0 cx1_0 cxW_0 cxx0_0 cxx1_0 cxg_0 cxh_0
  refine (eq_Squares HLh_20.out.reads (HRW.out.below HS20.out)).mono ?_
  rintro e W21 ⟨rfl, hb⟩
  have HZ21 := Lib.hid hb.size
  have HB21 := Lib.hid ((HB20.out).trans (hb.mono (HB20.out).size))
  have HS21 := Lib.hid (HS20.out.trans (hb.mono HS20.out.size))
  have HLg_21 := Lib.hid (HLg_20.out.below hb)
  have HLh_21 := Lib.hid (HLh_20.out.below hb)
  have HX0_0_21 := Lib.hid ((hb.cell (p := ⟨w.heap.size, 0, none⟩) HXS0_20.out).trans HX0_0_20.out)
  have HXS0_21 := Lib.hid (Nat.lt_of_lt_of_le HXS0_20.out hb.size)
  have HX1_0_21 := Lib.hid ((hb.cell (p := ⟨w.heap.size + 1, 0, none⟩) HXS1_20.out).trans HX1_0_20.out)
  have HXS1_21 := Lib.hid (Nat.lt_of_lt_of_le HXS1_20.out hb.size)
  have HXW_0_21 := Lib.hid ((hb.cell (p := ⟨gW, 0, none⟩) HXSW_20.out).trans HXW_0_20.out)
  have HXSW_21 := Lib.hid (Nat.lt_of_lt_of_le HXSW_20.out hb.size)
  have HXx0_0_21 := Lib.hid ((hb.cell (p := ⟨W4.heap.size, 0, none⟩) HXSx0_20.out).trans HXx0_0_20.out)
  have HXSx0_21 := Lib.hid (Nat.lt_of_lt_of_le HXSx0_20.out hb.size)
  have HXx1_0_21 := Lib.hid ((hb.cell (p := ⟨W6.heap.size, 0, none⟩) HXSx1_20.out).trans HXx1_0_20.out)
  have HXSx1_21 := Lib.hid (Nat.lt_of_lt_of_le HXSx1_20.out hb.size)
  have HXg_0_21 := Lib.hid ((hb.cell (p := ⟨W8.heap.size, 0, none⟩) HXSg_20.out).trans HXg_0_20.out)
  have HXSg_21 := Lib.hid (Nat.lt_of_lt_of_le HXSg_20.out hb.size)
  have HXh_0_21 := Lib.hid ((hb.cell (p := ⟨gh, 0, none⟩) HXSh_20.out).trans HXh_0_20.out)
  have HXSh_21 := Lib.hid (Nat.lt_of_lt_of_le HXSh_20.out hb.size)
  clear hb
  have cx0_0 := HX0_0_21.out
  have cx1_0 := HX1_0_21.out
  have cxW_0 := HXW_0_21.out
  have cxx0_0 := HXx0_0_21.out
  have cxx1_0 := HXx1_0_21.out
  have cxg_0 := HXg_0_21.out
  have cxh_0 := HXh_0_21.out
  go_wp2_with fail
  clear cx0_0 cx1_0 cxW_0 cxx0_0 cxx1_0 cxg_0 cxh_0
  refine (held_Squares HLg_21.out.reads (by omega) (by omega)).mono ?_
  rintro e W22 ⟨rfl, hb⟩
  have HZ22 := Lib.hid hb.size
  have HB22 := Lib.hid ((HB21.out).trans (hb.mono (HB21.out).size))
  have HS22 := Lib.hid (HS21.out.trans (hb.mono HS21.out.size))
  have HLg_22 := Lib.hid (HLg_21.out.below hb)
  have HLh_22 := Lib.hid (HLh_21.out.below hb)
  have HX0_0_22 := Lib.hid ((hb.cell (p := ⟨w.heap.size, 0, none⟩) HXS0_21.out).trans HX0_0_21.out)
  have HXS0_22 := Lib.hid (Nat.lt_of_lt_of_le HXS0_21.out hb.size)
  have HX1_0_22 := Lib.hid ((hb.cell (p := ⟨w.heap.size + 1, 0, none⟩) HXS1_21.out).trans HX1_0_21.out)
  have HXS1_22 := Lib.hid (Nat.lt_of_lt_of_le HXS1_21.out hb.size)
  have HXW_0_22 := Lib.hid ((hb.cell (p := ⟨gW, 0, none⟩) HXSW_21.out).trans HXW_0_21.out)
  have HXSW_22 := Lib.hid (Nat.lt_of_lt_of_le HXSW_21.out hb.size)
  have HXx0_0_22 := Lib.hid ((hb.cell (p := ⟨W4.heap.size, 0, none⟩) HXSx0_21.out).trans HXx0_0_21.out)
  have HXSx0_22 := Lib.hid (Nat.lt_of_lt_of_le HXSx0_21.out hb.size)
  have HXx1_0_22 := Lib.hid ((hb.cell (p := ⟨W6.heap.size, 0, none⟩) HXSx1_21.out).trans HXx1_0_21.out)
  have HXSx1_22 := Lib.hid (Nat.lt_of_lt_of_le HXSx1_21.out hb.size)
  have HXg_0_22 := Lib.hid ((hb.cell (p := ⟨W8.heap.size, 0, none⟩) HXSg_21.out).trans HXg_0_21.out)
  have HXSg_22 := Lib.hid (Nat.lt_of_lt_of_le HXSg_21.out hb.size)
  have HXh_0_22 := Lib.hid ((hb.cell (p := ⟨gh, 0, none⟩) HXSh_21.out).trans HXh_0_21.out)
  have HXSh_22 := Lib.hid (Nat.lt_of_lt_of_le HXSh_21.out hb.size)
  clear hb
  have cx0_0 := HX0_0_22.out
  have cx1_0 := HX1_0_22.out
  have cxW_0 := HXW_0_22.out
  have cxx0_0 := HXx0_0_22.out
  have cxx1_0 := HXx1_0_22.out
  have cxg_0 := HXg_0_22.out
  have cxh_0 := HXh_0_22.out
  go_wp2
  go_ret
  exact ⟨rfl, HB00.out.trans ((HB22.out).mono HB00.out.size)⟩

set_option maxRecDepth 100000 in
theorem lifted (os : Os) (started : os.Started) (H : Type) (enc : TypeId × Value → H) :
    ReturnsInHanded {} Try.checked os 12 .any (Rows.fnExactAddSquaresSpec.pre6 enc Try.prog Try.f12 Rows.fnExactAddSquaresRow.domain false) (Rows.fnExactAddSquaresSpec.post enc Try.prog Try.f12 false true false false) := by
  refine returnsInHanded_of_change (C := Try.checked) own started (by kernel_rfl) Try.func12
    (ChangeSpec.witness6 (enc := enc) (C := Try.checked) false ⟨#[], #[.agg #[.slice none 0 0], .agg #[.slice none 0 0]], []⟩ 8 (by kernel_rfl) (by kernel_rfl) (by kernel_rfl) (by kernel_rfl)) ?_
  intro W base args ds gs before hval0 hW hcnd _
  have hval : ∀ (j : Nat) t v, Try.f12.params[j]? = some t → args[j]? = some v → Value.okWide Try.prog W .any base t v := hval0
  have hW' := hW
  obtain ⟨p, q, hA0, hV, rfl, hfz, hnd⟩ := hW
  have hA : DataW.TrodAll enc Try.prog W 0 (fun _ => true) true Try.f12.params.toList args.toList ds p := hA0
  rw [Try.params12] at hA hval
  obtain ⟨v0, vs0, d0, ds0, p0, q0, hargs, rfl, rfl, h0, r0⟩ := trodAll_cons hA
  obtain ⟨v1, vs1, d1, ds1, p1, q1, rfl, rfl, rfl, h1, r1⟩ := trodAll_cons r0
  obtain ⟨rfl, rfl, rfl⟩ := trodAll_nil r1
  obtain rfl : args = #[v0, v1] := by cases args; simp_all
  obtain ⟨rfl, rfl⟩ := trodVars_none hV
  have t0 := h0
  have lt0 : ∀ x ∈ p0, x.block < W.heap.size := by obtain ⟨m, hm⟩ := t0; exact DataW.trod_lt m _ _ _ hm
  obtain ⟨c10, y10, m0, hv0, hd0, hp0, hy0⟩ := open_agg1 Try.underlying29 (by kernel_rfl) (by kernel_rfl) (hval 0 29 v0 rfl rfl) h0
  obtain ⟨A0, n0, c0, V0, X0, g0, rr0⟩ := open_SS hy0
  have g01 := List.cons.inj g0
  have g02 := g01.1
  rw [g02] at hv0
  clear hy0 g0 g01
  subst hv0
  have t1 := h1
  have lt1 : ∀ x ∈ p1, x.block < W.heap.size := by obtain ⟨m, hm⟩ := t1; exact DataW.trod_lt m _ _ _ hm
  obtain ⟨c11, y11, m1, hv1, hd1, hp1, hy1⟩ := open_agg1 Try.underlying29 (by kernel_rfl) (by kernel_rfl) (hval 1 29 v1 rfl rfl) h1
  obtain ⟨A1, n1, c1, V1, X1, g1, rr1⟩ := open_SS hy1
  have g11 := List.cons.inj g1
  have g12 := g11.1
  rw [g12] at hv1
  clear hy1 g1 g11
  subst hv1
  clear hA0 hval0
  refine (walk A0 n0 c0 V0 X0 A1 n1 c1 V1 X1 W rr0 rr1).mono fun e W' ⟨he, bel⟩ => ?_
  subst he
  exact ⟨_, rfl, _, _, _, [], _, [], hW', trodAll_mk1 (shut_bool Try.underlying4 _), (trodAll_cons_mk (Below.trod laidOut (by kernel_rfl) (of_decide_eq_true (by kernel_rfl)) t0 bel lt0) (trodAll_cons_mk (Below.trod laidOut (by kernel_rfl) (of_decide_eq_true (by kernel_rfl)) t1 bel lt1) trodAll_mk0)), rfl, bel.frame _, fun h => by cases h⟩

theorem closed : joinedFacts Try.prog 12 Try.f12 Rows.fnExactAddSquaresSpec Rows.fnExactAddSquaresRow = true := by
  unfold joinedFacts
  rw [mayEnter_eq, liftsFinal_eq, make_eq]
  kernel_rfl


theorem over : Rows.fnExactAddSquaresRow.holds Try.pinned (OpenSpec.ofChange Rows.fnExactAddSquaresSpec) :=
  OpenClaim.holds_of_wide 12 Try.f12 rfl rfl rfl rfl rfl rfl rfl ⟨rfl, rfl, rfl, rfl, rfl⟩ rfl rfl rfl rfl rfl (by kernel_rfl) Try.func12 closed
    (of_decide_eq_true (by kernel_rfl)) (by unfold Func.isWrapper; first | (rw [if_pos (by decide +kernel)]; kernel_rfl) | (rw [if_neg (by decide +kernel)]; exact ⟨rfl, rfl⟩))
    (fun os started H enc _ => lifted os started H enc)

theorem proved : Rows.FnExactAddSquaresSaid := over
#print axioms proved
end Go.Proofs.Ytpgmggkpnefaeaa.fnExactAddSquares
