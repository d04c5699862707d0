/- spec: a number of at most two digits in decimal. -/
import Derived.Test.YtijdlejngdhpjaaDoorSq
import Derived.Deep.RegionLaw
import Derived.Laws.BytesArg
namespace Go.Proofs.YtijdlejngdhpjaaDoor
open Go.ChangeShapes Go.WideShapes Go.ChangeAt Go.RowKit Go.Proofs
set_option linter.unusedVariables false

theorem conv1 (w : World) (y : Int) : (convert 75 9 (.slice (some ⟨w.heap.size, 0, none⟩) 1 1)).run Tryd.prog (w.alloc (.cells #[.int .u8 y] 5)) = .ok (.string (strOfNums [y])) (w.alloc (.cells #[.int .u8 y] 5)) :=
  run_convert_bytes_arg _ 75 5 Tryd.underlying75 Tryd.underlying5 w.heap.size 0 1 1 [y] rfl (fun i hi => by
    obtain rfl : i = 0 := by omega
    exact cell_new w (.int .u8 y) _) 9 Tryd.underlying9

/-- the digits of a number below 100 -/
def decB (n : Nat) : ByteArray := if n < 10 then strOfNums [48 + (n : Int)] else strOfNums [48 + ((n / 10 : Nat) : Int)] ++ strOfNums [48 + ((n % 10 : Nat) : Int)]

set_option maxRecDepth 100000 in
set_option maxHeartbeats 800000 in
theorem spec_dec1 (n : Nat) (w : World) (hn : n < 10) :
    Calls Tryd.prog 44 #[.int .i64 (n : Int)] w fun e w' => e = .returned (.string (strOfNums [48 + (n : Int)])) ∧ Below w.heap.size w w' := by
  have hn' : (n : Int) < 10 := by omega
  have hcv := conv1 w (48 + (n : Int))
  have HB := Lib.hid (box_below w (.cells #[.int .u8 (48 + (n : Int))] 5))
  go_enter Tryd.func44, Tryd.ntmps44
  go_wp2
  go_ret
  exact ⟨rfl, HB.out⟩

theorem conv_at (W : World) (b : Nat) (y : Int) (h : W.cell? ⟨b, 0, none⟩ = some (.int .u8 y)) : (convert 75 9 (.slice (some ⟨b, 0, none⟩) 1 1)).run Tryd.prog W = .ok (.string (strOfNums [y])) W :=
  run_convert_bytes_arg _ 75 5 Tryd.underlying75 Tryd.underlying5 b 0 1 1 [y] rfl (fun i hi => by
    obtain rfl : i = 0 := by omega
    exact h) 9 Tryd.underlying9

set_option maxRecDepth 100000 in
set_option maxHeartbeats 1600000 in
theorem spec_dec2 (n : Nat) (w : World) (hn : n < 100) (hn1 : 10 ≤ n) :
    Calls Tryd.prog 44 #[.int .i64 (n : Int)] w fun e w' => e = .returned (.string (strOfNums [48 + ((n / 10 : Nat) : Int)] ++ strOfNums [48 + ((n % 10 : Nat) : Int)])) ∧ Below w.heap.size w w' := by
  have hn' : ¬ (n : Int) < 10 := by omega
  have HQ := Lib.hid (show IntKind.i64.wrap ((n : Int) / 10) = ((n / 10 : Nat) : Int) by rw [IntWalk.i64_left, wrap64_id (by omega) (by omega)]; omega)
  have HY := Lib.hid (show IntKind.u8.wrap (IntKind.i64.wrap (48 + (n : Int).tmod 10)) = 48 + ((n % 10 : Nat) : Int) by
    have e : (n : Int).tmod 10 = ((n % 10 : Nat) : Int) := by rw [Int.tmod_eq_emod_of_nonneg (by omega)]; omega
    rw [e, IntWalk.i64_left, wrap64_id (by omega) (by omega)]
    simp [IntKind.wrap, IntKind.bits, IntKind.signed]
    omega)
  have G1 : ∀ w1 : World, (convert 75 9 (.slice (some ⟨w1.heap.size, 0, none⟩) 1 1)).run Tryd.prog (w1.alloc (.cells #[.int .u8 (IntKind.u8.wrap (IntKind.i64.wrap (48 + (n : Int).tmod 10)))] 5)) = .ok (.string (strOfNums [48 + ((n % 10 : Nat) : Int)])) (w1.alloc (.cells #[.int .u8 (IntKind.u8.wrap (IntKind.i64.wrap (48 + (n : Int).tmod 10)))] 5)) := fun w1 => by
    rw [HY.out]; exact conv_at _ _ _ (cell_new w1 _ _)
  have G2 : ∀ w1 : World, (convert 75 9 (.slice (some ⟨w1.heap.size, 0, none⟩) 1 1)).run Tryd.prog (w1.alloc (.cells #[.int .u8 (IntKind.u8.wrap (IntKind.i64.wrap (48 + (n : Int).tmod 10)))] 5)).drew = .ok (.string (strOfNums [48 + ((n % 10 : Nat) : Int)])) (w1.alloc (.cells #[.int .u8 (IntKind.u8.wrap (IntKind.i64.wrap (48 + (n : Int).tmod 10)))] 5)).drew := fun w1 => by
    rw [HY.out]; exact conv_at _ _ _ (cell_new w1 _ _)
  have G3 : ∀ w1 : World, (convert 75 9 (.slice (some ⟨w1.heap.size, 0, none⟩) 1 1)).run Tryd.prog (w1.drew.alloc (.cells #[.int .u8 (IntKind.u8.wrap (IntKind.i64.wrap (48 + (n : Int).tmod 10)))] 5)) = .ok (.string (strOfNums [48 + ((n % 10 : Nat) : Int)])) (w1.drew.alloc (.cells #[.int .u8 (IntKind.u8.wrap (IntKind.i64.wrap (48 + (n : Int).tmod 10)))] 5)) := fun w1 => G1 w1.drew
  have S1 : ¬ 9223372036854775807 < (strOfNums [48 + (n : Int) / 10]).size + (strOfNums [48 + (n : Int) % 10]).size := by rw [strOfNums_size, strOfNums_size]; simp
  have C1 := Lib.hid (fun w1 => spec_dec1 (n / 10) w1 (by omega))
  go_enter Tryd.func44, Tryd.ntmps44
  go_wp2_with fail
  go_region_law (go_simp; go_at_call 44; rw [HQ.out]; refine (C1.out _).mono ?_; rintro e w4 ⟨rfl, hb4⟩; have HB4 := Lib.hid (show Below w.heap.size w w4 from by first | exact ⟨hb4.os, hb4.tape, hb4.output, hb4.size, hb4.block⟩ | exact (box_below w _).trans ((show Below (w.alloc _).heap.size (w.alloc _) w4 from ⟨hb4.os, hb4.tape, hb4.output, hb4.size, hb4.block⟩).mono (box_below w _).size)); first | (have G4 := conv_at w4 w.heap.size _ ((hb4.cell (p := ⟨w.heap.size, 0, none⟩) (by first | exact size_new w _ | exact size_new w.drew _)).trans (cell_new w _ _)); rw [HY.out] at G4) | skip; clear hb4; dsimp only)
  all_goals (
    clear G1 G2 G3 S1
    try clear G4
    go_wp2
    go_ret
    refine ⟨?_, by first | exact HB4.out | exact HB4.out.trans ((box_below w4 _).mono HB4.out.size)⟩
    first | rfl | simp)

end Go.Proofs.YtijdlejngdhpjaaDoor
