/- Closed profiles: IsClosedProfile of both. -/
import Derived.Test.YtiajkfgicpidkaaCl
namespace Go.Proofs.Ytiajkfgicpidkaa
open Go.ChangeShapes Go.WideShapes Go.ChangeAt Go.RowKit
set_option linter.unusedVariables false

def clB (xs : List Int) (i j : Nat) : Bool := decide (min (xs.getD j 0) (xs.getD i 0 - ((j : Int) + 1)) ≤ xs.getD (i + j + 1) 0)

def closedB (xs : List Int) : Bool := (List.range xs.length).all fun i => (List.range xs.length).all (clB xs i)

def pIsClosedProfile (xs : List Int) : Bool × Int := if pIsProfile xs = true then (closedB xs, 0) else (false, 1)

theorem impl_needed (A : Option Addr) (n c : Nat) (xs : List Int) (i j : Nat) (w : World) (h : RI w A n xs) (hx : Prf xs) (hi : i ≤ 1000) (hj : j ≤ 1000) :
    Calls Try.prog 94 #[.slice A n c, .int .i64 ((i : Int) + 1), .int .i64 ((j : Int) + 1)] w fun e w' => e = .returned (.int .i64 (min (xs.getD j 0) (xs.getD i 0 - ((j : Int) + 1)))) ∧ w = w' := by
  have C1 := Lib.hid (impl_at A n c xs ((j : Int) + 1) w h (by omega) (by omega))
  have C2 := Lib.hid (impl_at A n c xs ((i : Int) + 1) w h (by omega) (by omega))
  rw [show ((j : Int) + 1 - 1).toNat = j by omega] at C1
  rw [show ((i : Int) + 1 - 1).toNat = i by omega] at C2
  have b1 := prf_get hx j
  have b2 := prf_get hx i
  obtain ⟨b11, b12⟩ := b1
  obtain ⟨b21, b22⟩ := b2
  clear h hx
  generalize xs.getD j 0 = x at *
  generalize xs.getD i 0 = y at *
  by_cases hm : y - ((j : Int) + 1) < x
  · have HM := Lib.hid (show min x (y - ((j : Int) + 1)) = y - ((j : Int) + 1) by omega)
    go_enter Try.func94, Try.ntmps94
    go_wp2_with fail
    refine C1.out.mono ?_
    rintro e w3 ⟨rfl, rfl⟩
    go_wp2_with fail
    refine C2.out.mono ?_
    rintro e w3 ⟨rfl, rfl⟩
    go_wp2
    go_ret
    exact ⟨by rw [HM.out]; rfl, rfl⟩
  · have HM := Lib.hid (show min x (y - ((j : Int) + 1)) = x by omega)
    have hm' : x ≤ y - ((j : Int) + 1) := by omega
    clear hm
    go_enter Try.func94, Try.ntmps94
    go_wp2_with fail
    refine C1.out.mono ?_
    rintro e w3 ⟨rfl, rfl⟩
    go_wp2_with fail
    refine C2.out.mono ?_
    rintro e w3 ⟨rfl, rfl⟩
    go_wp2
    go_ret
    exact ⟨by rw [HM.out]; rfl, rfl⟩

set_option maxHeartbeats 800000 in
theorem impl_isClosed (A : Option Addr) (n c : Nat) (xs : List Int) (w : World) (h : RI w A n xs) (hx : Prf xs) (hn : n ≤ 16) :
    Calls Try.prog 81 #[.slice A n c] w fun e w' => e = .returned (.bool (closedB xs)) ∧ w = w' := by
  have hl := h.len
  have H := Lib.hid h
  have HX := Lib.hid hx
  have hf : closedB xs = (List.range n).all fun i => (List.range n).all (clB xs i) := by unfold closedB; rw [hl]
  have HF := Lib.hid hf
  clear h hx hf hl
  go_enter Try.func81, Try.ntmps81
  go_wp2
  go_loop [7] (fun iv => ∃ i : Nat, i ≤ n ∧ iv = .int .i64 i ∧ (List.range i).all (fun i => (List.range n).all (clB xs i)) = true) (fun iv => n - (intOf iv).toNat)
  case atStart => exact ⟨0, Nat.zero_le _, rfl, by simp⟩
  case round =>
    obtain ⟨i, hi, rfl, hall⟩ := hrel
    have HA := Lib.hid hall
    clear hall
    by_cases hlt : i < n
    · have hlt' : (i : Int) < (n : Int) := by omega
      go_wp2
      go_loop [12] (fun jv => ∃ j : Nat, j ≤ n ∧ jv = .int .i64 j ∧ (List.range j).all (clB xs i) = true) (fun jv => n - (intOf jv).toNat)
      case atStart => exact ⟨0, Nat.zero_le _, rfl, by simp⟩
      case round =>
        obtain ⟨j, hj, rfl, hallj⟩ := hrel
        have HAJ := Lib.hid hallj
        clear hallj
        by_cases hltj : j < n
        · have hltj' : (j : Int) < (n : Int) := by omega
          have HC1 := Lib.hid (impl_at A n c xs ((i : Int) + (j : Int) + 2) w H.out (by omega) (by omega))
          rw [show ((i : Int) + (j : Int) + 2 - 1).toNat = i + j + 1 by omega] at HC1
          have HC2 := Lib.hid (impl_needed A n c xs i j w H.out HX.out (by omega) (by omega))
          have hra := range_all (clB xs i) j
          have hrf := range_fail (clB xs i) j n hltj
          have hro := range_fail (fun i => (List.range n).all (clB xs i)) i n hlt
          have hcb : clB xs i j = decide (min (xs.getD j 0) (xs.getD i 0 - ((j : Int) + 1)) ≤ xs.getD (i + j + 1) 0) := rfl
          generalize min (xs.getD j 0) (xs.getD i 0 - ((j : Int) + 1)) = x at *
          generalize xs.getD (i + j + 1) 0 = y at *
          by_cases hxy : x ≤ y
          · rw [decide_eq_true hxy] at hcb
            have HR := Lib.hid (show (List.range (j + 1)).all (clB xs i) = true by rw [hra, HAJ.out, hcb]; rfl)
            clear hra hrf hcb hro
            go_wp2_with fail
            refine HC1.out.mono ?_
            rintro e w3 ⟨rfl, rfl⟩
            go_wp2_with fail
            refine HC2.out.mono ?_
            rintro e w3 ⟨rfl, rfl⟩
            go_wp2
            go_round
            case rel => exact ⟨j + 1, by omega, by go_num, HR.out⟩
            case measure => simp [intOf]; omega
          · rw [decide_eq_false hxy] at hcb
            have HR := Lib.hid (hro (hrf hcb))
            have hyx : y < x := by omega
            clear hra hrf hcb hxy hro
            go_wp2_with fail
            refine HC1.out.mono ?_
            rintro e w3 ⟨rfl, rfl⟩
            go_wp2_with fail
            refine HC2.out.mono ?_
            rintro e w3 ⟨rfl, rfl⟩
            go_wp2
            go_ret
            exact ⟨by rw [HF.out, HR.out]; rfl, rfl⟩
        · obtain rfl : j = n := by omega
          have hra := range_all (fun i => (List.range j).all (clB xs i)) i
          have HR := Lib.hid (show (List.range (i + 1)).all (fun i => (List.range j).all (clB xs i)) = true by rw [hra, HA.out, HAJ.out]; rfl)
          clear hra
          go_wp2
          go_round
          case rel => exact ⟨i + 1, by omega, by go_num, HR.out⟩
          case measure => simp [intOf]; omega
    · obtain rfl : i = n := by omega
      go_wp2
      go_ret
      exact ⟨by rw [HF.out, HA.out]; rfl, rfl⟩

set_option maxHeartbeats 800000 in
theorem spec_l07Closed (A : Option Addr) (n c : Nat) (xs : List Int) (w : World) (h : RI w A n xs) (hx : Prf xs) (hn : n ≤ 16) :
    Calls Try.prog 80 #[.slice A n c] w fun e w' => e = .returned (.bool (closedB xs)) ∧ w = w' := by
  have hl := h.len
  have H := Lib.hid h
  have HX := Lib.hid hx
  have hf : closedB xs = (List.range n).all fun i => (List.range n).all (clB xs i) := by unfold closedB; rw [hl]
  have HF := Lib.hid hf
  clear h hx hf hl
  go_enter Try.func80, Try.ntmps80
  go_wp2
  go_loop [3] (fun iv => ∃ i : Nat, i ≤ n ∧ iv = .int .i64 ((i : Int) + 1) ∧ (List.range i).all (fun i => (List.range n).all (clB xs i)) = true) (fun iv => n + 1 - (intOf iv).toNat)
  case atStart => exact ⟨0, Nat.zero_le _, rfl, by simp⟩
  case round =>
    obtain ⟨i, hi, rfl, hall⟩ := hrel
    have HA := Lib.hid hall
    clear hall
    by_cases hlt : i < n
    · have hlt' : (i : Int) + 1 ≤ (n : Int) := by omega
      go_wp2
      go_loop [4] (fun jv => ∃ j : Nat, j ≤ n ∧ jv = .int .i64 ((j : Int) + 1) ∧ (List.range j).all (clB xs i) = true) (fun jv => n + 1 - (intOf jv).toNat)
      case atStart => exact ⟨0, Nat.zero_le _, rfl, by simp⟩
      case round =>
        obtain ⟨j, hj, rfl, hallj⟩ := hrel
        have HAJ := Lib.hid hallj
        clear hallj
        by_cases hltj : j < n
        · have hltj' : (j : Int) + 1 ≤ (n : Int) := by omega
          have HC1 := Lib.hid (spec_at A n c xs ((i : Int) + 1 + ((j : Int) + 1)) w H.out (by omega) (by omega))
          rw [show ((i : Int) + 1 + ((j : Int) + 1) - 1).toNat = i + j + 1 by omega] at HC1
          have HC2 := Lib.hid (spec_at A n c xs ((j : Int) + 1) w H.out (by omega) (by omega))
          rw [show ((j : Int) + 1 - 1).toNat = j by omega] at HC2
          have HC3 := Lib.hid (spec_at A n c xs ((i : Int) + 1) w H.out (by omega) (by omega))
          rw [show ((i : Int) + 1 - 1).toNat = i by omega] at HC3
          have hra := range_all (clB xs i) j
          have hrf := range_fail (clB xs i) j n hltj
          have hro := range_fail (fun i => (List.range n).all (clB xs i)) i n hlt
          have hcb : clB xs i j = decide (min (xs.getD j 0) (xs.getD i 0 - ((j : Int) + 1)) ≤ xs.getD (i + j + 1) 0) := rfl
          obtain ⟨b11, b12⟩ := prf_get HX.out j
          obtain ⟨b21, b22⟩ := prf_get HX.out i
          generalize xs.getD j 0 = x1 at *
          generalize xs.getD i 0 = x2 at *
          generalize xs.getD (i + j + 1) 0 = y at *
          by_cases hxy : min x1 (x2 - ((j : Int) + 1)) ≤ y
          · rw [decide_eq_true hxy] at hcb
            have HR := Lib.hid (show (List.range (j + 1)).all (clB xs i) = true by rw [hra, HAJ.out, hcb]; rfl)
            clear hra hrf hcb hro
            go_wp2_with fail
            refine HC1.out.mono ?_
            rintro e w3 ⟨rfl, rfl⟩
            go_wp2_with fail
            refine HC2.out.mono ?_
            rintro e w3 ⟨rfl, rfl⟩
            go_wp2_with fail
            refine HC3.out.mono ?_
            rintro e w3 ⟨rfl, rfl⟩
            by_cases hm : x2 - ((j : Int) + 1) < x1
            · have hxy2 : x2 - ((j : Int) + 1) ≤ y := by omega
              clear hxy
              go_wp2
              go_round
              case rel => exact ⟨j + 1, by omega, by go_num, HR.out⟩
              case measure => simp [intOf]; omega
            · have hxy2 : x1 ≤ y := by omega
              have hm' : x1 ≤ x2 - ((j : Int) + 1) := by omega
              clear hxy hm
              go_wp2
              go_round
              case rel => exact ⟨j + 1, by omega, by go_num, HR.out⟩
              case measure => simp [intOf]; omega
          · rw [decide_eq_false hxy] at hcb
            have HR := Lib.hid (hro (hrf hcb))
            have hyx : y < min x1 (x2 - ((j : Int) + 1)) := by omega
            clear hra hrf hcb hxy hro
            go_wp2_with fail
            refine HC1.out.mono ?_
            rintro e w3 ⟨rfl, rfl⟩
            go_wp2_with fail
            refine HC2.out.mono ?_
            rintro e w3 ⟨rfl, rfl⟩
            go_wp2_with fail
            refine HC3.out.mono ?_
            rintro e w3 ⟨rfl, rfl⟩
            by_cases hm : x2 - ((j : Int) + 1) < x1
            · have hxy2 : y < x2 - ((j : Int) + 1) := by omega
              clear hyx
              go_wp2
              go_ret
              exact ⟨by rw [HF.out, HR.out]; rfl, rfl⟩
            · have hxy2 : y < x1 := by omega
              have hm' : x1 ≤ x2 - ((j : Int) + 1) := by omega
              clear hyx hm
              go_wp2
              go_ret
              exact ⟨by rw [HF.out, HR.out]; rfl, rfl⟩
        · obtain rfl : j = n := by omega
          have hltj' : (j : Int) < (j : Int) + 1 := by omega
          have hra := range_all (fun i => (List.range j).all (clB xs i)) i
          have HR := Lib.hid (show (List.range (i + 1)).all (fun i => (List.range j).all (clB xs i)) = true by rw [hra, HA.out, HAJ.out]; rfl)
          clear hra
          go_wp2
          go_round
          case rel => exact ⟨i + 1, by omega, by go_num, HR.out⟩
          case measure => simp [intOf]; omega
    · obtain rfl : i = n := by omega
      have hlt' : (i : Int) < (i : Int) + 1 := by omega
      go_wp2
      go_ret
      exact ⟨by rw [HF.out, HA.out]; rfl, rfl⟩

theorem impl_IsClosedProfile (A : Option Addr) (n c : Nat) (xs : List Int) (w : World) (h : RI w A n xs) (hn : n ≤ 1048576) :
    Calls Try.prog 33 #[.slice A n c] w fun e w' => e = .returned (.tuple #[.bool (pIsClosedProfile xs).1, .int .i64 (pIsClosedProfile xs).2]) ∧ Below w.heap.size w w' := by
  have C1 := Lib.hid (impl_IsProfile A n c xs w h hn)
  have hl := h.len
  have H := Lib.hid h
  clear h
  cases hp : pIsProfile xs with
  | true =>
    have hpt := pIsProfile_true hp
    have C2 := Lib.hid (fun w1 (hb : Below w.heap.size w w1) => impl_isClosed A n c xs w1 (H.out.below hb) hpt.2 (by omega))
    have hf : pIsClosedProfile xs = (closedB xs, 0) := by unfold pIsClosedProfile; rw [if_pos hp]
    have HF := Lib.hid hf
    have HP := Lib.hid hp
    clear hpt hl hf hp
    go_enter Try.func33, Try.ntmps33
    go_wp2_with fail
    refine C1.out.mono ?_
    rintro e w1 ⟨rfl, hb⟩
    rw [HP.out]
    have HB := Lib.hid hb
    clear hb
    go_wp2_with fail
    refine (C2.out _ HB.out).mono ?_
    rintro e w2 ⟨rfl, rfl⟩
    go_wp2
    go_ret2
    exact ⟨by rw [HF.out]; rfl, HB.out⟩
  | false =>
    have hf : pIsClosedProfile xs = (false, 1) := by unfold pIsClosedProfile; rw [if_neg (by rw [hp]; simp)]
    have HF := Lib.hid hf
    have HP := Lib.hid hp
    clear hf hp hl
    go_enter Try.func33, Try.ntmps33
    go_wp2_with fail
    refine C1.out.mono ?_
    rintro e w1 ⟨rfl, hb⟩
    rw [HP.out]
    have HB := Lib.hid hb
    clear hb
    go_wp2
    go_ret2
    exact ⟨by rw [HF.out]; rfl, HB.out⟩

theorem spec_IsClosedProfile (A : Option Addr) (n c : Nat) (xs : List Int) (w : World) (h : RI w A n xs) (hn : n ≤ 1048576) :
    Calls Try.prog 32 #[.slice A n c] w fun e w' => e = .returned (.tuple #[.bool (pIsClosedProfile xs).1, .int .i64 (pIsClosedProfile xs).2]) ∧ Below w.heap.size w w' := by
  have C1 := Lib.hid (spec_l07Is A n c xs w h)
  have hl := h.len
  have H := Lib.hid h
  clear h
  cases hp : pIsProfile xs with
  | true =>
    have hpt := pIsProfile_true hp
    have C2 := Lib.hid (fun w1 (hb : Below w.heap.size w w1) => spec_l07Closed A n c xs w1 (H.out.below hb) hpt.2 (by omega))
    have hf : pIsClosedProfile xs = (closedB xs, 0) := by unfold pIsClosedProfile; rw [if_pos hp]
    have HF := Lib.hid hf
    have HP := Lib.hid hp
    clear hpt hl hf hp
    go_enter Try.func32, Try.ntmps32
    go_wp2_with fail
    refine C1.out.mono ?_
    rintro e w1 ⟨rfl, rfl⟩
    rw [HP.out]
    have HB := Lib.hid (Below.refl w.heap.size w)
    go_wp2_with fail
    refine (C2.out _ HB.out).mono ?_
    rintro e w2 ⟨rfl, rfl⟩
    go_wp2
    go_ret2
    exact ⟨by rw [HF.out]; rfl, HB.out⟩
  | false =>
    have hf : pIsClosedProfile xs = (false, 1) := by unfold pIsClosedProfile; rw [if_neg (by rw [hp]; simp)]
    have HF := Lib.hid hf
    have HP := Lib.hid hp
    clear hf hp hl
    go_enter Try.func32, Try.ntmps32
    go_wp2_with fail
    refine C1.out.mono ?_
    rintro e w1 ⟨rfl, rfl⟩
    rw [HP.out]
    have HB := Lib.hid (Below.refl w.heap.size w)
    go_wp2
    go_ret2
    exact ⟨by rw [HF.out]; rfl, HB.out⟩

end Go.Proofs.Ytiajkfgicpidkaa
