/- MultinomialParity of the program and of the reference: both return the same two numbers, for all lists. -/
import Derived.Test.YthmmopbmfgnnnaaAll
namespace Go.Proofs.Ythmmopbmfgnnnaa
open Go.ChangeShapes Go.WideShapes Go.ChangeAt Go.RowKit
set_option linter.unusedVariables false

/-- no digit 1 in two of the numbers, nor in one of them and in s -/
def apartB (s : Int) : List Int → Bool
  | [] => true
  | x :: xs => if (bits .and .i64 s x != 0) = true then false else apartB (bits .or .i64 s x) xs

def pMultinomialParity (xs : List Int) : Int × Int :=
  if xs.length ≤ 20 ∧ xs.all (fun x => inB x 0 1000000000000) = true then (if apartB 0 xs = true then (1, 0) else (0, 0)) else (0, 2)

theorem drop_cons (xs : List Int) (k : Nat) (h : k < xs.length) : xs.drop k = xs.getD k 0 :: xs.drop (k + 1) := by
  rw [List.drop_eq_getElem_cons h]; simp [List.getD, h]

set_option maxHeartbeats 400000 in
theorem impl_apart (A : Option Addr) (n c : Nat) (xs : List Int) (w : World) (h : RI w A n xs) :
    Calls Try.prog 57 #[.slice A n c] w fun e w' => e = .returned (.bool (apartB 0 xs)) ∧ w = w' := by
  have hs := h.small
  have H := Lib.hid h
  clear h
  go_enter Try.func57, Try.ntmps57
  go_wp2
  go_loop [3, 8] (fun sv i => ∃ (k : Nat) (s : Int), k ≤ n ∧ i = .int .i64 k ∧ sv = .int .i64 s ∧ apartB s (xs.drop k) = apartB 0 xs) (fun _ i => n - (intOf i).toNat)
  case atStart => exact ⟨0, 0, Nat.zero_le _, rfl, rfl, by simp⟩
  case round =>
    obtain ⟨k, s, hk, rfl, rfl, ht⟩ := hrel
    have HT := Lib.hid ht
    clear ht
    by_cases hlt : k < n
    · obtain ⟨b, off, rfl, _, hcell⟩ := H.out.at_ hlt
      have hl := H.out.len
      have hdr := drop_cons xs k (by omega)
      generalize xs.getD k 0 = x at *
      have ht := HT.out
      rw [hdr, apartB] at ht
      clear hl hdr HT
      by_cases hp : (bits .and .i64 s x != 0) = true
      · rw [if_pos hp] at ht
        have HT := Lib.hid ht
        clear ht
        go_wp2
        go_ret
        exact ⟨by rw [← HT.out]; rfl, rfl⟩
      · have hp' : (bits .and .i64 s x != 0) = false := by simpa using hp
        rw [if_neg hp] at ht
        have HT := Lib.hid ht
        clear ht hp
        go_wp2
        go_round
        case rel => exact ⟨k + 1, _, by omega, by go_num, rfl, HT.out⟩
        case measure => simp [intOf]; omega
    · obtain rfl : k = n := by omega
      have hl := H.out.len
      have ht := HT.out
      rw [List.drop_of_length_le (by omega), apartB] at ht
      have HT := Lib.hid ht
      clear ht hl
      go_wp2
      go_ret
      exact ⟨by rw [← HT.out]; rfl, rfl⟩

set_option maxHeartbeats 400000 in
theorem spec_apart (A : Option Addr) (n c : Nat) (xs : List Int) (w : World) (h : RI w A n xs) :
    Calls Try.prog 56 #[.slice A n c] w fun e w' => e = .returned (.bool (apartB 0 xs)) ∧ w = w' := by
  have hs := h.small
  have H := Lib.hid h
  clear h
  go_enter Try.func56, Try.ntmps56
  go_wp2
  go_loop [3, 4] (fun sv i => ∃ (k : Nat) (s : Int), k ≤ n ∧ i = .int .i64 k ∧ sv = .int .i64 s ∧ apartB s (xs.drop k) = apartB 0 xs) (fun _ i => n - (intOf i).toNat)
  case atStart => exact ⟨0, 0, Nat.zero_le _, rfl, rfl, by simp⟩
  case round =>
    obtain ⟨k, s, hk, rfl, rfl, ht⟩ := hrel
    have HT := Lib.hid ht
    clear ht
    by_cases hlt : k < n
    · obtain ⟨b, off, rfl, _, hcell⟩ := H.out.at_ hlt
      have hl := H.out.len
      have hdr := drop_cons xs k (by omega)
      generalize xs.getD k 0 = x at *
      have ht := HT.out
      rw [hdr, apartB] at ht
      clear hl hdr HT
      by_cases hp : (bits .and .i64 s x != 0) = true
      · rw [if_pos hp] at ht
        have HT := Lib.hid ht
        clear ht
        go_wp2
        go_ret
        exact ⟨by rw [← HT.out]; rfl, rfl⟩
      · have hp' : (bits .and .i64 s x != 0) = false := by simpa using hp
        rw [if_neg hp] at ht
        have HT := Lib.hid ht
        clear ht hp
        go_wp2
        go_round
        case rel => exact ⟨k + 1, _, by omega, by go_num, rfl, HT.out⟩
        case measure => simp [intOf]; omega
    · obtain rfl : k = n := by omega
      have hl := H.out.len
      have ht := HT.out
      rw [List.drop_of_length_le (by omega), apartB] at ht
      have HT := Lib.hid ht
      clear ht hl
      go_wp2
      go_ret
      exact ⟨by rw [← HT.out]; rfl, rfl⟩

theorem isNumber_pred (w : World) : PredI 46 #[] w (fun x => inB x 0 1000000000000) := by
  refine ⟨Try.call46, fun x w1 hx hb => ?_⟩
  show Calls Try.prog 46 #[.int .i64 x] w1 _
  exact (isNumber_any x w1).mono fun e w' ⟨he, hw⟩ => ⟨he, hw ▸ Below.refl _ _⟩

theorem impl_MultinomialParity (A : Option Addr) (n c : Nat) (xs : List Int) (w : World) (h : RI w A n xs) (hn : n ≤ 1048576) :
    Calls Try.prog 34 #[.slice A n c] w fun e w' => e = .returned (.tuple #[.int .i64 (pMultinomialParity xs).1, .int .i64 (pMultinomialParity xs).2]) ∧ Below w.heap.size w w' := by
  have hl := h.len
  by_cases h20 : n ≤ 20
  · have con := all_any _ _ _ A n c xs w (isNumber_pred w) h
    have hap := fun w1 (hb : Below w.heap.size w w1) => impl_apart A n c xs w1 (h.below hb)
    have CON := Lib.hid con
    have HAP := Lib.hid hap
    have h21 : (n : Int) ≤ 20 := by omega
    have hl20 : xs.length ≤ 20 := by omega
    clear con hap h hl
    by_cases hall : xs.all (fun x => inB x 0 1000000000000) = true
    · by_cases hap : apartB 0 xs = true
      · have hf : pMultinomialParity xs = (1, 0) := by unfold pMultinomialParity; rw [if_pos ⟨hl20, hall⟩, if_pos hap]
        rw [hf]; clear hf
        have HALL := Lib.hid hall
        have HAPT := Lib.hid hap
        clear hall hap
        go_enter Try.func34, Try.ntmps34
        go_wp2_with fail
        refine CON.out.mono ?_
        rintro e w1 ⟨rfl, hb⟩
        rw [HALL.out]
        have HB := Lib.hid hb
        clear hb
        go_wp2_with fail
        refine (HAP.out _ HB.out).mono ?_
        rintro e w2 ⟨rfl, rfl⟩
        rw [HAPT.out]
        go_wp2
        go_ret2
        exact ⟨rfl, HB.out⟩
      · have hap' : apartB 0 xs = false := by simpa using hap
        have hf : pMultinomialParity xs = (0, 0) := by unfold pMultinomialParity; rw [if_pos ⟨hl20, hall⟩, if_neg hap]
        rw [hf]; clear hf
        have HALL := Lib.hid hall
        have HAPT := Lib.hid hap'
        clear hall hap hap'
        go_enter Try.func34, Try.ntmps34
        go_wp2_with fail
        refine CON.out.mono ?_
        rintro e w1 ⟨rfl, hb⟩
        rw [HALL.out]
        have HB := Lib.hid hb
        clear hb
        go_wp2_with fail
        refine (HAP.out _ HB.out).mono ?_
        rintro e w2 ⟨rfl, rfl⟩
        rw [HAPT.out]
        go_wp2
        go_ret2
        exact ⟨rfl, HB.out⟩
    · have hall' : xs.all (fun x => inB x 0 1000000000000) = false := by simpa using hall
      have hf : pMultinomialParity xs = (0, 2) := by unfold pMultinomialParity; rw [if_neg (fun h => hall h.2)]
      rw [hf]; clear hf
      have HALL := Lib.hid hall'
      clear hall hall'
      go_enter Try.func34, Try.ntmps34
      go_wp2_with fail
      refine CON.out.mono ?_
      rintro e w1 ⟨rfl, hb⟩
      rw [HALL.out]
      have HB := Lib.hid hb
      clear hb
      go_wp2
      go_ret2
      exact ⟨rfl, HB.out⟩
  · have hf : pMultinomialParity xs = (0, 2) := by unfold pMultinomialParity; rw [if_neg (fun h => h20 (by omega))]
    rw [hf]; clear hf
    have h21 : (20 : Int) < n := by omega
    clear h hl h20
    go_enter Try.func34, Try.ntmps34
    go_wp2
    go_ret2
    exact ⟨rfl, Below.refl _ _⟩

set_option maxHeartbeats 800000 in
theorem spec_MultinomialParity (A : Option Addr) (n c : Nat) (xs : List Int) (w : World) (h : RI w A n xs) (hn : n ≤ 1048576) :
    Calls Try.prog 33 #[.slice A n c] w fun e w' => e = .returned (.tuple #[.int .i64 (pMultinomialParity xs).1, .int .i64 (pMultinomialParity xs).2]) ∧ Below w.heap.size w w' := by
  have hl := h.len
  by_cases h20 : n ≤ 20
  · have h21 : (n : Int) ≤ 20 := by omega
    have hl20 : xs.length ≤ 20 := by omega
    have H := Lib.hid h
    clear h hl
    go_enter Try.func33, Try.ntmps33
    go_wp2
    go_loop [4] (fun i => ∃ k : Nat, k ≤ n ∧ i = .int .i64 k ∧ (xs.take k).all (fun x => inB x 0 1000000000000) = true) (fun i => n - (intOf i).toNat)
    case atStart => exact ⟨0, Nat.zero_le _, rfl, by simp⟩
    case round =>
      obtain ⟨k, hk, rfl, hall⟩ := hrel
      have HA := Lib.hid hall
      clear hall
      by_cases hlt : k < n
      · obtain ⟨b, off, rfl, _, hcell⟩ := H.out.at_ hlt
        have hl := H.out.len
        have hk2 : k < xs.length := by omega
        have htk : xs.take (k + 1) = xs.take k ++ [xs.getD k 0] := by
          rw [List.take_succ_eq_append_getElem hk2]; simp [List.getD, hk2]
        have hmem : xs.getD k 0 ∈ xs := by simp [List.getD, hk2]
        generalize xs.getD k 0 = x at *
        have HT := Lib.hid htk
        have HM := Lib.hid hmem
        clear htk hl hk2 hmem
        by_cases hp : inB x 0 1000000000000 = true
        · go_wp2_with (go_at_call 44; refine (l01In_any _ _ _ _).mono ?_; rintro e w' ⟨rfl, rfl⟩)
          go_round
          case rel => exact ⟨k + 1, by omega, by go_num, by rw [HT.out, List.all_append, HA.out]; simp [hp]⟩
          case measure => simp [intOf]; omega
        · have hp' : inB x 0 1000000000000 = false := by simpa using hp
          have hf : pMultinomialParity xs = (0, 2) := by
            have : ¬ xs.all (fun x => inB x 0 1000000000000) = true := by
              intro hh
              have := List.all_eq_true.1 hh x HM.out
              rw [hp'] at this; cases this
            unfold pMultinomialParity; rw [if_neg (fun h => this h.2)]
          have HF := Lib.hid hf
          clear hf hp
          go_wp2_with (go_at_call 44; refine (l01In_any _ _ _ _).mono ?_; rintro e w' ⟨rfl, rfl⟩)
          go_ret2
          exact ⟨by rw [HF.out]; rfl, Below.refl _ _⟩
      · obtain rfl : k = n := by omega
        have hl := H.out.len
        have hall := HA.out
        rw [show xs.take k = xs by rw [← hl]; exact List.take_length] at hall
        have con := spec_apart A k c xs w H.out
        have CON := Lib.hid con
        clear con hl
        by_cases hap : apartB 0 xs = true
        · have hf : pMultinomialParity xs = (1, 0) := by unfold pMultinomialParity; rw [if_pos ⟨hl20, hall⟩, if_pos hap]
          have HF := Lib.hid hf
          have HAPT := Lib.hid hap
          clear hall hap hf
          go_wp2_with fail
          refine CON.out.mono ?_
          rintro e w1 ⟨rfl, rfl⟩
          rw [HAPT.out]
          go_wp2
          go_ret2
          exact ⟨by rw [HF.out]; rfl, Below.refl _ _⟩
        · have hap' : apartB 0 xs = false := by simpa using hap
          have hf : pMultinomialParity xs = (0, 0) := by unfold pMultinomialParity; rw [if_pos ⟨hl20, hall⟩, if_neg hap]
          have HF := Lib.hid hf
          have HAPT := Lib.hid hap'
          clear hall hap hf hap'
          go_wp2_with fail
          refine CON.out.mono ?_
          rintro e w1 ⟨rfl, rfl⟩
          rw [HAPT.out]
          go_wp2
          go_ret2
          exact ⟨by rw [HF.out]; rfl, Below.refl _ _⟩
  · have hf : pMultinomialParity xs = (0, 2) := by unfold pMultinomialParity; rw [if_neg (fun h => h20 (by omega))]
    rw [hf]; clear hf
    have h21 : (20 : Int) < n := by omega
    clear h hl h20
    go_enter Try.func33, Try.ntmps33
    go_wp2
    go_ret2
    exact ⟨rfl, Below.refl _ _⟩

end Go.Proofs.Ythmmopbmfgnnnaa
