/- The sum of a list and DimensionOfProfile, of the program and of the reference. -/
import Derived.Test.YthmmopbmfgnnnaaProf
namespace Go.Proofs.Ythmmopbmfgnnnaa
open Go.ChangeShapes Go.WideShapes Go.ChangeAt Go.RowKit
set_option linter.unusedVariables false

/-- the sum as int64 counts it -/
def sumW (s : Int) : List Int → Int
  | [] => s
  | x :: xs => sumW (wrap64 (s + x)) xs

theorem dropc (xs : List Int) (k : Nat) (h : k < xs.length) : xs.drop k = xs.getD k 0 :: xs.drop (k + 1) := by
  rw [List.drop_eq_getElem_cons h]; simp [List.getD, h]

theorem wrap64_id {x : Int} (h1 : -9223372036854775808 ≤ x) (h2 : x ≤ 9223372036854775807) : wrap64 x = x := by
  rw [← IntWalk.i64_left]; exact IntWalk.i64_in _ ⟨h1, h2⟩

theorem pow_le (m k : Nat) (h : m ≤ k) : (2 : Nat) ^ m ≤ 2 ^ k := Nat.pow_le_pow_right (by omega) h
theorem pow_wrap (m : Nat) (h : m ≤ 62) : wrap64 ((2 : Int) ^ m) = ((2 ^ m : Nat) : Int) := by
  have h1 := pow_le m 62 h
  have h2 : (2 : Nat) ^ 62 = 4611686018427387904 := by decide
  have h3 : ((2 : Int) ^ m) = ((2 ^ m : Nat) : Int) := by simp
  rw [h3]
  rw [h2] at h1
  generalize (2 : Nat) ^ m = p at *
  rw [wrap64_id (by omega) (by omega)]

/-- without a turn round the ends it is the sum -/
theorem sumW_range (xs : List Int) : ∀ (s : Int), 0 ≤ s → s + 10 * xs.length ≤ 1000000 → (∀ x ∈ xs, 0 ≤ x ∧ x ≤ 10) → s ≤ sumW s xs ∧ sumW s xs ≤ s + 10 * xs.length := by
  induction xs with
  | nil => intro s _ _ _; simp [sumW]
  | cons x xs ih =>
    intro s h0 h1 hx
    have hx0 := hx x (List.mem_cons_self ..)
    simp only [List.length_cons] at h1 ⊢
    rw [sumW, wrap64_id (by omega) (by omega)]
    have := ih (s + x) (by omega) (by omega) (fun y hy => hx y (List.mem_cons_of_mem _ hy))
    omega

set_option maxHeartbeats 400000 in
theorem impl_sum (A : Option Addr) (n c : Nat) (xs : List Int) (w : World) (h : RI w A n xs) :
    Calls Try.prog 59 #[.slice A n c] w fun e w' => e = .returned (.int .i64 (sumW 0 xs)) ∧ w = w' := by
  have hs := h.small
  have H := Lib.hid h
  clear h
  go_enter Try.func59, Try.ntmps59
  go_wp2
  go_loop [3, 8] (fun sv i => ∃ (k : Nat) (s : Int), k ≤ n ∧ i = .int .i64 k ∧ sv = .int .i64 s ∧ sumW s (xs.drop k) = sumW 0 xs) (fun _ i => n - (intOf i).toNat)
  case atStart => exact ⟨0, 0, Nat.zero_le _, rfl, rfl, by simp⟩
  case round =>
    obtain ⟨k, s, hk, rfl, rfl, ht⟩ := hrel
    by_cases hlt : k < n
    · obtain ⟨b, off, rfl, _, hcell⟩ := H.out.at_ hlt
      have hl := H.out.len
      have hdr := dropc xs k (by omega)
      generalize xs.getD k 0 = x at *
      rw [hdr, sumW] at ht
      have HT := Lib.hid ht
      clear hl hdr ht
      go_wp2
      go_round
      case rel => exact ⟨k + 1, _, by omega, by go_num, rfl, HT.out⟩
      case measure => simp [intOf]; omega
    · obtain rfl : k = n := by omega
      have hl := H.out.len
      rw [List.drop_of_length_le (by omega), sumW] at ht
      have HT := Lib.hid ht
      clear ht hl
      go_wp2
      go_ret
      exact ⟨by rw [← HT.out]; rfl, rfl⟩

set_option maxHeartbeats 400000 in
theorem spec_sum (A : Option Addr) (n c : Nat) (xs : List Int) (w : World) (h : RI w A n xs) :
    Calls Try.prog 58 #[.slice A n c] w fun e w' => e = .returned (.int .i64 (sumW 0 xs)) ∧ w = w' := by
  have hs := h.small
  have H := Lib.hid h
  clear h
  go_enter Try.func58, Try.ntmps58
  go_wp2
  go_loop [3, 4] (fun sv i => ∃ (k : Nat) (s : Int), k ≤ n ∧ i = .int .i64 k ∧ sv = .int .i64 s ∧ sumW s (xs.drop k) = sumW 0 xs) (fun _ i => n - (intOf i).toNat)
  case atStart => exact ⟨0, 0, Nat.zero_le _, rfl, rfl, by simp⟩
  case round =>
    obtain ⟨k, s, hk, rfl, rfl, ht⟩ := hrel
    by_cases hlt : k < n
    · obtain ⟨b, off, rfl, _, hcell⟩ := H.out.at_ hlt
      have hl := H.out.len
      have hdr := dropc xs k (by omega)
      generalize xs.getD k 0 = x at *
      rw [hdr, sumW] at ht
      have HT := Lib.hid ht
      clear hl hdr ht
      go_wp2
      go_round
      case rel => exact ⟨k + 1, _, by omega, by go_num, rfl, HT.out⟩
      case measure => simp [intOf]; omega
    · obtain rfl : k = n := by omega
      have hl := H.out.len
      rw [List.drop_of_length_le (by omega), sumW] at ht
      have HT := Lib.hid ht
      clear ht hl
      go_wp2
      go_ret
      exact ⟨by rw [← HT.out]; rfl, rfl⟩

def pDimensionOfProfile (xs : List Int) : Int × Int :=
  if pIsProfile xs = true then (if sumW 0 xs ≤ 40 then (((2 ^ (sumW 0 xs).toNat : Nat) : Int), 0) else (0, 3)) else (0, 1)

set_option maxHeartbeats 400000 in
theorem impl_DimensionOfProfile (A : Option Addr) (n c : Nat) (xs : List Int) (w : World) (h : RI w A n xs) (hn : n ≤ 1048576) :
    Calls Try.prog 36 #[.slice A n c] w fun e w' => e = .returned (.tuple #[.int .i64 (pDimensionOfProfile xs).1, .int .i64 (pDimensionOfProfile xs).2]) ∧ Below w.heap.size w w' := by
  have c1 := impl_IsProfile A n c xs w h hn
  have c2 := fun w1 (hb : Below w.heap.size w w1) => impl_sum A n c xs w1 (h.below hb)
  have C1 := Lib.hid c1
  have HC := Lib.hid c2
  clear c1 c2 h
  by_cases hp : pIsProfile xs = true
  · have hpt := pIsProfile_true hp
    have hsr := sumW_range xs 0 (by omega) (by omega) hpt.2
    have hs0 : 0 ≤ sumW 0 xs := by omega
    have hs1 : sumW 0 xs ≤ 160 := by omega
    have hf : pDimensionOfProfile xs = (if sumW 0 xs ≤ 40 then (((2 ^ (sumW 0 xs).toNat : Nat) : Int), 0) else (0, 3)) := by unfold pDimensionOfProfile; rw [if_pos hp]
    clear hpt hsr
    have HP := Lib.hid hp
    clear hp
    generalize sumW 0 xs = s at *
    obtain ⟨m, rfl⟩ := Int.eq_ofNat_of_zero_le hs0
    go_enter Try.func36, Try.ntmps36
    go_wp2_with fail
    refine C1.out.mono ?_
    rintro e w1 ⟨rfl, hb⟩
    have HB := Lib.hid hb
    clear hb
    rw [HP.out]
    by_cases h40 : (m : Int) ≤ 40
    · rw [if_pos h40, Int.toNat_natCast] at hf
      have HF := Lib.hid hf
      clear hf
      go_wp2_with fail
      refine (HC.out _ HB.out).mono ?_
      rintro e w2 ⟨rfl, rfl⟩
      go_wp2_with fail
      refine (HC.out _ HB.out).mono ?_
      rintro e w2 ⟨rfl, rfl⟩
      go_wp2
      go_ret2
      refine ⟨?_, HB.out⟩
      rw [HF.out]
      show Ending.returned (.tuple #[.int .i64 (wrap64 ((2 : Int) ^ m)), .int .i64 0]) = _
      rw [pow_wrap m (by omega)]
    · rw [if_neg h40] at hf
      have HF := Lib.hid hf
      clear hf
      go_wp2_with fail
      refine (HC.out _ HB.out).mono ?_
      rintro e w2 ⟨rfl, rfl⟩
      have h41 : (40 : Int) < m := by omega
      go_wp2
      go_ret2
      exact ⟨by rw [HF.out]; rfl, HB.out⟩
  · have hp' : pIsProfile xs = false := by simpa using hp
    have hf : pDimensionOfProfile xs = (0, 1) := by unfold pDimensionOfProfile; rw [if_neg hp]
    have HF := Lib.hid hf
    have HP := Lib.hid hp'
    clear hf hp hp'
    go_enter Try.func36, Try.ntmps36
    go_wp2_with fail
    refine C1.out.mono ?_
    rintro e w1 ⟨rfl, hb⟩
    have HB := Lib.hid hb
    clear hb
    rw [HP.out]
    go_wp2
    go_ret2
    exact ⟨by rw [HF.out]; rfl, HB.out⟩

set_option maxHeartbeats 400000 in
theorem spec_DimensionOfProfile (A : Option Addr) (n c : Nat) (xs : List Int) (w : World) (h : RI w A n xs) (hn : n ≤ 1048576) :
    Calls Try.prog 35 #[.slice A n c] w fun e w' => e = .returned (.tuple #[.int .i64 (pDimensionOfProfile xs).1, .int .i64 (pDimensionOfProfile xs).2]) ∧ Below w.heap.size w w' := by
  have c1 := spec_l07Is A n c xs w h
  have c2 := fun w1 (hb : Below w.heap.size w w1) => spec_sum A n c xs w1 (h.below hb)
  have C1 := Lib.hid c1
  have HC := Lib.hid c2
  clear c1 c2 h
  by_cases hp : pIsProfile xs = true
  · have hpt := pIsProfile_true hp
    have hsr := sumW_range xs 0 (by omega) (by omega) hpt.2
    have hs0 : 0 ≤ sumW 0 xs := by omega
    have hs1 : sumW 0 xs ≤ 160 := by omega
    have hf : pDimensionOfProfile xs = (if sumW 0 xs ≤ 40 then (((2 ^ (sumW 0 xs).toNat : Nat) : Int), 0) else (0, 3)) := by unfold pDimensionOfProfile; rw [if_pos hp]
    clear hpt hsr
    have HP := Lib.hid hp
    clear hp
    generalize sumW 0 xs = s at *
    obtain ⟨m, rfl⟩ := Int.eq_ofNat_of_zero_le hs0
    go_enter Try.func35, Try.ntmps35
    go_wp2_with fail
    refine C1.out.mono ?_
    rintro e w1 ⟨rfl, rfl⟩
    have HB := Lib.hid (Below.refl w.heap.size w)
    rw [HP.out]
    by_cases h40 : (m : Int) ≤ 40
    · rw [if_pos h40, Int.toNat_natCast] at hf
      have HF := Lib.hid hf
      clear hf
      go_wp2_with fail
      refine (HC.out _ HB.out).mono ?_
      rintro e w2 ⟨rfl, rfl⟩
      go_wp2
      go_ret2
      refine ⟨?_, HB.out⟩
      rw [HF.out]
      show Ending.returned (.tuple #[.int .i64 (wrap64 ((2 : Int) ^ m)), .int .i64 0]) = _
      rw [pow_wrap m (by omega)]
    · rw [if_neg h40] at hf
      have HF := Lib.hid hf
      clear hf
      go_wp2_with fail
      refine (HC.out _ HB.out).mono ?_
      rintro e w2 ⟨rfl, rfl⟩
      have h41 : (40 : Int) < m := by omega
      go_wp2
      go_ret2
      exact ⟨by rw [HF.out]; rfl, HB.out⟩
  · have hp' : pIsProfile xs = false := by simpa using hp
    have hf : pDimensionOfProfile xs = (0, 1) := by unfold pDimensionOfProfile; rw [if_neg hp]
    have HF := Lib.hid hf
    have HP := Lib.hid hp'
    clear hf hp hp'
    go_enter Try.func35, Try.ntmps35
    go_wp2_with fail
    refine C1.out.mono ?_
    rintro e w1 ⟨rfl, rfl⟩
    have HB := Lib.hid (Below.refl w.heap.size w)
    rw [HP.out]
    go_wp2
    go_ret2
    exact ⟨by rw [HF.out]; rfl, HB.out⟩

end Go.Proofs.Ythmmopbmfgnnnaa
