/- The sum of a list, as the program and the reference count it; powers of 2. -/
import Derived.Test.YtijdlejngdhpjaaDoorLeaf
import Derived.Test.YtijdlejngdhpjaaDoorMem
namespace Go.Proofs.YtijdlejngdhpjaaDoor
open Go.ChangeShapes Go.WideShapes Go.ChangeAt Go.RowKit
set_option linter.unusedVariables false

/-- the sum as int64 counts it -/
def sumW (s : Int) : List Int → Int
  | [] => s
  | x :: xs => sumW (wrap64 (s + x)) xs

theorem dropc (xs : List Int) (k : Nat) (h : k < xs.length) : xs.drop k = xs.getD k 0 :: xs.drop (k + 1) := by
  rw [List.drop_eq_getElem_cons h]; simp [List.getD, h]

theorem wrap64_id {x : Int} (h1 : -9223372036854775808 ≤ x) (h2 : x ≤ 9223372036854775807) : wrap64 x = x := by
  rw [← IntWalk.i64_left]; exact IntWalk.i64_in _ ⟨h1, h2⟩

theorem pow_le (m k : Nat) (h : m ≤ k) : (2 : Nat) ^ m ≤ 2 ^ k := Nat.pow_le_pow_right (by omega) h

theorem pow_wrap (m : Nat) (h : m ≤ 62) : wrap64 ((2 : Int) ^ m) = ((2 ^ m : Nat) : Int) := by
  have h1 := pow_le m 62 h
  have h2 : (2 : Nat) ^ 62 = 4611686018427387904 := by decide
  have h3 : ((2 : Int) ^ m) = ((2 ^ m : Nat) : Int) := by simp
  rw [h3]
  rw [h2] at h1
  generalize (2 : Nat) ^ m = p at *
  rw [wrap64_id (by omega) (by omega)]

/-- without a turn round the ends it is the sum -/
theorem sumW_range (xs : List Int) : ∀ (s : Int), 0 ≤ s → s + 10 * xs.length ≤ 1000000 → (∀ x ∈ xs, 0 ≤ x ∧ x ≤ 10) → s ≤ sumW s xs ∧ sumW s xs ≤ s + 10 * xs.length := by
  induction xs with
  | nil => intro s _ _ _; simp [sumW]
  | cons x xs ih =>
    intro s h0 h1 hx
    have hx0 := hx x (List.mem_cons_self ..)
    simp only [List.length_cons] at h1 ⊢
    rw [sumW, wrap64_id (by omega) (by omega)]
    have := ih (s + x) (by omega) (by omega) (fun y hy => hx y (List.mem_cons_of_mem _ hy))
    omega

set_option maxHeartbeats 400000 in
theorem impl_sum (A : Option Addr) (n c : Nat) (xs : List Int) (w : World) (h : RI w A n xs) :
    Calls Tryd.prog 39 #[.slice A n c] w fun e w' => e = .returned (.int .i64 (sumW 0 xs)) ∧ w = w' := by
  have hs := h.small
  have H := Lib.hid h
  clear h
  go_enter Tryd.func39, Tryd.ntmps39
  go_wp2
  go_loop [3, 8] (fun sv i => ∃ (k : Nat) (s : Int), k ≤ n ∧ i = .int .i64 k ∧ sv = .int .i64 s ∧ sumW s (xs.drop k) = sumW 0 xs) (fun _ i => n - (intOf i).toNat)
  case atStart => exact ⟨0, 0, Nat.zero_le _, rfl, rfl, by simp⟩
  case round =>
    obtain ⟨k, s, hk, rfl, rfl, ht⟩ := hrel
    by_cases hlt : k < n
    · obtain ⟨b, off, rfl, _, hcell⟩ := H.out.at_ hlt
      have hl := H.out.len
      have hdr := dropc xs k (by omega)
      generalize xs.getD k 0 = x at *
      rw [hdr, sumW] at ht
      have HT := Lib.hid ht
      clear hl hdr ht
      go_wp2
      go_round
      case rel => exact ⟨k + 1, _, by omega, by go_num, rfl, HT.out⟩
      case measure => simp [intOf]; omega
    · obtain rfl : k = n := by omega
      have hl := H.out.len
      rw [List.drop_of_length_le (by omega), sumW] at ht
      have HT := Lib.hid ht
      clear ht hl
      go_wp2
      go_ret
      exact ⟨by rw [← HT.out]; rfl, rfl⟩

set_option maxHeartbeats 400000 in
theorem spec_sum (A : Option Addr) (n c : Nat) (xs : List Int) (w : World) (h : RI w A n xs) :
    Calls Tryd.prog 31 #[.slice A n c] w fun e w' => e = .returned (.int .i64 (sumW 0 xs)) ∧ w = w' := by
  have hs := h.small
  have H := Lib.hid h
  clear h
  go_enter Tryd.func31, Tryd.ntmps31
  go_wp2
  go_loop [3, 4] (fun sv i => ∃ (k : Nat) (s : Int), k ≤ n ∧ i = .int .i64 k ∧ sv = .int .i64 s ∧ sumW s (xs.drop k) = sumW 0 xs) (fun _ i => n - (intOf i).toNat)
  case atStart => exact ⟨0, 0, Nat.zero_le _, rfl, rfl, by simp⟩
  case round =>
    obtain ⟨k, s, hk, rfl, rfl, ht⟩ := hrel
    by_cases hlt : k < n
    · obtain ⟨b, off, rfl, _, hcell⟩ := H.out.at_ hlt
      have hl := H.out.len
      have hdr := dropc xs k (by omega)
      generalize xs.getD k 0 = x at *
      rw [hdr, sumW] at ht
      have HT := Lib.hid ht
      clear hl hdr ht
      go_wp2
      go_round
      case rel => exact ⟨k + 1, _, by omega, by go_num, rfl, HT.out⟩
      case measure => simp [intOf]; omega
    · obtain rfl : k = n := by omega
      have hl := H.out.len
      rw [List.drop_of_length_le (by omega), sumW] at ht
      have HT := Lib.hid ht
      clear ht hl
      go_wp2
      go_ret
      exact ⟨by rw [← HT.out]; rfl, rfl⟩

end Go.Proofs.YtijdlejngdhpjaaDoor
