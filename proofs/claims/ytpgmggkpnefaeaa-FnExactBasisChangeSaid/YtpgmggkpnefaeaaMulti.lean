/- MultinomialParity of the program and of the reference: both return the same two numbers, for all lists. -/
import Derived.Test.YtpgmggkpnefaeaaAll
namespace Go.Proofs.Ytpgmggkpnefaeaa
open Go.ChangeShapes Go.WideShapes Go.ChangeAt Go.RowKit
set_option linter.unusedVariables false

/-- no digit 1 in two of the numbers, nor in one of them and in s -/
def apartB (s : Int) : List Int → Bool
  | [] => true
  | x :: xs => if (bits .and .i64 s x != 0) = true then false else apartB (bits .or .i64 s x) xs

def pMultinomialParity (xs : List Int) : Int × Int :=
  if xs.length ≤ 20 ∧ xs.all (fun x => inB x 0 1000000000000) = true then (if apartB 0 xs = true then (1, 0) else (0, 0)) else (0, 2)

theorem drop_cons (xs : List Int) (k : Nat) (h : k < xs.length) : xs.drop k = xs.getD k 0 :: xs.drop (k + 1) := by
  rw [List.drop_eq_getElem_cons h]; simp [List.getD, h]

set_option maxHeartbeats 400000 in
theorem impl_apart (A : Option Addr) (n c : Nat) (xs : List Int) (w : World) (h : RI w A n xs) :
    Calls Try.prog 167 #[.slice A n c] w fun e w' => e = .returned (.bool (apartB 0 xs)) ∧ w = w' := by
  have hs := h.small
  have H := Lib.hid h
  clear h
  go_enter Try.func167, Try.ntmps167
  go_wp2
  go_loop [3, 8] (fun sv i => ∃ (k : Nat) (s : Int), k ≤ n ∧ i = .int .i64 k ∧ sv = .int .i64 s ∧ apartB s (xs.drop k) = apartB 0 xs) (fun _ i => n - (intOf i).toNat)
  case atStart => exact ⟨0, 0, Nat.zero_le _, rfl, rfl, by simp⟩
  case round =>
    obtain ⟨k, s, hk, rfl, rfl, ht⟩ := hrel
    have HT := Lib.hid ht
    clear ht
    by_cases hlt : k < n
    · obtain ⟨b, off, rfl, _, hcell⟩ := H.out.at_ hlt
      have hl := H.out.len
      have hdr := drop_cons xs k (by omega)
      generalize xs.getD k 0 = x at *
      have ht := HT.out
      rw [hdr, apartB] at ht
      clear hl hdr HT
      by_cases hp : (bits .and .i64 s x != 0) = true
      · rw [if_pos hp] at ht
        have HT := Lib.hid ht
        clear ht
        go_wp2
        go_ret
        exact ⟨by rw [← HT.out]; rfl, rfl⟩
      · have hp' : (bits .and .i64 s x != 0) = false := by simpa using hp
        rw [if_neg hp] at ht
        have HT := Lib.hid ht
        clear ht hp
        go_wp2
        go_round
        case rel => exact ⟨k + 1, _, by omega, by go_num, rfl, HT.out⟩
        case measure => simp [intOf]; omega
    · obtain rfl : k = n := by omega
      have hl := H.out.len
      have ht := HT.out
      rw [List.drop_of_length_le (by omega), apartB] at ht
      have HT := Lib.hid ht
      clear ht hl
      go_wp2
      go_ret
      exact ⟨by rw [← HT.out]; rfl, rfl⟩

set_option maxHeartbeats 400000 in
theorem spec_apart (A : Option Addr) (n c : Nat) (xs : List Int) (w : World) (h : RI w A n xs) :
    Calls Try.prog 164 #[.slice A n c] w fun e w' => e = .returned (.bool (apartB 0 xs)) ∧ w = w' := by
  have hs := h.small
  have H := Lib.hid h
  clear h
  go_enter Try.func164, Try.ntmps164
  go_wp2
  go_loop [3, 4] (fun sv i => ∃ (k : Nat) (s : Int), k ≤ n ∧ i = .int .i64 k ∧ sv = .int .i64 s ∧ apartB s (xs.drop k) = apartB 0 xs) (fun _ i => n - (intOf i).toNat)
  case atStart => exact ⟨0, 0, Nat.zero_le _, rfl, rfl, by simp⟩
  case round =>
    obtain ⟨k, s, hk, rfl, rfl, ht⟩ := hrel
    have HT := Lib.hid ht
    clear ht
    by_cases hlt : k < n
    · obtain ⟨b, off, rfl, _, hcell⟩ := H.out.at_ hlt
      have hl := H.out.len
      have hdr := drop_cons xs k (by omega)
      generalize xs.getD k 0 = x at *
      have ht := HT.out
      rw [hdr, apartB] at ht
      clear hl hdr HT
      by_cases hp : (bits .and .i64 s x != 0) = true
      · rw [if_pos hp] at ht
        have HT := Lib.hid ht
        clear ht
        go_wp2
        go_ret
        exact ⟨by rw [← HT.out]; rfl, rfl⟩
      · have hp' : (bits .and .i64 s x != 0) = false := by simpa using hp
        rw [if_neg hp] at ht
        have HT := Lib.hid ht
        clear ht hp
        go_wp2
        go_round
        case rel => exact ⟨k + 1, _, by omega, by go_num, rfl, HT.out⟩
        case measure => simp [intOf]; omega
    · obtain rfl : k = n := by omega
      have hl := H.out.len
      have ht := HT.out
      rw [List.drop_of_length_le (by omega), apartB] at ht
      have HT := Lib.hid ht
      clear ht hl
      go_wp2
      go_ret
      exact ⟨by rw [← HT.out]; rfl, rfl⟩

end Go.Proofs.Ytpgmggkpnefaeaa
