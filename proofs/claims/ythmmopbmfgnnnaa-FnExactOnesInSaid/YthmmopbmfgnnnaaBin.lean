/- BinomialParity of the program and of the reference: both return the same two numbers, for all arguments. -/
import Derived.Test.YthmmopbmfgnnnaaLeaf
import Derived.WalkLawsBesides
import Derived.Laws.BitsAllLaws
import Derived.Laws.BitsLemmas
namespace Go.Proofs.Ythmmopbmfgnnnaa
open Go.ChangeShapes Go.WideShapes Go.ChangeAt Go.RowKit
set_option linter.unusedVariables false

theorem isNumber_any (n : Int) (w : World) : Calls Try.prog 46 #[.int .i64 n] w fun e w' => e = .returned (.bool (inB n 0 1000000000000)) ∧ w = w' := by
  go_enter Try.func46, Try.ntmps46
  go_wp2_with (go_at_call 48; refine (in_any _ _ _ _).mono ?_; rintro e w' ⟨rfl, rfl⟩)
  go_ret
  exact ⟨rfl, rfl⟩

theorem l01In_any (n lo hi : Int) (w : World) : Calls Try.prog 44 #[.int .i64 n, .int .i64 lo, .int .i64 hi] w fun e w' => e = .returned (.bool (inB n lo hi)) ∧ w = w' := by
  by_cases h : lo ≤ n
  · by_cases h2 : n ≤ hi
    · have e : inB n lo hi = true := decide_eq_true ⟨h, h2⟩
      rw [e]; clear e
      go_enter Try.func44, Try.ntmps44
      go_wp2
      go_ret
      exact ⟨rfl, rfl⟩
    · have e : inB n lo hi = false := decide_eq_false (by omega)
      rw [e]; clear e
      go_enter Try.func44, Try.ntmps44
      go_wp2
      go_ret
      exact ⟨rfl, rfl⟩
  · have e : inB n lo hi = false := decide_eq_false (by omega)
    rw [e]; clear e
    go_enter Try.func44, Try.ntmps44
    go_wp2
    go_ret
    exact ⟨rfl, rfl⟩

/-- what both return -/
def bpar (n k : Int) : Int × Int :=
  if inB n 0 1000000000000 = true ∧ inB k 0 1000000000000 = true then (if (bits .and .i64 n k == k) = true then (1, 0) else (0, 0)) else (0, 2)

theorem ofInt_i64 (a : Nat) (ha : a < 9223372036854775808) : (BitVec.ofInt 64 (a : Int)).toNat = a := by
  rw [BitVec.ofInt_natCast, BitVec.toNat_ofNat]; exact Nat.mod_eq_of_lt (by omega)
theorem i64_and_nat (a b : Nat) (ha : a < 9223372036854775808) (hb : b < 9223372036854775808) : bits .and .i64 (a : Int) (b : Int) = ((a &&& b : Nat) : Int) := by
  have hx : a &&& b < 2 ^ 63 := Nat.and_lt_two_pow _ (by omega)
  show IntKind.i64.wrap ((BitVec.ofInt 64 (a : Int) &&& BitVec.ofInt 64 (b : Int)).toNat : Int) = _
  rw [BitVec.toNat_and, ofInt_i64 a ha, ofInt_i64 b hb, IntKind.wrap_i64]
  omega

/-- where the digits of k lie among those of n, k is not above n -/
theorem and_le (n k : Int) (hn : inB n 0 1000000000000 = true) (hk : inB k 0 1000000000000 = true) (h : (bits .and .i64 n k == k) = true) : k ≤ n := by
  have h1 := inB_true hn
  have h2 := inB_true hk
  obtain ⟨a, rfl⟩ := Int.eq_ofNat_of_zero_le h1.1
  obtain ⟨b, rfl⟩ := Int.eq_ofNat_of_zero_le h2.1
  rw [i64_and_nat a b (by omega) (by omega)] at h
  have h3 : ((a &&& b : Nat) : Int) = (b : Int) := by simpa using h
  have h4 : a &&& b ≤ a := Nat.and_le_left
  omega

theorem impl_Bin (n k : Int) (w : World) : Calls Try.prog 16 #[.int .i64 n, .int .i64 k] w fun e w' => e = .returned (.tuple #[.int .i64 (bpar n k).1, .int .i64 (bpar n k).2]) ∧ w = w' := by
  by_cases hn : inB n 0 1000000000000 = true
  · by_cases hk : inB k 0 1000000000000 = true
    · by_cases hb : (bits .and .i64 n k == k) = true
      · have hf : bpar n k = (1, 0) := by simp only [bpar, hn, hk, hb, and_self, if_true]
        rw [hf]; clear hf
        go_enter Try.func16, Try.ntmps16
        go_wp2_with (go_at_call 46; refine (isNumber_any _ _).mono ?_; rintro e w' ⟨rfl, rfl⟩)
        go_ret2
        exact ⟨rfl, rfl⟩
      · have hb' : (bits .and .i64 n k == k) = false := by simpa using hb
        have hf : bpar n k = (0, 0) := by simp only [bpar, hn, hk, hb', and_self, if_true, Bool.false_eq_true, if_false]
        rw [hf]; clear hf hb
        go_enter Try.func16, Try.ntmps16
        go_wp2_with (go_at_call 46; refine (isNumber_any _ _).mono ?_; rintro e w' ⟨rfl, rfl⟩)
        go_ret2
        exact ⟨rfl, rfl⟩
    · have hk' : inB k 0 1000000000000 = false := by simpa using hk
      have hf : bpar n k = (0, 2) := by simp only [bpar, hk', Bool.false_eq_true, and_false, if_false]
      rw [hf]; clear hf hk
      go_enter Try.func16, Try.ntmps16
      go_wp2_with (go_at_call 46; refine (isNumber_any _ _).mono ?_; rintro e w' ⟨rfl, rfl⟩)
      go_ret2
      exact ⟨rfl, rfl⟩
  · have hn' : inB n 0 1000000000000 = false := by simpa using hn
    have hf : bpar n k = (0, 2) := by simp only [bpar, hn', Bool.false_eq_true, false_and, if_false]
    rw [hf]; clear hf hn
    go_enter Try.func16, Try.ntmps16
    go_wp2_with (go_at_call 46; refine (isNumber_any _ _).mono ?_; rintro e w' ⟨rfl, rfl⟩)
    go_ret2
    exact ⟨rfl, rfl⟩

/-- the reference's parity at numbers in range -/
theorem l01Parity_yes (n k : Int) (w : World) (hn : inB n 0 1000000000000 = true) (hk : inB k 0 1000000000000 = true) (hb : (bits .and .i64 n k == k) = true) :
    Calls Try.prog 45 #[.int .i64 n, .int .i64 k] w fun e w' => e = .returned (.int .i64 1) ∧ w = w' := by
  have h1 := and_le n k hn hk hb
  have h2 := (inB_true hk).1
  have h3 : (bits .and .i64 n k != k) = false := by simpa using hb
  clear hn hk
  go_enter Try.func45, Try.ntmps45
  go_wp2
  go_ret
  exact ⟨rfl, rfl⟩
theorem l01Parity_no (n k : Int) (w : World) (hk : inB k 0 1000000000000 = true) (hb : (bits .and .i64 n k == k) = false) :
    Calls Try.prog 45 #[.int .i64 n, .int .i64 k] w fun e w' => e = .returned (.int .i64 0) ∧ w = w' := by
  have h2 := (inB_true hk).1
  have h3 : (bits .and .i64 n k != k) = true := by simpa using hb
  clear hk
  by_cases h : n < k
  all_goals
    go_enter Try.func45, Try.ntmps45
    go_wp2
    go_ret
    exact ⟨rfl, rfl⟩

theorem spec_Bin (n k : Int) (w : World) : Calls Try.prog 15 #[.int .i64 n, .int .i64 k] w fun e w' => e = .returned (.tuple #[.int .i64 (bpar n k).1, .int .i64 (bpar n k).2]) ∧ w = w' := by
  by_cases hn : inB n 0 1000000000000 = true
  · by_cases hk : inB k 0 1000000000000 = true
    · by_cases hb : (bits .and .i64 n k == k) = true
      · have hf : bpar n k = (1, 0) := by simp only [bpar, hn, hk, hb, and_self, if_true]
        rw [hf]; clear hf
        have c := l01Parity_yes n k w hn hk hb
        go_enter Try.func15, Try.ntmps15
        go_wp2_with (first | (go_at_call 44; refine (l01In_any _ _ _ _).mono ?_; rintro e w' ⟨rfl, rfl⟩) | (go_at_call 45; refine c.mono ?_; rintro e w' ⟨rfl, rfl⟩))
        go_ret2
        exact ⟨rfl, rfl⟩
      · have hb' : (bits .and .i64 n k == k) = false := by simpa using hb
        have hf : bpar n k = (0, 0) := by simp only [bpar, hn, hk, hb', and_self, if_true, Bool.false_eq_true, if_false]
        rw [hf]; clear hf hb
        have c := l01Parity_no n k w hk hb'
        go_enter Try.func15, Try.ntmps15
        go_wp2_with (first | (go_at_call 44; refine (l01In_any _ _ _ _).mono ?_; rintro e w' ⟨rfl, rfl⟩) | (go_at_call 45; refine c.mono ?_; rintro e w' ⟨rfl, rfl⟩))
        go_ret2
        exact ⟨rfl, rfl⟩
    · have hk' : inB k 0 1000000000000 = false := by simpa using hk
      have hf : bpar n k = (0, 2) := by simp only [bpar, hk', Bool.false_eq_true, and_false, if_false]
      rw [hf]; clear hf hk
      go_enter Try.func15, Try.ntmps15
      go_wp2_with (go_at_call 44; refine (l01In_any _ _ _ _).mono ?_; rintro e w' ⟨rfl, rfl⟩)
      go_ret2
      exact ⟨rfl, rfl⟩
  · have hn' : inB n 0 1000000000000 = false := by simpa using hn
    have hf : bpar n k = (0, 2) := by simp only [bpar, hn', Bool.false_eq_true, false_and, if_false]
    rw [hf]; clear hf hn
    go_enter Try.func15, Try.ntmps15
    go_wp2_with (go_at_call 44; refine (l01In_any _ _ _ _).mono ?_; rintro e w' ⟨rfl, rfl⟩)
    go_ret2
    exact ⟨rfl, rfl⟩

end Go.Proofs.Ythmmopbmfgnnnaa
