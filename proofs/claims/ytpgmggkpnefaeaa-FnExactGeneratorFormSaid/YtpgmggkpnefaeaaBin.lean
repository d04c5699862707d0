/- BinomialParity of the program and of the reference: both return the same two numbers, for all arguments. -/
import Derived.Test.YtpgmggkpnefaeaaLeaf
import Derived.WalkLawsBesides
import Derived.Laws.BitsAllLaws
import Derived.Laws.BitsLemmas
namespace Go.Proofs.Ytpgmggkpnefaeaa
open Go.ChangeShapes Go.WideShapes Go.ChangeAt Go.RowKit
set_option linter.unusedVariables false

/-- what both return -/
def bpar (n k : Int) : Int × Int :=
  if inB n 0 1000000000000 = true ∧ inB k 0 1000000000000 = true then (if (bits .and .i64 n k == k) = true then (1, 0) else (0, 0)) else (0, 2)

/-- where the digits of k lie among those of n, k is not above n -/
theorem and_le (n k : Int) (hn : inB n 0 1000000000000 = true) (hk : inB k 0 1000000000000 = true) (h : (bits .and .i64 n k == k) = true) : k ≤ n := by
  have h1 := inB_true hn
  have h2 := inB_true hk
  obtain ⟨a, rfl⟩ := Int.eq_ofNat_of_zero_le h1.1
  obtain ⟨b, rfl⟩ := Int.eq_ofNat_of_zero_le h2.1
  rw [i64_and_nat a b (by omega) (by omega)] at h
  have h3 : ((a &&& b : Nat) : Int) = (b : Int) := by simpa using h
  have h4 : a &&& b ≤ a := Nat.and_le_left
  omega

/-- the reference's parity at numbers in range -/
theorem l01Parity_yes (n k : Int) (w : World) (hn : inB n 0 1000000000000 = true) (hk : inB k 0 1000000000000 = true) (hb : (bits .and .i64 n k == k) = true) :
    Calls Try.prog 123 #[.int .i64 n, .int .i64 k] w fun e w' => e = .returned (.int .i64 1) ∧ w = w' := by
  have h1 := and_le n k hn hk hb
  have h2 := (inB_true hk).1
  have h3 : (bits .and .i64 n k != k) = false := by simpa using hb
  clear hn hk
  go_enter Try.func123, Try.ntmps123
  go_wp2
  go_ret
  exact ⟨rfl, rfl⟩

theorem l01Parity_no (n k : Int) (w : World) (hk : inB k 0 1000000000000 = true) (hb : (bits .and .i64 n k == k) = false) :
    Calls Try.prog 123 #[.int .i64 n, .int .i64 k] w fun e w' => e = .returned (.int .i64 0) ∧ w = w' := by
  have h2 := (inB_true hk).1
  have h3 : (bits .and .i64 n k != k) = true := by simpa using hb
  clear hk
  by_cases h : n < k
  all_goals
    go_enter Try.func123, Try.ntmps123
    go_wp2
    go_ret
    exact ⟨rfl, rfl⟩

end Go.Proofs.Ytpgmggkpnefaeaa
