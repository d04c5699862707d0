/- Exponent lists: the program's isExponents and the reference's l01Exponents, l01Degree; DegreeOf of both. -/
import Derived.Test.YtijdlejngdhpjaaDoorAll
import Derived.Test.YtijdlejngdhpjaaDoorDeg
namespace Go.Proofs.YtijdlejngdhpjaaDoor
open Go.ChangeShapes Go.WideShapes Go.ChangeAt Go.RowKit
set_option linter.unusedVariables false

def numB (x : Int) : Bool := inB x 0 1000000000000

def expB (xs : List Int) : Bool := decide (xs.length ≤ 10) && (xs.all numB && (decide (xs.length = 0) || (xs.getD (xs.length - 1) 0 != 0)))

theorem expB_true {xs : List Int} (h : expB xs = true) : xs.length ≤ 10 ∧ ∀ x ∈ xs, 0 ≤ x ∧ x ≤ 1000000000000 := by
  simp only [expB, Bool.and_eq_true, decide_eq_true_eq, List.all_eq_true] at h
  exact ⟨h.1, fun x hx => inB_true (h.2.1 x hx)⟩

theorem degW_range (xs : List Int) : ∀ (s : Int) (i : Nat), i + xs.length ≤ 10 → (∀ x ∈ xs, 0 ≤ x ∧ x ≤ 1000000000000) → 0 ≤ s → s ≤ (i : Int) * 2047000000000000 → 0 ≤ degW s i xs ∧ degW s i xs ≤ 20470000000000000 := by
  induction xs with
  | nil => intro s i h1 _ h2 h3; simp only [List.length_nil] at h1; rw [degW]; omega
  | cons x xs ih =>
    intro s i h1 hx h2 h3
    simp only [List.length_cons] at h1
    have hx0 := hx x (List.mem_cons_self ..)
    have hP2 := pow_le (i + 1) 11 (by omega)
    have hP1 : 1 ≤ 2 ^ (i + 1) := Nat.one_le_two_pow
    rw [show (2 : Nat) ^ 11 = 2048 by decide] at hP2
    rw [degW]
    generalize (2 : Nat) ^ (i + 1) = P at *
    have m1 : 0 ≤ x * ((P : Int) - 1) := Int.mul_nonneg hx0.1 (by omega)
    have m2 : x * ((P : Int) - 1) ≤ 1000000000000 * 2047 := Int.mul_le_mul hx0.2 (by omega) (by omega) (by omega)
    generalize x * ((P : Int) - 1) = m at *
    rw [wrap64_id (x := m) (by omega) (by omega), wrap64_id (by omega) (by omega)]
    exact ih (s + m) (i + 1) (by omega) (fun y hy => hx y (List.mem_cons_of_mem _ hy)) (by omega) (by omega)

def pDegreeOf (xs : List Int) : Int × Int :=
  if expB xs = true then (if numB (degW 0 0 xs) = true then (degW 0 0 xs, 0) else (0, 3)) else (0, 1)

end Go.Proofs.YtijdlejngdhpjaaDoor
