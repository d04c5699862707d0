/- The degree of an exponent list, as the program counts it. -/
import Derived.Test.YtijdlejngdhpjaaDoorSum
namespace Go.Proofs.YtijdlejngdhpjaaDoor
open Go.ChangeShapes Go.WideShapes Go.ChangeAt Go.RowKit
set_option linter.unusedVariables false

/-- the degree, as int64 counts it -/
def degW (s : Int) (i : Nat) : List Int → Int
  | [] => s
  | x :: xs => degW (wrap64 (s + wrap64 (x * (((2 ^ (i + 1) : Nat) : Int) - 1)))) (i + 1) xs

theorem I64_degW (xs : List Int) : ∀ (s : Int) (i : Nat), I64 s → I64 (degW s i xs) := by
  induction xs with
  | nil => intro s i h; exact h
  | cons x xs ih => intro s i h; rw [degW]; exact ih _ _ (I64.wrap64 _)

theorem degW_zeros (xs : List Int) : ∀ (s : Int) (i : Nat), I64 s → (∀ x ∈ xs, x = 0) → degW s i xs = s := by
  induction xs with
  | nil => intro s i _ _; rfl
  | cons x xs ih =>
    intro s i hs hx
    have h0 := hx x (List.mem_cons_self ..)
    subst h0
    have hb := hs.bd
    have e : wrap64 (s + wrap64 (0 * (((2 ^ (i + 1) : Nat) : Int) - 1))) = s := by
      rw [Int.zero_mul, wrap64_id (x := 0) (by omega) (by omega), Int.add_zero, wrap64_id hb.1 hb.2]
    rw [degW, e]
    exact ih s (i + 1) hs (fun y hy => hx y (List.mem_cons_of_mem _ hy))

theorem degW_append (xs ys : List Int) : ∀ (s : Int) (i : Nat), degW s i (xs ++ ys) = degW (degW s i xs) (i + xs.length) ys := by
  induction xs with
  | nil => intro s i; simp [degW]
  | cons x xs ih => intro s i; simp only [List.cons_append, degW, List.length_cons]; rw [ih, show i + 1 + xs.length = i + (xs.length + 1) by omega]

end Go.Proofs.YtijdlejngdhpjaaDoor
