/- Plain law, no program in sight: series modulo the powers above d, counted as int64 counts; a product of factors 1 + t^(part 2^k) is a sum of powers of t^part. -/
import Derived.Test.YtiajkfgicpidkaaSum
namespace Go.Proofs.Ytiajkfgicpidkaa
open Go.ChangeShapes Go.WideShapes Go.ChangeAt Go.RowKit
set_option linter.unusedVariables false

theorem wrap64_mod (x : Int) : ∃ q : Int, wrap64 x = x + q * 18446744073709551616 := by
  rw [← IntWalk.i64_left, IntKind.wrap_i64]
  exact ⟨-((x + 9223372036854775808) / 18446744073709551616), by omega⟩

theorem wrap64_congr (x q : Int) : wrap64 (x + q * 18446744073709551616) = wrap64 x := by
  rw [← IntWalk.i64_left, ← IntWalk.i64_left, IntKind.wrap_i64, IntKind.wrap_i64]
  omega

theorem wrap64_add (a b : Int) : wrap64 (wrap64 a + wrap64 b) = wrap64 (a + b) := by
  obtain ⟨p, hp⟩ := wrap64_mod a
  obtain ⟨q, hq⟩ := wrap64_mod b
  rw [hp, hq, show a + p * 18446744073709551616 + (b + q * 18446744073709551616) = a + b + (p + q) * 18446744073709551616 by omega, wrap64_congr]

theorem wrap64_sub (a b : Int) : wrap64 (wrap64 a - wrap64 b) = wrap64 (a - b) := by
  obtain ⟨p, hp⟩ := wrap64_mod a
  obtain ⟨q, hq⟩ := wrap64_mod b
  rw [hp, hq, show a + p * 18446744073709551616 - (b + q * 18446744073709551616) = a - b + (p - q) * 18446744073709551616 by omega, wrap64_congr]

/-- a series times 1 + t^w -/
def mulF (w : Nat) (E : Nat → Int) : Nat → Int := fun n => E n + (if w ≤ n then E (n - w) else 0)

/-- a series times 1 + t^p + .. + t^(p (m-1)) -/
def sumX (p : Nat) : Nat → (Nat → Int) → Nat → Int
  | 0, _ => fun _ => 0
  | m + 1, E => fun n => sumX p m E n + (if m * p ≤ n then E (n - m * p) else 0)

theorem sumX_add (p M : Nat) (E : Nat → Int) : ∀ (m n : Nat), sumX p (M + m) E n = sumX p M E n + (if M * p ≤ n then sumX p m E (n - M * p) else 0) := by
  intro m
  induction m with
  | zero => intro n; simp [sumX]
  | succ m ih =>
    intro n
    show sumX p (M + m) E n + (if (M + m) * p ≤ n then E (n - (M + m) * p) else 0) = _
    rw [ih n, Nat.add_mul]
    by_cases h1 : M * p ≤ n
    · rw [if_pos h1, if_pos h1]
      show _ = sumX p M E n + (sumX p m E (n - M * p) + (if m * p ≤ n - M * p then E (n - M * p - m * p) else 0))
      by_cases h2 : M * p + m * p ≤ n
      · rw [if_pos h2, if_pos (by omega), show n - M * p - m * p = n - (M * p + m * p) by omega]; omega
      · rw [if_neg h2, if_neg (by omega)]; omega
    · rw [if_neg h1, if_neg h1, if_neg (by omega)]
      omega

/-- the factors 1 + t^(w 2^j) for j from 0 to h - 1, one after the other -/
def mulAll : Nat → Nat → (Nat → Int) → Nat → Int
  | 0, _, E => E
  | h + 1, w, E => mulAll h (2 * w) (mulF w E)

/-- the same, the last factor last -/
theorem mulAll_last (h : Nat) : ∀ (w : Nat) (E : Nat → Int), mulAll (h + 1) w E = mulF (w * 2 ^ h) (mulAll h w E) := by
  induction h with
  | zero => intro w E; simp [mulAll]
  | succ h ih =>
    intro w E
    show mulAll (h + 1) (2 * w) (mulF w E) = mulF (w * 2 ^ (h + 1)) (mulAll (h + 1) w E)
    rw [ih (2 * w) (mulF w E), Nat.pow_succ, show 2 * w * 2 ^ h = w * (2 ^ h * 2) by rw [Nat.mul_comm 2 w, Nat.mul_assoc, Nat.mul_comm 2]]
    rfl

theorem mulAll_eq (p : Nat) (E : Nat → Int) (h : Nat) : mulAll h p E = sumX p (2 ^ h) E := by
  induction h with
  | zero => funext n; simp [mulAll, sumX]
  | succ h ih =>
    rw [mulAll_last, ih]
    funext n
    rw [Nat.pow_succ, Nat.mul_two, sumX_add]
    unfold mulF
    rw [Nat.mul_comm p]

theorem mulAll_small (h : Nat) : ∀ (w : Nat) (E : Nat → Int) (m : Nat), m < w → mulAll h w E m = E m := by
  induction h with
  | zero => intro w E m _; rfl
  | succ h ih =>
    intro w E m hm
    show mulAll h (2 * w) (mulF w E) m = E m
    rw [ih (2 * w) _ m (by omega)]
    unfold mulF
    rw [if_neg (by omega)]
    omega

theorem sumX_stop (p x : Nat) (E : Nat → Int) (n : Nat) (hx : n < x * p) : ∀ m, sumX p (x + m) E n = sumX p x E n := by
  intro m
  rw [sumX_add, if_neg (by omega)]
  omega

/-- the series of the numbers xs from place i on, times a series E -/
def serE : Nat → List Int → (Nat → Int) → Nat → Int
  | _, [], E => E
  | i, x :: xs, E => serE (i + 1) xs (sumX (2 ^ (i + 1) - 1) (2 ^ x.toNat) E)

def serL (xs : List Int) (d : Nat) : List Int := (List.range (d + 1)).map fun n => wrap64 (serE 0 xs (fun n => if n = 0 then 1 else 0) n)

theorem serL_len (xs : List Int) (d : Nat) : (serL xs d).length = d + 1 := by simp [serL]

/-- a list that holds the coefficients up to d -/
def Coef (L : List Int) (d : Nat) (E : Nat → Int) : Prop := L.length = d + 1 ∧ ∀ n, n ≤ d → L.getD n 0 = wrap64 (E n)

theorem Coef.eq {L d E xs} (h : Coef L d E) (he : ∀ n, n ≤ d → E n = serE 0 xs (fun n => if n = 0 then 1 else 0) n) : L = serL xs d := by
  apply List.ext_getElem (by rw [h.1, serL_len])
  intro n h1 h2
  rw [h.1] at h1
  have h3 := h.2 n (by omega)
  have h4 : n < L.length := by rw [h.1]; exact h1
  simp only [List.getD, List.getElem?_eq_getElem h4, Option.getD_some] at h3
  rw [h3, he n (by omega)]
  simp [serL]

theorem sumX_congr (p m : Nat) (E E' : Nat → Int) (d : Nat) (h : ∀ n, n ≤ d → E n = E' n) : ∀ n, n ≤ d → sumX p m E n = sumX p m E' n := by
  induction m with
  | zero => intro n _; rfl
  | succ m ih =>
    intro n hn
    show sumX p m E n + (if m * p ≤ n then E (n - m * p) else 0) = sumX p m E' n + (if m * p ≤ n then E' (n - m * p) else 0)
    rw [ih n hn, h (n - m * p) (by omega)]

theorem serE_congr (xs : List Int) (d : Nat) : ∀ (i : Nat) (E E' : Nat → Int), (∀ n, n ≤ d → E n = E' n) → ∀ n, n ≤ d → serE i xs E n = serE i xs E' n := by
  induction xs with
  | nil => intro i E E' h; exact h
  | cons x xs ih => intro i E E' h; exact ih (i + 1) _ _ (sumX_congr _ _ E E' d h)

end Go.Proofs.Ytiajkfgicpidkaa
