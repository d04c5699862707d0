/- The degree of an exponent list, as the program counts it. -/
import Derived.Test.YtindhmgfadipnaaSum
namespace Go.Proofs.Ytindhmgfadipnaa
open Go.ChangeShapes Go.WideShapes Go.ChangeAt Go.RowKit
set_option linter.unusedVariables false

/-- the degree, as int64 counts it -/
def degW (s : Int) (i : Nat) : List Int → Int
  | [] => s
  | x :: xs => degW (wrap64 (s + wrap64 (x * (((2 ^ (i + 1) : Nat) : Int) - 1)))) (i + 1) xs

set_option maxHeartbeats 400000 in
theorem impl_degree (A : Option Addr) (n c : Nat) (xs : List Int) (w : World) (h : RI w A n xs) (hn : n ≤ 40) :
    Calls Try.prog 89 #[.slice A n c] w fun e w' => e = .returned (.int .i64 (degW 0 0 xs)) ∧ w = w' := by
  have H := Lib.hid h
  clear h
  go_enter Try.func89, Try.ntmps89
  go_wp2
  go_loop [3, 8] (fun sv i => ∃ (k : Nat) (s : Int), k ≤ n ∧ i = .int .i64 k ∧ sv = .int .i64 s ∧ degW s k (xs.drop k) = degW 0 0 xs) (fun _ i => n - (intOf i).toNat)
  case atStart => exact ⟨0, 0, Nat.zero_le _, rfl, rfl, by simp⟩
  case round =>
    obtain ⟨k, s, hk, rfl, rfl, ht⟩ := hrel
    by_cases hlt : k < n
    · obtain ⟨b, off, rfl, _, hcell⟩ := H.out.at_ hlt
      have hl := H.out.len
      have hdr := dropc xs k (by omega)
      generalize xs.getD k 0 = x at *
      rw [hdr, degW] at ht
      have hP := pow_wrap (k + 1) (by omega)
      have hP2 := pow_le (k + 1) 41 (by omega)
      rw [show (2 : Nat) ^ 41 = 2199023255552 by decide] at hP2
      generalize (2 : Nat) ^ (k + 1) = P at *
      have HT := Lib.hid ht
      clear hl hdr ht
      go_wp2
      go_round
      case rel => exact ⟨k + 1, _, by omega, by go_num, rfl, HT.out⟩
      case measure => simp [intOf]; omega
    · obtain rfl : k = n := by omega
      have hl := H.out.len
      rw [List.drop_of_length_le (by omega), degW] at ht
      have HT := Lib.hid ht
      clear ht hl
      go_wp2
      go_ret
      exact ⟨by rw [← HT.out]; rfl, rfl⟩

theorem I64_degW (xs : List Int) : ∀ (s : Int) (i : Nat), I64 s → I64 (degW s i xs) := by
  induction xs with
  | nil => intro s i h; exact h
  | cons x xs ih => intro s i h; rw [degW]; exact ih _ _ (I64.wrap64 _)

theorem degW_zeros (xs : List Int) : ∀ (s : Int) (i : Nat), I64 s → (∀ x ∈ xs, x = 0) → degW s i xs = s := by
  induction xs with
  | nil => intro s i _ _; rfl
  | cons x xs ih =>
    intro s i hs hx
    have h0 := hx x (List.mem_cons_self ..)
    subst h0
    have hb := hs.bd
    have e : wrap64 (s + wrap64 (0 * (((2 ^ (i + 1) : Nat) : Int) - 1))) = s := by
      rw [Int.zero_mul, wrap64_id (x := 0) (by omega) (by omega), Int.add_zero, wrap64_id hb.1 hb.2]
    rw [degW, e]
    exact ih s (i + 1) hs (fun y hy => hx y (List.mem_cons_of_mem _ hy))

theorem degW_append (xs ys : List Int) : ∀ (s : Int) (i : Nat), degW s i (xs ++ ys) = degW (degW s i xs) (i + xs.length) ys := by
  induction xs with
  | nil => intro s i; simp [degW]
  | cons x xs ih => intro s i; simp only [List.cons_append, degW, List.length_cons]; rw [ih, show i + 1 + xs.length = i + (xs.length + 1) by omega]

end Go.Proofs.Ytindhmgfadipnaa
