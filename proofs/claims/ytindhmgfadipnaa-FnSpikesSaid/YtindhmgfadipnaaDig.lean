/- DigitsOf of the program and of the reference: both return the places of the binary digits 1, or the code for the range. -/
import Derived.Test.YtindhmgfadipnaaLeaf
import Derived.Test.YtindhmgfadipnaaMem
namespace Go.Proofs.Ytindhmgfadipnaa
open Go.ChangeShapes Go.WideShapes Go.ChangeAt Go.RowKit
set_option linter.unusedVariables false

/-- the places of the digits 1 of m, the least digit at place i -/
def digs (m i : Nat) : List Int :=
  if m = 0 then [] else (if m % 2 = 1 then [(i : Int)] else []) ++ digs (m / 2) (i + 1)
termination_by m

theorem digs_zero (i : Nat) : digs 0 i = [] := by rw [digs, if_pos rfl]

theorem digs_odd (m i : Nat) (h : m ≠ 0) (h1 : m % 2 = 1) : digs m i = [(i : Int)] ++ digs (m / 2) (i + 1) := by rw [digs, if_neg h, if_pos h1]

theorem digs_even (m i : Nat) (h : m ≠ 0) (h1 : ¬ m % 2 = 1) : digs m i = digs (m / 2) (i + 1) := by rw [digs, if_neg h, if_neg h1, List.nil_append]

theorem and_one (m : Nat) (hm : m < 9223372036854775808) : bits .and .i64 (m : Int) 1 = ((m % 2 : Nat) : Int) := by
  have := i64_and_nat m 1 hm (by omega)
  rw [Nat.and_one_is_mod] at this
  exact this

theorem cast_div_pow (n k : Nat) : (n : Int) / 2 ^ k = ((n / 2 ^ k : Nat) : Int) := by simp

theorem pow_small (n k : Nat) (hn : n ≤ 1000000000000) (h : 0 < n / 2 ^ k) : k < 40 := by
  rcases Nat.lt_or_ge k 40 with h1 | h1
  · exact h1
  · exfalso
    have h2 : 2 ^ 40 ≤ 2 ^ k := Nat.pow_le_pow_right (by omega) h1
    have h3 : n / 2 ^ k = 0 := Nat.div_eq_of_lt (by have : (2 : Nat) ^ 40 = 1099511627776 := by decide
                                                    omega)
    omega

theorem div_pow_succ (n k : Nat) : n / 2 ^ k / 2 = n / 2 ^ (k + 1) := by rw [Nat.div_div_eq_div_mul, Nat.pow_succ]

theorem digs_len (m : Nat) : ∀ (i k : Nat), m < 2 ^ k → (digs m i).length ≤ k := by
  induction m using Nat.strongRecOn with
  | _ m ih =>
    intro i k hk
    by_cases h0 : m = 0
    · subst h0; rw [digs_zero]; simp
    · cases k with
      | zero => simp at hk; omega
      | succ k =>
        have h2 : m / 2 < 2 ^ k := by rw [Nat.pow_succ] at hk; omega
        have := ih (m / 2) (by omega) (i + 1) k h2
        by_cases h1 : m % 2 = 1
        · rw [digs_odd m i h0 h1]; simp; omega
        · rw [digs_even m i h0 h1]; omega

def pDigitsOf (n : Int) : List Int × Int := if inB n 0 1000000000000 = true then (digs n.toNat 0, 0) else ([], 2)

theorem pDigitsOf_len (n : Int) : (pDigitsOf n).1.length ≤ 1000000 := by
  unfold pDigitsOf
  by_cases h : inB n 0 1000000000000 = true
  · have h1 := inB_true h
    rw [if_pos h]
    have := digs_len n.toNat 0 40 (by have : (2 : Nat) ^ 40 = 1099511627776 := by decide
                                      omega)
    show (digs n.toNat 0).length ≤ _
    omega
  · rw [if_neg h]; simp

set_option maxHeartbeats 400000 in
theorem spec_l01Digits (m : Nat) (w : World) (h9 : m ≤ 1000000000000) : Calls Try.prog 158 #[.int .i64 (m : Int)] w fun e w' => ∃ A l c, e = .returned (.slice A l c) ∧ OwnI w' w.heap.size A l c (digs m 0) ∧ Below w.heap.size w w' := by
  have HI := Lib.hid (show OwnI (w.alloc (.cells #[] 2)) w.heap.size (some ⟨w.heap.size, 0, none⟩) 0 0 [] from empty_own w)
  have HB := Lib.hid (show Below w.heap.size w (w.alloc (.cells #[] 2)) from (Below.refl _ _).alloc (Nat.le_refl _) _)
  have H0 := Lib.hid (show [] ++ digs m 0 = digs m 0 by simp)
  go_enter Try.func158, Try.ntmps158
  go_wp2
  go_loopw [0, 3, 4] (fun nn v i wr => ∃ (q k l : Nat) (A : Option Addr) (c : Nat) (L : List Int), q ≤ m ∧ k + q ≤ m ∧ l ≤ k ∧ nn = .int .i64 (q : Int) ∧ i = .int .i64 (k : Int) ∧ v = .slice A l c ∧ OwnI wr w.heap.size A l c L ∧ L ++ digs q k = digs m 0 ∧ Below w.heap.size w wr) (fun nn _ _ _ => (intOf nn).toNat)
  case atStart => exact ⟨m, 0, 0, _, _, [], by omega, by omega, by omega, rfl, rfl, rfl, HI.out, H0.out, HB.out⟩
  case round =>
    obtain ⟨q, k, l, A, c, L, hq, hk, hl, rfl, rfl, rfl, ho, ht, hb⟩ := hrel
    clear HI HB H0
    have HT := Lib.hid ht
    have HO := Lib.hid ho
    have HBW := Lib.hid hb
    clear ht ho hb
    by_cases hz : q = 0
    · subst hz
      have ht := HT.out
      rw [digs_zero, List.append_nil] at ht
      have HO2 := Lib.hid (show OwnI wr w.heap.size A l c (digs m 0) by rw [← ht]; exact HO.out)
      clear ht HT HO
      go_wp2
      go_ret
      exact ⟨A, l, c, rfl, HO2.out, HBW.out⟩
    · have hq1 : (0 : Int) < (q : Int) := by omega
      have HDV := Lib.hid (show (Value.int .i64 ((q : Int) / 2)) = Value.int .i64 ((q / 2 : Nat) : Int) by rw [show (q : Int) / 2 = ((q / 2 : Nat) : Int) by omega])
      have hlt : q / 2 < q := by omega
      have hk2 : k + 1 + q / 2 ≤ m := by omega
      by_cases h2 : q % 2 = 1
      · have HT2 := Lib.hid (show (L ++ [(k : Int)]) ++ digs (q / 2) (k + 1) = digs m 0 by rw [List.append_assoc, ← digs_odd q k hz h2]; exact HT.out)
        have hm : ((q : Int) % 2 == 1) = true := by rw [beq_iff_eq]; omega
        clear hz h2
        go_wp2_with (at_builtin; refine app1 _ _ _ _ _ _ _ _ _ rfl rfl rfl rfl HO.out (I64.mk (by omega) (by omega)) (by omega) HBW.out.size ?_; intro g c' w1 ho2 hg)
        have HO2 := Lib.hid ho2
        have HB2 := Lib.hid (HBW.out.grown hg HBW.out.size (fun k hk => HO.out.row_ge hk))
        clear ho2 hg
        go_wp2
        go_roundw
        case rel => exact ⟨q / 2, k + 1, l + 1, _, _, _, by omega, by omega, by omega, HDV.out, by go_num, rfl, HO2.out, HT2.out, HB2.out⟩
        case measure => simp [intOf]; omega
      · have HT2 := Lib.hid (show L ++ digs (q / 2) (k + 1) = digs m 0 by rw [← digs_even q k hz h2]; exact HT.out)
        have hm : ((q : Int) % 2 == 1) = false := by rw [beq_eq_false_iff_ne]; omega
        clear hz h2
        go_wp2
        go_roundw
        case rel => exact ⟨q / 2, k + 1, l, _, _, _, by omega, by omega, by omega, HDV.out, by go_num, rfl, HO.out, HT2.out, HBW.out⟩
        case measure => simp [intOf]; omega

end Go.Proofs.Ytindhmgfadipnaa
