/- Exponent lists: the program's isExponents and the reference's l01Exponents, l01Degree; DegreeOf of both. -/
import Derived.Test.YtindhmgfadipnaaAll
import Derived.Test.YtindhmgfadipnaaDeg
namespace Go.Proofs.Ytindhmgfadipnaa
open Go.ChangeShapes Go.WideShapes Go.ChangeAt Go.RowKit
set_option linter.unusedVariables false

def numB (x : Int) : Bool := inB x 0 1000000000000

def expB (xs : List Int) : Bool := decide (xs.length ≤ 10) && (xs.all numB && (decide (xs.length = 0) || (xs.getD (xs.length - 1) 0 != 0)))

theorem expB_true {xs : List Int} (h : expB xs = true) : xs.length ≤ 10 ∧ ∀ x ∈ xs, 0 ≤ x ∧ x ≤ 1000000000000 := by
  simp only [expB, Bool.and_eq_true, decide_eq_true_eq, List.all_eq_true] at h
  exact ⟨h.1, fun x hx => inB_true (h.2.1 x hx)⟩

theorem number_pred (w : World) : PredI 163 #[] w numB := by
  refine ⟨Try.call163, fun x w1 hx hb => ?_⟩
  show Calls Try.prog 163 #[.int .i64 x] w1 _
  exact (isNumber_any x w1).mono fun e w' ⟨he, hw⟩ => ⟨he, hw ▸ Below.refl _ _⟩

theorem impl_isExponents (A : Option Addr) (n c : Nat) (xs : List Int) (w : World) (h : RI w A n xs) :
    Calls Try.prog 152 #[.slice A n c] w fun e w' => e = .returned (.bool (expB xs)) ∧ Below w.heap.size w w' := by
  have hl := h.len
  by_cases h10 : n ≤ 10
  · have con := all_any _ _ _ A n c xs w (number_pred w) h
    have CON := Lib.hid con
    have H := Lib.hid h
    clear con h
    have h11 : (n : Int) ≤ 10 := by omega
    cases hall : xs.all numB with
    | false =>
      have hf : expB xs = false := by unfold expB; rw [hall]; simp
      have HF := Lib.hid hf
      have HA := Lib.hid hall
      clear hf hall hl
      go_enter Try.func152, Try.ntmps152
      go_wp2_with fail
      refine CON.out.mono ?_
      rintro e w1 ⟨rfl, hb⟩
      rw [HA.out]
      have HB := Lib.hid hb
      clear hb
      go_wp2
      go_ret
      exact ⟨by rw [HF.out]; rfl, HB.out⟩
    | true =>
      have HA := Lib.hid hall
      cases n with
      | zero =>
        have hf : expB xs = true := by unfold expB; rw [hall, hl]; simp
        have HF := Lib.hid hf
        clear hf hall hl
        go_enter Try.func152, Try.ntmps152
        go_wp2_with fail
        refine CON.out.mono ?_
        rintro e w1 ⟨rfl, hb⟩
        rw [HA.out]
        have HB := Lib.hid hb
        clear hb
        go_wp2
        go_ret
        exact ⟨by rw [HF.out]; rfl, HB.out⟩
      | succ k =>
        have hf : expB xs = (xs.getD k 0 != 0) := by
          unfold expB; rw [hall, hl]
          have e1 : decide (k + 1 ≤ 10) = true := decide_eq_true h10
          have e2 : decide (k + 1 = 0) = false := decide_eq_false (by omega)
          rw [e1, e2]; simp
        obtain ⟨b, off, rfl, hbl, hcell⟩ := H.out.at_ (i := k) (by omega)
        have e1 : ((k + 1 : Nat) : Int) - 1 = (k : Int) := by omega
        have hz : (((k + 1 : Nat) : Int) == 0) = false := by rw [beq_eq_false_iff_ne]; omega
        generalize xs.getD k 0 = x at *
        have HF := Lib.hid hf
        have HC := Lib.hid hcell
        clear hf hall hl hcell
        go_enter Try.func152, Try.ntmps152
        go_wp2_with fail
        refine CON.out.mono ?_
        rintro e w1 ⟨rfl, hb⟩
        rw [HA.out]
        have hcell := (hb.cell (p := ⟨b, off + k, none⟩) hbl).trans HC.out
        have HB := Lib.hid hb
        clear hb
        go_wp2
        go_ret
        exact ⟨by rw [HF.out]; rfl, HB.out⟩
  · have hf : expB xs = false := by
      have : decide (xs.length ≤ 10) = false := decide_eq_false (by omega)
      unfold expB; rw [this, Bool.false_and]
    rw [hf]
    clear hf h hl
    have h17 : (10 : Int) < n := by omega
    go_enter Try.func152, Try.ntmps152
    go_wp2
    go_ret
    exact ⟨rfl, Below.refl _ _⟩

theorem l01Exp_tail (A : Option Addr) (n c : Nat) (xs : List Int) (w : World) (h : RI w A n xs) (h10 : n ≤ 10) (hlast : n = 0 ∨ xs.getD (n - 1) 0 ≠ 0) :
    Calls Try.prog 150 #[.slice A n c] w fun e w' => e = .returned (.bool (xs.all numB)) ∧ w = w' := by
  have H := Lib.hid h
  have h11 : (n : Int) ≤ 10 := by omega
  clear h
  have main : ∀ K : Prop, K → K := fun _ h => h
  rcases Nat.eq_zero_or_pos n with rfl | hpos
  · have hx : xs = [] := List.eq_nil_of_length_eq_zero H.out.len
    subst hx
    clear hlast H main
    go_enter Try.func150, Try.ntmps150
    go_wp2
    refine wp_loop_rounds 1 ?_
    rw [rounds_succ]
    go_wp2
    go_ret
    exact ⟨rfl, rfl⟩
  · obtain ⟨m, rfl⟩ : ∃ m, n = m + 1 := ⟨n - 1, by omega⟩
    have hne : xs.getD m 0 ≠ 0 := by
      rcases hlast with h | h
      · omega
      · simpa using h
    obtain ⟨b, off, rfl, hbl, hcell⟩ := H.out.at_ (i := m) (by omega)
    have e1 : ((m + 1 : Nat) : Int) - 1 = (m : Int) := by omega
    have hz : (0 : Int) < ((m + 1 : Nat) : Int) := by omega
    have hxz : (xs.getD m 0 == 0) = false := by rw [beq_eq_false_iff_ne]; exact hne
    clear hlast hne main
    generalize xs.getD m 0 = y at *
    go_enter Try.func150, Try.ntmps150
    go_wp2
    clear hcell hxz
    go_loop [3] (fun i => ∃ k : Nat, k ≤ m + 1 ∧ i = .int .i64 k ∧ (xs.take k).all numB = true) (fun i => m + 1 - (intOf i).toNat)
    case atStart => exact ⟨0, Nat.zero_le _, rfl, by simp⟩
    case round =>
      obtain ⟨k, hk, rfl, hall⟩ := hrel
      have HA := Lib.hid hall
      clear hall
      by_cases hlt : k < m + 1
      · obtain ⟨b2, off2, hA2, _, hcell⟩ := H.out.at_ hlt
        obtain ⟨rfl, rfl⟩ : b = b2 ∧ off = off2 := by simpa using hA2
        have hl := H.out.len
        have hk2 : k < xs.length := by omega
        have htk : xs.take (k + 1) = xs.take k ++ [xs.getD k 0] := by
          rw [List.take_succ_eq_append_getElem hk2]; simp [List.getD, hk2]
        have hmem : xs.getD k 0 ∈ xs := by simp [List.getD, hk2]
        generalize xs.getD k 0 = x at *
        have HT := Lib.hid htk
        have HM := Lib.hid hmem
        have hlt' : (k : Int) < ((m + 1 : Nat) : Int) := by omega
        clear htk hl hk2 hmem hA2
        cases hp : numB x with
        | true =>
          have hp' : inB x 0 1000000000000 = true := hp
          have HP := Lib.hid hp
          clear hp
          go_wp2_with (go_at_call 84; refine (l01In_any _ _ _ _).mono ?_; rintro e w' ⟨rfl, rfl⟩)
          go_round
          case rel => exact ⟨k + 1, by omega, by go_num, by rw [HT.out, List.all_append, HA.out]; simp [HP.out]⟩
          case measure => simp [intOf]; omega
        | false =>
          have hp' : inB x 0 1000000000000 = false := hp
          have hf : xs.all numB = false := List.all_eq_false.2 ⟨x, HM.out, by simp [hp]⟩
          have HF := Lib.hid hf
          clear hf hp
          go_wp2_with (go_at_call 84; refine (l01In_any _ _ _ _).mono ?_; rintro e w' ⟨rfl, rfl⟩)
          go_ret
          exact ⟨by rw [HF.out]; rfl, rfl⟩
      · obtain rfl : k = m + 1 := by omega
        have hl := H.out.len
        have hf := HA.out
        rw [show xs.take (m + 1) = xs by rw [← hl]; exact List.take_length] at hf
        have HF := Lib.hid hf
        clear hf hl
        go_wp2
        go_ret
        exact ⟨by rw [HF.out]; rfl, rfl⟩

theorem spec_l01Exponents (A : Option Addr) (n c : Nat) (xs : List Int) (w : World) (h : RI w A n xs) :
    Calls Try.prog 150 #[.slice A n c] w fun e w' => e = .returned (.bool (expB xs)) ∧ w = w' := by
  have hl := h.len
  by_cases h10 : n ≤ 10
  · by_cases hlast : n = 0 ∨ xs.getD (n - 1) 0 ≠ 0
    · have hf : expB xs = xs.all numB := by
        unfold expB
        rw [hl, decide_eq_true h10]
        rcases hlast with h0 | h0
        · rw [decide_eq_true h0]; simp
        · have : (xs.getD (n - 1) 0 != 0) = true := by simpa using h0
          rw [this]; simp
      rw [hf]
      exact l01Exp_tail A n c xs w h h10 hlast
    · have hn0 : n ≠ 0 := fun h => hlast (.inl h)
      have hx0 : xs.getD (n - 1) 0 = 0 := by
        by_cases e : xs.getD (n - 1) 0 = 0
        · exact e
        · exact absurd (.inr e) hlast
      have hf : expB xs = false := by
        unfold expB
        rw [hl, hx0, decide_eq_false hn0]; simp
      obtain ⟨m, rfl⟩ : ∃ m, n = m + 1 := ⟨n - 1, by omega⟩
      obtain ⟨b, off, rfl, hbl, hcell⟩ := h.at_ (i := m) (by omega)
      have hx1 : xs.getD m 0 = 0 := by simpa using hx0
      rw [hx1] at hcell
      have e1 : ((m + 1 : Nat) : Int) - 1 = (m : Int) := by omega
      have hz : (0 : Int) < ((m + 1 : Nat) : Int) := by omega
      have h11 : ((m + 1 : Nat) : Int) ≤ 10 := by omega
      rw [hf]
      clear hf hx0 hx1 hlast h hl hn0
      go_enter Try.func150, Try.ntmps150
      go_wp2
      go_ret
      exact ⟨rfl, rfl⟩
  · have hf : expB xs = false := by
      have : decide (xs.length ≤ 10) = false := decide_eq_false (by omega)
      unfold expB; rw [this, Bool.false_and]
    rw [hf]
    clear hf h hl
    have h17 : (10 : Int) < n := by omega
    go_enter Try.func150, Try.ntmps150
    go_wp2
    go_ret
    exact ⟨rfl, rfl⟩

set_option maxHeartbeats 400000 in
theorem spec_l01Degree (A : Option Addr) (n c : Nat) (xs : List Int) (w : World) (h : RI w A n xs) (hn : n ≤ 40) :
    Calls Try.prog 86 #[.slice A n c] w fun e w' => e = .returned (.int .i64 (degW 0 0 xs)) ∧ w = w' := by
  have H := Lib.hid h
  clear h
  go_enter Try.func86, Try.ntmps86
  go_wp2
  go_loop [3, 4] (fun sv i => ∃ (k : Nat) (s : Int), k ≤ n ∧ i = .int .i64 k ∧ sv = .int .i64 s ∧ degW s k (xs.drop k) = degW 0 0 xs) (fun _ i => n - (intOf i).toNat)
  case atStart => exact ⟨0, 0, Nat.zero_le _, rfl, rfl, by simp⟩
  case round =>
    obtain ⟨k, s, hk, rfl, rfl, ht⟩ := hrel
    by_cases hlt : k < n
    · obtain ⟨b, off, rfl, _, hcell⟩ := H.out.at_ hlt
      have hl := H.out.len
      have hdr := dropc xs k (by omega)
      generalize xs.getD k 0 = x at *
      rw [hdr, degW] at ht
      have hP := pow_wrap (k + 1) (by omega)
      have hP2 := pow_le (k + 1) 41 (by omega)
      rw [show (2 : Nat) ^ 41 = 2199023255552 by decide] at hP2
      generalize (2 : Nat) ^ (k + 1) = P at *
      have HT := Lib.hid ht
      clear hl hdr ht
      go_wp2
      go_round
      case rel => exact ⟨k + 1, _, by omega, by go_num, rfl, HT.out⟩
      case measure => simp [intOf]; omega
    · obtain rfl : k = n := by omega
      have hl := H.out.len
      rw [List.drop_of_length_le (by omega), degW] at ht
      have HT := Lib.hid ht
      clear ht hl
      go_wp2
      go_ret
      exact ⟨by rw [← HT.out]; rfl, rfl⟩

theorem degW_range (xs : List Int) : ∀ (s : Int) (i : Nat), i + xs.length ≤ 10 → (∀ x ∈ xs, 0 ≤ x ∧ x ≤ 1000000000000) → 0 ≤ s → s ≤ (i : Int) * 2047000000000000 → 0 ≤ degW s i xs ∧ degW s i xs ≤ 20470000000000000 := by
  induction xs with
  | nil => intro s i h1 _ h2 h3; simp only [List.length_nil] at h1; rw [degW]; omega
  | cons x xs ih =>
    intro s i h1 hx h2 h3
    simp only [List.length_cons] at h1
    have hx0 := hx x (List.mem_cons_self ..)
    have hP2 := pow_le (i + 1) 11 (by omega)
    have hP1 : 1 ≤ 2 ^ (i + 1) := Nat.one_le_two_pow
    rw [show (2 : Nat) ^ 11 = 2048 by decide] at hP2
    rw [degW]
    generalize (2 : Nat) ^ (i + 1) = P at *
    have m1 : 0 ≤ x * ((P : Int) - 1) := Int.mul_nonneg hx0.1 (by omega)
    have m2 : x * ((P : Int) - 1) ≤ 1000000000000 * 2047 := Int.mul_le_mul hx0.2 (by omega) (by omega) (by omega)
    generalize x * ((P : Int) - 1) = m at *
    rw [wrap64_id (x := m) (by omega) (by omega), wrap64_id (by omega) (by omega)]
    exact ih (s + m) (i + 1) (by omega) (fun y hy => hx y (List.mem_cons_of_mem _ hy)) (by omega) (by omega)

def pDegreeOf (xs : List Int) : Int × Int :=
  if expB xs = true then (if numB (degW 0 0 xs) = true then (degW 0 0 xs, 0) else (0, 3)) else (0, 1)

end Go.Proofs.Ytindhmgfadipnaa
