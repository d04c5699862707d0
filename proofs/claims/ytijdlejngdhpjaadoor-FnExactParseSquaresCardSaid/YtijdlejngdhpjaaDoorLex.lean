/- The lexicographic order of two lists as the program and the reference compute it. -/
import Derived.Test.YtijdlejngdhpjaaDoorHelpS
import Derived.Test.YtijdlejngdhpjaaDoorSum
namespace Go.Proofs.YtijdlejngdhpjaaDoor
open Go.ChangeShapes Go.WideShapes Go.ChangeAt Go.RowKit
set_option linter.unusedVariables false

def cmpL : List Int → List Int → Int
  | [], [] => 0
  | [], _ :: _ => -1
  | _ :: _, [] => 1
  | a :: x, b :: y => if a < b then -1 else if b < a then 1 else cmpL x y

theorem cmpL_range : ∀ x y : List Int, cmpL x y = -1 ∨ cmpL x y = 0 ∨ cmpL x y = 1
  | [], [] => .inr (.inl rfl)
  | [], _ :: _ => .inl rfl
  | _ :: _, [] => .inr (.inr rfl)
  | a :: x, b :: y => by
    rw [cmpL]
    by_cases h1 : a < b
    · rw [if_pos h1]; exact .inl rfl
    · rw [if_neg h1]
      by_cases h2 : b < a
      · rw [if_pos h2]; exact .inr (.inr rfl)
      · rw [if_neg h2]; exact cmpL_range x y

theorem cmpL_step (xs ys : List Int) (i : Nat) (h1 : i < xs.length) (h2 : i < ys.length) : cmpL (xs.drop i) (ys.drop i) = if xs.getD i 0 < ys.getD i 0 then -1 else if ys.getD i 0 < xs.getD i 0 then 1 else cmpL (xs.drop (i + 1)) (ys.drop (i + 1)) := by
  rw [dropc xs i h1, dropc ys i h2]; rfl

theorem cmpL_left (xs ys : List Int) (i : Nat) (h1 : i < xs.length) (h2 : ys.length ≤ i) : cmpL (xs.drop i) (ys.drop i) = 1 := by
  rw [dropc xs i h1, List.drop_eq_nil_of_le h2]; rfl

theorem cmpL_right (xs ys : List Int) (i : Nat) (h1 : xs.length ≤ i) (h2 : i < ys.length) : cmpL (xs.drop i) (ys.drop i) = -1 := by
  rw [dropc ys i h2, List.drop_eq_nil_of_le h1]; rfl

theorem cmpL_end (xs ys : List Int) (i : Nat) (h1 : xs.length ≤ i) (h2 : ys.length ≤ i) : cmpL (xs.drop i) (ys.drop i) = 0 := by
  rw [List.drop_eq_nil_of_le h2, List.drop_eq_nil_of_le h1]; rfl

def lessL (xs ys : List Int) : Bool := decide (cmpL xs ys < 0)

set_option maxHeartbeats 800000 in
theorem spec_l01Less {A n c xs B m d ys w} (h : RI w A n xs) (g : RI w B m ys) :
    Calls Tryd.prog 48 #[.slice A n c, .slice B m d] w fun e w' => e = .returned (.bool (lessL xs ys)) ∧ ∃ q, w' = w.drewN q := by
  have hl := h.len
  have hl' := g.len
  have hs := h.small
  have hs' := g.small
  have H := Lib.hid h
  have G := Lib.hid g
  clear h g
  go_enter Tryd.func48, Tryd.ntmps48
  go_wp2
  go_loopw [5] (fun iv wr => ∃ i : Nat, i ≤ n ∧ i ≤ m ∧ iv = .int .i64 (i : Int) ∧ cmpL (xs.drop i) (ys.drop i) = cmpL xs ys ∧ ∃ q, wr = w.drewN q) (fun iv _ => n - (intOf iv).toNat)
  case atStart => exact ⟨0, by omega, by omega, rfl, rfl, 0, rfl⟩
  case round =>
    obtain ⟨i, hi, hi', rfl, ht, q, rfl⟩ := hrel
    by_cases hlt : i < n
    · have hlt1 : (i : Int) < (n : Int) := by omega
      by_cases hlt2 : i < m
      · have hlt3 : (i : Int) < (m : Int) := by omega
        obtain ⟨b, off, rfl, _, hc⟩ := H.out.at_ hlt
        obtain ⟨b2, off2, rfl, _, hc2⟩ := G.out.at_ hlt2
        have hst := cmpL_step xs ys i (by omega) (by omega)
        rw [ht] at hst
        have HT := Lib.hid hst
        clear ht hst
        generalize xs.getD i 0 = x at *
        generalize ys.getD i 0 = y at *
        by_cases hxy : x = y
        · have HS := Lib.hid (show cmpL (xs.drop (i + 1)) (ys.drop (i + 1)) = cmpL xs ys by rw [HT.out, if_neg (by omega), if_neg (by omega)])
          subst hxy
          clear hl hl'
          go_wp2_with fail
          go_quiet (fail)
          go_wp2
          go_roundw
          case rel => exact ⟨i + 1, by omega, by omega, by go_num, HS.out, _, rfl⟩
          case measure => simp [intOf]; omega
        · have hne : (x == y) = false := by rw [beq_eq_false_iff_ne]; exact hxy
          have HS := Lib.hid (show lessL xs ys = decide (x < y) by
            unfold lessL
            rw [HT.out]
            by_cases h1 : x < y
            · rw [if_pos h1, decide_eq_true h1]; rfl
            · rw [if_neg h1, if_pos (by omega), decide_eq_false h1]; rfl)
          clear hl hl'
          go_wp2_with fail
          go_quiet (fail)
          go_wp2
          go_quiet (fail)
          go_wp2
          go_ret
          exact ⟨by rw [HS.out]; rfl, _, by rw [World.drewN_drewN, World.drewN_drewN]⟩
      · obtain rfl : i = m := by omega
        have HS := Lib.hid (show lessL xs ys = false by unfold lessL; rw [← ht, cmpL_left xs ys i (by omega) (by omega)]; rfl)
        have hnm : ¬ (n : Int) < (i : Int) := by omega
        clear hl hl' ht
        go_wp2
        go_ret
        exact ⟨by rw [HS.out]; rfl, _, rfl⟩
    · obtain rfl : i = n := by omega
      by_cases hlt2 : i < m
      · have HS := Lib.hid (show lessL xs ys = true by unfold lessL; rw [← ht, cmpL_right xs ys i (by omega) (by omega)]; rfl)
        have hnm : (i : Int) < (m : Int) := by omega
        clear hl hl' ht
        go_wp2
        go_ret
        exact ⟨by rw [HS.out]; rfl, _, rfl⟩
      · have HS := Lib.hid (show lessL xs ys = false by unfold lessL; rw [← ht, cmpL_end xs ys i (by omega) (by omega)]; rfl)
        have hnm : ¬ (i : Int) < (m : Int) := by omega
        clear hl hl' ht
        go_wp2
        go_ret
        exact ⟨by rw [HS.out]; rfl, _, rfl⟩

theorem cmp_any (x y : Int) (w : World) :
    Calls Tryd.prog 70 #[.int .i64 x, .int .i64 y] w fun e w' => e = .returned (.int .i64 (if x < y then -1 else if y < x then 1 else 0)) ∧ w = w' := by
  by_cases h1 : x < y
  · rw [if_pos h1]
    go_enter Tryd.func70, Tryd.ntmps70
    go_wp2
    go_ret
    exact ⟨rfl, rfl⟩
  · rw [if_neg h1]
    by_cases h2 : y < x
    · rw [if_pos h2]
      go_enter Tryd.func70, Tryd.ntmps70
      go_wp2
      go_ret
      exact ⟨rfl, rfl⟩
    · rw [if_neg h2]
      go_enter Tryd.func70, Tryd.ntmps70
      go_wp2
      go_ret
      exact ⟨rfl, rfl⟩

set_option maxHeartbeats 800000 in
theorem compare_any {A n c xs B m d ys w} (h : RI w A n xs) (g : RI w B m ys) :
    Calls Tryd.prog 53 #[.slice A n c, .slice B m d] w fun e w' => e = .returned (.int .i64 (cmpL xs ys)) ∧ ∃ q, w' = w.drewN q := by
  have hl := h.len
  have hl' := g.len
  have hs := h.small
  have hs' := g.small
  have H := Lib.hid h
  have G := Lib.hid g
  clear h g
  go_enter Tryd.func53, Tryd.ntmps53
  go_wp2
  go_loopw [11] (fun iv wr => ∃ i : Nat, i ≤ n ∧ i ≤ m ∧ iv = .int .i64 (i : Int) ∧ cmpL (xs.drop i) (ys.drop i) = cmpL xs ys ∧ ∃ q, wr = w.drewN q) (fun iv _ => n - (intOf iv).toNat)
  case atStart => exact ⟨0, by omega, by omega, rfl, rfl, 0, rfl⟩
  case round =>
    obtain ⟨i, hi, hi', rfl, ht, q, rfl⟩ := hrel
    by_cases hlt : i < n
    · have hlt1 : (i : Int) < (n : Int) := by omega
      obtain ⟨b, off, rfl, _, hc⟩ := H.out.at_ hlt
      by_cases hlt2 : i < m
      · have hlt3 : (i : Int) < (m : Int) := by omega
        obtain ⟨b2, off2, rfl, _, hc2⟩ := G.out.at_ hlt2
        have hst := cmpL_step xs ys i (by omega) (by omega)
        rw [ht] at hst
        have HT := Lib.hid hst
        have CON := Lib.hid (fun w => cmp_any (xs.getD i 0) (ys.getD i 0) w)
        clear ht hst
        generalize xs.getD i 0 = x at *
        generalize ys.getD i 0 = y at *
        by_cases h1 : x < y
        · have HS := Lib.hid (show cmpL xs ys = -1 by rw [HT.out, if_pos h1])
          rw [if_pos h1] at CON
          clear hl hl'
          go_wp2_with fail
          refine (CON.out _).mono ?_
          rintro e w1 ⟨rfl, rfl⟩
          go_wp2
          go_ret
          exact ⟨by first | (rw [HS.out]; rfl) | rw [HS.out], _, rfl⟩
        · rw [if_neg h1] at CON
          by_cases h2 : y < x
          · have HS := Lib.hid (show cmpL xs ys = 1 by rw [HT.out, if_neg h1, if_pos h2])
            rw [if_pos h2] at CON
            clear hl hl'
            go_wp2_with fail
            refine (CON.out _).mono ?_
            rintro e w1 ⟨rfl, rfl⟩
            go_wp2
            go_ret
            exact ⟨by first | (rw [HS.out]; rfl) | rw [HS.out], _, rfl⟩
          · have HS := Lib.hid (show cmpL (xs.drop (i + 1)) (ys.drop (i + 1)) = cmpL xs ys by rw [HT.out, if_neg h1, if_neg h2])
            rw [if_neg h2] at CON
            clear hl hl'
            go_wp2_with fail
            refine (CON.out _).mono ?_
            rintro e w1 ⟨rfl, rfl⟩
            go_wp2
            go_roundw
            case rel => exact ⟨i + 1, by omega, by omega, by go_num, HS.out, _, rfl⟩
            case measure => simp [intOf]; omega
      · obtain rfl : i = m := by omega
        have HS := Lib.hid (show cmpL xs ys = 1 by rw [← ht, cmpL_left xs ys i (by omega) (by omega)])
        clear hl hl' ht
        go_wp2
        go_ret
        exact ⟨by first | (rw [HS.out]; rfl) | rw [HS.out], _, rfl⟩
    · obtain rfl : i = n := by omega
      by_cases hlt2 : i < m
      · have HS := Lib.hid (show cmpL xs ys = -1 by rw [← ht, cmpL_right xs ys i (by omega) (by omega)])
        have hnm : (i : Int) < (m : Int) := by omega
        clear hl hl' ht
        go_wp2
        go_ret
        exact ⟨by first | (rw [HS.out]; rfl) | rw [HS.out], _, rfl⟩
      · have HS := Lib.hid (show cmpL xs ys = 0 by rw [← ht, cmpL_end xs ys i (by omega) (by omega)])
        have hnm : (m : Int) ≤ (i : Int) := by omega
        clear hl hl' ht
        go_wp2
        go_ret
        exact ⟨by first | (rw [HS.out]; rfl) | rw [HS.out], _, rfl⟩

end Go.Proofs.YtijdlejngdhpjaaDoor
