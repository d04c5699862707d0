/- IsProfile of the program and of the reference: both return whether the list has at most 16 numbers, each from 0 to 10. -/
import Derived.Test.YtpgmggkpnefaeaaAll
namespace Go.Proofs.Ytpgmggkpnefaeaa
open Go.ChangeShapes Go.WideShapes Go.ChangeAt Go.RowKit
set_option linter.unusedVariables false

def pIsProfile (xs : List Int) : Bool := decide (xs.length ≤ 16) && xs.all (fun x => inB x 0 10)

theorem pIsProfile_true {xs : List Int} (h : pIsProfile xs = true) : xs.length ≤ 16 ∧ ∀ x ∈ xs, 0 ≤ x ∧ x ≤ 10 := by
  simp only [pIsProfile, Bool.and_eq_true, decide_eq_true_eq, List.all_eq_true] at h
  exact ⟨h.1, fun x hx => inB_true (h.2 x hx)⟩

theorem isProfile_pred (w : World) : PredI 119 #[] w (fun x => inB x 0 10) := by
  refine ⟨Try.call119, fun x w1 hx hb => ?_⟩
  clear hb hx
  show Calls Try.prog 119 #[.int .i64 x] w1 _
  go_enter Try.func119, Try.ntmps119
  go_wp2_with (go_at_call 90; refine (in_any _ _ _ _).mono ?_; rintro e w' ⟨rfl, rfl⟩)
  go_ret
  exact ⟨rfl, Below.refl _ _⟩

theorem impl_IsProfile (A : Option Addr) (n c : Nat) (xs : List Int) (w : World) (h : RI w A n xs) (hn : n ≤ 1048576) :
    Calls Try.prog 84 #[.slice A n c] w fun e w' => e = .returned (.bool (pIsProfile xs)) ∧ Below w.heap.size w w' := by
  have hl := h.len
  by_cases h16 : n ≤ 16
  · have con := all_any _ _ _ A n c xs w (isProfile_pred w) h
    have hf : pIsProfile xs = xs.all (fun x => inB x 0 10) := by
      have : decide (xs.length ≤ 16) = true := decide_eq_true (by omega)
      unfold pIsProfile; rw [this, Bool.true_and]
    rw [hf]
    have CON := Lib.hid con
    clear hf con h hl
    have h17 : (n : Int) ≤ 16 := by omega
    go_enter Try.func84, Try.ntmps84
    go_wp2_with fail
    refine CON.out.mono ?_
    rintro e w1 ⟨rfl, hb⟩
    have HB := Lib.hid hb
    clear hb
    go_wp2
    go_ret
    exact ⟨rfl, HB.out⟩
  · have hf : pIsProfile xs = false := by
      have : decide (xs.length ≤ 16) = false := decide_eq_false (by omega)
      unfold pIsProfile; rw [this, Bool.false_and]
    rw [hf]
    clear hf h hl
    have h17 : (16 : Int) < n := by omega
    go_enter Try.func84, Try.ntmps84
    go_wp2
    go_ret
    exact ⟨rfl, Below.refl _ _⟩

set_option maxHeartbeats 400000 in
theorem spec_l07Is (A : Option Addr) (n c : Nat) (xs : List Int) (w : World) (h : RI w A n xs) :
    Calls Try.prog 82 #[.slice A n c] w fun e w' => e = .returned (.bool (pIsProfile xs)) ∧ w = w' := by
  have hs := h.small
  have H := Lib.hid h
  clear h
  go_enter Try.func82, Try.ntmps82
  go_wp2
  go_loop [3] (fun i => ∃ k : Nat, k ≤ n ∧ i = .int .i64 k ∧ (xs.take k).all (fun x => inB x 0 10) = true) (fun i => n - (intOf i).toNat)
  case atStart => exact ⟨0, Nat.zero_le _, rfl, by simp⟩
  case round =>
    obtain ⟨k, hk, rfl, hall⟩ := hrel
    have HA := Lib.hid hall
    clear hall
    by_cases hlt : k < n
    · obtain ⟨b, off, rfl, _, hcell⟩ := H.out.at_ hlt
      have hl := H.out.len
      have hk2 : k < xs.length := by omega
      have htk : xs.take (k + 1) = xs.take k ++ [xs.getD k 0] := by
        rw [List.take_succ_eq_append_getElem hk2]; simp [List.getD, hk2]
      have hmem : xs.getD k 0 ∈ xs := by simp [List.getD, hk2]
      generalize xs.getD k 0 = x at *
      have HT := Lib.hid htk
      have HM := Lib.hid hmem
      clear htk hl hk2 hmem
      by_cases hp : inB x 0 10 = true
      · go_wp2_with (go_at_call 58; refine (l01In_any _ _ _ _).mono ?_; rintro e w' ⟨rfl, rfl⟩)
        go_round
        case rel => exact ⟨k + 1, by omega, by go_num, by rw [HT.out, List.all_append, HA.out]; simp [hp]⟩
        case measure => simp [intOf]; omega
      · have hp' : inB x 0 10 = false := by simpa using hp
        have hf : pIsProfile xs = false := by
          have : xs.all (fun x => inB x 0 10) = false := List.all_eq_false.2 ⟨x, HM.out, by simp [hp']⟩
          unfold pIsProfile; rw [this, Bool.and_false]
        have HF := Lib.hid hf
        clear hf hp
        go_wp2_with (go_at_call 58; refine (l01In_any _ _ _ _).mono ?_; rintro e w' ⟨rfl, rfl⟩)
        go_ret
        exact ⟨by rw [HF.out]; rfl, rfl⟩
    · obtain rfl : k = n := by omega
      have hl := H.out.len
      have e1 : xs.take k = xs := by rw [← hl]; exact List.take_length
      have hf : pIsProfile xs = decide ((k : Int) ≤ 16) := by
        have h1 := HA.out
        rw [e1] at h1
        unfold pIsProfile
        rw [h1, hl, Bool.and_true]
        by_cases hq : k ≤ 16
        · rw [decide_eq_true hq, decide_eq_true (by omega)]
        · rw [decide_eq_false hq, decide_eq_false (by omega)]
      have HF := Lib.hid hf
      clear hf hl e1
      by_cases hq : (k : Int) ≤ 16
      · go_wp2
        go_ret
        exact ⟨by rw [HF.out, decide_eq_true hq]; rfl, rfl⟩
      · have hq' : (16 : Int) < k := by omega
        go_wp2
        go_ret
        exact ⟨by rw [HF.out, decide_eq_false (by omega)]; rfl, rfl⟩

end Go.Proofs.Ytpgmggkpnefaeaa
