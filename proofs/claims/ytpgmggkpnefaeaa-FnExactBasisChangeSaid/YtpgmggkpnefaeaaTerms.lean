/- Term lists: IsTermList of the program and of the reference. -/
import Derived.Test.YtpgmggkpnefaeaaRise
import Derived.Test.YtpgmggkpnefaeaaAllS
namespace Go.Proofs.Ytpgmggkpnefaeaa
open Go.ChangeShapes Go.WideShapes Go.ChangeAt Go.RowKit
set_option linter.unusedVariables false

def shortB (xs : List Int) : Bool := decide (xs.length ≤ 20)

def pIsTermList (xss : List (List Int)) : Bool := decide (xss.length ≤ 2000) && (xss.all shortB && riseB xss)

theorem pIsTermList_true {xss} (h : pIsTermList xss = true) : xss.length ≤ 2000 ∧ (∀ x ∈ xss, x.length ≤ 20) ∧ riseB xss = true := by
  simp only [pIsTermList, shortB, Bool.and_eq_true, decide_eq_true_eq, List.all_eq_true] at h
  exact ⟨h.1, h.2.1, h.2.2⟩

theorem short_pred (w : World) : PredL 116 #[] w (fun _ => True) shortB := by
  refine ⟨Try.call116, fun A n c x w1 hr _ hb => ?_⟩
  show Calls Try.prog 116 #[.slice A n c] w1 _
  have hl := hr.len
  have hs := hr.small
  clear hr hb
  by_cases h : n ≤ 20
  · rw [show shortB x = true from decide_eq_true (by omega)]
    have h2 : (n : Int) ≤ 20 := by omega
    clear hl
    go_enter Try.func116, Try.ntmps116
    go_wp2
    go_ret
    exact ⟨rfl, Below.refl _ _⟩
  · rw [show shortB x = false from decide_eq_false (by omega)]
    have h2 : (20 : Int) < (n : Int) := by omega
    have e : decide ((n : Int) ≤ 20) = false := decide_eq_false (by omega)
    clear hl
    go_enter Try.func116, Try.ntmps116
    go_wp2
    go_ret
    exact ⟨rfl, Below.refl _ _⟩

theorem impl_IsTermList {A n c vs xss w} (h : RS w A n vs xss) (hn : n + tot xss ≤ 1048576) :
    Calls Try.prog 80 #[.slice A n c] w fun e w' => e = .returned (.bool (pIsTermList xss)) ∧ Below w.heap.size w w' := by
  have hl := h.len
  have H := Lib.hid h
  clear h hn
  by_cases h2 : n ≤ 2000
  · have h2' : (n : Int) ≤ 2000 := by omega
    have CA := Lib.hid (allS_any (c := c) _ #[] _ _ A n vs xss w (short_pred w) H.out (fun _ _ => trivial))
    cases ha : xss.all shortB with
    | false =>
      have HF := Lib.hid (show pIsTermList xss = false by unfold pIsTermList; rw [ha]; simp)
      rw [ha] at CA
      clear ha hl
      go_enter Try.func80, Try.ntmps80
      go_wp2_with fail
      refine CA.out.mono ?_
      rintro e w1 ⟨rfl, hb⟩
      have HB := Lib.hid hb
      clear hb
      go_wp2
      go_ret
      exact ⟨by first | (rw [HF.out]; rfl) | rw [HF.out], HB.out⟩
    | true =>
      have HF := Lib.hid (show pIsTermList xss = riseB xss by unfold pIsTermList; rw [ha, decide_eq_true (by omega)]; simp)
      have CR := Lib.hid (fun w1 (hb : Below w.heap.size w w1) => impl_rising (c := c) (H.out.below hb))
      rw [ha] at CA
      clear ha hl
      go_enter Try.func80, Try.ntmps80
      go_wp2_with fail
      refine CA.out.mono ?_
      rintro e w1 ⟨rfl, hb⟩
      have HB := Lib.hid hb
      clear hb
      go_wp2_with fail
      refine (CR.out _ HB.out).mono ?_
      rintro e w2 ⟨rfl, hb⟩
      have HB2 := Lib.hid (HB.out.trans (hb.mono HB.out.size))
      clear hb
      go_wp2
      go_ret
      exact ⟨by first | (rw [HF.out]; rfl) | rw [HF.out], HB2.out⟩
  · have h2' : (2000 : Int) < (n : Int) := by omega
    have hs := H.out.small
    have HF := Lib.hid (show pIsTermList xss = false by unfold pIsTermList; rw [decide_eq_false (by omega)]; simp)
    clear hl
    go_enter Try.func80, Try.ntmps80
    go_wp2
    go_ret
    exact ⟨by first | (rw [HF.out]; rfl) | rw [HF.out], Below.refl _ _⟩

set_option maxHeartbeats 400000 in
theorem spec_l01Terms {A n c vs xss w} (h : RS w A n vs xss) :
    Calls Try.prog 78 #[.slice A n c] w fun e w' => e = .returned (.bool (pIsTermList xss)) ∧ Below w.heap.size w w' := by
  have hl := h.len
  have hs := h.small
  have H := Lib.hid h
  have CR := Lib.hid (fun w1 (hb : Below w.heap.size w w1) => spec_l01Ascending (c := c) (H.out.below hb))
  clear h
  go_enter Try.func78, Try.ntmps78
  go_wp2
  go_loopw [3] (fun iv wr => ∃ k : Nat, k ≤ n ∧ iv = .int .i64 (k : Int) ∧ (xss.take k).all shortB = true ∧ Below w.heap.size w wr) (fun iv _ => n - (intOf iv).toNat)
  case atStart => exact ⟨0, by omega, rfl, by simp, Below.refl _ _⟩
  case round =>
    obtain ⟨k, hk, rfl, hall, hb⟩ := hrel
    by_cases hlt : k < n
    · obtain ⟨b, off, rfl, _, hc⟩ := (H.out.below hb).at_ hlt
      have hrow := (H.out.below hb).row hlt
      have hrl := hrow.len
      have hrs := hrow.small
      have hmem := getD_memS xss k (by omega)
      have htk := take_snocS xss k (by omega)
      generalize xss.getD k [] = x at *
      generalize vs.getD k nilS = v at *
      obtain ⟨vA, vn, vc⟩ := v
      simp only [sv] at hc hrl hrs
      have HB := Lib.hid hb
      have hlt' : (k : Int) < (n : Int) := by omega
      by_cases h20 : vn ≤ 20
      · have h20' : (vn : Int) ≤ 20 := by omega
        have HN := Lib.hid (show (xss.take (k + 1)).all shortB = true by
          have e : shortB x = true := decide_eq_true (by omega)
          rw [htk, List.all_append, hall]; simp [e])
        clear hrow hrl hmem htk hall hb hl
        go_wp2
        go_roundw
        case rel => exact ⟨k + 1, by omega, by go_num, HN.out, HB.out⟩
        case measure => simp [intOf]; omega
      · have h20' : (20 : Int) < (vn : Int) := by omega
        have HF := Lib.hid (show pIsTermList xss = false by
          have e : xss.all shortB = false := List.all_eq_false.2 ⟨x, hmem, by rw [show shortB x = false from decide_eq_false (by omega)]; simp⟩
          unfold pIsTermList; rw [e]; simp)
        clear hrow hrl hmem htk hall hb hl
        go_wp2
        go_ret
        exact ⟨by first | (rw [HF.out]; rfl) | rw [HF.out], HB.out⟩
    · obtain rfl : k = n := by omega
      have HB := Lib.hid hb
      rw [show xss.take k = xss by rw [← hl]; exact List.take_length] at hall
      by_cases h2 : k ≤ 2000
      · have h2' : (k : Int) ≤ 2000 := by omega
        have HF := Lib.hid (show pIsTermList xss = riseB xss by unfold pIsTermList; rw [hall, decide_eq_true (by omega)]; simp)
        clear hall hb hl
        go_wp2_with fail
        refine (CR.out _ HB.out).mono ?_
        rintro e w2 ⟨rfl, hb⟩
        have HB2 := Lib.hid (HB.out.trans (hb.mono HB.out.size))
        clear hb
        go_wp2
        go_ret
        exact ⟨by first | (rw [HF.out]; rfl) | rw [HF.out], HB2.out⟩
      · have h2' : (2000 : Int) < (k : Int) := by omega
        have HF := Lib.hid (show pIsTermList xss = false by unfold pIsTermList; rw [decide_eq_false (by omega)]; simp)
        clear hall hb hl
        go_wp2
        go_ret
        exact ⟨by first | (rw [HF.out]; rfl) | rw [HF.out], HB.out⟩

end Go.Proofs.Ytpgmggkpnefaeaa
