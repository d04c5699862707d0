/- Lists of lists that rise, as the program and the reference find out. -/
import Derived.Test.YtijdlejngdhpjaaDoorLex
namespace Go.Proofs.YtijdlejngdhpjaaDoor
open Go.ChangeShapes Go.WideShapes Go.ChangeAt Go.RowKit
set_option linter.unusedVariables false

def riseB : List (List Int) → Bool
  | x :: y :: r => if lessL x y = true then riseB (y :: r) else false
  | _ => true

theorem dropS (xss : List (List Int)) (k : Nat) (h : k < xss.length) : xss.drop k = xss.getD k [] :: xss.drop (k + 1) := by
  rw [List.drop_eq_getElem_cons h]; simp [List.getD, h]

theorem riseB_end (xss : List (List Int)) (k : Nat) (h : xss.length ≤ k + 1) : riseB (xss.drop k) = true := by
  rcases hq : xss.drop k with _ | ⟨x, _ | ⟨y, r⟩⟩
  · rfl
  · rfl
  · have := congrArg List.length hq
    simp at this; omega

theorem riseB_step (xss : List (List Int)) (k : Nat) (h : k + 1 < xss.length) : riseB (xss.drop k) = if lessL (xss.getD k []) (xss.getD (k + 1) []) = true then riseB (xss.drop (k + 1)) else false := by
  rw [dropS xss k (by omega), dropS xss (k + 1) h]; rfl

set_option maxHeartbeats 800000 in
theorem impl_rising {A n c vs xss w} (h : RS w A n vs xss) :
    Calls Tryd.prog 35 #[.slice A n c] w fun e w' => e = .returned (.bool (riseB xss)) ∧ Below w.heap.size w w' := by
  have hl := h.len
  have hs := h.small
  have H := Lib.hid h
  clear h
  go_enter Tryd.func35, Tryd.ntmps35
  go_wp2
  go_loopw [3] (fun iv wr => ∃ k : Nat, k ≤ n ∧ iv = .int .i64 (k + 1 : Int) ∧ riseB (xss.drop k) = riseB xss ∧ Below w.heap.size w wr) (fun iv _ => n + 1 - (intOf iv).toNat)
  case atStart => exact ⟨0, Nat.zero_le _, rfl, by simp, Below.refl _ _⟩
  case round =>
    obtain ⟨k, hk, rfl, ht, hb⟩ := hrel
    by_cases hlt : k + 1 < n
    · obtain ⟨b, off, rfl, _, hc1⟩ := (H.out.below hb).at_ (i := k) (by omega)
      obtain ⟨b2, off2, hA2, _, hc2⟩ := (H.out.below hb).at_ (i := k + 1) hlt
      obtain ⟨rfl, rfl⟩ : b = b2 ∧ off = off2 := by simpa using hA2
      have r1 := (H.out.below hb).row (i := k) (by omega)
      have r2 := (H.out.below hb).row (i := k + 1) hlt
      have hst := riseB_step xss k (by omega)
      rw [ht] at hst
      have e1 : ((k : Int) + 1) - 1 = (k : Int) := by omega
      have e2 : (k : Int) + 1 < (n : Int) := by omega
      have e3 : (k : Int) < (n : Int) := by omega
      generalize xss.getD k [] = x at *
      generalize xss.getD (k + 1) [] = y at *
      generalize vs.getD k nilS = u at *
      generalize vs.getD (k + 1) nilS = v at *
      obtain ⟨uA, un, uc⟩ := u
      obtain ⟨vA, vn, vc⟩ := v
      simp only at r1 r2
      simp only [sv] at hc1 hc2
      have HB := Lib.hid hb
      have HST := Lib.hid hst
      have CON := Lib.hid (fun q => compare_any (c := uc) (d := vc) (w := wr.drewN q) (r1.below (below_drewN (Below.refl _ _) q)) (r2.below (below_drewN (Below.refl _ _) q)))
      clear hb r1 r2 hA2 ht hst hl
      by_cases hx : cmpL x y < 0
      · have hr : cmpL x y = -1 := by have := cmpL_range x y; omega
        have HS := Lib.hid (show riseB (xss.drop (k + 1)) = riseB xss by rw [HST.out, if_pos (show lessL x y = true from decide_eq_true hx)])
        rw [hr] at CON
        clear hx hr
        go_wp2_with fail
        go_quiet ((go_at_call 53; exact quiet_q (CON.out _)))
        go_wp2
        go_roundw
        case rel => exact ⟨k + 1, by omega, by go_num, HS.out, below_drewN HB.out _⟩
        case measure => simp [intOf]; omega
      · have hr : 0 ≤ cmpL x y := by omega
        have HS := Lib.hid (show riseB xss = false by rw [HST.out, if_neg (show ¬ lessL x y = true by unfold lessL; rw [decide_eq_false hx]; simp)])
        generalize cmpL x y = r at *
        clear hx
        go_wp2_with fail
        go_quiet ((go_at_call 53; exact quiet_q (CON.out _)))
        go_wp2
        go_ret
        exact ⟨by first | (rw [HS.out]; rfl) | rw [HS.out], below_drewN HB.out _⟩
    · have HF := Lib.hid (show riseB xss = true by rw [← ht]; exact riseB_end xss k (by omega))
      have e2 : (n : Int) ≤ (k : Int) + 1 := by omega
      have HB := Lib.hid hb
      clear hb ht hl
      go_wp2
      go_ret
      exact ⟨by first | (rw [HF.out]; rfl) | rw [HF.out], HB.out⟩

set_option maxHeartbeats 800000 in
theorem spec_l01Ascending {A n c vs xss w} (h : RS w A n vs xss) :
    Calls Tryd.prog 29 #[.slice A n c] w fun e w' => e = .returned (.bool (riseB xss)) ∧ Below w.heap.size w w' := by
  have hl := h.len
  have hs := h.small
  have H := Lib.hid h
  clear h
  go_enter Tryd.func29, Tryd.ntmps29
  go_wp2
  go_loopw [3] (fun iv wr => ∃ k : Nat, k ≤ n ∧ iv = .int .i64 (k + 1 : Int) ∧ riseB (xss.drop k) = riseB xss ∧ Below w.heap.size w wr) (fun iv _ => n + 1 - (intOf iv).toNat)
  case atStart => exact ⟨0, Nat.zero_le _, rfl, by simp, Below.refl _ _⟩
  case round =>
    obtain ⟨k, hk, rfl, ht, hb⟩ := hrel
    by_cases hlt : k + 1 < n
    · obtain ⟨b, off, rfl, _, hc1⟩ := (H.out.below hb).at_ (i := k) (by omega)
      obtain ⟨b2, off2, hA2, _, hc2⟩ := (H.out.below hb).at_ (i := k + 1) hlt
      obtain ⟨rfl, rfl⟩ : b = b2 ∧ off = off2 := by simpa using hA2
      have r1 := (H.out.below hb).row (i := k) (by omega)
      have r2 := (H.out.below hb).row (i := k + 1) hlt
      have hst := riseB_step xss k (by omega)
      rw [ht] at hst
      have e1 : ((k : Int) + 1) - 1 = (k : Int) := by omega
      have e2 : (k : Int) + 1 < (n : Int) := by omega
      have e3 : (k : Int) < (n : Int) := by omega
      generalize xss.getD k [] = x at *
      generalize xss.getD (k + 1) [] = y at *
      generalize vs.getD k nilS = u at *
      generalize vs.getD (k + 1) nilS = v at *
      obtain ⟨uA, un, uc⟩ := u
      obtain ⟨vA, vn, vc⟩ := v
      simp only at r1 r2
      simp only [sv] at hc1 hc2
      have HB := Lib.hid hb
      have HST := Lib.hid hst
      have CON := Lib.hid (fun q => spec_l01Less (c := uc) (d := vc) (w := wr.drewN q) (r1.below (below_drewN (Below.refl _ _) q)) (r2.below (below_drewN (Below.refl _ _) q)))
      clear hb r1 r2 hA2 ht hst hl
      cases hx : lessL x y with
      | true =>
        have HS := Lib.hid (show riseB (xss.drop (k + 1)) = riseB xss by rw [HST.out, if_pos hx])
        rw [hx] at CON
        clear hx
        go_wp2_with fail
        go_quiet ((go_at_call 48; exact quiet_q (CON.out _)))
        go_wp2
        go_roundw
        case rel => exact ⟨k + 1, by omega, by go_num, HS.out, below_drewN HB.out _⟩
        case measure => simp [intOf]; omega
      | false =>
        have HS := Lib.hid (show riseB xss = false by rw [HST.out, if_neg (by rw [hx]; simp)])
        rw [hx] at CON
        clear hx
        go_wp2_with fail
        go_quiet ((go_at_call 48; exact quiet_q (CON.out _)))
        go_wp2
        go_ret
        exact ⟨by first | (rw [HS.out]; rfl) | rw [HS.out], below_drewN HB.out _⟩
    · have HF := Lib.hid (show riseB xss = true by rw [← ht]; exact riseB_end xss k (by omega))
      have e2 : (n : Int) ≤ (k : Int) + 1 := by omega
      have HB := Lib.hid hb
      clear hb ht hl
      go_wp2
      go_ret
      exact ⟨by first | (rw [HF.out]; rfl) | rw [HF.out], HB.out⟩

end Go.Proofs.YtijdlejngdhpjaaDoor
