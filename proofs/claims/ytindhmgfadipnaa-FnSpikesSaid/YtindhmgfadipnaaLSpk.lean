/- What the statement's own helpers big, likeInts, rows5, sum do. -/
import Derived.Test.YtindhmgfadipnaaSrc
import Derived.Test.YtindhmgfadipnaaSum
import Derived.Test.YtindhmgfadipnaaHelpS
namespace Go.Proofs.Ytindhmgfadipnaa
open Go.ChangeShapes Go.WideShapes Go.ChangeAt Go.RowKit
set_option linter.unusedVariables false

theorem big_any {A n c w} (h : n ≤ 9223372036854775807) :
    Calls Try.prog 72 #[.slice A n c] w fun e w' => e = .returned (.bool (decide (4096 < n))) ∧ w = w' := by
  have e : decide ((4096 : Int) < (n : Int)) = decide (4096 < n) := by simp only [decide_eq_decide]; omega
  go_enter Try.func72, Try.ntmps72
  go_wp2
  go_ret
  exact ⟨by first | (rw [e]; done) | (rw [← e]; rfl) | simp, rfl⟩

set_option maxHeartbeats 400000 in
theorem like_q (A B : Option Addr) (n c d : Nat) (xs : List Int) (w : World) (h : RI w A n xs) (g : RI w B n xs) :
    Calls Try.prog 133 #[.slice A n c, .slice B n d] w fun e w' => e = .returned (.bool true) ∧ ∃ q, w' = w.drewN q := by
  have hs := h.small
  have H := Lib.hid h
  have G := Lib.hid g
  clear h g
  go_enter Try.func133, Try.ntmps133
  go_wp2
  go_loopw [5] (fun i wr => ∃ k : Nat, k ≤ n ∧ i = .int .i64 k ∧ ∃ q, wr = w.drewN q) (fun i _ => n - (intOf i).toNat)
  case atStart => exact ⟨0, Nat.zero_le _, rfl, 0, rfl⟩
  case round =>
    obtain ⟨k, hk, rfl, q, rfl⟩ := hrel
    by_cases hlt : k < n
    · obtain ⟨b, off, rfl, _, hc⟩ := H.out.at_ hlt
      obtain ⟨b2, off2, rfl, _, hc2⟩ := G.out.at_ hlt
      have hlt' : (k : Int) < (n : Int) := by omega
      go_wp2_with fail
      go_quiet (fail)
      go_wp2
      go_roundw
      case rel => exact ⟨k + 1, by omega, by go_num, _, rfl⟩
      case measure => simp [intOf]; omega
    · obtain rfl : k = n := by omega
      go_wp2
      go_ret
      exact ⟨rfl, _, rfl⟩

set_option maxHeartbeats 400000 in
theorem rows5_same (A B : Option Addr) (n c d : Nat) (vs us : List Sl) (xss : List (List Int)) (w : World) (h : RS w A n vs xss) (g : RS w B n us xss) :
    Calls Try.prog 76 #[.slice A n c, .slice B n d] w fun e w' => e = .returned (.bool true) ∧ Below w.heap.size w w' := by
  have hs := h.small
  have H := Lib.hid h
  have G := Lib.hid g
  clear h g
  go_enter Try.func76, Try.ntmps76
  go_wp2
  go_loopw [5] (fun i wr => ∃ k : Nat, k ≤ n ∧ i = .int .i64 k ∧ Below w.heap.size w wr) (fun i _ => n - (intOf i).toNat)
  case atStart => exact ⟨0, Nat.zero_le _, rfl, Below.refl _ _⟩
  case round =>
    obtain ⟨k, hk, rfl, hb⟩ := hrel
    by_cases hlt : k < n
    · obtain ⟨b, off, rfl, hb1, hc⟩ := (H.out.below hb).at_ hlt
      obtain ⟨b2, off2, rfl, hb2, hc2⟩ := (G.out.below hb).at_ hlt
      have r1 := (H.out.below hb).row hlt
      have r2 := (G.out.below hb).row hlt
      have hlt' : (k : Int) < (n : Int) := by omega
      have HB := Lib.hid hb
      have en : (us.getD k nilS).2.1 = (vs.getD k nilS).2.1 := by rw [← r2.len, r1.len]
      generalize us.getD k nilS = u at *
      generalize vs.getD k nilS = v at *
      obtain ⟨vA, vn, vc⟩ := v
      obtain ⟨uA, un, uc⟩ := u
      simp only at en r1 r2
      subst en
      simp only [sv] at hc hc2
      have CON := Lib.hid (fun q => like_q vA uA un vc uc _ (wr.drewN q) (r1.below (below_drewN (Below.refl _ _) q)) (r2.below (below_drewN (Below.refl _ _) q)))
      clear hb r1 r2 hb1 hb2
      go_wp2_with fail
      go_quiet ((go_at_call 133; exact quiet_q (CON.out _)))
      go_wp2
      go_roundw
      case rel => exact ⟨k + 1, by omega, by go_num, below_drewN HB.out _⟩
      case measure => simp [intOf]; omega
    · obtain rfl : k = n := by omega
      have HB := Lib.hid hb
      clear hb
      go_wp2
      go_ret
      exact ⟨rfl, HB.out⟩

theorem laws_sum (A : Option Addr) (n c : Nat) (xs : List Int) (w : World) (h : RI w A n xs) :
    Calls Try.prog 78 #[.slice A n c] w fun e w' => e = .returned (.int .i64 (sumW 0 xs)) ∧ w = w' := by
  have hs := h.small
  have H := Lib.hid h
  clear h
  go_enter Try.func78, Try.ntmps78
  go_wp2
  go_loop [3, 4] (fun sv i => ∃ (k : Nat) (s : Int), k ≤ n ∧ i = .int .i64 k ∧ sv = .int .i64 s ∧ sumW s (xs.drop k) = sumW 0 xs) (fun _ i => n - (intOf i).toNat)
  case atStart => exact ⟨0, 0, Nat.zero_le _, rfl, rfl, by simp⟩
  case round =>
    obtain ⟨k, s, hk, rfl, rfl, ht⟩ := hrel
    by_cases hlt : k < n
    · obtain ⟨b, off, rfl, _, hcell⟩ := H.out.at_ hlt
      have hl := H.out.len
      have hdr := dropc xs k (by omega)
      generalize xs.getD k 0 = x at *
      rw [hdr, sumW] at ht
      have HT := Lib.hid ht
      clear hl hdr ht
      go_wp2
      go_round
      case rel => exact ⟨k + 1, _, by omega, by go_num, rfl, HT.out⟩
      case measure => simp [intOf]; omega
    · obtain rfl : k = n := by omega
      have hl := H.out.len
      rw [List.drop_of_length_le (by omega), sumW] at ht
      have HT := Lib.hid ht
      clear ht hl
      go_wp2
      go_ret
      exact ⟨by rw [← HT.out]; rfl, rfl⟩

end Go.Proofs.Ytindhmgfadipnaa
