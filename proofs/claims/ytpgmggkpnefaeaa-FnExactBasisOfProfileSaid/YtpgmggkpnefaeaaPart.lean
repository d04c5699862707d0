/- IsInPart of the program and of the reference. -/
import Derived.Test.YtpgmggkpnefaeaaMil
import Derived.Test.YtpgmggkpnefaeaaCl
import Derived.Test.YtpgmggkpnefaeaaMat
namespace Go.Proofs.Ytpgmggkpnefaeaa
open Go.ChangeShapes Go.WideShapes Go.ChangeAt Go.RowKit
set_option linter.unusedVariables false

def inW (hs : List Int) (i : Nat) : List Int → Bool
  | [] => true
  | x :: r => if x.toNat / 2 ^ (hs.getD i 0).toNat = 0 then inW hs (i + 1) r else false

def pIsInPart (xss : List (List Int)) (hs : List Int) : Bool × Int :=
  if pIsMilnor xss = true then (if pIsProfile hs = true then (xss.all (inW hs 0), 0) else (false, 1)) else (false, 1)

theorem inW_step (hs xs : List Int) (k : Nat) (h : k < xs.length) : inW hs k (xs.drop k) = if (xs.getD k 0).toNat / 2 ^ (hs.getD k 0).toNat = 0 then inW hs (k + 1) (xs.drop (k + 1)) else false := by
  rw [dropc xs k h]; rfl

theorem inW_end (hs xs : List Int) (k : Nat) (h : xs.length ≤ k) : inW hs k (xs.drop k) = true := by
  rw [List.drop_eq_nil_of_le h]; rfl

set_option maxHeartbeats 400000 in
theorem impl_inPart {A n c xs A' n' c' hs w} (h : RI w A n xs) (g : RI w A' n' hs) (hx : ∀ x ∈ xs, 0 ≤ x ∧ x ≤ 1000000000000) (hn : n ≤ 10) (hp : Prf hs) :
    Calls Try.prog 87 #[.slice A n c, .slice A' n' c'] w fun e w' => e = .returned (.bool (inW hs 0 xs)) ∧ w = w' := by
  have hl := h.len
  have H := Lib.hid h
  have HX := Lib.hid hx
  have CA := Lib.hid (fun j h1 h2 => impl_at A' n' c' hs j w g h1 h2)
  have HP := Lib.hid hp
  clear h g hx hp
  go_enter Try.func87, Try.ntmps87
  go_wp2
  go_loop [9] (fun iv => ∃ i : Nat, i ≤ n ∧ iv = .int .i64 (i : Int) ∧ inW hs i (xs.drop i) = inW hs 0 xs) (fun iv => n - (intOf iv).toNat)
  case atStart => exact ⟨0, by omega, rfl, rfl⟩
  case round =>
    obtain ⟨i, hi, rfl, ht⟩ := hrel
    by_cases hlt : i < n
    · obtain ⟨b, off, rfl, _, hc⟩ := H.out.at_ hlt
      have hxb := HX.out (xs.getD i 0) (by simp [List.getD, show i < xs.length by omega])
      have hst := inW_step hs xs i (by omega)
      rw [ht] at hst
      have hg := prf_get HP.out i
      have CB := CA.out ((i : Int) + 1) (by omega) (by omega)
      rw [show ((i : Int) + 1 - 1).toNat = i by omega] at CB
      generalize xs.getD i 0 = x at *
      generalize hs.getD i 0 = y at *
      obtain ⟨m, rfl⟩ := Int.eq_ofNat_of_zero_le hxb.1
      obtain ⟨e, rfl⟩ := Int.eq_ofNat_of_zero_le hg.1
      rw [Int.toNat_natCast, Int.toNat_natCast] at hst
      have hcd := cast_div m e
      have hmn : min e 64 = e := by omega
      have CB := Lib.hid CB
      clear ht hl
      generalize m / 2 ^ e = q at *
      by_cases hq : q = 0
      · subst hq
        rw [if_pos rfl] at hst
        have HST := Lib.hid hst
        clear hst
        go_wp2_with fail
        refine CB.out.mono ?_
        rintro e w1 ⟨rfl, rfl⟩
        go_wp2
        go_round
        case rel => exact ⟨i + 1, by omega, by go_num, HST.out.symm⟩
        case measure => simp [intOf]; omega
      · rw [if_neg hq] at hst
        have HST := Lib.hid hst
        have hq2 : ((q : Int) == 0) = false := by rw [beq_eq_false_iff_ne]; omega
        clear hst hq
        go_wp2_with fail
        refine CB.out.mono ?_
        rintro e w1 ⟨rfl, rfl⟩
        go_wp2
        go_ret
        exact ⟨by first | (rw [HST.out]; rfl) | rw [HST.out], rfl⟩
    · obtain rfl : i = n := by omega
      rw [inW_end hs xs i (by omega)] at ht
      have HT := Lib.hid ht
      clear ht hl
      go_wp2
      go_ret
      exact ⟨by first | (rw [← HT.out]; rfl) | rw [← HT.out], rfl⟩

set_option maxHeartbeats 800000 in
theorem spec_l07In {A n c xs A' n' c' hs w} (h : RI w A n xs) (g : RI w A' n' hs) (hx : ∀ x ∈ xs, 0 ≤ x ∧ x ≤ 1000000000000) (hn : n ≤ 10) (hp : Prf hs) :
    Calls Try.prog 118 #[.slice A n c, .slice A' n' c'] w fun e w' => e = .returned (.bool (inW hs 0 xs)) ∧ ∃ q, w' = w.drewN q := by
  have hl := h.len
  have H := Lib.hid h
  have HX := Lib.hid hx
  have CA := Lib.hid (fun j w1 (hb : Below w.heap.size w w1) h1 h2 => spec_at A' n' c' hs j w1 (g.below hb) h1 h2)
  have HP := Lib.hid hp
  clear h g hx hp
  go_enter Try.func118, Try.ntmps118
  go_wp2
  go_loopw [5] (fun iv wr => ∃ i : Nat, i ≤ n ∧ iv = .int .i64 (i : Int) ∧ inW hs i (xs.drop i) = inW hs 0 xs ∧ ∃ q, wr = w.drewN q) (fun iv _ => n - (intOf iv).toNat)
  case atStart => exact ⟨0, by omega, rfl, rfl, 0, rfl⟩
  case round =>
    obtain ⟨i, hi, rfl, ht, hwq⟩ := hrel
    have HBW := Lib.hid (show Below w.heap.size w wr by obtain ⟨q, rfl⟩ := hwq; exact below_drewN (Below.refl _ _) _)
    have HWQ := Lib.hid (fun m => show ∃ q, wr.drewN m = w.drewN q by obtain ⟨q, rfl⟩ := hwq; exact ⟨_, by rw [World.drewN_drewN]⟩)
    have HWE := Lib.hid hwq
    clear hwq
    by_cases hlt : i < n
    · obtain ⟨b, off, rfl, _, hc⟩ := (H.out.below HBW.out).at_ hlt
      have hlt' : (i : Int) < (n : Int) := by omega
      have hxb := HX.out (xs.getD i 0) (by simp [List.getD, show i < xs.length by omega])
      have hst := inW_step hs xs i (by omega)
      rw [ht] at hst
      have hg := prf_get HP.out i
      have CB := fun q => CA.out ((i : Int) + 1) (wr.drewN q) (below_drewN HBW.out q) (by omega) (by omega)
      rw [show ((i : Int) + 1 - 1).toNat = i by omega] at CB
      generalize xs.getD i 0 = x at *
      generalize hs.getD i 0 = y at *
      obtain ⟨m, rfl⟩ := Int.eq_ofNat_of_zero_le hxb.1
      obtain ⟨e, rfl⟩ := Int.eq_ofNat_of_zero_le hg.1
      rw [Int.toNat_natCast, Int.toNat_natCast] at hst
      have hmn : min e 64 = e := by omega
      have hpw : IntKind.i64.wrap ((2 : Int) ^ e) = ((2 ^ e : Nat) : Int) := by rw [IntWalk.i64_left]; exact pow_wrap62 e (by omega)
      have hu : IntKind.u64.wrap (e : Int) = (e : Int) := wrap_u64_id _ (by omega) (by omega)
      have hpos : 0 < 2 ^ e := Nat.pow_pos (by omega)
      have hdiv : m / 2 ^ e = 0 ↔ m < 2 ^ e := by rw [Nat.div_eq_zero_iff]; omega
      have CB := Lib.hid CB
      clear ht hl
      generalize 2 ^ e = p at *
      by_cases hq : m < p
      · rw [if_pos (hdiv.2 hq)] at hst
        have HST := Lib.hid hst
        have hd : decide (p ≤ m) = false := decide_eq_false (by omega)
        have hd2 : ¬ p ≤ m := by omega
        clear hst hdiv hq
        go_wp2_with fail
        go_quiet ((go_at_call 140; exact quiet_lefts (CB.out _)))
        go_wp2
        go_roundw
        case rel => exact ⟨i + 1, by omega, by go_num, HST.out.symm, HWQ.out _⟩
        case measure => simp [intOf]; omega
      · rw [if_neg (fun h => hq (hdiv.1 h))] at hst
        have HST := Lib.hid hst
        have hd : decide (p ≤ m) = true := decide_eq_true (by omega)
        have hd2 : p ≤ m := by omega
        clear hst hdiv hq
        go_wp2_with fail
        go_quiet ((go_at_call 140; exact quiet_lefts (CB.out _)))
        go_wp2
        go_ret
        exact ⟨by first | (rw [HST.out]; rfl) | rw [HST.out], HWQ.out _⟩
    · obtain rfl : i = n := by omega
      rw [inW_end hs xs i (by omega)] at ht
      have HT := Lib.hid ht
      clear ht hl
      go_wp2
      go_ret
      exact ⟨by first | (rw [← HT.out]; rfl) | rw [← HT.out], HWE.out⟩

end Go.Proofs.Ytpgmggkpnefaeaa
