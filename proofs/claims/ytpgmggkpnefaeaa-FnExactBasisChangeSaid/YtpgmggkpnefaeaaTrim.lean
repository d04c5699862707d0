/- Lists without zeros at the end; the program's 'trimmed'. -/
import Derived.Test.YtpgmggkpnefaeaaLeaf
import Derived.Test.YtpgmggkpnefaeaaMem
namespace Go.Proofs.Ytpgmggkpnefaeaa
open Go.ChangeShapes Go.WideShapes Go.ChangeAt Go.RowKit
set_option linter.unusedVariables false

/-- how many of the first k numbers are left without zeros at the end -/
def tlen (xs : List Int) : Nat → Nat
  | 0 => 0
  | k + 1 => if xs.getD k 0 = 0 then tlen xs k else k + 1

def trimL (xs : List Int) : List Int := xs.take (tlen xs xs.length)

theorem tlen_le (xs : List Int) (k : Nat) : tlen xs k ≤ k := by
  induction k with
  | zero => simp [tlen]
  | succ k ih =>
    rw [tlen]
    split <;> omega

theorem trimL_len (xs : List Int) : (trimL xs).length = tlen xs xs.length := by
  have := tlen_le xs xs.length
  simp [trimL]; omega

theorem OwnI.take {w B A n c xs} (h : OwnI w B A n c xs) {m : Nat} (hm : m ≤ n) : OwnI w B A m c (xs.take m) := by
  refine ⟨⟨?_, ?_⟩, fun x hx => h.2 x (List.mem_of_mem_take hx)⟩
  · have := h.len
    simp; omega
  · rcases h.1.2 with ⟨hv, h0⟩ | ⟨g, cap, cur, hv, hb, hg, hnc, hcm, hs, ht⟩
    · injection hv with h1 h2 h3
      subst h1; subst h3
      exact .inl ⟨by rw [show m = 0 by omega], by omega⟩
    · injection hv with h1 h2 h3
      subst h1; subst h3
      refine .inr ⟨g, c, cur, rfl, hb, hg, by omega, hcm, hs, ?_⟩
      rw [List.map_take, ← ht, List.take_take]
      congr 1; omega

theorem OwnI.cap_ge {w B A n c xs} (h : OwnI w B A n c xs) : n ≤ c ∧ c ≤ 9223372036854775807 := by
  rcases h.1.2 with ⟨hv, h0⟩ | ⟨g, cap, cur, hv, hb, hg, hnc, hcm, hs, ht⟩
  · injection hv with h1 h2 h3; omega
  · injection hv with h1 h2 h3; unfold maxLen at hcm; omega

theorem RI.take {w A n xs} (h : RI w A n xs) {m : Nat} (hm : m ≤ n) : RI w A m (xs.take m) := by
  have hl := h.len
  refine ⟨by simp; omega, Nat.le_trans hm h.2.1, fun x hx => h.2.2.1 x (List.mem_of_mem_take hx), fun h0 => ?_⟩
  obtain ⟨b, off, e, hb, hc⟩ := h.2.2.2 (by omega)
  exact ⟨b, off, e, hb, fun i hi => by rw [hc i (by omega)]; simp [List.getD, hi]⟩

set_option maxHeartbeats 400000 in
theorem trimmed_any (A : Option Addr) (n c : Nat) (xs : List Int) (w : World) (h : RI w A n xs) (hnc : n ≤ c) (hc63 : c ≤ 9223372036854775807) :
    Calls Try.prog 101 #[.slice A n c] w fun e w' => e = .returned (.slice A (tlen xs xs.length) c) ∧ w = w' := by
  have hl := h.len
  rw [hl]
  have H := Lib.hid h
  clear h hl
  go_enter Try.func101, Try.ntmps101
  go_wp2
  go_loop [0] (fun v => ∃ k : Nat, k ≤ n ∧ v = .slice A k c ∧ tlen xs k = tlen xs n) (fun v => match v with | .slice _ k _ => k | _ => 0)
  case atStart => exact ⟨n, Nat.le_refl _, rfl, rfl⟩
  case round =>
    obtain ⟨k, hk, rfl, ht⟩ := hrel
    cases k with
    | zero =>
      rw [tlen] at ht
      have HT := Lib.hid ht
      clear ht
      go_wp2
      go_ret
      exact ⟨by rw [← HT.out]; rfl, rfl⟩
    | succ k =>
      obtain ⟨b, off, rfl, _, hcell⟩ := H.out.at_ (i := k) (by omega)
      have e1 : ((k + 1 : Nat) : Int) - 1 = (k : Int) := by omega
      have b1 : (0 : Int) < ((k + 1 : Nat) : Int) := by omega
      rw [tlen] at ht
      by_cases hz : xs.getD k 0 = 0
      · rw [if_pos hz] at ht
        rw [hz] at hcell
        have HT := Lib.hid ht
        clear ht hz
        go_wp2
        go_round
        case rel => exact ⟨k, by omega, rfl, HT.out⟩
        case measure => simp
      · rw [if_neg hz] at ht
        generalize xs.getD k 0 = x at *
        have hz' : (x == 0) = false := by simpa using hz
        have HT := Lib.hid ht
        clear ht hz
        go_wp2
        go_ret
        exact ⟨by rw [← HT.out]; rfl, rfl⟩

theorem tlen_zero (xs : List Int) (k : Nat) (j : Nat) (h1 : tlen xs k ≤ j) (h2 : j < k) : xs.getD j 0 = 0 := by
  induction k with
  | zero => omega
  | succ k ih =>
    rw [tlen] at h1
    by_cases hz : xs.getD k 0 = 0
    · rw [if_pos hz] at h1
      by_cases e : j = k
      · rw [e]; exact hz
      · exact ih h1 (by omega)
    · rw [if_neg hz] at h1; omega

end Go.Proofs.Ytpgmggkpnefaeaa
