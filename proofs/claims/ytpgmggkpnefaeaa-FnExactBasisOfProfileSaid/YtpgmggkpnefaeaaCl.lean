/- Profiles at a place; contained profiles; closed profiles: IsContainedProfile and IsClosedProfile of both. -/
import Derived.Test.YtpgmggkpnefaeaaProf
namespace Go.Proofs.Ytpgmggkpnefaeaa
open Go.ChangeShapes Go.WideShapes Go.ChangeAt Go.RowKit
set_option linter.unusedVariables false

def Prf (xs : List Int) : Prop := ∀ x ∈ xs, 0 ≤ x ∧ x ≤ 10

theorem prf_get {xs : List Int} (h : Prf xs) (k : Nat) : 0 ≤ xs.getD k 0 ∧ xs.getD k 0 ≤ 10 := by
  by_cases hk : k < xs.length
  · exact h _ (by simp [List.getD, hk])
  · have : xs.getD k 0 = 0 := by simp [List.getD, List.getElem?_eq_none (show xs.length ≤ k by omega)]
    omega

theorem getD_none (xs : List Int) (k : Nat) (h : xs.length ≤ k) : xs.getD k 0 = 0 := by simp [List.getD, List.getElem?_eq_none h]

theorem range_all (p : Nat → Bool) (k : Nat) : (List.range (k + 1)).all p = ((List.range k).all p && p k) := by
  rw [List.range_succ, List.all_append]; simp

theorem range_fail (p : Nat → Bool) (k n : Nat) (hk : k < n) (h : p k = false) : (List.range n).all p = false :=
  List.all_eq_false.2 ⟨k, List.mem_range.2 hk, by rw [h]; simp⟩

theorem impl_at (A : Option Addr) (n c : Nat) (xs : List Int) (j : Int) (w : World) (h : RI w A n xs) (h1 : 1 ≤ j) (h2 : j ≤ 1000000) :
    Calls Try.prog 121 #[.slice A n c, .int .i64 j] w fun e w' => e = .returned (.int .i64 (xs.getD (j - 1).toNat 0)) ∧ w = w' := by
  have hl := h.len
  have hs := h.small
  obtain ⟨m, rfl⟩ : ∃ m : Nat, j = (m : Int) + 1 := ⟨(j - 1).toNat, by omega⟩
  rw [show ((m : Int) + 1 - 1).toNat = m by omega]
  by_cases hj : n < m + 1
  · rw [getD_none xs m (by omega)]
    have hj' : (n : Int) < (m : Int) + 1 := by omega
    clear h hl hj h1
    go_enter Try.func121, Try.ntmps121
    go_wp2
    go_ret
    exact ⟨rfl, rfl⟩
  · obtain ⟨b, off, rfl, _, hc⟩ := h.at_ (i := m) (by omega)
    have e2 : (m : Int) < (n : Int) := by omega
    have e3 : (m : Int) + 1 - 1 = (m : Int) := by omega
    generalize xs.getD m 0 = x at *
    clear h hl hj h1 h2
    go_enter Try.func121, Try.ntmps121
    go_wp2
    go_ret
    exact ⟨rfl, rfl⟩

theorem spec_at (A : Option Addr) (n c : Nat) (xs : List Int) (j : Int) (w : World) (h : RI w A n xs) (h1 : 1 ≤ j) (h2 : j ≤ 1000000) :
    Calls Try.prog 140 #[.slice A n c, .int .i64 j] w fun e w' => e = .returned (.int .i64 (xs.getD (j - 1).toNat 0)) ∧ w = w' := by
  have hl := h.len
  have hs := h.small
  obtain ⟨m, rfl⟩ : ∃ m : Nat, j = (m : Int) + 1 := ⟨(j - 1).toNat, by omega⟩
  rw [show ((m : Int) + 1 - 1).toNat = m by omega]
  by_cases hj : n < m + 1
  · rw [getD_none xs m (by omega)]
    have hj' : (n : Int) < (m : Int) + 1 := by omega
    clear h hl hj h1
    go_enter Try.func140, Try.ntmps140
    go_wp2
    go_ret
    exact ⟨rfl, rfl⟩
  · obtain ⟨b, off, rfl, _, hc⟩ := h.at_ (i := m) (by omega)
    have e2 : (m : Int) < (n : Int) := by omega
    have e3 : (m : Int) + 1 - 1 = (m : Int) := by omega
    generalize xs.getD m 0 = x at *
    clear h hl hj h1 h2
    go_enter Try.func140, Try.ntmps140
    go_wp2
    go_ret
    exact ⟨rfl, rfl⟩

def contB (xs ys : List Int) (i : Nat) : Bool := decide (xs.getD i 0 ≤ ys.getD i 0)

def pIsContainedProfile (xs ys : List Int) : Bool × Int :=
  if (pIsProfile xs && pIsProfile ys) = true then ((List.range xs.length).all (contB xs ys), 0) else (false, 1)

end Go.Proofs.Ytpgmggkpnefaeaa
