/- Plain law, no program in sight: the spike lists of d up to 40 have their sum, are of spikes, and the least length is that of one of them; told by a count with fuel. -/
import Derived.Test.YtindhmgfadipnaaSpk
import Derived.Test.YtindhmgfadipnaaOnes
import Derived.Test.YtindhmgfadipnaaSum
namespace Go.Proofs.Ytindhmgfadipnaa
open Go.ChangeShapes Go.WideShapes Go.ChangeAt Go.RowKit
set_option linter.unusedVariables false

def spkF : Nat → Nat → Nat → Nat → List (List Int)
  | 0, _, _, _ => []
  | f + 1, d, most, part => if 1 ≤ part ∧ part ≤ d ∧ part ≤ most then ((if d - part = 0 then [[]] else spkF f (d - part) part 1).map (fun r => (part : Int) :: r)) ++ spkF f d most (2 * part + 1) else []

theorem spkF_eq (f : Nat) : ∀ (d most part : Nat), d ≤ 40 → 50 * d + (50 - part) + 1 ≤ f → 1 ≤ part → spkF f d most part = spkL d most part := by
  induction f with
  | zero => intro d most part _ h; omega
  | succ f ih =>
    intro d most part hd hf h1
    rw [spkF, spkL]
    by_cases hgo : 1 ≤ part ∧ part ≤ d ∧ part ≤ most
    · rw [if_pos hgo, if_pos hgo, ih d most (2 * part + 1) hd (by omega) (by omega)]
      by_cases h0 : d - part = 0
      · rw [if_pos h0, if_pos h0]
      · rw [if_neg h0, if_neg h0, ih (d - part) part 1 (by omega) (by omega) (by omega)]
    · rw [if_neg hgo, if_neg hgo]

def spkA (d : Nat) : List (List Int) := if d = 0 then [[]] else spkF 2100 d d 1

theorem spkA_eq (d : Nat) (h : d ≤ 40) : spkA d = spk d d := by
  unfold spkA spk
  split
  · rfl
  · exact spkF_eq 2100 d d 1 h (by omega) (by omega)

def isSpike (x : Int) : Bool := decide (x = 1) || (decide (x = 3) || (decide (x = 7) || (decide (x = 15) || decide (x = 31))))

def spkRow (d s : Nat) (r : List Int) : Bool := decide (s ≤ r.length) && (decide (r.foldl (· + ·) 0 = (d : Int)) && (decide (r.length ≤ 40) && r.all isSpike))

def spkOk (d : Nat) : Bool := (spkA d).all (spkRow d (lsF 41 d 0)) && (spkA d).any (fun r => decide (r.length = lsF 41 d 0))

theorem spk_ok : (List.range 41).all spkOk = true := by decide +kernel

theorem sumW_foldl (xs : List Int) : ∀ (s : Int), 0 ≤ s → s + 31 * xs.length ≤ 1000000 → (∀ x ∈ xs, 0 ≤ x ∧ x ≤ 31) → sumW s xs = xs.foldl (· + ·) s := by
  induction xs with
  | nil => intro s _ _ _; rfl
  | cons x r ih =>
    intro s h0 h1 h2
    have hx := h2 x (List.mem_cons_self ..)
    simp only [List.length_cons] at h1
    rw [sumW, wrap64_id (by omega) (by omega), ih (s + x) (by omega) (by omega) (fun y hy => h2 y (List.mem_cons_of_mem _ hy))]
    rfl

theorem isSpike_true {x : Int} (h : isSpike x = true) : x = 1 ∨ x = 3 ∨ x = 7 ∨ x = 15 ∨ x = 31 := by
  simpa [isSpike] using h

theorem spk_facts (d : Nat) (h : d ≤ 40) : (∀ r ∈ spk d d, lsF 41 d 0 ≤ r.length ∧ sumW 0 r = (d : Int) ∧ ∀ x ∈ r, isSpike x = true) ∧ (spk d d).any (fun r => decide (r.length = lsF 41 d 0)) = true := by
  have h1 := List.all_eq_true.1 spk_ok d (List.mem_range.2 (by omega))
  rw [spkOk, spkA_eq d h] at h1
  simp only [Bool.and_eq_true, List.all_eq_true] at h1
  refine ⟨fun r hr => ?_, h1.2⟩
  have h2 := h1.1 r hr
  simp only [spkRow, Bool.and_eq_true, decide_eq_true_eq, List.all_eq_true] at h2
  refine ⟨h2.1, ?_, h2.2.2.2⟩
  rw [sumW_foldl r 0 (by omega) (by omega) (fun x hx => by
    have := isSpike_true (h2.2.2.2 x hx)
    omega)]
  exact h2.2.1

theorem spike_and {x : Int} (h : isSpike x = true) : bits .and .i64 x (x + 1) = 0 := by
  rcases isSpike_true h with rfl | rfl | rfl | rfl | rfl <;> decide +kernel

end Go.Proofs.Ytindhmgfadipnaa
