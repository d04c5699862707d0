/- Plain law, no program in sight: the partitions of a number into parts 1, 3, 7, .. as lists of how often each part is taken. -/
import Derived.Test.YtpgmggkpnefaeaaRise
namespace Go.Proofs.Ytpgmggkpnefaeaa
open Go.ChangeShapes Go.WideShapes Go.ChangeAt Go.RowKit
set_option linter.unusedVariables false

/-- the lists of one count n or more -/
def prtL (g : Nat → List (List Int)) (N n : Nat) : List (List Int) := ((List.range N).drop n).flatMap g

theorem prtL_step (g : Nat → List (List Int)) (N n : Nat) (h : n < N) : prtL g N n = g n ++ prtL g N (n + 1) := by
  unfold prtL
  rw [List.drop_eq_getElem_cons (by simpa using h)]
  simp

theorem prtL_end (g : Nat → List (List Int)) (N n : Nat) (h : N ≤ n) : prtL g N n = [] := by
  unfold prtL
  rw [List.drop_eq_nil_of_le (by simpa using h)]; rfl

theorem prtL_map (g : Nat → List (List Int)) (f : List Int → List Int) (N n : Nat) : (prtL g N n).map f = prtL (fun i => (g i).map f) N n := by
  unfold prtL
  rw [List.map_flatMap]

/-- the lists for left, from part on (by fuel) -/
def prtF : Nat → Nat → Nat → List (List Int)
  | 0, _, _ => []
  | f + 1, left, part => if left = 0 then [[]] else if left < part then [] else (List.range (left / part + 1)).flatMap (fun n => (prtF f (left - n * part) (2 * part + 1)).map ((n : Int) :: ·))

theorem prtF_zero (f part : Nat) : prtF (f + 1) 0 part = [[]] := by rw [prtF, if_pos rfl]

theorem prtF_stop (f left part : Nat) (h0 : left ≠ 0) (h : left < part) : prtF (f + 1) left part = [] := by rw [prtF, if_neg h0, if_pos h]

theorem prtF_go (f left part : Nat) (h0 : left ≠ 0) (h : part ≤ left) : prtF (f + 1) left part = prtL (fun n => (prtF f (left - n * part) (2 * part + 1)).map ((n : Int) :: ·)) (left / part + 1) 0 := by
  rw [prtF, if_neg h0, if_neg (by omega)]; rfl

/-- the partitions of d -/
def parL (d : Nat) : List (List Int) := prtF 7 d 1

def okB (x : List Int) : Bool := decide (x.length ≤ 6) && (decide (x.length = 0) || x.getD (x.length - 1) 0 != 0)

def parOk (d : Nat) : Bool := decide ((parL d).length ≤ 1000) && (decide (tot (parL d) ≤ 10000) && (riseB (parL d) && (parL d).all okB))

theorem par_ok : (List.range 41).all parOk = true := by decide +kernel

theorem par_facts (d : Nat) (h : d ≤ 40) : (parL d).length ≤ 1000 ∧ tot (parL d) ≤ 10000 ∧ riseB (parL d) = true ∧ ∀ x ∈ parL d, x.length ≤ 6 ∧ (x.length = 0 ∨ x.getD (x.length - 1) 0 ≠ 0) := by
  have h1 := List.all_eq_true.1 par_ok d (List.mem_range.2 (by omega))
  simp only [parOk, Bool.and_eq_true, decide_eq_true_eq, List.all_eq_true] at h1
  refine ⟨h1.1, h1.2.1, h1.2.2.1, fun x hx => ?_⟩
  have h2 := h1.2.2.2 x hx
  simp only [okB, Bool.and_eq_true, Bool.or_eq_true, decide_eq_true_eq, bne_iff_ne, ne_eq] at h2
  exact h2

def pPartitionsOf (n : Int) : List (List Int) × Int := if inB n 0 40 = true then (parL n.toNat, 0) else ([], 2)

theorem pPartitionsOf_sz (n : Int) : tot (pPartitionsOf n).1 ≤ 4000000000 := by
  unfold pPartitionsOf
  split
  · rename_i h
    have hb := inB_true h
    have := (par_facts n.toNat (by omega)).2.1
    show tot (parL n.toNat) ≤ 4000000000
    omega
  · simp [tot]

end Go.Proofs.Ytpgmggkpnefaeaa
