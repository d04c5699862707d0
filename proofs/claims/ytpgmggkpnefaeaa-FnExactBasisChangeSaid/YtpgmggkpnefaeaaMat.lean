/- Masks and IsMatrix of the program and of the reference. -/
import Derived.Test.YtpgmggkpnefaeaaAll
import Derived.Test.YtpgmggkpnefaeaaKit2
namespace Go.Proofs.Ytpgmggkpnefaeaa
open Go.ChangeShapes Go.WideShapes Go.ChangeAt Go.RowKit
set_option linter.unusedVariables false

/-- whether a number is a mask of d digits -/
def maskB (x : Int) (d : Nat) : Bool := inB x 0 ((2 ^ d : Nat) - 1 : Int)

theorem pow_le60 (d : Nat) (h : d ≤ 60) : 2 ^ d ≤ 1152921504606846976 := by
  have := Nat.pow_le_pow_right (n := 2) (by omega) h
  have e : (2 : Nat) ^ 60 = 1152921504606846976 := by decide
  omega

theorem cast_div (n k : Nat) : (n : Int) / 2 ^ k = ((n / 2 ^ k : Nat) : Int) := by simp

theorem mask_div (m d : Nat) : maskB (m : Int) d = decide (m / 2 ^ d = 0) := by
  have hp : 0 < 2 ^ d := Nat.pow_pos (by omega)
  have h1 : m / 2 ^ d = 0 ↔ m < 2 ^ d := by rw [Nat.div_eq_zero_iff]; omega
  unfold maskB inB
  rw [decide_eq_decide, h1]
  generalize 2 ^ d = p at *
  omega

def matB (d : Nat) (xs : List Int) : Bool := xs.all (fun x => maskB x d)

def pIsMatrix (k : Int) (xs : List Int) : Bool := inB k 0 60 && (decide (xs.length ≤ 200) && matB k.toNat xs)

theorem pIsMatrix_true {k xs} (h : pIsMatrix k xs = true) : 0 ≤ k ∧ k ≤ 60 ∧ xs.length ≤ 200 ∧ ∀ x ∈ xs, maskB x k.toNat = true := by
  simp only [pIsMatrix, matB, Bool.and_eq_true, decide_eq_true_eq, List.all_eq_true] at h
  exact ⟨(inB_true h.1).1, (inB_true h.1).2, h.2.1, h.2.2⟩

theorem quiet_left' {P : Program} {f : FuncId} {args : Array Value} {w : World} {n : Nat} {v : Value} (h : Calls P f args (w.drewN n) fun e w' => e = .returned v ∧ w.drewN n = w') : Calls P f args (w.drewN n) fun e w'' => e = .returned v ∧ ∃ m, w'' = w.drewN m :=
  h.mono fun _ _ ⟨he, hm⟩ => ⟨he, n, hm.symm⟩

theorem pow_wrap62 (m : Nat) (h : m ≤ 60) : wrap64 ((2 : Int) ^ m) = ((2 ^ m : Nat) : Int) := by
  have h1 := pow_le60 m h
  have h3 : ((2 : Int) ^ m) = ((2 ^ m : Nat) : Int) := by simp
  rw [h3]
  generalize (2 : Nat) ^ m = p at *
  exact IntWalk.wrap64_in _ (by omega)

theorem wrap_u64_id (x : Int) (h0 : 0 ≤ x) (h1 : x < 18446744073709551616) : IntKind.u64.wrap x = x := by
  have := IntKind.wrap_u64 x
  omega

end Go.Proofs.Ytpgmggkpnefaeaa
