/- Milnor's elements: IsMilnor and IsDual of the program and of the reference. -/
import Derived.Test.YtijdlejngdhpjaaDoorSame
import Derived.Test.YtijdlejngdhpjaaDoorExp
import Derived.Deep.RegionWith
namespace Go.Proofs.YtijdlejngdhpjaaDoor
open Go.ChangeShapes Go.WideShapes Go.ChangeAt Go.RowKit
set_option linter.unusedVariables false

def termB (x : List Int) : Bool := expB x && decide (degW 0 0 x ≤ 40)

def pIsMilnor (xss : List (List Int)) : Bool := decide (xss.length ≤ 2000) && (riseB xss && (xss.all termB && sameB (degW 0 0) xss))

def pIsDual (xss : List (List Int)) : Bool := pIsMilnor xss

theorem termB_true {x} (h : termB x = true) : x.length ≤ 10 ∧ (∀ y ∈ x, 0 ≤ y ∧ y ≤ 1000000000000) ∧ degW 0 0 x ≤ 40 := by
  simp only [termB, Bool.and_eq_true, decide_eq_true_eq] at h
  exact ⟨(expB_true h.1).1, (expB_true h.1).2, h.2⟩

theorem pIsMilnor_true {xss} (h : pIsMilnor xss = true) : xss.length ≤ 2000 ∧ (∀ x ∈ xss, termB x = true) ∧ ∀ x ∈ xss, degW 0 0 x = degW 0 0 (xss.getD 0 []) := by
  simp only [pIsMilnor, sameB, Bool.and_eq_true, decide_eq_true_eq, List.all_eq_true] at h
  exact ⟨h.1, h.2.2.1, h.2.2.2⟩

theorem sameB_take (f : List Int → Int) (xss : List (List Int)) (i : Nat) (h : i < xss.length) (ht : ∀ x ∈ xss.take i, f x = f (xss.getD 0 [])) (hx : f (xss.getD i []) = f (xss.getD 0 [])) : ∀ x ∈ xss.take (i + 1), f x = f (xss.getD 0 []) := by
  intro x hm
  rw [take_snocS xss i h, List.mem_append, List.mem_singleton] at hm
  rcases hm with hm | rfl
  · exact ht x hm
  · exact hx

theorem all_take (p : List Int → Bool) (xss : List (List Int)) (i : Nat) (h : i < xss.length) (ht : (xss.take i).all p = true) (hx : p (xss.getD i []) = true) : (xss.take (i + 1)).all p = true := by
  rw [take_snocS xss i h, List.all_append, ht]; simp only [List.all_cons, List.all_nil, hx]; rfl

theorem all_miss (p : List Int → Bool) (xss : List (List Int)) (i : Nat) (h : i < xss.length) (hx : p (xss.getD i []) = false) : xss.all p = false :=
  List.all_eq_false.2 ⟨_, getD_memS xss i h, by rw [hx]; simp⟩

end Go.Proofs.YtijdlejngdhpjaaDoor
