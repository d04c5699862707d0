/- A slice of lists that is picked out of another, row by row. -/
import Derived.Test.YtpgmggkpnefaeaaKit
import Derived.Test.YtpgmggkpnefaeaaParI
namespace Go.Proofs.Ytpgmggkpnefaeaa
open Go.ChangeShapes Go.WideShapes Go.ChangeAt Go.RowKit
set_option linter.unusedVariables false

/-- the slice A's rows are rows of the slice AR ahead of place j -/
structure Sub (w : World) (B : Nat) (A : Option Addr) (n c : Nat) (vs : List Sl) (acc : List (List Int)) (AR : Option Addr) (nR cR : Nat) (vR : List Sl) (bas : List (List Int)) (j : Nat) : Prop where
  own : OwnS w B A n c vs acc
  ofR : OwnS w B AR nR cR vR bas
  ne : ∀ k, A.map (·.block) = some k → AR.map (·.block) ≠ some k
  sub : ∀ i, i < n → ∃ i', i' < j ∧ vs.getD i nilS = vR.getD i' nilS

theorem Sub.skip {w B A n c vs acc AR nR cR vR bas j} (h : Sub w B A n c vs acc AR nR cR vR bas j) : Sub w B A n c vs acc AR nR cR vR bas (j + 1) :=
  ⟨h.own, h.ofR, h.ne, fun i hi => by obtain ⟨i', h1, h2⟩ := h.sub i hi; exact ⟨i', by omega, h2⟩⟩

theorem Sub.below {w w' B A n c vs acc AR nR cR vR bas j} (h : Sub w B A n c vs acc AR nR cR vR bas j) (hb : Below w.heap.size w w') : Sub w' B A n c vs acc AR nR cR vR bas j :=
  ⟨h.own.below hb, h.ofR.below hb, h.ne, h.sub⟩

theorem Sub.apart {w B A n c vs acc AR nR cR vR bas j} (h : Sub w B A n c vs acc AR nR cR vR bas j) (hj : j < nR) : ∀ i, i < n → ∀ k, (vs.getD i nilS).1.map (·.block) = some k → (vR.getD j nilS).1.map (·.block) ≠ some k := by
  intro i hi k hk
  obtain ⟨i', hi', e1⟩ := h.sub i hi
  rw [e1] at hk
  exact h.ofR.2.2.2 i' j hi' hj k hk

theorem Sub.push {W w' B A n c vs acc AR nR cR vR bas j g c' acc2} (h : Sub W B A n c vs acc AR nR cR vR bas j) (hj : j < nR) (ho : OwnS w' B (some ⟨g, 0, none⟩) (n + 1) c' (vs ++ [vR.getD j nilS]) acc2) (hg : W.grownBy w' (A.map (·.block))) (hat : A.map (·.block) = some g ∨ W.heap.size ≤ g) :
    Sub w' B (some ⟨g, 0, none⟩) (n + 1) c' (vs ++ [vR.getD j nilS]) acc2 AR nR cR vR bas (j + 1) := by
  refine ⟨ho, h.ofR.kept_out h.own h.ne hg, fun k h1 h2 => ?_, fun i hi => ?_⟩
  · have e1 : g = k := by simpa using h1
    subst e1
    rcases hat with h3 | h3
    · exact h.ne _ h3 h2
    · have l1 := h.ofR.inS.1 _ h2
      omega
  · have hvl := h.own.vlen
    rcases Nat.lt_or_ge i n with h1 | h1
    · obtain ⟨i', hi', e1⟩ := h.sub i h1
      refine ⟨i', by omega, ?_⟩
      rw [← e1]
      simp only [List.getD]; rw [List.getElem?_append_left (by omega)]
    · refine ⟨j, by omega, ?_⟩
      obtain rfl : i = n := by omega
      simp only [List.getD]; rw [List.getElem?_append_right (by omega), hvl]; simp

theorem Sub.setBox {w B A n c vs acc AR nR cR vR bas j b t us} (h : Sub w B A n c vs acc AR nR cR vR bas j) (hb : Blk w b t us) (h1 : t ≠ 51) (h2 : t ≠ 2) (k : Nat) (u : Value) : Sub (w.setCell ⟨b, k, none⟩ u) B A n c vs acc AR nR cR vR bas j :=
  ⟨h.own.setBox hb h1 h2 k u, h.ofR.setBox hb h1 h2 k u, h.ne, h.sub⟩

def selL : List Int → List (List Int) → List (List Int)
  | b :: r, x :: s => if b = 1 then x :: selL r s else selL r s
  | _, _ => []

theorem selL_step (xs : List Int) (ys : List (List Int)) (i : Nat) (h1 : i < xs.length) (h2 : i < ys.length) : selL (xs.drop i) (ys.drop i) = if xs.getD i 0 = 1 then ys.getD i [] :: selL (xs.drop (i + 1)) (ys.drop (i + 1)) else selL (xs.drop (i + 1)) (ys.drop (i + 1)) := by
  rw [dropc xs i h1, dropS ys i h2]; rfl

theorem selL_end (xs : List Int) (ys : List (List Int)) (i : Nat) (h1 : xs.length ≤ i) : selL (xs.drop i) (ys.drop i) = [] := by
  rw [List.drop_eq_nil_of_le h1]
  cases ys.drop i <;> rfl

theorem selL_le : ∀ (xs : List Int) (ys : List (List Int)), tot (selL xs ys) ≤ tot ys ∧ (selL xs ys).length ≤ ys.length
  | [], [] => by simp [selL, tot]
  | [], y :: ys => by simp [selL, tot]
  | x :: xs, [] => by simp [selL, tot]
  | x :: xs, y :: ys => by
    have ih := selL_le xs ys
    rw [selL]
    split
    · simp only [tot, List.length_cons]; omega
    · simp only [tot, List.length_cons]; omega

end Go.Proofs.Ytpgmggkpnefaeaa
