/- Plain law, no program in sight: what occurs an odd number of times in two rising lists, sorted. -/
import Derived.Test.YtpgmggkpnefaeaaMrg
import Derived.Test.YtpgmggkpnefaeaaParP
namespace Go.Proofs.Ytpgmggkpnefaeaa
open Go.ChangeShapes Go.WideShapes Go.ChangeAt Go.RowKit
set_option linter.unusedVariables false

/-- how many of the first lists are x -/
def runN (x : List Int) : List (List Int) → Nat
  | [] => 0
  | y :: r => if y = x then runN x r + 1 else 0

theorem runN_le (x : List Int) : ∀ l, runN x l ≤ l.length
  | [] => Nat.le_refl _
  | y :: r => by
    rw [runN]
    split
    · have := runN_le x r; simp; omega
    · simp

/-- of each run of equal lists one, if it is odd -/
def odd : List (List Int) → List (List Int)
  | [] => []
  | x :: r => (if runN x r % 2 = 0 then [x] else []) ++ odd (r.drop (runN x r))
termination_by l => l.length
decreasing_by simp; omega

theorem odd_nil : odd [] = [] := by rw [odd]

theorem odd_cons (x : List Int) (r : List (List Int)) : odd (x :: r) = (if runN x r % 2 = 0 then [x] else []) ++ odd (r.drop (runN x r)) := by rw [odd]

theorem runN_eq (x : List Int) (l : List (List Int)) (m : Nat) (hm : m ≤ l.length) (h : ∀ j, j < m → l.getD j [] = x) (he : m = l.length ∨ l.getD m [] ≠ x) : runN x l = m := by
  induction l generalizing m with
  | nil => simp at hm; rw [runN, hm]
  | cons y r ih =>
    cases m with
    | zero =>
      rw [runN, if_neg]
      rcases he with he | he
      · simp at he
      · simpa using he
    | succ m =>
      have h0 : y = x := by simpa using h 0 (by omega)
      rw [runN, if_pos h0, ih m (by simpa using hm) (fun j hj => by simpa using h (j + 1) (by omega)) (he.imp (fun h => by simpa using h) (fun h => by simpa using h))]

theorem odd_step (S : List (List Int)) (i k : Nat) (hi : i < k) (hk : k ≤ S.length) (h : ∀ j, i ≤ j → j < k → S.getD j [] = S.getD i []) (he : k = S.length ∨ S.getD k [] ≠ S.getD i []) : odd (S.drop i) = (if (k - i) % 2 = 1 then [S.getD i []] else []) ++ odd (S.drop k) := by
  have h1 : ∀ j, j < k - i - 1 → (S.drop (i + 1)).getD j [] = S.getD i [] := fun j hj => by
    have := h (i + 1 + j) (by omega) (by omega)
    rw [← this]
    simp [List.getD, List.getElem?_drop]
  have h2 : k - i - 1 = (S.drop (i + 1)).length ∨ (S.drop (i + 1)).getD (k - i - 1) [] ≠ S.getD i [] := by
    rcases he with he | he
    · left; simp; omega
    · right
      intro e
      apply he
      rw [← e]
      simp only [List.getD, List.getElem?_drop]
      rw [show i + 1 + (k - i - 1) = k by omega]
  rw [dropS S i (by omega), odd_cons, runN_eq (S.getD i []) (S.drop (i + 1)) (k - i - 1) (by simp; omega) h1 h2, List.drop_drop, show i + 1 + (k - i - 1) = k by omega]
  congr 1
  by_cases hp : (k - i - 1) % 2 = 0
  · rw [if_pos hp, if_pos (by omega)]
  · rw [if_neg hp, if_neg (by omega)]

def mrgW : List (List Int) → List (List Int) → List (List Int)
  | [], b => b
  | x :: a, [] => x :: a
  | x :: a, y :: b => if lessL x y = true then x :: mrgW a (y :: b) else if lessL y x = true then y :: mrgW (x :: a) b else x :: y :: mrgW a b
termination_by a b => a.length + b.length

theorem mrgW_nil (b : List (List Int)) : mrgW [] b = b := by rw [mrgW]

theorem mrgW_nil_right (a : List (List Int)) : mrgW a [] = a := by cases a <;> rw [mrgW]

theorem mrgW_cons (x y : List Int) (a b : List (List Int)) : mrgW (x :: a) (y :: b) = if lessL x y = true then x :: mrgW a (y :: b) else if lessL y x = true then y :: mrgW (x :: a) b else x :: y :: mrgW a b := by rw [mrgW]

theorem mrgW_perm (a b : List (List Int)) : (mrgW a b).Perm (a ++ b) := by
  induction a generalizing b with
  | nil => rw [mrgW_nil]; exact List.Perm.refl _
  | cons x a iha =>
    induction b with
    | nil => rw [mrgW_nil_right, List.append_nil]
    | cons y b ihb =>
      rw [mrgW_cons]
      split
      · exact List.Perm.cons x (iha (y :: b))
      · split
        · exact (List.Perm.cons y ihb).trans List.perm_middle.symm
        · exact (List.Perm.cons x ((List.Perm.cons y (iha b)).trans List.perm_middle.symm))

def Lt (x y : List Int) : Prop := lessL x y = true

theorem nless_of_less {x y : List Int} (h : lessL x y = true) : lessL y x = false := by
  cases h2 : lessL y x with
  | false => rfl
  | true =>
    have := lessL_trans _ _ _ h h2
    rw [lessL_irrefl] at this; cases this

theorem mrgW_sorted (a b : List (List Int)) (ha : a.Pairwise Lt) (hb : b.Pairwise Lt) : (mrgW a b).Pairwise (fun x y => lessL y x = false) := by
  induction a generalizing b with
  | nil => rw [mrgW_nil]; exact hb.imp (fun h => nless_of_less h)
  | cons x a iha =>
    induction b with
    | nil => rw [mrgW_nil_right]; exact ha.imp (fun h => nless_of_less h)
    | cons y b ihb =>
      have ha' := List.pairwise_cons.1 ha
      have hb' := List.pairwise_cons.1 hb
      rw [mrgW_cons]
      by_cases h1 : lessL x y = true
      · rw [if_pos h1]
        refine List.pairwise_cons.2 ⟨fun z hz => ?_, iha (y :: b) ha'.2 hb⟩
        rcases List.mem_append.1 ((mrgW_perm a (y :: b)).mem_iff.1 hz) with h | h
        · exact nless_of_less (ha'.1 z h)
        · rcases List.mem_cons.1 h with rfl | h
          · exact nless_of_less h1
          · exact nless_of_less (lessL_trans _ _ _ h1 (hb'.1 z h))
      · rw [if_neg h1]
        by_cases h2 : lessL y x = true
        · rw [if_pos h2]
          refine List.pairwise_cons.2 ⟨fun z hz => ?_, ihb hb'.2⟩
          rcases List.mem_append.1 ((mrgW_perm (x :: a) b).mem_iff.1 hz) with h | h
          · rcases List.mem_cons.1 h with rfl | h
            · exact nless_of_less h2
            · exact nless_of_less (lessL_trans _ _ _ h2 (ha'.1 z h))
          · exact nless_of_less (hb'.1 z h)
        · rw [if_neg h2]
          have e : x = y := lessL_total x y (by simpa using h1) (by simpa using h2)
          subst e
          have hall : ∀ z ∈ mrgW a b, lessL z x = false := fun z hz => by
            rcases List.mem_append.1 ((mrgW_perm a b).mem_iff.1 hz) with h | h
            · exact nless_of_less (ha'.1 z h)
            · exact nless_of_less (hb'.1 z h)
          refine List.pairwise_cons.2 ⟨fun z hz => ?_, List.pairwise_cons.2 ⟨hall, iha b ha'.2 hb'.2⟩⟩
          rcases List.mem_cons.1 hz with rfl | h
          · exact lessL_irrefl _
          · exact hall z h

theorem runN_zero (x : List Int) (l : List (List Int)) (h : ∀ z ∈ l, lessL x z = true) : runN x l = 0 := by
  cases l with
  | nil => rfl
  | cons y r =>
    rw [runN, if_neg]
    intro e
    have := h y (List.mem_cons_self ..)
    rw [e, lessL_irrefl] at this; cases this

theorem odd_mrgW (a b : List (List Int)) (ha : a.Pairwise Lt) (hb : b.Pairwise Lt) : odd (mrgW a b) = mrg a b := by
  have hone : ∀ (l : List (List Int)), l.Pairwise Lt → odd l = l := by
    intro l hl
    induction l with
    | nil => exact odd_nil
    | cons x r ih =>
      have h' := List.pairwise_cons.1 hl
      rw [odd_cons, runN_zero x r h'.1, if_pos rfl, List.drop_zero, ih h'.2]; rfl
  induction a generalizing b with
  | nil => rw [mrgW_nil, mrg_nil]; exact hone b hb
  | cons x a iha =>
    induction b with
    | nil => rw [mrgW_nil_right, mrg_nil_right]; exact hone _ ha
    | cons y b ihb =>
      have ha' := List.pairwise_cons.1 ha
      have hb' := List.pairwise_cons.1 hb
      rw [mrgW_cons, mrg_cons]
      by_cases h1 : lessL x y = true
      · rw [if_pos h1, if_pos h1, odd_cons, runN_zero x _ ?_, if_pos rfl, List.drop_zero, iha (y :: b) ha'.2 hb]
        · rfl
        · intro z hz
          rcases List.mem_append.1 ((mrgW_perm a (y :: b)).mem_iff.1 hz) with h | h
          · exact ha'.1 z h
          · rcases List.mem_cons.1 h with rfl | h
            · exact h1
            · exact lessL_trans _ _ _ h1 (hb'.1 z h)
      · rw [if_neg h1, if_neg h1]
        by_cases h2 : lessL y x = true
        · rw [if_pos h2, if_pos h2, odd_cons, runN_zero y _ ?_, if_pos rfl, List.drop_zero, ihb hb'.2]
          · rfl
          · intro z hz
            rcases List.mem_append.1 ((mrgW_perm (x :: a) b).mem_iff.1 hz) with h | h
            · rcases List.mem_cons.1 h with rfl | h
              · exact h2
              · exact lessL_trans _ _ _ h2 (ha'.1 z h)
            · exact hb'.1 z h
        · rw [if_neg h2, if_neg h2]
          have e : x = y := lessL_total x y (by simpa using h1) (by simpa using h2)
          subst e
          have hz0 : runN x (mrgW a b) = 0 := runN_zero x _ (fun z hz => by
            rcases List.mem_append.1 ((mrgW_perm a b).mem_iff.1 hz) with h | h
            · exact ha'.1 z h
            · exact hb'.1 z h)
          have hr1 : runN x (x :: mrgW a b) = 1 := by rw [runN, if_pos rfl, hz0]
          rw [odd_cons, hr1, if_neg (by omega), List.nil_append, List.drop_succ_cons, List.drop_zero, iha b ha'.2 hb'.2]

/-- the sorted list of both, its odd ones: the merged sum -/
theorem odd_sorted {a b S : List (List Int)} (ha : riseB a = true) (hb : riseB b = true) (hp : S.Perm (a ++ b)) (hs : S.Pairwise (fun x y => lessL y x = false)) : odd S = mrg a b := by
  have h1 := rise_pair a ha
  have h2 := rise_pair b hb
  have e : S = mrgW a b := by
    refine List.Perm.eq_of_pairwise (le := fun x y => lessL y x = false) ?_ hs (mrgW_sorted a b h1 h2) (hp.trans (mrgW_perm a b).symm)
    intro x y _ _ h3 h4
    exact lessL_total x y h4 h3
  rw [e]
  exact odd_mrgW a b h1 h2

end Go.Proofs.Ytpgmggkpnefaeaa
