/- The closure of a profile, in plain Lean: the least closed profile above a list, place by place; a list that lies between the given one and every closed one above it, and is closed itself, reads as it. -/
import Derived.Test.YtiajkfgicpidkaaCls
import Derived.Test.YtiajkfgicpidkaaTrim
namespace Go.Proofs.Ytiajkfgicpidkaa
open Go.RowKit
set_option linter.unusedVariables false

/-- a profile as a function of its places (from 0 on) is closed -/
def ClF (M : Nat → Int) : Prop := ∀ i j, min (M j) (M i - ((j : Int) + 1)) ≤ M (i + j + 1)

/-- the greatest of a start and of the needed numbers of the places i + j + 1 = n, i less than k -/
def needMax (c : List Int) (n : Nat) (m : Int) : Nat → Int
  | 0 => m
  | k + 1 => max (needMax c n m k) (min (c.getD (n - 1 - k) 0) (c.getD k 0 - (((n - 1 - k : Nat) : Int) + 1)))

/-- the first places of the closure -/
def cl (h : List Int) : Nat → List Int
  | 0 => []
  | n + 1 => cl h n ++ [needMax (cl h n) n (h.getD n 0) n]

theorem cl_len (h : List Int) (n : Nat) : (cl h n).length = n := by
  induction n with
  | zero => rfl
  | succ n ih => simp [cl, ih]

theorem getD_append_left {a b : List Int} {k : Nat} (h : k < a.length) : (a ++ b).getD k 0 = a.getD k 0 := by
  simp [List.getD, List.getElem?_append_left h]

theorem cl_stable (h : List Int) (k n m : Nat) (h1 : k < n) (h2 : n ≤ m) : (cl h m).getD k 0 = (cl h n).getD k 0 := by
  induction m with
  | zero => omega
  | succ m ih =>
    rcases Nat.lt_or_ge m n with h3 | h3
    · have e : n = m + 1 := by omega
      rw [e]
    · rw [← ih h3]
      show (cl h m ++ _).getD k 0 = _
      exact getD_append_left (by rw [cl_len]; omega)

/-- the closure at a place -/
def clF (h : List Int) (k : Nat) : Int := (cl h (k + 1)).getD k 0

theorem clF_eq (h : List Int) (n k : Nat) (hk : k < n) : (cl h n).getD k 0 = clF h k := cl_stable h k (k + 1) n (by omega) (by omega)

theorem clF_val (h : List Int) (n : Nat) : clF h n = needMax (cl h n) n (h.getD n 0) n := by
  unfold clF
  show (cl h n ++ [_]).getD n 0 = _
  have := cl_len h n
  simp [List.getD, this]

theorem needMax_ge (c : List Int) (n : Nat) (m : Int) (k : Nat) : m ≤ needMax c n m k ∧ ∀ i, i < k → min (c.getD (n - 1 - i) 0) (c.getD i 0 - (((n - 1 - i : Nat) : Int) + 1)) ≤ needMax c n m k := by
  induction k with
  | zero => exact ⟨Int.le_refl _, fun i hi => absurd hi (by omega)⟩
  | succ k ih =>
    have e : needMax c n m (k + 1) = max (needMax c n m k) (min (c.getD (n - 1 - k) 0) (c.getD k 0 - (((n - 1 - k : Nat) : Int) + 1))) := rfl
    rw [e]
    refine ⟨by have := ih.1; omega, fun i hi => ?_⟩
    rcases Nat.lt_or_ge i k with h1 | h1
    · have := ih.2 i h1; omega
    · obtain rfl : i = k := by omega
      omega

theorem needMax_le (c : List Int) (n : Nat) (m b : Int) (k : Nat) (h0 : m ≤ b) (h1 : ∀ i, i < k → min (c.getD (n - 1 - i) 0) (c.getD i 0 - (((n - 1 - i : Nat) : Int) + 1)) ≤ b) : needMax c n m k ≤ b := by
  induction k with
  | zero => exact h0
  | succ k ih =>
    have e : needMax c n m (k + 1) = max (needMax c n m k) (min (c.getD (n - 1 - k) 0) (c.getD k 0 - (((n - 1 - k : Nat) : Int) + 1))) := rfl
    have a := ih (fun i hi => h1 i (by omega))
    have b := h1 k (by omega)
    rw [e]
    omega

theorem clF_ge (h : List Int) (k : Nat) : h.getD k 0 ≤ clF h k := by
  rw [clF_val]
  exact (needMax_ge _ _ _ _).1

theorem clF_closed (h : List Int) : ClF (clF h) := by
  intro i j
  have e := clF_val h (i + j + 1)
  have a := (needMax_ge (cl h (i + j + 1)) (i + j + 1) (h.getD (i + j + 1) 0) (i + j + 1)).2 i (by omega)
  have e2 : i + j + 1 - 1 - i = j := by omega
  rw [e2, clF_eq h _ j (by omega), clF_eq h _ i (by omega), ← e] at a
  exact a

theorem clF_least (h : List Int) (M : Nat → Int) (hc : ClF M) (hm : ∀ k, h.getD k 0 ≤ M k) : ∀ k, clF h k ≤ M k := by
  intro k
  induction k using Nat.strongRecOn with
  | _ n ih =>
    rw [clF_val]
    refine needMax_le _ _ _ _ _ (hm n) (fun i hi => ?_)
    rw [clF_eq h _ _ (by omega), clF_eq h _ i hi]
    have a := ih i hi
    have b := ih (n - 1 - i) (by omega)
    have c := hc i (n - 1 - i)
    have e : i + (n - 1 - i) + 1 = n := by omega
    rw [e] at c
    omega

/-- a closed profile above all that are asked for -/
def topF (k : Nat) : Int := max 0 (min 10 (25 - (k : Int)))

theorem topF_closed : ClF topF := by
  intro i j
  unfold topF
  omega

/-- a list on the way from a profile to its closure -/
structure Way (h L : List Int) (n : Nat) : Prop where
  len : L.length = n
  pos : ∀ k, 0 ≤ L.getD k 0
  ge : ∀ k, h.getD k 0 ≤ L.getD k 0
  le : ∀ k, L.getD k 0 ≤ clF h k

theorem prf_top {h : List Int} (hp : Prf h) (hl : h.length ≤ 16) (k : Nat) : h.getD k 0 ≤ topF k := by
  unfold topF
  have := prf_get hp k
  rcases Nat.lt_or_ge k h.length with h1 | h1
  · omega
  · rw [getD_none h k h1]; omega

theorem clF_top {h : List Int} (hp : Prf h) (hl : h.length ≤ 16) (k : Nat) : clF h k ≤ topF k := clF_least h topF topF_closed (prf_top hp hl) k

theorem clF_pos {h : List Int} (hp : Prf h) (k : Nat) : 0 ≤ clF h k := Int.le_trans (prf_get hp k).1 (clF_ge h k)

theorem getD_set_same (L : List Int) (k : Nat) (v : Int) (hk : k < L.length) : (L.set k v).getD k 0 = v := by simp [List.getD, hk]

theorem getD_set_other (L : List Int) (k j : Nat) (v : Int) (hk : k ≠ j) : (L.set k v).getD j 0 = L.getD j 0 := by simp [List.getD, hk]

theorem Way.step {h L : List Int} {n i j : Nat} (w : Way h L n) (hn : i + j + 1 < n) (hlt : L.getD (i + j + 1) 0 < min (L.getD j 0) (L.getD i 0 - ((j : Int) + 1))) :
    Way h (L.set (i + j + 1) (min (L.getD j 0) (L.getD i 0 - ((j : Int) + 1)))) n := by
  have hl := w.len
  have hk : i + j + 1 < L.length := by omega
  refine ⟨by simp [hl], fun k => ?_, fun k => ?_, fun k => ?_⟩
  all_goals
    by_cases e : i + j + 1 = k
    · subst e
      rw [getD_set_same _ _ _ hk]
      have a := w.pos (i + j + 1)
      have b := w.ge (i + j + 1)
      have c := clF_closed h i j
      have d := w.le j
      have f := w.le i
      omega
    · rw [getD_set_other _ _ _ _ e]
      first | exact w.pos k | exact w.ge k | exact w.le k

/-- all needed numbers are there, in a list of n places -/
def Done (L : List Int) (n : Nat) : Prop := ∀ i j, i + j + 1 < n → min (L.getD j 0) (L.getD i 0 - ((j : Int) + 1)) ≤ L.getD (i + j + 1) 0

theorem Way.done {h L : List Int} {n : Nat} (w : Way h L n) (hp : Prf h) (hl : h.length ≤ 16) (hn : 26 ≤ n) (hd : Done L n) (k : Nat) : L.getD k 0 = clF h k := by
  refine Int.le_antisymm (w.le k) (clF_least h (fun k => L.getD k 0) ?_ w.ge k)
  intro i j
  show min (L.getD j 0) (L.getD i 0 - ((j : Int) + 1)) ≤ L.getD (i + j + 1) 0
  rcases Nat.lt_or_ge (i + j + 1) n with h1 | h1
  · exact hd i j h1
  · have a := w.pos (i + j + 1)
    have b := Int.le_trans (w.le i) (clF_top hp hl i)
    unfold topF at b
    omega

/-- the closure's list -/
def closL (h : List Int) : List Int := trimL (cl h 26)

theorem tlen_ext (xs ys : List Int) (k : Nat) (h : ∀ j, j < k → xs.getD j 0 = ys.getD j 0) : tlen xs k = tlen ys k := by
  induction k with
  | zero => rfl
  | succ k ih =>
    have a := h k (by omega)
    have b := ih (fun j hj => h j (by omega))
    unfold tlen
    rw [a, b]

theorem tlen_far (xs : List Int) (k n : Nat) (hkn : k ≤ n) (h : ∀ j, k ≤ j → j < n → xs.getD j 0 = 0) : tlen xs n = tlen xs k := by
  induction n with
  | zero => have : k = 0 := by omega
            rw [this]
  | succ n ih =>
    rcases Nat.eq_or_lt_of_le hkn with e | e
    · rw [e]
    · have a := h n (by omega) (by omega)
      have b := ih (by omega) (fun j h1 h2 => h j h1 (by omega))
      show (if xs.getD n 0 = 0 then tlen xs n else n + 1) = _
      rw [if_pos a, b]

theorem take_ext (xs ys : List Int) (k : Nat) (h : ∀ j, j < k → xs.getD j 0 = ys.getD j 0) (h1 : k ≤ xs.length) (h2 : k ≤ ys.length) : xs.take k = ys.take k := by
  apply List.ext_getElem
  · simp; omega
  · intro j a b
    have hj : j < k := by simp at a; omega
    have := h j hj
    simp only [List.getElem_take]
    have hx : j < xs.length := by omega
    have hy : j < ys.length := by omega
    simpa [List.getD, hx, hy] using this

theorem trim_clos {h L : List Int} {n : Nat} (hp : Prf h) (hl : h.length ≤ 16) (hn : 26 ≤ n) (hlen : L.length = n) (he : ∀ k, L.getD k 0 = clF h k) : trimL L = closL h := by
  have hz : ∀ k, 26 ≤ k → clF h k = 0 := fun k hk => by
    have a := clF_top hp hl k
    have b := clF_pos hp k
    unfold topF at a
    omega
  have h26 := cl_len h 26
  have e0 : ∀ j, j < 26 → L.getD j 0 = (cl h 26).getD j 0 := fun j hj => by rw [he j, clF_eq h 26 j hj]
  have e1 : tlen L L.length = tlen (cl h 26) 26 := by
    rw [hlen, tlen_far L 26 n hn (fun j h1 h2 => by rw [he j, hz j h1])]
    exact tlen_ext _ _ _ e0
  have e2 := tlen_le (cl h 26) 26
  unfold closL trimL
  rw [e1, h26]
  exact take_ext _ _ _ (fun j hj => e0 j (by omega)) (by omega) (by omega)

theorem sum_set (L : List Int) (k : Nat) (v : Int) (hk : k < L.length) : (L.set k v).sum = L.sum + (v - L.getD k 0) := by
  induction L generalizing k with
  | nil => simp at hk
  | cons a L ih =>
    cases k with
    | zero => simp [List.getD]; omega
    | succ k =>
      have := ih k (by simpa using hk)
      simp only [List.set_cons_succ, List.sum_cons, this]
      simp [List.getD]; omega

theorem sum_le (L : List Int) (h : ∀ k, L.getD k 0 ≤ 10) : L.sum ≤ 10 * (L.length : Int) := by
  induction L with
  | nil => simp
  | cons a L ih =>
    have a0 := h 0
    have b := ih (fun k => by have := h (k + 1); simpa [List.getD] using this)
    simp only [List.sum_cons, List.length_cons]
    simp [List.getD] at a0
    omega

/-- what is still to come at most -/
def room (L : List Int) : Nat := (10 * (L.length : Int) - L.sum).toNat

theorem Way.room {h L : List Int} {n i j : Nat} (w : Way h L n) (hp : Prf h) (hl : h.length ≤ 16) (hn : i + j + 1 < n) (hlt : L.getD (i + j + 1) 0 < min (L.getD j 0) (L.getD i 0 - ((j : Int) + 1))) :
    room (L.set (i + j + 1) (min (L.getD j 0) (L.getD i 0 - ((j : Int) + 1)))) < room L := by
  have hk : i + j + 1 < L.length := by have := w.len; omega
  have w2 := w.step hn hlt
  have a := sum_set L (i + j + 1) (min (L.getD j 0) (L.getD i 0 - ((j : Int) + 1))) hk
  have b := sum_le (L.set (i + j + 1) (min (L.getD j 0) (L.getD i 0 - ((j : Int) + 1)))) (fun k => by
    have := Int.le_trans (w2.le k) (clF_top hp hl k)
    unfold topF at this
    omega)
  have e : (L.set (i + j + 1) (min (L.getD j 0) (L.getD i 0 - ((j : Int) + 1)))).length = L.length := by simp
  unfold Go.Proofs.Ytiajkfgicpidkaa.room
  rw [e] at b ⊢
  omega

end Go.Proofs.Ytiajkfgicpidkaa
