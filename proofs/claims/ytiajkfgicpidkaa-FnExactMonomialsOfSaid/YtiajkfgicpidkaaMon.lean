/- Plain law, no program in sight: the lists of k exponents with a sum, and how many there are. -/
import Derived.Test.YtiajkfgicpidkaaMemS
import Derived.Test.YtiajkfgicpidkaaLeaf
namespace Go.Proofs.Ytiajkfgicpidkaa
open Go.ChangeShapes Go.WideShapes Go.ChangeAt Go.RowKit
set_option linter.unusedVariables false

def monT (f : Nat → List (List Int)) (d n : Nat) : List (List Int) := ((List.range' n (d + 1 - n)).map fun i => (f (d - i)).map fun r => (i : Int) :: r).flatten

theorem monT_go (f : Nat → List (List Int)) (d n : Nat) (h : n ≤ d) : monT f d n = (f (d - n)).map (fun r => (n : Int) :: r) ++ monT f d (n + 1) := by
  unfold monT
  rw [show d + 1 - n = (d + 1 - (n + 1)) + 1 by omega, List.range'_succ]
  rfl

theorem monT_stop (f : Nat → List (List Int)) (d n : Nat) (h : d < n) : monT f d n = [] := by
  unfold monT
  rw [show d + 1 - n = 0 by omega]
  rfl

def mon : Nat → Nat → List (List Int)
  | 0, _ => []
  | 1, d => [[(d : Int)]]
  | k + 2, d => monT (mon (k + 1)) d 0

theorem mon_one (d : Nat) : mon 1 d = [[(d : Int)]] := rfl

theorem mon_more (k d : Nat) : mon (k + 2) d = monT (mon (k + 1)) d 0 := rfl

theorem monT_len (f : Nat → List (List Int)) (M d : Nat) (hf : ∀ i, i ≤ d → (f i).length ≤ M) : ∀ (m n : Nat), d + 1 - n = m → (monT f d n).length ≤ m * M := by
  intro m
  induction m with
  | zero => intro n hn; rw [monT_stop f d n (by omega)]; simp
  | succ m ih =>
    intro n hn
    rw [monT_go f d n (by omega), List.length_append, List.length_map, Nat.add_mul, Nat.one_mul]
    have := ih (n + 1) (by omega)
    have := hf (d - n) (by omega)
    omega

theorem mon_len (k : Nat) : ∀ d, d ≤ 40 → (mon (k + 1) d).length ≤ 41 ^ k := by
  induction k with
  | zero => intro d _; rw [mon_one]; simp
  | succ k ih =>
    intro d hd
    rw [mon_more]
    have h := monT_len (mon (k + 1)) (41 ^ k) d (fun i hi => ih i (by omega)) (d + 1) 0 (by omega)
    have h2 : (d + 1) * 41 ^ k ≤ 41 * 41 ^ k := Nat.mul_le_mul_right _ (by omega)
    rw [Nat.pow_succ, Nat.mul_comm]
    omega

theorem monT_row (f : Nat → List (List Int)) (L d : Nat) (hf : ∀ i, i ≤ d → ∀ r ∈ f i, r.length ≤ L) : ∀ (m n : Nat), d + 1 - n = m → ∀ r ∈ monT f d n, r.length ≤ L + 1 := by
  intro m
  induction m with
  | zero => intro n hn r hr; rw [monT_stop f d n (by omega)] at hr; cases hr
  | succ m ih =>
    intro n hn r hr
    rw [monT_go f d n (by omega)] at hr
    rcases List.mem_append.1 hr with h | h
    · obtain ⟨r2, h2, rfl⟩ := List.mem_map.1 h
      have := hf (d - n) (by omega) r2 h2
      simp only [List.length_cons]; omega
    · exact ih (n + 1) (by omega) r h

theorem mon_row (k : Nat) : ∀ d, ∀ r ∈ mon (k + 1) d, r.length ≤ k + 1 := by
  induction k with
  | zero => intro d r hr; rw [mon_one] at hr; rw [List.mem_singleton.1 hr]; simp
  | succ k ih =>
    intro d r hr
    rw [mon_more] at hr
    exact monT_row (mon (k + 1)) (k + 1) d (fun i _ r h => ih i r h) (d + 1) 0 (by omega) r hr

theorem mon_bound (k d : Nat) (h1 : 1 ≤ k) (h4 : k ≤ 4) (hd : d ≤ 40) : (mon k d).length ≤ 68921 := by
  obtain ⟨m, rfl⟩ : ∃ m, k = m + 1 := ⟨k - 1, by omega⟩
  have h := mon_len m d hd
  have h2 : 41 ^ m ≤ 41 ^ 3 := Nat.pow_le_pow_right (by omega) (by omega)
  rw [show (41 : Nat) ^ 3 = 68921 by decide] at h2
  omega

theorem mon_rows (k d : Nat) (h1 : 1 ≤ k) (h4 : k ≤ 4) : ∀ r ∈ mon k d, r.length ≤ 4 := by
  obtain ⟨m, rfl⟩ : ∃ m, k = m + 1 := ⟨k - 1, by omega⟩
  intro r hr
  have := mon_row m d r hr
  omega

theorem tot_rows (L : Nat) (l : List (List Int)) (h : ∀ r ∈ l, r.length ≤ L) : tot l ≤ L * l.length := by
  induction l with
  | nil => simp [tot]
  | cons x l ih =>
    have h1 := h x (List.mem_cons_self ..)
    have h2 := ih (fun r hr => h r (List.mem_cons_of_mem _ hr))
    simp only [tot, List.length_cons, Nat.mul_add, Nat.mul_one]
    omega

def pMonomialsOf (k d : Int) : List (List Int) × Int :=
  if (inB k 1 4 && inB d 0 40) = true then (if 2000 < (mon k.toNat d.toNat).length then ([], 3) else (mon k.toNat d.toNat, 0)) else ([], 2)

theorem pMonomialsOf_tot (k d : Int) : tot (pMonomialsOf k d).1 ≤ 1000000 := by
  unfold pMonomialsOf
  by_cases h : (inB k 1 4 && inB d 0 40) = true
  · rw [if_pos h]
    by_cases h2 : 2000 < (mon k.toNat d.toNat).length
    · rw [if_pos h2]; simp [tot]
    · rw [if_neg h2]
      have h3 : inB k 1 4 = true := by cases hh : inB k 1 4 <;> simp_all
      have hb := inB_true h3
      have h4 := tot_rows 4 (mon k.toNat d.toNat) (mon_rows k.toNat d.toNat (by omega) (by omega))
      show tot (mon k.toNat d.toNat) ≤ _
      omega
  · rw [if_neg h]; simp [tot]

end Go.Proofs.Ytiajkfgicpidkaa
