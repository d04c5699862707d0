/- Plain law, no program in sight: the admissible words of a number, and how many there are. -/
import Derived.Test.YtpgmggkpnefaeaaMemS
import Derived.Test.YtpgmggkpnefaeaaLeaf
namespace Go.Proofs.Ytpgmggkpnefaeaa
open Go.ChangeShapes Go.WideShapes Go.ChangeAt Go.RowKit
set_option linter.unusedVariables false

/-- the admissible words of degree d that begin with part or a greater letter, the first at most most -/
def admwL (d most part : Nat) : List (List Int) :=
  if 1 ≤ part ∧ part ≤ d ∧ part ≤ most then ((if d - part = 0 then [[]] else admwL (d - part) (part / 2) 1).map (fun r => (part : Int) :: r)) ++ admwL d most (part + 1) else []
termination_by (d, d + 1 - part)
decreasing_by
  · apply Prod.Lex.left; omega
  · apply Prod.Lex.right; omega

def admw (d most : Nat) : List (List Int) := if d = 0 then [[]] else admwL d most 1

theorem admwL_go (d most part : Nat) (h1 : 1 ≤ part) (h2 : part ≤ d) (h3 : part ≤ most) : admwL d most part = (admw (d - part) (part / 2)).map (fun r => (part : Int) :: r) ++ admwL d most (part + 1) := by
  rw [admwL, if_pos ⟨h1, h2, h3⟩]; rfl

theorem admwL_stop (d most part : Nat) (h : ¬ (part ≤ d ∧ part ≤ most)) : admwL d most part = [] := by
  rw [admwL, if_neg (fun h2 => h h2.2)]

theorem admwL_bound (d : Nat) : ∀ (m most part : Nat), d + 1 - part ≤ m → 1 ≤ part → (admwL d most part).length ≤ 2 ^ (d + 1 - part) ∧ tot (admwL d most part) ≤ d * (admwL d most part).length := by
  induction d using Nat.strongRecOn with
  | _ d ih =>
    intro m
    induction m with
    | zero =>
      intro most part hm h1
      rw [admwL_stop d most part (by omega)]
      simp [tot]
    | succ m ihm =>
      intro most part hm h1
      by_cases hgo : part ≤ d ∧ part ≤ most
      · rw [admwL_go d most part h1 hgo.1 hgo.2]
        have r := ihm most (part + 1) (by omega) (by omega)
        have q : (admw (d - part) (part / 2)).length ≤ 2 ^ (d - part) ∧ tot (admw (d - part) (part / 2)) ≤ (d - part) * (admw (d - part) (part / 2)).length := by
          unfold admw
          by_cases h0 : d - part = 0
          · rw [if_pos h0, h0]; simp [tot]
          · rw [if_neg h0]
            have := ih (d - part) (by omega) (d - part) (part / 2) 1 (by omega) (by omega)
            rw [show d - part + 1 - 1 = d - part by omega] at this
            exact this
        have hp : 2 ^ (d + 1 - (part + 1)) ≤ 2 ^ (d - part) := Nat.pow_le_pow_right (by omega) (by omega)
        have hp2 : 2 ^ (d + 1 - part) = 2 ^ (d - part) + 2 ^ (d - part) := by rw [show d + 1 - part = (d - part) + 1 by omega, Nat.pow_succ]; omega
        have htm : ∀ l : List (List Int), tot (l.map (fun r => (part : Int) :: r)) = tot l + l.length := by
          intro l
          induction l with
          | nil => rfl
          | cons x l ih => simp only [List.map_cons, tot, List.length_cons, ih]; omega
        refine ⟨?_, ?_⟩
        · rw [List.length_append, List.length_map]; omega
        · rw [tot_append, htm, List.length_append, List.length_map, Nat.mul_add]
          have h3 : (d - part) * (admw (d - part) (part / 2)).length + (admw (d - part) (part / 2)).length ≤ d * (admw (d - part) (part / 2)).length := by
            have e : (d - part) * (admw (d - part) (part / 2)).length + (admw (d - part) (part / 2)).length = (d - part + 1) * (admw (d - part) (part / 2)).length := by rw [Nat.add_mul, Nat.one_mul]
            rw [e]
            exact Nat.mul_le_mul_right _ (by omega)
          omega
      · rw [admwL_stop d most part hgo]; simp [tot]

theorem admw_bound (d most : Nat) (hd : d ≤ 40) : (admw d most).length ≤ 1099511627776 ∧ tot (admw d most) ≤ 43980465111040 := by
  unfold admw
  by_cases h0 : d = 0
  · rw [if_pos h0]; simp [tot]
  · rw [if_neg h0]
    have h := admwL_bound d d most 1 (by omega) (by omega)
    rw [show d + 1 - 1 = d by omega] at h
    have hp : 2 ^ d ≤ 2 ^ 40 := Nat.pow_le_pow_right (by omega) hd
    rw [show (2 : Nat) ^ 40 = 1099511627776 by decide] at hp
    have hm : d * (admwL d most 1).length ≤ 40 * 1099511627776 := Nat.mul_le_mul hd (by omega)
    omega

theorem admwL_row (d : Nat) : ∀ (m most part : Nat), d + 1 - part ≤ m → 1 ≤ part → ∀ r ∈ admwL d most part, r.length ≤ d := by
  induction d using Nat.strongRecOn with
  | _ d ih =>
    intro m
    induction m with
    | zero =>
      intro most part hm h1 r hr
      rw [admwL_stop d most part (by omega)] at hr
      cases hr
    | succ m ihm =>
      intro most part hm h1 r hr
      by_cases hgo : part ≤ d ∧ part ≤ most
      · rw [admwL_go d most part h1 hgo.1 hgo.2] at hr
        rcases List.mem_append.1 hr with h | h
        · obtain ⟨r2, h2, rfl⟩ := List.mem_map.1 h
          simp only [List.length_cons]
          unfold admw at h2
          by_cases h0 : d - part = 0
          · rw [if_pos h0] at h2
            rw [List.mem_singleton.1 h2]; simp; omega
          · rw [if_neg h0] at h2
            have := ih (d - part) (by omega) (d - part) (part / 2) 1 (by omega) (by omega) r2 h2
            omega
        · exact ihm most (part + 1) (by omega) (by omega) r h
      · rw [admwL_stop d most part hgo] at hr
        cases hr

theorem admw_row (d most : Nat) : ∀ r ∈ admw d most, r.length ≤ d := by
  intro r hr
  unfold admw at hr
  by_cases h0 : d = 0
  · rw [if_pos h0] at hr
    rw [List.mem_singleton.1 hr]; simp
  · rw [if_neg h0] at hr
    exact admwL_row d d most 1 (by omega) (by omega) r hr

def pAdmissibleBasis (d : Int) : List (List Int) × Int := if inB d 0 40 = true then (admw d.toNat d.toNat, 0) else ([], 2)

theorem pAdmissibleBasis_tot (d : Int) : tot (pAdmissibleBasis d).1 ≤ 43980465111040 := by
  unfold pAdmissibleBasis
  by_cases h : inB d 0 40 = true
  · have hb := inB_true h
    rw [if_pos h]
    exact (admw_bound d.toNat d.toNat (by omega)).2
  · rw [if_neg h]; simp [tot]

end Go.Proofs.Ytpgmggkpnefaeaa
