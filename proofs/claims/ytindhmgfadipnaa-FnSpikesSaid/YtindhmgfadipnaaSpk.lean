/- Plain law, no program in sight: the descending spike lists of a number, and how many there are. -/
import Derived.Test.YtindhmgfadipnaaMemS
import Derived.Test.YtindhmgfadipnaaLeaf
namespace Go.Proofs.Ytindhmgfadipnaa
open Go.ChangeShapes Go.WideShapes Go.ChangeAt Go.RowKit
set_option linter.unusedVariables false

/-- the spike lists for d that begin with part or a greater spike, of spikes up to most -/
def spkL (d most part : Nat) : List (List Int) :=
  if 1 ≤ part ∧ part ≤ d ∧ part ≤ most then ((if d - part = 0 then [[]] else spkL (d - part) part 1).map (fun r => (part : Int) :: r)) ++ spkL d most (2 * part + 1) else []
termination_by (d, d + 1 - part)
decreasing_by
  · apply Prod.Lex.left; omega
  · apply Prod.Lex.right; omega

def spk (d most : Nat) : List (List Int) := if d = 0 then [[]] else spkL d most 1

theorem spkL_go (d most part : Nat) (h1 : 1 ≤ part) (h2 : part ≤ d) (h3 : part ≤ most) : spkL d most part = (spk (d - part) part).map (fun r => (part : Int) :: r) ++ spkL d most (2 * part + 1) := by
  rw [spkL, if_pos ⟨h1, h2, h3⟩]; rfl

theorem spkL_stop (d most part : Nat) (h : ¬ (part ≤ d ∧ part ≤ most)) : spkL d most part = [] := by
  rw [spkL, if_neg (fun h2 => h h2.2)]

theorem spkL_bound (d : Nat) : ∀ (m most part : Nat), d + 1 - part ≤ m → 1 ≤ part → (spkL d most part).length ≤ 2 ^ (d + 1 - part) ∧ tot (spkL d most part) ≤ d * (spkL d most part).length := by
  induction d using Nat.strongRecOn with
  | _ d ih =>
    intro m
    induction m with
    | zero =>
      intro most part hm h1
      rw [spkL_stop d most part (by omega)]
      simp [tot]
    | succ m ihm =>
      intro most part hm h1
      by_cases hgo : part ≤ d ∧ part ≤ most
      · rw [spkL_go d most part h1 hgo.1 hgo.2]
        have r := ihm most (2 * part + 1) (by omega) (by omega)
        have q : (spk (d - part) part).length ≤ 2 ^ (d - part) ∧ tot (spk (d - part) part) ≤ (d - part) * (spk (d - part) part).length := by
          unfold spk
          by_cases h0 : d - part = 0
          · rw [if_pos h0, h0]; simp [tot]
          · rw [if_neg h0]
            have := ih (d - part) (by omega) (d - part) part 1 (by omega) (by omega)
            rw [show d - part + 1 - 1 = d - part by omega] at this
            exact this
        have hp : 2 ^ (d + 1 - (2 * part + 1)) ≤ 2 ^ (d - part) := Nat.pow_le_pow_right (by omega) (by omega)
        have hp2 : 2 ^ (d + 1 - part) = 2 ^ (d - part) + 2 ^ (d - part) := by rw [show d + 1 - part = (d - part) + 1 by omega, Nat.pow_succ]; omega
        have htm : ∀ l : List (List Int), tot (l.map (fun r => (part : Int) :: r)) = tot l + l.length := by
          intro l
          induction l with
          | nil => rfl
          | cons x l ih => simp only [List.map_cons, tot, List.length_cons, ih]; omega
        refine ⟨?_, ?_⟩
        · rw [List.length_append, List.length_map]; omega
        · rw [tot_append, htm, List.length_append, List.length_map, Nat.mul_add]
          have h3 : (d - part) * (spk (d - part) part).length + (spk (d - part) part).length ≤ d * (spk (d - part) part).length := by
            have e : (d - part) * (spk (d - part) part).length + (spk (d - part) part).length = (d - part + 1) * (spk (d - part) part).length := by rw [Nat.add_mul, Nat.one_mul]
            rw [e]
            exact Nat.mul_le_mul_right _ (by omega)
          omega
      · rw [spkL_stop d most part hgo]; simp [tot]

theorem spk_bound (d most : Nat) (hd : d ≤ 40) : (spk d most).length ≤ 1099511627776 ∧ tot (spk d most) ≤ 43980465111040 := by
  unfold spk
  by_cases h0 : d = 0
  · rw [if_pos h0]; simp [tot]
  · rw [if_neg h0]
    have h := spkL_bound d d most 1 (by omega) (by omega)
    rw [show d + 1 - 1 = d by omega] at h
    have hp : 2 ^ d ≤ 2 ^ 40 := Nat.pow_le_pow_right (by omega) hd
    rw [show (2 : Nat) ^ 40 = 1099511627776 by decide] at hp
    have hm : d * (spkL d most 1).length ≤ 40 * 1099511627776 := Nat.mul_le_mul hd (by omega)
    omega

theorem spkL_row (d : Nat) : ∀ (m most part : Nat), d + 1 - part ≤ m → 1 ≤ part → ∀ r ∈ spkL d most part, r.length ≤ d := by
  induction d using Nat.strongRecOn with
  | _ d ih =>
    intro m
    induction m with
    | zero =>
      intro most part hm h1 r hr
      rw [spkL_stop d most part (by omega)] at hr
      cases hr
    | succ m ihm =>
      intro most part hm h1 r hr
      by_cases hgo : part ≤ d ∧ part ≤ most
      · rw [spkL_go d most part h1 hgo.1 hgo.2] at hr
        rcases List.mem_append.1 hr with h | h
        · obtain ⟨r2, h2, rfl⟩ := List.mem_map.1 h
          simp only [List.length_cons]
          unfold spk at h2
          by_cases h0 : d - part = 0
          · rw [if_pos h0] at h2
            rw [List.mem_singleton.1 h2]; simp; omega
          · rw [if_neg h0] at h2
            have := ih (d - part) (by omega) (d - part) part 1 (by omega) (by omega) r2 h2
            omega
        · exact ihm most (2 * part + 1) (by omega) (by omega) r h
      · rw [spkL_stop d most part hgo] at hr
        cases hr

theorem spk_row (d most : Nat) : ∀ r ∈ spk d most, r.length ≤ d := by
  intro r hr
  unfold spk at hr
  by_cases h0 : d = 0
  · rw [if_pos h0] at hr
    rw [List.mem_singleton.1 hr]; simp
  · rw [if_neg h0] at hr
    exact spkL_row d d most 1 (by omega) (by omega) r hr

def pSpikesOf (d : Int) : List (List Int) × Int := if inB d 0 40 = true then (spk d.toNat d.toNat, 0) else ([], 2)

theorem pSpikesOf_tot (d : Int) : tot (pSpikesOf d).1 ≤ 43980465111040 := by
  unfold pSpikesOf
  by_cases h : inB d 0 40 = true
  · have hb := inB_true h
    rw [if_pos h]
    exact (spk_bound d.toNat d.toNat (by omega)).2
  · rw [if_neg h]; simp [tot]

end Go.Proofs.Ytindhmgfadipnaa
