/- Plain law: the tables of Milnor's product number by number; how large the sums on the way are. -/
import Derived.Test.YtpgmggkpnefaeaaFin
namespace Go.Proofs.Ytpgmggkpnefaeaa
open Go.ChangeShapes Go.WideShapes Go.ChangeAt Go.RowKit
set_option linter.unusedVariables false

theorem topN_lt {j : Nat} {r s : Int} (x : Nat) (hr : 0 ≤ r) (hs : 0 ≤ s) : x < topN j r s ↔ ((x : Int) ≤ s ∧ 2 ^ (j + 1) * (x : Int) ≤ r) := by
  unfold topN
  have hp : (0 : Int) < 2 ^ (j + 1) := Int.pow_pos (by omega)
  have h1 : 0 ≤ r / 2 ^ (j + 1) := Int.ediv_nonneg hr (Int.le_of_lt hp)
  have h2 : (x : Int) ≤ r / 2 ^ (j + 1) ↔ (x : Int) * 2 ^ (j + 1) ≤ r := Int.le_ediv_iff_mul_le hp
  rw [Int.mul_comm (x : Int)] at h2
  rw [← h2]
  omega

theorem topN_le {j : Nat} {r s : Int} (hs : 0 ≤ s) : (topN j r s : Int) ≤ s + 1 := by
  unfold topN; omega

theorem flatR_succ (g : Nat → LL) (q : Nat) : (List.range (q + 1)).flatMap g = (List.range q).flatMap g ++ g q := by
  rw [List.range_succ, List.flatMap_append]; simp

theorem flatR_le (g : Nat → LL) (q N : Nat) (h : q ≤ N) : ((List.range q).flatMap g).length ≤ ((List.range N).flatMap g).length := by
  induction N with
  | zero => obtain rfl : q = 0 := by omega
            exact Nat.le_refl _
  | succ N ih =>
    rcases Nat.lt_or_ge q (N + 1) with h1 | h1
    · have := ih (by omega)
      rw [flatR_succ, List.length_append]; omega
    · obtain rfl : q = N + 1 := by omega
      exact Nat.le_refl _

theorem normF_app (acc A B : LL) : normF acc (A ++ B) = normF (normF acc A) B := by unfold normF; rw [List.foldl_append]

theorem normF_lenM (L : LL) : ∀ acc : LL, (normF acc L).length ≤ acc.length + L.length := by
  induction L with
  | nil => intro acc; exact Nat.le_refl _
  | cons x L ih =>
    intro acc
    have h1 := ih (mrg acc [x])
    have h2 := (mrg_len acc [x]).1
    have e : normF acc (x :: L) = normF (mrg acc [x]) L := rfl
    rw [e, List.length_cons]
    simp only [List.length_singleton] at h2
    omega

theorem rep_set (xs : List Int) (k : Nat) (y : Int) (j : Nat) (h : xs.length = j) : (xs ++ List.replicate (k + 1) 0).set j y = (xs ++ [y]) ++ List.replicate k 0 := by
  subst h
  rw [List.set_append]
  simp only [Nat.lt_irrefl, if_false, Nat.sub_self, List.replicate_succ, List.set_cons_zero, List.append_assoc, List.singleton_append]

theorem mid_set (d : List Int) (s y : Int) (rest : List Int) (j : Nat) (h : d.length = j) : (d ++ s :: rest).set j y = (d ++ [y]) ++ rest := by
  subst h
  rw [List.set_append]
  simp

theorem mid_get (d : List Int) (s : Int) (rest : List Int) (j : Nat) (h : d.length = j) : (d ++ s :: rest).getD j 0 = s := by
  subst h
  simp [List.getD]

theorem sm_app {a b : List Int} (ha : sm a) (hb : sm b) : sm (a ++ b) := fun z hz => (List.mem_append.1 hz).elim (ha z) (hb z)

theorem sm_zero (k : Nat) : sm (List.replicate k 0) := fun z hz => by
  have := (List.mem_replicate.1 hz).2
  omega

theorem sm_cons {x : Int} {a : List Int} (h : sm (x :: a)) : (0 ≤ x ∧ x ≤ 1000) ∧ sm a := ⟨h x List.mem_cons_self, fun z hz => h z (List.mem_cons_of_mem _ hz)⟩

theorem sm_one {x : Int} (h0 : 0 ≤ x) (h : x ≤ 1000) : sm [x] := fun z hz => by rw [List.mem_singleton.1 hz]; omega

theorem fillP_rl (rest : List Int) : ∀ (j : Nat) (r : Int) (xs d : List Int), xs.length = j → d.length = j → ∀ y ∈ fillP j r xs d rest, y.length ≤ j + rest.length + 1 := by
  induction rest with
  | nil =>
    intro j r xs d hx hd y hy
    rw [fillP, resL] at hy
    split at hy
    · rw [List.mem_singleton.1 hy, trimL_len]
      have h1 := tlen_le (diaL r xs d) (diaL r xs d).length
      have h2 := diaL_len r xs d (by omega)
      simp only [List.length_nil]
      omega
    · cases hy
  | cons s rest ih =>
    intro j r xs d hx hd y hy
    rw [fillP] at hy
    obtain ⟨x, _, hy⟩ := List.mem_flatMap.1 hy
    have := ih (j + 1) _ (xs ++ [(x : Int)]) (d ++ [s - (x : Int)]) (by simp [hx]) (by simp [hd]) y hy
    simp only [List.length_cons]
    omega

theorem prodP_rl (n : Int) (s : List Int) : ∀ y ∈ prodP n s, y.length ≤ s.length + 1 := fun y hy => by
  have := fillP_rl s 0 n [] [] rfl rfl y hy
  omega

theorem flat_take (f : List Int → LL) (L : LL) (k : Nat) (h : k < L.length) : (L.take (k + 1)).flatMap f = (L.take k).flatMap f ++ f (L.getD k []) := by
  rw [take_snocS L k h, List.flatMap_append]; simp

theorem flat_part {d : Int} {L : LL} (h : MilP d L) (hd : d ≤ 40) (n : Int) (k : Nat) : ((L.take k).flatMap (prodP n)).length ≤ 1000000000 := by
  have h1 := flatS_len (prodP n) 20664 (L.take k) (fun y hy => prodP_len h hd n y (List.mem_of_mem_take hy))
  have h3 : (L.take k).length ≤ 35056 := by have := h.len hd; simp; omega
  have h2 := Nat.mul_le_mul_right 20664 h3
  omega

theorem MilP.sm {d : Int} {L : LL} (h : MilP d L) (hd : d ≤ 40) : ∀ y ∈ L, y.length ≤ 5 ∧ sm y := fun y hy => ⟨(h.row hd y hy).1, fun z hz => by have := (h.row hd y hy).2 z hz; omega⟩

theorem flat_rl {d : Int} {L : LL} (h : MilP d L) (hd : d ≤ 40) (n : Int) (k : Nat) : ∀ y ∈ (L.take k).flatMap (prodP n), y.length ≤ 6 := fun y hy => by
  obtain ⟨s, hs, hy⟩ := List.mem_flatMap.1 hy
  have h1 := prodP_rl n s y hy
  have h2 := (h.sm hd s (List.mem_of_mem_take hs)).1
  omega

end Go.Proofs.Ytpgmggkpnefaeaa
