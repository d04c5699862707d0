/- Plain law, no program in sight: the generator form of a square, and its bounds. -/
import Derived.Test.YtpgmggkpnefaeaaNorm
namespace Go.Proofs.Ytpgmggkpnefaeaa
open Go.ChangeShapes Go.WideShapes Go.ChangeAt Go.RowKit
set_option linter.unusedVariables false

def prods (a b : LL) : LL := a.flatMap fun x => b.map fun y => x ++ y

def tbF : Nat → Nat → Nat → Nat
  | 0, b, _ => b
  | f + 1, b, n => if 2 * b ≤ n then tbF f (2 * b) n else b

/-- the greatest power of 2 that is at most n -/
def tb (n : Nat) : Nat := tbF 6 1 n

def parB (b a j : Nat) : Bool := bits .and .i64 ((b : Int) - (j : Int) - 1) ((a : Int) - 2 * (j : Int)) == (a : Int) - 2 * (j : Int)

def relL (a b k : Nat) : List Nat := (List.range k).filter (parB b a)

def selJ (a b k : Nat) : List Nat := (relL a b k).filter fun j => decide (0 < j)

def gen : Nat → Nat → LL
  | 0, _ => []
  | f + 1, n => if n = tb n then [[(n : Int)]] else norm (prods (gen f (n - tb n)) [[(tb n : Int)]] ++ (selJ (n - tb n) (tb n) ((n - tb n) / 2 + 1)).flatMap fun j => prods (gen f (n - j)) (gen f j))

theorem gen_one (f n : Nat) (h : n = tb n) : gen (f + 1) n = [[(n : Int)]] := by rw [gen, if_pos h]

theorem gen_more (f n : Nat) (h : n ≠ tb n) : gen (f + 1) n = norm (prods (gen f (n - tb n)) [[(tb n : Int)]] ++ (selJ (n - tb n) (tb n) ((n - tb n) / 2 + 1)).flatMap fun j => prods (gen f (n - j)) (gen f j)) := by rw [gen, if_neg h]

theorem tb_all : (List.range 21).all (fun n => decide (n = 0) || (decide (1 ≤ tb n) && (decide (tb n ≤ n) && decide (n < 2 * tb n)))) = true := by decide +kernel

theorem tb_fact (n : Nat) (h1 : 1 ≤ n) (h : n ≤ 20) : 1 ≤ tb n ∧ tb n ≤ n ∧ n < 2 * tb n := by
  have := List.all_eq_true.1 tb_all n (by simp; omega)
  simp only [Bool.or_eq_true, Bool.and_eq_true, decide_eq_true_eq] at this
  omega

theorem normF_len (L : LL) : ∀ acc : LL, (normF acc L).length ≤ acc.length + L.length := by
  induction L with
  | nil => intro acc; exact Nat.le_refl _
  | cons y r ih =>
    intro acc
    have h1 := ih (mrg acc [y])
    have h2 := (mrg_len acc [y]).1
    show (normF (mrg acc [y]) r).length ≤ _
    simp only [List.length_cons, List.length_nil] at *
    omega

theorem norm_len (L : LL) : (norm L).length ≤ L.length := by
  have := normF_len L []
  simp only [List.length_nil, Nat.zero_add] at this
  exact this

theorem norm_sub {L : LL} {x : List Int} (h : x ∈ norm L) : x ∈ L := by
  have h1 := (norm_mem L x).1 h
  exact List.count_pos_iff.1 (by omega)

def cntF : Nat → Nat → Nat
  | 0, _ => 0
  | f + 1, n => if n = tb n then 1 else cntF f (n - tb n) + ((List.range ((n - tb n) / 2 + 1)).filter fun j => decide (0 < j)).foldr (fun j s => cntF f (n - j) * cntF f j + s) 0

theorem prods_len (a b : LL) : (prods a b).length = a.length * b.length := by
  induction a with
  | nil => simp [prods]
  | cons x a ih =>
    show ((b.map fun y => x ++ y) ++ prods a b).length = _
    rw [List.length_append, ih, List.length_map, List.length_cons, Nat.succ_mul, Nat.add_comm]

theorem prods_mem {a b : LL} {z : List Int} (h : z ∈ prods a b) : ∃ x ∈ a, ∃ y ∈ b, z = x ++ y := by
  obtain ⟨x, hx, hz⟩ := List.mem_flatMap.1 h
  obtain ⟨y, hy, rfl⟩ := List.mem_map.1 hz
  exact ⟨x, hx, y, hy, rfl⟩

theorem sum_le (g h : Nat → Nat) (p q : Nat → Bool) (hpq : ∀ j, p j = true → q j = true) (hgh : ∀ j, g j ≤ h j) (l : List Nat) : (l.filter p).foldr (fun j s => g j + s) 0 ≤ (l.filter q).foldr (fun j s => h j + s) 0 := by
  induction l with
  | nil => simp
  | cons x l ih =>
    by_cases hp : p x = true
    · rw [List.filter_cons_of_pos hp, List.filter_cons_of_pos (hpq x hp), List.foldr_cons, List.foldr_cons]
      have := hgh x
      omega
    · rw [List.filter_cons_of_neg hp]
      by_cases hq : q x = true
      · rw [List.filter_cons_of_pos hq, List.foldr_cons]; omega
      · rw [List.filter_cons_of_neg hq]; exact ih

theorem flat_len (g : Nat → LL) (l : List Nat) : (l.flatMap g).length = l.foldr (fun j s => (g j).length + s) 0 := by
  induction l with
  | nil => rfl
  | cons x l ih => rw [List.flatMap_cons, List.length_append, List.foldr_cons, ih]

theorem selJ_mem {a b k j : Nat} (h : j ∈ selJ a b k) : 0 < j ∧ j < k ∧ parB b a j = true := by
  obtain ⟨h1, h2⟩ := List.mem_filter.1 h
  obtain ⟨h3, h4⟩ := List.mem_filter.1 h1
  exact ⟨by simpa using h2, List.mem_range.1 h3, h4⟩

theorem gen_cnt (f : Nat) : ∀ n, (gen f n).length ≤ cntF f n := by
  induction f with
  | zero => intro n; simp [gen]
  | succ f ih =>
    intro n
    by_cases h : n = tb n
    · rw [gen_one f n h, cntF, if_pos h]; simp
    · rw [gen_more f n h, cntF, if_neg h]
      refine Nat.le_trans (norm_len _) ?_
      rw [List.length_append, prods_len, List.length_singleton, Nat.mul_one, flat_len]
      have h1 := ih (n - tb n)
      have h2 : (selJ (n - tb n) (tb n) ((n - tb n) / 2 + 1)).foldr (fun j s => (prods (gen f (n - j)) (gen f j)).length + s) 0 ≤ ((List.range ((n - tb n) / 2 + 1)).filter fun j => decide (0 < j)).foldr (fun j s => cntF f (n - j) * cntF f j + s) 0 := by
        unfold selJ relL
        rw [List.filter_filter]
        refine sum_le _ _ _ _ (fun j hj => ?_) (fun j => ?_) _
        · simp only [Bool.and_eq_true] at hj
          exact hj.1
        · rw [prods_len]
          exact Nat.mul_le_mul (ih _) (ih _)
      omega

theorem cnt_all : (List.range 22).all (fun f => (List.range 21).all fun n => decide (cntF f n ≤ 40)) = true := by decide +kernel

theorem gen_len (f n : Nat) (hf : f ≤ 21) (hn : n ≤ 20) : (gen f n).length ≤ 40 := by
  have h1 := List.all_eq_true.1 cnt_all f (by simp; omega)
  have h2 := List.all_eq_true.1 h1 n (by simp; omega)
  have h3 := gen_cnt f n
  have h4 : cntF f n ≤ 40 := by simpa using h2
  omega

theorem gen_row (f : Nat) : ∀ n, 1 ≤ n → n ≤ 20 → ∀ x ∈ gen f n, x.length ≤ n := by
  induction f with
  | zero => intro n _ _ x hx; simp [gen] at hx
  | succ f ih =>
    intro n h1 h20 x hx
    have ht := tb_fact n h1 h20
    by_cases h : n = tb n
    · rw [gen_one f n h] at hx
      rw [List.mem_singleton.1 hx]; simpa using h1
    · rw [gen_more f n h] at hx
      rcases List.mem_append.1 (norm_sub hx) with hx | hx
      · obtain ⟨u, hu, v, hv, rfl⟩ := prods_mem hx
        have := ih (n - tb n) (by omega) (by omega) u hu
        rw [List.mem_singleton.1 hv]
        simp; omega
      · obtain ⟨j, hj, hx⟩ := List.mem_flatMap.1 hx
        have hj := selJ_mem hj
        obtain ⟨u, hu, v, hv, rfl⟩ := prods_mem hx
        have h2 := ih (n - j) (by omega) (by omega) u hu
        have h3 := ih j (by omega) (by omega) v hv
        simp; omega

theorem tbF_more (f b n : Nat) (h : 2 * b ≤ n) (hf : n < b * 2 ^ f) : ∃ f', f = f' + 1 ∧ tbF f b n = tbF f' (2 * b) n ∧ n < (2 * b) * 2 ^ f' := by
  cases f with
  | zero => simp at hf; omega
  | succ f' => exact ⟨f', rfl, by rw [tbF, if_pos h], by rw [Nat.pow_succ] at hf; rw [show 2 * b * 2 ^ f' = b * (2 ^ f' * 2) by rw [Nat.mul_comm 2 b, Nat.mul_assoc, Nat.mul_comm 2]]; exact hf⟩

theorem tbF_end (f b n : Nat) (h : ¬ 2 * b ≤ n) : tbF f b n = b := by
  cases f with
  | zero => rw [tbF]
  | succ f' => rw [tbF, if_neg h]

theorem relL_yes (a b k : Nat) (h : parB b a k = true) : relL a b (k + 1) = relL a b k ++ [k] := by
  unfold relL; rw [List.range_succ, List.filter_append]; simp [h]

theorem relL_no (a b k : Nat) (h : parB b a k = false) : relL a b (k + 1) = relL a b k := by
  unfold relL; rw [List.range_succ, List.filter_append]; simp [h]

theorem relL_len (a b k : Nat) : (relL a b k).length ≤ k := by
  have := List.length_filter_le (parB b a) (List.range k)
  rw [List.length_range] at this
  exact this

theorem relL_mem {a b k j : Nat} (h : j ∈ relL a b k) : j < k := List.mem_range.1 (List.mem_filter.1 h).1

theorem selJ_yes (a b k : Nat) (h : parB b a k = true) (h0 : 0 < k) : selJ a b (k + 1) = selJ a b k ++ [k] := by
  unfold selJ; rw [relL_yes a b k h, List.filter_append]; simp [h0]

theorem selJ_no (a b k : Nat) (h : parB b a k = false) : selJ a b (k + 1) = selJ a b k := by
  unfold selJ; rw [relL_no a b k h]

theorem selJ_one (a b : Nat) : selJ a b 1 = [] := by
  unfold selJ relL
  apply List.filter_eq_nil_iff.2
  intro j hj
  have h1 := (List.mem_filter.1 hj).1
  simp at h1
  simp [h1]

/-- the first i of the relation's numbers, less 0 -/
theorem take_sel (l : List Nat) (i : Nat) (h : i < l.length) : (l.take (i + 1)).filter (fun j => decide (0 < j)) = (l.take i).filter (fun j => decide (0 < j)) ++ if 0 < l.getD i 0 then [l.getD i 0] else [] := by
  rw [List.take_succ_eq_append_getElem h, List.filter_append]
  congr 1
  have e : l.getD i 0 = l[i] := by simp [List.getD, h]
  rw [e]
  by_cases h0 : 0 < l[i]
  · simp [h0]
  · simp [h0]

def pGeneratorForm (n : Int) : LL × Int := if inB n 1 20 = true then (gen 21 n.toNat, 0) else ([], 2)

end Go.Proofs.Ytpgmggkpnefaeaa
