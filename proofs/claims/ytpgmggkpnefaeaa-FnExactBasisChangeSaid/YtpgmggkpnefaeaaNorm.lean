/- Plain law, no program in sight: a list of lists, each that occurs an odd number of times kept once, rising. -/
import Derived.Test.YtpgmggkpnefaeaaOdd
namespace Go.Proofs.Ytpgmggkpnefaeaa
open Go.ChangeShapes Go.WideShapes Go.ChangeAt Go.RowKit
set_option linter.unusedVariables false

abbrev LL := List (List Int)

def Ris (L : LL) : Prop := L.Pairwise Lt

theorem lt_ne {x y : List Int} (h : Lt x y) : x ≠ y := by
  intro e
  unfold Lt at h
  rw [e, lessL_irrefl] at h; cases h

theorem Ris.nodup {L : LL} (h : Ris L) : L.Nodup := h.imp (fun h => lt_ne h)

theorem ris_ext {A B : LL} (hA : Ris A) (hB : Ris B) (h : ∀ x, x ∈ A ↔ x ∈ B) : A = B := by
  refine List.Perm.eq_of_pairwise (le := Lt) ?_ hA hB ((List.perm_ext_iff_of_nodup hA.nodup hB.nodup).2 h)
  intro x y _ _ h1 h2
  have := lessL_trans _ _ _ h1 h2
  rw [lessL_irrefl] at this; cases this

theorem ris_count {L : LL} (h : Ris L) (x : List Int) : x ∈ L ↔ L.count x % 2 = 1 := by
  have h1 : L.count x ≤ 1 := List.nodup_iff_count.1 h.nodup x
  rw [← List.count_pos_iff]
  omega

theorem runN_rest (x : List Int) (r : LL) (hx : ∀ z ∈ r, lessL z x = false) (hr : r.Pairwise (fun a b => lessL b a = false)) : ∀ z ∈ r.drop (runN x r), lessL x z = true := by
  induction r with
  | nil => intro z hz; simp [runN] at hz
  | cons y t ih =>
    have hr' := List.pairwise_cons.1 hr
    intro z hz
    rw [runN] at hz
    by_cases hy : y = x
    · rw [if_pos hy, List.drop_succ_cons] at hz
      exact ih (fun z hz => hx z (List.mem_cons_of_mem _ hz)) hr'.2 z hz
    · rw [if_neg hy, List.drop_zero] at hz
      have hxy : lessL x y = true := by
        cases h : lessL x y with
        | true => rfl
        | false => exact absurd (lessL_total y x (hx y (List.mem_cons_self ..)) h) hy
      rcases List.mem_cons.1 hz with rfl | hz
      · exact hxy
      · cases h : lessL x z with
        | true => rfl
        | false =>
          have e := lessL_total z x (hx z (List.mem_cons_of_mem _ hz)) h
          have := hr'.1 z hz
          rw [e, hxy] at this; cases this

theorem runN_take (x : List Int) (r : LL) : r.take (runN x r) = List.replicate (runN x r) x := by
  induction r with
  | nil => simp [runN]
  | cons y t ih =>
    rw [runN]
    by_cases hy : y = x
    · rw [if_pos hy, List.take_succ_cons, ih, List.replicate_succ, hy]
    · rw [if_neg hy]; simp

theorem odd_spec (n : Nat) : ∀ (S : LL), S.length ≤ n → S.Pairwise (fun a b => lessL b a = false) → Ris (odd S) ∧ ∀ x, x ∈ odd S ↔ S.count x % 2 = 1 := by
  induction n with
  | zero =>
    intro S hl _
    have : S = [] := List.eq_nil_of_length_eq_zero (by omega)
    subst this
    rw [odd_nil]
    exact ⟨List.Pairwise.nil, fun x => by simp⟩
  | succ n ih =>
    intro S hl hs
    cases S with
    | nil => rw [odd_nil]; exact ⟨List.Pairwise.nil, fun x => by simp⟩
    | cons x r =>
      have hs' := List.pairwise_cons.1 hs
      have hrest := runN_rest x r hs'.1 hs'.2
      have htake := runN_take x r
      have hlen := runN_le x r
      rw [odd_cons]
      have hcount : ∀ y, r.count y = (List.replicate (runN x r) x).count y + (r.drop (runN x r)).count y := fun y => by
        rw [← htake, ← List.count_append, List.take_append_drop]
      generalize runN x r = m at *
      have hxr : (r.drop m).count x = 0 := List.count_eq_zero.2 (fun h => lt_ne (hrest x h) rfl)
      have hi := ih (r.drop m) (by simp at hl ⊢; omega) (hs'.2.sublist (List.drop_sublist _ _))
      have hgt : ∀ y ∈ odd (r.drop m), Lt x y := fun y hy => by
        have h1 := (hi.2 y).1 hy
        have h2 : y ∈ r.drop m := List.count_pos_iff.1 (by omega)
        exact hrest y h2
      have hxo : x ∉ odd (r.drop m) := fun h => lt_ne (hgt x h) rfl
      refine ⟨?_, fun y => ?_⟩
      · split
        · exact List.pairwise_cons.2 ⟨hgt, hi.1⟩
        · exact hi.1
      · by_cases hy : y = x
        · subst hy
          rw [List.count_cons_self, hcount y, hxr, List.count_replicate_self]
          split
          · simp; omega
          · rw [List.nil_append]
            exact ⟨fun h => absurd h hxo, fun h => by omega⟩
        · have e : (x :: r).count y = (r.drop m).count y := by
            rw [List.count_cons_of_ne (by exact fun e => hy e.symm), hcount y, List.count_replicate, if_neg (by simpa using fun e => hy e.symm), Nat.zero_add]
          rw [e, ← hi.2 y]
          split
          · simp [hy]
          · rw [List.nil_append]

/-- two rising lists, merged -/
theorem mrg_spec {A B : LL} (hA : Ris A) (hB : Ris B) : Ris (mrg A B) ∧ ∀ x, x ∈ mrg A B ↔ (A.count x + B.count x) % 2 = 1 := by
  have h1 := odd_spec _ (mrgW A B) (Nat.le_refl _) (mrgW_sorted A B hA hB)
  rw [odd_mrgW A B hA hB] at h1
  refine ⟨h1.1, fun x => ?_⟩
  rw [h1.2 x, (mrgW_perm A B).count_eq, List.count_append]

def normF (acc L : LL) : LL := L.foldl (fun a x => mrg a [x]) acc

def norm (L : LL) : LL := normF [] L

theorem normF_spec (L : LL) : ∀ (acc : LL), Ris acc → Ris (normF acc L) ∧ ∀ x, x ∈ normF acc L ↔ (acc.count x + L.count x) % 2 = 1 := by
  induction L with
  | nil => intro acc h; exact ⟨h, fun x => by rw [List.count_nil, Nat.add_zero]; exact ris_count h x⟩
  | cons y r ih =>
    intro acc h
    have hm := mrg_spec h (show Ris [y] from List.pairwise_singleton _ _)
    have h2 := ih (mrg acc [y]) hm.1
    refine ⟨h2.1, fun x => ?_⟩
    show x ∈ normF (mrg acc [y]) r ↔ _
    rw [h2.2 x]
    have h3 := (hm.2 x).symm.trans (ris_count hm.1 x)
    have h4 : (y :: r).count x = [y].count x + r.count x := by rw [← List.count_append]; rfl
    rw [h4]
    omega

theorem norm_ris (L : LL) : Ris (norm L) := (normF_spec L [] List.Pairwise.nil).1

theorem norm_mem (L : LL) (x : List Int) : x ∈ norm L ↔ L.count x % 2 = 1 := by
  have := (normF_spec L [] List.Pairwise.nil).2 x
  rw [List.count_nil, Nat.zero_add] at this
  exact this

theorem odd_norm {S L : LL} (hs : S.Pairwise (fun a b => lessL b a = false)) (hp : S.Perm L) : odd S = norm L := by
  have h := odd_spec _ S (Nat.le_refl _) hs
  refine ris_ext h.1 (norm_ris L) (fun x => ?_)
  rw [h.2 x, norm_mem, hp.count_eq]

theorem normF_norm (acc L : LL) (h : Ris acc) : normF acc L = norm (acc ++ L) := by
  have h1 := normF_spec L acc h
  refine ris_ext h1.1 (norm_ris _) (fun x => ?_)
  rw [h1.2 x, norm_mem, List.count_append]

theorem mrg_norm {A B : LL} : mrg (norm A) (norm B) = norm (A ++ B) := by
  have h := mrg_spec (norm_ris A) (norm_ris B)
  refine ris_ext h.1 (norm_ris _) (fun x => ?_)
  have hA := (norm_mem A x).symm.trans (ris_count (norm_ris A) x)
  have hB := (norm_mem B x).symm.trans (ris_count (norm_ris B) x)
  rw [h.2 x, norm_mem, List.count_append]
  omega

theorem norm_self {A : LL} (h : Ris A) : norm A = A := by
  refine ris_ext (norm_ris A) h (fun x => ?_)
  rw [norm_mem, ris_count h]

theorem ris_of_rise {A : LL} (h : riseB A = true) : Ris A := rise_pair A h

theorem norm_nil : norm [] = [] := rfl

theorem norm_one (x : List Int) : norm [x] = [x] := norm_self (List.pairwise_singleton _ _)

theorem normF_snoc (acc L : LL) (x : List Int) : normF acc (L ++ [x]) = mrg (normF acc L) [x] := by
  unfold normF; rw [List.foldl_append]; rfl

theorem norm_snoc (L : LL) (x : List Int) : norm (L ++ [x]) = mrg (norm L) [x] := normF_snoc [] L x

/-- merged with one list: it is put in, or taken out where it is -/
theorem put_at (acc : LL) (x : List Int) (i : Nat) (hi : i ≤ acc.length) (h : ∀ j, j < i → lessL (acc.getD j []) x = true) : mrg acc [x] = acc.take i ++ mrg (acc.drop i) [x] := by
  induction i with
  | zero => simp
  | succ i ih =>
    rw [ih (by omega) (fun j hj => h j (by omega)), dropS acc i (by omega), mrg_cons, if_pos (h i (by omega))]
    rw [show acc.take (i + 1) = acc.take i ++ [acc.getD i []] by rw [List.take_succ_eq_append_getElem (by omega)]; simp [List.getD, show i < acc.length by omega]]
    simp

theorem put_end (x : List Int) : mrg [] [x] = [x] := mrg_nil _

theorem put_same (acc : LL) (x : List Int) (i : Nat) (hi : i < acc.length) (h : acc.getD i [] = x) : mrg (acc.drop i) [x] = acc.drop (i + 1) := by
  rw [dropS acc i hi, h, mrg_cons, lessL_irrefl, if_neg (by simp), if_neg (by simp), mrg_nil_right]

theorem put_less (acc : LL) (x : List Int) (i : Nat) (hi : i < acc.length) (h1 : lessL (acc.getD i []) x = false) (h2 : acc.getD i [] ≠ x) : mrg (acc.drop i) [x] = x :: acc.drop i := by
  have h3 : lessL x (acc.getD i []) = true := by
    cases h : lessL x (acc.getD i []) with
    | true => rfl
    | false => exact absurd (lessL_total _ _ h1 h) h2
  rw [dropS acc i hi, mrg_cons, h1, if_neg (by simp), if_pos h3, mrg_nil_right]

end Go.Proofs.Ytpgmggkpnefaeaa
