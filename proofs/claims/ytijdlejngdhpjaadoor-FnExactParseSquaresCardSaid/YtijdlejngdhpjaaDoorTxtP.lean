/- Plain: splitting a text at a byte; decimal numbers read and written; words and sums of words read from a text, by the program's way and by the reference's; joined texts. -/
import Derived.Lib.SplitLaws
import Derived.Lib.ParseIntB
import Derived.Lib.ItoaNum
import Derived.Lib.Join
import Derived.Lib.Strings
namespace Go.Proofs.YtijdlejngdhpjaaDoor
set_option linter.unusedVariables false

/-- the parts of a text between the bytes b -/
def splitL (b : UInt8) : List UInt8 → List (List UInt8)
  | [] => [[]]
  | c :: r => if c = b then [] :: splitL b r else ((c :: (splitL b r).headD []) :: (splitL b r).tail)

theorem splitL_ne (b : UInt8) (l : List UInt8) : splitL b l ≠ [] := by
  cases l with
  | nil => simp [splitL]
  | cons c r => unfold splitL; split <;> simp

theorem headD_tail {l : List (List UInt8)} (h : l ≠ []) : l.headD [] :: l.tail = l := by
  cases l with
  | nil => exact absurd rfl h
  | cons a t => rfl

theorem splitL_none (b : UInt8) (l : List UInt8) (h : b ∉ l) : splitL b l = [l] := by
  induction l with
  | nil => rfl
  | cons c r ih =>
    have h1 : c ≠ b := fun e => h (by simp [e])
    have h2 : b ∉ r := fun e => h (by simp [e])
    rw [splitL, if_neg h1, ih h2]
    rfl

theorem splitL_hit (b : UInt8) (p r : List UInt8) (h : b ∉ p) : splitL b (p ++ b :: r) = p :: splitL b r := by
  induction p with
  | nil => simp [splitL]
  | cons c q ih =>
    have h1 : c ≠ b := fun e => h (by simp [e])
    have h2 : b ∉ q := fun e => h (by simp [e])
    rw [List.cons_append, splitL, if_neg h1, ih h2]
    rfl

/-- the bytes of the parts, one more for each -/
theorem splitL_bytes (b : UInt8) (l : List UInt8) : ((splitL b l).map fun p => p.length + 1).sum = l.length + 1 := by
  induction l with
  | nil => rfl
  | cons c r ih =>
    unfold splitL
    split
    · simp only [List.map_cons, List.sum_cons, List.length_nil, List.length_cons, ih]; omega
    · rw [← headD_tail (splitL_ne b r), List.map_cons, List.sum_cons] at ih
      simp only [List.map_cons, List.sum_cons, List.length_cons]
      omega

theorem splitL_le (b : UInt8) (l : List UInt8) : (splitL b l).length ≤ l.length + 1 := by
  induction l with
  | nil => simp [splitL]
  | cons c r ih =>
    unfold splitL
    split
    · simp only [List.length_cons]; omega
    · have := congrArg List.length (headD_tail (splitL_ne b r))
      simp only [List.length_cons] at this ⊢
      omega

theorem splitK_zero (sep : List UInt8) (s : List UInt8) : Lib.splitK sep 0 0 s = [s] := rfl

theorem splitK_ne (b c : UInt8) (h : c ≠ b) (k : Nat) (r : List UInt8) : Lib.splitK [b] 0 k (c :: r) = (c :: (Lib.splitK [b] 0 k r).headD []) :: (Lib.splitK [b] 0 k r).tail := by
  cases k with
  | zero => rfl
  | succ k =>
    have hp : ([b] : List UInt8).isPrefixOf (c :: r) = false := by simp [List.isPrefixOf, Ne.symm h]
    have hix : Lib.index (c :: r) [b] = if Lib.index r [b] == -1 then -1 else Lib.index r [b] + 1 := by rw [Lib.index, hp]; simp
    by_cases hm : Lib.index r [b] = -1
    · have e1 : Lib.index (c :: r) [b] = -1 := by rw [hix, if_pos (beq_iff_eq.2 hm)]
      rw [Lib.splitK, if_pos (beq_iff_eq.2 e1), Lib.splitK, if_pos (beq_iff_eq.2 hm)]
      rfl
    · have hge := Lib.index_ge r [b]
      obtain ⟨j, hj⟩ : ∃ j : Nat, Lib.index r [b] = j := ⟨(Lib.index r [b]).toNat, by omega⟩
      have e1 : Lib.index (c :: r) [b] = ((j + 1 : Nat) : Int) := by rw [hix, if_neg (fun e => hm (beq_iff_eq.1 e)), hj]; omega
      have n1 : ¬ (Lib.index (c :: r) [b] == -1) = true := fun e => by have := beq_iff_eq.1 e; omega
      have n2 : ¬ (Lib.index r [b] == -1) = true := fun e => hm (beq_iff_eq.1 e)
      rw [Lib.splitK, if_neg n1, Lib.splitK, if_neg n2, e1, hj]
      simp

theorem splitK_eq (b c : UInt8) (h : c = b) (k : Nat) (r : List UInt8) : Lib.splitK [b] 0 (1 + k) (c :: r) = [] :: Lib.splitK [b] 0 k r := by
  subst h
  have e1 : Lib.index (c :: r) [c] = 0 := by rw [Lib.index]; simp [List.isPrefixOf]
  rw [Nat.add_comm, Lib.splitK, if_neg (by rw [e1]; decide), e1]
  simp

theorem splitK_all (b : UInt8) (l : List UInt8) : Lib.splitK [b] 0 (Lib.count l [b]) l = splitL b l := by
  induction l with
  | nil => rw [Lib.count_miss (by simp [Lib.index])]; rfl
  | cons c r ih =>
    by_cases h : c = b
    · rw [splitL, if_pos h, h, Lib.count_cons_eq, splitK_eq b b rfl, ih]
    · rw [splitL, if_neg h, Lib.count_cons_ne c b r h, splitK_ne b c h, ih]

theorem splitB_all (b : UInt8) (s : ByteArray) : (Lib.splitB ⟨#[b]⟩ 0 (Lib.countB s ⟨#[b]⟩) s).map (·.data.toList) = splitL b s.data.toList := by
  rw [Lib.splitB_data]
  exact splitK_all b s.data.toList

/-- the number that decimal digits spell behind a number n -/
def valGo : Nat → List UInt8 → Option Nat
  | n, [] => some n
  | n, c :: r => if c.toNat < 48 ∨ 57 < c.toNat then none else valGo (n * 10 + (c.toNat - 48)) r

/-- the number of a decimal without leading zeros with at most nine digits, or -1 -/
def valL (l : List UInt8) : Int :=
  if l.length = 0 ∨ 9 < l.length ∨ (1 < l.length ∧ l.headD 0 = 48) then -1 else match valGo 0 l with
    | none => -1
    | some n => n

theorem valGo_snoc (c : UInt8) (l : List UInt8) (a : Nat) : valGo a (l ++ [c]) = (valGo a l).bind fun m => if c.toNat < 48 ∨ 57 < c.toNat then none else some (m * 10 + (c.toNat - 48)) := by
  induction l generalizing a with
  | nil => simp [valGo]
  | cons d r ih =>
    rw [List.cons_append, valGo, valGo]
    split
    · rfl
    · exact ih _

theorem valGo_ge (l : List UInt8) (a v : Nat) (h : valGo a l = some v) : a ≤ v := by
  induction l generalizing a with
  | nil => simp [valGo] at h; omega
  | cons c r ih =>
    rw [valGo] at h
    split at h
    · cases h
    · have := ih _ h; omega

theorem valGo_pos (l : List UInt8) (v : Nat) (h : valGo 0 l = some v) (hl : l ≠ []) (h0 : l.headD 0 ≠ 48) : 1 ≤ v := by
  cases l with
  | nil => exact absurd rfl hl
  | cons c r =>
    rw [valGo] at h
    split at h
    · cases h
    · next hc =>
      have := valGo_ge _ _ _ h
      have h1 : c.toNat ≠ 48 := fun e => h0 (by
        have : c = 48 := UInt8.toNat_inj.1 e
        simpa using this)
      omega

theorem digit_byte (c : UInt8) (h : 48 ≤ c.toNat) : UInt8.ofNat (48 + (c.toNat - 48)) = c := by
  rw [show 48 + (c.toNat - 48) = c.toNat by omega]
  simp

theorem valGo_digits (l : List UInt8) (v : Nat) (h : valGo 0 l = some v) (hl : l ≠ []) (h0 : l.length = 1 ∨ l.headD 0 ≠ 48) : l = Lib.decDigits v := by
  induction hk : l.length using Nat.strongRecOn generalizing l v with
  | _ k ih =>
    obtain ⟨q, c, rfl⟩ : ∃ q c, l = q ++ [c] := ⟨l.dropLast, l.getLast hl, (List.dropLast_concat_getLast hl).symm⟩
    rw [valGo_snoc] at h
    by_cases hq : q = []
    · subst hq
      simp only [valGo, Option.bind_some] at h
      split at h
      · cases h
      · next hc =>
        have hv := Option.some.inj h
        rw [Lib.decDigits_one (by omega), ← hv]
        have := digit_byte c (by omega)
        simp [this]
    · cases hm : valGo 0 q with
      | none => rw [hm] at h; cases h
      | some m =>
        rw [hm] at h
        simp only [Option.bind_some] at h
        split at h
        · cases h
        · next hc =>
          have hv := Option.some.inj h
          have hh : q.headD 0 ≠ 48 := by
            rcases h0 with h0 | h0
            · have : q.length = 0 := by simp at h0; simp [h0]
              exact absurd (List.eq_nil_of_length_eq_zero this) hq
            · cases q with
              | nil => exact absurd rfl hq
              | cons a t => simpa using h0
          have hm1 := valGo_pos q m hm hq hh
          have hq1 := ih q.length (by rw [← hk]; simp) q m hm hq (.inr hh) rfl
          have e1 : v / 10 = m := by omega
          have e2 : v % 10 = c.toNat - 48 := by omega
          rw [Lib.decDigits, dif_neg (by omega), e1, e2, ← hq1, digit_byte c (by omega)]

theorem valL_digits (l : List UInt8) (v : Int) (h : valL l = v) (hv : 0 ≤ v) : l = Lib.decDigits v.toNat ∧ l.length ≤ 9 := by
  unfold valL at h
  split at h
  · omega
  · next hc =>
    cases hm : valGo 0 l with
    | none => rw [hm] at h; simp only at h; omega
    | some m =>
      rw [hm] at h
      simp only at h
      have e : v.toNat = m := by omega
      rw [e]
      refine ⟨valGo_digits l m hm (fun e => hc (.inl (by simp [e]))) ?_, by omega⟩
      by_cases h1 : l.length = 1
      · exact .inl h1
      · exact .inr (fun e => hc (.inr (.inr ⟨by omega, e⟩)))

/-- the number that the program reads: 15 bytes at most, spelled as it spells it -/
def rdI (l : List UInt8) : Option Int :=
  if 15 < l.length then none else match Lib.parseIntB 64 l with
    | .ok n => if 0 ≤ n ∧ Lib.itoa n = l then some n else none
    | _ => none

theorem rdI_digits (l : List UInt8) (n : Int) (h : rdI l = some n) : 0 ≤ n ∧ l = Lib.decDigits n.toNat := by
  unfold rdI at h
  split at h
  · cases h
  · split at h
    · next m _ =>
      split at h
      · next hc =>
        have e := Option.some.inj h
        subst e
        refine ⟨hc.1, ?_⟩
        have := hc.2
        rw [Lib.itoa, if_neg (by omega)] at this
        exact this.symm
      · cases h
    · cases h

/-- the digits of a number below 100, spelled out -/
def dd (n : Nat) : List UInt8 := if n < 10 then [UInt8.ofNat (48 + n)] else [UInt8.ofNat (48 + n / 10), UInt8.ofNat (48 + n % 10)]

theorem dd_eq (n : Nat) (h : n < 100) : Lib.decDigits n = dd n := by
  unfold dd
  split
  · next h1 => exact Lib.decDigits_one h1
  · next h1 => exact Lib.decDigits_two h1 h

theorem val_dd : ∀ i : Fin 41, valL (dd i.val) = (i.val : Int) := by decide +kernel

theorem parse_dd : ∀ i : Fin 41, Lib.parseIntB 64 (dd i.val) = .ok (i.val : Int) ∧ (dd i.val).length ≤ 15 := by decide +kernel

theorem rd_dd (n : Nat) (h : n ≤ 40) : rdI (Lib.decDigits n) = some (n : Int) := by
  have h1 := parse_dd ⟨n, by omega⟩
  have e := dd_eq n (by omega)
  unfold rdI
  rw [e]
  simp only at h1
  rw [if_neg (by omega), h1.1]
  simp only
  rw [if_pos ⟨by omega, by rw [Lib.itoa, if_neg (by omega)]; simpa using e⟩]

theorem val_of_rd (l : List UInt8) (n : Int) (h : rdI l = some n) (h1 : n ≤ 40) : valL l = n := by
  obtain ⟨h0, e⟩ := rdI_digits l n h
  have h2 := val_dd ⟨n.toNat, by omega⟩
  rw [e, dd_eq _ (by omega)]
  simp only at h2
  rw [h2]; omega

theorem rd_of_val (l : List UInt8) (n : Int) (h : valL l = n) (h0 : 0 ≤ n) (h1 : n ≤ 40) : rdI l = some n := by
  obtain ⟨e, _⟩ := valL_digits l n h h0
  have := rd_dd n.toNat (by omega)
  rw [e, this]
  congr 1; omega

/-- every part read, or nothing -/
def allOf {α : Type} (f : List UInt8 → Option α) (ps : List (List UInt8)) : Option (List α) := if ps.all (fun p => (f p).isSome) = true then some (ps.filterMap f) else none

theorem allOf_some {α : Type} (f : List UInt8 → Option α) (ps : List (List UInt8)) (xs : List α) (h : ps.map f = xs.map some) : allOf f ps = some xs := by
  induction ps generalizing xs with
  | nil =>
    cases xs with
    | nil => rfl
    | cons a t => simp at h
  | cons p r ih =>
    cases xs with
    | nil => simp at h
    | cons a t =>
      simp only [List.map_cons, List.cons.injEq] at h
      have := ih t h.2
      unfold allOf at this ⊢
      split at this
      · next hc =>
        rw [if_pos (by simp only [List.all_cons, h.1, Option.isSome_some, Bool.true_and]; exact hc), List.filterMap_cons, h.1]
        have e := Option.some.inj this
        simp only [e]
      · cases this

theorem allOf_none {α : Type} (f : List UInt8 → Option α) (ps : List (List UInt8)) (p : List UInt8) (hp : p ∈ ps) (h : f p = none) : allOf f ps = none := by
  unfold allOf
  rw [if_neg]
  intro hc
  have := List.all_eq_true.1 hc p hp
  rw [h] at this
  cases this

theorem allOf_inv {α : Type} (f : List UInt8 → Option α) (ps : List (List UInt8)) (xs : List α) (h : allOf f ps = some xs) : ps.map f = xs.map some := by
  induction ps generalizing xs with
  | nil =>
    simp [allOf] at h
    subst h; rfl
  | cons p r ih =>
    unfold allOf at h
    split at h
    · next hc =>
      simp only [List.all_cons, Bool.and_eq_true] at hc
      obtain ⟨a, ha⟩ := Option.isSome_iff_exists.1 hc.1
      have e := Option.some.inj h
      rw [List.filterMap_cons, ha] at e
      simp only at e
      subst e
      rw [List.map_cons, List.map_cons, ha, ih (r.filterMap f) (by unfold allOf; rw [if_pos hc.2])]
    · cases h

theorem allOf_len {α : Type} (f : List UInt8 → Option α) (ps : List (List UInt8)) (xs : List α) (h : allOf f ps = some xs) : ps.length = xs.length := by
  have := congrArg List.length (allOf_inv f ps xs h)
  simpa using this

/-- two readers that agree wherever the first one gives what is good -/
theorem allOf_same {α : Type} (f g : List UInt8 → Option α) (good : α → Prop) (hfg : ∀ p x, f p = some x → good x → g p = some x) (ps : List (List UInt8)) (xs : List α) (h : allOf f ps = some xs) (hx : ∀ x ∈ xs, good x) : allOf g ps = some xs := by
  have h1 := allOf_inv f ps xs h
  apply allOf_some
  clear h
  induction ps generalizing xs with
  | nil => simpa using h1
  | cons p r ih =>
    cases xs with
    | nil => simp at h1
    | cons a t =>
      simp only [List.map_cons, List.cons.injEq] at h1 ⊢
      exact ⟨hfg p a h1.1 (hx a (by simp)), ih t (fun x hx' => hx x (by simp [hx'])) h1.2⟩

/-- what a reading takes of the text -/
theorem allOf_sum {α : Type} (f : List UInt8 → Option α) (u : α → Nat) (hf : ∀ p x, f p = some x → u x ≤ p.length + 1) (ps : List (List UInt8)) (xs : List α) (h : allOf f ps = some xs) : (xs.map u).sum ≤ (ps.map fun p => p.length + 1).sum := by
  have h1 := allOf_inv f ps xs h
  clear h
  induction ps generalizing xs with
  | nil =>
    cases xs with
    | nil => simp
    | cons a t => simp at h1
  | cons p r ih =>
    cases xs with
    | nil => simp
    | cons a t =>
      simp only [List.map_cons, List.cons.injEq, List.sum_cons] at h1 ⊢
      have := hf p a h1.1
      have := ih t h1.2
      omega

/-- one square, by the program's way -/
def rpI (p : List UInt8) : Option Int := if Lib.hasPrefix p [83, 113] = true then rdI (Lib.trimPrefix p [83, 113]) else none

/-- one square, by the reference's way -/
def rpS (p : List UInt8) : Option Int := if p.length < 3 ∨ p.take 2 ≠ [83, 113] then none else some (valL (p.drop 2))

theorem prefix_take (p : List UInt8) : Lib.hasPrefix p [83, 113] = true ↔ p.take 2 = [83, 113] := by
  cases p with
  | nil => simp [Lib.hasPrefix, List.isPrefixOf]
  | cons a t =>
    cases t with
    | nil => simp [Lib.hasPrefix, List.isPrefixOf]
    | cons b t =>
      simp [Lib.hasPrefix, List.isPrefixOf]
      constructor
      · rintro ⟨rfl, rfl⟩; exact ⟨rfl, rfl⟩
      · rintro ⟨rfl, rfl⟩; exact ⟨rfl, rfl⟩

theorem trim_drop (p : List UInt8) (h : Lib.hasPrefix p [83, 113] = true) : Lib.trimPrefix p [83, 113] = p.drop 2 := by
  unfold Lib.trimPrefix
  rw [if_pos h]; rfl

def goodN (x : Int) : Prop := 1 ≤ x ∧ x ≤ 40

theorem rd_nil : rdI [] = none := by decide +kernel

theorem rpI_long (p : List UInt8) (x : Int) (h : rpI p = some x) : 3 ≤ p.length := by
  unfold rpI at h
  split at h
  · next hc =>
    rw [trim_drop p hc] at h
    have e := (prefix_take p).1 hc
    have e2 : (p.take 2).length = 2 := by rw [e]; rfl
    rw [List.length_take] at e2
    rcases Nat.lt_or_ge p.length 3 with h3 | h3
    · have : p.drop 2 = [] := List.drop_eq_nil_of_le (by omega)
      rw [this, rd_nil] at h
      cases h
    · exact h3
  · cases h

theorem rpS_long (p : List UInt8) (x : Int) (h : rpS p = some x) : 3 ≤ p.length := by
  unfold rpS at h
  split at h
  · cases h
  · omega

theorem rpI_S (p : List UInt8) (x : Int) (h : rpI p = some x) (hx : goodN x) : rpS p = some x := by
  have h3 := rpI_long p x h
  unfold rpI at h
  split at h
  · next hc =>
    rw [trim_drop p hc] at h
    unfold rpS
    rw [if_neg (fun e => e.elim (fun e => by omega) (fun e => e ((prefix_take p).1 hc))), val_of_rd _ _ h hx.2]
  · cases h

theorem rpS_I (p : List UInt8) (x : Int) (h : rpS p = some x) (hx : goodN x) : rpI p = some x := by
  unfold rpS at h
  split at h
  · cases h
  · next hc =>
    have e := Option.some.inj h
    have hp : Lib.hasPrefix p [83, 113] = true := (prefix_take p).2 (Classical.byContradiction fun e => hc (.inr e))
    unfold rpI
    rw [if_pos hp, trim_drop p hp, rd_of_val _ _ e (by have := hx.1; omega) hx.2]

/-- a word, by a reader of its squares -/
def rw_ (f : List UInt8 → Option Int) (l : List UInt8) : Option (List Int) := if l = [49] then some [] else allOf f (splitL 32 l)

theorem rw_same (f g : List UInt8 → Option Int) (hfg : ∀ p x, f p = some x → goodN x → g p = some x) (l : List UInt8) (xs : List Int) (h : rw_ f l = some xs) (hx : ∀ x ∈ xs, goodN x) : rw_ g l = some xs := by
  unfold rw_ at h ⊢
  split
  · next hc => rw [if_pos hc] at h; exact h
  · next hc => rw [if_neg hc] at h; exact allOf_same f g goodN hfg _ _ h hx

theorem rw_size (f : List UInt8 → Option Int) (hf : ∀ p x, f p = some x → 3 ≤ p.length) (l : List UInt8) (xs : List Int) (h : rw_ f l = some xs) : 2 * (xs.length + 1) ≤ l.length + 1 := by
  unfold rw_ at h
  split at h
  · next hc =>
    have e := Option.some.inj h
    subst e; subst hc
    simp
  · have h1 := allOf_sum f (fun _ => 4) (fun p x hp => by have := hf p x hp; omega) _ _ h
    rw [splitL_bytes] at h1
    have h2 := allOf_len f _ _ h
    have h3 : 1 ≤ (splitL 32 l).length := by
      have := splitL_ne 32 l
      cases hs : splitL 32 l with
      | nil => exact absurd hs this
      | cons a t => simp
    simp only [List.map_const', List.sum_replicate_nat] at h1
    omega

/-- a sum of words, by a reader of the squares -/
def rs_ (f : List UInt8 → Option Int) (l : List UInt8) : Option (List (List Int)) := if l = [48] then some [] else allOf (rw_ f) (splitL 43 l)

theorem rs_same (f g : List UInt8 → Option Int) (hfg : ∀ p x, f p = some x → goodN x → g p = some x) (l : List UInt8) (X : List (List Int)) (h : rs_ f l = some X) (hx : ∀ xs ∈ X, ∀ x ∈ xs, goodN x) : rs_ g l = some X := by
  unfold rs_ at h ⊢
  split
  · next hc => rw [if_pos hc] at h; exact h
  · next hc => rw [if_neg hc] at h; exact allOf_same (rw_ f) (rw_ g) (fun xs => ∀ x ∈ xs, goodN x) (fun p xs hp hxs => rw_same f g hfg p xs hp hxs) _ _ h hx

theorem rs_size (f : List UInt8 → Option Int) (hf : ∀ p x, f p = some x → 3 ≤ p.length) (l : List UInt8) (X : List (List Int)) (h : rs_ f l = some X) : (X.map fun xs => 2 * (xs.length + 1)).sum ≤ l.length + 1 := by
  unfold rs_ at h
  split at h
  · have e := Option.some.inj h
    subst e
    simp
  · have h1 := allOf_sum (rw_ f) (fun xs => 2 * (xs.length + 1)) (fun p x hp => rw_size f hf p x hp) _ _ h
    rwa [splitL_bytes] at h1

/-- what the program reads: no more than 2000 words -/
def rsI (l : List UInt8) : Option (List (List Int)) := if l = [48] then some [] else if 2000 < (splitL 43 l).length then none else allOf (rw_ rpI) (splitL 43 l)

theorem rsI_rs (l : List UInt8) (X : List (List Int)) (h : rsI l = some X) : rs_ rpI l = some X := by
  unfold rsI at h
  unfold rs_
  split
  · next hc => rw [if_pos hc] at h; exact h
  · next hc =>
    rw [if_neg hc] at h
    split at h
    · cases h
    · exact h

theorem rs_rsI (l : List UInt8) (X : List (List Int)) (h : rs_ rpI l = some X) (hl : X.length ≤ 2000) : rsI l = some X := by
  unfold rs_ at h
  unfold rsI
  split
  · next hc => rw [if_pos hc] at h; exact h
  · next hc =>
    rw [if_neg hc] at h
    have := allOf_len _ _ _ h
    rw [if_neg (by omega)]
    exact h

/-- what is read and passes a test -/
def passed (ok : List (List Int) → Bool) (r : Option (List (List Int))) : Option (List (List Int)) := r.bind fun X => if ok X = true then some X else none

/-- both ways read the same -/
theorem read_same (ok : List (List Int) → Bool) (hok : ∀ X, ok X = true → X.length ≤ 2000 ∧ ∀ xs ∈ X, ∀ x ∈ xs, goodN x) (l : List UInt8) : passed ok (rsI l) = passed ok (rs_ rpS l) := by
  cases h1 : rsI l with
  | some X =>
    by_cases hX : ok X = true
    · have h2 := rs_same rpI rpS rpI_S l X (rsI_rs l X h1) (hok X hX).2
      rw [h2]
    · cases h2 : rs_ rpS l with
      | none => simp [passed, hX]
      | some Y =>
        by_cases hY : ok Y = true
        · have h3 := rs_rsI l Y (rs_same rpS rpI rpS_I l Y h2 (hok Y hY).2) (hok Y hY).1
          rw [h1] at h3
          rw [Option.some.inj h3] at hX
          exact absurd hY hX
        · simp [passed, hX, hY]
  | none =>
    cases h2 : rs_ rpS l with
    | none => rfl
    | some Y =>
      by_cases hY : ok Y = true
      · have h3 := rs_rsI l Y (rs_same rpS rpI rpS_I l Y h2 (hok Y hY).2) (hok Y hY).1
        rw [h1] at h3
        cases h3
      · simp [passed, hY]

/-- joined with one thing more -/
theorem join_snoc (ys : List (List UInt8)) (y sep : List UInt8) : Lib.join (ys ++ [y]) sep = if ys = [] then y else Lib.join ys sep ++ sep ++ y := by
  cases ys with
  | nil => simp [Lib.join_one]
  | cons x r =>
    rw [if_neg (by simp), List.cons_append, Lib.join_cons, Lib.join_cons]
    simp [Lib.joinTail]

/-- the text of a square -/
def txtSq (x : Int) : List UInt8 := [83, 113] ++ Lib.decDigits x.toNat

/-- the text of a word -/
def txtWord (xs : List Int) : List UInt8 := if xs = [] then [49] else Lib.join (xs.map txtSq) [32]

/-- the text of a sum -/
def txtSum (X : List (List Int)) : List UInt8 := if X = [] then [48] else Lib.join (X.map txtWord) [43]

end Go.Proofs.YtijdlejngdhpjaaDoor
