/- Plain law, no program in sight: one square times a sum of Milnor's elements, words of squares, and how large these are. -/
import Derived.Test.YtpgmggkpnefaeaaNorm
import Derived.Test.YtpgmggkpnefaeaaMulti
import Derived.Test.YtpgmggkpnefaeaaTrim
namespace Go.Proofs.Ytpgmggkpnefaeaa
open Go.ChangeShapes Go.WideShapes Go.ChangeAt Go.RowKit
set_option linter.unusedVariables false

/-- the sums of the diagonals of a table of one row, and whether each has no digit 1 twice -/
def diaL (r : Int) (xs d : List Int) : List Int := List.zipWith (· + ·) (d ++ [0]) (r :: xs)

def diaB (r : Int) (xs d : List Int) : Bool := (List.zipWith (fun a b => bits .and .i64 a b) (d ++ [0]) (r :: xs)).all (· == 0)

def resL (r : Int) (xs d : List Int) : LL := if diaB r xs d = true then [trimL (diaL r xs d)] else []

def topN (j : Nat) (r s : Int) : Nat := (min (r / 2 ^ (j + 1)) s).toNat + 1

def fillP : Nat → Int → List Int → List Int → List Int → LL
  | _, r, xs, d, [] => resL r xs d
  | j, r, xs, d, s :: rest => (List.range (topN j r s)).flatMap fun (x : Nat) => fillP (j + 1) (r - 2 ^ (j + 1) * (x : Int)) (xs ++ [(x : Int)]) (d ++ [s - (x : Int)]) rest

def prodP (n : Int) (s : List Int) : LL := fillP 0 n [] [] s

def timesP (n : Int) (L : LL) : LL := norm (L.flatMap (prodP n))

def wordP (w : List Int) : LL := w.foldr timesP [[]]

def wordsP (ws : LL) : LL := norm (ws.flatMap wordP)

/-- degree by weights w, 2w+1, .. -/
def dgW : Int → List Int → Int
  | _, [] => 0
  | w, y :: r => w * y + dgW (2 * w + 1) r

def wt (w : Int) : Nat → Int
  | 0 => w
  | k + 1 => wt (2 * w + 1) k

theorem wt_pow (w : Int) (k : Nat) : wt w k = (w + 1) * 2 ^ k - 1 := by
  induction k generalizing w with
  | zero => simp [wt]
  | succ k ih => rw [wt, ih, Int.pow_succ]; have : (2 * w + 1 + 1 : Int) = (w + 1) * 2 := by omega
                 rw [this, Int.mul_assoc, Int.mul_comm 2]

theorem dgW_app (w : Int) (a b : List Int) : dgW w (a ++ b) = dgW w a + dgW (wt w a.length) b := by
  induction a generalizing w with
  | nil => simp [dgW, wt]
  | cons y a ih => rw [List.cons_append, dgW, dgW, ih, List.length_cons, wt]; omega

theorem dgW_zip (w : Int) (a b : List Int) (h : a.length = b.length) : dgW w (List.zipWith (· + ·) a b) = dgW w a + dgW w b := by
  induction a generalizing w b with
  | nil => cases b with
    | nil => rfl
    | cons _ _ => simp at h
  | cons y a ih => cases b with
    | nil => simp at h
    | cons z b => rw [List.zipWith_cons_cons, dgW, dgW, dgW, ih _ b (by simpa using h), Int.mul_add]; omega

theorem dgW_zero (w : Int) (a : List Int) (h : ∀ y ∈ a, y = 0) : dgW w a = 0 := by
  induction a generalizing w with
  | nil => rfl
  | cons y a ih => rw [dgW, ih _ (fun z hz => h z (List.mem_cons_of_mem _ hz)), h y List.mem_cons_self]; omega

theorem tlen_zeros (xs : List Int) (k j : Nat) (h1 : tlen xs k ≤ j) (h2 : j < k) : xs.getD j 0 = 0 := by
  induction k with
  | zero => omega
  | succ k ih =>
    rw [tlen] at h1
    split at h1
    · rcases Nat.lt_or_ge j k with h | h
      · exact ih h1 h
      · obtain rfl : j = k := by omega
        assumption
    · omega

theorem trimL_deg (w : Int) (l : List Int) : dgW w (trimL l) = dgW w l := by
  have e : l = trimL l ++ l.drop (tlen l l.length) := (List.take_append_drop _ _).symm
  rw [e, ← e, show dgW w l = dgW w (trimL l) + dgW (wt w (trimL l).length) (l.drop (tlen l l.length)) by rw [← dgW_app]; congr 1]
  rw [dgW_zero _ (l.drop _), Int.add_zero]
  intro y hy
  obtain ⟨i, hi, rfl⟩ := List.mem_iff_getElem.1 hy
  have hlt : tlen l l.length + i < l.length := by simp at hi; omega
  have := tlen_zeros l l.length (tlen l l.length + i) (by omega) hlt
  rw [List.getElem_drop]
  simpa [List.getD, hlt] using this

/-- no zero at the end -/
def tl (l : List Int) : Prop := l = [] ∨ l.getD (l.length - 1) 0 ≠ 0

theorem tlen_tl (xs : List Int) (k : Nat) : tlen xs k = 0 ∨ xs.getD (tlen xs k - 1) 0 ≠ 0 := by
  induction k with
  | zero => exact .inl rfl
  | succ k ih =>
    rw [tlen]
    split
    · exact ih
    · exact .inr (by simpa using ‹_›)

theorem trimL_tl (l : List Int) : tl (trimL l) := by
  rcases tlen_tl l l.length with h | h
  · left; unfold trimL; rw [h]; rfl
  · by_cases h0 : tlen l l.length = 0
    · left; unfold trimL; rw [h0]; rfl
    · right
      have h1 := trimL_len l
      rw [h1]
      have e : (trimL l).getD (tlen l l.length - 1) 0 = l.getD (tlen l l.length - 1) 0 := by
        unfold trimL
        simp only [List.getD]
        rw [List.getElem?_take_of_lt (by omega)]
      rw [e]; exact h

def nn (l : List Int) : Prop := ∀ z ∈ l, 0 ≤ z

theorem nn_app {a b : List Int} (ha : nn a) (hb : nn b) : nn (a ++ b) := fun z hz => (List.mem_append.1 hz).elim (ha z) (hb z)

theorem nn_zip {a b : List Int} (ha : nn a) (hb : nn b) : nn (List.zipWith (· + ·) a b) := by
  induction a generalizing b with
  | nil => intro z hz; simp at hz
  | cons y a ih => cases b with
    | nil => intro z hz; simp at hz
    | cons x b =>
      intro z hz
      rw [List.zipWith_cons_cons] at hz
      rcases List.mem_cons.1 hz with rfl | hz
      · have := ha y List.mem_cons_self; have := hb x List.mem_cons_self; omega
      · exact ih (fun z hz => ha z (List.mem_cons_of_mem _ hz)) (fun z hz => hb z (List.mem_cons_of_mem _ hz)) z hz

theorem top_mem {j : Nat} {r s : Int} {x : Nat} (hr : 0 ≤ r) (hs : 0 ≤ s) (h : x < topN j r s) : (x : Int) ≤ s ∧ 0 ≤ r - 2 ^ (j + 1) * (x : Int) := by
  unfold topN at h
  have hp : (0 : Int) < 2 ^ (j + 1) := Int.pow_pos (by omega)
  have h1 : 0 ≤ r / 2 ^ (j + 1) := Int.ediv_nonneg hr (Int.le_of_lt hp)
  have h2 : (x : Int) ≤ r / 2 ^ (j + 1) := by omega
  have h3 : 2 ^ (j + 1) * (x : Int) ≤ 2 ^ (j + 1) * (r / 2 ^ (j + 1)) := Int.mul_le_mul_of_nonneg_left h2 (Int.le_of_lt hp)
  have h4 : 2 ^ (j + 1) * (r / 2 ^ (j + 1)) ≤ r := Int.mul_ediv_self_le (by omega)
  omega

theorem fillP_row (rest : List Int) : ∀ (j : Nat) (r : Int) (xs d : List Int), xs.length = j → d.length = j → 0 ≤ r → nn xs → nn d → nn rest → ∀ y ∈ fillP j r xs d rest, nn y ∧ tl y ∧ dgW 1 y = dgW 1 d + r + dgW 3 xs + dgW (2 ^ (j + 1) - 1) rest := by
  induction rest with
  | nil =>
    intro j r xs d hx hd hr hxs hdn _ y hy
    rw [fillP, resL] at hy
    split at hy
    · rw [List.mem_singleton.1 hy]
      refine ⟨fun z hz => nn_zip (nn_app hdn (by intro z hz; rw [List.mem_singleton.1 hz]; omega)) (by intro z hz; rcases List.mem_cons.1 hz with rfl | hz; exact hr; exact hxs z hz) z (List.mem_of_mem_take hz), trimL_tl _, ?_⟩
      rw [trimL_deg]
      unfold diaL
      rw [dgW_zip _ _ _ (by simp [hx, hd]), dgW_app]
      simp only [dgW]
      rw [show (2 * 1 + 1 : Int) = 3 from rfl]
      omega
    · cases hy
  | cons s rest ih =>
    intro j r xs d hx hd hr hxs hdn hre y hy
    rw [fillP] at hy
    obtain ⟨x, hx2, hy⟩ := List.mem_flatMap.1 hy
    have hs := hre s List.mem_cons_self
    obtain ⟨h1, h2⟩ := top_mem hr hs (List.mem_range.1 hx2)
    obtain ⟨a1, a2, a3⟩ := ih (j + 1) _ (xs ++ [(x : Int)]) (d ++ [s - (x : Int)]) (by simp [hx]) (by simp [hd]) h2 (nn_app hxs (by intro z hz; rw [List.mem_singleton.1 hz]; omega)) (nn_app hdn (by intro z hz; rw [List.mem_singleton.1 hz]; omega)) (fun z hz => hre z (List.mem_cons_of_mem _ hz)) y hy
    refine ⟨a1, a2, ?_⟩
    rw [a3, dgW_app, dgW_app, hx, hd, wt_pow, wt_pow]
    simp only [dgW]
    have e1 : (2 : Int) ^ (j + 1 + 1) = 2 * 2 ^ (j + 1) := by rw [Int.pow_succ, Int.mul_comm]
    have e2 : (2 : Int) ^ (j + 1) = 2 * 2 ^ j := by rw [Int.pow_succ, Int.mul_comm]
    rw [e1, e2]
    generalize (2 : Int) ^ j = p
    rw [show (1 + 1 : Int) * p - 1 = 2 * p - 1 by omega, show (3 + 1 : Int) * p - 1 = 4 * p - 1 by omega, show 2 * (2 * p) - 1 = 4 * p - 1 by omega, show 2 * (2 * p - 1) + 1 = 4 * p - 1 by omega, Int.mul_sub, Int.sub_mul, Int.sub_mul, Int.sub_mul, Int.mul_assoc, Int.mul_assoc, Int.mul_assoc]
    omega

/-- rows below given bounds, column by column -/
def fits : List Int → List Int → Prop
  | _, [] => True
  | [], _ :: _ => False
  | m :: ms, y :: r => 0 ≤ y ∧ y < m ∧ fits ms r

def cntB : List Int → Nat
  | [] => 1
  | m :: ms => 1 + m.toNat * cntB ms

theorem fits_of {l : List Int} (h : nn l) (ht : tl l) (hd : dgW 1 l ≤ 40) : fits [41, 14, 6, 3, 2] l := by
  have key : ∀ (ms : List Int) (w : Int) (l : List Int), 1 ≤ w → (∀ (k : Nat) (m : Int), ms[k]? = some m → 40 < wt w k * m) → 40 < wt w ms.length → nn l → tl l → dgW w l ≤ 40 → fits ms l := by
    have dn : ∀ (l : List Int) (w : Int), 1 ≤ w → nn l → 0 ≤ dgW w l := by
      intro l
      induction l with
      | nil => intro w _ _; exact Int.le_refl _
      | cons y l ih =>
        intro w hw h
        have h1 := ih (2 * w + 1) (by omega) (fun z hz => h z (List.mem_cons_of_mem _ hz))
        have h2 := Int.mul_nonneg (show 0 ≤ w by omega) (h y List.mem_cons_self)
        rw [dgW]; omega
    have big : ∀ (l : List Int) (w : Int), 1 ≤ w → nn l → l ≠ [] → tl l → w ≤ dgW w l := by
      intro l
      induction l with
      | nil => intro w _ _ h; exact absurd rfl h
      | cons y l ih =>
        intro w hw h _ ht
        cases l with
        | nil =>
          have h1 : y ≠ 0 := by
            rcases ht with ht | ht
            · cases ht
            · simpa using ht
          have h2 := h y List.mem_cons_self
          have h3 : w * 1 ≤ w * y := Int.mul_le_mul_of_nonneg_left (by omega) (by omega)
          simp only [dgW]; omega
        | cons z l =>
          have h1 := ih (2 * w + 1) (by omega) (fun z hz => h z (List.mem_cons_of_mem _ hz)) (by simp) (by
            rcases ht with ht | ht
            · cases ht
            · right; simpa using ht)
          have h2 := Int.mul_nonneg (show 0 ≤ w by omega) (h y List.mem_cons_self)
          rw [dgW]; omega
    intro ms
    induction ms with
    | nil =>
      intro w l hw _ hb h ht hd
      cases l with
      | nil => trivial
      | cons y l =>
        have := big (y :: l) w hw h (by simp) ht
        simp only [List.length_nil, wt] at hb
        omega
    | cons m ms ih =>
      intro w l hw hm hb h ht hd
      cases l with
      | nil => trivial
      | cons y l =>
        have h1 := h y List.mem_cons_self
        have h3 := dn l (2 * w + 1) (by omega) (fun z hz => h z (List.mem_cons_of_mem _ hz))
        have h4 := hm 0 m rfl
        have h5 := Int.mul_nonneg (show 0 ≤ w by omega) h1
        rw [dgW] at hd
        simp only [wt] at h4
        refine ⟨h1, ?_, ih (2 * w + 1) l (by omega) (fun k m hk => hm (k + 1) m (by simpa using hk)) (by simpa [wt] using hb) (fun z hz => h z (List.mem_cons_of_mem _ hz)) ?_ (by omega)⟩
        · rcases Int.lt_or_le y m with h6 | h6
          · exact h6
          · have := Int.mul_le_mul_of_nonneg_left h6 (show 0 ≤ w by omega)
            omega
        · cases l with
          | nil => exact .inl rfl
          | cons z l =>
            rcases ht with ht | ht
            · cases ht
            · right; simpa using ht
  refine key _ 1 l (by omega) ?_ (by decide) h ht hd
  intro k m hk
  match k with
  | 0 => simp at hk; subst hk; decide
  | 1 => simp at hk; subst hk; decide
  | 2 => simp at hk; subst hk; decide
  | 3 => simp at hk; subst hk; decide
  | 4 => simp at hk; subst hk; decide
  | k + 5 => simp at hk

theorem split_len (p : List Int → Bool) (L : LL) : L.length = (L.filter p).length + (L.filter (fun x => !p x)).length := by
  induction L with
  | nil => rfl
  | cons x L ih => by_cases h : p x = true <;> simp [h] <;> omega

theorem fits_count (ms : List Int) : ∀ (L : LL), L.Nodup → (∀ y ∈ L, fits ms y) → L.length ≤ cntB ms := by
  have nil1 : ∀ (L : LL), L.Nodup → (∀ y ∈ L, y = []) → L.length ≤ 1 := by
    intro L hL h
    match L, hL, h with
    | [], _, _ => simp
    | [x], _, _ => simp
    | x :: y :: L, hL, h =>
      rw [List.nodup_cons] at hL
      exact absurd (by rw [h x List.mem_cons_self, ← h y (by simp)]; exact List.mem_cons_self) hL.1
  induction ms with
  | nil =>
    intro L hL h
    refine nil1 L hL (fun y hy => ?_)
    have := h y hy
    cases y with
    | nil => rfl
    | cons _ _ => exact absurd this (by simp [fits])
  | cons m ms ih =>
    intro L hL h
    have cl : ∀ (k : Nat) (L : LL), L.Nodup → (∀ y ∈ L, ∃ a r, y = a :: r ∧ 0 ≤ a ∧ a < (k : Int) ∧ fits ms r) → L.length ≤ k * cntB ms := by
      intro k
      induction k with
      | zero =>
        intro L hL h
        cases L with
        | nil => simp
        | cons y L => obtain ⟨a, r, _, h1, h2, _⟩ := h y List.mem_cons_self; omega
      | succ k ihk =>
        intro L hL h
        rw [split_len (fun y => y.getD 0 0 == (k : Int)) L]
        have h1 : (L.filter (fun y => y.getD 0 0 == (k : Int))).length ≤ cntB ms := by
          have hf := ih ((L.filter (fun y => y.getD 0 0 == (k : Int))).map List.tail) ?_ ?_
          · simpa using hf
          · have hn : (L.filter (fun y => y.getD 0 0 == (k : Int))).Nodup := hL.filter _
            show List.Pairwise (fun a b => a ≠ b) _
            rw [List.pairwise_map]
            refine List.Pairwise.imp_of_mem (S := fun a b => a.tail ≠ b.tail) ?_ hn
            · intro a b ha hb hab
              obtain ⟨ha1, ha2⟩ := List.mem_filter.1 ha
              obtain ⟨hb1, hb2⟩ := List.mem_filter.1 hb
              obtain ⟨a0, ar, rfl, _⟩ := h a ha1
              obtain ⟨b0, br, rfl, _⟩ := h b hb1
              simp at ha2 hb2
              intro e
              simp at e
              exact hab (by rw [ha2, hb2, e])
          · intro y hy
            obtain ⟨z, hz, rfl⟩ := List.mem_map.1 hy
            obtain ⟨a, r, rfl, _, _, hf⟩ := h z (List.mem_filter.1 hz).1
            exact hf
        have h2 : (L.filter (fun y => !(y.getD 0 0 == (k : Int)))).length ≤ k * cntB ms := by
          refine ihk _ (hL.filter _) (fun y hy => ?_)
          obtain ⟨hy1, hy2⟩ := List.mem_filter.1 hy
          obtain ⟨a, r, rfl, ha, hb, hf⟩ := h y hy1
          refine ⟨a, r, rfl, ha, ?_, hf⟩
          have : a ≠ (k : Int) := by simpa using hy2
          omega
        rw [Nat.succ_mul]; omega
    rw [split_len (fun y => y == []) L]
    have h1 := nil1 (L.filter (fun y => y == [])) (hL.filter _) (fun y hy => by simpa using (List.mem_filter.1 hy).2)
    have h2 := cl m.toNat (L.filter (fun y => !(y == []))) (hL.filter _) (fun y hy => by
      obtain ⟨hy1, hy2⟩ := List.mem_filter.1 hy
      cases y with
      | nil => simp at hy2
      | cons a r =>
        have hf := h _ hy1
        exact ⟨a, r, rfl, hf.1, by have := hf.1; have := hf.2.1; omega, hf.2.2⟩)
    rw [cntB]; omega

theorem flat_bound (g : Nat → LL) (c : Nat) (h : ∀ x, (g x).length ≤ c) (k : Nat) : ((List.range k).flatMap g).length ≤ k * c := by
  induction k with
  | zero => simp
  | succ k ih => rw [List.range_succ, List.flatMap_append, List.length_append, Nat.succ_mul, List.flatMap_cons, List.flatMap_nil, List.append_nil]; have := h k; omega

def prdB : List Int → Nat
  | [] => 1
  | m :: ms => m.toNat * prdB ms

theorem fillP_len (rest : List Int) : ∀ (ms : List Int) (j : Nat) (r : Int) (xs d : List Int), (∀ m ∈ ms, 1 ≤ m) → fits ms rest → (fillP j r xs d rest).length ≤ prdB ms := by
  have pos : ∀ ms : List Int, (∀ m ∈ ms, 1 ≤ m) → 1 ≤ prdB ms := by
    intro ms
    induction ms with
    | nil => intro _; simp [prdB]
    | cons m ms ih =>
      intro h
      have h1 := ih (fun z hz => h z (List.mem_cons_of_mem _ hz))
      have h2 := h m List.mem_cons_self
      rw [prdB]
      exact Nat.mul_pos (by omega) h1
  induction rest with
  | nil =>
    intro ms j r xs d h1 _
    rw [fillP, resL]
    have := pos ms h1
    split <;> simp <;> omega
  | cons s rest ih =>
    intro ms j r xs d h1 hf
    cases ms with
    | nil => exact absurd hf (by simp [fits])
    | cons m ms =>
      rw [fillP, prdB]
      refine Nat.le_trans (flat_bound _ (prdB ms) (fun x => ih ms _ _ _ _ (fun z hz => h1 z (List.mem_cons_of_mem _ hz)) hf.2.2) _) (Nat.mul_le_mul_right _ ?_)
      have h2 := hf.1
      have h3 := hf.2.1
      unfold topN
      omega

/-- what a sum of Milnor's elements of degree d is here -/
def MilP (d : Int) (L : LL) : Prop := L.Nodup ∧ ∀ y ∈ L, nn y ∧ tl y ∧ dgW 1 y = d

theorem MilP.fits {d L} (h : MilP d L) (hd : d ≤ 40) : ∀ y ∈ L, fits [41, 14, 6, 3, 2] y := fun y hy => by
  obtain ⟨_, h2⟩ := h
  obtain ⟨a, b, c⟩ := h2 y hy
  exact fits_of a b (by omega)

theorem MilP.len {d L} (h : MilP d L) (hd : d ≤ 40) : L.length ≤ 35056 := fits_count _ L h.1 (h.fits hd)

theorem fits_small : ∀ (ms l : List Int), (∀ m ∈ ms, m ≤ 41) → fits ms l → l.length ≤ ms.length ∧ ∀ z ∈ l, 0 ≤ z ∧ z ≤ 40 := by
  intro ms
  induction ms with
  | nil => intro l _ h; cases l with
    | nil => simp
    | cons _ _ => exact absurd h (by simp [fits])
  | cons m ms ih => intro l hm h; cases l with
    | nil => simp
    | cons y l =>
      have h1 := ih l (fun z hz => hm z (List.mem_cons_of_mem _ hz)) h.2.2
      have h2 := hm m List.mem_cons_self
      refine ⟨by simp; exact h1.1, fun z hz => ?_⟩
      rcases List.mem_cons.1 hz with rfl | hz
      · have := h.1; have := h.2.1; omega
      · exact h1.2 z hz

theorem MilP.row {d L} (h : MilP d L) (hd : d ≤ 40) : ∀ y ∈ L, y.length ≤ 5 ∧ ∀ z ∈ y, 0 ≤ z ∧ z ≤ 40 := fun y hy => by
  have := fits_small _ y (by decide) (h.fits hd y hy)
  exact this

theorem prodP_len {d L} (h : MilP d L) (hd : d ≤ 40) (n : Int) : ∀ y ∈ L, (prodP n y).length ≤ 20664 := fun y hy => by
  have := fillP_len y [41, 14, 6, 3, 2] 0 n [] [] (by decide) (h.fits hd y hy)
  exact this

theorem flatS_len (g : List Int → LL) (c : Nat) (L : LL) (h : ∀ y ∈ L, (g y).length ≤ c) : (L.flatMap g).length ≤ L.length * c := by
  induction L with
  | nil => simp
  | cons y L ih =>
    rw [List.flatMap_cons, List.length_append, List.length_cons, Nat.succ_mul]
    have h1 := ih (fun z hz => h z (List.mem_cons_of_mem _ hz))
    have h2 := h y List.mem_cons_self
    omega

theorem timesP_flat {d L} (h : MilP d L) (hd : d ≤ 40) (n : Int) : (L.flatMap (prodP n)).length ≤ 1000000000 := by
  have h1 := flatS_len (prodP n) 20664 L (prodP_len h hd n)
  have h2 := Nat.mul_le_mul_right 20664 (h.len hd)
  omega

theorem timesP_mil {d L} (h : MilP d L) {n : Int} (hn : 0 ≤ n) : MilP (n + d) (timesP n L) := by
  refine ⟨(norm_ris _).nodup, fun y hy => ?_⟩
  have hc := (norm_mem _ y).1 hy
  have hm : y ∈ L.flatMap (prodP n) := List.count_pos_iff.1 (by omega)
  obtain ⟨s, hs, hy⟩ := List.mem_flatMap.1 hm
  obtain ⟨a, b, c⟩ := h.2 s hs
  obtain ⟨a1, b1, c1⟩ := fillP_row s 0 n [] [] rfl rfl hn (fun z hz => by cases hz) (fun z hz => by cases hz) a y hy
  refine ⟨a1, b1, ?_⟩
  rw [c1]
  simp only [dgW]
  have : ((2 : Int) ^ (0 + 1) - 1) = 1 := by decide
  rw [this, c]; omega

theorem wordP_mil (w : List Int) (h : ∀ n ∈ w, 0 ≤ n) : MilP (w.foldr (· + ·) 0) (wordP w) := by
  induction w with
  | nil => exact ⟨List.pairwise_singleton _ _, fun y hy => by rw [show y = [] from List.mem_singleton.1 hy]; exact ⟨fun z hz => (by cases hz), .inl rfl, rfl⟩⟩
  | cons n w ih => exact timesP_mil (ih (fun z hz => h z (List.mem_cons_of_mem _ hz))) (h n List.mem_cons_self)

theorem wordP_ris (w : List Int) : Ris (wordP w) := by
  cases w with
  | nil => exact List.pairwise_singleton _ _
  | cons n w => exact norm_ris _

end Go.Proofs.Ytpgmggkpnefaeaa
