/- QuotientSeries of the program and of the reference: the same recurrence in both. -/
import Derived.Test.YtiajkfgicpidkaaSeries
import Derived.Test.YtiajkfgicpidkaaCount
import Derived.Test.YtiajkfgicpidkaaCls
import Derived.Test.YtiajkfgicpidkaaCopy
namespace Go.Proofs.Ytiajkfgicpidkaa
open Go.ChangeShapes Go.WideShapes Go.ChangeAt Go.RowKit
set_option linter.unusedVariables false

/-- a coefficient, less the products with the first k coefficients behind the start -/
def quoIn (a b q : List Int) (n : Nat) : Nat → Int
  | 0 => a.getD n 0
  | k + 1 => wrap64 (quoIn a b q n k - wrap64 (b.getD (k + 1) 0 * q.getD (n - (k + 1)) 0))

def quoL (a b : List Int) : Nat → List Int
  | 0 => []
  | n + 1 => quoL a b n ++ [quoIn a b (quoL a b n) n n]

theorem quoL_len (a b : List Int) (n : Nat) : (quoL a b n).length = n := by
  induction n with
  | zero => rfl
  | succ n ih => simp [quoL, ih]

theorem quoIn_I64 {a b q : List Int} {n : Nat} (k : Nat) (ha : I64 (a.getD n 0)) : I64 (quoIn a b q n k) := by
  cases k with
  | zero => exact ha
  | succ k => exact I64.wrap64 _

/-- the first n quotient coefficients, the n-th one under way behind k steps, the rest as it was -/
def quoMid (a b : List Int) (n k : Nat) : List Int := quoL a b n ++ (quoIn a b (quoL a b n) n k :: a.drop (n + 1))

theorem quoMid_start (a b : List Int) (n : Nat) (hn : n < a.length) : quoL a b n ++ a.drop n = quoMid a b n 0 := by
  unfold quoMid
  rw [List.drop_eq_getElem_cons hn]
  simp [quoIn, List.getD, hn]

theorem quoMid_done (a b : List Int) (n : Nat) : quoMid a b n n = quoL a b (n + 1) ++ a.drop (n + 1) := by
  unfold quoMid
  simp [quoL]

theorem quoMid_len (a b : List Int) (n k : Nat) (hn : n < a.length) : (quoMid a b n k).length = a.length := by
  unfold quoMid
  simp [quoL_len]
  omega

theorem quoMid_at (a b : List Int) (n k : Nat) : (quoMid a b n k).getD n 0 = quoIn a b (quoL a b n) n k := by
  unfold quoMid
  simp only [List.getD]
  rw [List.getElem?_append_right (by rw [quoL_len]; exact Nat.le_refl _), quoL_len]
  simp

theorem quoMid_low (a b : List Int) (n k j : Nat) (hj : j < n) : (quoMid a b n k).getD j 0 = (quoL a b n).getD j 0 := by
  unfold quoMid
  simp only [List.getD]
  rw [List.getElem?_append_left (by rw [quoL_len]; exact hj)]

theorem quoMid_set (a b : List Int) (n k : Nat) : (quoMid a b n k).set n (wrap64 (quoIn a b (quoL a b n) n k - wrap64 (b.getD (k + 1) 0 * (quoL a b n).getD (n - (k + 1)) 0))) = quoMid a b n (k + 1) := by
  unfold quoMid
  rw [List.set_append, quoL_len]
  simp only [Nat.lt_irrefl, if_false, Nat.sub_self, List.set_cons_zero]
  rfl

set_option maxHeartbeats 1000000 in
theorem impl_quotient (A1 : Option Addr) (n c1 : Nat) (xs : List Int) (A2 : Option Addr) (c2 : Nat) (ys : List Int) (w : World) (h1 : RI w A1 n xs) (h2 : RI w A2 n ys) (hn : n ≤ 1000) :
    Calls Try.prog 98 #[.slice A1 n c1, .slice A2 n c2] w fun e w' => ∃ A l c, e = .returned (.slice A l c) ∧ OwnI w' w.heap.size A l c (quoL xs ys n) ∧ Below w.heap.size w w' := by
  have hl1 := h1.len
  have H2 := Lib.hid h2
  have C1 := Lib.hid (impl_copy A1 n c1 xs w h1 (by omega))
  have HR1 := Lib.hid h1
  clear h1 h2
  go_enter Try.func98, Try.ntmps98
  go_wp2_with fail
  refine C1.out.mono ?_
  rintro e w1 ⟨A, c, rfl, ho, hb⟩
  have HO := Lib.hid (show OwnI w1 w.heap.size A n c (quoL xs ys 0 ++ xs.drop 0) by simpa [quoL] using ho)
  have HB := Lib.hid hb
  clear ho hb
  go_wp2
  go_loopw [12] (fun iv wr => ∃ i : Nat, i ≤ n ∧ iv = .int .i64 (i : Int) ∧ OwnI wr w.heap.size A n c (quoL xs ys i ++ xs.drop i) ∧ Below w.heap.size w wr) (fun iv _ => n - (intOf iv).toNat)
  case atStart => exact ⟨0, by omega, rfl, HO.out, HB.out⟩
  case round =>
    obtain ⟨i, hin, rfl, ho, hb⟩ := hrel
    clear HO HB
    by_cases hlt : i < n
    · rw [quoMid_start xs ys i (by omega)] at ho
      have HO := Lib.hid ho
      have HB := Lib.hid hb
      clear ho hb
      obtain ⟨wo, rfl⟩ : ∃ wo : World, wo = wr := ⟨_, rfl⟩
      have hlt1 : (i : Int) < (n : Int) := by omega
      obtain ⟨g, rfl, hgB, _⟩ := HO.out.form (by omega)
      go_wp2
      go_loopw [7] (fun kv wr => ∃ k : Nat, k ≤ i ∧ kv = .int .i64 ((k : Int) + 1) ∧ OwnI wr w.heap.size (some ⟨g, 0, none⟩) n c (quoMid xs ys i k) ∧ Below w.heap.size w wr) (fun kv _ => i + 1 - (intOf kv).toNat)
      case atStart => exact ⟨0, by omega, rfl, HO.out, HB.out⟩
      case round =>
        obtain ⟨k, hki, rfl, ho, hb⟩ := hrel
        clear HO HB
        by_cases hltk : k < i
        · have hc1 := ho.cell (i := i) hlt
          have hc2 := ho.cell (i := i - (k + 1)) (by omega)
          rw [quoMid_at] at hc1
          rw [quoMid_low xs ys i k (i - (k + 1)) (by omega)] at hc2
          obtain ⟨b, off, hA2, hbl, hcp0⟩ := H2.out.at_ (i := k + 1) (by omega)
          subst hA2
          have hcp := (hb.cell (p := ⟨b, off + (k + 1), none⟩) hbl).trans hcp0
          have hf := ho.frozen i
          have b1 : (0 : Int) ≤ (i : Int) - ((k : Int) + 1) := by omega
          have b2 : (i : Int) - ((k : Int) + 1) < (n : Int) := by omega
          have b3 : (k : Int) + 1 < (n : Int) := by omega
          have b4 : (k : Int) + 1 ≤ (i : Int) := by omega
          have hset := ho.set i (I64.wrap64 (quoIn xs ys (quoL xs ys i) i k - wrap64 (ys.getD (k + 1) 0 * (quoL xs ys i).getD (i - (k + 1)) 0)))
          rw [quoMid_set] at hset
          have HS := Lib.hid hset
          have HBS := Lib.hid (hb.setCell (p := ⟨g, i, none⟩) hgB (.int .i64 (wrap64 (quoIn xs ys (quoL xs ys i) i k - wrap64 (ys.getD (k + 1) 0 * (quoL xs ys i).getD (i - (k + 1)) 0)))))
          clear ho hb hset hcp0 hbl
          generalize quoIn xs ys (quoL xs ys i) i k = q1 at *
          generalize (quoL xs ys i).getD (i - (k + 1)) 0 = q2 at *
          generalize ys.getD (k + 1) 0 = q3 at *
          go_wp2
          go_region
          all_goals go_wp2
          go_roundw
          case rel => exact ⟨k + 1, by omega, by go_num, HS.out.drew, HBS.out.drew⟩
          case measure => simp [intOf]; omega
        · obtain rfl : k = i := by omega
          rw [quoMid_done] at ho
          have HO := Lib.hid ho
          have HB := Lib.hid hb
          clear ho hb
          have b4 : ¬ (k : Int) + 1 ≤ (k : Int) := by omega
          go_wp2
          go_roundw
          case rel => exact ⟨k + 1, by omega, by go_num, HO.out, HB.out⟩
          case measure => simp [intOf]; omega
    · obtain rfl : i = n := by omega
      rw [List.drop_of_length_le (by omega), List.append_nil] at ho
      have HO := Lib.hid ho
      have HB := Lib.hid hb
      clear ho hb
      go_wp2
      go_ret
      exact ⟨_, _, _, rfl, HO.out, HB.out⟩

set_option maxHeartbeats 1000000 in
theorem spec_l07Divide (A1 : Option Addr) (n c1 : Nat) (xs : List Int) (A2 : Option Addr) (c2 : Nat) (ys : List Int) (w : World) (h1 : RI w A1 n xs) (h2 : RI w A2 n ys) (hn : n ≤ 1000) :
    Calls Try.prog 96 #[.slice A1 n c1, .slice A2 n c2] w fun e w' => ∃ A l c, e = .returned (.slice A l c) ∧ OwnI w' w.heap.size A l c (quoL xs ys n) ∧ Below w.heap.size w w' := by
  have hl1 := h1.len
  have H1 := Lib.hid h1
  have H2 := Lib.hid h2
  have HE := Lib.hid (empty_own w)
  have HBE := Lib.hid (show Below w.heap.size w (w.alloc (.cells #[] 2)) from (Below.refl _ _).alloc (Nat.le_refl _) _)
  clear h1 h2
  go_enter Try.func96, Try.ntmps96
  go_wp2
  go_loopw [5, 6] (fun ov iv wr => ∃ (i : Nat) (A : Option Addr) (c : Nat), i ≤ n ∧ ov = .slice A i c ∧ iv = .int .i64 (i : Int) ∧ OwnI wr w.heap.size A i c (quoL xs ys i) ∧ Below w.heap.size w wr) (fun _ iv _ => n - (intOf iv).toNat)
  case atStart => exact ⟨0, _, _, by omega, rfl, rfl, HE.out, HBE.out⟩
  case round =>
    obtain ⟨i, A, c, hin, rfl, rfl, ho, hb⟩ := hrel
    clear HE HBE
    have HO := Lib.hid ho
    have HB := Lib.hid hb
    clear ho hb
    by_cases hlt : i < n
    · obtain ⟨b1, off1, hA1, hbl1, hcx0⟩ := H1.out.at_ hlt
      subst hA1
      have hcx := (HB.out.cell (p := ⟨b1, off1 + i, none⟩) hbl1).trans hcx0
      have hlt1 : (i : Int) < (n : Int) := by omega
      have hxI := H1.out.el hlt
      have HQ := Lib.hid (fun k => quoIn_I64 (b := ys) (q := quoL xs ys i) k hxI)
      clear hcx0 hbl1 hxI
      have hq0 : xs.getD i 0 = quoIn xs ys (quoL xs ys i) i 0 := rfl
      rw [hq0] at hcx
      clear hq0
      generalize hqq : quoIn xs ys (quoL xs ys i) i = Q at *
      obtain ⟨wo, rfl⟩ : ∃ wo : World, wo = wr := ⟨_, rfl⟩
      go_wp2
      clear hcx
      go_loopw [7, 8] (fun vv kv wr => ∃ (k : Nat), k ≤ i ∧ vv = .int .i64 (Q k) ∧ kv = .int .i64 ((k : Int) + 1) ∧ ∃ q, wr = wo.drewN q) (fun _ kv _ => i + 1 - (intOf kv).toNat)
      case atStart => exact ⟨0, by omega, rfl, rfl, 0, rfl⟩
      case round =>
        obtain ⟨k, hki, rfl, rfl, q, rfl⟩ := hrel
        by_cases hltk : k < i
        · obtain ⟨g, rfl, hgB, _⟩ := HO.out.form (by omega)
          have hc2 := HO.out.cell (i := i - (k + 1)) (by omega)
          obtain ⟨b, off, hA2, hbl, hcp0⟩ := H2.out.at_ (i := k + 1) (by omega)
          subst hA2
          have hcp := (HB.out.cell (p := ⟨b, off + (k + 1), none⟩) hbl).trans hcp0
          have d1 : (0 : Int) ≤ (i : Int) - ((k : Int) + 1) := by omega
          have d2 : (i : Int) - ((k : Int) + 1) < (i : Int) := by omega
          have d3 : (k : Int) + 1 < (n : Int) := by omega
          have d4 : (k : Int) + 1 ≤ (i : Int) := by omega
          have d5 : (0 : Int) ≤ (k : Int) + 1 := by omega
          have hQ : Q (k + 1) = wrap64 (Q k - wrap64 (ys.getD (k + 1) 0 * (quoL xs ys i).getD (i - (k + 1)) 0)) := by rw [← hqq]; rfl
          have HQS := Lib.hid hQ
          clear hQ hcp0 hbl hgB
          generalize hq1 : Q k = q1 at *
          generalize (quoL xs ys i).getD (i - (k + 1)) 0 = q2 at *
          generalize ys.getD (k + 1) 0 = q3 at *
          clear hq1 hqq
          go_wp2_with fail
          go_quiet (fail)
          go_wp2
          go_roundw
          case rel => exact ⟨k + 1, by omega, by rw [HQS.out, ← IntWalk.i64_left, ← IntWalk.i64_left], by go_num, _, rfl⟩
          case measure => simp [intOf]; omega
        · obtain rfl : k = i := by omega
          have d4 : ¬ (k : Int) + 1 ≤ (k : Int) := by omega
          have HO2 := Lib.hid (HO.out.drewN q)
          have HB2 := Lib.hid (below_drewN HB.out q)
          have HSN := Lib.hid (show quoL xs ys k ++ [Q k] = quoL xs ys (k + 1) by rw [← hqq]; rfl)
          have hqi := HQ.out k
          clear hqq
          generalize hW : wo.drewN q = W at *
          have hsz := HB2.out.size
          clear hW
          go_wp2_with (at_builtin; refine app1 (.tmp 38) (.tmp 40) w.heap.size A k c (quoL xs ys k) (Q k) W rfl rfl rfl rfl HO2.out hqi (by omega) hsz ?_; intro g5 c5 w5 ho5 hg5)
          rw [HSN.out] at ho5
          have HO5 := Lib.hid ho5
          have HB5 := Lib.hid (HB2.out.grown hg5 HB2.out.size (fun k hk => HO2.out.row_ge hk))
          clear ho5 hg5
          go_wp2
          go_roundw
          case rel => exact ⟨k + 1, _, _, by omega, rfl, by go_num, HO5.out, HB5.out⟩
          case measure => simp [intOf]; omega
    · obtain rfl : i = n := by omega
      have HO5 := HO
      go_wp2
      go_ret
      exact ⟨_, _, _, rfl, HO.out, HB.out⟩

/-- the code of a profile and a degree, closed besides -/
def quoC (xs : List Int) (d : Int) : Int := if degC xs d = 0 then (if closedB xs = true then 0 else 5) else degC xs d

def pQuotientSeries (xs : List Int) (d : Int) : List Int × Int := if quoC xs d = 0 then (quoL (cntAll d.toNat) (serL xs d.toNat) (d.toNat + 1), 0) else ([], quoC xs d)

theorem pQuotientSeries_len (xs : List Int) (_h : xs.length ≤ 1048576) (d : Int) : (pQuotientSeries xs d).1.length ≤ 1048576 := by
  by_cases h : quoC xs d = 0
  · have hd : degC xs d = 0 := by
      unfold quoC at h
      split at h
      · assumption
      · assumption
    have hi : inB d 0 200 = true := by
      unfold degC at hd
      split at hd
      · split at hd
        · assumption
        · omega
      · omega
    have hb := inB_true hi
    unfold pQuotientSeries
    rw [if_pos h]
    show (quoL _ _ _).length ≤ _
    rw [quoL_len]
    omega
  · unfold pQuotientSeries
    rw [if_neg h]
    simp

theorem quoC_zero {xs d} (h : degC xs d = 0) (hc : closedB xs = true) : quoC xs d = 0 := by unfold quoC; rw [if_pos h, if_pos hc]

theorem quoC_open {xs d} (h : degC xs d = 0) (hc : closedB xs = false) : quoC xs d = 5 := by unfold quoC; rw [if_pos h, if_neg (by rw [hc]; simp)]

theorem quoC_bad {xs d} (h : degC xs d ≠ 0) : quoC xs d = degC xs d := by unfold quoC; rw [if_neg h]

theorem pQ_pos {xs d} (h : quoC xs d = 0) : pQuotientSeries xs d = (quoL (cntAll d.toNat) (serL xs d.toNat) (d.toNat + 1), 0) := by unfold pQuotientSeries; rw [if_pos h]

theorem pQ_neg {xs d} (h : quoC xs d ≠ 0) : pQuotientSeries xs d = ([], quoC xs d) := by unfold pQuotientSeries; rw [if_neg h]

theorem degC_cases (xs : List Int) (d : Int) : (pIsProfile xs = true ∧ inB d 0 200 = true ∧ degC xs d = 0) ∨ degC xs d = 1 ∨ degC xs d = 2 := by
  cases hp : pIsProfile xs with
  | false => exact .inr (.inl (degC_bad hp))
  | true =>
    cases hb : inB d 0 200 with
    | false => exact .inr (.inr (degC_range hp hb))
    | true => exact .inl ⟨rfl, rfl, degC_zero hp hb⟩

set_option maxHeartbeats 400000 in
theorem spec_QuotientSeries (A : Option Addr) (n c : Nat) (xs : List Int) (d : Int) (w : World) (h : RI w A n xs) (hn : n ≤ 1048576) (hw : I64 d) :
    Calls Try.prog 48 #[.slice A n c, .int .i64 d] w fun e w' => ∃ A l c, e = .returned (.tuple #[.slice A l c, .int .i64 (pQuotientSeries xs d).2]) ∧ OwnI w' w.heap.size A l c (pQuotientSeries xs d).1 ∧ Below w.heap.size w w' := by
  have C1 := Lib.hid (spec_l07Degrees A n c xs d w h)
  clear hw
  rcases degC_cases xs d with ⟨hp, hb, hz⟩ | hz
  · have hpt := pIsProfile_true hp
    have hl := h.len
    obtain ⟨m, rfl⟩ := Int.eq_ofNat_of_zero_le (inB_true hb).1
    have hm : m ≤ 200 := by have := (inB_true hb).2; omega
    have C2 := Lib.hid (spec_l07Closed A n c xs w h hpt.2 (by omega))
    rw [hz] at C1
    cases hc : closedB xs with
    | true =>
      rw [pQ_pos (quoC_zero hz hc), Int.toNat_natCast]
      rw [hc] at C2
      have C3 := Lib.hid (fun w => spec_count m w (by omega))
      have C4 := Lib.hid (fun w1 (hb : Below w.heap.size w w1) => spec_l07Series A n c xs m w1 (h.below hb) (by omega) hpt.2 hm)
      clear hz hc hpt hl hp hb h
      go_enter Try.func48, Try.ntmps48
      go_wp2_with fail
      refine C1.out.mono ?_
      rintro e w1 ⟨rfl, rfl⟩
      go_wp2_with fail
      refine C2.out.mono ?_
      rintro e w1 ⟨rfl, rfl⟩
      go_wp2_with fail
      refine (C3.out _).mono ?_
      rintro e w1 ⟨g1, rfl, ho1, hb1⟩
      have HO1 := Lib.hid ho1
      have HB1 := Lib.hid hb1
      clear ho1 hb1
      go_wp2_with fail
      refine (C4.out _ HB1.out).mono ?_
      rintro e w2 ⟨g2, rfl, ho2, hb2⟩
      have HO1' := Lib.hid (HO1.out.below hb2)
      have HB2 := Lib.hid (below_up HB1.out hb2 HB1.out.size)
      have HO2 := Lib.hid ho2
      clear ho2 hb2
      go_wp2_with fail
      refine (spec_l07Divide _ _ _ _ _ _ _ _ HO1'.out.reads HO2.out.reads (by omega)).mono ?_
      rintro e w3 ⟨A3, l3, c3, rfl, ho3, hb3⟩
      have HO3 := Lib.hid (ho3.mono HB2.out.size)
      have HB3 := Lib.hid (below_up HB2.out hb3 HB2.out.size)
      clear ho3 hb3
      go_wp2
      go_ret2
      exact ⟨_, _, _, rfl, HO3.out, HB3.out⟩
    | false =>
      rw [pQ_neg (by rw [quoC_open hz hc]; omega), quoC_open hz hc]
      rw [hc] at C2
      clear hz hc hpt hl hp hb h
      go_enter Try.func48, Try.ntmps48
      go_wp2_with fail
      refine C1.out.mono ?_
      rintro e w1 ⟨rfl, rfl⟩
      go_wp2_with fail
      refine C2.out.mono ?_
      rintro e w1 ⟨rfl, rfl⟩
      go_wp2
      go_ret2
      exact ⟨_, _, _, rfl, OwnI.nil _ _, Below.refl _ _⟩
  · rw [pQ_neg (by rw [quoC_bad (by omega)]; omega), quoC_bad (by omega)]
    clear h
    generalize degC xs d = z at *
    go_enter Try.func48, Try.ntmps48
    go_wp2_with fail
    refine C1.out.mono ?_
    rintro e w1 ⟨rfl, rfl⟩
    rcases hz with rfl | rfl
    · go_wp2
      go_ret2
      exact ⟨_, _, _, rfl, OwnI.nil _ _, Below.refl _ _⟩
    · go_wp2
      go_ret2
      exact ⟨_, _, _, rfl, OwnI.nil _ _, Below.refl _ _⟩

set_option maxHeartbeats 400000 in
theorem impl_QuotientSeries (A : Option Addr) (n c : Nat) (xs : List Int) (d : Int) (w : World) (h : RI w A n xs) (hn : n ≤ 1048576) (hw : I64 d) :
    Calls Try.prog 49 #[.slice A n c, .int .i64 d] w fun e w' => ∃ A l c, e = .returned (.tuple #[.slice A l c, .int .i64 (pQuotientSeries xs d).2]) ∧ OwnI w' w.heap.size A l c (pQuotientSeries xs d).1 ∧ Below w.heap.size w w' := by
  have C1 := Lib.hid (impl_IsProfile A n c xs w h hn)
  clear hw
  cases hp : pIsProfile xs with
  | false =>
    have hz := degC_bad (d := d) hp
    rw [pQ_neg (by rw [quoC_bad (by omega)]; omega), quoC_bad (by omega), hz]
    rw [hp] at C1
    clear hp hz h
    go_enter Try.func49, Try.ntmps49
    go_wp2_with fail
    refine C1.out.mono ?_
    rintro e w1 ⟨rfl, hb1⟩
    have HB1 := Lib.hid hb1
    clear hb1
    go_wp2
    go_ret2
    exact ⟨_, _, _, rfl, OwnI.nil _ _, HB1.out⟩
  | true =>
    rw [hp] at C1
    cases hb : inB d 0 200 with
    | false =>
      have hz := degC_range hp hb
      rw [pQ_neg (by rw [quoC_bad (by omega)]; omega), quoC_bad (by omega), hz]
      have HD := Lib.hid hb
      clear hp hb hz h
      go_enter Try.func49, Try.ntmps49
      go_wp2_with fail
      refine C1.out.mono ?_
      rintro e w1 ⟨rfl, hb1⟩
      have HB1 := Lib.hid hb1
      clear hb1
      go_wp2_with fail
      refine (in_any _ _ _ _).mono ?_
      rintro e w2 ⟨rfl, rfl⟩
      rw [HD.out]
      go_wp2
      go_ret2
      exact ⟨_, _, _, rfl, OwnI.nil _ _, HB1.out⟩
    | true =>
      have hz := degC_zero hp hb
      have hpt := pIsProfile_true hp
      have hl := h.len
      obtain ⟨m, rfl⟩ := Int.eq_ofNat_of_zero_le (inB_true hb).1
      have hm : m ≤ 200 := by have := (inB_true hb).2; omega
      have HD := Lib.hid hb
      have C2 := Lib.hid (fun w1 (hb : Below w.heap.size w w1) => impl_isClosed A n c xs w1 (h.below hb) hpt.2 (by omega))
      cases hc : closedB xs with
      | true =>
        rw [pQ_pos (quoC_zero hz hc), Int.toNat_natCast]
        rw [hc] at C2
        have C3 := Lib.hid (fun w => impl_count m w (by omega))
        have C4 := Lib.hid (fun w1 (hb : Below w.heap.size w w1) => impl_seriesOf A n c xs m w1 (h.below hb) (by omega) hpt.2 hm)
        clear hz hc hpt hl hp hb h
        go_enter Try.func49, Try.ntmps49
        go_wp2_with fail
        refine C1.out.mono ?_
        rintro e w1 ⟨rfl, hb1⟩
        have HB0 := Lib.hid hb1
        clear hb1
        go_wp2_with fail
        refine (in_any _ _ _ _).mono ?_
        rintro e w2 ⟨rfl, rfl⟩
        rw [HD.out]
        go_wp2_with fail
        refine (C2.out _ HB0.out).mono ?_
        rintro e w1 ⟨rfl, rfl⟩
        go_wp2_with fail
        refine (C3.out _).mono ?_
        rintro e w3 ⟨g1, rfl, ho1, hb1⟩
        have HO1 := Lib.hid (ho1.mono HB0.out.size)
        have HB1 := Lib.hid (below_up HB0.out hb1 HB0.out.size)
        clear ho1 hb1
        go_wp2_with fail
        refine (C4.out _ HB1.out).mono ?_
        rintro e w4 ⟨g2, rfl, ho2, hb2⟩
        have HO1' := Lib.hid (HO1.out.below hb2)
        have HB2 := Lib.hid (below_up HB1.out hb2 HB1.out.size)
        have HO2 := Lib.hid ho2
        clear ho2 hb2
        go_wp2_with fail
        refine (impl_quotient _ _ _ _ _ _ _ _ HO1'.out.reads HO2.out.reads (by omega)).mono ?_
        rintro e w5 ⟨A3, l3, c3, rfl, ho3, hb3⟩
        have HO3 := Lib.hid (ho3.mono HB2.out.size)
        have HB3 := Lib.hid (below_up HB2.out hb3 HB2.out.size)
        clear ho3 hb3
        go_wp2
        go_ret2
        exact ⟨_, _, _, rfl, HO3.out, HB3.out⟩
      | false =>
        rw [pQ_neg (by rw [quoC_open hz hc]; omega), quoC_open hz hc]
        rw [hc] at C2
        clear hz hc hpt hl hp hb h
        go_enter Try.func49, Try.ntmps49
        go_wp2_with fail
        refine C1.out.mono ?_
        rintro e w1 ⟨rfl, hb1⟩
        have HB0 := Lib.hid hb1
        clear hb1
        go_wp2_with fail
        refine (in_any _ _ _ _).mono ?_
        rintro e w2 ⟨rfl, rfl⟩
        rw [HD.out]
        go_wp2_with fail
        refine (C2.out _ HB0.out).mono ?_
        rintro e w1 ⟨rfl, rfl⟩
        go_wp2
        go_ret2
        exact ⟨_, _, _, rfl, OwnI.nil _ _, HB0.out⟩

end Go.Proofs.Ytiajkfgicpidkaa
