/- ExcessOfMilnor of the program and of the reference. -/
import Derived.Test.YtindhmgfadipnaaDegM
namespace Go.Proofs.Ytindhmgfadipnaa
open Go.ChangeShapes Go.WideShapes Go.ChangeAt Go.RowKit
set_option linter.unusedVariables false

def minW (s : Int) : List (List Int) → Int
  | [] => s
  | x :: r => minW (min s (sumW 0 x)) r

def pExcessOfMilnor (xss : List (List Int)) : Int × Int :=
  if pIsMilnor xss = true then (if xss.length = 0 then (0, 5) else (minW (sumW 0 (xss.getD 0 [])) xss, 0)) else (0, 1)

theorem sum_le_deg (xs : List Int) : ∀ (s t : Int) (i : Nat), i + xs.length ≤ 10 → (∀ x ∈ xs, 0 ≤ x ∧ x ≤ 1000000000000) → 0 ≤ s → s ≤ t → t ≤ (i : Int) * 2047000000000000 → sumW s xs ≤ degW t i xs := by
  induction xs with
  | nil => intro s t i _ _ _ h _; exact h
  | cons x xs ih =>
    intro s t i h1 hx h0 h2 h3
    simp only [List.length_cons] at h1
    have hx0 := hx x (List.mem_cons_self ..)
    have hP2 := pow_le (i + 1) 11 (by omega)
    have hP1 : 2 ≤ 2 ^ (i + 1) := by have := Nat.one_le_two_pow (n := i); rw [Nat.pow_succ]; omega
    rw [show (2 : Nat) ^ 11 = 2048 by decide] at hP2
    rw [degW, sumW]
    generalize (2 : Nat) ^ (i + 1) = P at *
    have m1 : x * 1 ≤ x * ((P : Int) - 1) := Int.mul_le_mul_of_nonneg_left (by omega) hx0.1
    have m2 : x * ((P : Int) - 1) ≤ 1000000000000 * 2047 := Int.mul_le_mul hx0.2 (by omega) (by omega) (by omega)
    generalize x * ((P : Int) - 1) = m at *
    rw [wrap64_id (x := m) (by omega) (by omega), wrap64_id (x := t + m) (by omega) (by omega), wrap64_id (x := s + x) (by omega) (by omega)]
    exact ih (s + x) (t + m) (i + 1) (by omega) (fun y hy => hx y (List.mem_cons_of_mem _ hy)) (by omega) (by omega) (by omega)

theorem sum_le40 {x : List Int} (h : termB x = true) : sumW 0 x ≤ 40 := by
  have h1 := termB_true h
  have := sum_le_deg x 0 0 0 (by omega) h1.2.1 (by omega) (by omega) (by omega)
  omega

theorem minW_step (s : Int) (xss : List (List Int)) (k : Nat) (h : k < xss.length) : minW s (xss.drop k) = minW (min s (sumW 0 (xss.getD k []))) (xss.drop (k + 1)) := by
  rw [dropS xss k h]; rfl

theorem minW_end (s : Int) (xss : List (List Int)) (k : Nat) (h : xss.length ≤ k) : minW s (xss.drop k) = s := by
  rw [List.drop_eq_nil_of_le h]; rfl

theorem minW_40 (xss : List (List Int)) (h : 0 < xss.length) (hx : sumW 0 (xss.getD 0 []) ≤ 40) : minW 40 xss = minW (sumW 0 (xss.getD 0 [])) xss := by
  have h1 := minW_step 40 xss 0 h
  have h2 := minW_step (sumW 0 (xss.getD 0 [])) xss 0 h
  rw [List.drop_zero] at h1 h2
  rw [h1, h2]
  congr 1
  omega

set_option maxHeartbeats 800000 in
theorem impl_ExcessOfMilnor {A n c vs xss w} (h : RS w A n vs xss) (hn : n + tot xss ≤ 1048576) :
    Calls Try.prog 67 #[.agg #[.slice A n c]] w fun e w' => e = .returned (.tuple #[.int .i64 (pExcessOfMilnor xss).1, .int .i64 (pExcessOfMilnor xss).2]) ∧ Below w.heap.size w w' := by
  have hl := h.len
  have hs := h.small
  have hb0 := box_below w (.cells #[.slice A n c] 24)
  have hbk := Blk.new w #[.slice A n c] 24
  have CON := Lib.hid (impl_IsMilnor (c := c) (h.below hb0) hn)
  have H := Lib.hid (h.below hb0)
  have HBK := Lib.hid hbk
  have HB0 := Lib.hid hb0
  have c0 := hbk.cell 0 rfl
  clear h hn hb0 hbk
  cases hp : pIsMilnor xss with
  | false =>
    have HF := Lib.hid (show pExcessOfMilnor xss = (0, 1) by unfold pExcessOfMilnor; rw [hp]; rfl)
    rw [hp] at CON
    clear hp hl
    go_enter Try.func67, Try.ntmps67
    go_wp2_with fail
    refine CON.out.mono ?_
    rintro e w1 ⟨rfl, hb⟩
    have HB := Lib.hid (HB0.out.trans (hb.mono HB0.out.size))
    clear hb
    go_wp2
    go_ret2
    exact ⟨by first | (rw [HF.out]; rfl) | rw [HF.out], HB.out⟩
  | true =>
    rw [hp] at CON
    by_cases h0 : n = 0
    · have HF := Lib.hid (show pExcessOfMilnor xss = (0, 5) by unfold pExcessOfMilnor; rw [if_pos hp, if_pos (by omega)])
      subst h0
      clear hp hl
      go_enter Try.func67, Try.ntmps67
      go_wp2_with fail
      refine CON.out.mono ?_
      rintro e w1 ⟨rfl, hb⟩
      have HB := Lib.hid (HB0.out.trans (hb.mono HB0.out.size))
      have HBK1 := Lib.hid (HBK.out.below hb)
      clear hb c0
      have c0 := HBK1.out.cell 0 rfl
      go_wp2
      go_ret2
      exact ⟨by first | (rw [HF.out]; rfl) | rw [HF.out], HB.out⟩
    · have HF := Lib.hid (show pExcessOfMilnor xss = (minW (sumW 0 (xss.getD 0 [])) xss, 0) by unfold pExcessOfMilnor; rw [if_pos hp, if_neg (by omega)])
      have hne : ((n : Int) == 0) = false := by rw [beq_eq_false_iff_ne]; omega
      have hn0 : (0 : Int) < (n : Int) := by omega
      have HL := Lib.hid hl
      clear hp hl
      obtain ⟨b, off, rfl, hbl, hc⟩ := H.out.at_ (i := 0) (by omega)
      have hr := H.out.row (i := 0) (by omega)
      have HV := Lib.hid (show sv (vs.getD 0 nilS) = .slice (vs.getD 0 nilS).1 (vs.getD 0 nilS).2.1 (vs.getD 0 nilS).2.2 from rfl)
      rw [HV.out, Nat.add_zero] at hc
      generalize (vs.getD 0 nilS).1 = vA at *
      generalize (vs.getD 0 nilS).2.1 = vn at *
      generalize (vs.getD 0 nilS).2.2 = vc at *
      have CD := Lib.hid (fun w1 hb => impl_sum vA vn vc (xss.getD 0 []) w1 (hr.below hb))
      have HC := Lib.hid hc
      clear hr hc HV
      generalize hse : sumW 0 (xss.getD 0 []) = s0 at *
      go_enter Try.func67, Try.ntmps67
      go_wp2_with fail
      refine CON.out.mono ?_
      rintro e w1 ⟨rfl, hb⟩
      have HB := Lib.hid (HB0.out.trans (hb.mono HB0.out.size))
      have HB1 := Lib.hid hb
      have HBK1 := Lib.hid (HBK.out.below hb)
      have H1 := Lib.hid (H.out.below hb)
      have hc1 := (hb.cell (p := ⟨b, off, none⟩) hbl).trans HC.out
      clear hb c0
      have c0 := HBK1.out.cell 0 rfl
      go_wp2_with fail
      refine (CD.out _ HB1.out).mono ?_
      rintro e w2 ⟨rfl, rfl⟩
      clear hse
      go_wp2
      clear hc1
      go_loopw [4, 24] (fun sv iv wr => ∃ (k : Nat) (s : Int), k ≤ n ∧ iv = .int .i64 (k : Int) ∧ sv = .int .i64 s ∧ minW s (xss.drop k) = minW s0 xss ∧ wr = w1) (fun _ iv _ => n - (intOf iv).toNat)
      case atStart => exact ⟨0, s0, by omega, rfl, rfl, rfl, rfl⟩
      case round =>
        obtain ⟨k, s, hk, rfl, rfl, ht, rfl⟩ := hrel
        by_cases hlt : k < n
        · obtain ⟨b3, off3, hA3, _, hc3⟩ := H1.out.at_ hlt
          obtain ⟨rfl, rfl⟩ : b = b3 ∧ off = off3 := by simpa using hA3
          have hr3 := H1.out.row hlt
          rw [minW_step s xss k (by have := HL.out; omega)] at ht
          generalize xss.getD k [] = x at *
          generalize vs.getD k nilS = u at *
          obtain ⟨uA, un, uc⟩ := u
          simp only [sv] at hc3
          simp only at hr3
          have CU := Lib.hid (impl_sum uA un uc x wr hr3)
          generalize sumW 0 x = t at *
          have HT := Lib.hid ht
          clear ht hr3 hA3
          by_cases hst : s ≤ t
          · have em : min s t = s := by omega
            rw [em] at HT
            go_wp2_with fail
            refine CU.out.mono ?_
            rintro e w3 ⟨rfl, rfl⟩
            go_wp2
            go_roundw
            case rel => exact ⟨k + 1, s, by omega, by go_num, by first | rfl | (simp; done) | (simp; omega), HT.out, by first | rfl | trivial⟩
            case measure => simp [intOf]; omega
          · have em : min s t = t := by omega
            rw [em] at HT
            go_wp2_with fail
            refine CU.out.mono ?_
            rintro e w3 ⟨rfl, rfl⟩
            go_wp2
            go_roundw
            case rel => exact ⟨k + 1, t, by omega, by go_num, by first | rfl | (simp; done) | (simp; omega), HT.out, by first | rfl | trivial⟩
            case measure => simp [intOf]; omega
        · obtain rfl : k = n := by omega
          rw [minW_end s xss k (by have := HL.out; omega)] at ht
          rw [← ht] at HF
          clear ht
          go_wp2
          go_ret2
          exact ⟨by first | (rw [HF.out]; rfl) | rw [HF.out], HB.out⟩

set_option maxHeartbeats 800000 in
theorem spec_ExcessOfMilnor {A n c vs xss w} (h : RS w A n vs xss) (hn : n + tot xss ≤ 1048576) :
    Calls Try.prog 66 #[.agg #[.slice A n c]] w fun e w' => e = .returned (.tuple #[.int .i64 (pExcessOfMilnor xss).1, .int .i64 (pExcessOfMilnor xss).2]) ∧ Below w.heap.size w w' := by
  have hl := h.len
  have hs := h.small
  have hb0 := box_below w (.cells #[.slice A n c] 24)
  have hbk := Blk.new w #[.slice A n c] 24
  have CON := Lib.hid (spec_l04Is (c := c) (h.below hb0))
  have H := Lib.hid (h.below hb0)
  have HBK := Lib.hid hbk
  have HB0 := Lib.hid hb0
  have c0 := hbk.cell 0 rfl
  clear h hn hb0 hbk
  cases hp : pIsMilnor xss with
  | false =>
    have HF := Lib.hid (show pExcessOfMilnor xss = (0, 1) by unfold pExcessOfMilnor; rw [hp]; rfl)
    rw [hp] at CON
    clear hp hl
    go_enter Try.func66, Try.ntmps66
    go_wp2_with fail
    refine CON.out.mono ?_
    rintro e w1 ⟨rfl, hb⟩
    have HB := Lib.hid (HB0.out.trans (hb.mono HB0.out.size))
    clear hb
    go_wp2
    go_ret2
    exact ⟨by first | (rw [HF.out]; rfl) | rw [HF.out], HB.out⟩
  | true =>
    rw [hp] at CON
    by_cases h0 : n = 0
    · have HF := Lib.hid (show pExcessOfMilnor xss = (0, 5) by unfold pExcessOfMilnor; rw [if_pos hp, if_pos (by omega)])
      subst h0
      clear hp hl
      go_enter Try.func66, Try.ntmps66
      go_wp2_with fail
      refine CON.out.mono ?_
      rintro e w1 ⟨rfl, hb⟩
      have HB := Lib.hid (HB0.out.trans (hb.mono HB0.out.size))
      have HBK1 := Lib.hid (HBK.out.below hb)
      clear hb c0
      have c0 := HBK1.out.cell 0 rfl
      go_wp2
      go_ret2
      exact ⟨by first | (rw [HF.out]; rfl) | rw [HF.out], HB.out⟩
    · have hpt := pIsMilnor_true hp
      have HF := Lib.hid (show pExcessOfMilnor xss = (minW 40 xss, 0) by unfold pExcessOfMilnor; rw [if_pos hp, if_neg (by omega), minW_40 xss (by omega) (sum_le40 (hpt.2.1 _ (getD_memS xss 0 (by omega))))])
      have hne : ((n : Int) == 0) = false := by rw [beq_eq_false_iff_ne]; omega
      have HL := Lib.hid hl
      clear hp hl hpt
      go_enter Try.func66, Try.ntmps66
      go_wp2_with fail
      refine CON.out.mono ?_
      rintro e w1 ⟨rfl, hb⟩
      have HB := Lib.hid (HB0.out.trans (hb.mono HB0.out.size))
      have HBK1 := Lib.hid (HBK.out.below hb)
      have H1 := Lib.hid (H.out.below hb)
      clear hb c0
      have c0 := HBK1.out.cell 0 rfl
      go_wp2
      go_loopw [4, 5] (fun sv iv wr => ∃ (k : Nat) (s : Int), k ≤ n ∧ iv = .int .i64 (k : Int) ∧ sv = .int .i64 s ∧ minW s (xss.drop k) = minW 40 xss ∧ wr = w1) (fun _ iv _ => n - (intOf iv).toNat)
      case atStart => exact ⟨0, 40, by omega, rfl, rfl, rfl, rfl⟩
      case round =>
        obtain ⟨k, s, hk, rfl, rfl, ht, rfl⟩ := hrel
        by_cases hlt : k < n
        · have hlt' : (k : Int) < (n : Int) := by omega
          obtain ⟨b, off, rfl, _, hc⟩ := H1.out.at_ hlt
          have hr := H1.out.row hlt
          rw [minW_step s xss k (by have := HL.out; omega)] at ht
          generalize xss.getD k [] = x at *
          generalize vs.getD k nilS = u at *
          obtain ⟨uA, un, uc⟩ := u
          simp only [sv] at hc
          simp only at hr
          have hrl := hr.len
          have hrs := hr.small
          have R := Lib.hid hr
          have HT := Lib.hid ht
          have HRL := Lib.hid hrl
          clear ht hr hrl
          go_wp2
          go_loopw [6, 7] (fun tv jv wi => ∃ (j : Nat) (t : Int), j ≤ un ∧ jv = .int .i64 (j : Int) ∧ tv = .int .i64 t ∧ sumW t (x.drop j) = sumW 0 x ∧ wi = wr) (fun _ jv _ => un - (intOf jv).toNat)
          case atStart => exact ⟨0, 0, by omega, rfl, rfl, rfl, rfl⟩
          case round =>
            obtain ⟨j, t, hj, rfl, rfl, hu, rfl⟩ := hrel
            by_cases hjl : j < un
            · have hjl' : (j : Int) < (un : Int) := by omega
              obtain ⟨b3, off3, rfl, _, hc3⟩ := R.out.at_ hjl
              have hdr := dropc x j (by have := HRL.out; omega)
              generalize x.getD j 0 = z at *
              rw [hdr, sumW] at hu
              have HU := Lib.hid hu
              clear hu hdr
              go_wp2
              go_roundw
              case rel => exact ⟨j + 1, _, by omega, by go_num, rfl, HU.out, by first | rfl | trivial⟩
              case measure => simp [intOf]; omega
            · obtain rfl : j = un := by omega
              rw [List.drop_of_length_le (by have := HRL.out; omega), sumW] at hu
              rw [← hu] at HT
              clear hu
              by_cases hst : s ≤ t
              · have em : min s t = s := by omega
                rw [em] at HT
                go_wp2
                go_roundw
                case rel => exact ⟨k + 1, s, by omega, by go_num, by first | rfl | (simp; done) | (simp; omega), HT.out, by first | rfl | trivial⟩
                case measure => simp [intOf]; omega
              · have em : min s t = t := by omega
                rw [em] at HT
                go_wp2
                go_roundw
                case rel => exact ⟨k + 1, t, by omega, by go_num, by first | rfl | (simp; done) | (simp; omega), HT.out, by first | rfl | trivial⟩
                case measure => simp [intOf]; omega
        · obtain rfl : k = n := by omega
          rw [minW_end s xss k (by have := HL.out; omega)] at ht
          rw [← ht] at HF
          clear ht
          go_wp2
          go_ret2
          exact ⟨by first | (rw [HF.out]; rfl) | rw [HF.out], HB.out⟩

end Go.Proofs.Ytindhmgfadipnaa
