/- DegreeOfMilnor and ExcessOfMilnor of the program and of the reference. -/
import Derived.Test.YtindhmgfadipnaaMil
namespace Go.Proofs.Ytindhmgfadipnaa
open Go.ChangeShapes Go.WideShapes Go.ChangeAt Go.RowKit
set_option linter.unusedVariables false

def pDegreeOfMilnor (xss : List (List Int)) : Int × Int :=
  if pIsMilnor xss = true then (if xss.length = 0 then (0, 5) else (degW 0 0 (xss.getD 0 []), 0)) else (0, 1)

theorem impl_degreeOf {A n c vs xss w} (h : RS w A n vs xss) (hn : 0 < n) (hx : (xss.getD 0 []).length ≤ 10) :
    Calls Try.prog 120 #[.slice A n c] w fun e w' => e = .returned (.int .i64 (degW 0 0 (xss.getD 0 []))) ∧ w = w' := by
  obtain ⟨b, off, rfl, _, hc⟩ := h.at_ hn
  have hr := h.row hn
  have hrl := hr.len
  generalize xss.getD 0 [] = x at *
  generalize vs.getD 0 nilS = v at *
  obtain ⟨vA, vn, vc⟩ := v
  simp only [sv, Nat.add_zero] at hc
  simp only at hr hrl
  have CON := Lib.hid (impl_degree vA vn vc x w hr (by omega))
  have hn' : (0 : Int) < (n : Int) := by omega
  have hne : ((n : Int) == 0) = false := by rw [beq_eq_false_iff_ne]; omega
  clear h hr hrl hx
  go_enter Try.func120, Try.ntmps120
  go_wp2_with fail
  refine CON.out.mono ?_
  rintro e w1 ⟨rfl, rfl⟩
  go_wp2
  go_ret
  exact ⟨rfl, rfl⟩

theorem impl_DegreeOfMilnor {A n c vs xss w} (h : RS w A n vs xss) (hn : n + tot xss ≤ 1048576) :
    Calls Try.prog 65 #[.agg #[.slice A n c]] w fun e w' => e = .returned (.tuple #[.int .i64 (pDegreeOfMilnor xss).1, .int .i64 (pDegreeOfMilnor xss).2]) ∧ Below w.heap.size w w' := by
  have hl := h.len
  have hb0 := box_below w (.cells #[.slice A n c] 24)
  have hbk := Blk.new w #[.slice A n c] 24
  have CON := Lib.hid (impl_IsMilnor (c := c) (h.below hb0) hn)
  have H := Lib.hid (h.below hb0)
  have HBK := Lib.hid hbk
  have HB0 := Lib.hid hb0
  have c0 := hbk.cell 0 rfl
  clear h hn hb0 hbk
  cases hp : pIsMilnor xss with
  | false =>
    have HF := Lib.hid (show pDegreeOfMilnor xss = (0, 1) by unfold pDegreeOfMilnor; rw [hp]; rfl)
    rw [hp] at CON
    clear hp hl
    go_enter Try.func65, Try.ntmps65
    go_wp2_with fail
    refine CON.out.mono ?_
    rintro e w1 ⟨rfl, hb⟩
    have HB := Lib.hid (HB0.out.trans (hb.mono HB0.out.size))
    clear hb
    go_wp2
    go_ret2
    exact ⟨by first | (rw [HF.out]; rfl) | rw [HF.out], HB.out⟩
  | true =>
    have hpt := pIsMilnor_true hp
    rw [hp] at CON
    by_cases h0 : n = 0
    · have HF := Lib.hid (show pDegreeOfMilnor xss = (0, 5) by unfold pDegreeOfMilnor; rw [if_pos hp, if_pos (by omega)])
      subst h0
      clear hp hl hpt
      go_enter Try.func65, Try.ntmps65
      go_wp2_with fail
      refine CON.out.mono ?_
      rintro e w1 ⟨rfl, hb⟩
      have HB := Lib.hid (HB0.out.trans (hb.mono HB0.out.size))
      have HBK1 := Lib.hid (HBK.out.below hb)
      clear hb c0
      have c0 := HBK1.out.cell 0 rfl
      go_wp2
      go_ret2
      exact ⟨by first | (rw [HF.out]; rfl) | rw [HF.out], HB.out⟩
    · have HF := Lib.hid (show pDegreeOfMilnor xss = (degW 0 0 (xss.getD 0 []), 0) by unfold pDegreeOfMilnor; rw [if_pos hp, if_neg (by omega)])
      have hx10 := (termB_true (hpt.2.1 _ (getD_memS xss 0 (by omega)))).1
      have CD := Lib.hid (fun w1 hb => impl_degreeOf (w := w1) (c := c) (H.out.below hb) (by omega) hx10)
      have hne : ((n : Int) == 0) = false := by rw [beq_eq_false_iff_ne]; omega
      clear hp hl hpt hx10
      go_enter Try.func65, Try.ntmps65
      go_wp2_with fail
      refine CON.out.mono ?_
      rintro e w1 ⟨rfl, hb⟩
      have HB := Lib.hid (HB0.out.trans (hb.mono HB0.out.size))
      have HB1 := Lib.hid hb
      have HBK1 := Lib.hid (HBK.out.below hb)
      clear hb c0
      have c0 := HBK1.out.cell 0 rfl
      go_wp2_with fail
      refine (CD.out _ HB1.out).mono ?_
      rintro e w2 ⟨rfl, rfl⟩
      go_wp2
      go_ret2
      exact ⟨by first | (rw [HF.out]; rfl) | rw [HF.out], HB.out⟩

theorem spec_DegreeOfMilnor {A n c vs xss w} (h : RS w A n vs xss) (hn : n + tot xss ≤ 1048576) :
    Calls Try.prog 64 #[.agg #[.slice A n c]] w fun e w' => e = .returned (.tuple #[.int .i64 (pDegreeOfMilnor xss).1, .int .i64 (pDegreeOfMilnor xss).2]) ∧ Below w.heap.size w w' := by
  have hl := h.len
  have hb0 := box_below w (.cells #[.slice A n c] 24)
  have hbk := Blk.new w #[.slice A n c] 24
  have CON := Lib.hid (spec_l04Is (c := c) (h.below hb0))
  have H := Lib.hid (h.below hb0)
  have HBK := Lib.hid hbk
  have HB0 := Lib.hid hb0
  have c0 := hbk.cell 0 rfl
  clear h hn hb0 hbk
  cases hp : pIsMilnor xss with
  | false =>
    have HF := Lib.hid (show pDegreeOfMilnor xss = (0, 1) by unfold pDegreeOfMilnor; rw [hp]; rfl)
    rw [hp] at CON
    clear hp hl
    go_enter Try.func64, Try.ntmps64
    go_wp2_with fail
    refine CON.out.mono ?_
    rintro e w1 ⟨rfl, hb⟩
    have HB := Lib.hid (HB0.out.trans (hb.mono HB0.out.size))
    clear hb
    go_wp2
    go_ret2
    exact ⟨by first | (rw [HF.out]; rfl) | rw [HF.out], HB.out⟩
  | true =>
    have hpt := pIsMilnor_true hp
    rw [hp] at CON
    by_cases h0 : n = 0
    · have HF := Lib.hid (show pDegreeOfMilnor xss = (0, 5) by unfold pDegreeOfMilnor; rw [if_pos hp, if_pos (by omega)])
      subst h0
      clear hp hl hpt
      go_enter Try.func64, Try.ntmps64
      go_wp2_with fail
      refine CON.out.mono ?_
      rintro e w1 ⟨rfl, hb⟩
      have HB := Lib.hid (HB0.out.trans (hb.mono HB0.out.size))
      have HBK1 := Lib.hid (HBK.out.below hb)
      clear hb c0
      have c0 := HBK1.out.cell 0 rfl
      go_wp2
      go_ret2
      exact ⟨by first | (rw [HF.out]; rfl) | rw [HF.out], HB.out⟩
    · have HF := Lib.hid (show pDegreeOfMilnor xss = (degW 0 0 (xss.getD 0 []), 0) by unfold pDegreeOfMilnor; rw [if_pos hp, if_neg (by omega)])
      have hx10 := (termB_true (hpt.2.1 _ (getD_memS xss 0 (by omega)))).1
      obtain ⟨b, off, rfl, hbl, hc⟩ := H.out.at_ (i := 0) (by omega)
      have hr := H.out.row (i := 0) (by omega)
      have hrl := hr.len
      generalize xss.getD 0 [] = x at *
      generalize vs.getD 0 nilS = v at *
      obtain ⟨vA, vn, vc⟩ := v
      simp only [sv, Nat.add_zero] at hc
      simp only at hr hrl
      have CD := Lib.hid (fun w1 hb => spec_l01Degree vA vn vc x w1 (hr.below hb) (by omega))
      have HC := Lib.hid hc
      have hne : ((n : Int) == 0) = false := by rw [beq_eq_false_iff_ne]; omega
      have hn0 : (0 : Int) < (n : Int) := by omega
      clear hp hl hpt hx10 hr hrl hc
      go_enter Try.func64, Try.ntmps64
      go_wp2_with fail
      refine CON.out.mono ?_
      rintro e w1 ⟨rfl, hb⟩
      have HB := Lib.hid (HB0.out.trans (hb.mono HB0.out.size))
      have HB1 := Lib.hid hb
      have HBK1 := Lib.hid (HBK.out.below hb)
      have hc1 := (hb.cell (p := ⟨b, off, none⟩) hbl).trans HC.out
      clear hb c0
      have c0 := HBK1.out.cell 0 rfl
      go_wp2_with fail
      refine (CD.out _ HB1.out).mono ?_
      rintro e w2 ⟨rfl, rfl⟩
      go_wp2
      go_ret2
      exact ⟨by first | (rw [HF.out]; rfl) | rw [HF.out], HB.out⟩

end Go.Proofs.Ytindhmgfadipnaa
