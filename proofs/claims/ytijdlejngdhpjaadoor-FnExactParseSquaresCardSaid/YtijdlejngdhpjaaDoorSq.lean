/- Sums of squares: IsSquares of the program and of the reference. (gen_sq.py) -/
import Derived.Test.YtijdlejngdhpjaaDoorMil
import Derived.Test.YtijdlejngdhpjaaDoorWord
namespace Go.Proofs.YtijdlejngdhpjaaDoor
open Go.ChangeShapes Go.WideShapes Go.ChangeAt Go.RowKit
set_option linter.unusedVariables false

def pIsSquares (xss : List (List Int)) : Bool := decide (xss.length ≤ 2000) && (riseB xss && (xss.all wordB && sameB (sumW 0) xss))

theorem pIsSquares_true {xss} (h : pIsSquares xss = true) : xss.length ≤ 2000 ∧ (∀ x ∈ xss, wordB x = true) ∧ (∀ x ∈ xss, sumW 0 x = sumW 0 (xss.getD 0 [])) ∧ riseB xss = true := by
  simp only [pIsSquares, sameB, Bool.and_eq_true, decide_eq_true_eq, List.all_eq_true] at h
  exact ⟨h.1, h.2.2.1, h.2.2.2, h.2.1⟩

theorem word_pred (w : World) : PredL 37 #[] w (fun _ => True) wordB :=
  ⟨Tryd.call37, fun A n c x w1 hr _ _ => impl_isWord A n c x w1 hr⟩

theorem sum_fun {D : List Int → Prop} : FunL 39 D (sumW 0) :=
  ⟨Tryd.call39, fun A n c x w hr _ => impl_sum A n c x w hr⟩

set_option maxHeartbeats 400000 in
theorem impl_IsSquares {A n c vs xss w} (h : RS w A n vs xss) (hn : n + tot xss ≤ 1048576) :
    Calls Tryd.prog 19 #[.agg #[.slice A n c]] w fun e w' => e = .returned (.bool (pIsSquares xss)) ∧ Below w.heap.size w w' := by
  have hl := h.len
  have hs := h.small
  have hb0 := box_below w (.cells #[.slice A n c] 24)
  have hbk := Blk.new w #[.slice A n c] 24
  have H := Lib.hid (h.below hb0)
  have c0 := hbk.cell 0 rfl
  have CR := Lib.hid (impl_rising (c := c) (h.below hb0))
  have CA := Lib.hid (fun w1 hb => allS_any (c := c) _ #[] _ _ A n vs xss w1 (word_pred w1) (H.out.below hb) (fun _ _ => trivial))
  have CS := Lib.hid (fun w1 hb => impl_sameDegree (w := w1) (c := c) _ _ sum_fun (H.out.below hb))
  have HBK := Lib.hid hbk
  have HB0 := Lib.hid hb0
  clear h hb0 hbk hn
  by_cases h2 : n ≤ 2000
  · have h2' : (n : Int) ≤ 2000 := by omega
    cases hr : riseB xss with
    | false =>
      have HF := Lib.hid (show pIsSquares xss = false by unfold pIsSquares; rw [hr]; simp)
      rw [hr] at CR
      clear hr hl
      go_enter Tryd.func19, Tryd.ntmps19
      go_wp2_with fail
      refine CR.out.mono ?_
      rintro e w1 ⟨rfl, hb⟩
      have HB := Lib.hid (HB0.out.trans (hb.mono HB0.out.size))
      clear hb
      go_wp2
      go_ret
      exact ⟨by first | (rw [HF.out]; rfl) | rw [HF.out], HB.out⟩
    | true =>
      rw [hr] at CR
      cases ha : xss.all wordB with
      | false =>
        have HF := Lib.hid (show pIsSquares xss = false by unfold pIsSquares; rw [ha]; simp)
        rw [ha] at CA
        clear hr hl ha
        go_enter Tryd.func19, Tryd.ntmps19
        go_wp2_with fail
        refine CR.out.mono ?_
        rintro e w1 ⟨rfl, hb⟩
        have HB := Lib.hid (HB0.out.trans (hb.mono HB0.out.size))
        have HB1 := Lib.hid hb
        clear c0
        have c0 := (HBK.out.below hb).cell 0 rfl
        clear hb
        go_wp2_with fail
        refine (CA.out _ HB1.out).mono ?_
        rintro e w2 ⟨rfl, hb⟩
        have HB2 := Lib.hid (HB.out.trans (hb.mono HB.out.size))
        clear hb
        go_wp2
        go_ret
        exact ⟨by first | (rw [HF.out]; rfl) | rw [HF.out], HB2.out⟩
      | true =>
        have HF := Lib.hid (show pIsSquares xss = sameB (sumW 0) xss by unfold pIsSquares; rw [hr, ha, decide_eq_true (by omega)]; simp)
        rw [ha] at CA
        clear hr hl ha
        go_enter Tryd.func19, Tryd.ntmps19
        go_wp2_with fail
        refine CR.out.mono ?_
        rintro e w1 ⟨rfl, hb⟩
        have HB := Lib.hid (HB0.out.trans (hb.mono HB0.out.size))
        have HB1 := Lib.hid hb
        clear c0
        have c0 := (HBK.out.below hb).cell 0 rfl
        clear hb
        go_wp2_with fail
        refine (CA.out _ HB1.out).mono ?_
        rintro e w2 ⟨rfl, hb⟩
        have HB2 := Lib.hid (HB.out.trans (hb.mono HB.out.size))
        have HB3 := Lib.hid (HB1.out.trans (hb.mono HB1.out.size))
        clear c0
        have c0 := (HBK.out.below HB3.out).cell 0 rfl
        clear hb
        go_wp2_with fail
        refine (CS.out _ HB3.out).mono ?_
        rintro e w3 ⟨rfl, hb⟩
        have HB4 := Lib.hid (HB2.out.trans (hb.mono HB2.out.size))
        clear hb
        go_wp2
        go_ret
        exact ⟨by first | (rw [HF.out]; rfl) | rw [HF.out], HB4.out⟩
  · have h2' : (2000 : Int) < (n : Int) := by omega
    have HF := Lib.hid (show pIsSquares xss = false by unfold pIsSquares; rw [decide_eq_false (by omega)]; simp)
    clear hl
    go_enter Tryd.func19, Tryd.ntmps19
    go_wp2
    go_ret
    exact ⟨by first | (rw [HF.out]; rfl) | rw [HF.out], HB0.out⟩

set_option maxRecDepth 100000 in
set_option maxHeartbeats 1000000 in
theorem spec_l03Is {A n c vs xss w} (h : RS w A n vs xss) :
    Calls Tryd.prog 16 #[.agg #[.slice A n c]] w fun e w' => e = .returned (.bool (pIsSquares xss)) ∧ Below w.heap.size w w' := by
  have hl := h.len
  have hs := h.small
  have hb0 := box_below w (.cells #[.slice A n c] 24)
  have hbk := Blk.new w #[.slice A n c] 24
  have CR := Lib.hid (spec_l01Ascending (c := c) (h.below hb0))
  have HB0 := Lib.hid hb0
  have HBK := Lib.hid hbk
  have H := Lib.hid (h.below hb0)
  have c0 := hbk.cell 0 rfl
  clear h hb0 hbk
  by_cases h2 : n ≤ 2000
  · have h2' : (n : Int) ≤ 2000 := by omega
    cases hr : riseB xss with
    | false =>
      have HF := Lib.hid (show pIsSquares xss = false by unfold pIsSquares; rw [hr]; simp)
      rw [hr] at CR
      clear hr hl
      go_enter Tryd.func16, Tryd.ntmps16
      go_wp2_with fail
      refine CR.out.mono ?_
      rintro e w1 ⟨rfl, hb⟩
      have HB := Lib.hid (HB0.out.trans (hb.mono HB0.out.size))
      clear hb
      go_wp2
      go_ret
      exact ⟨by first | (rw [HF.out]; rfl) | rw [HF.out], HB.out⟩
    | true =>
      have HF := Lib.hid (show pIsSquares xss = (xss.all wordB && sameB (sumW 0) xss) by unfold pIsSquares; rw [hr, decide_eq_true (by omega)]; simp)
      rw [hr] at CR
      clear hr
      go_enter Tryd.func16, Tryd.ntmps16
      go_wp2_with fail
      refine CR.out.mono ?_
      rintro e w1 ⟨rfl, hb⟩
      have HB := Lib.hid (HB0.out.trans (hb.mono HB0.out.size))
      have HBK1 := Lib.hid (HBK.out.below hb)
      have H1 := Lib.hid (H.out.below hb)
      clear hb c0
      go_wp2
      go_loopw [3] (fun iv wr => ∃ i : Nat, i ≤ n ∧ iv = .int .i64 (i : Int) ∧ (xss.take i).all wordB = true ∧ (∀ x ∈ xss.take i, sumW 0 x = sumW 0 (xss.getD 0 [])) ∧ Below w1.heap.size w1 wr) (fun iv _ => n - (intOf iv).toNat)
      case atStart => exact ⟨0, by omega, rfl, by simp, by simp, Below.refl _ _⟩
      case round =>
        obtain ⟨i, hi, rfl, hall, hsm, hbw⟩ := hrel
        have HB := Lib.hid (HB.out.trans (hbw.mono HB.out.size))
        have k0 := (HBK1.out.below hbw).cell 0 rfl
        have H2 := Lib.hid (H1.out.below hbw)
        have HBW := Lib.hid hbw
        clear hbw
        by_cases hlt : i < n
        · have hlt' : (i : Int) < (n : Int) := by omega
          have hn0 : (0 : Int) < (n : Int) := by omega
          obtain ⟨b, off, rfl, _, hc⟩ := H2.out.at_ hlt
          obtain ⟨b2, off2, hA2, _, hc2⟩ := H2.out.at_ (i := 0) (by omega)
          obtain ⟨rfl, rfl⟩ : b = b2 ∧ off = off2 := by simpa using hA2
          have r1 := H2.out.row hlt
          have r2 := H2.out.row (i := 0) (by omega)
          rw [Nat.add_zero] at hc2
          have HTA := Lib.hid (all_take wordB xss i (by omega) hall)
          have HMS := Lib.hid (all_miss wordB xss i (by omega))
          have HSA := Lib.hid (sameB_take (sumW 0) xss i (by omega) hsm)
          have HSM := Lib.hid (all_miss (fun x => decide (sumW 0 x = sumW 0 (xss.getD 0 []))) xss i (by omega))
          have hl1 := r1.len
          have hl2 := r2.len
          clear hall hsm hA2
          have hgx := HSM.out
          unfold sameB at HF
          generalize hxe : xss.getD i [] = x at *
          generalize hye : xss.getD 0 [] = y at *
          generalize vs.getD i nilS = u at *
          generalize vs.getD 0 nilS = v at *
          obtain ⟨uA, un, uc⟩ := u
          obtain ⟨vA, vn, vc⟩ := v
          simp only [sv] at hc hc2
          simp only at r1 r2 hl1 hl2
          have CE := Lib.hid (fun w2 (hb : Below wr.heap.size wr w2) => spec_l03Word uA un uc x w2 (r1.below hb))
          cases ht : wordB x with
          | false =>
            have HF := Lib.hid (show pIsSquares xss = false by rw [HF.out, HMS.out ht]; rfl)
            rw [ht] at CE
            clear hl1 hl2 hgx r1 r2 ht hl
            go_wp2_with fail
            go_quiet ((first | (go_at_call 30; exact quiet_lefts (CE.out _ (by repeat (first | exact Below.refl _ _ | refine below_drewN ?_ _))))))
            go_wp2
            go_ret
            exact ⟨by first | (rw [HF.out]; rfl) | rw [HF.out], (by repeat (first | exact HB.out | refine below_drewN ?_ _))⟩
          | true =>
            have CD := Lib.hid (fun w2 (hb : Below wr.heap.size wr w2) => spec_sum uA un uc x w2 (r1.below hb))
            have CY := Lib.hid (fun w2 (hb : Below wr.heap.size wr w2) => spec_sum vA vn vc y w2 (r2.below hb))
            rw [ht] at CE
            by_cases hxy : sumW 0 x = sumW 0 y
            · have HA2 := Lib.hid (HTA.out ht)
              have HS2 := Lib.hid (HSA.out hxy)
              rw [hxy] at CD
              generalize hgy : sumW 0 y = gy at CD CY
              have HG := Lib.hid hgy
              clear hl1 hl2 hgx r1 r2 ht hl hxy HTA HMS HSA HSM hgy hxe hye
              go_wp2_with fail
              go_quiet ((first | (go_at_call 30; exact quiet_lefts (CE.out _ (by repeat (first | exact Below.refl _ _ | refine below_drewN ?_ _)))) | (go_at_call_of 31 uA; exact quiet_lefts (CD.out _ (by repeat (first | exact Below.refl _ _ | refine below_drewN ?_ _)))) | (go_at_call_of 31 vA; exact quiet_lefts (CY.out _ (by repeat (first | exact Below.refl _ _ | refine below_drewN ?_ _))))))
              go_wp2
              go_roundw
              case rel => exact ⟨i + 1, by omega, by go_num, HA2.out, (fun x hx => (HS2.out x hx).trans HG.out), (by repeat (first | exact HBW.out | refine below_drewN ?_ _))⟩
              case measure => simp [intOf]; omega
            · have HF := Lib.hid (show pIsSquares xss = false by rw [HF.out, HSM.out (decide_eq_false hxy)]; simp)
              have hne : (sumW 0 x == sumW 0 y) = false := by rw [beq_eq_false_iff_ne]; exact hxy
              generalize sumW 0 x = gx at CD hne
              generalize sumW 0 y = gy at CY hne
              clear hl1 hl2 hgx r1 r2 ht hl hxy HTA HMS HSA HSM hxe hye
              go_wp2_with fail
              go_quiet ((first | (go_at_call 30; exact quiet_lefts (CE.out _ (by repeat (first | exact Below.refl _ _ | refine below_drewN ?_ _)))) | (go_at_call_of 31 uA; exact quiet_lefts (CD.out _ (by repeat (first | exact Below.refl _ _ | refine below_drewN ?_ _)))) | (go_at_call_of 31 vA; exact quiet_lefts (CY.out _ (by repeat (first | exact Below.refl _ _ | refine below_drewN ?_ _))))))
              go_wp2
              go_ret
              exact ⟨by first | (rw [HF.out]; rfl) | rw [HF.out], (by repeat (first | exact HB.out | refine below_drewN ?_ _))⟩
        · obtain rfl : i = n := by omega
          have HF2 := Lib.hid (show pIsSquares xss = true by
            rw [HF.out]
            rw [show xss.take i = xss by rw [← hl]; exact List.take_length] at hall hsm
            rw [hall, Bool.true_and]
            exact List.all_eq_true.2 (fun x hx => decide_eq_true (hsm x hx)))
          clear hall hsm hl
          go_wp2
          go_ret
          exact ⟨by first | (rw [HF2.out]; rfl) | rw [HF2.out], HB.out⟩
  · have h2' : (2000 : Int) < (n : Int) := by omega
    have HF := Lib.hid (show pIsSquares xss = false by unfold pIsSquares; rw [decide_eq_false (by omega)]; simp)
    clear hl
    go_enter Tryd.func16, Tryd.ntmps16
    go_wp2
    go_ret
    exact ⟨by first | (rw [HF.out]; rfl) | rw [HF.out], HB0.out⟩

end Go.Proofs.YtijdlejngdhpjaaDoor
