/- Polynomials: IsPoly of the program and of the reference. -/
import Derived.Test.YtindhmgfadipnaaSq
namespace Go.Proofs.Ytindhmgfadipnaa
open Go.ChangeShapes Go.WideShapes Go.ChangeAt Go.RowKit
set_option linter.unusedVariables false

def degB (x : Int) : Bool := inB x 0 40

def monoB (k : Int) (x : List Int) : Bool := decide ((x.length : Int) = k) && (x.all degB && decide (sumW 0 x ≤ 40))

def pIsPoly (k : Int) (xss : List (List Int)) : Bool := inB k 1 4 && (decide (xss.length ≤ 2000) && (xss.all (monoB k) && (riseB xss && sameB (sumW 0) xss)))

theorem deg_pred (w : World) : PredI 130 #[] w degB := by
  refine ⟨Try.call130, fun x w1 hx hb => ?_⟩
  show Calls Try.prog 130 #[.int .i64 x] w1 _
  clear hb hx
  go_enter Try.func130, Try.ntmps130
  go_wp2_with (go_at_call 87; refine (in_any _ _ _ _).mono ?_; rintro e w' ⟨rfl, rfl⟩)
  go_ret
  exact ⟨rfl, Below.refl _ _⟩

theorem impl_isMonomial {A n c x w} {k : Int} (h : RI w A n x) :
    Calls Try.prog 117 #[.slice A n c, .int .i64 k] w fun e w' => e = .returned (.bool (monoB k x)) ∧ Below w.heap.size w w' := by
  have hl := h.len
  have hs := h.small
  by_cases hk : (n : Int) = k
  · subst hk
    have CA := Lib.hid (all_any _ _ _ A n c x w (deg_pred w) h)
    have CS := Lib.hid (fun w1 (hb : Below w.heap.size w w1) => impl_sum A n c x w1 (h.below hb))
    cases ha : x.all degB with
    | false =>
      have HF := Lib.hid (show monoB (n : Int) x = false by unfold monoB; rw [ha]; simp)
      rw [ha] at CA
      clear h ha hl
      go_enter Try.func117, Try.ntmps117
      go_wp2_with fail
      refine CA.out.mono ?_
      rintro e w1 ⟨rfl, hb⟩
      have HB := Lib.hid hb
      clear hb
      go_wp2
      go_ret
      exact ⟨by first | (rw [HF.out]; rfl) | rw [HF.out], HB.out⟩
    | true =>
      have HF := Lib.hid (show monoB (n : Int) x = decide (sumW 0 x ≤ 40) by unfold monoB; rw [ha, hl]; simp)
      rw [ha] at CA
      clear h ha hl
      generalize sumW 0 x = g at *
      by_cases h40 : g ≤ 40
      · have e40 : decide (g ≤ 40) = true := decide_eq_true h40
        rw [e40] at HF
        go_enter Try.func117, Try.ntmps117
        go_wp2_with fail
        refine CA.out.mono ?_
        rintro e w1 ⟨rfl, hb⟩
        have HB := Lib.hid hb
        clear hb
        go_wp2_with fail
        refine (CS.out _ HB.out).mono ?_
        rintro e w2 ⟨rfl, rfl⟩
        go_wp2
        go_ret
        exact ⟨by first | (rw [HF.out]; rfl) | rw [HF.out], HB.out⟩
      · have e40 : decide (g ≤ 40) = false := decide_eq_false h40
        rw [e40] at HF
        go_enter Try.func117, Try.ntmps117
        go_wp2_with fail
        refine CA.out.mono ?_
        rintro e w1 ⟨rfl, hb⟩
        have HB := Lib.hid hb
        clear hb
        go_wp2_with fail
        refine (CS.out _ HB.out).mono ?_
        rintro e w2 ⟨rfl, rfl⟩
        go_wp2
        go_ret
        exact ⟨by first | (rw [HF.out]; rfl) | rw [HF.out], HB.out⟩
  · have HF := Lib.hid (show monoB k x = false by unfold monoB; rw [hl, decide_eq_false hk]; rfl)
    have hne : ((n : Int) == k) = false := by rw [beq_eq_false_iff_ne]; exact hk
    clear h hl hk
    go_enter Try.func117, Try.ntmps117
    go_wp2
    go_ret
    exact ⟨by first | (rw [HF.out]; rfl) | rw [HF.out], Below.refl _ _⟩

theorem poly_pred (w : World) (b : Nat) (k : Int) (hb : b < w.heap.size) (hc : w.cell? ⟨b, 0, none⟩ = some (.int .i64 k)) : PredL 116 #[.pointer (some ⟨b, 0, none⟩)] w (fun _ => True) (monoB k) := by
  refine ⟨Try.call116, fun A n c x w1 hr _ hbw => ?_⟩
  show Calls Try.prog 116 #[.slice A n c, .pointer (some ⟨b, 0, none⟩)] w1 _
  have hc1 := (hbw.cell (p := ⟨b, 0, none⟩) hb).trans hc
  have CON := Lib.hid (impl_isMonomial (c := c) (k := k) hr)
  clear hbw hc hr
  go_enter Try.func116, Try.ntmps116
  go_wp2_with fail
  refine CON.out.mono ?_
  rintro e w' ⟨rfl, hb2⟩
  have HB := Lib.hid hb2
  clear hb2
  go_wp2
  go_ret
  exact ⟨rfl, HB.out⟩

theorem isCount_any (n : Int) (w : World) : Calls Try.prog 118 #[.int .i64 n] w fun e w' => e = .returned (.bool (inB n 1 4)) ∧ w = w' := by
  go_enter Try.func118, Try.ntmps118
  go_wp2_with (go_at_call 87; refine (in_any _ _ _ _).mono ?_; rintro e w' ⟨rfl, rfl⟩)
  go_ret
  exact ⟨rfl, rfl⟩

set_option maxHeartbeats 800000 in
theorem impl_IsPoly {k : Int} {A n c vs xss w} (hk : I64 k) (h : RS w A n vs xss) (hn : n + tot xss ≤ 1048576) :
    Calls Try.prog 57 #[.agg #[.int .i64 k, .slice A n c]] w fun e w' => e = .returned (.bool (pIsPoly k xss)) ∧ Below w.heap.size w w' := by
  have hmf : ∀ (fn : Fn) (first cap : Array Value) (w : World), (Instr.makeFunc fn first cap).run Try.prog w = .ok (.func fn first cap) w := fun _ _ _ _ => rfl
  have hl := h.len
  have hs := h.small
  have hb0 := box_below w (.cells #[.int .i64 k, .slice A n c] 69)
  have hbk := Blk.new w #[.int .i64 k, .slice A n c] 69
  have H := Lib.hid (h.below hb0)
  have c0 := hbk.cell 0 rfl
  have c1 := hbk.cell 1 rfl
  have CA := Lib.hid (allS_any (c := c) _ _ _ _ A n vs xss _ (poly_pred _ w.heap.size k hbk.lt c0) H.out (fun _ _ => trivial))
  have CR := Lib.hid (fun w1 hb => impl_rising (w := w1) (c := c) (H.out.below hb))
  have CS := Lib.hid (fun w1 hb => impl_sameDegree (w := w1) (c := c) _ _ sum_fun (H.out.below hb))
  have HBK := Lib.hid hbk
  have HB0 := Lib.hid hb0
  clear h hb0 hbk hn hk
  go_enter Try.func57, Try.ntmps57
  go_wp2_with fail
  refine CA.out.mono ?_
  rintro e w1 ⟨rfl, hb⟩
  have HB := Lib.hid (HB0.out.trans (hb.mono HB0.out.size))
  have HB1 := Lib.hid hb
  clear c0 c1
  have c0 := (HBK.out.below hb).cell 0 rfl
  have c1 := (HBK.out.below hb).cell 1 rfl
  clear hb
  cases hk4 : inB k 1 4 with
  | false =>
    have HF := Lib.hid (show pIsPoly k xss = false by unfold pIsPoly; rw [hk4]; simp)
    have HK := Lib.hid hk4
    clear hk4 hl
    go_wp2_with fail
    refine (isCount_any _ _).mono ?_
    rintro e w' ⟨rfl, rfl⟩
    rw [HK.out]
    go_wp2
    go_ret
    exact ⟨by first | (rw [HF.out]; rfl) | rw [HF.out], HB.out⟩
  | true =>
    have HK := Lib.hid hk4
    clear hk4
    by_cases h2 : n ≤ 2000
    · have h2' : (n : Int) ≤ 2000 := by omega
      cases ha : xss.all (monoB k) with
      | false =>
        have HF := Lib.hid (show pIsPoly k xss = false by unfold pIsPoly; rw [ha]; simp)
        clear ha hl
        go_wp2_with fail
        refine (isCount_any _ _).mono ?_
        rintro e w' ⟨rfl, rfl⟩
        rw [HK.out]
        go_wp2
        go_ret
        exact ⟨by first | (rw [HF.out]; rfl) | rw [HF.out], HB.out⟩
      | true =>
        have CR := Lib.hid (CR.out _ HB1.out)
        cases hr : riseB xss with
        | false =>
          have HF := Lib.hid (show pIsPoly k xss = false by unfold pIsPoly; rw [hr]; simp)
          rw [hr] at CR
          clear ha hl hr
          go_wp2_with fail
          refine (isCount_any _ _).mono ?_
          rintro e w' ⟨rfl, rfl⟩
          rw [HK.out]
          go_wp2_with fail
          refine CR.out.mono ?_
          rintro e w2 ⟨rfl, hb⟩
          have HB2 := Lib.hid (HB.out.trans (hb.mono HB.out.size))
          clear hb
          go_wp2
          go_ret
          exact ⟨by first | (rw [HF.out]; rfl) | rw [HF.out], HB2.out⟩
        | true =>
          have HF := Lib.hid (show pIsPoly k xss = sameB (sumW 0) xss by unfold pIsPoly; rw [hr, ha, HK.out, decide_eq_true (by omega)]; simp)
          rw [hr] at CR
          clear ha hl hr
          go_wp2_with fail
          refine (isCount_any _ _).mono ?_
          rintro e w' ⟨rfl, rfl⟩
          rw [HK.out]
          go_wp2_with fail
          refine CR.out.mono ?_
          rintro e w2 ⟨rfl, hb⟩
          have HB2 := Lib.hid (HB.out.trans (hb.mono HB.out.size))
          have HB3 := Lib.hid (HB1.out.trans (hb.mono HB1.out.size))
          clear c0 c1
          have c1 := (HBK.out.below HB3.out).cell 1 rfl
          clear hb
          go_wp2_with fail
          refine (CS.out _ HB3.out).mono ?_
          rintro e w3 ⟨rfl, hb⟩
          have HB4 := Lib.hid (HB2.out.trans (hb.mono HB2.out.size))
          clear hb
          go_wp2
          go_ret
          exact ⟨by first | (rw [HF.out]; rfl) | rw [HF.out], HB4.out⟩
    · have h2' : (2000 : Int) < (n : Int) := by omega
      have HF := Lib.hid (show pIsPoly k xss = false by unfold pIsPoly; rw [decide_eq_false (by omega)]; simp)
      clear hl
      go_wp2_with fail
      refine (isCount_any _ _).mono ?_
      rintro e w' ⟨rfl, rfl⟩
      rw [HK.out]
      go_wp2
      go_ret
      exact ⟨by first | (rw [HF.out]; rfl) | rw [HF.out], HB.out⟩

end Go.Proofs.Ytindhmgfadipnaa
