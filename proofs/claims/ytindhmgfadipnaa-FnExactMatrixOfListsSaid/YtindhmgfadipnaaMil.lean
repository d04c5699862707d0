/- Milnor's elements: IsMilnor and IsDual of the program and of the reference. -/
import Derived.Test.YtindhmgfadipnaaSame
import Derived.Test.YtindhmgfadipnaaExp
import Derived.Deep.RegionWith
namespace Go.Proofs.Ytindhmgfadipnaa
open Go.ChangeShapes Go.WideShapes Go.ChangeAt Go.RowKit
set_option linter.unusedVariables false

def termB (x : List Int) : Bool := expB x && decide (degW 0 0 x ≤ 40)

def pIsMilnor (xss : List (List Int)) : Bool := decide (xss.length ≤ 2000) && (riseB xss && (xss.all termB && sameB (degW 0 0) xss))

def pIsDual (xss : List (List Int)) : Bool := pIsMilnor xss

theorem termB_true {x} (h : termB x = true) : x.length ≤ 10 ∧ (∀ y ∈ x, 0 ≤ y ∧ y ≤ 1000000000000) ∧ degW 0 0 x ≤ 40 := by
  simp only [termB, Bool.and_eq_true, decide_eq_true_eq] at h
  exact ⟨(expB_true h.1).1, (expB_true h.1).2, h.2⟩

theorem pIsMilnor_true {xss} (h : pIsMilnor xss = true) : xss.length ≤ 2000 ∧ (∀ x ∈ xss, termB x = true) ∧ ∀ x ∈ xss, degW 0 0 x = degW 0 0 (xss.getD 0 []) := by
  simp only [pIsMilnor, sameB, Bool.and_eq_true, decide_eq_true_eq, List.all_eq_true] at h
  exact ⟨h.1, h.2.2.1, h.2.2.2⟩

theorem term_pred (w : World) : PredL 151 #[] w (fun _ => True) termB := by
  refine ⟨Try.call151, fun A n c x w1 hr _ hb => ?_⟩
  show Calls Try.prog 151 #[.slice A n c] w1 _
  have hl := hr.len
  have CE := Lib.hid (impl_isExponents A n c x w1 hr)
  cases he : expB x with
  | false =>
    rw [he] at CE
    rw [show termB x = false by unfold termB; rw [he]; rfl]
    clear hr hb he
    go_enter Try.func151, Try.ntmps151
    go_wp2_with fail
    refine CE.out.mono ?_
    rintro e w2 ⟨rfl, hb⟩
    have HB := Lib.hid hb
    clear hb
    go_wp2
    go_ret
    exact ⟨rfl, HB.out⟩
  | true =>
    have h10 := (expB_true he).1
    have CD := Lib.hid (fun w2 (hb : Below w1.heap.size w1 w2) => impl_degree A n c x w2 (hr.below hb) (by omega))
    rw [show termB x = decide (degW 0 0 x ≤ 40) by unfold termB; rw [he]; rfl]
    rw [he] at CE
    generalize degW 0 0 x = g at *
    clear hr hb he
    by_cases h40 : g ≤ 40
    · rw [decide_eq_true h40]
      go_enter Try.func151, Try.ntmps151
      go_wp2_with fail
      refine CE.out.mono ?_
      rintro e w2 ⟨rfl, hb⟩
      have HB := Lib.hid hb
      clear hb
      go_wp2_with fail
      refine (CD.out _ HB.out).mono ?_
      rintro e w3 ⟨rfl, rfl⟩
      go_wp2
      go_ret
      exact ⟨rfl, HB.out⟩
    · rw [decide_eq_false h40]
      have e : decide (g ≤ 40) = false := decide_eq_false h40
      go_enter Try.func151, Try.ntmps151
      go_wp2_with fail
      refine CE.out.mono ?_
      rintro e w2 ⟨rfl, hb⟩
      have HB := Lib.hid hb
      clear hb
      go_wp2_with fail
      refine (CD.out _ HB.out).mono ?_
      rintro e w3 ⟨rfl, rfl⟩
      go_wp2
      go_ret
      exact ⟨rfl, HB.out⟩

theorem deg_fun {xss : List (List Int)} (h : xss.all termB = true) : FunL 89 (· ∈ xss) (degW 0 0) := by
  refine ⟨Try.call89, fun A n c x w hr hx => ?_⟩
  have h10 := (termB_true (List.all_eq_true.1 h x hx)).1
  have hl := hr.len
  exact impl_degree A n c x w hr (by omega)

set_option maxHeartbeats 400000 in
theorem impl_areTerms {A n c vs xss w} (h : RS w A n vs xss) :
    Calls Try.prog 114 #[.slice A n c] w fun e w' => e = .returned (.bool (pIsMilnor xss)) ∧ Below w.heap.size w w' := by
  have hl := h.len
  have hs := h.small
  have H := Lib.hid h
  have CA := Lib.hid (allS_any (c := c) _ #[] _ _ A n vs xss w (term_pred w) h (fun _ _ => trivial))
  have CR := Lib.hid (fun w1 (hb : Below w.heap.size w w1) => impl_rising (c := c) (H.out.below hb))
  clear h
  by_cases h2 : n ≤ 2000
  · have h2' : (n : Int) ≤ 2000 := by omega
    cases hr : riseB xss with
    | false =>
      have HF := Lib.hid (show pIsMilnor xss = false by unfold pIsMilnor; rw [hr]; simp)
      rw [hr] at CR
      clear hr hl
      go_enter Try.func114, Try.ntmps114
      go_wp2_with fail
      refine CA.out.mono ?_
      rintro e w1 ⟨rfl, hb⟩
      have HB := Lib.hid hb
      clear hb
      go_wp2_with fail
      refine (CR.out _ HB.out).mono ?_
      rintro e w2 ⟨rfl, hb⟩
      have HB2 := Lib.hid (HB.out.trans (hb.mono HB.out.size))
      clear hb
      go_wp2
      go_ret
      exact ⟨by first | (rw [HF.out]; rfl) | rw [HF.out], HB2.out⟩
    | true =>
      rw [hr] at CR
      cases ha : xss.all termB with
      | false =>
        have HF := Lib.hid (show pIsMilnor xss = false by unfold pIsMilnor; rw [ha]; simp)
        rw [ha] at CA
        clear hr hl ha
        go_enter Try.func114, Try.ntmps114
        go_wp2_with fail
        refine CA.out.mono ?_
        rintro e w1 ⟨rfl, hb⟩
        have HB := Lib.hid hb
        clear hb
        go_wp2_with fail
        refine (CR.out _ HB.out).mono ?_
        rintro e w2 ⟨rfl, hb⟩
        have HB2 := Lib.hid (HB.out.trans (hb.mono HB.out.size))
        clear hb
        go_wp2
        go_ret
        exact ⟨by first | (rw [HF.out]; rfl) | rw [HF.out], HB2.out⟩
      | true =>
        have HF := Lib.hid (show pIsMilnor xss = sameB (degW 0 0) xss by unfold pIsMilnor; rw [hr, ha, decide_eq_true (by omega)]; simp)
        have CS := Lib.hid (fun w1 (hb : Below w.heap.size w w1) => impl_sameDegree (c := c) _ _ (deg_fun ha) (H.out.below hb))
        rw [ha] at CA
        clear hr hl ha
        go_enter Try.func114, Try.ntmps114
        go_wp2_with fail
        refine CA.out.mono ?_
        rintro e w1 ⟨rfl, hb⟩
        have HB := Lib.hid hb
        clear hb
        go_wp2_with fail
        refine (CR.out _ HB.out).mono ?_
        rintro e w2 ⟨rfl, hb⟩
        have HB2 := Lib.hid (HB.out.trans (hb.mono HB.out.size))
        clear hb
        go_wp2_with fail
        refine (CS.out _ HB2.out).mono ?_
        rintro e w3 ⟨rfl, hb⟩
        have HB3 := Lib.hid (HB2.out.trans (hb.mono HB2.out.size))
        clear hb
        go_wp2
        go_ret
        exact ⟨by first | (rw [HF.out]; rfl) | rw [HF.out], HB3.out⟩
  · have h2' : (2000 : Int) < (n : Int) := by omega
    have HF := Lib.hid (show pIsMilnor xss = false by unfold pIsMilnor; rw [decide_eq_false (by omega)]; simp)
    clear hl
    go_enter Try.func114, Try.ntmps114
    go_wp2_with fail
    refine CA.out.mono ?_
    rintro e w1 ⟨rfl, hb⟩
    have HB := Lib.hid hb
    clear hb
    go_wp2
    go_ret
    exact ⟨by first | (rw [HF.out]; rfl) | rw [HF.out], HB.out⟩

theorem impl_IsMilnor {A n c vs xss w} (h : RS w A n vs xss) (hn : n + tot xss ≤ 1048576) :
    Calls Try.prog 53 #[.agg #[.slice A n c]] w fun e w' => e = .returned (.bool (pIsMilnor xss)) ∧ Below w.heap.size w w' := by
  have hb0 := box_below w (.cells #[.slice A n c] 24)
  have CON := Lib.hid (impl_areTerms (c := c) (h.below hb0))
  have HB0 := Lib.hid hb0
  clear h hn hb0
  go_enter Try.func53, Try.ntmps53
  go_wp2_with fail
  refine CON.out.mono ?_
  rintro e w1 ⟨rfl, hb⟩
  have HB := Lib.hid (HB0.out.trans (hb.mono HB0.out.size))
  clear hb
  go_wp2
  go_ret
  exact ⟨rfl, HB.out⟩

theorem impl_IsDual {A n c vs xss w} (h : RS w A n vs xss) (hn : n + tot xss ≤ 1048576) :
    Calls Try.prog 62 #[.agg #[.slice A n c]] w fun e w' => e = .returned (.bool (pIsDual xss)) ∧ Below w.heap.size w w' := by
  have hb0 := box_below w (.cells #[.slice A n c] 76)
  have CON := Lib.hid (impl_areTerms (c := c) (h.below hb0))
  have HB0 := Lib.hid hb0
  clear h hn hb0
  go_enter Try.func62, Try.ntmps62
  go_wp2_with fail
  refine CON.out.mono ?_
  rintro e w1 ⟨rfl, hb⟩
  have HB := Lib.hid (HB0.out.trans (hb.mono HB0.out.size))
  clear hb
  go_wp2
  go_ret
  exact ⟨rfl, HB.out⟩

theorem sameB_take (f : List Int → Int) (xss : List (List Int)) (i : Nat) (h : i < xss.length) (ht : ∀ x ∈ xss.take i, f x = f (xss.getD 0 [])) (hx : f (xss.getD i []) = f (xss.getD 0 [])) : ∀ x ∈ xss.take (i + 1), f x = f (xss.getD 0 []) := by
  intro x hm
  rw [take_snocS xss i h, List.mem_append, List.mem_singleton] at hm
  rcases hm with hm | rfl
  · exact ht x hm
  · exact hx

theorem all_take (p : List Int → Bool) (xss : List (List Int)) (i : Nat) (h : i < xss.length) (ht : (xss.take i).all p = true) (hx : p (xss.getD i []) = true) : (xss.take (i + 1)).all p = true := by
  rw [take_snocS xss i h, List.all_append, ht]; simp only [List.all_cons, List.all_nil, hx]; rfl

theorem all_miss (p : List Int → Bool) (xss : List (List Int)) (i : Nat) (h : i < xss.length) (hx : p (xss.getD i []) = false) : xss.all p = false :=
  List.all_eq_false.2 ⟨_, getD_memS xss i h, by rw [hx]; simp⟩

set_option maxRecDepth 100000 in
set_option maxHeartbeats 1000000 in
theorem spec_l04Is {A n c vs xss w} (h : RS w A n vs xss) :
    Calls Try.prog 113 #[.agg #[.slice A n c]] w fun e w' => e = .returned (.bool (pIsMilnor xss)) ∧ Below w.heap.size w w' := by
  have hl := h.len
  have hs := h.small
  have hb0 := box_below w (.cells #[.slice A n c] 24)
  have hbk := Blk.new w #[.slice A n c] 24
  have CR := Lib.hid (spec_l01Ascending (c := c) (h.below hb0))
  have HB0 := Lib.hid hb0
  have HBK := Lib.hid hbk
  have H := Lib.hid (h.below hb0)
  have c0 := hbk.cell 0 rfl
  clear h hb0 hbk
  by_cases h2 : n ≤ 2000
  · have h2' : (n : Int) ≤ 2000 := by omega
    cases hr : riseB xss with
    | false =>
      have HF := Lib.hid (show pIsMilnor xss = false by unfold pIsMilnor; rw [hr]; simp)
      rw [hr] at CR
      clear hr hl
      go_enter Try.func113, Try.ntmps113
      go_wp2_with fail
      refine CR.out.mono ?_
      rintro e w1 ⟨rfl, hb⟩
      have HB := Lib.hid (HB0.out.trans (hb.mono HB0.out.size))
      clear hb
      go_wp2
      go_ret
      exact ⟨by first | (rw [HF.out]; rfl) | rw [HF.out], HB.out⟩
    | true =>
      have HF := Lib.hid (show pIsMilnor xss = (xss.all termB && sameB (degW 0 0) xss) by unfold pIsMilnor; rw [hr, decide_eq_true (by omega)]; simp)
      rw [hr] at CR
      clear hr
      go_enter Try.func113, Try.ntmps113
      go_wp2_with fail
      refine CR.out.mono ?_
      rintro e w1 ⟨rfl, hb⟩
      have HB := Lib.hid (HB0.out.trans (hb.mono HB0.out.size))
      have HBK1 := Lib.hid (HBK.out.below hb)
      have H1 := Lib.hid (H.out.below hb)
      clear hb c0
      go_wp2
      go_loopw [3] (fun iv wr => ∃ i : Nat, i ≤ n ∧ iv = .int .i64 (i : Int) ∧ (xss.take i).all termB = true ∧ (∀ x ∈ xss.take i, degW 0 0 x = degW 0 0 (xss.getD 0 [])) ∧ Below w1.heap.size w1 wr) (fun iv _ => n - (intOf iv).toNat)
      case atStart => exact ⟨0, by omega, rfl, by simp, by simp, Below.refl _ _⟩
      case round =>
        obtain ⟨i, hi, rfl, hall, hsm, hbw⟩ := hrel
        have HB := Lib.hid (HB.out.trans (hbw.mono HB.out.size))
        have k0 := (HBK1.out.below hbw).cell 0 rfl
        have H2 := Lib.hid (H1.out.below hbw)
        have HBW := Lib.hid hbw
        clear hbw
        by_cases hlt : i < n
        · have hlt' : (i : Int) < (n : Int) := by omega
          have hn0 : (0 : Int) < (n : Int) := by omega
          obtain ⟨b, off, rfl, _, hc⟩ := H2.out.at_ hlt
          obtain ⟨b2, off2, hA2, _, hc2⟩ := H2.out.at_ (i := 0) (by omega)
          obtain ⟨rfl, rfl⟩ : b = b2 ∧ off = off2 := by simpa using hA2
          have r1 := H2.out.row hlt
          have r2 := H2.out.row (i := 0) (by omega)
          rw [Nat.add_zero] at hc2
          have HTA := Lib.hid (all_take termB xss i (by omega) hall)
          have HMS := Lib.hid (all_miss termB xss i (by omega))
          have HSA := Lib.hid (sameB_take (degW 0 0) xss i (by omega) hsm)
          have HSM := Lib.hid (all_miss (fun x => decide (degW 0 0 x = degW 0 0 (xss.getD 0 []))) xss i (by omega))
          have hz : termB (xss.getD i []) = true → (xss.getD 0 []).length ≤ 10 := by
            intro ht
            rcases Nat.eq_zero_or_pos i with h0 | h0
            · rw [h0] at ht; exact (termB_true ht).1
            · exact (termB_true (List.all_eq_true.1 hall _ (by rw [show xss.getD 0 [] = (xss.take i).getD 0 [] by simp [List.getD, h0]]; exact getD_memS _ _ (by simp; omega)))).1
          have hl1 := r1.len
          have hl2 := r2.len
          clear hall hsm hA2
          have hgx := HSM.out
          unfold sameB at HF
          generalize hxe : xss.getD i [] = x at *
          generalize hye : xss.getD 0 [] = y at *
          generalize vs.getD i nilS = u at *
          generalize vs.getD 0 nilS = v at *
          obtain ⟨uA, un, uc⟩ := u
          obtain ⟨vA, vn, vc⟩ := v
          simp only [sv] at hc hc2
          simp only at r1 r2 hl1 hl2
          have CE := Lib.hid (fun w2 (hb : Below wr.heap.size wr w2) => spec_l01Exponents uA un uc x w2 (r1.below hb))
          cases he : expB x with
          | false =>
            have ht : termB x = false := by unfold termB; rw [he]; rfl
            have HF := Lib.hid (show pIsMilnor xss = false by rw [HF.out, HMS.out ht]; rfl)
            rw [he] at CE
            clear hz hl1 hl2 hgx r1 r2 ht he hl
            go_wp2_with fail
            go_quiet ((first | (go_at_call 150; exact quiet_lefts (CE.out _ (by repeat (first | exact Below.refl _ _ | refine below_drewN ?_ _))))))
            go_wp2
            go_ret
            exact ⟨by first | (rw [HF.out]; rfl) | rw [HF.out], (by repeat (first | exact HB.out | refine below_drewN ?_ _))⟩
          | true =>
            have h10 := (expB_true he).1
            have CD := Lib.hid (fun w2 (hb : Below wr.heap.size wr w2) => spec_l01Degree uA un uc x w2 (r1.below hb) (by omega))
            rw [he] at CE
            by_cases h40 : degW 0 0 x ≤ 40
            · have ht : termB x = true := by unfold termB; rw [he, decide_eq_true h40]; rfl
              have hy10 := hz ht
              have CY := Lib.hid (fun w2 (hb : Below wr.heap.size wr w2) => spec_l01Degree vA vn vc y w2 (r2.below hb) (by omega))
              by_cases hxy : degW 0 0 x = degW 0 0 y
              · have HA2 := Lib.hid (HTA.out ht)
                have HS2 := Lib.hid (HSA.out hxy)
                rw [hxy] at CD h40
                generalize hgy : degW 0 0 y = gy at CD CY h40
                have HG := Lib.hid hgy
                have b40 : decide ((40 : Int) < gy) = false := decide_eq_false (by omega)
                clear hz hl1 hl2 hgx r1 r2 ht he hl hxy hy10 h10 HTA HMS HSA HSM hgy hxe hye
                go_wp2_with fail
                go_quiet ((first | (go_at_call 150; exact quiet_lefts (CE.out _ (by repeat (first | exact Below.refl _ _ | refine below_drewN ?_ _)))) | (go_at_call_of 86 uA; exact quiet_lefts (CD.out _ (by repeat (first | exact Below.refl _ _ | refine below_drewN ?_ _)))) | (go_at_call_of 86 vA; exact quiet_lefts (CY.out _ (by repeat (first | exact Below.refl _ _ | refine below_drewN ?_ _))))))
                go_wp2
                go_roundw
                case rel => exact ⟨i + 1, by omega, by go_num, HA2.out, (fun x hx => (HS2.out x hx).trans HG.out), (by repeat (first | exact HBW.out | refine below_drewN ?_ _))⟩
                case measure => simp [intOf]; omega
              · have HF := Lib.hid (show pIsMilnor xss = false by rw [HF.out, HSM.out (decide_eq_false hxy)]; simp)
                have hne : (degW 0 0 x == degW 0 0 y) = false := by rw [beq_eq_false_iff_ne]; exact hxy
                generalize degW 0 0 x = gx at CD h40 hne
                have b40 : decide ((40 : Int) < gx) = false := decide_eq_false (by omega)
                generalize degW 0 0 y = gy at CY hne
                clear hz hl1 hl2 hgx r1 r2 ht he hl hxy hy10 h10 HTA HMS HSA HSM hxe hye
                go_wp2_with fail
                go_quiet ((first | (go_at_call 150; exact quiet_lefts (CE.out _ (by repeat (first | exact Below.refl _ _ | refine below_drewN ?_ _)))) | (go_at_call_of 86 uA; exact quiet_lefts (CD.out _ (by repeat (first | exact Below.refl _ _ | refine below_drewN ?_ _)))) | (go_at_call_of 86 vA; exact quiet_lefts (CY.out _ (by repeat (first | exact Below.refl _ _ | refine below_drewN ?_ _))))))
                go_wp2
                go_ret
                exact ⟨by first | (rw [HF.out]; rfl) | rw [HF.out], (by repeat (first | exact HB.out | refine below_drewN ?_ _))⟩
            · have ht : termB x = false := by unfold termB; rw [he, decide_eq_false h40]; rfl
              have HF := Lib.hid (show pIsMilnor xss = false by rw [HF.out, HMS.out ht]; rfl)
              generalize degW 0 0 x = gx at CD h40
              clear hz hl1 hl2 hgx r1 r2 ht he hl h10 HTA HMS HSA HSM hxe hye
              go_wp2_with fail
              go_quiet ((first | (go_at_call 150; exact quiet_lefts (CE.out _ (by repeat (first | exact Below.refl _ _ | refine below_drewN ?_ _)))) | (go_at_call 86; first | exact quiet_lefts (CD.out _ (by repeat (first | exact Below.refl _ _ | refine below_drewN ?_ _))))))
              go_wp2
              go_ret
              exact ⟨by first | (rw [HF.out]; rfl) | rw [HF.out], (by repeat (first | exact HB.out | refine below_drewN ?_ _))⟩
        · obtain rfl : i = n := by omega
          have HF2 := Lib.hid (show pIsMilnor xss = true by
            rw [HF.out]
            rw [show xss.take i = xss by rw [← hl]; exact List.take_length] at hall hsm
            rw [hall, Bool.true_and]
            exact List.all_eq_true.2 (fun x hx => decide_eq_true (hsm x hx)))
          clear hall hsm hl
          go_wp2
          go_ret
          exact ⟨by first | (rw [HF2.out]; rfl) | rw [HF2.out], HB.out⟩
  · have h2' : (2000 : Int) < (n : Int) := by omega
    have HF := Lib.hid (show pIsMilnor xss = false by unfold pIsMilnor; rw [decide_eq_false (by omega)]; simp)
    clear hl
    go_enter Try.func113, Try.ntmps113
    go_wp2
    go_ret
    exact ⟨by first | (rw [HF.out]; rfl) | rw [HF.out], HB0.out⟩

theorem spec_IsMilnor {A n c vs xss w} (h : RS w A n vs xss) (hn : n + tot xss ≤ 1048576) :
    Calls Try.prog 51 #[.agg #[.slice A n c]] w fun e w' => e = .returned (.bool (pIsMilnor xss)) ∧ Below w.heap.size w w' := by
  have hb0 := box_below w (.cells #[.slice A n c] 24)
  have CON := Lib.hid (spec_l04Is (c := c) (h.below hb0))
  have HB0 := Lib.hid hb0
  clear h hn hb0
  go_enter Try.func51, Try.ntmps51
  go_wp2_with fail
  refine CON.out.mono ?_
  rintro e w1 ⟨rfl, hb⟩
  have HB := Lib.hid (HB0.out.trans (hb.mono HB0.out.size))
  clear hb
  go_wp2
  go_ret
  exact ⟨rfl, HB.out⟩

end Go.Proofs.Ytindhmgfadipnaa
