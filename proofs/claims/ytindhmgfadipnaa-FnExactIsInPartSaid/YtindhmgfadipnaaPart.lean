/- IsInPart of the program and of the reference. -/
import Derived.Test.YtindhmgfadipnaaMil
import Derived.Test.YtindhmgfadipnaaCl
import Derived.Test.YtindhmgfadipnaaMat
namespace Go.Proofs.Ytindhmgfadipnaa
open Go.ChangeShapes Go.WideShapes Go.ChangeAt Go.RowKit
set_option linter.unusedVariables false

def inW (hs : List Int) (i : Nat) : List Int → Bool
  | [] => true
  | x :: r => if x.toNat / 2 ^ (hs.getD i 0).toNat = 0 then inW hs (i + 1) r else false

def pIsInPart (xss : List (List Int)) (hs : List Int) : Bool × Int :=
  if pIsMilnor xss = true then (if pIsProfile hs = true then (xss.all (inW hs 0), 0) else (false, 1)) else (false, 1)

theorem inW_step (hs xs : List Int) (k : Nat) (h : k < xs.length) : inW hs k (xs.drop k) = if (xs.getD k 0).toNat / 2 ^ (hs.getD k 0).toNat = 0 then inW hs (k + 1) (xs.drop (k + 1)) else false := by
  rw [dropc xs k h]; rfl

theorem inW_end (hs xs : List Int) (k : Nat) (h : xs.length ≤ k) : inW hs k (xs.drop k) = true := by
  rw [List.drop_eq_nil_of_le h]; rfl

set_option maxHeartbeats 400000 in
theorem impl_inPart {A n c xs A' n' c' hs w} (h : RI w A n xs) (g : RI w A' n' hs) (hx : ∀ x ∈ xs, 0 ≤ x ∧ x ≤ 1000000000000) (hn : n ≤ 10) (hp : Prf hs) :
    Calls Try.prog 125 #[.slice A n c, .slice A' n' c'] w fun e w' => e = .returned (.bool (inW hs 0 xs)) ∧ w = w' := by
  have hl := h.len
  have H := Lib.hid h
  have HX := Lib.hid hx
  have CA := Lib.hid (fun j h1 h2 => impl_at A' n' c' hs j w g h1 h2)
  have HP := Lib.hid hp
  clear h g hx hp
  go_enter Try.func125, Try.ntmps125
  go_wp2
  go_loop [9] (fun iv => ∃ i : Nat, i ≤ n ∧ iv = .int .i64 (i : Int) ∧ inW hs i (xs.drop i) = inW hs 0 xs) (fun iv => n - (intOf iv).toNat)
  case atStart => exact ⟨0, by omega, rfl, rfl⟩
  case round =>
    obtain ⟨i, hi, rfl, ht⟩ := hrel
    by_cases hlt : i < n
    · obtain ⟨b, off, rfl, _, hc⟩ := H.out.at_ hlt
      have hxb := HX.out (xs.getD i 0) (by simp [List.getD, show i < xs.length by omega])
      have hst := inW_step hs xs i (by omega)
      rw [ht] at hst
      have hg := prf_get HP.out i
      have CB := CA.out ((i : Int) + 1) (by omega) (by omega)
      rw [show ((i : Int) + 1 - 1).toNat = i by omega] at CB
      generalize xs.getD i 0 = x at *
      generalize hs.getD i 0 = y at *
      obtain ⟨m, rfl⟩ := Int.eq_ofNat_of_zero_le hxb.1
      obtain ⟨e, rfl⟩ := Int.eq_ofNat_of_zero_le hg.1
      rw [Int.toNat_natCast, Int.toNat_natCast] at hst
      have hcd := cast_div m e
      have hmn : min e 64 = e := by omega
      have CB := Lib.hid CB
      clear ht hl
      generalize m / 2 ^ e = q at *
      by_cases hq : q = 0
      · subst hq
        rw [if_pos rfl] at hst
        have HST := Lib.hid hst
        clear hst
        go_wp2_with fail
        refine CB.out.mono ?_
        rintro e w1 ⟨rfl, rfl⟩
        go_wp2
        go_round
        case rel => exact ⟨i + 1, by omega, by go_num, HST.out.symm⟩
        case measure => simp [intOf]; omega
      · rw [if_neg hq] at hst
        have HST := Lib.hid hst
        have hq2 : ((q : Int) == 0) = false := by rw [beq_eq_false_iff_ne]; omega
        clear hst hq
        go_wp2_with fail
        refine CB.out.mono ?_
        rintro e w1 ⟨rfl, rfl⟩
        go_wp2
        go_ret
        exact ⟨by first | (rw [HST.out]; rfl) | rw [HST.out], rfl⟩
    · obtain rfl : i = n := by omega
      rw [inW_end hs xs i (by omega)] at ht
      have HT := Lib.hid ht
      clear ht hl
      go_wp2
      go_ret
      exact ⟨by first | (rw [← HT.out]; rfl) | rw [← HT.out], rfl⟩

set_option maxHeartbeats 800000 in
theorem spec_l07In {A n c xs A' n' c' hs w} (h : RI w A n xs) (g : RI w A' n' hs) (hx : ∀ x ∈ xs, 0 ≤ x ∧ x ≤ 1000000000000) (hn : n ≤ 10) (hp : Prf hs) :
    Calls Try.prog 122 #[.slice A n c, .slice A' n' c'] w fun e w' => e = .returned (.bool (inW hs 0 xs)) ∧ ∃ q, w' = w.drewN q := by
  have hl := h.len
  have H := Lib.hid h
  have HX := Lib.hid hx
  have CA := Lib.hid (fun j w1 (hb : Below w.heap.size w w1) h1 h2 => spec_at A' n' c' hs j w1 (g.below hb) h1 h2)
  have HP := Lib.hid hp
  clear h g hx hp
  go_enter Try.func122, Try.ntmps122
  go_wp2
  go_loopw [5] (fun iv wr => ∃ i : Nat, i ≤ n ∧ iv = .int .i64 (i : Int) ∧ inW hs i (xs.drop i) = inW hs 0 xs ∧ ∃ q, wr = w.drewN q) (fun iv _ => n - (intOf iv).toNat)
  case atStart => exact ⟨0, by omega, rfl, rfl, 0, rfl⟩
  case round =>
    obtain ⟨i, hi, rfl, ht, hwq⟩ := hrel
    have HBW := Lib.hid (show Below w.heap.size w wr by obtain ⟨q, rfl⟩ := hwq; exact below_drewN (Below.refl _ _) _)
    have HWQ := Lib.hid (fun m => show ∃ q, wr.drewN m = w.drewN q by obtain ⟨q, rfl⟩ := hwq; exact ⟨_, by rw [World.drewN_drewN]⟩)
    have HWE := Lib.hid hwq
    clear hwq
    by_cases hlt : i < n
    · obtain ⟨b, off, rfl, _, hc⟩ := (H.out.below HBW.out).at_ hlt
      have hlt' : (i : Int) < (n : Int) := by omega
      have hxb := HX.out (xs.getD i 0) (by simp [List.getD, show i < xs.length by omega])
      have hst := inW_step hs xs i (by omega)
      rw [ht] at hst
      have hg := prf_get HP.out i
      have CB := fun q => CA.out ((i : Int) + 1) (wr.drewN q) (below_drewN HBW.out q) (by omega) (by omega)
      rw [show ((i : Int) + 1 - 1).toNat = i by omega] at CB
      generalize xs.getD i 0 = x at *
      generalize hs.getD i 0 = y at *
      obtain ⟨m, rfl⟩ := Int.eq_ofNat_of_zero_le hxb.1
      obtain ⟨e, rfl⟩ := Int.eq_ofNat_of_zero_le hg.1
      rw [Int.toNat_natCast, Int.toNat_natCast] at hst
      have hmn : min e 64 = e := by omega
      have hpw : IntKind.i64.wrap ((2 : Int) ^ e) = ((2 ^ e : Nat) : Int) := by rw [IntWalk.i64_left]; exact pow_wrap62 e (by omega)
      have hu : IntKind.u64.wrap (e : Int) = (e : Int) := wrap_u64_id _ (by omega) (by omega)
      have hpos : 0 < 2 ^ e := Nat.pow_pos (by omega)
      have hdiv : m / 2 ^ e = 0 ↔ m < 2 ^ e := by rw [Nat.div_eq_zero_iff]; omega
      have CB := Lib.hid CB
      clear ht hl
      generalize 2 ^ e = p at *
      by_cases hq : m < p
      · rw [if_pos (hdiv.2 hq)] at hst
        have HST := Lib.hid hst
        have hd : decide (p ≤ m) = false := decide_eq_false (by omega)
        have hd2 : ¬ p ≤ m := by omega
        clear hst hdiv hq
        go_wp2_with fail
        go_quiet ((go_at_call 153; exact quiet_lefts (CB.out _)))
        go_wp2
        go_roundw
        case rel => exact ⟨i + 1, by omega, by go_num, HST.out.symm, HWQ.out _⟩
        case measure => simp [intOf]; omega
      · rw [if_neg (fun h => hq (hdiv.1 h))] at hst
        have HST := Lib.hid hst
        have hd : decide (p ≤ m) = true := decide_eq_true (by omega)
        have hd2 : p ≤ m := by omega
        clear hst hdiv hq
        go_wp2_with fail
        go_quiet ((go_at_call 153; exact quiet_lefts (CB.out _)))
        go_wp2
        go_ret
        exact ⟨by first | (rw [HST.out]; rfl) | rw [HST.out], HWQ.out _⟩
    · obtain rfl : i = n := by omega
      rw [inW_end hs xs i (by omega)] at ht
      have HT := Lib.hid ht
      clear ht hl
      go_wp2
      go_ret
      exact ⟨by first | (rw [← HT.out]; rfl) | rw [← HT.out], HWE.out⟩

theorem part_pred (w : World) (b : Nat) {A' n' c' hs} (hb : b < w.heap.size) (hc : w.cell? ⟨b, 0, none⟩ = some (.slice A' n' c')) (g : RI w A' n' hs) (hp : Prf hs) : PredL 124 #[.pointer (some ⟨b, 0, none⟩)] w (fun x => termB x = true) (inW hs 0) := by
  refine ⟨Try.call124, fun A n c x w1 hr hx hbw => ?_⟩
  show Calls Try.prog 124 #[.slice A n c, .pointer (some ⟨b, 0, none⟩)] w1 _
  have hc1 := (hbw.cell (p := ⟨b, 0, none⟩) hb).trans hc
  have ht := termB_true hx
  have hl := hr.len
  have CON := Lib.hid (impl_inPart (c := c) (c' := c') hr (g.below hbw) ht.2.1 (by omega) hp)
  clear hbw hc hr hx g ht hl
  go_enter Try.func124, Try.ntmps124
  go_wp2_with fail
  refine CON.out.mono ?_
  rintro e w' ⟨rfl, rfl⟩
  go_wp2
  go_ret
  exact ⟨rfl, Below.refl _ _⟩

set_option maxHeartbeats 400000 in
theorem impl_IsInPart {A n c vs xss A' n' c' hs w} (h : RS w A n vs xss) (hn : n + tot xss ≤ 1048576) (g : RI w A' n' hs) (gn : n' ≤ 1048576) :
    Calls Try.prog 70 #[.agg #[.slice A n c], .slice A' n' c'] w fun e w' => e = .returned (.tuple #[.bool (pIsInPart xss hs).1, .int .i64 (pIsInPart xss hs).2]) ∧ Below w.heap.size w w' := by
  have hmf : ∀ (fn : Fn) (first cap : Array Value) (w : World), (Instr.makeFunc fn first cap).run Try.prog w = .ok (.func fn first cap) w := fun _ _ _ _ => rfl
  have hl := h.len
  have hb1 := box_below w (.cells #[.slice A n c] 24)
  have hb0 := hb1.trans ((box_below (w.alloc (.cells #[.slice A n c] 24)) (.cells #[.slice A' n' c'] 36)).mono hb1.size)
  have k0 := (Blk.new w #[.slice A n c] 24).alloc (.cells #[.slice A' n' c'] 36)
  have k1 := Blk.new (w.alloc (.cells #[.slice A n c] 24)) #[.slice A' n' c'] 36
  rw [show (w.alloc (.cells #[.slice A n c] 24)).heap.size = w.heap.size + 1 by simp] at k1
  have CON := Lib.hid (impl_IsMilnor (c := c) (h.below hb0) hn)
  have H := Lib.hid (h.below hb0)
  have G := Lib.hid (g.below hb0)
  have CP := Lib.hid (fun w1 hb => impl_IsProfile A' n' c' hs w1 (G.out.below hb) gn)
  have HK0 := Lib.hid k0
  have HK1 := Lib.hid k1
  have HB0 := Lib.hid hb0
  have c0 := k0.cell 0 rfl
  have c1 := k1.cell 0 rfl
  clear h hn g gn hb0 hb1 k0 k1
  cases hp : pIsMilnor xss with
  | false =>
    have HF := Lib.hid (show pIsInPart xss hs = (false, 1) by unfold pIsInPart; rw [hp]; rfl)
    rw [hp] at CON
    clear hp hl
    go_enter Try.func70, Try.ntmps70
    go_wp2_with fail
    refine CON.out.mono ?_
    rintro e w1 ⟨rfl, hb⟩
    have HB := Lib.hid (HB0.out.trans (hb.mono HB0.out.size))
    clear hb
    go_wp2
    go_ret2
    exact ⟨by first | (rw [HF.out]; rfl) | rw [HF.out], HB.out⟩
  | true =>
    have hpt := pIsMilnor_true hp
    have HPT := Lib.hid hpt.2.1
    have HP := Lib.hid hp
    rw [hp] at CON
    clear hp hpt
    cases hq : pIsProfile hs with
    | false =>
      have HF := Lib.hid (show pIsInPart xss hs = (false, 1) by unfold pIsInPart; rw [hq]; simp)
      rw [hq] at CP
      clear hq hl
      go_enter Try.func70, Try.ntmps70
      go_wp2_with fail
      refine CON.out.mono ?_
      rintro e w1 ⟨rfl, hb⟩
      have HB := Lib.hid (HB0.out.trans (hb.mono HB0.out.size))
      have HB1 := Lib.hid hb
      clear c0 c1
      have c1 := (HK1.out.below hb).cell 0 rfl
      clear hb
      go_wp2_with fail
      refine (CP.out _ HB1.out).mono ?_
      rintro e w2 ⟨rfl, hb⟩
      have HB2 := Lib.hid (HB.out.trans (hb.mono HB.out.size))
      clear hb
      go_wp2
      go_ret2
      exact ⟨by first | (rw [HF.out]; rfl) | rw [HF.out], HB2.out⟩
    | true =>
      have HF := Lib.hid (show pIsInPart xss hs = (xss.all (inW hs 0), 0) by unfold pIsInPart; rw [if_pos HP.out, if_pos hq])
      have HQ := Lib.hid ((pIsProfile_true hq).2)
      rw [hq] at CP
      clear hq hl
      go_enter Try.func70, Try.ntmps70
      go_wp2_with fail
      refine CON.out.mono ?_
      rintro e w1 ⟨rfl, hb⟩
      have HB := Lib.hid (HB0.out.trans (hb.mono HB0.out.size))
      have HB1 := Lib.hid hb
      clear c0 c1
      have c1 := (HK1.out.below hb).cell 0 rfl
      clear hb
      go_wp2_with fail
      refine (CP.out _ HB1.out).mono ?_
      rintro e w2 ⟨rfl, hb⟩
      have HB2 := Lib.hid (HB.out.trans (hb.mono HB.out.size))
      have HB3 := Lib.hid (HB1.out.trans (hb.mono HB1.out.size))
      clear c1
      have c0 := (HK0.out.below HB3.out).cell 0 rfl
      have hk1 := HK1.out.below HB3.out
      have CA := Lib.hid (allS_any (c := c) _ _ _ _ A n vs xss _ (part_pred w2 (w.heap.size + 1) hk1.lt (hk1.cell 0 rfl) (G.out.below HB3.out) HQ.out) (H.out.below HB3.out) (fun x hx => HPT.out x hx))
      clear hb hk1
      go_wp2_with fail
      refine CA.out.mono ?_
      rintro e w3 ⟨rfl, hb⟩
      have HB4 := Lib.hid (HB2.out.trans (hb.mono HB2.out.size))
      clear hb
      go_wp2
      go_ret2
      exact ⟨by first | (rw [HF.out]; rfl) | rw [HF.out], HB4.out⟩

set_option maxHeartbeats 800000 in
theorem spec_IsInPart {A n c vs xss A' n' c' hs w} (h : RS w A n vs xss) (hn : n + tot xss ≤ 1048576) (g : RI w A' n' hs) (gn : n' ≤ 1048576) :
    Calls Try.prog 68 #[.agg #[.slice A n c], .slice A' n' c'] w fun e w' => e = .returned (.tuple #[.bool (pIsInPart xss hs).1, .int .i64 (pIsInPart xss hs).2]) ∧ Below w.heap.size w w' := by
  have hl := h.len
  have hs2 := h.small
  have hb0 := box_below w (.cells #[.slice A n c] 24)
  have k0 := Blk.new w #[.slice A n c] 24
  have CON := Lib.hid (spec_l04Is (c := c) (h.below hb0))
  have H := Lib.hid (h.below hb0)
  have G := Lib.hid (g.below hb0)
  have CP := Lib.hid (fun w1 hb => spec_l07Is A' n' c' hs w1 (G.out.below hb))
  have HK0 := Lib.hid k0
  have HB0 := Lib.hid hb0
  have c0 := k0.cell 0 rfl
  clear h hn g gn hb0 k0
  cases hp : pIsMilnor xss with
  | false =>
    have HF := Lib.hid (show pIsInPart xss hs = (false, 1) by unfold pIsInPart; rw [hp]; rfl)
    rw [hp] at CON
    clear hp hl
    go_enter Try.func68, Try.ntmps68
    go_wp2_with fail
    refine CON.out.mono ?_
    rintro e w1 ⟨rfl, hb⟩
    have HB := Lib.hid (HB0.out.trans (hb.mono HB0.out.size))
    clear hb
    go_wp2
    go_ret2
    exact ⟨by first | (rw [HF.out]; rfl) | rw [HF.out], HB.out⟩
  | true =>
    have hpt := pIsMilnor_true hp
    have HPT := Lib.hid hpt.2.1
    have HP := Lib.hid hp
    rw [hp] at CON
    clear hp hpt
    cases hq : pIsProfile hs with
    | false =>
      have HF := Lib.hid (show pIsInPart xss hs = (false, 1) by unfold pIsInPart; rw [hq]; simp)
      rw [hq] at CP
      clear hq hl
      go_enter Try.func68, Try.ntmps68
      go_wp2_with fail
      refine CON.out.mono ?_
      rintro e w1 ⟨rfl, hb⟩
      have HB := Lib.hid (HB0.out.trans (hb.mono HB0.out.size))
      have HB1 := Lib.hid hb
      clear c0 hb
      go_wp2_with fail
      refine (CP.out _ HB1.out).mono ?_
      rintro e w2 ⟨rfl, rfl⟩
      go_wp2
      go_ret2
      exact ⟨by first | (rw [HF.out]; rfl) | rw [HF.out], HB.out⟩
    | true =>
      have HF := Lib.hid (show pIsInPart xss hs = (xss.all (inW hs 0), 0) by unfold pIsInPart; rw [if_pos HP.out, if_pos hq])
      have HQ := Lib.hid ((pIsProfile_true hq).2)
      have HL := Lib.hid hl
      rw [hq] at CP
      clear hq hl
      go_enter Try.func68, Try.ntmps68
      go_wp2_with fail
      refine CON.out.mono ?_
      rintro e w1 ⟨rfl, hb⟩
      have HB := Lib.hid (HB0.out.trans (hb.mono HB0.out.size))
      have HB1 := Lib.hid hb
      have HK1 := Lib.hid (HK0.out.below hb)
      have H1 := Lib.hid (H.out.below hb)
      have G1 := Lib.hid (G.out.below hb)
      clear c0 hb
      go_wp2_with fail
      refine (CP.out _ HB1.out).mono ?_
      rintro e w2 ⟨rfl, rfl⟩
      have c0 := HK1.out.cell 0 rfl
      go_wp2
      clear c0
      go_loopw [6] (fun iv wr => ∃ i : Nat, i ≤ n ∧ iv = .int .i64 (i : Int) ∧ (xss.take i).all (inW hs 0) = true ∧ Below w1.heap.size w1 wr) (fun iv _ => n - (intOf iv).toNat)
      case atStart => exact ⟨0, by omega, rfl, by simp, Below.refl _ _⟩
      case round =>
        obtain ⟨i, hi, rfl, hall, hbw⟩ := hrel
        have HBW := Lib.hid hbw
        have HB := Lib.hid (HB.out.trans (hbw.mono HB.out.size))
        have c0 := (HK1.out.below hbw).cell 0 rfl
        have H2 := Lib.hid (H1.out.below hbw)
        have G2 := Lib.hid (G1.out.below hbw)
        clear hbw
        by_cases hlt : i < n
        · have hlt' : (i : Int) < (n : Int) := by omega
          obtain ⟨b, off, rfl, _, hc⟩ := H2.out.at_ hlt
          have hr := H2.out.row hlt
          have hi2 : i < xss.length := by have := HL.out; omega
          have HTA := Lib.hid (all_take (inW hs 0) xss i hi2 hall)
          have HMS := Lib.hid (all_miss (inW hs 0) xss i hi2)
          have ht := termB_true (HPT.out _ (getD_memS xss i hi2))
          generalize xss.getD i [] = x at *
          generalize vs.getD i nilS = u at *
          obtain ⟨uA, un, uc⟩ := u
          simp only [sv] at hc
          simp only at hr
          have hrl := hr.len
          have CI := Lib.hid (spec_l07In (c := uc) (c' := c') hr G2.out ht.2.1 (by omega) HQ.out)
          clear hr hrl hall ht hi2
          cases hz : inW hs 0 x with
          | true =>
            have HA2 := Lib.hid (HTA.out hz)
            rw [hz] at CI
            clear hz
            go_wp2_with fail
            refine CI.out.mono ?_
            rintro e w3 ⟨rfl, q, rfl⟩
            go_wp2
            go_roundw
            case rel => exact ⟨i + 1, by omega, by go_num, HA2.out, below_drewN HBW.out _⟩
            case measure => simp [intOf]; omega
          | false =>
            have HF := Lib.hid (show pIsInPart xss hs = (false, 0) by rw [HF.out, HMS.out hz])
            rw [hz] at CI
            clear hz
            go_wp2_with fail
            refine CI.out.mono ?_
            rintro e w3 ⟨rfl, q, rfl⟩
            go_wp2
            go_ret2
            exact ⟨by first | (rw [HF.out]; rfl) | rw [HF.out], below_drewN HB.out _⟩
        · obtain rfl : i = n := by omega
          have HF := Lib.hid (show pIsInPart xss hs = (true, 0) by
            rw [HF.out]
            rw [show xss.take i = xss by rw [← HL.out]; exact List.take_length] at hall
            rw [hall])
          clear hall
          go_wp2
          go_ret2
          exact ⟨by first | (rw [HF.out]; rfl) | rw [HF.out], HB.out⟩

end Go.Proofs.Ytindhmgfadipnaa
