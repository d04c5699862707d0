/- IsPoly of the reference. -/
import Derived.Test.YtindhmgfadipnaaPoly
namespace Go.Proofs.Ytindhmgfadipnaa
open Go.ChangeShapes Go.WideShapes Go.ChangeAt Go.RowKit
set_option linter.unusedVariables false

theorem take_allI (p : Int → Bool) (x : List Int) (j : Nat) (h : j < x.length) (ht : (x.take j).all p = true) (hx : p (x.getD j 0) = true) : (x.take (j + 1)).all p = true := by
  have e : x.take (j + 1) = x.take j ++ [x.getD j 0] := by
    rw [List.take_succ_eq_append_getElem h]; simp [List.getD, h]
  rw [e, List.all_append, ht]; simp only [List.all_cons, List.all_nil, hx]; rfl

theorem miss_allI (p : Int → Bool) (x : List Int) (j : Nat) (h : j < x.length) (hx : p (x.getD j 0) = false) : x.all p = false :=
  List.all_eq_false.2 ⟨x.getD j 0, by simp [List.getD, h], by rw [hx]; simp⟩

set_option maxRecDepth 100000 in
set_option maxHeartbeats 2000000 in
theorem spec_l08Is {k : Int} {A n c vs xss w} (h : RS w A n vs xss) :
    Calls Try.prog 115 #[.agg #[.int .i64 k, .slice A n c]] w fun e w' => e = .returned (.bool (pIsPoly k xss)) ∧ Below w.heap.size w w' := by
  have hl := h.len
  have hs := h.small
  have hb0 := box_below w (.cells #[.int .i64 k, .slice A n c] 69)
  have hbk := Blk.new w #[.int .i64 k, .slice A n c] 69
  have CR := Lib.hid (spec_l01Ascending (c := c) (h.below hb0))
  have HB0 := Lib.hid hb0
  have HBK := Lib.hid hbk
  have H := Lib.hid (h.below hb0)
  have c0 := hbk.cell 0 rfl
  have c1 := hbk.cell 1 rfl
  clear h hb0 hbk
  cases hk4 : inB k 1 4 with
  | false =>
    have HF := Lib.hid (show pIsPoly k xss = false by unfold pIsPoly; rw [hk4]; simp)
    have HK := Lib.hid hk4
    clear hk4 hl
    go_enter Try.func115, Try.ntmps115
    go_wp2_with fail
    refine (l01In_any _ _ _ _).mono ?_
    rintro e w' ⟨rfl, rfl⟩
    rw [HK.out]
    go_wp2
    go_ret
    exact ⟨by first | (rw [HF.out]; rfl) | rw [HF.out], HB0.out⟩
  | true =>
    have HK := Lib.hid hk4
    clear hk4
    by_cases h2 : n ≤ 2000
    · have h2' : (n : Int) ≤ 2000 := by omega
      cases hr : riseB xss with
      | false =>
        have HF := Lib.hid (show pIsPoly k xss = false by unfold pIsPoly; rw [hr]; simp)
        rw [hr] at CR
        clear hr hl
        go_enter Try.func115, Try.ntmps115
        go_wp2_with fail
        refine (l01In_any _ _ _ _).mono ?_
        rintro e w' ⟨rfl, rfl⟩
        rw [HK.out]
        go_wp2_with fail
        refine CR.out.mono ?_
        rintro e w1 ⟨rfl, hb⟩
        have HB := Lib.hid (HB0.out.trans (hb.mono HB0.out.size))
        clear hb
        go_wp2
        go_ret
        exact ⟨by first | (rw [HF.out]; rfl) | rw [HF.out], HB.out⟩
      | true =>
        have HF := Lib.hid (show pIsPoly k xss = (xss.all (monoB k) && sameB (sumW 0) xss) by unfold pIsPoly; rw [hr, HK.out, decide_eq_true (by omega)]; simp)
        rw [hr] at CR
        clear hr
        go_enter Try.func115, Try.ntmps115
        go_wp2_with fail
        refine (l01In_any _ _ _ _).mono ?_
        rintro e w' ⟨rfl, rfl⟩
        rw [HK.out]
        go_wp2_with fail
        refine CR.out.mono ?_
        rintro e w1 ⟨rfl, hb⟩
        have HB := Lib.hid (HB0.out.trans (hb.mono HB0.out.size))
        have HBK1 := Lib.hid (HBK.out.below hb)
        have H1 := Lib.hid (H.out.below hb)
        clear hb c0 c1
        go_wp2
        go_loopw [3] (fun iv wr => ∃ i : Nat, i ≤ n ∧ iv = .int .i64 (i : Int) ∧ (xss.take i).all (monoB k) = true ∧ (∀ x ∈ xss.take i, sumW 0 x = sumW 0 (xss.getD 0 [])) ∧ Below w1.heap.size w1 wr) (fun iv _ => n - (intOf iv).toNat)
        case atStart => exact ⟨0, by omega, rfl, by simp, by simp, Below.refl _ _⟩
        case round =>
          obtain ⟨i, hi, rfl, hall, hsm, hbw⟩ := hrel
          have HB := Lib.hid (HB.out.trans (hbw.mono HB.out.size))
          have k0 := (HBK1.out.below hbw).cell 0 rfl
          have k1 := (HBK1.out.below hbw).cell 1 rfl
          have H2 := Lib.hid (H1.out.below hbw)
          have HBW := Lib.hid hbw
          clear hbw
          by_cases hlt : i < n
          · have hlt' : (i : Int) < (n : Int) := by omega
            have hn0 : (0 : Int) < (n : Int) := by omega
            obtain ⟨b, off, rfl, _, hc⟩ := H2.out.at_ hlt
            obtain ⟨b2, off2, hA2, _, hc2⟩ := H2.out.at_ (i := 0) (by omega)
            obtain ⟨rfl, rfl⟩ : b = b2 ∧ off = off2 := by simpa using hA2
            have r1 := H2.out.row hlt
            have r2 := H2.out.row (i := 0) (by omega)
            rw [Nat.add_zero] at hc2
            have HTA := Lib.hid (all_take (monoB k) xss i (by omega) hall)
            have HMS := Lib.hid (all_miss (monoB k) xss i (by omega))
            have HSA := Lib.hid (sameB_take (sumW 0) xss i (by omega) hsm)
            have HSM := Lib.hid (all_miss (fun x => decide (sumW 0 x = sumW 0 (xss.getD 0 []))) xss i (by omega))
            have hl1 := r1.len
            have hs1 := r1.small
            clear hall hsm hA2
            unfold sameB at HF
            generalize hxe : xss.getD i [] = x at *
            generalize hye : xss.getD 0 [] = y at *
            generalize vs.getD i nilS = u at *
            generalize vs.getD 0 nilS = v at *
            obtain ⟨uA, un, uc⟩ := u
            obtain ⟨vA, vn, vc⟩ := v
            simp only [sv] at hc hc2
            simp only at r1 r2 hl1 hs1
            have R1 := Lib.hid r1
            have CD := Lib.hid (fun w2 (hb : Below wr.heap.size wr w2) => spec_sum uA un uc x w2 (r1.below hb))
            have CY := Lib.hid (fun w2 (hb : Below wr.heap.size wr w2) => spec_sum vA vn vc y w2 (r2.below hb))
            clear r1 r2 hxe hye
            by_cases hnk : (un : Int) = k
            · subst hnk
              have HL1 := Lib.hid hl1
              clear hl1 hl
              go_wp2_with fail
              go_quiet (fail)
              generalize hwo : wr.drewN _ = wo
              have HWO := Lib.hid (show Below wr.heap.size wr wo by rw [← hwo]; exact below_drewN (Below.refl _ _) _)
              have j0 : wo.cell? ⟨w.heap.size, 0, none⟩ = some (.int .i64 (un : Int)) := by rw [← hwo]; exact k0
              have j1 : wo.cell? ⟨w.heap.size, 1, none⟩ = some (.slice (some ⟨b, off, none⟩) n c) := by rw [← hwo]; exact k1
              have jc : wo.cell? ⟨b, off + i, none⟩ = some (.slice uA un uc) := by rw [← hwo]; exact hc
              have jc2 : wo.cell? ⟨b, off, none⟩ = some (.slice vA vn vc) := by rw [← hwo]; exact hc2
              have RO := Lib.hid (R1.out.below HWO.out)
              clear hwo k0 k1 hc hc2
              go_wp2
              go_loopw [4] (fun jv wi => ∃ j : Nat, j ≤ un ∧ jv = .int .i64 (j : Int) ∧ (x.take j).all degB = true ∧ wi = wo) (fun jv _ => un - (intOf jv).toNat)
              case atStart => exact ⟨0, by omega, rfl, by simp, rfl⟩
              case round =>
                obtain ⟨j, hj, rfl, haj, rfl⟩ := hrel
                by_cases hjl : j < un
                · have hjl' : (j : Int) < (un : Int) := by omega
                  obtain ⟨b3, off3, rfl, _, hc3⟩ := RO.out.at_ hjl
                  have HJ := Lib.hid (take_allI degB x j (by have := HL1.out; omega) haj)
                  have HN := Lib.hid (miss_allI degB x j (by have := HL1.out; omega))
                  clear haj
                  generalize x.getD j 0 = z at *
                  cases hz : degB z with
                  | true =>
                    have HJ2 := Lib.hid (HJ.out hz)
                    have HZ := Lib.hid (show inB z 0 40 = true from hz)
                    clear hz
                    go_wp2_with fail
                    refine (l01In_any _ _ _ _).mono ?_
                    rintro e w' ⟨rfl, rfl⟩
                    rw [HZ.out]
                    go_wp2
                    go_roundw
                    case rel => exact ⟨j + 1, by omega, by go_num, HJ2.out, by trivial⟩
                    case measure => simp [intOf]; omega
                  | false =>
                    have HZ := Lib.hid (show inB z 0 40 = false from hz)
                    have HF := Lib.hid (show pIsPoly (un : Int) xss = false by
                      have e : monoB (un : Int) x = false := by unfold monoB; rw [HN.out hz]; simp
                      rw [HF.out, HMS.out e]; rfl)
                    clear hz
                    go_wp2_with fail
                    refine (l01In_any _ _ _ _).mono ?_
                    rintro e w' ⟨rfl, rfl⟩
                    rw [HZ.out]
                    go_wp2
                    go_ret
                    exact ⟨by first | (rw [HF.out]; rfl) | rw [HF.out], HB.out.trans (HWO.out.mono HB.out.size)⟩
                · obtain rfl : j = un := by omega
                  have HD := Lib.hid (show x.all degB = true by
                    have e : x.take j = x := by rw [← HL1.out]; exact List.take_length
                    rw [e] at haj; exact haj)
                  have HM := Lib.hid (show monoB (j : Int) x = decide (sumW 0 x ≤ 40) by unfold monoB; rw [HD.out, HL1.out]; simp)
                  clear haj
                  by_cases h40 : sumW 0 x ≤ 40
                  · have b40 : decide ((40 : Int) < sumW 0 x) = false := decide_eq_false (by omega)
                    have HM2 := Lib.hid (HM.out.trans (decide_eq_true h40))
                    by_cases hxy : sumW 0 x = sumW 0 y
                    · have HA2 := Lib.hid (HTA.out HM2.out)
                      have HS2 := Lib.hid (HSA.out hxy)
                      rw [hxy] at CD h40 b40
                      generalize hgy : sumW 0 y = gy at CD CY h40 b40
                      have HG := Lib.hid hgy
                      clear hxy HTA HMS HSA HSM hgy HM HM2
                      go_wp2_with fail
                      refine (CD.out _ HWO.out).mono ?_
                      rintro e w' ⟨rfl, rfl⟩
                      go_wp2_with fail
                      refine (CY.out _ HWO.out).mono ?_
                      rintro e w' ⟨rfl, rfl⟩
                      go_wp2
                      go_roundw
                      case rel => exact ⟨i + 1, by omega, by go_num, HA2.out, (fun x hx => HS2.out x hx), HBW.out.trans (HWO.out.mono HBW.out.size)⟩
                      case measure => simp [intOf]; omega
                    · have HF := Lib.hid (show pIsPoly (j : Int) xss = false by rw [HF.out, HSM.out (decide_eq_false hxy)]; simp)
                      have hne : (sumW 0 x == sumW 0 y) = false := by rw [beq_eq_false_iff_ne]; exact hxy
                      generalize sumW 0 x = gx at CD hne h40 b40
                      generalize sumW 0 y = gy at CY hne
                      clear hxy HTA HMS HSA HSM HM HM2
                      go_wp2_with fail
                      refine (CD.out _ HWO.out).mono ?_
                      rintro e w' ⟨rfl, rfl⟩
                      go_wp2_with fail
                      refine (CY.out _ HWO.out).mono ?_
                      rintro e w' ⟨rfl, rfl⟩
                      go_wp2
                      go_ret
                      exact ⟨by first | (rw [HF.out]; rfl) | rw [HF.out], HB.out.trans (HWO.out.mono HB.out.size)⟩
                  · have b40 : decide ((40 : Int) < sumW 0 x) = true := decide_eq_true (by omega)
                    have HF := Lib.hid (show pIsPoly (j : Int) xss = false by rw [HF.out, HMS.out (HM.out.trans (decide_eq_false h40))]; rfl)
                    generalize sumW 0 x = gx at CD h40 b40
                    clear HTA HMS HSA HSM HM
                    go_wp2_with fail
                    refine (CD.out _ HWO.out).mono ?_
                    rintro e w' ⟨rfl, rfl⟩
                    go_wp2
                    go_ret
                    exact ⟨by first | (rw [HF.out]; rfl) | rw [HF.out], HB.out.trans (HWO.out.mono HB.out.size)⟩
            · have hne : ((un : Int) == k) = false := by rw [beq_eq_false_iff_ne]; exact hnk
              have HF := Lib.hid (show pIsPoly k xss = false by
                have e : monoB k x = false := by unfold monoB; rw [hl1, decide_eq_false hnk]; rfl
                rw [HF.out, HMS.out e]; rfl)
              clear hnk HTA HMS HSA HSM hl1 hl
              go_wp2_with fail
              go_quiet (fail)
              go_wp2
              go_ret
              exact ⟨by first | (rw [HF.out]; rfl) | rw [HF.out], (by repeat (first | exact HB.out | refine below_drewN ?_ _))⟩
          · obtain rfl : i = n := by omega
            have HF2 := Lib.hid (show pIsPoly k xss = true by
              rw [HF.out]
              rw [show xss.take i = xss by rw [← hl]; exact List.take_length] at hall hsm
              rw [hall, Bool.true_and]
              exact List.all_eq_true.2 (fun x hx => decide_eq_true (hsm x hx)))
            clear hall hsm hl
            go_wp2
            go_ret
            exact ⟨by first | (rw [HF2.out]; rfl) | rw [HF2.out], HB.out⟩
    · have h2' : (2000 : Int) < (n : Int) := by omega
      have HF := Lib.hid (show pIsPoly k xss = false by unfold pIsPoly; rw [decide_eq_false (by omega)]; simp)
      clear hl
      go_enter Try.func115, Try.ntmps115
      go_wp2_with fail
      refine (l01In_any _ _ _ _).mono ?_
      rintro e w' ⟨rfl, rfl⟩
      rw [HK.out]
      go_wp2
      go_ret
      exact ⟨by first | (rw [HF.out]; rfl) | rw [HF.out], HB0.out⟩

theorem spec_IsPoly {k : Int} {A n c vs xss w} (hk : I64 k) (h : RS w A n vs xss) (hn : n + tot xss ≤ 1048576) :
    Calls Try.prog 55 #[.agg #[.int .i64 k, .slice A n c]] w fun e w' => e = .returned (.bool (pIsPoly k xss)) ∧ Below w.heap.size w w' := by
  have hb0 := box_below w (.cells #[.int .i64 k, .slice A n c] 69)
  have CON := Lib.hid (spec_l08Is (k := k) (c := c) (h.below hb0))
  have HB0 := Lib.hid hb0
  clear h hn hb0 hk
  go_enter Try.func55, Try.ntmps55
  go_wp2_with fail
  refine CON.out.mono ?_
  rintro e w1 ⟨rfl, hb⟩
  have HB := Lib.hid (HB0.out.trans (hb.mono HB0.out.size))
  clear hb
  go_wp2
  go_ret
  exact ⟨rfl, HB.out⟩

end Go.Proofs.Ytindhmgfadipnaa
