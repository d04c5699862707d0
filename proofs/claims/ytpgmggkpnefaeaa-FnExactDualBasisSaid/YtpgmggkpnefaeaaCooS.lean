/- MilnorOfCoordinates of the reference. -/
import Derived.Test.YtpgmggkpnefaeaaCoo
import Derived.Deep.RegionLaw
namespace Go.Proofs.Ytpgmggkpnefaeaa
open Go.ChangeShapes Go.WideShapes Go.ChangeAt Go.RowKit
set_option linter.unusedVariables false

theorem spec_l04Basis {d : Nat} {w} (hd : d ≤ 40) :
    Calls Try.prog 74 #[.int .i64 (d : Int)] w fun e w' => ∃ A n c vs, e = .returned (.slice A n c) ∧ OwnS w' w.heap.size A n c vs (parL d) ∧ Below w.heap.size w w' := by
  have CON := Lib.hid (spec_l01All (w := w) hd)
  go_enter Try.func74, Try.ntmps74
  go_wp2_with fail
  refine CON.out.mono ?_
  rintro e w2 ⟨A, l, c, vs, rfl, ho, hb⟩
  have HO := Lib.hid ho
  have HB := Lib.hid hb
  clear ho hb
  go_wp2
  go_ret
  exact ⟨_, _, _, _, rfl, HO.out, HB.out⟩

theorem bad_bit {xs : List Int} (i : Nat) (hi : i < xs.length) (h : bitC (xs.getD i 0) = false) : xs.all bitC = false :=
  List.all_eq_false.2 ⟨xs.getD i 0, by simp [List.getD, hi], by rw [h]; simp⟩

theorem good_bits {xs : List Int} (i : Nat) (hi : i < xs.length) (ht : (xs.take i).all bitC = true) (h : bitC (xs.getD i 0) = true) : (xs.take (i + 1)).all bitC = true := by
  have e : xs.take (i + 1) = xs.take i ++ [xs.getD i 0] := by
    rw [List.take_succ_eq_append_getElem hi]; simp [List.getD, hi]
  rw [e, List.all_append, ht]; simp only [List.all_cons, List.all_nil, h]; rfl

set_option maxRecDepth 100000 in
set_option maxHeartbeats 2000000 in
theorem spec_MilnorOfCoordinates {d : Int} {A n c xs w} (hd : I64 d) (h : RI w A n xs) (hn : n ≤ 1048576) :
    Calls Try.prog 40 #[.int .i64 d, .slice A n c] w fun e w' => ∃ G m q vs, e = .returned (.tuple #[.agg #[.slice G m q], .int .i64 (pMilnorOfCoordinates d xs).2]) ∧ OwnS w' w.heap.size G m q vs (pMilnorOfCoordinates d xs).1 ∧ Below w.heap.size w w' := by
  have hl := h.len
  have hs := h.small
  have hb0 := box_below w (.cells #[.slice none 0 0] 31)
  have hbk := Blk.new w #[.slice none 0 0] 31
  have hz : (w.alloc (.cells #[.slice none 0 0] 31)).heap.size = w.heap.size + 1 := by simp
  have H := Lib.hid (h.below hb0)
  have HB0 := Lib.hid hb0
  have HBK := Lib.hid hbk
  have HZ := Lib.hid hz
  have HL := Lib.hid hl
  clear h hb0 hbk hz hd hl hn
  cases h1 : inB d 0 40 with
  | false =>
    have HF := Lib.hid (show pMilnorOfCoordinates d xs = ([], 2) by unfold pMilnorOfCoordinates; rw [h1]; rfl)
    have HK := Lib.hid h1
    clear h1
    go_enter Try.func40, Try.ntmps40
    go_wp2_with fail
    refine (l01In_any _ _ _ _).mono ?_
    rintro e w' ⟨rfl, rfl⟩
    rw [HK.out]
    generalize w.alloc (.cells #[.slice none 0 0] 31) = W0 at *
    have c20 := HBK.out.cell 0 rfl
    have f20 := HBK.out.free 0
    go_wp2
    refine bodyPost_ret (v := .tuple #[.agg #[.slice none 0 0], .int .i64 2]) (by simp [results, Try.results40, go_sem, c20]) rfl ?_
    rw [HF.out]
    exact ⟨none, 0, 0, [], rfl, OwnS.nil _ _, HB0.out.setCell (Nat.le_refl _) _⟩
  | true =>
    have h1b := inB_true h1
    have HK := Lib.hid h1
    obtain ⟨k, rfl⟩ := Int.eq_ofNat_of_zero_le h1b.1
    have hk : k ≤ 40 := by omega
    have HPF := Lib.hid (par_facts k hk).1
    have HP := Lib.hid (show pMilnorOfCoordinates (k : Int) xs = if xs.length = (parL k).length then (if xs.all bitC = true then (selL xs (parL k), 0) else ([], 2)) else ([], 2) by
      unfold pMilnorOfCoordinates; rw [if_pos h1, Int.toNat_natCast])
    have CP := Lib.hid (fun w1 => spec_l04Basis (d := k) (w := w1) hk)
    clear h1 h1b
    go_enter Try.func40, Try.ntmps40
    go_wp2_with fail
    refine (l01In_any _ _ _ _).mono ?_
    rintro e w' ⟨rfl, rfl⟩
    rw [HK.out]
    generalize w.alloc (.cells #[.slice none 0 0] 31) = W0 at *
    go_wp2_with fail
    refine (CP.out W0).mono ?_
    rintro e w1 ⟨AR, nR, cR, vR, rfl, hoR, hbR⟩
    have hRl := hoR.len
    have hRs : nR ≤ 1000 := by have := HPF.out; omega
    have HB2 := Lib.hid (hbR.alloc hbR.size (.cells #[.slice none 0 0] 31))
    have HBO2 := Lib.hid (Blk.new w1 #[.slice none 0 0] 31)
    have HBX := Lib.hid hbR.size
    have HS0 := Lib.hid (show Sub (w1.alloc (.cells #[.slice none 0 0] 31)) W0.heap.size none 0 0 [] [] AR nR cR vR (parL k) 0 from ⟨OwnS.nil _ _, hoR.alloc _, (fun k h1 h2 => by cases h1), fun i hi => absurd hi (by omega)⟩)
    have HRL := Lib.hid hRl
    clear hoR hbR hRl
    by_cases hnn : n = nR
    · subst hnn
      have HLR := Lib.hid (show xs.length = (parL k).length by rw [HL.out, HRL.out])
      go_wp2
      generalize w1.alloc (.cells #[.slice none 0 0] 31) = W3 at *
      generalize w1.heap.size = bx at *
      go_loopw [8] (fun iv wr => ∃ (i : Nat) (A2 : Option Addr) (n2 c2 : Nat) (vs2 : List Sl) (acc : List (List Int)), i ≤ n ∧ iv = .int .i64 (i : Int) ∧ Blk wr bx 31 #[.slice A2 n2 c2] ∧ Sub wr W0.heap.size A2 n2 c2 vs2 acc AR n cR vR (parL k) i ∧ acc ++ selL (xs.drop i) ((parL k).drop i) = selL xs (parL k) ∧ (xs.take i).all bitC = true ∧ Below W0.heap.size W0 wr) (fun iv _ => n - (intOf iv).toNat)
      case atStart => exact ⟨0, _, _, _, [], [], by omega, rfl, HBO2.out, HS0.out, rfl, by simp, HB2.out⟩
      case round =>
        obtain ⟨i, A2, n2, c2, vs2, acc, hi, rfl, hblk, hsub, ht, hall, hb⟩ := hrel
        clear HS0 HB2 HBO2
        have HBO := Lib.hid hblk
        have HS := Lib.hid hsub
        have HT := Lib.hid ht
        have HA := Lib.hid hall
        have HB := Lib.hid hb
        clear hblk hsub ht hall hb
        by_cases hlt : i < n
        · have hlt' : (i : Int) < (n : Int) := by omega
          obtain ⟨b, off, rfl, hbl, hc⟩ := (H.out.below HB.out).at_ hlt
          have hst := selL_step xs (parL k) i (by have := HL.out; omega) (by have := HRL.out; omega)
          have HBB := Lib.hid (bad_bit (xs := xs) i (by have := HL.out; omega))
          have HGB := Lib.hid (good_bits (xs := xs) i (by have := HL.out; omega) HA.out)
          have hn2 : n2 ≤ 1099511627776 := by
            have h1 := congrArg List.length HT.out
            have h2 := (selL_le xs (parL k)).2
            have h3 := HPF.out
            have h4 := HS.out.own.len
            simp only [List.length_append] at h1
            omega
          obtain ⟨gR, rfl, hgB, hgl⟩ := HS.out.ofR.form (by omega)
          have hcR := HS.out.ofR.cell hlt
          have hrow := HS.out.ofR.row hlt
          have HAP := Lib.hid (HS.out.apart hlt)
          have HPU := Lib.hid (fun w' g c' acc2 (ho : OwnS w' W0.heap.size (some ⟨g, 0, none⟩) (n2 + 1) c' (vs2 ++ [vR.getD i nilS]) acc2) hg hat => HS.out.push hlt ho hg hat)
          generalize xs.getD i 0 = x at *
          generalize (parL k).getD i [] = row at *
          generalize vR.getD i nilS = v at *
          obtain ⟨vA, vn, vc⟩ := v
          simp only at hrow
          simp only [sv] at hcR
          have HROW := Lib.hid hrow
          clear hrow hbl
          cases hbx : bitC x with
          | false =>
            have HF := Lib.hid (HP.out.trans (show _ = (([], 2) : List (List Int) × Int) by rw [HBB.out hbx]; split <;> rfl))
            have HZX := Lib.hid (show inB x 0 1 = false from hbx)
            have HX3 := Lib.hid (HBK.out.below HB.out)
            have c20 := HX3.out.cell 0 rfl
            have f20 := HX3.out.free 0
            clear hst hbx
            go_wp2_with fail
            refine (l01In_any _ _ _ _).mono ?_
            rintro e w' ⟨rfl, rfl⟩
            rw [HZX.out]
            go_wp2
            refine bodyPost_ret (v := .tuple #[.agg #[.slice none 0 0], .int .i64 2]) (by simp [results, Try.results40, go_sem, c20]) rfl ?_
            rw [HF.out]
            exact ⟨none, 0, 0, [], rfl, OwnS.nil _ _, (HB0.out.trans (HB.out.mono HB0.out.size)).setCell (Nat.le_refl _) _⟩
          | true =>
            have HA2 := Lib.hid (HGB.out hbx)
            have HZX := Lib.hid (show inB x 0 1 = true from hbx)
            clear hbx
            by_cases hx1 : x = 1
            · subst hx1
              rw [if_pos rfl] at hst
              have HT2 := Lib.hid (show (acc ++ [row]) ++ selL (xs.drop (i + 1)) ((parL k).drop (i + 1)) = selL xs (parL k) by rw [← HT.out, hst]; simp)
              have k01 := HBO.out.cell 0 (v := .slice A2 n2 c2) rfl
              have hbl2 := HBO.out.lt
              have f01 := HBO.out.free 0
              have HNO := Lib.hid (blk_apartS HBO.out HS.out.own (by decide))
              clear hst
              go_wp2_with fail
              refine (l01In_any _ _ _ _).mono ?_
              rintro e w' ⟨rfl, rfl⟩
              rw [HZX.out]
              go_wp2_with fail
              go_region_law ((refine step_app1D _ _ W0.heap.size A2 n2 c2 vs2 acc (vA, vn, vc) row _ wr.heap.size (by rfl) (by rfl) (by rfl) (by rfl) (HS.out.own.alloc _).drew (HROW.out.alloc _).drew (cell_new _ _ _) HAP.out hn2 (size_new_le _ _ HB.out.size) ?_; intro g c9 w9 ho9 hg9 hat9; have HGW := Lib.hid (show wr.grownBy w9 (A2.map (·.block)) from (World.grownBy_alloc wr _ _).trans ⟨hg9.os, hg9.tape, hg9.output, hg9.size, hg9.block⟩); have HS9 := Lib.hid (HPU.out _ _ _ _ ho9 HGW.out (hat9.imp id (fun h => by first | exact Nat.le_trans (Nat.le_of_lt (size_new wr _)) h | exact Nat.le_trans (box_below wr _).size h))); have HB9 := Lib.hid (HB.out.grown HGW.out HB.out.size (fun k hk => HS.out.own.out_ge hk)); have HBO9 := Lib.hid (HBO.out.grown HGW.out HNO.out); have k01 := HBO9.out.cell 0 (v := .slice A2 n2 c2) rfl; have f01 := HBO9.out.free 0; clear ho9 hg9 hat9))
              all_goals (
                have HS10 := Lib.hid (HS9.out.setBox HBO9.out (by decide) (by decide) 0 (.slice (some ⟨g, 0, none⟩) (n2 + 1) c9))
                have HBO10 := Lib.hid (HBO9.out.set 0 (.slice (some ⟨g, 0, none⟩) (n2 + 1) c9))
                have HB10 := Lib.hid (HB9.out.setCell (p := ⟨bx, 0, none⟩) HBX.out (.slice (some ⟨g, 0, none⟩) (n2 + 1) c9))
                clear k01 f01
                go_wp2
                go_roundw
                case rel => exact ⟨i + 1, _, _, _, _, _, by omega, by go_num, HBO10.out, HS10.out, HT2.out, HA2.out, HB10.out⟩
                case measure => simp [intOf]; omega)
            · have hx0 : (x == 1) = false := by rw [beq_eq_false_iff_ne]; exact hx1
              rw [if_neg hx1] at hst
              have HT2 := Lib.hid (show acc ++ selL (xs.drop (i + 1)) ((parL k).drop (i + 1)) = selL xs (parL k) by rw [← HT.out, hst])
              clear hst hx1
              go_wp2_with fail
              refine (l01In_any _ _ _ _).mono ?_
              rintro e w' ⟨rfl, rfl⟩
              rw [HZX.out]
              go_wp2
              go_roundw
              case rel => exact ⟨i + 1, _, _, _, _, _, by omega, by go_num, HBO.out, HS.out.skip, HT2.out, HA2.out, HB.out⟩
              case measure => simp [intOf]; omega
        · obtain rfl : i = n := by omega
          have ht := HT.out
          rw [selL_end xs (parL k) i (by have := HL.out; omega), List.append_nil] at ht
          have HF := Lib.hid (HP.out.trans (show _ = (selL xs (parL k), 0) by
            rw [if_pos HLR.out, if_pos]
            have h2 := HA.out
            rw [show xs.take i = xs by rw [← HL.out]; exact List.take_length] at h2
            exact h2))
          have HO := Lib.hid (show OwnS wr W0.heap.size A2 n2 c2 vs2 (selL xs (parL k)) by rw [← ht]; exact HS.out.own)
          have HX3 := Lib.hid (HBK.out.below HB.out)
          have c20 := HX3.out.cell 0 rfl
          have f20 := HX3.out.free 0
          have k01 := HBO.out.cell 0 (v := .slice A2 n2 c2) rfl
          clear ht
          go_wp2
          refine bodyPost_ret (v := .tuple #[.agg #[.slice A2 n2 c2], .int .i64 0]) (by simp [results, Try.results40, go_sem, c20]) rfl ?_
          rw [HF.out]
          exact ⟨A2, n2, c2, vs2, rfl, (HO.out.setFar ⟨w.heap.size, 0, none⟩ _ (by show w.heap.size < W0.heap.size; have := HZ.out; omega)).mono (by have := HZ.out; omega), (HB0.out.trans (HB.out.mono HB0.out.size)).setCell (Nat.le_refl _) _⟩
    · have HF := Lib.hid (HP.out.trans (if_neg (by rw [HL.out, HRL.out]; exact hnn)))
      have hne : ((nR : Int) == (n : Int)) = false := by rw [beq_eq_false_iff_ne]; omega
      have hne2 : ((nR : Int) != (n : Int)) = true := by rw [bne, hne]; rfl
      have HX3 := Lib.hid (HBK.out.below HB2.out)
      have c20 := HX3.out.cell 0 rfl
      have f20 := HX3.out.free 0
      go_wp2
      refine bodyPost_ret (v := .tuple #[.agg #[.slice none 0 0], .int .i64 2]) (by simp [results, Try.results40, go_sem, c20]) rfl ?_
      rw [HF.out]
      exact ⟨none, 0, 0, [], rfl, OwnS.nil _ _, (HB0.out.trans (HB2.out.mono HB0.out.size)).setCell (Nat.le_refl _) _⟩

end Go.Proofs.Ytpgmggkpnefaeaa
