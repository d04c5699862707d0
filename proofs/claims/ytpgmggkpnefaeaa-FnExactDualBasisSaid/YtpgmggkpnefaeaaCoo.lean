/- MilnorOfCoordinates of the program and of the reference. -/
import Derived.Test.YtpgmggkpnefaeaaSub
import Derived.Test.YtpgmggkpnefaeaaParP
import Derived.Test.YtpgmggkpnefaeaaAll
import Derived.Test.YtpgmggkpnefaeaaBlk
namespace Go.Proofs.Ytpgmggkpnefaeaa
open Go.ChangeShapes Go.WideShapes Go.ChangeAt Go.RowKit
set_option linter.unusedVariables false

def bitC (x : Int) : Bool := inB x 0 1

def pMilnorOfCoordinates (d : Int) (xs : List Int) : List (List Int) × Int :=
  if inB d 0 40 = true then (if xs.length = (parL d.toNat).length then (if xs.all bitC = true then (selL xs (parL d.toNat), 0) else ([], 2)) else ([], 2)) else ([], 2)

theorem pMilnorOfCoordinates_sz (d : Int) (xs : List Int) (h : xs.length ≤ 1048576) : tot (pMilnorOfCoordinates d xs).1 ≤ 4000000000 := by
  unfold pMilnorOfCoordinates
  split
  · rename_i h1
    have hb := inB_true h1
    split
    · split
      · have h2 := (selL_le xs (parL d.toNat)).1
        have h3 := (par_facts d.toNat (by omega)).2.1
        show tot (selL xs (parL d.toNat)) ≤ 4000000000
        omega
      · simp [tot]
    · simp [tot]
  · simp [tot]

theorem bitc_pred (w : World) : PredI 76 #[] w bitC := by
  refine ⟨Try.call76, fun x w1 hx hb => ?_⟩
  show Calls Try.prog 76 #[.int .i64 x] w1 _
  clear hb hx
  go_enter Try.func76, Try.ntmps76
  go_wp2_with (go_at_call 90; refine (in_any _ _ _ _).mono ?_; rintro e w' ⟨rfl, rfl⟩)
  go_ret
  exact ⟨rfl, Below.refl _ _⟩

theorem isDegree_any (n : Int) (w : World) : Calls Try.prog 62 #[.int .i64 n] w fun e w' => e = .returned (.bool (inB n 0 40)) ∧ w = w' := by
  go_enter Try.func62, Try.ntmps62
  go_wp2_with (go_at_call 90; refine (in_any _ _ _ _).mono ?_; rintro e w' ⟨rfl, rfl⟩)
  go_ret
  exact ⟨rfl, rfl⟩

set_option maxHeartbeats 1000000 in
theorem impl_MilnorOfCoordinates {d : Int} {A n c xs w} (hd : I64 d) (h : RI w A n xs) (hn : n ≤ 1048576) :
    Calls Try.prog 42 #[.int .i64 d, .slice A n c] w fun e w' => ∃ G m q vs, e = .returned (.tuple #[.agg #[.slice G m q], .int .i64 (pMilnorOfCoordinates d xs).2]) ∧ OwnS w' w.heap.size G m q vs (pMilnorOfCoordinates d xs).1 ∧ Below w.heap.size w w' := by
  have hl := h.len
  have hs := h.small
  have hb0 := box_below w (.cells #[.slice none 0 0] 31)
  have hbk := Blk.new w #[.slice none 0 0] 31
  have hz : (w.alloc (.cells #[.slice none 0 0] 31)).heap.size = w.heap.size + 1 := by simp
  have H := Lib.hid (h.below hb0)
  have HB0 := Lib.hid hb0
  have HBK := Lib.hid hbk
  have HZ := Lib.hid hz
  have HL := Lib.hid hl
  clear h hb0 hbk hz hd hl hn
  cases h1 : inB d 0 40 with
  | false =>
    have HF := Lib.hid (show pMilnorOfCoordinates d xs = ([], 2) by unfold pMilnorOfCoordinates; rw [h1]; rfl)
    have HK := Lib.hid h1
    clear h1
    go_enter Try.func42, Try.ntmps42
    go_wp2_with fail
    refine (isDegree_any _ _).mono ?_
    rintro e w' ⟨rfl, rfl⟩
    rw [HK.out]
    generalize w.alloc (.cells #[.slice none 0 0] 31) = W0 at *
    have c20 := HBK.out.cell 0 rfl
    have f20 := HBK.out.free 0
    go_wp2
    refine bodyPost_ret (v := .tuple #[.agg #[.slice none 0 0], .int .i64 2]) (by simp [results, Try.results42, go_sem, c20]) rfl ?_
    rw [HF.out]
    exact ⟨none, 0, 0, [], rfl, OwnS.nil _ _, HB0.out.setCell (Nat.le_refl _) _⟩
  | true =>
    have h1b := inB_true h1
    have HK := Lib.hid h1
    obtain ⟨k, rfl⟩ := Int.eq_ofNat_of_zero_le h1b.1
    have hk : k ≤ 40 := by omega
    have HPF := Lib.hid (par_facts k hk).1
    have HP := Lib.hid (show pMilnorOfCoordinates (k : Int) xs = if xs.length = (parL k).length then (if xs.all bitC = true then (selL xs (parL k), 0) else ([], 2)) else ([], 2) by
      unfold pMilnorOfCoordinates; rw [if_pos h1, Int.toNat_natCast])
    have CP := Lib.hid (fun w1 => impl_partitions (d := k) (w := w1) hk)
    clear h1 h1b
    go_enter Try.func42, Try.ntmps42
    go_wp2_with fail
    refine (isDegree_any _ _).mono ?_
    rintro e w' ⟨rfl, rfl⟩
    rw [HK.out]
    generalize w.alloc (.cells #[.slice none 0 0] 31) = W0 at *
    go_wp2_with fail
    refine (CP.out W0).mono ?_
    rintro e w1 ⟨AR, nR, cR, vR, rfl, hoR, hbR⟩
    have hRl := hoR.len
    have hRs : nR ≤ 1000 := by have := HPF.out; omega
    have HB2 := Lib.hid (hbR.alloc hbR.size (.cells #[] 51))
    have HS0 := Lib.hid (show Sub (w1.alloc (.cells #[] 51)) W0.heap.size (some ⟨w1.heap.size, 0, none⟩) 0 0 [] [] AR nR cR vR (parL k) 0 from ⟨(emptyS_own w1).mono hbR.size, hoR.alloc _, fun k h1 h2 => by
      have e1 : w1.heap.size = k := by simpa using h1
      have l2 := hoR.inS.1 k h2
      omega, fun i hi => absurd hi (by omega)⟩)
    have HRL := Lib.hid hRl
    clear hoR hbR hRl
    by_cases hnn : n = nR
    · subst hnn
      have CA := Lib.hid (fun w2 hb => all_any _ _ _ A n c xs w2 (bitc_pred w2) (H.out.below hb))
      cases ha : xs.all bitC with
      | false =>
        have HF := Lib.hid (HP.out.trans (show _ = (([], 2) : List (List Int) × Int) by rw [ha]; split <;> rfl))
        rw [ha] at CA
        clear ha
        go_wp2_with fail
        refine (CA.out _ HB2.out).mono ?_
        rintro e w3 ⟨rfl, hb3⟩
        have HB3 := Lib.hid (HB2.out.trans (hb3.mono HB2.out.size))
        have HX3 := Lib.hid (HBK.out.below HB3.out)
        clear hb3
        have c20 := HX3.out.cell 0 rfl
        have f20 := HX3.out.free 0
        go_wp2
        refine bodyPost_ret (v := .tuple #[.agg #[.slice none 0 0], .int .i64 2]) (by simp [results, Try.results42, go_sem, c20]) rfl ?_
        rw [HF.out]
        exact ⟨none, 0, 0, [], rfl, OwnS.nil _ _, (HB0.out.trans (HB3.out.mono HB0.out.size)).setCell (Nat.le_refl _) _⟩
      | true =>
        have HF := Lib.hid (HP.out.trans (show _ = (selL xs (parL k), 0) by rw [if_pos (by rw [HL.out, HRL.out]), if_pos ha]))
        have HBT := Lib.hid (List.all_eq_true.1 ha)
        rw [ha] at CA
        clear ha
        go_wp2_with fail
        refine (CA.out _ HB2.out).mono ?_
        rintro e w3 ⟨rfl, hb3⟩
        have HB3 := Lib.hid (HB2.out.trans (hb3.mono HB2.out.size))
        have HS3 := Lib.hid (HS0.out.below hb3)
        clear hb3
        go_wp2
        go_loopw [7, 30] (fun v iv wr => ∃ (i : Nat) (A2 : Option Addr) (n2 c2 : Nat) (vs2 : List Sl) (acc : List (List Int)), i ≤ n ∧ iv = .int .i64 (i : Int) ∧ v = .slice A2 n2 c2 ∧ Sub wr W0.heap.size A2 n2 c2 vs2 acc AR n cR vR (parL k) i ∧ acc ++ selL (xs.drop i) ((parL k).drop i) = selL xs (parL k) ∧ Below W0.heap.size W0 wr) (fun _ iv _ => n - (intOf iv).toNat)
        case atStart => exact ⟨0, _, _, _, [], [], by omega, rfl, rfl, HS3.out, rfl, HB3.out⟩
        case round =>
          obtain ⟨i, A2, n2, c2, vs2, acc, hi, rfl, rfl, hsub, ht, hb⟩ := hrel
          clear HS3 HB3
          have HS := Lib.hid hsub
          have HT := Lib.hid ht
          have HB := Lib.hid hb
          clear hsub ht hb
          by_cases hlt : i < n
          · have hlt' : (i : Int) < (n : Int) := by omega
            obtain ⟨b, off, rfl, hbl, hc⟩ := (H.out.below HB.out).at_ hlt
            have hxm : xs.getD i 0 ∈ xs := by have := HL.out; simp [List.getD, show i < xs.length by omega]
            have hxb := inB_true (HBT.out _ hxm)
            have hst := selL_step xs (parL k) i (by have := HL.out; omega) (by have := HRL.out; omega)
            have hn2 : n2 ≤ 1099511627776 := by
              have h1 := congrArg List.length HT.out
              have h2 := (selL_le xs (parL k)).2
              have h3 := HPF.out
              have h4 := HS.out.own.len
              simp only [List.length_append] at h1
              omega
            obtain ⟨gR, rfl, hgB, hgl⟩ := HS.out.ofR.form (by omega)
            have hcR := HS.out.ofR.cell hlt
            have hrow := HS.out.ofR.row hlt
            have HAP := Lib.hid (HS.out.apart hlt)
            have HPU := Lib.hid (fun w' g c' acc2 (ho : OwnS w' W0.heap.size (some ⟨g, 0, none⟩) (n2 + 1) c' (vs2 ++ [vR.getD i nilS]) acc2) hg hat => HS.out.push hlt ho hg hat)
            generalize xs.getD i 0 = x at *
            generalize (parL k).getD i [] = row at *
            generalize vR.getD i nilS = v at *
            obtain ⟨vA, vn, vc⟩ := v
            simp only at hrow
            simp only [sv] at hcR
            have HROW := Lib.hid hrow
            clear hrow hxm hbl
            by_cases hx1 : x = 1
            · subst hx1
              rw [if_pos rfl] at hst
              have HT2 := Lib.hid (show (acc ++ [row]) ++ selL (xs.drop (i + 1)) ((parL k).drop (i + 1)) = selL xs (parL k) by rw [← HT.out, hst]; simp)
              clear hst
              go_wp2_with (at_builtin; refine app1D _ _ W0.heap.size A2 n2 c2 vs2 acc (vA, vn, vc) row wr rfl rfl rfl rfl HS.out.own HROW.out HAP.out hn2 HB.out.size ?_; intro g5 c5 W4 ho4 hg4 hat4)
              have HS4 := Lib.hid (HPU.out _ _ _ _ ho4 hg4 (hat4.imp id (fun h => Nat.le_of_lt h)))
              have HB4 := Lib.hid (HB.out.grown hg4 HB.out.size (fun k hk => HS.out.own.out_ge hk))
              clear ho4 hg4 hat4
              go_wp2
              go_roundw
              case rel => exact ⟨i + 1, _, _, _, _, _, by omega, by go_num, rfl, HS4.out, HT2.out, HB4.out⟩
              case measure => simp [intOf]; omega
            · have hx0 : (x == 1) = false := by rw [beq_eq_false_iff_ne]; exact hx1
              rw [if_neg hx1] at hst
              have HT2 := Lib.hid (show acc ++ selL (xs.drop (i + 1)) ((parL k).drop (i + 1)) = selL xs (parL k) by rw [← HT.out, hst])
              clear hst hx1
              go_wp2
              go_roundw
              case rel => exact ⟨i + 1, _, _, _, _, _, by omega, by go_num, rfl, HS.out.skip, HT2.out, HB.out⟩
              case measure => simp [intOf]; omega
          · obtain rfl : i = n := by omega
            have ht := HT.out
            rw [selL_end xs (parL k) i (by have := HL.out; omega), List.append_nil] at ht
            have HO := Lib.hid (show OwnS wr W0.heap.size A2 n2 c2 vs2 (selL xs (parL k)) by rw [← ht]; exact HS.out.own)
            have HX3 := Lib.hid (HBK.out.below HB.out)
            have c20 := HX3.out.cell 0 rfl
            have f20 := HX3.out.free 0
            clear ht
            go_wp2
            refine bodyPost_ret (v := .tuple #[.agg #[.slice A2 n2 c2], .int .i64 0]) (by simp [results, Try.results42, go_sem, c20]) rfl ?_
            rw [HF.out]
            exact ⟨A2, n2, c2, vs2, rfl, (HO.out.setFar ⟨w.heap.size, 0, none⟩ _ (by show w.heap.size < W0.heap.size; have := HZ.out; omega)).mono (by have := HZ.out; omega), (HB0.out.trans (HB.out.mono HB0.out.size)).setCell (Nat.le_refl _) _⟩
    · have HF := Lib.hid (HP.out.trans (if_neg (by rw [HL.out, HRL.out]; exact hnn)))
      have hne : ((n : Int) == (nR : Int)) = false := by rw [beq_eq_false_iff_ne]; omega
      have hne2 : ((n : Int) != (nR : Int)) = true := by rw [bne, hne]; rfl
      have HX3 := Lib.hid (HBK.out.below HB2.out)
      have c20 := HX3.out.cell 0 rfl
      have f20 := HX3.out.free 0
      go_wp2
      refine bodyPost_ret (v := .tuple #[.agg #[.slice none 0 0], .int .i64 2]) (by simp [results, Try.results42, go_sem, c20]) rfl ?_
      rw [HF.out]
      exact ⟨none, 0, 0, [], rfl, OwnS.nil _ _, (HB0.out.trans (HB2.out.mono HB0.out.size)).setCell (Nat.le_refl _) _⟩

end Go.Proofs.Ytpgmggkpnefaeaa
