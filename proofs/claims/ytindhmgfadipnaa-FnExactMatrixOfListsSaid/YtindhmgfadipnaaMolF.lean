/- MatrixOfLists of the program. -/
import Derived.Test.YtindhmgfadipnaaMol
import Derived.Test.YtindhmgfadipnaaMul
namespace Go.Proofs.Ytindhmgfadipnaa
open Go.ChangeShapes Go.WideShapes Go.ChangeAt Go.RowKit
set_option linter.unusedVariables false

theorem maskL_take (xss : List (List Int)) (i : Nat) (h : i < xss.length) : (xss.map maskL).take (i + 1) = (xss.map maskL).take i ++ [maskL (xss.getD i [])] := by
  rw [List.take_succ_eq_append_getElem (by simpa using h)]
  simp [List.getD, h]

theorem pMol_bad {k : Int} {xss : List (List Int)} (h : xss.all (rowB k) = false) : pMatrixOfLists k xss = ((0, []), 2) := by
  unfold pMatrixOfLists
  rw [h]
  split
  · split
    · rfl
    · rfl
  · rfl

set_option maxRecDepth 100000 in
set_option maxHeartbeats 4000000 in
theorem impl_MatrixOfLists {k : Int} {A n c vs xss w} (hk : I64 k) (h : RS w A n vs xss) (hn : n + tot xss ≤ 1048576) :
    Calls Try.prog 38 #[.int .i64 k, .slice A n c] w fun e w' => ∃ G m d, e = .returned (.tuple #[.agg #[.int .i64 (pMatrixOfLists k xss).1.1, .slice G m d], .int .i64 (pMatrixOfLists k xss).2]) ∧ OwnI w' w.heap.size G m d (pMatrixOfLists k xss).1.2 ∧ Below w.heap.size w w' := by
  have hl := h.len
  have hs := h.small
  have hb0 := box_below w (.cells #[.int .i64 0, .slice none 0 0] 40)
  have hbk := Blk.new w #[.int .i64 0, .slice none 0 0] 40
  have H := Lib.hid h
  have HB0 := Lib.hid hb0
  have HBK := Lib.hid hbk
  have HL := Lib.hid hl
  clear h hb0 hbk hk hl
  cases h1 : inB k 0 60 with
  | false =>
    have HF := Lib.hid (show pMatrixOfLists k xss = ((0, []), 2) by unfold pMatrixOfLists; rw [h1]; rfl)
    have HK := Lib.hid h1
    clear h1
    go_enter Try.func38, Try.ntmps38
    go_wp2_with fail
    refine (in_any _ _ _ _).mono ?_
    rintro e w' ⟨rfl, rfl⟩
    rw [HK.out]
    generalize w.alloc (.cells #[.int .i64 0, .slice none 0 0] 40) = W0 at *
    have r20 := HBK.out.cell 0 rfl
    have r21 := HBK.out.cell 1 rfl
    have f20 := HBK.out.free 0
    have f21 := HBK.out.free 1
    go_wp2
    refine bodyPost_ret (v := .tuple #[.agg #[.int .i64 0, .slice none 0 0], .int .i64 2]) (by simp [results, Try.results38, go_sem, r20, r21]) rfl ?_
    rw [HF.out]
    exact ⟨none, 0, 0, rfl, OwnI.nil _ _, (HB0.out.setCell (Nat.le_refl _) _).setCell (Nat.le_refl _) _⟩
  | true =>
    have h1b := inB_true h1
    have HK := Lib.hid h1
    by_cases h200 : n ≤ 200
    · have h200' : (n : Int) ≤ 200 := by omega
      have HF := Lib.hid (show xss.all (rowB k) = true → pMatrixOfLists k xss = ((k, xss.map maskL), 0) by
        intro ha
        unfold pMatrixOfLists
        rw [if_pos h1, if_pos (by have := HL.out; omega), if_pos ha])
      clear h1
      go_enter Try.func38, Try.ntmps38
      go_wp2_with fail
      refine (in_any _ _ _ _).mono ?_
      rintro e w' ⟨rfl, rfl⟩
      rw [HK.out]
      generalize w.alloc (.cells #[.int .i64 0, .slice none 0 0] 40) = W0 at *
      have HBO := Lib.hid (Blk.new W0 #[.int .i64 k, .slice none 0 0] 40)
      have HX1 := Lib.hid (HBK.out.alloc (.cells #[.int .i64 k, .slice none 0 0] 40))
      have HB1 := Lib.hid (HB0.out.trans ((box_below W0 (.cells #[.int .i64 k, .slice none 0 0] 40)).mono HB0.out.size))
      have hbx : w.heap.size < W0.heap.size := HBK.out.lt
      go_wp2
      generalize W0.alloc (.cells #[.int .i64 k, .slice none 0 0] 40) = W3 at *
      generalize W0.heap.size = bx at *
      go_loopw [22] (fun iv wr => ∃ (i : Nat) (A3 : Option Addr) (c3 : Nat), i ≤ n ∧ iv = .int .i64 (i : Int) ∧ Blk wr w.heap.size 40 #[.int .i64 0, .slice none 0 0] ∧ Blk wr bx 40 #[.int .i64 k, .slice A3 i c3] ∧ OwnI wr (bx + 1) A3 i c3 ((xss.map maskL).take i) ∧ (xss.take i).all (rowB k) = true ∧ Below w.heap.size w wr) (fun iv _ => n - (intOf iv).toNat)
      case atStart => exact ⟨0, none, 0, by omega, rfl, HX1.out, HBO.out, by simpa using OwnI.nil _ _, by simp, HB1.out⟩
      case round =>
        obtain ⟨i, A3, c3, hi, rfl, hx4, hblk, ho, hall, hb⟩ := hrel
        clear HX1 HBO HB1
        have HX4 := Lib.hid hx4
        have HBO := Lib.hid hblk
        have HO := Lib.hid ho
        have HBW := Lib.hid hb
        have HA := Lib.hid hall
        clear hx4 hblk ho hb hall
        by_cases hlt : i < n
        · obtain ⟨b, off, rfl, hbl, hc⟩ := (H.out.below HBW.out).at_ hlt
          have hr := (H.out.below HBW.out).row hlt
          have hi2 : i < xss.length := by have := HL.out; omega
          have HTA := Lib.hid (all_take (rowB k) xss i hi2 HA.out)
          have HMS := Lib.hid (all_miss (rowB k) xss i hi2)
          have HTK := Lib.hid (maskL_take xss i hi2)
          generalize xss.getD i [] = x at *
          generalize vs.getD i nilS = u at *
          obtain ⟨uA, un, uc⟩ := u
          simp only [sv] at hc
          simp only at hr
          have hrl := hr.len
          have hrs := hr.small
          have HR := Lib.hid hr
          have HRL := Lib.hid hrl
          clear hr hrl hi2
          by_cases hnk : (un : Int) = k
          · have CA := Lib.hid (all_any _ _ _ uA un uc x wr (bit_pred wr) HR.out)
            have hne : ((un : Int) != k) = false := by rw [bne_eq_false_iff_eq]; exact hnk
            cases ha : x.all bitB with
            | true =>
              have HRB := Lib.hid (show rowB k x = true by unfold rowB; rw [ha, HRL.out, decide_eq_true hnk]; rfl)
              have HA2 := Lib.hid (HTA.out HRB.out)
              have hun : un ≤ 60 := by omega
              have CM := Lib.hid (fun w1 (hb : Below wr.heap.size wr w1) => impl_maskOf (c := uc) (HR.out.below hb) ha hun)
              have hmi := mskF_I64 x 0 0 I64_0
              rw [show mskF 0 0 x = maskL x from rfl] at hmi
              rw [ha] at CA
              generalize maskL x = y at *
              clear ha hnk
              go_wp2_with fail
              refine CA.out.mono ?_
              rintro e w5 ⟨rfl, hb5⟩
              have HO5 := Lib.hid (HO.out.below hb5)
              have HX5 := Lib.hid (HX4.out.below hb5)
              have HBO5 := Lib.hid (HBO.out.below hb5)
              have HB5 := Lib.hid (HBW.out.trans (hb5.mono HBW.out.size))
              have CM5 := Lib.hid (fun w1 (hb : Below w5.heap.size w5 w1) => CM.out w1 (hb5.trans (hb.mono hb5.size)))
              have k01 := HBO5.out.cell 1 (v := .slice A3 i c3) rfl
              have hbl5 := HBO5.out.lt
              have f01 := HBO5.out.free 1
              have hb15 : bx + 1 ≤ w5.heap.size := hbl5
              clear hb5 hc hbl
              go_wp2_with fail
              go_region_law ((first | (refine step_app1 _ _ _ _ _ _ _ _ _ w5.heap.size (by rfl) (by rfl) (by rfl) (by rfl) (HO5.out.alloc _).drew (cell_new _ _ _) (size_new _ _) hmi (by omega) (size_new_le _ _ hb15) ?_; intro g c9 w9 ho9 hg9; have HO9 := Lib.hid ho9; have HB9 := Lib.hid (((HB5.out.alloc HB5.out.size _).drew).grown hg9 (size_new_le _ _ HB5.out.size) (fun k hk => Nat.le_trans (by omega) (HO5.out.row_ge hk))); have HBO9 := Lib.hid (Blk.grown_own (by exact (HBO5.out.alloc _).drew) (by exact (HO5.out.alloc _).drew) hg9 (by omega)); have HX9 := Lib.hid (Blk.grown_own (by exact (HX5.out.alloc _).drew) (by exact (HO5.out.alloc _).drew) hg9 (by omega)); have k01 := HBO9.out.cell 1 (v := .slice A3 i c3) rfl; have f01 := HBO9.out.free 1; clear ho9 hg9) | (go_simp; go_at_call 103; refine (CM5.out _ (by exact ⟨rfl, rfl, rfl, Nat.le_refl _, fun _ _ => rfl⟩)).mono ?_; rintro e w4 ⟨rfl, rfl⟩; dsimp only)))
              all_goals (
                have HO10 := Lib.hid (HO9.out.setFar ⟨bx, 1, none⟩ (.slice (some ⟨g, 0, none⟩) (i + 1) c9) (by show bx < bx + 1; omega))
                have HX10 := Lib.hid (HX9.out.setFar ⟨bx, 1, none⟩ (.slice (some ⟨g, 0, none⟩) (i + 1) c9) (by show bx ≠ w.heap.size; omega))
                have HBO10 := Lib.hid (HBO9.out.set 1 (.slice (some ⟨g, 0, none⟩) (i + 1) c9))
                have HB10 := Lib.hid (HB9.out.setCell (p := ⟨bx, 1, none⟩) (by show w.heap.size ≤ bx; omega) (.slice (some ⟨g, 0, none⟩) (i + 1) c9))
                clear k01 f01
                go_wp2
                go_roundw
                case rel => exact ⟨i + 1, _, _, by omega, by go_num, HX10.out, HBO10.out, by rw [HTK.out]; exact HO10.out, HA2.out, HB10.out⟩
                case measure => simp [intOf]; omega)
            | false =>
              have HRB := Lib.hid (show rowB k x = false by unfold rowB; rw [ha]; simp)
              have HF2 := Lib.hid (pMol_bad (k := k) (HMS.out HRB.out))
              rw [ha] at CA
              clear ha hnk
              go_wp2_with fail
              refine CA.out.mono ?_
              rintro e w5 ⟨rfl, hb5⟩
              have HX5 := Lib.hid (HX4.out.below hb5)
              have HB5 := Lib.hid (HBW.out.trans (hb5.mono HBW.out.size))
              have r20 := HX5.out.cell 0 rfl
              have r21 := HX5.out.cell 1 rfl
              have f20 := HX5.out.free 0
              have f21 := HX5.out.free 1
              clear hb5 hc hbl
              go_wp2
              refine bodyPost_ret (v := .tuple #[.agg #[.int .i64 0, .slice none 0 0], .int .i64 2]) (by simp [results, Try.results38, go_sem, r20, r21]) rfl ?_
              rw [HF2.out]
              exact ⟨none, 0, 0, rfl, OwnI.nil _ _, (HB5.out.setCell (Nat.le_refl _) _).setCell (Nat.le_refl _) _⟩
          · have hne : ((un : Int) == k) = false := by rw [beq_eq_false_iff_ne]; exact hnk
            have hne2 : ((un : Int) != k) = true := by rw [bne, hne]; rfl
            have HRB := Lib.hid (show rowB k x = false by unfold rowB; rw [HRL.out, decide_eq_false hnk]; rfl)
            have HF2 := Lib.hid (pMol_bad (k := k) (HMS.out HRB.out))
            have r20 := HX4.out.cell 0 rfl
            have r21 := HX4.out.cell 1 rfl
            have f20 := HX4.out.free 0
            have f21 := HX4.out.free 1
            clear hnk hbl
            go_wp2
            refine bodyPost_ret (v := .tuple #[.agg #[.int .i64 0, .slice none 0 0], .int .i64 2]) (by simp [results, Try.results38, go_sem, r20, r21]) rfl ?_
            rw [HF2.out]
            exact ⟨none, 0, 0, rfl, OwnI.nil _ _, (HBW.out.setCell (Nat.le_refl _) _).setCell (Nat.le_refl _) _⟩
        · obtain rfl : i = n := by omega
          have HF2 := Lib.hid (HF.out (by
            have := HA.out
            rw [show xss.take i = xss by rw [← HL.out]; exact List.take_length] at this
            exact this))
          have k00 := HBO.out.cell 0 (v := .int .i64 k) rfl
          have k01 := HBO.out.cell 1 (v := .slice A3 i c3) rfl
          have r20 := HX4.out.cell 0 rfl
          have r21 := HX4.out.cell 1 rfl
          have f20 := HX4.out.free 0
          have f21 := HX4.out.free 1
          have HOE := Lib.hid (show OwnI wr (bx + 1) A3 i c3 (xss.map maskL) by
            have := HO.out
            rw [List.take_of_length_le (by simp; have := HL.out; omega)] at this
            exact this)
          go_wp2
          refine bodyPost_ret (v := .tuple #[.agg #[.int .i64 k, .slice A3 i c3], .int .i64 0]) (by simp [results, Try.results38, go_sem, r20, r21]) rfl ?_
          rw [HF2.out]
          exact ⟨A3, i, c3, rfl, ((HOE.out.setFar ⟨w.heap.size, 0, none⟩ _ (by show w.heap.size < bx + 1; omega)).setFar ⟨w.heap.size, 1, none⟩ _ (by show w.heap.size < bx + 1; omega)).mono (by omega), (HBW.out.setCell (Nat.le_refl _) _).setCell (Nat.le_refl _) _⟩
    · have h200' : (200 : Int) < (n : Int) := by omega
      have HF := Lib.hid (show pMatrixOfLists k xss = ((0, []), 2) by
        unfold pMatrixOfLists
        rw [if_pos h1, if_neg (by have := HL.out; omega)])
      clear h1
      go_enter Try.func38, Try.ntmps38
      go_wp2_with fail
      refine (in_any _ _ _ _).mono ?_
      rintro e w' ⟨rfl, rfl⟩
      rw [HK.out]
      generalize w.alloc (.cells #[.int .i64 0, .slice none 0 0] 40) = W0 at *
      have r20 := HBK.out.cell 0 rfl
      have r21 := HBK.out.cell 1 rfl
      have f20 := HBK.out.free 0
      have f21 := HBK.out.free 1
      go_wp2
      refine bodyPost_ret (v := .tuple #[.agg #[.int .i64 0, .slice none 0 0], .int .i64 2]) (by simp [results, Try.results38, go_sem, r20, r21]) rfl ?_
      rw [HF.out]
      exact ⟨none, 0, 0, rfl, OwnI.nil _ _, (HB0.out.setCell (Nat.le_refl _) _).setCell (Nat.le_refl _) _⟩

end Go.Proofs.Ytindhmgfadipnaa
