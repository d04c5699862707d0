/- MultiplyMatrices of the reference. (gen_mul.py) -/
import Derived.Test.YtindhmgfadipnaaMul
namespace Go.Proofs.Ytindhmgfadipnaa
open Go.ChangeShapes Go.WideShapes Go.ChangeAt Go.RowKit
set_option linter.unusedVariables false

set_option maxRecDepth 100000 in
set_option maxHeartbeats 4000000 in
theorem spec_MultiplyMatrices {k A n c X l A' n' c' Y w} (hk : I64 k) (h : RI w A n X) (hn : n ≤ 1048576) (hk' : I64 l) (h' : RI w A' n' Y) (hn' : n' ≤ 1048576) :
    Calls Try.prog 31 #[.agg #[.int .i64 k, .slice A n c], .agg #[.int .i64 l, .slice A' n' c']] w fun e w' => ∃ G m d, e = .returned (.tuple #[.agg #[.int .i64 (pMultiplyMatrices k X l Y).1.1, .slice G m d], .int .i64 (pMultiplyMatrices k X l Y).2]) ∧ OwnI w' w.heap.size G m d (pMultiplyMatrices k X l Y).1.2 ∧ Below w.heap.size w w' := by
  have HBX := Lib.hid (Box3.new w 40 #[.int .i64 k, .slice A n c] #[.int .i64 l, .slice A' n' c'] #[.int .i64 0, .slice none 0 0])
  have hb0 := box3_below w 40 #[.int .i64 k, .slice A n c] #[.int .i64 l, .slice A' n' c'] #[.int .i64 0, .slice none 0 0]
  have CA := Lib.hid (fun w1 (hb : Below w.heap.size w w1) => spec_l02Is (k := k) (c := c) (h.below hb) hn)
  have CB := Lib.hid (fun w1 (hb : Below w.heap.size w w1) => spec_l02Is (k := l) (c := c') (h'.below hb) hn')
  have HB0 := Lib.hid hb0
  have hl := h.len
  have hl' := h'.len
  have HR := Lib.hid h
  have HR' := Lib.hid h'
  clear h h' hb0 hk hk'
  cases hp : pIsMatrix k X with
  | false =>
    have HF := Lib.hid (show pMultiplyMatrices k X l Y = ((0, []), 1) by unfold pMultiplyMatrices; rw [if_neg (by rw [hp]; simp)])
    rw [hp] at CA
    clear hp
    go_enter Try.func31, Try.ntmps31
    go_wp2_with fail
    generalize ((w.alloc (.cells #[.int .i64 k, .slice A n c] 40)).alloc (.cells #[.int .i64 l, .slice A' n' c'] 40)).alloc (.cells #[.int .i64 0, .slice none 0 0] 40) = W0 at *
    refine (CA.out _ HB0.out).mono ?_
    rintro e w1 ⟨rfl, hb⟩
    have HB := Lib.hid (HB0.out.trans (hb.mono HB0.out.size))
    have HX1 := Lib.hid (HBX.out.below hb)
    have c20 := HX1.out.h2.cell 0 rfl
    have c21 := HX1.out.h2.cell 1 rfl
    have f20 := HX1.out.h2.free 0
    have f21 := HX1.out.h2.free 1
    clear hb
    go_wp2
    refine bodyPost_ret (v := .tuple #[.agg #[.int .i64 0, .slice none 0 0], .int .i64 1]) (by simp [results, Try.results31, go_sem, c20, c21]) rfl ?_
    rw [HF.out]
    exact ⟨none, 0, 0, rfl, OwnI.nil _ _, (HB.out.setCell (by simp; omega) _).setCell (by simp; omega) _⟩
  | true =>
    rw [hp] at CA
    cases hq : pIsMatrix l Y with
    | false =>
      have HF := Lib.hid (show pMultiplyMatrices k X l Y = ((0, []), 1) by unfold pMultiplyMatrices; rw [if_pos hp, if_neg (by rw [hq]; simp)])
      rw [hq] at CB
      clear hp hq
      go_enter Try.func31, Try.ntmps31
      go_wp2_with fail
      generalize ((w.alloc (.cells #[.int .i64 k, .slice A n c] 40)).alloc (.cells #[.int .i64 l, .slice A' n' c'] 40)).alloc (.cells #[.int .i64 0, .slice none 0 0] 40) = W0 at *
      refine (CA.out _ HB0.out).mono ?_
      rintro e w1 ⟨rfl, hb⟩
      have HB := Lib.hid (HB0.out.trans (hb.mono HB0.out.size))
      have HX1 := Lib.hid (HBX.out.below hb)
      have c10 := HX1.out.h1.cell 0 rfl
      have c11 := HX1.out.h1.cell 1 rfl
      clear hb
      go_wp2_with fail
      refine (CB.out _ HB.out).mono ?_
      rintro e w2 ⟨rfl, hb⟩
      have HB2 := Lib.hid (HB.out.trans (hb.mono HB.out.size))
      have HX2 := Lib.hid (HX1.out.below hb)
      clear c10 c11
      have c20 := HX2.out.h2.cell 0 rfl
      have c21 := HX2.out.h2.cell 1 rfl
      have f20 := HX2.out.h2.free 0
      have f21 := HX2.out.h2.free 1
      clear hb
      go_wp2
      refine bodyPost_ret (v := .tuple #[.agg #[.int .i64 0, .slice none 0 0], .int .i64 1]) (by simp [results, Try.results31, go_sem, c20, c21]) rfl ?_
      rw [HF.out]
      exact ⟨none, 0, 0, rfl, OwnI.nil _ _, (HB2.out.setCell (by simp; omega) _).setCell (by simp; omega) _⟩
    | true =>
      rw [hq] at CB
      have HP := Lib.hid hp
      have HQ := Lib.hid hq
      clear hp hq
      by_cases hkl : k = (n' : Int)
      · have HF := Lib.hid (show pMultiplyMatrices k X l Y = ((l, mulL X Y), 0) by unfold pMultiplyMatrices; rw [if_pos HP.out, if_pos HQ.out, if_pos (by rw [hl']; exact hkl)])
        have hpt := pIsMatrix_true HP.out
        have hn60 : n' ≤ 60 := by omega
        have hn200 : n ≤ 200 := by omega
        have HMX := Lib.hid (fun i (hi : i < n) => maskB_true (hpt.2.2.2 (X.getD i 0) (getD_mem X i (by omega))) (by omega))
        clear hpt
        subst hkl
        go_enter Try.func31, Try.ntmps31
        go_wp2_with fail
        generalize ((w.alloc (.cells #[.int .i64 (n' : Int), .slice A n c] 40)).alloc (.cells #[.int .i64 l, .slice A' n' c'] 40)).alloc (.cells #[.int .i64 0, .slice none 0 0] 40) = W0 at *
        refine (CA.out _ HB0.out).mono ?_
        rintro e w1 ⟨rfl, hb⟩
        have HB := Lib.hid (HB0.out.trans (hb.mono HB0.out.size))
        have HX1 := Lib.hid (HBX.out.below hb)
        have c10 := HX1.out.h1.cell 0 rfl
        have c11 := HX1.out.h1.cell 1 rfl
        clear hb
        go_wp2_with fail
        refine (CB.out _ HB.out).mono ?_
        rintro e w2 ⟨rfl, hb⟩
        have HB2 := Lib.hid (HB.out.trans (hb.mono HB.out.size))
        have HX2 := Lib.hid (HX1.out.below hb)
        clear c10 c11 hb
        have c00 := HX2.out.h0.cell 0 rfl
        have c01 := HX2.out.h0.cell 1 rfl
        have c10 := HX2.out.h1.cell 0 rfl
        have c11 := HX2.out.h1.cell 1 rfl
        have HBO := Lib.hid (Blk.new w2 #[.int .i64 l, .slice none 0 0] 40)
        have HX3 := Lib.hid (HX2.out.below (box_below w2 (.cells #[.int .i64 l, .slice none 0 0] 40)))
        have HB3 := Lib.hid (HB2.out.trans ((box_below w2 (.cells #[.int .i64 l, .slice none 0 0] 40)).mono HB2.out.size))
        have hbx : w.heap.size + 1 + 1 < w2.heap.size := HX2.out.h2.lt
        have d01 := HX3.out.h0.cell 1 rfl
        have hne : w.heap.size ≠ w2.heap.size := by omega
        go_wp2
        clear c00 c01 c10 c11 d01 hne
        generalize w2.alloc (.cells #[.int .i64 l, .slice none 0 0] 40) = W3 at *
        generalize w2.heap.size = bx at *
        go_loopw [7] (fun iv wr => ∃ (i : Nat) (A3 : Option Addr) (c3 : Nat), i ≤ n ∧ iv = .int .i64 (i : Int) ∧ Box3 wr w.heap.size 40 #[.int .i64 (n' : Int), .slice A n c] #[.int .i64 l, .slice A' n' c'] #[.int .i64 0, .slice none 0 0] ∧ Blk wr bx 40 #[.int .i64 l, .slice A3 i c3] ∧ OwnI wr (bx + 1) A3 i c3 ((mulL X Y).take i) ∧ Below w.heap.size w wr) (fun iv _ => n - (intOf iv).toNat)
        case atStart => exact ⟨0, none, 0, by omega, rfl, HX3.out, HBO.out, by simpa using OwnI.nil _ _, HB3.out⟩
        case round =>
          obtain ⟨i, A3, c3, hi, rfl, hbx3, hblk, ho, hb⟩ := hrel
          clear HX3 HBO HB3
          have HX4 := Lib.hid hbx3
          have HBO := Lib.hid hblk
          have HO := Lib.hid ho
          have HBW := Lib.hid hb
          clear hbx3 hblk ho hb
          have k0a := HX4.out.h0.cell 1 (v := .slice A n c) rfl
          by_cases hlt : i < n
          · have hlt' : (i : Int) < (n : Int) := by omega
            obtain ⟨b, off, rfl, hbl, hc0⟩ := HR.out.at_ hlt
            have hcx := (HBW.out.cell (p := ⟨b, off + i, none⟩) hbl).trans hc0
            have hxb := HMX.out i hlt
            have htk := mulL_take X Y i (by omega)
            obtain ⟨m, hm⟩ := Int.eq_ofNat_of_zero_le hxb.1
            rw [hm] at hcx hxb htk
            rw [Int.toNat_natCast, hl'] at htk
            have hm63 : m < 9223372036854775808 := by omega
            have HT := Lib.hid htk
            have hti := tim_I64 m Y n'
            have CT := Lib.hid (fun w1 (hb : Below w.heap.size w w1) => spec_l02Times (m := m) (c := c') (HR'.out.below hb) hm63 hn60)
            clear hc0 hbl hm htk
            have k11 := HX4.out.h1.cell 1 (v := .slice A' n' c') rfl
            have k01 := HBO.out.cell 1 (v := .slice A3 i c3) rfl
            have hbl := HBO.out.lt
            have f01 := HBO.out.free 1
            have hb1 : bx + 1 ≤ wr.heap.size := hbl
            go_wp2_with fail
            go_region_law ((first | (refine step_app1 _ _ _ _ _ _ _ _ _ wr.heap.size (by rfl) (by rfl) (by rfl) (by rfl) (HO.out.alloc _).drew (cell_new _ _ _) (size_new _ _) hti (by omega) (size_new_le _ _ hb1) ?_; intro g c9 w9 ho9 hg9; have HO9 := Lib.hid ho9; have HB9 := Lib.hid (((HBW.out.alloc HBW.out.size _).drew).grown hg9 (size_new_le _ _ HBW.out.size) (fun k hk => Nat.le_trans (by omega) (HO.out.row_ge hk))); have HBO9 := Lib.hid (Blk.grown_own (by exact (HBO.out.alloc _).drew) (by exact (HO.out.alloc _).drew) hg9 (by omega)); have HX9 := Lib.hid (Box3.grown_own (by exact (HX4.out.alloc _).drew) (by exact (HO.out.alloc _).drew) hg9 (by omega)); have k11 := HX9.out.h1.cell 1 (v := .slice A' n' c') rfl; have k01 := HBO9.out.cell 1 (v := .slice A3 i c3) rfl; have f01 := HBO9.out.free 1; clear ho9 hg9) | (go_simp; go_at_call 96; refine (CT.out _ (by exact ⟨HBW.out.os, HBW.out.tape, HBW.out.output, HBW.out.size, HBW.out.block⟩)).mono ?_; rintro e w4 ⟨rfl, rfl⟩; dsimp only)))
            all_goals (
              have HO10 := Lib.hid (HO9.out.setFar ⟨bx, 1, none⟩ (.slice (some ⟨g, 0, none⟩) (i + 1) c9) (by show bx < bx + 1; omega))
              have HX10 := Lib.hid (HX9.out.setFar ⟨bx, 1, none⟩ (.slice (some ⟨g, 0, none⟩) (i + 1) c9) (by show w.heap.size + 1 + 1 < bx; omega))
              have HBO10 := Lib.hid (HBO9.out.set 1 (.slice (some ⟨g, 0, none⟩) (i + 1) c9))
              have HB10 := Lib.hid (HB9.out.setCell (p := ⟨bx, 1, none⟩) (by show w.heap.size ≤ bx; omega) (.slice (some ⟨g, 0, none⟩) (i + 1) c9))
              clear k11 k01 f01 k0a
              go_wp2
              go_roundw
              case rel => exact ⟨i + 1, _, _, by omega, by go_num, HX10.out, HBO10.out, by rw [HT.out]; exact HO10.out, HB10.out⟩
              case measure => simp [intOf]; omega)
          · obtain rfl : i = n := by omega
            have k00 := HBO.out.cell 0 (v := .int .i64 l) rfl
            have k01 := HBO.out.cell 1 (v := .slice A3 i c3) rfl
            have r20 := HX4.out.h2.cell 0 rfl
            have r21 := HX4.out.h2.cell 1 rfl
            have f20 := HX4.out.h2.free 0
            have f21 := HX4.out.h2.free 1
            have HOE := Lib.hid (show OwnI wr (bx + 1) A3 i c3 (mulL X Y) by
              have := HO.out
              rw [List.take_of_length_le (by simp [mulL]; omega)] at this
              exact this)
            go_wp2
            refine bodyPost_ret (v := .tuple #[.agg #[.int .i64 l, .slice A3 i c3], .int .i64 0]) (by simp [results, Try.results31, go_sem, r20, r21]) rfl ?_
            rw [HF.out]
            exact ⟨A3, i, c3, rfl, ((HOE.out.setFar ⟨w.heap.size + 1 + 1, 0, none⟩ _ (by show w.heap.size + 1 + 1 < bx + 1; omega)).setFar ⟨w.heap.size + 1 + 1, 1, none⟩ _ (by show w.heap.size + 1 + 1 < bx + 1; omega)).mono (by omega), (HBW.out.setCell (by simp; omega) _).setCell (by simp; omega) _⟩
      · have HF := Lib.hid (show pMultiplyMatrices k X l Y = ((0, []), 2) by unfold pMultiplyMatrices; rw [if_pos HP.out, if_pos HQ.out, if_neg (by rw [hl']; exact hkl)])
        have hkn : (k == (n' : Int)) = false := by rw [beq_eq_false_iff_ne]; exact hkl
        have hkn2 : (k != (n' : Int)) = true := by rw [bne, hkn]; rfl
        go_enter Try.func31, Try.ntmps31
        go_wp2_with fail
        generalize ((w.alloc (.cells #[.int .i64 k, .slice A n c] 40)).alloc (.cells #[.int .i64 l, .slice A' n' c'] 40)).alloc (.cells #[.int .i64 0, .slice none 0 0] 40) = W0 at *
        refine (CA.out _ HB0.out).mono ?_
        rintro e w1 ⟨rfl, hb⟩
        have HB := Lib.hid (HB0.out.trans (hb.mono HB0.out.size))
        have HX1 := Lib.hid (HBX.out.below hb)
        have c10 := HX1.out.h1.cell 0 rfl
        have c11 := HX1.out.h1.cell 1 rfl
        clear hb
        go_wp2_with fail
        refine (CB.out _ HB.out).mono ?_
        rintro e w2 ⟨rfl, hb⟩
        have HB2 := Lib.hid (HB.out.trans (hb.mono HB.out.size))
        have HX2 := Lib.hid (HX1.out.below hb)
        clear c10 c11
        have c00 := HX2.out.h0.cell 0 rfl
        have c11 := HX2.out.h1.cell 1 rfl
        have c20 := HX2.out.h2.cell 0 rfl
        have c21 := HX2.out.h2.cell 1 rfl
        have f20 := HX2.out.h2.free 0
        have f21 := HX2.out.h2.free 1
        clear hb
        go_wp2
        refine bodyPost_ret (v := .tuple #[.agg #[.int .i64 0, .slice none 0 0], .int .i64 2]) (by simp [results, Try.results31, go_sem, c20, c21]) rfl ?_
        rw [HF.out]
        exact ⟨none, 0, 0, rfl, OwnI.nil _ _, (HB2.out.setCell (by simp; omega) _).setCell (by simp; omega) _⟩

end Go.Proofs.Ytindhmgfadipnaa
