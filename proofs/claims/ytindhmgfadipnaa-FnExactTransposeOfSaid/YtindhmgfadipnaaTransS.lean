/- TransposeOf of the reference. -/
import Derived.Test.YtindhmgfadipnaaTrans
namespace Go.Proofs.Ytindhmgfadipnaa
open Go.ChangeShapes Go.WideShapes Go.ChangeAt Go.RowKit
set_option linter.unusedVariables false

theorem spec_l02Few {k A n c xs w} (h : RI w A n xs) (hn : n ≤ 1048576) :
    Calls Try.prog 105 #[.agg #[.int .i64 k, .slice A n c]] w fun e w' => e = .returned (.int .i64 (if pIsMatrix k xs = true then (if n ≤ 60 then 0 else 2) else 1)) ∧ Below w.heap.size w w' := by
  have hb0 := box_below w (.cells #[.int .i64 k, .slice A n c] 40)
  have hbk := Blk.new w #[.int .i64 k, .slice A n c] 40
  have CON := Lib.hid (spec_l02Is (k := k) (c := c) (h.below hb0) hn)
  have HB0 := Lib.hid hb0
  have HBK := Lib.hid hbk
  have hs := h.small
  clear h hb0 hbk
  cases hp : pIsMatrix k xs with
  | false =>
    rw [hp] at CON
    rw [if_neg (by simp)]
    clear hp
    go_enter Try.func105, Try.ntmps105
    go_wp2_with fail
    refine CON.out.mono ?_
    rintro e w1 ⟨rfl, hb⟩
    have HB := Lib.hid (HB0.out.trans (hb.mono HB0.out.size))
    clear hb
    go_wp2
    go_ret
    exact ⟨rfl, HB.out⟩
  | true =>
    rw [hp] at CON
    rw [if_pos rfl]
    clear hp
    by_cases h60 : n ≤ 60
    · rw [if_pos h60]
      have h60' : (n : Int) ≤ 60 := by omega
      go_enter Try.func105, Try.ntmps105
      go_wp2_with fail
      refine CON.out.mono ?_
      rintro e w1 ⟨rfl, hb⟩
      have HB := Lib.hid (HB0.out.trans (hb.mono HB0.out.size))
      have c1 := (HBK.out.below hb).cell 1 rfl
      clear hb
      go_wp2
      go_ret
      exact ⟨rfl, HB.out⟩
    · rw [if_neg h60]
      have h60' : (60 : Int) < (n : Int) := by omega
      go_enter Try.func105, Try.ntmps105
      go_wp2_with fail
      refine CON.out.mono ?_
      rintro e w1 ⟨rfl, hb⟩
      have HB := Lib.hid (HB0.out.trans (hb.mono HB0.out.size))
      have c1 := (HBK.out.below hb).cell 1 rfl
      clear hb
      go_wp2
      go_ret
      exact ⟨rfl, HB.out⟩

set_option maxHeartbeats 1000000 in
theorem spec_TransposeOf {k A n c X w} (hk : I64 k) (h : RI w A n X) (hn : n ≤ 1048576) :
    Calls Try.prog 43 #[.agg #[.int .i64 k, .slice A n c]] w fun e w' => ∃ G m d, e = .returned (.tuple #[.agg #[.int .i64 (pTransposeOf k X).1.1, .slice G m d], .int .i64 (pTransposeOf k X).2]) ∧ OwnI w' w.heap.size G m d (pTransposeOf k X).1.2 ∧ Below w.heap.size w w' := by
  have hl := h.len
  have hb0 := box2_below w 40 #[.int .i64 k, .slice A n c] #[.int .i64 0, .slice none 0 0]
  have hbx := Box2.new w 40 #[.int .i64 k, .slice A n c] #[.int .i64 0, .slice none 0 0]
  have hz : ((w.alloc (.cells #[.int .i64 k, .slice A n c] 40)).alloc (.cells #[.int .i64 0, .slice none 0 0] 40)).heap.size = w.heap.size + 2 := by simp
  have CON := Lib.hid (spec_l02Few (k := k) (c := c) (h.below hb0) hn)
  have H := Lib.hid (h.below hb0)
  have HB0 := Lib.hid hb0
  have HBX := Lib.hid hbx
  have HZ := Lib.hid hz
  clear h hb0 hbx hk hz
  cases hp : pIsMatrix k X with
  | false =>
    have HF := Lib.hid (show pTransposeOf k X = ((0, []), 1) by unfold pTransposeOf; rw [hp]; rfl)
    rw [hp, if_neg (by simp)] at CON
    clear hp hl
    go_enter Try.func43, Try.ntmps43
    go_wp2_with fail
    generalize (w.alloc (.cells #[.int .i64 k, .slice A n c] 40)).alloc (.cells #[.int .i64 0, .slice none 0 0] 40) = W0 at *
    refine CON.out.mono ?_
    rintro e w1 ⟨rfl, hb⟩
    have HB := Lib.hid (HB0.out.trans (hb.mono HB0.out.size))
    have HX1 := Lib.hid (HBX.out.below hb)
    clear hb
    have r20 := HX1.out.h1.cell 0 rfl
    have r21 := HX1.out.h1.cell 1 rfl
    have f20 := HX1.out.h1.free 0
    have f21 := HX1.out.h1.free 1
    go_wp2
    refine bodyPost_ret (v := .tuple #[.agg #[.int .i64 0, .slice none 0 0], .int .i64 1]) (by simp [results, Try.results43, go_sem, r20, r21]) rfl ?_
    rw [HF.out]
    exact ⟨none, 0, 0, rfl, OwnI.nil _ _, (HB.out.setCell (Nat.le_succ _) _).setCell (Nat.le_succ _) _⟩
  | true =>
    have hpt := pIsMatrix_true hp
    obtain ⟨d, rfl⟩ := Int.eq_ofNat_of_zero_le hpt.1
    rw [hp, if_pos rfl] at CON
    by_cases h60 : n ≤ 60
    · have HF := Lib.hid (show pTransposeOf (d : Int) X = (((n : Int), turnL X d n), 0) by unfold pTransposeOf; rw [if_pos hp, if_pos (by omega), Int.toNat_natCast, hl])
      have hd60 : d ≤ 60 := by omega
      have HM := Lib.hid (fun x (hx : x ∈ X) => maskB_true (hpt.2.2.2 x hx) (by omega))
      rw [if_pos h60] at CON
      clear hp hl hpt
      go_enter Try.func43, Try.ntmps43
      go_wp2_with fail
      generalize (w.alloc (.cells #[.int .i64 (d : Int), .slice A n c] 40)).alloc (.cells #[.int .i64 0, .slice none 0 0] 40) = W0 at *
      refine CON.out.mono ?_
      rintro e w1 ⟨rfl, hb⟩
      have HB := Lib.hid (HB0.out.trans (hb.mono HB0.out.size))
      have HX1 := Lib.hid (HBX.out.below hb)
      have CT := Lib.hid (spec_l02Turn (c := c) (d := d) (H.out.below hb) HM.out h60 hd60)
      have hlt1 := HX1.out.h1.lt
      clear hb
      have k00 := HX1.out.h0.cell 0 rfl
      have k01 := HX1.out.h0.cell 1 rfl
      go_wp2_with fail
      refine CT.out.mono ?_
      rintro e w4 ⟨G, q, rfl, ho4, hb4⟩
      have HO4 := Lib.hid ho4
      have HB4 := Lib.hid (HB.out.trans (hb4.mono HB.out.size))
      have HX4 := Lib.hid (HX1.out.below hb4)
      clear ho4 hb4 k00 k01
      have r20 := HX4.out.h1.cell 0 rfl
      have r21 := HX4.out.h1.cell 1 rfl
      have f20 := HX4.out.h1.free 0
      have f21 := HX4.out.h1.free 1
      go_wp2
      refine bodyPost_ret (v := .tuple #[.agg #[.int .i64 (n : Int), .slice G d q], .int .i64 0]) (by simp [results, Try.results43, go_sem, r20, r21]) rfl ?_
      rw [HF.out]
      exact ⟨G, d, q, rfl, ((HO4.out.setFar ⟨w.heap.size + 1, 0, none⟩ _ hlt1).setFar ⟨w.heap.size + 1, 1, none⟩ _ hlt1).mono (by omega), (HB4.out.setCell (Nat.le_succ _) _).setCell (Nat.le_succ _) _⟩
    · have HF := Lib.hid (show pTransposeOf (d : Int) X = ((0, []), 2) by unfold pTransposeOf; rw [if_pos hp, if_neg (by omega)])
      rw [if_neg h60] at CON
      clear hp hl hpt
      go_enter Try.func43, Try.ntmps43
      go_wp2_with fail
      generalize (w.alloc (.cells #[.int .i64 (d : Int), .slice A n c] 40)).alloc (.cells #[.int .i64 0, .slice none 0 0] 40) = W0 at *
      refine CON.out.mono ?_
      rintro e w1 ⟨rfl, hb⟩
      have HB := Lib.hid (HB0.out.trans (hb.mono HB0.out.size))
      have HX1 := Lib.hid (HBX.out.below hb)
      clear hb
      have r20 := HX1.out.h1.cell 0 rfl
      have r21 := HX1.out.h1.cell 1 rfl
      have f20 := HX1.out.h1.free 0
      have f21 := HX1.out.h1.free 1
      go_wp2
      refine bodyPost_ret (v := .tuple #[.agg #[.int .i64 0, .slice none 0 0], .int .i64 2]) (by simp [results, Try.results43, go_sem, r20, r21]) rfl ?_
      rw [HF.out]
      exact ⟨none, 0, 0, rfl, OwnI.nil _ _, (HB.out.setCell (Nat.le_succ _) _).setCell (Nat.le_succ _) _⟩

end Go.Proofs.Ytindhmgfadipnaa
