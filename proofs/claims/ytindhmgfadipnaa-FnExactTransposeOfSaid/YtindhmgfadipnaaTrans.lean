/- TransposeOf of the program and of the reference. -/
import Derived.Test.YtindhmgfadipnaaTurn
import Derived.Deep.RegionLaw
namespace Go.Proofs.Ytindhmgfadipnaa
open Go.ChangeShapes Go.WideShapes Go.ChangeAt Go.RowKit
set_option linter.unusedVariables false

/-- two boxes, one behind the other -/
structure Box2 (w : World) (b : Nat) (t : TypeId) (v0 v1 : Array Value) : Prop where
  h0 : Blk w b t v0
  h1 : Blk w (b + 1) t v1

theorem Box2.new (w : World) (t : TypeId) (v0 v1 : Array Value) : Box2 ((w.alloc (.cells v0 t)).alloc (.cells v1 t)) w.heap.size t v0 v1 :=
  ⟨(Blk.new w v0 t).alloc _, by have := Blk.new (w.alloc (.cells v0 t)) v1 t; simpa using this⟩

theorem Box2.below {w w' b t v0 v1} (h : Box2 w b t v0 v1) (hb : Below w.heap.size w w') : Box2 w' b t v0 v1 := ⟨h.h0.below hb, h.h1.below hb⟩

theorem Box2.grown_own {w w' b t v0 v1 B A n c xs} (h : Box2 w b t v0 v1) (ho : OwnI w B A n c xs) (hg : w.grownBy w' (A.map (·.block))) (hb : b + 1 < B) : Box2 w' b t v0 v1 :=
  ⟨h.h0.grown_own ho hg (by omega), h.h1.grown_own ho hg hb⟩

theorem Box2.setFar {w b t v0 v1} (h : Box2 w b t v0 v1) (p : Addr) (u : Value) (hp : b + 1 < p.block) : Box2 (w.setCell p u) b t v0 v1 :=
  ⟨h.h0.setFar p u (by omega), h.h1.setFar p u (by omega)⟩

theorem box2_below (w : World) (t : TypeId) (v0 v1 : Array Value) : Below w.heap.size w ((w.alloc (.cells v0 t)).alloc (.cells v1 t)) :=
  ((Below.refl _ _).alloc (Nat.le_refl _) _).alloc (by simp) _

set_option maxHeartbeats 1000000 in
theorem impl_TransposeOf {k A n c X w} (hk : I64 k) (h : RI w A n X) (hn : n ≤ 1048576) :
    Calls Try.prog 44 #[.agg #[.int .i64 k, .slice A n c]] w fun e w' => ∃ G m d, e = .returned (.tuple #[.agg #[.int .i64 (pTransposeOf k X).1.1, .slice G m d], .int .i64 (pTransposeOf k X).2]) ∧ OwnI w' w.heap.size G m d (pTransposeOf k X).1.2 ∧ Below w.heap.size w w' := by
  have hl := h.len
  have hs := h.small
  have hb0 := box2_below w 40 #[.int .i64 k, .slice A n c] #[.int .i64 0, .slice none 0 0]
  have hbx := Box2.new w 40 #[.int .i64 k, .slice A n c] #[.int .i64 0, .slice none 0 0]
  have hz : ((w.alloc (.cells #[.int .i64 k, .slice A n c] 40)).alloc (.cells #[.int .i64 0, .slice none 0 0] 40)).heap.size = w.heap.size + 2 := by simp
  have CON := Lib.hid (impl_narrow (c := c) hk (h.below hb0) hn)
  have H := Lib.hid (h.below hb0)
  have HB0 := Lib.hid hb0
  have HBX := Lib.hid hbx
  have HZ := Lib.hid hz
  clear h hb0 hbx hk hz
  rw [hl] at CON
  cases hp : pIsMatrix k X with
  | false =>
    have HF := Lib.hid (show pTransposeOf k X = ((0, []), 1) by unfold pTransposeOf; rw [hp]; rfl)
    rw [hp, if_neg (by simp)] at CON
    clear hp hl
    go_enter Try.func44, Try.ntmps44
    go_wp2_with fail
    generalize (w.alloc (.cells #[.int .i64 k, .slice A n c] 40)).alloc (.cells #[.int .i64 0, .slice none 0 0] 40) = W0 at *
    refine CON.out.mono ?_
    rintro e w1 ⟨rfl, hb⟩
    have HB := Lib.hid (HB0.out.trans (hb.mono HB0.out.size))
    have HX1 := Lib.hid (HBX.out.below hb)
    clear hb
    have r20 := HX1.out.h1.cell 0 rfl
    have r21 := HX1.out.h1.cell 1 rfl
    have f20 := HX1.out.h1.free 0
    have f21 := HX1.out.h1.free 1
    go_wp2
    refine bodyPost_ret (v := .tuple #[.agg #[.int .i64 0, .slice none 0 0], .int .i64 1]) (by simp [results, Try.results44, go_sem, r20, r21]) rfl ?_
    rw [HF.out]
    exact ⟨none, 0, 0, rfl, OwnI.nil _ _, (HB.out.setCell (Nat.le_succ _) _).setCell (Nat.le_succ _) _⟩
  | true =>
    have hpt := pIsMatrix_true hp
    obtain ⟨d, rfl⟩ := Int.eq_ofNat_of_zero_le hpt.1
    rw [hp, if_pos rfl] at CON
    by_cases h60 : n ≤ 60
    · have HF := Lib.hid (show pTransposeOf (d : Int) X = (((n : Int), turnL X d n), 0) by unfold pTransposeOf; rw [if_pos hp, if_pos (by omega), Int.toNat_natCast, hl])
      have hd60 : d ≤ 60 := by omega
      have HM := Lib.hid (fun x (hx : x ∈ X) => maskB_true (hpt.2.2.2 x hx) (by omega))
      rw [if_pos h60] at CON
      clear hp hl hpt
      go_enter Try.func44, Try.ntmps44
      go_wp2_with fail
      generalize (w.alloc (.cells #[.int .i64 (d : Int), .slice A n c] 40)).alloc (.cells #[.int .i64 0, .slice none 0 0] 40) = W0 at *
      refine CON.out.mono ?_
      rintro e w1 ⟨rfl, hb⟩
      have HB := Lib.hid (HB0.out.trans (hb.mono HB0.out.size))
      have HX1 := Lib.hid (HBX.out.below hb)
      have hsz := hb.size
      have CT := Lib.hid (fun w2 (hb2 : Below w1.heap.size w1 w2) => impl_transposed (c := c) (d := d) ((H.out.below hb).below hb2) HM.out h60 hd60)
      clear hb
      have k00 := HX1.out.h0.cell 0 rfl
      have k01 := HX1.out.h0.cell 1 rfl
      have r20 := HX1.out.h1.cell 0 rfl
      have r21 := HX1.out.h1.cell 1 rfl
      have f20 := HX1.out.h1.free 0
      have f21 := HX1.out.h1.free 1
      have hlt1 := HX1.out.h1.lt
      go_wp2_with fail
      go_region_law ((go_simp; go_at_call 108; refine (CT.out _ (by exact ⟨rfl, rfl, rfl, Nat.le_refl _, fun _ _ => rfl⟩)).mono ?_; rintro e w4 ⟨g, rfl, ho4, hb4⟩; have HO4 := Lib.hid (show OwnI w4 w1.heap.size (some ⟨g, 0, none⟩) d d (turnL X d n) from ho4); have HB4 := Lib.hid (show Below w1.heap.size w1 w4 from ⟨hb4.os, hb4.tape, hb4.output, hb4.size, hb4.block⟩); have HX4 := Lib.hid (Box2.below (by exact ⟨HX1.out.h0, HX1.out.h1⟩) hb4); have k00 := HX4.out.h0.cell 0 rfl; have k01 := HX4.out.h0.cell 1 rfl; have r20 := HX4.out.h1.cell 0 rfl; have r21 := HX4.out.h1.cell 1 rfl; have f20 := HX4.out.h1.free 0; have f21 := HX4.out.h1.free 1; clear ho4 hb4; dsimp only))
      all_goals (
        go_wp2
        refine bodyPost_ret (v := .tuple #[.agg #[.int .i64 (n : Int), .slice (some ⟨g, 0, none⟩) d d], .int .i64 0]) (by simp [results, Try.results44, go_sem, r20, r21]) rfl ?_
        rw [HF.out]
        exact ⟨some ⟨g, 0, none⟩, d, d, rfl, ((HO4.out.setFar ⟨w.heap.size + 1, 0, none⟩ _ hlt1).setFar ⟨w.heap.size + 1, 1, none⟩ _ hlt1).mono (by omega), ((HB.out.trans (HB4.out.mono HB.out.size)).setCell (Nat.le_succ _) _).setCell (Nat.le_succ _) _⟩)
    · have HF := Lib.hid (show pTransposeOf (d : Int) X = ((0, []), 2) by unfold pTransposeOf; rw [if_pos hp, if_neg (by omega)])
      rw [if_neg h60] at CON
      clear hp hl hpt
      go_enter Try.func44, Try.ntmps44
      go_wp2_with fail
      generalize (w.alloc (.cells #[.int .i64 (d : Int), .slice A n c] 40)).alloc (.cells #[.int .i64 0, .slice none 0 0] 40) = W0 at *
      refine CON.out.mono ?_
      rintro e w1 ⟨rfl, hb⟩
      have HB := Lib.hid (HB0.out.trans (hb.mono HB0.out.size))
      have HX1 := Lib.hid (HBX.out.below hb)
      clear hb
      have r20 := HX1.out.h1.cell 0 rfl
      have r21 := HX1.out.h1.cell 1 rfl
      have f20 := HX1.out.h1.free 0
      have f21 := HX1.out.h1.free 1
      go_wp2
      refine bodyPost_ret (v := .tuple #[.agg #[.int .i64 0, .slice none 0 0], .int .i64 2]) (by simp [results, Try.results44, go_sem, r20, r21]) rfl ?_
      rw [HF.out]
      exact ⟨none, 0, 0, rfl, OwnI.nil _ _, (HB.out.setCell (Nat.le_succ _) _).setCell (Nat.le_succ _) _⟩

set_option maxHeartbeats 1000000 in
theorem spec_l02Turn {A n c X w} {d : Nat} (h : RI w A n X) (hx : ∀ x ∈ X, 0 ≤ x ∧ x < 1152921504606846976) (hn : n ≤ 60) (hd : d ≤ 60) :
    Calls Try.prog 106 #[.agg #[.int .i64 (d : Int), .slice A n c]] w fun e w' => ∃ G q, e = .returned (.agg #[.int .i64 (n : Int), .slice G d q]) ∧ OwnI w' w.heap.size G d q (turnL X d n) ∧ Below w.heap.size w w' := by
  have hl := h.len
  have hb0 := box2_below w 40 #[.int .i64 (d : Int), .slice A n c] #[.int .i64 0, .slice none 0 0]
  have hbx := Box2.new w 40 #[.int .i64 (d : Int), .slice A n c] #[.int .i64 0, .slice none 0 0]
  have hz : ((w.alloc (.cells #[.int .i64 (d : Int), .slice A n c] 40)).alloc (.cells #[.int .i64 0, .slice none 0 0] 40)).heap.size = w.heap.size + 2 := by simp
  have HR := Lib.hid h
  have HB0 := Lib.hid hb0
  have HBX := Lib.hid hbx
  have HZ := Lib.hid hz
  have HL := Lib.hid hl
  have HX := Lib.hid hx
  clear h hb0 hbx hz hl hx
  go_enter Try.func106, Try.ntmps106
  have c00 := HBX.out.h0.cell 0 rfl
  have c01 := HBX.out.h0.cell 1 rfl
  generalize hW0 : (w.alloc (.cells #[.int .i64 (d : Int), .slice A n c] 40)).alloc (.cells #[.int .i64 0, .slice none 0 0] 40) = W0 at *
  have HBO := Lib.hid (Blk.new W0 #[.int .i64 (n : Int), .slice none 0 0] 40)
  have HX1 := Lib.hid (HBX.out.below (box_below W0 (.cells #[.int .i64 (n : Int), .slice none 0 0] 40)))
  have HB1 := Lib.hid (HB0.out.trans ((box_below W0 (.cells #[.int .i64 (n : Int), .slice none 0 0] 40)).mono HB0.out.size))
  have hbx : w.heap.size + 1 < W0.heap.size := HBX.out.h1.lt
  go_wp2
  clear c00 c01
  generalize W0.alloc (.cells #[.int .i64 (n : Int), .slice none 0 0] 40) = W3 at *
  generalize W0.heap.size = bx at *
  go_loopw [4] (fun jv wr => ∃ (j : Nat) (A3 : Option Addr) (c3 : Nat), j ≤ d ∧ jv = .int .i64 (j : Int) ∧ Box2 wr w.heap.size 40 #[.int .i64 (d : Int), .slice A n c] #[.int .i64 0, .slice none 0 0] ∧ Blk wr bx 40 #[.int .i64 (n : Int), .slice A3 j c3] ∧ OwnI wr (bx + 1) A3 j c3 ((turnL X d n).take j) ∧ Below w.heap.size w wr) (fun jv _ => d - (intOf jv).toNat)
  case atStart => exact ⟨0, none, 0, by omega, rfl, HX1.out, HBO.out, by simpa using OwnI.nil _ _, HB1.out⟩
  case round =>
    obtain ⟨j, A3, c3, hj, rfl, hbx2, hblk, ho, hb⟩ := hrel
    clear HX1 HBO HB1
    have HX4 := Lib.hid hbx2
    have HBO := Lib.hid hblk
    have HO := Lib.hid ho
    have HBW := Lib.hid hb
    have HRW := Lib.hid (HR.out.below hb)
    clear hbx2 hblk ho hb
    have k00 := HX4.out.h0.cell 0 (v := .int .i64 (d : Int)) rfl
    by_cases hlt : j < d
    · have hlt' : (j : Int) < (d : Int) := by omega
      have htk := turnL_take X d n j hlt
      have HT := Lib.hid htk
      have k01 := HX4.out.h0.cell 1 (v := .slice A n c) rfl
      clear htk
      obtain ⟨wo, rfl⟩ : ∃ wo : World, wo = wr := ⟨_, rfl⟩
      go_wp2
      go_loopw [5, 6] (fun v iv wi => ∃ i : Nat, i ≤ n ∧ iv = .int .i64 (i : Int) ∧ v = .int .i64 (colW X j i) ∧ wi = wo) (fun _ iv _ => n - (intOf iv).toNat)
      case atStart => exact ⟨0, by omega, rfl, rfl, rfl⟩
      case round =>
        obtain ⟨i, hi, rfl, rfl, rfl⟩ := hrel
        by_cases hil : i < n
        · have hil' : (i : Int) < (n : Int) := by omega
          obtain ⟨b, off, rfl, hbl, hc⟩ := HRW.out.at_ hil
          have hxb := HX.out (X.getD i 0) (by have := HL.out; simp [List.getD, show i < X.length by omega])
          have hcs : colW X j (i + 1) = bits .or .i64 (colW X j i) (shW ((X.getD i 0).toNat / 2 ^ j % 2) i) := rfl
          generalize X.getD i 0 = x at *
          obtain ⟨m, rfl⟩ := Int.eq_ofNat_of_zero_le hxb.1
          rw [Int.toNat_natCast] at hcs
          have hcd := cast_div m j
          have hmn : min j 64 = j := by omega
          have hmn2 : min i 64 = i := by omega
          have hu : IntKind.u64.wrap (j : Int) = (j : Int) := wrap_u64_id _ (by omega) (by omega)
          have hu2 : IntKind.u64.wrap (i : Int) = (i : Int) := wrap_u64_id _ (by omega) (by omega)
          have hle : m / 2 ^ j ≤ m := Nat.div_le_self _ _
          generalize m / 2 ^ j = q at *
          have hao := and_one' q (by omega)
          have hq2 : q % 2 < 2 := Nat.mod_lt _ (by omega)
          generalize q % 2 = r at *
          have hsh : IntKind.i64.wrap ((r : Int) * (2 : Int) ^ i) = shW r i := rfl
          generalize shW r i = s at *
          have HCS := Lib.hid hcs
          clear hcs hbl
          generalize colW X j i = y at *
          go_wp2
          go_roundw
          case rel => exact ⟨i + 1, by omega, by go_num, by rw [HCS.out], by first | rfl | trivial⟩
          case measure => simp [intOf]; omega
        · obtain rfl : i = n := by omega
          have hci := colW_I64 X j i
          have k10 := HBO.out.cell 1 (v := .slice A3 j c3) rfl
          have HLT := Lib.hid HBO.out.lt
          have hb1 : bx + 1 ≤ wr.heap.size := HLT.out
          generalize hye : colW X j i = y at *
          have HYE := Lib.hid hye
          clear hye
          go_wp2_with (at_builtin; refine app1 _ _ _ _ _ _ _ _ _ rfl rfl rfl rfl HO.out hci (by omega) hb1 ?_; intro g c9 w9 ho9 hg9; have HO9 := Lib.hid ho9; have HB9 := Lib.hid (HBW.out.grown hg9 HBW.out.size (fun k hk => Nat.le_trans (by omega) (HO.out.row_ge hk))); have HBO9 := Lib.hid (HBO.out.grown_own HO.out hg9 (by omega)); have HX9 := Lib.hid (HX4.out.grown_own HO.out hg9 (by omega)); have k10 := HBO9.out.cell 1 (v := .slice A3 j c3) rfl; have f10 := HBO9.out.free 1; clear ho9 hg9)
          have HO10 := Lib.hid (HO9.out.setFar ⟨bx, 1, none⟩ (.slice (some ⟨g, 0, none⟩) (j + 1) c9) (by show bx < bx + 1; omega))
          have HX10 := Lib.hid (HX9.out.setFar ⟨bx, 1, none⟩ (.slice (some ⟨g, 0, none⟩) (j + 1) c9) (by show w.heap.size + 1 < bx; omega))
          have HBO10 := Lib.hid (HBO9.out.set 1 (.slice (some ⟨g, 0, none⟩) (j + 1) c9))
          have HB10 := Lib.hid (HB9.out.setCell (p := ⟨bx, 1, none⟩) (by show w.heap.size ≤ bx; omega) (.slice (some ⟨g, 0, none⟩) (j + 1) c9))
          clear k00 k01
          go_wp2
          go_roundw
          case rel => exact ⟨j + 1, _, _, by omega, by go_num, HX10.out, HBO10.out, by rw [HT.out]; exact HO10.out, HB10.out⟩
          case measure => simp [intOf]; omega
    · obtain rfl : j = d := by omega
      have e00 := HBO.out.cell 0 (v := .int .i64 (n : Int)) rfl
      have e01 := HBO.out.cell 1 (v := .slice A3 j c3) rfl
      have r20 := HX4.out.h1.cell 0 rfl
      have r21 := HX4.out.h1.cell 1 rfl
      have f20 := HX4.out.h1.free 0
      have f21 := HX4.out.h1.free 1
      have HOE := Lib.hid (show OwnI wr (bx + 1) A3 j c3 (turnL X j n) by
        have := HO.out
        rw [List.take_of_length_le (by simp [turnL])] at this
        exact this)
      go_wp2
      refine bodyPost_ret (v := .agg #[.int .i64 (n : Int), .slice A3 j c3]) (by simp [results, Try.results106, go_sem, r20, r21]) rfl ?_
      exact ⟨A3, c3, rfl, ((HOE.out.setFar ⟨w.heap.size + 1, 0, none⟩ _ (by show w.heap.size + 1 < bx + 1; omega)).setFar ⟨w.heap.size + 1, 1, none⟩ _ (by show w.heap.size + 1 < bx + 1; omega)).mono (by omega), (HBW.out.setCell (Nat.le_succ _) _).setCell (Nat.le_succ _) _⟩

end Go.Proofs.Ytindhmgfadipnaa
