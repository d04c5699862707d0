/- The statements' draws: a source of numbers over bytes. Only that each gives some number in its range, and leaves memory below as it was. -/
import Derived.Test.YtindhmgfadipnaaBlk
import Derived.Deep.RegionLaw
import Derived.Laws.Bits64b
import Derived.Lib.SmallJoins
namespace Go.Proofs.Ytindhmgfadipnaa
open Go.Joins Go.ChangeShapes Go.WideShapes Go.ChangeAt Go.RowKit
set_option linter.unusedVariables false

/-- a slice of n bytes -/
def RB (w : World) (A : Option Addr) (n : Nat) : Prop :=
  n ≤ maxLen ∧ (0 < n → ∃ b off, A = some ⟨b, off, none⟩ ∧ b < w.heap.size ∧ ∀ i, i < n → ∃ x : Int, 0 ≤ x ∧ x ≤ 255 ∧ w.cell? ⟨b, off + i, none⟩ = some (.int .u8 x))

theorem RB.at_ {w A n} (h : RB w A n) {i : Nat} (hi : i < n) : ∃ b off, ∃ x : Int, A = some ⟨b, off, none⟩ ∧ b < w.heap.size ∧ 0 ≤ x ∧ x ≤ 255 ∧ w.cell? ⟨b, off + i, none⟩ = some (.int .u8 x) := by
  obtain ⟨b, off, e, hb, hc⟩ := h.2 (by omega)
  obtain ⟨x, h1, h2, h3⟩ := hc i hi
  exact ⟨b, off, x, e, hb, h1, h2, h3⟩

theorem RB.below {w w' A n} (h : RB w A n) (hb : Below w.heap.size w w') : RB w' A n :=
  ⟨h.1, fun hn => by
    obtain ⟨b, off, e, hlt, hc⟩ := h.2 hn
    refine ⟨b, off, e, Nat.lt_of_lt_of_le hlt hb.size, fun i hi => ?_⟩
    obtain ⟨x, h1, h2, h3⟩ := hc i hi
    exact ⟨x, h1, h2, (hb.cell (p := ⟨b, off + i, none⟩) hlt).trans h3⟩⟩

theorem byte_wf {x : Int} (h : (Lit.int .u8 x).wf = true) : 0 ≤ x ∧ x ≤ 255 := by
  have h1 : IntKind.u8.min = 0 := rfl
  have h2 : IntKind.u8.max = 255 := rfl
  simp only [Lit.wf, Bool.and_eq_true, decide_eq_true_eq] at h
  omega

section
variable {H : Type} {enc : TypeId × Value → H} {w : World} {base : Nat} {held : Bool}

theorem open_BB {fuel : Nat} {cs : List Value} {x : DataW H × List MemPlace} (h : DataW.trod enc Try.prog w base (fun _ => true) held fuel 87 cs = some x) :
    ∃ A n c, cs = [.slice A n c] ∧ RB w A n := by
  rcases open_ints Try.underlying87 Try.underlying5 (by kernel_rfl) h with ⟨hcs, _⟩ | ⟨x, l, c, zs, hcs, _, hl, hm, hz, _, hcell, hwz⟩
  · exact ⟨none, 0, 0, hcs, Nat.zero_le _, fun h => absurd h (by omega)⟩
  · refine ⟨some x, l, c, hcs, by omega, fun hn => ?_⟩
    have hz' : zs.length = c := by simpa using hz
    obtain ⟨b, off, spot⟩ := x
    have h0 := hcell 0 (by omega)
    have hspot : spot = none := by simpa [Addr.add] using World.cell?_spot h0
    subst hspot
    refine ⟨b, off, rfl, ?_, fun i hi => ?_⟩
    · have := World.block_lt_of_cell? w _ h0
      simpa [Addr.add] using this
    · have h1 := hcell i (by omega)
      have hb := byte_wf (hwz (zs.getD i 0) (by simp [List.getD, show i < zs.length by omega]))
      refine ⟨zs.getD i 0, hb.1, hb.2, ?_⟩
      rw [← h1]
      congr 1
      unfold Addr.add
      split <;> simp_all
end

/-- a source: its bytes, its place, its number -/
def Src (w : World) (sb : Nat) (A : Option Addr) (n c : Nat) : Prop :=
  ∃ (j : Nat) (h : Int), j ≤ n ∧ 0 ≤ h ∧ h ≤ 18446744073709551615 ∧ Blk w sb 119 #[.slice A n c, .int .i64 (j : Int), .int .u64 h]

theorem wrap_u64_range (x : Int) : 0 ≤ IntKind.u64.wrap x ∧ IntKind.u64.wrap x ≤ 18446744073709551615 := by
  rw [IntKind.wrap_u64]; omega

set_option maxRecDepth 100000 in
set_option maxHeartbeats 800000 in
theorem spec_l01From {A n c w} (h : RB w A n) :
    Calls Try.prog 126 #[.slice A n c] w fun e w' => ∃ sb, e = .returned (.pointer (some ⟨sb, 0, none⟩)) ∧ w.heap.size ≤ sb ∧ Src w' sb A n c ∧ Below w.heap.size w w' := by
  have hs : n ≤ 9223372036854775807 := by have := h.1; unfold maxLen at this; omega
  have hu : IntKind.u64.wrap (n : Int) = (n : Int) := by rw [IntKind.wrap_u64]; omega
  have H := Lib.hid h
  clear h
  go_enter Try.func126, Try.ntmps126
  go_wp2
  go_loopw [4] (fun iv wr => ∃ (i : Nat) (h : Int), i ≤ n ∧ iv = .int .i64 (i : Int) ∧ 0 ≤ h ∧ h ≤ 18446744073709551615 ∧ Blk wr w.heap.size 119 #[.slice A n c, .int .i64 0, .int .u64 h] ∧ Below w.heap.size w wr) (fun iv _ => n - (intOf iv).toNat)
  case atStart => exact ⟨0, _, by omega, rfl, (by first | omega | exact (wrap_u64_range _).1), (by first | omega | exact (wrap_u64_range _).2), Blk.new _ _ _, box_below _ _⟩
  case round =>
    obtain ⟨i, h, hi, rfl, h0, h1, hbk, hb⟩ := hrel
    have HBK := Lib.hid hbk
    have HB := Lib.hid hb
    clear hbk hb
    by_cases hlt : i < n
    · by_cases h4 : i < 4096
      · have hlt' : (i : Int) < (n : Int) := by omega
        have h4' : (i : Int) < 4096 := by omega
        obtain ⟨b, off, x, rfl, hbl, hx0, hx1, hc⟩ := (H.out.below HB.out).at_ hlt
        have c2 := HBK.out.cell 2 (v := .int .u64 h) rfl
        have f2 := HBK.out.free 2
        have hux : IntKind.u64.wrap x = x := by rw [IntKind.wrap_u64]; omega
        clear hbl
        go_wp2_with fail
        go_region_law (fail)
        all_goals (
          go_wp2
          go_roundw
          case rel =>
            refine ⟨i + 1, _, by omega, by go_num, ?_, ?_, HBK.out.set 2 _, by first | exact HB.out.setCell (p := ⟨w.heap.size, 2, none⟩) (Nat.le_refl _) _ | exact below_drew' (HB.out.setCell (p := ⟨w.heap.size, 2, none⟩) (Nat.le_refl _) _)⟩
            · exact (wrap_u64_range _).1
            · exact (wrap_u64_range _).2
          case measure => simp [intOf]; omega)
      · have hlt' : (i : Int) < (n : Int) := by omega
        have h4' : (4096 : Int) ≤ (i : Int) := by omega
        go_wp2
        go_ret
        exact ⟨_, rfl, Nat.le_refl _, ⟨0, h, Nat.zero_le _, h0, h1, HBK.out⟩, HB.out⟩
    · obtain rfl : i = n := by omega
      go_wp2
      go_ret
      exact ⟨_, rfl, Nat.le_refl _, ⟨0, h, Nat.zero_le _, h0, h1, HBK.out⟩, HB.out⟩

theorem and_low (h : Int) (h0 : 0 ≤ h) (h1 : h ≤ 18446744073709551615) : ∃ v : Int, 0 ≤ v ∧ v ≤ 16777215 ∧ wrap64 (bits .and .u64 (h / 8589934592) 16777215) = v := by
  obtain ⟨k, rfl⟩ := Int.eq_ofNat_of_zero_le h0
  have e : ((k : Int) / 8589934592) = ((k / 8589934592 : Nat) : Int) := by omega
  have hk : k / 8589934592 < 18446744073709551616 := by omega
  have h2 := bits_and_u64_nat (k / 8589934592) 16777215 hk (by omega)
  have h3 : (k / 8589934592) &&& 16777215 ≤ 16777215 := Nat.and_le_right
  refine ⟨((k / 8589934592 &&& 16777215 : Nat) : Int), by omega, by omega, ?_⟩
  rw [e]
  rw [show bits .and .u64 ((k / 8589934592 : Nat) : Int) 16777215 = ((k / 8589934592 &&& 16777215 : Nat) : Int) from h2]
  generalize (k / 8589934592) &&& 16777215 = q at *
  rw [← IntWalk.i64_left]
  exact IntWalk.i64_in _ ⟨by omega, by omega⟩

theorem rem_range (x m : Int) (hx : 0 ≤ x) (hm : 1 ≤ m) : 0 ≤ x % m ∧ x % m < m := ⟨Int.emod_nonneg _ (by omega), Int.emod_lt_of_pos _ (by omega)⟩

set_option maxRecDepth 100000 in
set_option maxHeartbeats 800000 in
theorem spec_l01Next {W0 : World} {sb A n c w} {m : Int} (hr : RB W0 A n) (hsb : W0.heap.size ≤ sb) (hb : Below W0.heap.size W0 w) (hs : Src w sb A n c) (hm : 1 ≤ m) (hm2 : m ≤ 1000000000) :
    Calls Try.prog 128 #[.pointer (some ⟨sb, 0, none⟩), .int .i64 m] w fun e w' => ∃ x, e = .returned (.int .i64 x) ∧ 0 ≤ x ∧ x < m ∧ Src w' sb A n c ∧ Below W0.heap.size W0 w' ∧ w.grownBy w' (some sb) := by
  obtain ⟨j, h, hj, h0, h1, hbk⟩ := hs
  have hn : n ≤ 9223372036854775807 := by have := hr.1; unfold maxLen at this; omega
  have H := Lib.hid hr
  have HB := Lib.hid hb
  have HBK := Lib.hid hbk
  have c2 := hbk.cell 2 (v := .int .u64 h) rfl
  have f2 := hbk.free 2
  clear hr hb hbk
  go_enter Try.func128, Try.ntmps128
  go_wp2_with fail
  generalize hh : IntKind.u64.wrap (IntKind.u64.wrap (h * 6364136223846793005) + 1442695040888963407) = h2
  have hr2 : 0 ≤ h2 ∧ h2 ≤ 18446744073709551615 := by rw [← hh]; exact wrap_u64_range _
  obtain ⟨v, hv0, hv1, hv2⟩ := and_low h2 hr2.1 hr2.2
  rw [hv2]
  have HBK2 := Lib.hid (HBK.out.set 2 (.int .u64 h2))
  have HB2 := Lib.hid (HB.out.setCell (p := ⟨sb, 2, none⟩) hsb (.int .u64 h2))
  have HG2 := Lib.hid (set_grown w ⟨sb, 2, none⟩ (.int .u64 h2))
  clear HBK HB c2 f2 hv2
  generalize bits .and .u64 (h2 / 8589934592) 16777215 = va at *
  generalize w.setCell ⟨sb, 2, none⟩ (.int .u64 h2) = w2 at *
  have c0 := HBK2.out.cell 0 (v := .slice A n c) rfl
  have c1 := HBK2.out.cell 1 (v := .int .i64 (j : Int)) rfl
  have f1 := HBK2.out.free 1
  by_cases hlt : j < n
  · have hlt' : (j : Int) < (n : Int) := by omega
    obtain ⟨b, off, x, rfl, hbl, hx0, hx1, hc⟩ := (H.out.below HB2.out).at_ hlt
    have hwx : wrap64 x = x := by rw [← IntWalk.i64_left]; exact IntWalk.i64_in _ ⟨by omega, by omega⟩
    clear hbl
    go_quiet (fail)
    go_wp2_with fail
    go_quiet (fail)
    go_wp2
    go_ret
    refine ⟨_, rfl, ?_, ?_, ⟨j + 1, h2, by omega, hr2.1, hr2.2, ?_⟩, ?_, ?_⟩
    · exact (rem_range _ m (by omega) hm).1
    · exact (rem_range _ m (by omega) hm).2
    · exact (HBK2.out.set 1 _)
    · exact (below_drewN HB2.out _).setCell (p := ⟨sb, 1, none⟩) hsb _
    · exact World.grownBy.trans HG2.out (World.grownBy.trans (Below.grownBy (below_drewN (Below.refl _ _) _) _) (set_grown _ ⟨sb, 1, none⟩ _))
  · have hlt' : (n : Int) ≤ (j : Int) := by omega
    go_quiet (fail)
    go_wp2
    go_ret
    refine ⟨_, rfl, ?_, ?_, ⟨j, h2, by omega, hr2.1, hr2.2, ?_⟩, ?_, ?_⟩
    · exact (rem_range _ m (by omega) hm).1
    · exact (rem_range _ m (by omega) hm).2
    · exact HBK2.out.drewN _
    · exact below_drewN HB2.out _
    · exact World.grownBy.trans HG2.out (Below.grownBy (below_drewN (Below.refl _ _) _) _)

theorem Src.below {w w' sb A n c} (h : Src w sb A n c) (hb : Below w.heap.size w w') : Src w' sb A n c := by
  obtain ⟨j, h, h1, h2, h3, hk⟩ := h
  exact ⟨j, h, h1, h2, h3, hk.below hb⟩

theorem Src.lt {w sb A n c} (h : Src w sb A n c) : sb < w.heap.size := by
  obtain ⟨j, h, h1, h2, h3, hk⟩ := h
  exact hk.lt

theorem OwnI.cellN {w B A n c xs} (h : OwnI w B A n c xs) {i : Nat} (hi : i < n) : ∃ g, A = some ⟨g, 0, none⟩ ∧ w.cell? ⟨g, i, none⟩ = some (.int .i64 (xs.getD i 0)) := by
  obtain ⟨b, off, e, _, hc⟩ := h.reads.2.2.2 (by omega)
  obtain ⟨g, cap, e2, _⟩ := h.1.form (by omega)
  injection e2 with e3 _ _
  rw [e3] at e
  injection e with e
  injection e with e4 e5 _
  subst e4
  refine ⟨g, e3, ?_⟩
  have := hc i hi
  rw [← e5, Nat.zero_add] at this
  exact this

set_option maxHeartbeats 400000 in
theorem spec_l01Pick {W0 : World} {sb A n c w LA k kc xs} (hr : RB W0 A n) (hsb : W0.heap.size ≤ sb) (hb : Below W0.heap.size W0 w) (hs : Src w sb A n c) (hl : OwnI w (sb + 1) LA k kc xs) (hk : 1 ≤ k) (hk2 : k ≤ 1000) :
    Calls Try.prog 127 #[.pointer (some ⟨sb, 0, none⟩), .slice LA k kc] w fun e w' => ∃ x, e = .returned (.int .i64 x) ∧ I64 x ∧ Src w' sb A n c ∧ Below W0.heap.size W0 w' := by
  have CN := Lib.hid (spec_l01Next (m := (k : Int)) hr hsb hb hs (by omega) (by omega))
  have HL := Lib.hid hl
  clear hr hb hs hl
  go_enter Try.func127, Try.ntmps127
  go_wp2_with fail
  refine CN.out.mono ?_
  rintro e w1 ⟨x, rfl, hx0, hx1, hs1, hb1, hg1⟩
  obtain ⟨i, rfl⟩ := Int.eq_ofNat_of_zero_le hx0
  have hi : i < k := by omega
  have hl1 := HL.out.grown hg1 (fun a ha e => by
    have h1 := HL.out.row_ge (k := a.block) (by rw [ha]; rfl)
    injection e with e
    omega)
  obtain ⟨g, rfl, hc⟩ := hl1.cellN hi
  have HX := Lib.hid (hl1.2 (xs.getD i 0) (by have := hl1.len; simp [List.getD, show i < xs.length by omega]))
  have HS := Lib.hid hs1
  have HB := Lib.hid hb1
  clear hs1 hb1 hg1 hl1 CN
  go_wp2
  go_ret
  exact ⟨_, rfl, HX.out, HS.out, HB.out⟩

theorem lit_own (w : World) (B : Nat) (xs : List Int) (hB : B ≤ w.heap.size) (hx : ∀ x ∈ xs, I64 x) (hn : xs.length ≤ 1000) : OwnI (w.alloc (.cells (xs.map (Value.int .i64)).toArray 2)) B (some ⟨w.heap.size, 0, none⟩) xs.length xs.length xs :=
  ⟨by
    have := World.ownsRow_lit (base := B) (e := 2) (size := 1) w (xs.map (Value.int .i64)).toArray xs.length hB (by unfold maxLen; omega) (by simp)
    simpa using this, hx⟩

set_option maxRecDepth 100000 in
set_option maxHeartbeats 800000 in
theorem spec_l01Near {W0 : World} {sb A n c w} {most : Int} (hr : RB W0 A n) (hsb : W0.heap.size ≤ sb) (hb : Below W0.heap.size W0 w) (hs : Src w sb A n c) (hm : 0 ≤ most) (hm2 : most ≤ 1000000) :
    Calls Try.prog 129 #[.pointer (some ⟨sb, 0, none⟩), .int .i64 most] w fun e w' => ∃ x, e = .returned (.int .i64 x) ∧ I64 x ∧ Src w' sb A n c ∧ Below W0.heap.size W0 w' := by
  have CN := Lib.hid (spec_l01Next (m := 14) hr hsb hb hs (by omega) (by omega))
  have CM := Lib.hid (fun w1 (hb : Below W0.heap.size W0 w1) (hs : Src w1 sb A n c) => spec_l01Next (m := most + 1) hr hsb hb hs (by omega) (by omega))
  have CP := Lib.hid (fun w1 (hb : Below W0.heap.size W0 w1) (hs : Src w1 sb A n c) => spec_l01Pick (c := c) (k := 4) (kc := 4) (LA := some ⟨w1.heap.size, 0, none⟩) (w := w1.alloc (.cells #[.int .i64 (-1), .int .i64 (most + 1), .int .i64 1125899906842624, .int .i64 (-4611686018427387904)] 2)) (xs := [-1, most + 1, 1125899906842624, -4611686018427387904]) hr hsb (hb.alloc hb.size _) (hs.below (box_below w1 _)) (lit_own w1 (sb + 1) [-1, most + 1, 1125899906842624, -4611686018427387904] hs.lt (by intro x hx; simp at hx; rcases hx with rfl | rfl | rfl | rfl <;> exact I64.mk (by omega) (by omega)) (by simp)) (by omega) (by omega))
  clear hr hb hs
  go_enter Try.func129, Try.ntmps129
  go_wp2_with fail
  refine CN.out.mono ?_
  rintro e w1 ⟨x, rfl, hx0, hx1, hs1, hb1, hg1⟩
  have CM1 := Lib.hid (CM.out w1 hb1 hs1)
  have CP1 := Lib.hid (CP.out w1 hb1 hs1)
  clear hs1 hb1 hg1 CN CM CP
  by_cases h0 : x = 0
  · subst h0
    go_wp2_with fail
    refine CP1.out.mono ?_
    rintro e w2 ⟨y, rfl, hy, hs2, hb2⟩
    have HY := Lib.hid (And.intro hy (And.intro hs2 hb2))
    clear hy hs2 hb2
    go_wp2
    go_ret
    exact ⟨_, rfl, HY.out.1, HY.out.2.1, HY.out.2.2⟩
  · have hxe : (x == 0) = false := by rw [beq_eq_false_iff_ne]; exact h0
    go_wp2_with fail
    refine CM1.out.mono ?_
    rintro e w2 ⟨y, rfl, hy0, hy1, hs2, hb2, _⟩
    have HY := Lib.hid (And.intro (I64.mk (x := y) (by omega) (by omega)) (And.intro hs2 hb2))
    clear hs2 hb2
    go_wp2
    go_ret
    exact ⟨_, rfl, HY.out.1, HY.out.2.1, HY.out.2.2⟩

set_option maxRecDepth 100000 in
set_option maxHeartbeats 800000 in
theorem spec_DrawSpikesOf {A n c w} (h : RB w A n) : Calls Try.prog 73 #[.slice A n c] w fun e w' => ∃ x, e = .returned (.int .i64 x) ∧ I64 x ∧ Below w.heap.size w w' := by
  have CF := Lib.hid (spec_l01From (c := c) h)
  have HR := Lib.hid h
  clear h
  go_enter Try.func73, Try.ntmps73
  go_wp2_with fail
  refine CF.out.mono ?_
  rintro e w1 ⟨sb, rfl, hsb, hs1, hb1⟩
  have CN := Lib.hid (spec_l01Next (m := 12) HR.out hsb hb1 hs1 (by omega) (by omega))
  have CM := Lib.hid (fun w1 (hb : Below w.heap.size w w1) (hs : Src w1 sb A n c) => spec_l01Near (most := 40) HR.out hsb hb hs (by omega) (by omega))
  have CP := Lib.hid (fun w1 x y (hx : I64 x) (hy : I64 y) (hb : Below w.heap.size w w1) (hs : Src w1 sb A n c) => spec_l01Pick (c := c) (k := 2) (kc := 2) (LA := some ⟨w1.heap.size, 0, none⟩) (w := w1.alloc (.cells #[.int .i64 x, .int .i64 y] 2)) (xs := [x, y]) HR.out hsb (hb.alloc hb.size _) (hs.below (box_below w1 _)) (lit_own w1 (sb + 1) [x, y] hs.lt (by intro z hz; simp at hz; rcases hz with rfl | rfl <;> assumption) (by simp)) (by omega) (by omega))
  clear hs1 hb1 CF
  go_wp2_with fail
  refine CN.out.mono ?_
  rintro e w2 ⟨x, rfl, hx0, hx1, hs2, hb2, _⟩
  have CM2 := Lib.hid (CM.out w2 hb2 hs2)
  have HX := Lib.hid (I64.mk (x := x) (by omega) (by omega))
  clear hs2 hb2 CN CM
  go_wp2_with fail
  refine CM2.out.mono ?_
  rintro e w3 ⟨y, rfl, hy, hs3, hb3⟩
  have CP3 := Lib.hid (CP.out w3 x y HX.out hy hb3 hs3)
  clear hy hs3 hb3 CM2 CP
  go_wp2_with fail
  refine CP3.out.mono ?_
  rintro e w4 ⟨z, rfl, hz, _, hb4⟩
  have HZ := Lib.hid (And.intro hz hb4)
  clear hz hb4
  go_wp2
  go_ret
  exact ⟨_, rfl, HZ.out.1, HZ.out.2⟩

set_option maxRecDepth 100000 in
set_option maxHeartbeats 800000 in
theorem spec_DrawLeastSpike {A n c w} (h : RB w A n) : Calls Try.prog 79 #[.slice A n c] w fun e w' => ∃ x, e = .returned (.int .i64 x) ∧ I64 x ∧ Below w.heap.size w w' := by
  have CF := Lib.hid (spec_l01From (c := c) h)
  have HR := Lib.hid h
  clear h
  go_enter Try.func79, Try.ntmps79
  go_wp2_with fail
  refine CF.out.mono ?_
  rintro e w1 ⟨sb, rfl, hsb, hs1, hb1⟩
  have CN := Lib.hid (spec_l01Next (m := 100) HR.out hsb hb1 hs1 (by omega) (by omega))
  have CM := Lib.hid (fun w1 (hb : Below w.heap.size w w1) (hs : Src w1 sb A n c) => spec_l01Near (most := 1000000) HR.out hsb hb hs (by omega) (by omega))
  have CP := Lib.hid (fun w1 x y (hx : I64 x) (hy : I64 y) (hb : Below w.heap.size w w1) (hs : Src w1 sb A n c) => spec_l01Pick (c := c) (k := 2) (kc := 2) (LA := some ⟨w1.heap.size, 0, none⟩) (w := w1.alloc (.cells #[.int .i64 x, .int .i64 y] 2)) (xs := [x, y]) HR.out hsb (hb.alloc hb.size _) (hs.below (box_below w1 _)) (lit_own w1 (sb + 1) [x, y] hs.lt (by intro z hz; simp at hz; rcases hz with rfl | rfl <;> assumption) (by simp)) (by omega) (by omega))
  clear hs1 hb1 CF
  go_wp2_with fail
  refine CN.out.mono ?_
  rintro e w2 ⟨x, rfl, hx0, hx1, hs2, hb2, _⟩
  have CM2 := Lib.hid (CM.out w2 hb2 hs2)
  have HX := Lib.hid (I64.mk (x := x) (by omega) (by omega))
  clear hs2 hb2 CN CM
  go_wp2_with fail
  refine CM2.out.mono ?_
  rintro e w3 ⟨y, rfl, hy, hs3, hb3⟩
  have CP3 := Lib.hid (CP.out w3 x y HX.out hy hb3 hs3)
  clear hy hs3 hb3 CM2 CP
  go_wp2_with fail
  refine CP3.out.mono ?_
  rintro e w4 ⟨z, rfl, hz, _, hb4⟩
  have HZ := Lib.hid (And.intro hz hb4)
  clear hz hb4
  go_wp2
  go_ret
  exact ⟨_, rfl, HZ.out.1, HZ.out.2⟩

set_option maxRecDepth 100000 in
set_option maxHeartbeats 800000 in
theorem spec_DrawCountPartitions {A n c w} (h : RB w A n) : Calls Try.prog 81 #[.slice A n c] w fun e w' => ∃ x, e = .returned (.int .i64 x) ∧ I64 x ∧ Below w.heap.size w w' := by
  have CF := Lib.hid (spec_l01From (c := c) h)
  have HR := Lib.hid h
  clear h
  go_enter Try.func81, Try.ntmps81
  go_wp2_with fail
  refine CF.out.mono ?_
  rintro e w1 ⟨sb, rfl, hsb, hs1, hb1⟩
  have CN := Lib.hid (spec_l01Next (m := 41) HR.out hsb hb1 hs1 (by omega) (by omega))
  have CM := Lib.hid (fun w1 (hb : Below w.heap.size w w1) (hs : Src w1 sb A n c) => spec_l01Near (most := 300) HR.out hsb hb hs (by omega) (by omega))
  have CP := Lib.hid (fun w1 x y (hx : I64 x) (hy : I64 y) (hb : Below w.heap.size w w1) (hs : Src w1 sb A n c) => spec_l01Pick (c := c) (k := 2) (kc := 2) (LA := some ⟨w1.heap.size, 0, none⟩) (w := w1.alloc (.cells #[.int .i64 x, .int .i64 y] 2)) (xs := [x, y]) HR.out hsb (hb.alloc hb.size _) (hs.below (box_below w1 _)) (lit_own w1 (sb + 1) [x, y] hs.lt (by intro z hz; simp at hz; rcases hz with rfl | rfl <;> assumption) (by simp)) (by omega) (by omega))
  clear hs1 hb1 CF
  go_wp2_with fail
  refine CN.out.mono ?_
  rintro e w2 ⟨x, rfl, hx0, hx1, hs2, hb2, _⟩
  have CM2 := Lib.hid (CM.out w2 hb2 hs2)
  have HX := Lib.hid (I64.mk (x := x) (by omega) (by omega))
  clear hs2 hb2 CN CM
  go_wp2_with fail
  refine CM2.out.mono ?_
  rintro e w3 ⟨y, rfl, hy, hs3, hb3⟩
  have CP3 := Lib.hid (CP.out w3 x y HX.out hy hb3 hs3)
  clear hy hs3 hb3 CM2 CP
  go_wp2_with fail
  refine CP3.out.mono ?_
  rintro e w4 ⟨z, rfl, hz, _, hb4⟩
  have HZ := Lib.hid (And.intro hz hb4)
  clear hz hb4
  go_wp2
  go_ret
  exact ⟨_, rfl, HZ.out.1, HZ.out.2⟩

end Go.Proofs.Ytindhmgfadipnaa
