/- The coordinates of rising lists in a basis, on both sides. -/
import Derived.Test.YtpgmggkpnefaeaaHas
namespace Go.Proofs.Ytpgmggkpnefaeaa
open Go.ChangeShapes Go.WideShapes Go.ChangeAt Go.RowKit Go.Proofs
set_option linter.unusedVariables false

theorem impl_hasTerm {A n c vs L A2 m c2 x w} (h : RS w A n vs L) (hr : Ris L) (g : RI w A2 m x) (hn : n ≤ 1000000000) :
    Calls Try.prog 104 #[.slice A n c, .slice A2 m c2] w fun e w' => e = .returned (.bool (hasB L x)) ∧ Below w.heap.size w w' := by
  have CS := Lib.hid (impl_search (c := c) (c2 := c2) h hr g hn)
  clear h hr g
  go_enter Try.func104, Try.ntmps104
  go_wp2_with fail
  refine CS.out.mono ?_
  rintro e w1 ⟨k, rfl, hb⟩
  have HB := Lib.hid hb
  clear hb CS
  go_wp2
  go_ret
  exact ⟨rfl, HB.out⟩

def coordL (L Bs : LL) : List Int := Bs.map fun r => if hasB L r = true then 1 else 0

theorem coordL_step (L Bs : LL) (k : Nat) (h : k < Bs.length) : coordL L (Bs.take (k + 1)) = coordL L (Bs.take k) ++ [if hasB L (Bs.getD k []) = true then 1 else 0] := by
  unfold coordL
  rw [take_snocS Bs k h, List.map_append]; rfl

set_option maxHeartbeats 1600000 in
theorem impl_coordinates {A n c vs L A2 m c2 us Bs w} (h : RS w A n vs L) (hr : Ris L) (hn : n ≤ 1000000000) (g : RS w A2 m us Bs) (hm : m ≤ 1000000) :
    Calls Try.prog 65 #[.slice A n c, .slice A2 m c2] w fun e w' => ∃ G d, e = .returned (.slice G m d) ∧ OwnI w' w.heap.size G m d (coordL L Bs) ∧ Below w.heap.size w w' := by
  have HLB := Lib.hid g.len
  have H := Lib.hid h
  have G := Lib.hid g
  have HR := Lib.hid hr
  have HE := Lib.hid (empty_own w)
  have HBE := Lib.hid (box_below w (.cells #[] 2))
  clear h g hr
  go_enter Try.func65, Try.ntmps65
  go_wp2
  go_loopw [5, 12] (fun v iv wr => ∃ (i : Nat) (A5 : Option Addr) (c5 : Nat), i ≤ m ∧ iv = .int .i64 (i : Int) ∧ v = .slice A5 i c5 ∧ OwnI wr w.heap.size A5 i c5 (coordL L (Bs.take i)) ∧ Below w.heap.size w wr) (fun _ iv _ => m - (intOf iv).toNat)
  case atStart => exact ⟨0, _, _, by omega, rfl, rfl, HE.out, HBE.out⟩
  case round =>
    obtain ⟨i, A5, c5, hi, rfl, rfl, ho, hb⟩ := hrel
    have HO := Lib.hid ho
    have HB := Lib.hid hb
    clear ho hb HE HBE
    by_cases him : i < m
    · have him' : (i : Int) < (m : Int) := by omega
      obtain ⟨p2, o2, rfl, _, hc2⟩ := (G.out.below HB.out).at_ him
      have hr2 := (G.out.below HB.out).row him
      have HST := Lib.hid (coordL_step L Bs i (by have := HLB.out; omega))
      generalize Bs.getD i [] = y at *
      generalize us.getD i nilS = v at *
      obtain ⟨vA, vn, vc⟩ := v
      simp only [sv] at hc2
      simp only at hr2
      have CH := Lib.hid (impl_hasTerm (c := c) (c2 := vc) (H.out.below HB.out) HR.out hr2 hn)
      clear hr2
      cases hh : hasB L y with
      | true =>
        rw [hh] at CH HST
        rw [if_pos rfl] at HST
        clear hh
        go_wp2_with (first | (go_at_call 104; refine CH.out.mono ?_; rintro e w1 ⟨rfl, hb1⟩; have HB1 := Lib.hid hb1; clear hb1) | (at_builtin; refine app1 _ _ _ _ _ _ _ _ _ rfl rfl rfl rfl (HO.out.below HB1.out) (I64.mk (by omega) (by omega)) (by omega) (Nat.le_trans HB.out.size HB1.out.size) ?_; intro g9 c9 w9 ho9 hg9))
        rw [← HST.out] at ho9
        have HO9 := Lib.hid ho9
        have HB9 := Lib.hid ((HB.out.trans (HB1.out.mono HB.out.size)).grown hg9 (Nat.le_trans HB.out.size HB1.out.size) (fun k hk => HO.out.row_ge hk))
        clear ho9 hg9
        go_wp2
        go_roundw
        case rel => exact ⟨i + 1, _, _, by omega, by go_num, rfl, HO9.out, HB9.out⟩
        case measure => simp [intOf]; omega
      | false =>
        rw [hh] at CH HST
        rw [if_neg (by simp)] at HST
        clear hh
        go_wp2_with (first | (go_at_call 104; refine CH.out.mono ?_; rintro e w1 ⟨rfl, hb1⟩; have HB1 := Lib.hid hb1; clear hb1) | (at_builtin; refine app1 _ _ _ _ _ _ _ _ _ rfl rfl rfl rfl (HO.out.below HB1.out) (I64.mk (by omega) (by omega)) (by omega) (Nat.le_trans HB.out.size HB1.out.size) ?_; intro g9 c9 w9 ho9 hg9))
        rw [← HST.out] at ho9
        have HO9 := Lib.hid ho9
        have HB9 := Lib.hid ((HB.out.trans (HB1.out.mono HB.out.size)).grown hg9 (Nat.le_trans HB.out.size HB1.out.size) (fun k hk => HO.out.row_ge hk))
        clear ho9 hg9
        go_wp2
        go_roundw
        case rel => exact ⟨i + 1, _, _, by omega, by go_num, rfl, HO9.out, HB9.out⟩
        case measure => simp [intOf]; omega
    · obtain rfl : i = m := by omega
      have ho := HO.out
      rw [List.take_of_length_le (Nat.le_of_eq HLB.out)] at ho
      have HO2 := Lib.hid ho
      clear ho
      go_wp2
      go_ret
      exact ⟨_, _, rfl, HO2.out, HB.out⟩

/-- l01Place: what it answers -/
def PlacePost (w : World) (b : Bool) (e : Ending) (w' : World) : Prop := ∃ k : Int, e = .returned (.int .i64 k) ∧ decide (0 ≤ k) = b ∧ -1 ≤ k ∧ k ≤ 1000000000 ∧ Below w.heap.size w w'

theorem spec_place {A n c vs L A2 m c2 x w} (h : RS w A n vs L) (g : RI w A2 m x) (hn : n ≤ 1000000000) :
    Calls Try.prog 97 #[.slice A n c, .slice A2 m c2] w (PlacePost w (hasB L x)) := by
  have HL := Lib.hid h.len
  have H := Lib.hid h
  have G := Lib.hid g
  have HB0 := Lib.hid (Below.refl w.heap.size w)
  clear h g
  go_enter Try.func97, Try.ntmps97
  go_wp2
  go_loopw [5] (fun iv wr => ∃ i : Nat, i ≤ n ∧ iv = .int .i64 (i : Int) ∧ (∀ t, t < i → L.getD t [] ≠ x) ∧ Below w.heap.size w wr) (fun iv _ => n - (intOf iv).toNat)
  case atStart => exact ⟨0, by omega, rfl, fun t ht => absurd ht (by omega), HB0.out⟩
  case round =>
    obtain ⟨i, hi, rfl, hno, hb⟩ := hrel
    have HNO := Lib.hid hno
    have HB := Lib.hid hb
    clear hno hb HB0
    by_cases hin : i < n
    · have hin' : (i : Int) < (n : Int) := by omega
      obtain ⟨p1, o1, rfl, _, hc1⟩ := (H.out.below HB.out).at_ hin
      have hr1 := (H.out.below HB.out).row hin
      have HYES := Lib.hid (fun (hy : L.getD i [] = x) => has_yes i (by have := HL.out; omega) hy)
      have HN2 := Lib.hid (fun (hy : L.getD i [] ≠ x) => show ∀ t, t < i + 1 → L.getD t [] ≠ x from fun t ht => by
        rcases Nat.lt_or_ge t i with h1 | h1
        · exact HNO.out t h1
        · obtain rfl : t = i := by omega
          exact hy)
      generalize L.getD i [] = y at *
      generalize vs.getD i nilS = v at *
      obtain ⟨vA, vn, vc⟩ := v
      simp only [sv] at hc1
      simp only at hr1
      have CC := Lib.hid (spec_l01Same (c := vc) (d := c2) hr1 (G.out.below HB.out))
      clear hr1
      by_cases hyx : y = x
      · have HF := Lib.hid (HYES.out hyx)
        rw [decide_eq_true hyx] at CC
        clear hyx
        go_wp2_with (go_at_call 127; refine CC.out.mono ?_; rintro e w' ⟨rfl, nq, rfl⟩)
        go_ret
        exact ⟨(i : Int), rfl, by rw [HF.out]; exact decide_eq_true (by omega), by omega, by omega, HB.out.trans ((below_drewN (Below.refl _ _) _).mono HB.out.size)⟩
      · have HF := Lib.hid (HN2.out hyx)
        rw [decide_eq_false hyx] at CC
        clear hyx
        go_wp2_with (go_at_call 127; refine CC.out.mono ?_; rintro e w' ⟨rfl, nq, rfl⟩)
        go_roundw
        case rel => exact ⟨i + 1, by omega, by go_num, HF.out, HB.out.trans ((below_drewN (Below.refl _ _) _).mono HB.out.size)⟩
        case measure => simp [intOf]; omega
    · obtain rfl : i = n := by omega
      have HF := Lib.hid (has_no (L := L) (x := x) (fun t ht => HNO.out t (by have := HL.out; omega)))
      go_wp2
      go_ret
      exact ⟨-1, rfl, by rw [HF.out]; rfl, by omega, by omega, HB.out⟩

end Go.Proofs.Ytpgmggkpnefaeaa
