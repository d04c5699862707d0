/- spec: a copy of a slice of lists; the result of a table of Milnor's product. -/
import Derived.Test.YtpgmggkpnefaeaaFilP
import Derived.Test.YtpgmggkpnefaeaaPut
namespace Go.Proofs.Ytpgmggkpnefaeaa
open Go.ChangeShapes Go.WideShapes Go.ChangeAt Go.RowKit Go.Proofs
set_option linter.unusedVariables false

set_option maxHeartbeats 1600000 in
theorem spec_l01Own2 {A n c vs xss w} (h : RS w A n vs xss) (hn : n ≤ 4294967296) (hrl : ∀ x ∈ xss, x.length ≤ 1048576) :
    Calls Try.prog 157 #[.slice A n c] w fun e w' => ∃ G d us, e = .returned (.slice G n d) ∧ OwnS w' w.heap.size G n d us xss ∧ Below w.heap.size w w' := by
  have HL := Lib.hid h.len
  have H := Lib.hid h
  have HRL := Lib.hid hrl
  have HE := Lib.hid (emptyS_own w)
  have HBE := Lib.hid (box_below2 w (.cells #[] 51))
  clear h hrl
  go_enter Try.func157, Try.ntmps157
  go_wp2
  go_loopw [3, 4] (fun v iv wr => ∃ (i : Nat) (A5 : Option Addr) (c5 : Nat) (vs5 : List Sl), i ≤ n ∧ iv = .int .i64 (i : Int) ∧ v = .slice A5 i c5 ∧ OwnS wr w.heap.size A5 i c5 vs5 (xss.take i) ∧ Below w.heap.size w wr) (fun _ iv _ => n - (intOf iv).toNat)
  case atStart => exact ⟨0, _, _, [], by omega, rfl, rfl, by simpa using HE.out, HBE.out⟩
  case round =>
    obtain ⟨i, A5, c5, vs5, hi, rfl, rfl, ho, hb⟩ := hrel
    clear HE HBE
    have HO := Lib.hid ho
    have HB := Lib.hid hb
    clear ho hb
    by_cases hin : i < n
    · have hin' : (i : Int) < (n : Int) := by omega
      obtain ⟨p1, o1, rfl, _, hc1⟩ := (H.out.below HB.out).at_ hin
      have hr1 := (H.out.below HB.out).row hin
      have hrl1 := HRL.out _ (getD_memS xss i (by have := HL.out; omega))
      have HTK := Lib.hid (take_snocS xss i (by have := HL.out; omega))
      generalize xss.getD i [] = x at *
      generalize vs.getD i nilS = u at *
      obtain ⟨uA, un, uc⟩ := u
      simp only [sv] at hc1
      simp only at hr1
      have hul := hr1.len
      have CO := Lib.hid (spec_own uA un uc x wr hr1 (by omega))
      clear hr1 hrl1 hul
      go_wp2_with (first | (go_at_call 115; refine CO.out.mono ?_; rintro e W3 ⟨A4, c4, rfl, ho3, hb3⟩; have HB3 := Lib.hid hb3; have HO3 := Lib.hid ho3; clear ho3 hb3) | (at_builtin; refine app1S _ _ w.heap.size wr.heap.size A5 i c5 vs5 _ (A4, un, c4) x W3 rfl rfl rfl rfl (HO.out.below HB3.out) HO3.out HO.out.inS HB.out.size (by omega) (Nat.le_trans HB.out.size HB3.out.size) ?_; intro g5 c5' W4 ho4 hg4 hat4))
      rw [← HTK.out] at ho4
      have HO4 := Lib.hid ho4
      have HB4 := Lib.hid ((HB.out.trans (HB3.out.mono HB.out.size)).grown hg4 (Nat.le_trans HB.out.size HB3.out.size) (fun k hk => (HO.out.below HB3.out).out_ge hk))
      clear ho4 hg4 hat4
      go_wp2
      go_roundw
      case rel => exact ⟨i + 1, _, _, _, by omega, by go_num, rfl, HO4.out, HB4.out⟩
      case measure => simp [intOf]; omega
    · obtain rfl : i = n := by omega
      have ho := HO.out
      rw [List.take_of_length_le (Nat.le_of_eq HL.out)] at ho
      have HO2 := Lib.hid ho
      clear ho
      go_wp2
      go_ret
      exact ⟨_, _, _, rfl, HO2.out, HB.out⟩

end Go.Proofs.Ytpgmggkpnefaeaa
