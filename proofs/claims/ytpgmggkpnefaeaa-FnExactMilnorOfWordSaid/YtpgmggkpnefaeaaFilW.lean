/- spec: the element for which a word of squares stands. -/
import Derived.Test.YtpgmggkpnefaeaaFilV
import Derived.Test.YtpgmggkpnefaeaaMilW
namespace Go.Proofs.Ytpgmggkpnefaeaa
open Go.ChangeShapes Go.WideShapes Go.ChangeAt Go.RowKit Go.Proofs
set_option linter.unusedVariables false

set_option maxHeartbeats 1600000 in
theorem spec_l05Word {A n c xs w} (h : RI w A n xs) (hw : wordB xs = true) :
    Calls Try.prog 61 #[.slice A n c] w fun e w' => ∃ G k d us, e = .returned (.slice G k d) ∧ OwnS w' w.heap.size G k d us (wordP xs) ∧ Below w.heap.size w w' := by
  have HL := Lib.hid h.len
  have H := Lib.hid h
  have HWE := Lib.hid (word_ends hw)
  have hn20 : n ≤ 20 := by have := HWE.out.1; have := h.len; omega
  have HO0 := Lib.hid (lit0 w)
  have HB0 := Lib.hid (lit2_below w (.cells #[] 2) (.cells #[.slice (some ⟨w.heap.size, 0, none⟩) 0 0] 51))
  clear h hw
  go_enter Try.func61, Try.ntmps61
  go_wp2
  go_loopw [3, 4] (fun v iv wr => ∃ (m : Nat) (A5 : Option Addr) (n5 c5 : Nat) (vs5 : List Sl), m ≤ n ∧ iv = .int .i64 ((m : Int) - 1) ∧ v = .slice A5 n5 c5 ∧ OwnS wr w.heap.size A5 n5 c5 vs5 (wordP (xs.drop m)) ∧ Below w.heap.size w wr) (fun _ iv _ => (intOf iv + 1).toNat)
  case atStart => exact ⟨n, _, _, _, _, by omega, by go_num, rfl, by rw [List.drop_of_length_le (Nat.le_of_eq HL.out)]; exact HO0.out, HB0.out⟩
  case round =>
    obtain ⟨m, A5, n5, c5, vs5, hm, rfl, rfl, ho, hb⟩ := hrel
    clear HO0 HB0
    have HO := Lib.hid ho
    have HB := Lib.hid hb
    clear ho hb
    cases m with
    | zero =>
      have HO1 := Lib.hid (show OwnS wr w.heap.size A5 n5 c5 vs5 (wordP xs) from HO.out)
      rw [show ((0 : Nat) : Int) - 1 = -1 from rfl]
      go_wp2
      go_ret
      exact ⟨_, _, _, _, rfl, HO1.out, HB.out⟩
    | succ m =>
      rw [show ((m + 1 : Nat) : Int) - 1 = (m : Int) by omega]
      have hin : m < n := by omega
      obtain ⟨p1, o1, rfl, _, hc1⟩ := (H.out.below HB.out).at_ hin
      have HST := Lib.hid (wordP_step xs m (by have := HL.out; omega))
      have h1 : m < xs.length := by have := HL.out; omega
      have hx := HWE.out.2.1 (xs.getD m 0) (by simp [List.getD, h1])
      clear h1
      generalize xs.getD m 0 = x at *
      have HL2 := Lib.hid (lit2 wr x (I64.mk (by omega) (by omega)))
      have HB2 := Lib.hid (lit2_below wr (.cells #[.int .i64 x] 2) (.cells #[.slice (some ⟨wr.heap.size, 0, none⟩) 1 1] 51))
      have CM := Lib.hid (spec_l04Times (c := 1) (c2 := c5) HL2.out.reads (HO.out.reads.below HB2.out) ⟨by omega, by omega⟩ (HWE.out.2.2 (m + 1)).1 (HWE.out.2.2 (m + 1)).2)
      clear HL2 HO
      go_wp2_with fail
      refine CM.out.mono ?_
      rintro e w6 ⟨G6, k6, d6, us6, rfl, ho6, hb6⟩
      have HB6 := Lib.hid (HB.out.trans ((HB2.out.trans (hb6.mono HB2.out.size)).mono HB.out.size))
      have HO6 := Lib.hid (show OwnS w6 w.heap.size G6 k6 d6 us6 (wordP (xs.drop m)) by rw [HST.out]; exact ho6.mono (Nat.le_trans HB.out.size HB2.out.size))
      clear ho6 hb6 CM HB2
      go_wp2
      go_roundw
      case rel => exact ⟨m, _, _, _, _, by omega, by go_num, rfl, HO6.out, HB6.out⟩
      case measure => simp [intOf]

end Go.Proofs.Ytpgmggkpnefaeaa
