/- MilnorOfWord of the program and of the reference. -/
import Derived.Test.YtpgmggkpnefaeaaFilV
import Derived.Test.YtpgmggkpnefaeaaMilW
import Derived.Test.YtpgmggkpnefaeaaBlk
namespace Go.Proofs.Ytpgmggkpnefaeaa
open Go.ChangeShapes Go.WideShapes Go.ChangeAt Go.RowKit Go.Proofs
set_option linter.unusedVariables false

set_option maxHeartbeats 1600000 in
theorem spec_l05Word {A n c xs w} (h : RI w A n xs) (hw : wordB xs = true) :
    Calls Try.prog 61 #[.slice A n c] w fun e w' => ∃ G k d us, e = .returned (.slice G k d) ∧ OwnS w' w.heap.size G k d us (wordP xs) ∧ Below w.heap.size w w' := by
  have HL := Lib.hid h.len
  have H := Lib.hid h
  have HWE := Lib.hid (word_ends hw)
  have hn20 : n ≤ 20 := by have := HWE.out.1; have := h.len; omega
  have HO0 := Lib.hid (lit0 w)
  have HB0 := Lib.hid (lit2_below w (.cells #[] 2) (.cells #[.slice (some ⟨w.heap.size, 0, none⟩) 0 0] 51))
  clear h hw
  go_enter Try.func61, Try.ntmps61
  go_wp2
  go_loopw [3, 4] (fun v iv wr => ∃ (m : Nat) (A5 : Option Addr) (n5 c5 : Nat) (vs5 : List Sl), m ≤ n ∧ iv = .int .i64 ((m : Int) - 1) ∧ v = .slice A5 n5 c5 ∧ OwnS wr w.heap.size A5 n5 c5 vs5 (wordP (xs.drop m)) ∧ Below w.heap.size w wr) (fun _ iv _ => (intOf iv + 1).toNat)
  case atStart => exact ⟨n, _, _, _, _, by omega, by go_num, rfl, by rw [List.drop_of_length_le (Nat.le_of_eq HL.out)]; exact HO0.out, HB0.out⟩
  case round =>
    obtain ⟨m, A5, n5, c5, vs5, hm, rfl, rfl, ho, hb⟩ := hrel
    clear HO0 HB0
    have HO := Lib.hid ho
    have HB := Lib.hid hb
    clear ho hb
    cases m with
    | zero =>
      have HO1 := Lib.hid (show OwnS wr w.heap.size A5 n5 c5 vs5 (wordP xs) from HO.out)
      rw [show ((0 : Nat) : Int) - 1 = -1 from rfl]
      go_wp2
      go_ret
      exact ⟨_, _, _, _, rfl, HO1.out, HB.out⟩
    | succ m =>
      rw [show ((m + 1 : Nat) : Int) - 1 = (m : Int) by omega]
      have hin : m < n := by omega
      obtain ⟨p1, o1, rfl, _, hc1⟩ := (H.out.below HB.out).at_ hin
      have HST := Lib.hid (wordP_step xs m (by have := HL.out; omega))
      have h1 : m < xs.length := by have := HL.out; omega
      have hx := HWE.out.2.1 (xs.getD m 0) (by simp [List.getD, h1])
      clear h1
      generalize xs.getD m 0 = x at *
      have HL2 := Lib.hid (lit2 wr x (I64.mk (by omega) (by omega)))
      have HB2 := Lib.hid (lit2_below wr (.cells #[.int .i64 x] 2) (.cells #[.slice (some ⟨wr.heap.size, 0, none⟩) 1 1] 51))
      have CM := Lib.hid (spec_l04Times (c := 1) (c2 := c5) HL2.out.reads (HO.out.reads.below HB2.out) ⟨by omega, by omega⟩ (HWE.out.2.2 (m + 1)).1 (HWE.out.2.2 (m + 1)).2)
      clear HL2 HO
      go_wp2_with fail
      refine CM.out.mono ?_
      rintro e w6 ⟨G6, k6, d6, us6, rfl, ho6, hb6⟩
      have HB6 := Lib.hid (HB.out.trans ((HB2.out.trans (hb6.mono HB2.out.size)).mono HB.out.size))
      have HO6 := Lib.hid (show OwnS w6 w.heap.size G6 k6 d6 us6 (wordP (xs.drop m)) by rw [HST.out]; exact ho6.mono (Nat.le_trans HB.out.size HB2.out.size))
      clear ho6 hb6 CM HB2
      go_wp2
      go_roundw
      case rel => exact ⟨m, _, _, _, _, by omega, by go_num, rfl, HO6.out, HB6.out⟩
      case measure => simp [intOf]

def pMilnorOfWord (xs : List Int) : List (List Int) × Int := if wordB xs = true then (wordP xs, 0) else ([], 1)

theorem tot_rowsM (L : Nat) (l : List (List Int)) (h : ∀ r ∈ l, r.length ≤ L) : tot l ≤ L * l.length := by
  induction l with
  | nil => simp [tot]
  | cons x l ih =>
    have h1 := h x List.mem_cons_self
    have h2 := ih (fun r hr => h r (List.mem_cons_of_mem _ hr))
    rw [tot, List.length_cons, Nat.mul_succ]
    omega

theorem wordP_small {xs : List Int} (h : wordB xs = true) : tot (wordP xs) ≤ 1000000 ∧ (wordP xs).length ≤ 35056 := by
  have h1 := (word_ends h).2.2 0
  rw [List.drop_zero] at h1
  have h2 := h1.1.len h1.2
  have h3 := tot_rowsM 5 (wordP xs) (fun y hy => (h1.1.row h1.2 y hy).1)
  have h4 := Nat.mul_le_mul_left 5 h2
  omega

theorem pMilnorOfWord_sz (xs : List Int) (h : xs.length ≤ 1048576) : tot (pMilnorOfWord xs).1 ≤ 4000000000 := by
  unfold pMilnorOfWord
  split
  · have := (wordP_small ‹_›).1
    show tot (wordP xs) ≤ _
    omega
  · simp [tot]

set_option maxHeartbeats 1000000 in
theorem impl_MilnorOfWord {A n c xs w} (h : RI w A n xs) (hn : n ≤ 1048576) :
    Calls Try.prog 57 #[.slice A n c] w fun e w' => ∃ G m q vs, e = .returned (.tuple #[.agg #[.slice G m q], .int .i64 (pMilnorOfWord xs).2]) ∧ OwnS w' w.heap.size G m q vs (pMilnorOfWord xs).1 ∧ Below w.heap.size w w' := by
  have hb0 := box_below w (.cells #[.slice none 0 0] 31)
  have hbk := Blk.new w #[.slice none 0 0] 31
  have hz : (w.alloc (.cells #[.slice none 0 0] 31)).heap.size = w.heap.size + 1 := by simp
  have H := Lib.hid (h.below hb0)
  have HB0 := Lib.hid hb0
  have HBK := Lib.hid hbk
  have HZ := Lib.hid hz
  have hn63 : n ≤ 1048576 := hn
  clear h hb0 hbk hz
  cases hw : wordB xs with
  | false =>
    have HF := Lib.hid (show pMilnorOfWord xs = ([], 1) by unfold pMilnorOfWord; rw [if_neg (by rw [hw]; simp)])
    have HW := Lib.hid hw
    clear hw
    go_enter Try.func57, Try.ntmps57
    go_wp2_with fail
    have CW := Lib.hid ((impl_isWord A n c xs (w.alloc (.cells #[.slice none 0 0] 31)) H.out).mono (fun e w' h => (show e = .returned (.bool (wordB xs)) ∧ Below (w.alloc (.cells #[.slice none 0 0] 31)).heap.size (w.alloc (.cells #[.slice none 0 0] 31)) w' from h)))
    rw [HW.out] at CW
    generalize w.alloc (.cells #[.slice none 0 0] 31) = W0 at *
    refine CW.out.mono ?_
    rintro e w3 ⟨rfl, hb3⟩
    have HB3 := Lib.hid hb3
    have HX3 := Lib.hid (HBK.out.below hb3)
    clear hb3
    have c20 := HX3.out.cell 0 rfl
    have f20 := HX3.out.free 0
    clear CW
    go_wp2
    refine bodyPost_ret (v := .tuple #[.agg #[.slice none 0 0], .int .i64 1]) (by simp [results, Try.results57, go_sem, c20]) rfl ?_
    rw [HF.out]
    exact ⟨none, 0, 0, [], rfl, OwnS.nil _ _, (HB0.out.trans (HB3.out.mono HB0.out.size)).setCell (Nat.le_refl _) _⟩
  | true =>
    have HF := Lib.hid (show pMilnorOfWord xs = (wordP xs, 0) by unfold pMilnorOfWord; rw [if_pos hw])
    have HW := Lib.hid hw
    clear hw
    go_enter Try.func57, Try.ntmps57
    go_wp2_with fail
    have CW := Lib.hid ((impl_isWord A n c xs (w.alloc (.cells #[.slice none 0 0] 31)) H.out).mono (fun e w' h => (show e = .returned (.bool (wordB xs)) ∧ Below (w.alloc (.cells #[.slice none 0 0] 31)).heap.size (w.alloc (.cells #[.slice none 0 0] 31)) w' from h)))
    have CM := Lib.hid (fun w2 (hb : Below (w.alloc (.cells #[.slice none 0 0] 31)).heap.size (w.alloc (.cells #[.slice none 0 0] 31)) w2) => impl_milnorOfWord (c := c) (H.out.below hb) HW.out)
    rw [HW.out] at CW
    generalize w.alloc (.cells #[.slice none 0 0] 31) = W0 at *
    refine CW.out.mono ?_
    rintro e w3 ⟨rfl, hb3⟩
    have HB3 := Lib.hid hb3
    have HX3 := Lib.hid (HBK.out.below hb3)
    clear hb3
    clear CW
    go_wp2_with fail
    refine (CM.out w3 HB3.out).mono ?_
    rintro e w4 ⟨G4, k4, d4, us4, rfl, ho4, hb4⟩
    have HO4 := Lib.hid ho4
    have HB4 := Lib.hid hb4
    have HX4 := Lib.hid (HX3.out.below hb4)
    have c20 := HX4.out.cell 0 rfl
    have f20 := HX4.out.free 0
    clear ho4 hb4 CM
    go_wp2
    refine bodyPost_ret (v := .tuple #[.agg #[.slice G4 k4 d4], .int .i64 0]) (by simp [results, Try.results57, go_sem, c20]) rfl ?_
    rw [HF.out]
    exact ⟨G4, k4, d4, us4, rfl, (HO4.out.setFar ⟨w.heap.size, 0, none⟩ _ (by have := HZ.out; have := HB3.out.size; show w.heap.size < _; omega)).mono (by have := HZ.out; have := HB3.out.size; omega), (HB0.out.trans ((HB3.out.trans (HB4.out.mono HB3.out.size)).mono HB0.out.size)).setCell (Nat.le_refl _) _⟩

set_option maxHeartbeats 1000000 in
theorem spec_MilnorOfWord {A n c xs w} (h : RI w A n xs) (hn : n ≤ 1048576) :
    Calls Try.prog 56 #[.slice A n c] w fun e w' => ∃ G m q vs, e = .returned (.tuple #[.agg #[.slice G m q], .int .i64 (pMilnorOfWord xs).2]) ∧ OwnS w' w.heap.size G m q vs (pMilnorOfWord xs).1 ∧ Below w.heap.size w w' := by
  have hb0 := box_below w (.cells #[.slice none 0 0] 31)
  have hbk := Blk.new w #[.slice none 0 0] 31
  have hz : (w.alloc (.cells #[.slice none 0 0] 31)).heap.size = w.heap.size + 1 := by simp
  have H := Lib.hid (h.below hb0)
  have HB0 := Lib.hid hb0
  have HBK := Lib.hid hbk
  have HZ := Lib.hid hz
  have hn63 : n ≤ 1048576 := hn
  clear h hb0 hbk hz
  cases hw : wordB xs with
  | false =>
    have HF := Lib.hid (show pMilnorOfWord xs = ([], 1) by unfold pMilnorOfWord; rw [if_neg (by rw [hw]; simp)])
    have HW := Lib.hid hw
    clear hw
    go_enter Try.func56, Try.ntmps56
    go_wp2_with fail
    have CW := Lib.hid ((spec_l03Word A n c xs (w.alloc (.cells #[.slice none 0 0] 31)) H.out).mono (fun e w' h => (show e = .returned (.bool (wordB xs)) ∧ Below (w.alloc (.cells #[.slice none 0 0] 31)).heap.size (w.alloc (.cells #[.slice none 0 0] 31)) w' from ⟨h.1, h.2 ▸ Below.refl _ _⟩)))
    rw [HW.out] at CW
    generalize w.alloc (.cells #[.slice none 0 0] 31) = W0 at *
    refine CW.out.mono ?_
    rintro e w3 ⟨rfl, hb3⟩
    have HB3 := Lib.hid hb3
    have HX3 := Lib.hid (HBK.out.below hb3)
    clear hb3
    have c20 := HX3.out.cell 0 rfl
    have f20 := HX3.out.free 0
    clear CW
    go_wp2
    refine bodyPost_ret (v := .tuple #[.agg #[.slice none 0 0], .int .i64 1]) (by simp [results, Try.results56, go_sem, c20]) rfl ?_
    rw [HF.out]
    exact ⟨none, 0, 0, [], rfl, OwnS.nil _ _, (HB0.out.trans (HB3.out.mono HB0.out.size)).setCell (Nat.le_refl _) _⟩
  | true =>
    have HF := Lib.hid (show pMilnorOfWord xs = (wordP xs, 0) by unfold pMilnorOfWord; rw [if_pos hw])
    have HW := Lib.hid hw
    clear hw
    go_enter Try.func56, Try.ntmps56
    go_wp2_with fail
    have CW := Lib.hid ((spec_l03Word A n c xs (w.alloc (.cells #[.slice none 0 0] 31)) H.out).mono (fun e w' h => (show e = .returned (.bool (wordB xs)) ∧ Below (w.alloc (.cells #[.slice none 0 0] 31)).heap.size (w.alloc (.cells #[.slice none 0 0] 31)) w' from ⟨h.1, h.2 ▸ Below.refl _ _⟩)))
    have CM := Lib.hid (fun w2 (hb : Below (w.alloc (.cells #[.slice none 0 0] 31)).heap.size (w.alloc (.cells #[.slice none 0 0] 31)) w2) => spec_l05Word (c := c) (H.out.below hb) HW.out)
    rw [HW.out] at CW
    generalize w.alloc (.cells #[.slice none 0 0] 31) = W0 at *
    refine CW.out.mono ?_
    rintro e w3 ⟨rfl, hb3⟩
    have HB3 := Lib.hid hb3
    have HX3 := Lib.hid (HBK.out.below hb3)
    clear hb3
    clear CW
    go_wp2_with fail
    refine (CM.out w3 HB3.out).mono ?_
    rintro e w4 ⟨G4, k4, d4, us4, rfl, ho4, hb4⟩
    have HO4 := Lib.hid ho4
    have HB4 := Lib.hid hb4
    have HX4 := Lib.hid (HX3.out.below hb4)
    have c20 := HX4.out.cell 0 rfl
    have f20 := HX4.out.free 0
    clear ho4 hb4 CM
    go_wp2
    refine bodyPost_ret (v := .tuple #[.agg #[.slice G4 k4 d4], .int .i64 0]) (by simp [results, Try.results56, go_sem, c20]) rfl ?_
    rw [HF.out]
    exact ⟨G4, k4, d4, us4, rfl, (HO4.out.setFar ⟨w.heap.size, 0, none⟩ _ (by have := HZ.out; have := HB3.out.size; show w.heap.size < _; omega)).mono (by have := HZ.out; have := HB3.out.size; omega), (HB0.out.trans ((HB3.out.trans (HB4.out.mono HB3.out.size)).mono HB0.out.size)).setCell (Nat.le_refl _) _⟩

end Go.Proofs.Ytpgmggkpnefaeaa
