/- impl: the element for which a word of squares stands. -/
import Derived.Test.YtpgmggkpnefaeaaMilI
import Derived.Test.YtpgmggkpnefaeaaWord
namespace Go.Proofs.Ytpgmggkpnefaeaa
open Go.ChangeShapes Go.WideShapes Go.ChangeAt Go.RowKit Go.Proofs
set_option linter.unusedVariables false

theorem lit0 (w : World) : OwnS ((w.alloc (.cells #[] 2)).alloc (.cells #[.slice (some ⟨w.heap.size, 0, none⟩) 0 0] 51)) w.heap.size (some ⟨w.heap.size + 1, 0, none⟩) 1 1 [(some ⟨w.heap.size, 0, none⟩, 0, 0)] [[]] := by
  have ho := lit1S_own (w.alloc (.cells #[] 2)) w.heap.size (some ⟨w.heap.size, 0, none⟩, 0, 0) [] (empty_own w) (by simp)
  rw [show (w.alloc (.cells #[] 2)).heap.size = w.heap.size + 1 by simp] at ho
  exact ho

def fsum (xs : List Int) : Int := xs.foldr (· + ·) 0

theorem fsum_cons (x : Int) (xs : List Int) : fsum (x :: xs) = x + fsum xs := rfl

theorem fsum_nn (xs : List Int) (h : ∀ x ∈ xs, 1 ≤ x ∧ x ≤ 40) : 0 ≤ fsum xs ∧ fsum xs ≤ 40 * xs.length := by
  induction xs with
  | nil => exact ⟨Int.le_refl _, Int.le_refl _⟩
  | cons x xs ih =>
    have h1 := ih (fun z hz => h z (List.mem_cons_of_mem _ hz))
    have h2 := h x List.mem_cons_self
    rw [fsum_cons, List.length_cons]
    omega

theorem fsum_drop (xs : List Int) (h : ∀ x ∈ xs, 1 ≤ x ∧ x ≤ 40) : ∀ k, fsum (xs.drop k) ≤ fsum xs := by
  induction xs with
  | nil => intro k; simp
  | cons x xs ih =>
    intro k
    cases k with
    | zero => exact Int.le_refl _
    | succ k =>
      have h1 := ih (fun z hz => h z (List.mem_cons_of_mem _ hz)) k
      have h2 := h x List.mem_cons_self
      rw [List.drop_succ_cons, fsum_cons]
      omega

theorem sumW_fsum (xs : List Int) : ∀ s : Int, 0 ≤ s → s + 40 * xs.length ≤ 100000 → (∀ x ∈ xs, 1 ≤ x ∧ x ≤ 40) → sumW s xs = s + fsum xs := by
  induction xs with
  | nil => intro s _ _ _; rw [sumW]; simp [fsum]
  | cons x xs ih =>
    intro s h0 h1 h
    have h2 := h x List.mem_cons_self
    rw [List.length_cons] at h1
    rw [sumW, wrap64_id (by omega) (by omega), ih (s + x) (by omega) (by omega) (fun z hz => h z (List.mem_cons_of_mem _ hz)), fsum_cons]
    omega

/-- a word: what its ends stand for -/
theorem word_ends {xs : List Int} (h : wordB xs = true) : xs.length ≤ 20 ∧ (∀ x ∈ xs, 1 ≤ x ∧ x ≤ 40) ∧ ∀ k, MilP (fsum (xs.drop k)) (wordP (xs.drop k)) ∧ fsum (xs.drop k) ≤ 40 := by
  obtain ⟨h1, h2, h3⟩ := wordB_true h
  have h4 := sumW_fsum xs 0 (by omega) (by omega) h2
  exact ⟨h1, h2, fun k => ⟨wordP_mil _ (fun n hn => by have := h2 n (List.mem_of_mem_drop hn); omega), by have := fsum_drop xs h2 k; omega⟩⟩

theorem wordP_step (xs : List Int) (m : Nat) (h : m < xs.length) : wordP (xs.drop m) = timesP (xs.getD m 0) (wordP (xs.drop (m + 1))) := by
  rw [dropc xs m h]; rfl

set_option maxHeartbeats 1600000 in
theorem impl_milnorOfWord {A n c xs w} (h : RI w A n xs) (hw : wordB xs = true) :
    Calls Try.prog 66 #[.slice A n c] w fun e w' => ∃ G k d us, e = .returned (.slice G k d) ∧ OwnS w' w.heap.size G k d us (wordP xs) ∧ Below w.heap.size w w' := by
  have HL := Lib.hid h.len
  have H := Lib.hid h
  have HWE := Lib.hid (word_ends hw)
  have hn20 : n ≤ 20 := by have := HWE.out.1; have := h.len; omega
  have HO0 := Lib.hid (lit0 w)
  have HB0 := Lib.hid (lit2_below w (.cells #[] 2) (.cells #[.slice (some ⟨w.heap.size, 0, none⟩) 0 0] 51))
  clear h hw
  go_enter Try.func66, Try.ntmps66
  go_wp2
  go_loopw [3, 4] (fun v iv wr => ∃ (m : Nat) (A5 : Option Addr) (n5 c5 : Nat) (vs5 : List Sl), m ≤ n ∧ iv = .int .i64 ((m : Int) - 1) ∧ v = .slice A5 n5 c5 ∧ OwnS wr w.heap.size A5 n5 c5 vs5 (wordP (xs.drop m)) ∧ Below w.heap.size w wr) (fun _ iv _ => (intOf iv + 1).toNat)
  case atStart => exact ⟨n, _, _, _, _, by omega, by go_num, rfl, by rw [List.drop_of_length_le (Nat.le_of_eq HL.out)]; exact HO0.out, HB0.out⟩
  case round =>
    obtain ⟨m, A5, n5, c5, vs5, hm, rfl, rfl, ho, hb⟩ := hrel
    clear HO0 HB0
    have HO := Lib.hid ho
    have HB := Lib.hid hb
    clear ho hb
    cases m with
    | zero =>
      have HO1 := Lib.hid (show OwnS wr w.heap.size A5 n5 c5 vs5 (wordP xs) from HO.out)
      rw [show ((0 : Nat) : Int) - 1 = -1 from rfl]
      go_wp2
      go_ret
      exact ⟨_, _, _, _, rfl, HO1.out, HB.out⟩
    | succ m =>
      rw [show ((m + 1 : Nat) : Int) - 1 = (m : Int) by omega]
      have hin : m < n := by omega
      obtain ⟨p1, o1, rfl, _, hc1⟩ := (H.out.below HB.out).at_ hin
      have HST := Lib.hid (wordP_step xs m (by have := HL.out; omega))
      have h1 : m < xs.length := by have := HL.out; omega
      have hx := HWE.out.2.1 (xs.getD m 0) (by simp [List.getD, h1])
      clear h1
      generalize xs.getD m 0 = x at *
      have HL2 := Lib.hid (lit2 wr x (I64.mk (by omega) (by omega)))
      have HB2 := Lib.hid (lit2_below wr (.cells #[.int .i64 x] 2) (.cells #[.slice (some ⟨wr.heap.size, 0, none⟩) 1 1] 51))
      have CM := Lib.hid (impl_multiplied (c := 1) (c2 := c5) HL2.out.reads (HO.out.reads.below HB2.out) ⟨by omega, by omega⟩ (HWE.out.2.2 (m + 1)).1 (HWE.out.2.2 (m + 1)).2)
      clear HL2 HO
      go_wp2_with fail
      refine CM.out.mono ?_
      rintro e w6 ⟨G6, k6, d6, us6, rfl, ho6, hb6⟩
      have HB6 := Lib.hid (HB.out.trans ((HB2.out.trans (hb6.mono HB2.out.size)).mono HB.out.size))
      have HO6 := Lib.hid (show OwnS w6 w.heap.size G6 k6 d6 us6 (wordP (xs.drop m)) by rw [HST.out]; exact ho6.mono (Nat.le_trans HB.out.size HB2.out.size))
      clear ho6 hb6 CM HB2
      go_wp2
      go_roundw
      case rel => exact ⟨m, _, _, _, _, by omega, by go_num, rfl, HO6.out, HB6.out⟩
      case measure => simp [intOf]

end Go.Proofs.Ytpgmggkpnefaeaa
