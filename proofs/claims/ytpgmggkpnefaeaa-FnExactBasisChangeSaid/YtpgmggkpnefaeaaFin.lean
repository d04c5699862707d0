/- impl: the end of a table: its diagonals, and the basis element that it gives. -/
import Derived.Test.YtpgmggkpnefaeaaTab
import Derived.Test.YtpgmggkpnefaeaaSum
import Derived.Test.YtpgmggkpnefaeaaParE
namespace Go.Proofs.Ytpgmggkpnefaeaa
open Go.ChangeShapes Go.WideShapes Go.ChangeAt Go.RowKit
set_option linter.unusedVariables false

theorem sumW_zeros (s : Int) (k : Nat) (h0 : 0 ≤ s) (h : s ≤ 100000) : sumW s (List.replicate k 0) = s := by
  induction k with
  | zero => rfl
  | succ k ih => rw [List.replicate_succ, sumW, Int.add_zero, wrap64_id (by omega) (by omega)]; exact ih

theorem sumW_diag (a b : Int) (k : Nat) (h0 : 0 ≤ a) (h : a ≤ 1000) (h0' : 0 ≤ b) (h' : b ≤ 1000) : sumW 0 (a :: b :: List.replicate k 0) = a + b := by
  rw [sumW, sumW, Int.zero_add, wrap64_id (x := a) (by omega) (by omega), wrap64_id (x := a + b) (by omega) (by omega)]
  exact sumW_zeros _ _ (by omega) (by omega)

def sm (l : List Int) : Prop := ∀ z ∈ l, 0 ≤ z ∧ z ≤ 1000

theorem sm_get {l : List Int} (h : sm l) (i : Nat) : 0 ≤ l.getD i 0 ∧ l.getD i 0 ≤ 1000 := by
  by_cases hi : i < l.length
  · exact h _ (by simp [List.getD, hi])
  · simp [List.getD, hi]

theorem atV_sm {r : Int} {S X : List Int} (n i j : Nat) (hr : 0 ≤ r ∧ r ≤ 1000) (hS : sm S) (hX : sm X) : 0 ≤ atV r S X n i j ∧ atV r S X n i j ≤ 1000 := by
  unfold atV
  split
  · omega
  · split
    · exact sm_get hS _
    · split
      · exact hr
      · exact sm_get hX _

theorem zip_get (f : Int → Int → Int) (a b : List Int) (q : Nat) (ha : q < a.length) (hb : q < b.length) : (List.zipWith f a b).getD q 0 = f (a.getD q 0) (b.getD q 0) := by
  simp only [List.getD]
  rw [List.getElem?_zipWith, List.getElem?_eq_getElem ha, List.getElem?_eq_getElem hb]
  rfl

theorem diaL_len (r : Int) (X S : List Int) (h : X.length = S.length) : (diaL r X S).length = S.length + 1 := by simp [diaL, h]

theorem diaL_take (r : Int) (X S : List Int) (h : X.length = S.length) (q : Nat) (hq : q < S.length + 1) : (diaL r X S).take (q + 1) = (diaL r X S).take q ++ [(S ++ [0]).getD q 0 + (r :: X).getD q 0] := by
  have hl := diaL_len r X S h
  rw [List.take_succ_eq_append_getElem (by omega)]
  have e : (diaL r X S)[q]'(by omega) = (diaL r X S).getD q 0 := by simp [List.getD, show q < (diaL r X S).length by omega]
  rw [e]
  unfold diaL
  rw [zip_get _ _ _ _ (by simp; omega) (by simp; omega)]

def diaZ (r : Int) (X S : List Int) : List Int := List.zipWith (fun a b => bits .and .i64 a b) (S ++ [0]) (r :: X)

theorem diaZ_get (r : Int) (X S : List Int) (h : X.length = S.length) (q : Nat) (hq : q < S.length + 1) : (diaZ r X S).getD q 0 = bits .and .i64 ((S ++ [0]).getD q 0) ((r :: X).getD q 0) := zip_get _ _ _ _ (by simp; omega) (by simp; omega)

theorem res_no (r : Int) (X S : List Int) (h : X.length = S.length) (q : Nat) (hq : q < S.length + 1) (hz : (bits .and .i64 ((S ++ [0]).getD q 0) ((r :: X).getD q 0) == 0) = false) : resL r X S = [] := by
  unfold resL
  rw [if_neg]
  intro hall
  have h1 := List.all_eq_true.1 hall ((diaZ r X S).getD q 0) (by
    have hl : (diaZ r X S).length = S.length + 1 := by simp [diaZ, h]
    show (diaZ r X S).getD q 0 ∈ diaZ r X S
    simp [List.getD, show q < (diaZ r X S).length by omega])
  rw [diaZ_get r X S h q hq, hz] at h1
  cases h1

theorem res_yes (r : Int) (X S : List Int) (h : X.length = S.length) (hz : ∀ q, q < S.length + 1 → (bits .and .i64 ((S ++ [0]).getD q 0) ((r :: X).getD q 0) == 0) = true) : resL r X S = [trimL (diaL r X S)] := by
  unfold resL
  rw [if_pos]
  unfold diaB
  rw [List.all_eq_true]
  intro z hz2
  have hl : (diaZ r X S).length = S.length + 1 := by simp [diaZ, h]
  obtain ⟨q, hq, rfl⟩ := List.mem_iff_getElem.1 (show z ∈ diaZ r X S from hz2)
  have e : (diaZ r X S)[q] = (diaZ r X S).getD q 0 := by simp [List.getD, hq]
  rw [e, diaZ_get r X S h q (by omega)]
  exact hz q (by omega)

theorem impl_at {w B0 B1 bT gR gC AS AX nS cR cS cC cX r S X A5 n5 c5 vs5 acc} (h : Tab w B0 B1 bT gR gC AS AX nS cR cS cC cX r S X A5 n5 c5 vs5 acc) {bt bm bn : Nat} (hbt : Blk w bt 118 #[.pointer (some ⟨bT, 0, none⟩)]) (hbm : Blk w bm 3 #[.int .i64 1]) (hbn : Blk w bn 3 #[.int .i64 (nS : Int)]) (hn : nS ≤ 1000) (i j : Nat) (hij : 1 ≤ i + j) (hi : i ≤ 2000) (hj : j ≤ 2000) :
    Calls Try.prog 166 #[.int .i64 (i : Int), .int .i64 (j : Int), .pointer (some ⟨bm, 0, none⟩), .pointer (some ⟨bn, 0, none⟩), .pointer (some ⟨bt, 0, none⟩)] w fun e w' => e = .returned (.int .i64 (atV r S X nS i j)) ∧ w = w' := by
  have km := hbm.cell 0 (v := .int .i64 1) rfl
  have kn := hbn.cell 0 (v := .int .i64 (nS : Int)) rfl
  have kt := hbt.cell 0 (v := .pointer (some ⟨bT, 0, none⟩)) rfl
  have H := Lib.hid h
  clear h hbt hbm hbn
  by_cases h1 : 1 < i
  · have h1' : (1 : Int) < (i : Int) := by omega
    have HF := Lib.hid (show atV r S X nS i j = 0 by unfold atV; rw [if_pos (.inl h1)])
    go_enter Try.func166, Try.ntmps166
    go_wp2
    go_ret
    exact ⟨by first | (rw [HF.out]; rfl) | rw [HF.out], rfl⟩
  · have h1' : (i : Int) ≤ 1 := by omega
    by_cases h2 : nS < j
    · have h2' : (nS : Int) < (j : Int) := by omega
      have HF := Lib.hid (show atV r S X nS i j = 0 by unfold atV; rw [if_pos (.inr h2)])
      go_enter Try.func166, Try.ntmps166
      go_wp2
      go_ret
      exact ⟨by first | (rw [HF.out]; rfl) | rw [HF.out], rfl⟩
    · have h2' : (j : Int) ≤ (nS : Int) := by omega
      by_cases h3 : i = 0
      · subst h3
        obtain ⟨q, rfl⟩ : ∃ q, j = q + 1 := ⟨j - 1, by omega⟩
        have HF := Lib.hid (show atV r S X nS 0 (q + 1) = S.getD q 0 by unfold atV; rw [if_neg (by omega), if_pos rfl]; rfl)
        have hw : IntKind.i64.wrap (((q + 1 : Nat) : Int) - 1) = (q : Int) := by rw [IntKind.wrap_i64]; omega
        have hq : q < nS := by omega
        have hq' : (q : Int) < (nS : Int) := by omega
        have k1 := H.out.box.cell 1 (v := .slice AS nS cS) rfl
        obtain ⟨b, off, rfl, _, hc⟩ := H.out.hS.reads.at_ hq
        go_enter Try.func166, Try.ntmps166
        go_wp2
        go_ret
        exact ⟨by first | (rw [HF.out]; rfl) | rw [HF.out], rfl⟩
      · obtain rfl : i = 1 := by omega
        by_cases h4 : j = 0
        · subst h4
          have HF := Lib.hid (show atV r S X nS 1 0 = r by unfold atV; rw [if_neg (by omega), if_neg (by omega), if_pos rfl])
          have hw : IntKind.i64.wrap (((1 : Nat) : Int) - 1) = 0 := by rw [IntKind.wrap_i64]; omega
          have k0 := H.out.box.cell 0 (v := .slice (some ⟨gR, 0, none⟩) 1 cR) rfl
          have hc := H.out.hR.cell (i := 0) (by omega)
          simp only [List.getD, List.getElem?_cons_zero, Option.getD_some] at hc
          go_enter Try.func166, Try.ntmps166
          go_wp2
          go_ret
          exact ⟨by first | (rw [HF.out]; rfl) | rw [HF.out], rfl⟩
        · obtain ⟨q, rfl⟩ : ∃ q, j = q + 1 := ⟨j - 1, by omega⟩
          have HF := Lib.hid (show atV r S X nS 1 (q + 1) = X.getD q 0 by unfold atV; rw [if_neg (by omega), if_neg (by omega), if_neg (by omega)]; rfl)
          have hw : IntKind.i64.wrap (((q + 1 : Nat) : Int) - 1) = (q : Int) := by rw [IntKind.wrap_i64]; omega
          have hw2 : IntKind.i64.wrap (((1 : Nat) : Int) - 1) = 0 := by rw [IntKind.wrap_i64]; omega
          have hq : q < nS := by omega
          have hq' : (q : Int) < (nS : Int) := by omega
          have hz : ((q + 1 : Nat) : Int) ≠ 0 := by omega
          have k2 := H.out.box.cell 2 (v := .slice (some ⟨gC, 0, none⟩) 1 cC) rfl
          have kc := H.out.cellC
          obtain ⟨b, off, rfl, _, hc⟩ := H.out.rowX.reads.at_ hq
          go_enter Try.func166, Try.ntmps166
          go_wp2
          go_ret
          exact ⟨by first | (rw [HF.out]; rfl) | rw [HF.out], rfl⟩

end Go.Proofs.Ytpgmggkpnefaeaa
