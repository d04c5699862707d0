/- A list among rising lists: slices.BinarySearchFunc by slices.Compare, hasTerm, l01Place; coordinates in a basis. -/
import Derived.Test.YtpgmggkpnefaeaaMWord
import Derived.Test.YtpgmggkpnefaeaaRise
namespace Go.Proofs.Ytpgmggkpnefaeaa
open Go.ChangeShapes Go.WideShapes Go.ChangeAt Go.RowKit Go.Proofs
set_option linter.unusedVariables false

theorem cmpL_zero (x y : List Int) (h : cmpL x y = 0) : x = y := by
  induction x generalizing y with
  | nil =>
    cases y with
    | nil => rfl
    | cons b y => simp [cmpL] at h
  | cons a x ih =>
    cases y with
    | nil => simp [cmpL] at h
    | cons b y =>
      rw [cmpL] at h
      by_cases h1 : a < b
      · rw [if_pos h1] at h; omega
      · rw [if_neg h1] at h
        by_cases h2 : b < a
        · rw [if_pos h2] at h; omega
        · rw [if_neg h2] at h
          rw [ih y h, show a = b by omega]

theorem ris_get {L : LL} (h : Ris L) {i j : Nat} (hij : i < j) (hj : j < L.length) : lessL (L.getD i []) (L.getD j []) = true := by
  have : lessL L[i] L[j] = true := List.pairwise_iff_getElem.1 h i j (by omega) hj hij
  simpa [List.getD, hj, show i < L.length by omega] using this

def hasB (L : LL) (x : List Int) : Bool := decide (x ∈ L)

theorem has_yes {L : LL} {x : List Int} (i : Nat) (hi : i < L.length) (h : L.getD i [] = x) : hasB L x = true := by
  unfold hasB
  rw [decide_eq_true_iff, ← h]
  simp [List.getD, hi]

theorem has_no {L : LL} {x : List Int} (h : ∀ t, t < L.length → L.getD t [] ≠ x) : hasB L x = false := by
  unfold hasB
  rw [decide_eq_false_iff_not]
  intro hm
  obtain ⟨t, ht, e⟩ := List.mem_iff_getElem.1 hm
  exact h t ht (by simpa [List.getD, ht] using e)

def SearchPost (w : World) (b : Bool) (e : Ending) (w' : World) : Prop := ∃ k : Int, e = .returned (.tuple #[.int .i64 k, .bool b]) ∧ Below w.heap.size w w'

set_option maxRecDepth 100000 in
set_option maxHeartbeats 1600000 in
theorem impl_search {A n c vs L A2 m c2 x w} (h : RS w A n vs L) (hr : Ris L) (g : RI w A2 m x) (hn : n ≤ 1000000000) :
    Calls Try.prog 132 #[.slice A n c, .slice A2 m c2, .func (.func 103) #[] #[]] w (SearchPost w (hasB L x)) := by
  have HL := Lib.hid h.len
  have H := Lib.hid h
  have G := Lib.hid g
  have HR := Lib.hid (fun i j (hij : i < j) (hj : j < n) => ris_get hr hij (by have := h.len; omega))
  have HB0 := Lib.hid (Below.refl w.heap.size w)
  have hcc := Try.call103
  clear h hr g
  go_enter Try.func132, Try.ntmps132
  go_wp2
  go_loopw [9, 10] (fun iv jv wr => ∃ lo hi : Nat, lo ≤ hi ∧ hi ≤ n ∧ iv = .int .i64 (lo : Int) ∧ jv = .int .i64 (hi : Int) ∧ (∀ t, t < lo → lessL (L.getD t []) x = true) ∧ (∀ t, hi ≤ t → t < n → lessL (L.getD t []) x = false) ∧ Below w.heap.size w wr) (fun iv jv _ => (intOf jv).toNat - (intOf iv).toNat)
  case atStart => exact ⟨0, n, by omega, by omega, rfl, rfl, fun t ht => absurd ht (by omega), fun t h1 h2 => by omega, HB0.out⟩
  case round =>
    obtain ⟨lo, hi, hlh, hin, rfl, rfl, hlo, hhi, hb⟩ := hrel
    have HLO := Lib.hid hlo
    have HHI := Lib.hid hhi
    have HB := Lib.hid hb
    clear hlo hhi hb HB0
    by_cases hlt : lo < hi
    · have hm1 : (lo + hi) / 2 < n := by omega
      have hm2 : lo ≤ (lo + hi) / 2 := by omega
      have hm3 : (lo + hi) / 2 < hi := by omega
      obtain ⟨p1, o1, rfl, _, hc1⟩ := (H.out.below HB.out).at_ hm1
      have hr1 := (H.out.below HB.out).row hm1
      have HY := Lib.hid (show (∀ t, t < (lo + hi) / 2 → lessL (L.getD t []) (L.getD ((lo + hi) / 2) []) = true) ∧ (∀ t, (lo + hi) / 2 < t → t < n → lessL (L.getD ((lo + hi) / 2) []) (L.getD t []) = true) from ⟨fun t ht => HR.out t _ ht hm1, fun t ht htn => HR.out _ t ht htn⟩)
      have HYY := Lib.hid (show L.getD ((lo + hi) / 2) [] = L.getD ((lo + hi) / 2) [] from rfl)
      generalize hy : L.getD ((lo + hi) / 2) [] = y at hr1 HY HYY
      have HE := Lib.hid hy
      generalize vs.getD ((lo + hi) / 2) nilS = v at *
      obtain ⟨vA, vn, vc⟩ := v
      simp only [sv] at hc1
      simp only at hr1
      have CC := Lib.hid (compare_any (c := vc) (d := c2) hr1 (G.out.below HB.out))
      have HCL := Lib.hid (show lessL y x = decide (cmpL y x < 0) from rfl)
      generalize cmpL y x = z at *
      clear hr1 hy HYY
      by_cases hz : z < 0
      · have hly : lessL y x = true := by rw [HCL.out]; exact decide_eq_true hz
        have HN := Lib.hid (show ∀ t, t < (lo + hi) / 2 + 1 → lessL (L.getD t []) x = true from fun t ht => by
          rcases Nat.lt_or_ge t ((lo + hi) / 2) with h1 | h1
          · exact lessL_trans _ _ _ (HY.out.1 t h1) hly
          · obtain rfl : t = (lo + hi) / 2 := by omega
            rw [HE.out]; exact hly)
        clear hly
        go_wp2_with (go_at_call 103; refine CC.out.mono ?_; rintro e w' ⟨rfl, nq, rfl⟩)
        go_roundw
        case rel => exact ⟨(lo + hi) / 2 + 1, hi, by omega, hin, by go_num, rfl, HN.out, HHI.out, HB.out.trans ((below_drewN (Below.refl _ _) _).mono HB.out.size)⟩
        case measure => simp [intOf]; omega
      · have hz' : 0 ≤ z := by omega
        have hly : lessL y x = false := by rw [HCL.out]; exact decide_eq_false hz
        have HN := Lib.hid (show ∀ t, (lo + hi) / 2 ≤ t → t < n → lessL (L.getD t []) x = false from fun t ht htn => by
          rcases Nat.lt_or_ge ((lo + hi) / 2) t with h1 | h1
          · cases h2 : lessL (L.getD t []) x with
            | false => rfl
            | true => rw [lessL_trans _ _ _ (HY.out.2 t h1 htn) h2] at hly; cases hly
          · obtain rfl : t = (lo + hi) / 2 := by omega
            rw [HE.out]; exact hly)
        clear hly
        go_wp2_with (go_at_call 103; refine CC.out.mono ?_; rintro e w' ⟨rfl, nq, rfl⟩)
        go_roundw
        case rel => exact ⟨lo, (lo + hi) / 2, by omega, by omega, rfl, by go_num, HLO.out, HN.out, HB.out.trans ((below_drewN (Below.refl _ _) _).mono HB.out.size)⟩
        case measure => simp [intOf]; omega
    · obtain rfl : lo = hi := by omega
      by_cases hln : lo < n
      · obtain ⟨p1, o1, rfl, _, hc1⟩ := (H.out.below HB.out).at_ hln
        have hr1 := (H.out.below HB.out).row hln
        have HYES := Lib.hid (fun (hy : L.getD lo [] = x) => has_yes lo (by have := HL.out; omega) hy)
        have HNO := Lib.hid (fun (hy : L.getD lo [] ≠ x) => has_no (L := L) (x := x) (fun t ht e => by
          have htn : t < n := by have := HL.out; omega
          rcases Nat.lt_or_ge t lo with h1 | h1
          · have := HLO.out t h1
            rw [e, lessL_irrefl] at this; cases this
          · rcases Nat.lt_or_ge lo t with h2 | h2
            · have h3 := HR.out lo t h2 htn
              rw [e, HHI.out lo (Nat.le_refl _) hln] at h3; cases h3
            · obtain rfl : t = lo := by omega
              exact hy e))
        generalize L.getD lo [] = y at *
        generalize vs.getD lo nilS = v at *
        obtain ⟨vA, vn, vc⟩ := v
        simp only [sv] at hc1
        simp only at hr1
        have CC := Lib.hid (compare_any (c := vc) (d := c2) hr1 (G.out.below HB.out))
        have HZ := Lib.hid (cmpL_zero y x)
        have HZ2 := Lib.hid (show y = x → cmpL y x = 0 from fun e => by rw [e]; exact cmpL_self x)
        generalize cmpL y x = z at *
        clear hr1
        by_cases hz : z = 0
        · have HF := Lib.hid (HYES.out (HZ.out hz))
          subst hz
          go_wp2_with (go_at_call 103; refine CC.out.mono ?_; rintro e w' ⟨rfl, nq, rfl⟩)
          go_ret2
          exact ⟨_, by first | (rw [HF.out]; rfl) | rw [HF.out], HB.out.trans ((below_drewN (Below.refl _ _) _).mono HB.out.size)⟩
        · have HF := Lib.hid (HNO.out (fun e => hz (HZ2.out e)))
          have hzb : (z == 0) = false := by simpa using hz
          go_wp2_with (go_at_call 103; refine CC.out.mono ?_; rintro e w' ⟨rfl, nq, rfl⟩)
          go_ret2
          exact ⟨_, by first | (rw [HF.out]; rfl) | rw [HF.out], HB.out.trans ((below_drewN (Below.refl _ _) _).mono HB.out.size)⟩
      · obtain rfl : lo = n := by omega
        have HF := Lib.hid (has_no (L := L) (x := x) (fun t ht e => by
          have := HLO.out t (by have := HL.out; omega)
          rw [e, lessL_irrefl] at this; cases this))
        go_wp2
        go_ret2
        exact ⟨_, by first | (rw [HF.out]; rfl) | rw [HF.out], HB.out⟩

end Go.Proofs.Ytpgmggkpnefaeaa
