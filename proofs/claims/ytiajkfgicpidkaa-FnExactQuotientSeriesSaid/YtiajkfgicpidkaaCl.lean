/- Profiles at a place; contained profiles; closed profiles: IsContainedProfile and IsClosedProfile of both. -/
import Derived.Test.YtiajkfgicpidkaaProf
namespace Go.Proofs.Ytiajkfgicpidkaa
open Go.ChangeShapes Go.WideShapes Go.ChangeAt Go.RowKit
set_option linter.unusedVariables false

def Prf (xs : List Int) : Prop := ∀ x ∈ xs, 0 ≤ x ∧ x ≤ 10

theorem prf_get {xs : List Int} (h : Prf xs) (k : Nat) : 0 ≤ xs.getD k 0 ∧ xs.getD k 0 ≤ 10 := by
  by_cases hk : k < xs.length
  · exact h _ (by simp [List.getD, hk])
  · have : xs.getD k 0 = 0 := by simp [List.getD, List.getElem?_eq_none (show xs.length ≤ k by omega)]
    omega

theorem getD_none (xs : List Int) (k : Nat) (h : xs.length ≤ k) : xs.getD k 0 = 0 := by simp [List.getD, List.getElem?_eq_none h]

theorem range_all (p : Nat → Bool) (k : Nat) : (List.range (k + 1)).all p = ((List.range k).all p && p k) := by
  rw [List.range_succ, List.all_append]; simp

theorem range_fail (p : Nat → Bool) (k n : Nat) (hk : k < n) (h : p k = false) : (List.range n).all p = false :=
  List.all_eq_false.2 ⟨k, List.mem_range.2 hk, by rw [h]; simp⟩

theorem impl_at (A : Option Addr) (n c : Nat) (xs : List Int) (j : Int) (w : World) (h : RI w A n xs) (h1 : 1 ≤ j) (h2 : j ≤ 1000000) :
    Calls Try.prog 68 #[.slice A n c, .int .i64 j] w fun e w' => e = .returned (.int .i64 (xs.getD (j - 1).toNat 0)) ∧ w = w' := by
  have hl := h.len
  have hs := h.small
  obtain ⟨m, rfl⟩ : ∃ m : Nat, j = (m : Int) + 1 := ⟨(j - 1).toNat, by omega⟩
  rw [show ((m : Int) + 1 - 1).toNat = m by omega]
  by_cases hj : n < m + 1
  · rw [getD_none xs m (by omega)]
    have hj' : (n : Int) < (m : Int) + 1 := by omega
    clear h hl hj h1
    go_enter Try.func68, Try.ntmps68
    go_wp2
    go_ret
    exact ⟨rfl, rfl⟩
  · obtain ⟨b, off, rfl, _, hc⟩ := h.at_ (i := m) (by omega)
    have e2 : (m : Int) < (n : Int) := by omega
    have e3 : (m : Int) + 1 - 1 = (m : Int) := by omega
    generalize xs.getD m 0 = x at *
    clear h hl hj h1 h2
    go_enter Try.func68, Try.ntmps68
    go_wp2
    go_ret
    exact ⟨rfl, rfl⟩

theorem spec_at (A : Option Addr) (n c : Nat) (xs : List Int) (j : Int) (w : World) (h : RI w A n xs) (h1 : 1 ≤ j) (h2 : j ≤ 1000000) :
    Calls Try.prog 66 #[.slice A n c, .int .i64 j] w fun e w' => e = .returned (.int .i64 (xs.getD (j - 1).toNat 0)) ∧ w = w' := by
  have hl := h.len
  have hs := h.small
  obtain ⟨m, rfl⟩ : ∃ m : Nat, j = (m : Int) + 1 := ⟨(j - 1).toNat, by omega⟩
  rw [show ((m : Int) + 1 - 1).toNat = m by omega]
  by_cases hj : n < m + 1
  · rw [getD_none xs m (by omega)]
    have hj' : (n : Int) < (m : Int) + 1 := by omega
    clear h hl hj h1
    go_enter Try.func66, Try.ntmps66
    go_wp2
    go_ret
    exact ⟨rfl, rfl⟩
  · obtain ⟨b, off, rfl, _, hc⟩ := h.at_ (i := m) (by omega)
    have e2 : (m : Int) < (n : Int) := by omega
    have e3 : (m : Int) + 1 - 1 = (m : Int) := by omega
    generalize xs.getD m 0 = x at *
    clear h hl hj h1 h2
    go_enter Try.func66, Try.ntmps66
    go_wp2
    go_ret
    exact ⟨rfl, rfl⟩

def contB (xs ys : List Int) (i : Nat) : Bool := decide (xs.getD i 0 ≤ ys.getD i 0)

def pIsContainedProfile (xs ys : List Int) : Bool × Int :=
  if (pIsProfile xs && pIsProfile ys) = true then ((List.range xs.length).all (contB xs ys), 0) else (false, 1)

theorem spec_both (A1 : Option Addr) (n1 c1 : Nat) (xs : List Int) (A2 : Option Addr) (n2 c2 : Nat) (ys : List Int) (w : World) (h1 : RI w A1 n1 xs) (h2 : RI w A2 n2 ys) :
    Calls Try.prog 65 #[.slice A1 n1 c1, .slice A2 n2 c2] w fun e w' => e = .returned (.int .i64 (if (pIsProfile xs && pIsProfile ys) = true then 0 else 1)) ∧ w = w' := by
  have C1 := Lib.hid (spec_l07Is A1 n1 c1 xs w h1)
  have C2 := Lib.hid (spec_l07Is A2 n2 c2 ys w h2)
  clear h1 h2
  generalize pIsProfile xs = p at *
  generalize pIsProfile ys = q at *
  cases p with
  | true =>
    cases q with
    | true =>
      go_enter Try.func65, Try.ntmps65
      go_wp2_with fail
      refine C1.out.mono ?_
      rintro e w1 ⟨rfl, rfl⟩
      go_wp2_with fail
      refine C2.out.mono ?_
      rintro e w1 ⟨rfl, rfl⟩
      go_wp2
      go_ret
      exact ⟨rfl, rfl⟩
    | false =>
      go_enter Try.func65, Try.ntmps65
      go_wp2_with fail
      refine C1.out.mono ?_
      rintro e w1 ⟨rfl, rfl⟩
      go_wp2_with fail
      refine C2.out.mono ?_
      rintro e w1 ⟨rfl, rfl⟩
      go_wp2
      go_ret
      exact ⟨rfl, rfl⟩
  | false =>
    go_enter Try.func65, Try.ntmps65
    go_wp2_with fail
    refine C1.out.mono ?_
    rintro e w1 ⟨rfl, rfl⟩
    go_wp2
    go_ret
    exact ⟨rfl, rfl⟩

set_option maxHeartbeats 800000 in
theorem impl_IsContainedProfile (A1 : Option Addr) (n1 c1 : Nat) (xs : List Int) (A2 : Option Addr) (n2 c2 : Nat) (ys : List Int) (w : World) (h1 : RI w A1 n1 xs) (l1 : n1 ≤ 1048576) (h2 : RI w A2 n2 ys) (l2 : n2 ≤ 1048576) :
    Calls Try.prog 22 #[.slice A1 n1 c1, .slice A2 n2 c2] w fun e w' => e = .returned (.tuple #[.bool (pIsContainedProfile xs ys).1, .int .i64 (pIsContainedProfile xs ys).2]) ∧ Below w.heap.size w w' := by
  have C1 := Lib.hid (impl_IsProfile A1 n1 c1 xs w h1 l1)
  have C2 := Lib.hid (fun w1 (hb : Below w.heap.size w w1) => impl_IsProfile A2 n2 c2 ys w1 (h2.below hb) l2)
  have hl := h1.len
  have H1 := Lib.hid h1
  have H2 := Lib.hid h2
  clear h1 h2
  cases hp : pIsProfile xs with
  | true =>
    cases hq : pIsProfile ys with
    | true =>
      have hn := (pIsProfile_true hp).1
      have hf : pIsContainedProfile xs ys = ((List.range n1).all (contB xs ys), 0) := by unfold pIsContainedProfile; rw [hp, hq, hl]; rfl
      have HF := Lib.hid hf
      have HP := Lib.hid hp
      have HQ := Lib.hid hq
      rw [hl] at hn
      clear hf hp hq hl
      go_enter Try.func22, Try.ntmps22
      go_wp2_with fail
      refine C1.out.mono ?_
      rintro e w1 ⟨rfl, hb⟩
      rw [HP.out]
      have HB1 := Lib.hid hb
      clear hb
      go_wp2_with fail
      refine (C2.out _ HB1.out).mono ?_
      rintro e w2 ⟨rfl, hb⟩
      rw [HQ.out]
      have HB2 := Lib.hid (HB1.out.trans (hb.mono HB1.out.size))
      clear hb
      go_wp2
      go_loop [18] (fun i => ∃ k : Nat, k ≤ n1 ∧ i = .int .i64 k ∧ (List.range k).all (contB xs ys) = true) (fun i => n1 - (intOf i).toNat)
      case atStart => exact ⟨0, Nat.zero_le _, rfl, by simp⟩
      case round =>
        obtain ⟨k, hk, rfl, hall⟩ := hrel
        have HA := Lib.hid hall
        clear hall
        by_cases hlt : k < n1
        · obtain ⟨b, off, rfl, _, hcell⟩ := (H1.out.below HB2.out).at_ hlt
          have HC := Lib.hid (impl_at A2 n2 c2 ys ((k : Int) + 1) w2 (H2.out.below HB2.out) (by omega) (by omega))
          have e : ((k : Int) + 1 - 1).toNat = k := by omega
          rw [e] at HC
          clear e
          have hra := range_all (contB xs ys) k
          have hrf := range_fail (contB xs ys) k n1 hlt
          have hcb : contB xs ys k = decide (xs.getD k 0 ≤ ys.getD k 0) := rfl
          generalize xs.getD k 0 = x at *
          generalize ys.getD k 0 = y at *
          by_cases hxy : x ≤ y
          · rw [decide_eq_true hxy] at hcb
            have HR := Lib.hid (show (List.range (k + 1)).all (contB xs ys) = true by rw [hra, HA.out, hcb]; rfl)
            clear hra hrf hcb
            go_wp2_with fail
            refine HC.out.mono ?_
            rintro e w3 ⟨rfl, rfl⟩
            go_wp2
            go_round
            case rel => exact ⟨k + 1, by omega, by go_num, HR.out⟩
            case measure => simp [intOf]; omega
          · rw [decide_eq_false hxy] at hcb
            have HR := Lib.hid (hrf hcb)
            have hyx : y < x := by omega
            clear hra hrf hcb hxy
            go_wp2_with fail
            refine HC.out.mono ?_
            rintro e w3 ⟨rfl, rfl⟩
            go_wp2
            go_ret2
            exact ⟨by rw [HF.out, HR.out]; rfl, HB2.out⟩
        · obtain rfl : k = n1 := by omega
          go_wp2
          go_ret2
          exact ⟨by rw [HF.out, HA.out]; rfl, HB2.out⟩
    | false =>
      have hf : pIsContainedProfile xs ys = (false, 1) := by unfold pIsContainedProfile; rw [hp, hq]; rfl
      have HF := Lib.hid hf
      have HP := Lib.hid hp
      have HQ := Lib.hid hq
      clear hf hp hq hl
      go_enter Try.func22, Try.ntmps22
      go_wp2_with fail
      refine C1.out.mono ?_
      rintro e w1 ⟨rfl, hb⟩
      rw [HP.out]
      have HB1 := Lib.hid hb
      clear hb
      go_wp2_with fail
      refine (C2.out _ HB1.out).mono ?_
      rintro e w2 ⟨rfl, hb⟩
      rw [HQ.out]
      have HB2 := Lib.hid (HB1.out.trans (hb.mono HB1.out.size))
      clear hb
      go_wp2
      go_ret2
      exact ⟨by rw [HF.out]; rfl, HB2.out⟩
  | false =>
    have hf : pIsContainedProfile xs ys = (false, 1) := by unfold pIsContainedProfile; rw [hp]; rfl
    have HF := Lib.hid hf
    have HP := Lib.hid hp
    clear hf hp hl
    go_enter Try.func22, Try.ntmps22
    go_wp2_with fail
    refine C1.out.mono ?_
    rintro e w1 ⟨rfl, hb⟩
    rw [HP.out]
    have HB1 := Lib.hid hb
    clear hb
    go_wp2
    go_ret2
    exact ⟨by rw [HF.out]; rfl, HB1.out⟩

set_option maxHeartbeats 800000 in
theorem spec_IsContainedProfile (A1 : Option Addr) (n1 c1 : Nat) (xs : List Int) (A2 : Option Addr) (n2 c2 : Nat) (ys : List Int) (w : World) (h1 : RI w A1 n1 xs) (l1 : n1 ≤ 1048576) (h2 : RI w A2 n2 ys) (l2 : n2 ≤ 1048576) :
    Calls Try.prog 21 #[.slice A1 n1 c1, .slice A2 n2 c2] w fun e w' => e = .returned (.tuple #[.bool (pIsContainedProfile xs ys).1, .int .i64 (pIsContainedProfile xs ys).2]) ∧ Below w.heap.size w w' := by
  have C1 := Lib.hid (spec_both A1 n1 c1 xs A2 n2 c2 ys w h1 h2)
  have hl := h1.len
  have H1 := Lib.hid h1
  have H2 := Lib.hid h2
  clear h1 h2
  cases hp : (pIsProfile xs && pIsProfile ys) with
  | true =>
    have hpx : pIsProfile xs = true := by cases h : pIsProfile xs <;> simp_all
    have hn := (pIsProfile_true hpx).1
    have hf : pIsContainedProfile xs ys = ((List.range n1).all (contB xs ys), 0) := by unfold pIsContainedProfile; rw [hp, hl]; rfl
    have HF := Lib.hid hf
    have HP := Lib.hid (show (if (pIsProfile xs && pIsProfile ys) = true then (0 : Int) else 1) = 0 by rw [if_pos hp])
    rw [hl] at hn
    clear hf hp hl hpx
    go_enter Try.func21, Try.ntmps21
    go_wp2_with fail
    refine C1.out.mono ?_
    rintro e w1 ⟨rfl, rfl⟩
    rw [HP.out]
    go_wp2
    go_loop [7] (fun i => ∃ k : Nat, k ≤ n1 ∧ i = .int .i64 ((k : Int) + 1) ∧ (List.range k).all (contB xs ys) = true) (fun i => n1 + 1 - (intOf i).toNat)
    case atStart => exact ⟨0, Nat.zero_le _, rfl, by simp⟩
    case round =>
      obtain ⟨k, hk, rfl, hall⟩ := hrel
      have HA := Lib.hid hall
      clear hall
      by_cases hlt : k < n1
      · have HC1 := Lib.hid (spec_at A1 n1 c1 xs ((k : Int) + 1) w H1.out (by omega) (by omega))
        have HC2 := Lib.hid (spec_at A2 n2 c2 ys ((k : Int) + 1) w H2.out (by omega) (by omega))
        have e : ((k : Int) + 1 - 1).toNat = k := by omega
        rw [e] at HC1 HC2
        clear e
        have hra := range_all (contB xs ys) k
        have hrf := range_fail (contB xs ys) k n1 hlt
        have hcb : contB xs ys k = decide (xs.getD k 0 ≤ ys.getD k 0) := rfl
        generalize xs.getD k 0 = x at *
        generalize ys.getD k 0 = y at *
        have hlt' : (k : Int) + 1 ≤ (n1 : Int) := by omega
        by_cases hxy : x ≤ y
        · rw [decide_eq_true hxy] at hcb
          have HR := Lib.hid (show (List.range (k + 1)).all (contB xs ys) = true by rw [hra, HA.out, hcb]; rfl)
          clear hra hrf hcb
          go_wp2_with fail
          refine HC1.out.mono ?_
          rintro e w3 ⟨rfl, rfl⟩
          go_wp2_with fail
          refine HC2.out.mono ?_
          rintro e w3 ⟨rfl, rfl⟩
          go_wp2
          go_round
          case rel => exact ⟨k + 1, by omega, by go_num, HR.out⟩
          case measure => simp [intOf]; omega
        · rw [decide_eq_false hxy] at hcb
          have HR := Lib.hid (hrf hcb)
          have hyx : y < x := by omega
          clear hra hrf hcb hxy
          go_wp2_with fail
          refine HC1.out.mono ?_
          rintro e w3 ⟨rfl, rfl⟩
          go_wp2_with fail
          refine HC2.out.mono ?_
          rintro e w3 ⟨rfl, rfl⟩
          go_wp2
          go_ret2
          exact ⟨by rw [HF.out, HR.out]; rfl, Below.refl _ _⟩
      · obtain rfl : k = n1 := by omega
        have hlt' : (k : Int) < (k : Int) + 1 := by omega
        go_wp2
        go_ret2
        exact ⟨by rw [HF.out, HA.out]; rfl, Below.refl _ _⟩
  | false =>
    have hf : pIsContainedProfile xs ys = (false, 1) := by unfold pIsContainedProfile; rw [hp]; rfl
    have HF := Lib.hid hf
    have HP := Lib.hid (show (if (pIsProfile xs && pIsProfile ys) = true then (0 : Int) else 1) = 1 by rw [if_neg (by rw [hp]; simp)])
    clear hf hp hl
    go_enter Try.func21, Try.ntmps21
    go_wp2_with fail
    refine C1.out.mono ?_
    rintro e w1 ⟨rfl, rfl⟩
    rw [HP.out]
    go_wp2
    go_ret2
    exact ⟨by rw [HF.out]; rfl, Below.refl _ _⟩

end Go.Proofs.Ytiajkfgicpidkaa
