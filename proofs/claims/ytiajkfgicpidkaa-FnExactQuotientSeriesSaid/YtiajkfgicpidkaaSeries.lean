/- SeriesOfProfile of the program and of the reference. -/
import Derived.Test.YtiajkfgicpidkaaSer2
namespace Go.Proofs.Ytiajkfgicpidkaa
open Go.ChangeShapes Go.WideShapes Go.ChangeAt Go.RowKit
set_option linter.unusedVariables false

/-- the code of a profile and a degree -/
def degC (xs : List Int) (d : Int) : Int := if pIsProfile xs = true then (if inB d 0 200 = true then 0 else 2) else 1

theorem degC_zero {xs d} (hp : pIsProfile xs = true) (hb : inB d 0 200 = true) : degC xs d = 0 := by unfold degC; rw [if_pos hp, if_pos hb]

theorem degC_range {xs d} (hp : pIsProfile xs = true) (hb : inB d 0 200 = false) : degC xs d = 2 := by unfold degC; rw [if_pos hp, if_neg (by rw [hb]; simp)]

theorem degC_bad {xs d} (hp : pIsProfile xs = false) : degC xs d = 1 := by unfold degC; rw [if_neg (by rw [hp]; simp)]

theorem spec_l07Degrees (A : Option Addr) (n c : Nat) (xs : List Int) (d : Int) (w : World) (h : RI w A n xs) :
    Calls Try.prog 89 #[.slice A n c, .int .i64 d] w fun e w' => e = .returned (.int .i64 (degC xs d)) ∧ w = w' := by
  have C1 := Lib.hid (spec_l07Is A n c xs w h)
  clear h
  cases hp : pIsProfile xs with
  | false =>
    rw [degC_bad hp]
    rw [hp] at C1
    clear hp
    go_enter Try.func89, Try.ntmps89
    go_wp2_with fail
    refine C1.out.mono ?_
    rintro e w1 ⟨rfl, rfl⟩
    go_wp2
    go_ret
    exact ⟨rfl, rfl⟩
  | true =>
    rw [hp] at C1
    cases hb : inB d 0 200 with
    | false =>
      rw [degC_range hp hb]
      have HD := Lib.hid hb
      clear hp hb
      go_enter Try.func89, Try.ntmps89
      go_wp2_with fail
      refine C1.out.mono ?_
      rintro e w1 ⟨rfl, rfl⟩
      go_wp2_with fail
      refine (l01In_any _ _ _ _).mono ?_
      rintro e w2 ⟨rfl, rfl⟩
      rw [HD.out]
      go_wp2
      go_ret
      exact ⟨rfl, rfl⟩
    | true =>
      rw [degC_zero hp hb]
      have HD := Lib.hid hb
      clear hp hb
      go_enter Try.func89, Try.ntmps89
      go_wp2_with fail
      refine C1.out.mono ?_
      rintro e w1 ⟨rfl, rfl⟩
      go_wp2_with fail
      refine (l01In_any _ _ _ _).mono ?_
      rintro e w2 ⟨rfl, rfl⟩
      rw [HD.out]
      go_wp2
      go_ret
      exact ⟨rfl, rfl⟩

def pSeriesOfProfile (xs : List Int) (d : Int) : List Int × Int := if degC xs d = 0 then (serL xs d.toNat, 0) else ([], degC xs d)

theorem pSeriesOfProfile_len (xs : List Int) (_h : xs.length ≤ 1048576) (d : Int) : (pSeriesOfProfile xs d).1.length ≤ 1048576 := by
  by_cases h : degC xs d = 0
  · have hi : inB d 0 200 = true := by
      unfold degC at h
      split at h
      · split at h
        · assumption
        · omega
      · omega
    have hb := inB_true hi
    unfold pSeriesOfProfile
    rw [if_pos h]
    show (serL xs d.toNat).length ≤ _
    rw [serL_len]
    omega
  · unfold pSeriesOfProfile
    rw [if_neg h]
    simp

theorem spec_SeriesOfProfile (A : Option Addr) (n c : Nat) (xs : List Int) (d : Int) (w : World) (h : RI w A n xs) (hn : n ≤ 1048576) (hw : I64 d) :
    Calls Try.prog 42 #[.slice A n c, .int .i64 d] w fun e w' => ∃ A l c, e = .returned (.tuple #[.slice A l c, .int .i64 (pSeriesOfProfile xs d).2]) ∧ OwnI w' w.heap.size A l c (pSeriesOfProfile xs d).1 ∧ Below w.heap.size w w' := by
  have c1 := spec_l07Degrees A n c xs d w h
  have C1 := Lib.hid c1
  have hl := h.len
  clear c1
  by_cases h0 : pIsProfile xs = true ∧ inB d 0 200 = true
  · obtain ⟨hp, hb⟩ := h0
    have hz := degC_zero hp hb
    have hf : pSeriesOfProfile xs d = (serL xs d.toNat, 0) := by unfold pSeriesOfProfile; rw [if_pos hz]
    obtain ⟨m, rfl⟩ := Int.eq_ofNat_of_zero_le (inB_true hb).1
    have hpt := pIsProfile_true hp
    have hm : m ≤ 200 := by have := (inB_true hb).2; omega
    have c2 := spec_l07Series A n c xs m w h (by omega) hpt.2 hm
    rw [Int.toNat_natCast] at hf
    rw [hz] at C1
    rw [hf]
    have C2 := Lib.hid c2
    clear c2 hf hpt hp hb hz h hl
    go_enter Try.func42, Try.ntmps42
    go_wp2_with fail
    refine C1.out.mono ?_
    rintro e w1 ⟨rfl, rfl⟩
    go_wp2_with fail
    refine C2.out.mono ?_
    rintro e w1 ⟨g, rfl, ho, hb⟩
    have HO := Lib.hid ho
    have HB := Lib.hid hb
    clear ho hb
    go_wp2
    go_ret2
    exact ⟨_, _, _, rfl, HO.out, HB.out⟩
  · have hz : degC xs d = 1 ∨ degC xs d = 2 := by
      cases hp : pIsProfile xs with
      | false => exact .inl (degC_bad hp)
      | true =>
        cases hb : inB d 0 200 with
        | false => exact .inr (degC_range hp hb)
        | true => exact absurd ⟨hp, hb⟩ h0
    have hf : pSeriesOfProfile xs d = ([], degC xs d) := by unfold pSeriesOfProfile; rw [if_neg (by omega)]
    rw [hf]
    clear hf h0 h hl
    generalize degC xs d = z at *
    go_enter Try.func42, Try.ntmps42
    go_wp2_with fail
    refine C1.out.mono ?_
    rintro e w1 ⟨rfl, rfl⟩
    rcases hz with rfl | rfl
    · go_wp2
      go_ret2
      exact ⟨_, _, _, rfl, OwnI.nil _ _, Below.refl _ _⟩
    · go_wp2
      go_ret2
      exact ⟨_, _, _, rfl, OwnI.nil _ _, Below.refl _ _⟩

theorem impl_SeriesOfProfile (A : Option Addr) (n c : Nat) (xs : List Int) (d : Int) (w : World) (h : RI w A n xs) (hn : n ≤ 1048576) (hw : I64 d) :
    Calls Try.prog 43 #[.slice A n c, .int .i64 d] w fun e w' => ∃ A l c, e = .returned (.tuple #[.slice A l c, .int .i64 (pSeriesOfProfile xs d).2]) ∧ OwnI w' w.heap.size A l c (pSeriesOfProfile xs d).1 ∧ Below w.heap.size w w' := by
  have c1 := impl_IsProfile A n c xs w h hn
  have C1 := Lib.hid c1
  have hl := h.len
  clear c1
  cases hp : pIsProfile xs with
  | false =>
    have hf : pSeriesOfProfile xs d = ([], 1) := by unfold pSeriesOfProfile; rw [degC_bad hp, if_neg (by omega)]
    rw [hf]
    rw [hp] at C1
    clear hf h hl hp
    go_enter Try.func43, Try.ntmps43
    go_wp2_with fail
    refine C1.out.mono ?_
    rintro e w1 ⟨rfl, hb⟩
    have HB := Lib.hid hb
    clear hb
    go_wp2
    go_ret2
    exact ⟨_, _, _, rfl, OwnI.nil _ _, HB.out⟩
  | true =>
    rw [hp] at C1
    cases hb : inB d 0 200 with
    | false =>
      have hf : pSeriesOfProfile xs d = ([], 2) := by unfold pSeriesOfProfile; rw [degC_range hp hb, if_neg (by omega)]
      rw [hf]
      have HD := Lib.hid hb
      clear hf h hl hp hb
      go_enter Try.func43, Try.ntmps43
      go_wp2_with fail
      refine C1.out.mono ?_
      rintro e w1 ⟨rfl, hb⟩
      have HB := Lib.hid hb
      clear hb
      go_wp2_with fail
      refine (in_any _ _ _ _).mono ?_
      rintro e w2 ⟨rfl, rfl⟩
      rw [HD.out]
      go_wp2
      go_ret2
      exact ⟨_, _, _, rfl, OwnI.nil _ _, HB.out⟩
    | true =>
      have hf : pSeriesOfProfile xs d = (serL xs d.toNat, 0) := by unfold pSeriesOfProfile; rw [if_pos (degC_zero hp hb)]
      rw [hf]
      have HD := Lib.hid hb
      obtain ⟨m, rfl⟩ := Int.eq_ofNat_of_zero_le (inB_true hb).1
      rw [Int.toNat_natCast]
      have hpt := pIsProfile_true hp
      have hm : m ≤ 200 := by have := (inB_true hb).2; omega
      have HS := Lib.hid (fun w1 (hb : Below w.heap.size w w1) => impl_seriesOf A n c xs m w1 (h.below hb) (by omega) hpt.2 hm)
      clear hf h hl hp hb hpt
      go_enter Try.func43, Try.ntmps43
      go_wp2_with fail
      refine C1.out.mono ?_
      rintro e w1 ⟨rfl, hb⟩
      have HB := Lib.hid hb
      clear hb
      go_wp2_with fail
      refine (in_any _ _ _ _).mono ?_
      rintro e w2 ⟨rfl, rfl⟩
      rw [HD.out]
      go_wp2_with fail
      refine (HS.out _ HB.out).mono ?_
      rintro e w1 ⟨g, rfl, ho, hb⟩
      have HO := Lib.hid (ho.mono HB.out.size)
      have HBB := Lib.hid (below_up HB.out hb HB.out.size)
      clear ho hb
      go_wp2
      go_ret2
      exact ⟨_, _, _, rfl, HO.out, HBB.out⟩

end Go.Proofs.Ytiajkfgicpidkaa
