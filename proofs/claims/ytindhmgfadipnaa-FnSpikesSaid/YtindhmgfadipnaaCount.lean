/- CountPartitions of the program and of the reference: both run through the same states, so both return the same two numbers, for all arguments. -/
import Derived.Test.YtindhmgfadipnaaLeaf
import Derived.Test.YtindhmgfadipnaaMem
import Derived.BigRegion
namespace Go.Proofs.Ytindhmgfadipnaa
open Go.ChangeShapes Go.WideShapes Go.ChangeAt Go.RowKit
set_option linter.unusedVariables false

/-- the inner loop from n on -/
def cntIn (d part n : Nat) (L : List Int) : List Int :=
  if n ≤ d then cntIn d part (n + 1) (L.set n (wrap64 (L.getD n 0 + L.getD (n - part) 0))) else L
termination_by d + 1 - n

/-- the outer loop from part on -/
def cntOut (d part : Nat) (L : List Int) : List Int :=
  if part ≤ d then cntOut d (2 * part + 1) (cntIn d part part L) else L
termination_by d + 1 - part

theorem cntIn_len (d part n : Nat) (L : List Int) : (cntIn d part n L).length = L.length := by
  by_cases h : n ≤ d
  · rw [cntIn, if_pos h, cntIn_len d part (n + 1)]; simp
  · rw [cntIn, if_neg h]
termination_by d + 1 - n

def cntAll (d : Nat) : List Int := cntOut d 1 ((List.replicate (d + 1) (0 : Int)).set 0 1)

set_option maxHeartbeats 800000 in
theorem impl_count (d : Nat) (w : World) (hd : d ≤ 300) :
    Calls Try.prog 136 #[.int .i64 (d : Int)] w fun e w' => ∃ g, e = .returned (.slice (some ⟨g, 0, none⟩) (d + 1) (d + 1)) ∧ OwnI w' w.heap.size (some ⟨g, 0, none⟩) (d + 1) (d + 1) (cntAll d) ∧ Below w.heap.size w w' := by
  obtain ⟨i0, hi, hz0, hz1, hz2⟩ := info_parts Try.infoI
  have hmk := run_make (P := Try.prog) w 36 2 i0 (.int .i64 0) Try.underlying36 hi hz0 .i64 .i64 ((d : Int) + 1) ((d : Int) + 1) (by omega) (by omega) (by rw [hz2]; omega) (by omega)
  rw [hz1] at hmk
  rw [show ((d : Int) + 1).toNat * 1 = d + 1 by omega, show ((d : Int) + 1).toNat = d + 1 by omega] at hmk
  have hI := made_own w (d + 1) (by omega)
  have hbel : Below w.heap.size w (w.alloc (.cells (madeCells (Value.int .i64 0).cells (d + 1)) 2)) := (Below.refl _ _).alloc (Nat.le_refl _) _
  generalize hW : w.alloc (.cells (madeCells (Value.int .i64 0).cells (d + 1)) 2) = W at *
  clear hW hi hz0 hz1 hz2
  have hc := hI.cell (i := 0) (by omega)
  have hf := hI.frozen 0
  have hI2 := hI.set 0 (x := 1) (I64.mk (by omega) (by omega))
  have hbel2 := hbel.setCell (p := ⟨w.heap.size, 0, none⟩) (Nat.le_refl _) (.int .i64 1)
  have HI := Lib.hid hI2
  have HB := Lib.hid hbel2
  clear hI hI2 hbel hbel2
  go_enter Try.func136, Try.ntmps136
  go_wp2
  clear hmk hc hf
  go_loopw [4, 5] (fun p nn wr => ∃ (part : Nat) (L : List Int), 1 ≤ part ∧ part ≤ 601 ∧ p = .int .i64 (part : Int) ∧ OwnI wr w.heap.size (some ⟨w.heap.size, 0, none⟩) (d + 1) (d + 1) L ∧ cntOut d part L = cntAll d ∧ Below w.heap.size w wr) (fun p _ _ => d + 1 - (intOf p).toNat)
  case atStart => exact ⟨1, _, by omega, by omega, rfl, HI.out, rfl, HB.out⟩
  case round =>
    obtain ⟨part, L, hp1, hp2, rfl, ho, ht, hb⟩ := hrel
    clear HI HB
    by_cases hle : part ≤ d
    · have HO := Lib.hid ho
      have HT := Lib.hid ht
      have HB := Lib.hid hb
      clear ho ht hb
      obtain ⟨wo, rfl⟩ : ∃ wo : World, wo = wr := ⟨_, rfl⟩
      go_wp2
      go_loopw [5] (fun nn wr => ∃ (n : Nat) (L2 : List Int), part ≤ n ∧ n ≤ d + 1 ∧ nn = .int .i64 (n : Int) ∧ OwnI wr w.heap.size (some ⟨w.heap.size, 0, none⟩) (d + 1) (d + 1) L2 ∧ cntIn d part n L2 = cntIn d part part L ∧ Below w.heap.size w wr) (fun nn _ => d + 1 - (intOf nn).toNat)
      case atStart => exact ⟨part, L, by omega, by omega, rfl, HO.out, rfl, HB.out⟩
      case round =>
        obtain ⟨n, L2, hn1, hn2, rfl, ho2, ht2, hb2⟩ := hrel
        by_cases hln : n ≤ d
        · have hc1 := ho2.cell (i := n) (by omega)
          have hc2 := ho2.cell (i := n - part) (by omega)
          have hf := ho2.frozen n
          have b1 : (0 : Int) ≤ (n : Int) - (part : Int) := by omega
          have b2 : (n : Int) - (part : Int) < (d : Int) + 1 := by omega
          have b3 : (n : Int) < (d : Int) + 1 := by omega
          have hs := ho2.set n (I64.wrap64 (L2.getD n 0 + L2.getD (n - part) 0))
          have hb3 := hb2.setCell (p := ⟨w.heap.size, n, none⟩) (Nat.le_refl _) (.int .i64 (wrap64 (L2.getD n 0 + L2.getD (n - part) 0)))
          rw [cntIn, if_pos hln] at ht2
          have HS := Lib.hid hs
          have HB3 := Lib.hid hb3
          have HT2 := Lib.hid ht2
          clear ho2 hb2 ht2 hs hb3
          generalize ha : L2.getD n 0 = a at *
          generalize hb' : L2.getD (n - part) 0 = b at *
          clear ha hb'
          go_wp2
          go_region
          all_goals go_wp2
          go_roundw
          case rel => exact ⟨n + 1, _, by omega, by omega, by go_num, HS.out.drew, HT2.out, HB3.out.drew⟩
          case measure => simp [intOf]; omega
        · have e2 : cntIn d part n L2 = L2 := by rw [cntIn, if_neg hln]
          rw [e2] at ht2
          have ht3 : cntOut d (2 * part + 1) L2 = cntAll d := by rw [ht2, ← HT.out]; conv => rhs; rw [cntOut, if_pos hle]
          have HO2 := Lib.hid ho2
          have HT3 := Lib.hid ht3
          have HB2 := Lib.hid hb2
          clear ho2 ht2 hb2 e2 ht3
          go_wp2
          go_roundw
          case rel => exact ⟨2 * part + 1, L2, by omega, by omega, by go_num, HO2.out, HT3.out, HB2.out⟩
          case measure => simp [intOf]; omega
    · rw [cntOut, if_neg hle] at ht
      subst ht
      have HO := Lib.hid ho
      have HB := Lib.hid hb
      clear ho hb
      go_wp2
      go_ret
      exact ⟨_, rfl, HO.out, HB.out⟩

set_option maxHeartbeats 800000 in
theorem spec_count (d : Nat) (w : World) (hd : d ≤ 300) :
    Calls Try.prog 137 #[.int .i64 (d : Int)] w fun e w' => ∃ g, e = .returned (.slice (some ⟨g, 0, none⟩) (d + 1) (d + 1)) ∧ OwnI w' w.heap.size (some ⟨g, 0, none⟩) (d + 1) (d + 1) (cntAll d) ∧ Below w.heap.size w w' := by
  obtain ⟨i0, hi, hz0, hz1, hz2⟩ := info_parts Try.infoI
  have hmk := run_make (P := Try.prog) w 36 2 i0 (.int .i64 0) Try.underlying36 hi hz0 .i64 .i64 ((d : Int) + 1) ((d : Int) + 1) (by omega) (by omega) (by rw [hz2]; omega) (by omega)
  rw [hz1] at hmk
  rw [show ((d : Int) + 1).toNat * 1 = d + 1 by omega, show ((d : Int) + 1).toNat = d + 1 by omega] at hmk
  have hI := made_own w (d + 1) (by omega)
  have hbel : Below w.heap.size w (w.alloc (.cells (madeCells (Value.int .i64 0).cells (d + 1)) 2)) := (Below.refl _ _).alloc (Nat.le_refl _) _
  generalize hW : w.alloc (.cells (madeCells (Value.int .i64 0).cells (d + 1)) 2) = W at *
  clear hW hi hz0 hz1 hz2
  have hc := hI.cell (i := 0) (by omega)
  have hf := hI.frozen 0
  have hI2 := hI.set 0 (x := 1) (I64.mk (by omega) (by omega))
  have hbel2 := hbel.setCell (p := ⟨w.heap.size, 0, none⟩) (Nat.le_refl _) (.int .i64 1)
  have HI := Lib.hid hI2
  have HB := Lib.hid hbel2
  clear hI hI2 hbel hbel2
  go_enter Try.func137, Try.ntmps137
  go_wp2
  clear hmk hc hf
  go_loopw [4, 5] (fun p nn wr => ∃ (part : Nat) (L : List Int), 1 ≤ part ∧ part ≤ 601 ∧ p = .int .i64 (part : Int) ∧ OwnI wr w.heap.size (some ⟨w.heap.size, 0, none⟩) (d + 1) (d + 1) L ∧ cntOut d part L = cntAll d ∧ Below w.heap.size w wr) (fun p _ _ => d + 1 - (intOf p).toNat)
  case atStart => exact ⟨1, _, by omega, by omega, rfl, HI.out, rfl, HB.out⟩
  case round =>
    obtain ⟨part, L, hp1, hp2, rfl, ho, ht, hb⟩ := hrel
    clear HI HB
    by_cases hle : part ≤ d
    · have HO := Lib.hid ho
      have HT := Lib.hid ht
      have HB := Lib.hid hb
      clear ho ht hb
      obtain ⟨wo, rfl⟩ : ∃ wo : World, wo = wr := ⟨_, rfl⟩
      go_wp2
      go_loopw [5] (fun nn wr => ∃ (n : Nat) (L2 : List Int), part ≤ n ∧ n ≤ d + 1 ∧ nn = .int .i64 (n : Int) ∧ OwnI wr w.heap.size (some ⟨w.heap.size, 0, none⟩) (d + 1) (d + 1) L2 ∧ cntIn d part n L2 = cntIn d part part L ∧ Below w.heap.size w wr) (fun nn _ => d + 1 - (intOf nn).toNat)
      case atStart => exact ⟨part, L, by omega, by omega, rfl, HO.out, rfl, HB.out⟩
      case round =>
        obtain ⟨n, L2, hn1, hn2, rfl, ho2, ht2, hb2⟩ := hrel
        by_cases hln : n ≤ d
        · have hc1 := ho2.cell (i := n) (by omega)
          have hc2 := ho2.cell (i := n - part) (by omega)
          have hf := ho2.frozen n
          have b1 : (0 : Int) ≤ (n : Int) - (part : Int) := by omega
          have b2 : (n : Int) - (part : Int) < (d : Int) + 1 := by omega
          have b3 : (n : Int) < (d : Int) + 1 := by omega
          have hs := ho2.set n (I64.wrap64 (L2.getD n 0 + L2.getD (n - part) 0))
          have hb3 := hb2.setCell (p := ⟨w.heap.size, n, none⟩) (Nat.le_refl _) (.int .i64 (wrap64 (L2.getD n 0 + L2.getD (n - part) 0)))
          rw [cntIn, if_pos hln] at ht2
          have HS := Lib.hid hs
          have HB3 := Lib.hid hb3
          have HT2 := Lib.hid ht2
          clear ho2 hb2 ht2 hs hb3
          generalize ha : L2.getD n 0 = a at *
          generalize hb' : L2.getD (n - part) 0 = b at *
          clear ha hb'
          go_wp2
          go_region
          all_goals go_wp2
          go_roundw
          case rel => exact ⟨n + 1, _, by omega, by omega, by go_num, HS.out.drew, HT2.out, HB3.out.drew⟩
          case measure => simp [intOf]; omega
        · have e2 : cntIn d part n L2 = L2 := by rw [cntIn, if_neg hln]
          rw [e2] at ht2
          have ht3 : cntOut d (2 * part + 1) L2 = cntAll d := by rw [ht2, ← HT.out]; conv => rhs; rw [cntOut, if_pos hle]
          have HO2 := Lib.hid ho2
          have HT3 := Lib.hid ht3
          have HB2 := Lib.hid hb2
          clear ho2 ht2 hb2 e2 ht3
          go_wp2
          go_roundw
          case rel => exact ⟨2 * part + 1, L2, by omega, by omega, by go_num, HO2.out, HT3.out, HB2.out⟩
          case measure => simp [intOf]; omega
    · rw [cntOut, if_neg hle] at ht
      subst ht
      have HO := Lib.hid ho
      have HB := Lib.hid hb
      clear ho hb
      go_wp2
      go_ret
      exact ⟨_, rfl, HO.out, HB.out⟩

/-- what both return -/
def cntR (d : Int) : Int × Int := if inB d 0 300 = true then ((cntAll d.toNat).getD d.toNat 0, 0) else (0, 2)

theorem impl_Cnt (d : Int) (w : World) : Calls Try.prog 82 #[.int .i64 d] w fun e w' => e = .returned (.tuple #[.int .i64 (cntR d).1, .int .i64 (cntR d).2]) ∧ Below w.heap.size w w' := by
  by_cases hd : inB d 0 300 = true
  · have hb := inB_true hd
    have hf : cntR d = ((cntAll d.toNat).getD d.toNat 0, 0) := by simp only [cntR, hd, if_true]
    rw [hf]; clear hf
    obtain ⟨n, rfl⟩ := Int.eq_ofNat_of_zero_le hb.1
    have hn : n ≤ 300 := by omega
    simp only [Int.toNat_natCast]
    go_enter Try.func82, Try.ntmps82
    go_wp2_with (first | (go_at_call 87; refine (in_any _ _ _ _).mono ?_; rintro e w' ⟨rfl, rfl⟩) | fail)
    refine (impl_count n _ hn).mono ?_
    rintro e w1 ⟨g, rfl, ho, hbel⟩
    have hc := ho.cell (i := n) (by omega)
    have HB := Lib.hid hbel
    clear ho hbel
    have b1 : (n : Int) < (n : Int) + 1 := by omega
    go_wp2
    go_ret2
    exact ⟨rfl, HB.out⟩
  · have hd' : inB d 0 300 = false := by simpa using hd
    have hf : cntR d = (0, 2) := by simp only [cntR, hd', Bool.false_eq_true, if_false]
    rw [hf]; clear hf hd
    go_enter Try.func82, Try.ntmps82
    go_wp2_with (first | (go_at_call 87; refine (in_any _ _ _ _).mono ?_; rintro e w' ⟨rfl, rfl⟩) | fail)
    go_ret2
    exact ⟨rfl, Below.refl _ _⟩

theorem spec_Cnt (d : Int) (w : World) : Calls Try.prog 83 #[.int .i64 d] w fun e w' => e = .returned (.tuple #[.int .i64 (cntR d).1, .int .i64 (cntR d).2]) ∧ Below w.heap.size w w' := by
  by_cases hd : inB d 0 300 = true
  · have hb := inB_true hd
    have hf : cntR d = ((cntAll d.toNat).getD d.toNat 0, 0) := by simp only [cntR, hd, if_true]
    rw [hf]; clear hf
    obtain ⟨n, rfl⟩ := Int.eq_ofNat_of_zero_le hb.1
    have hn : n ≤ 300 := by omega
    simp only [Int.toNat_natCast]
    go_enter Try.func83, Try.ntmps83
    go_wp2_with (first | (go_at_call 84; refine (l01In_any _ _ _ _).mono ?_; rintro e w' ⟨rfl, rfl⟩) | fail)
    refine (spec_count n _ hn).mono ?_
    rintro e w1 ⟨g, rfl, ho, hbel⟩
    have hc := ho.cell (i := n) (by omega)
    have HB := Lib.hid hbel
    clear ho hbel
    have b1 : (n : Int) < (n : Int) + 1 := by omega
    go_wp2
    go_ret2
    exact ⟨rfl, HB.out⟩
  · have hd' : inB d 0 300 = false := by simpa using hd
    have hf : cntR d = (0, 2) := by simp only [cntR, hd', Bool.false_eq_true, if_false]
    rw [hf]; clear hf hd
    go_enter Try.func83, Try.ntmps83
    go_wp2_with (first | (go_at_call 84; refine (l01In_any _ _ _ _).mono ?_; rintro e w' ⟨rfl, rfl⟩) | fail)
    go_ret2
    exact ⟨rfl, Below.refl _ _⟩

end Go.Proofs.Ytindhmgfadipnaa
