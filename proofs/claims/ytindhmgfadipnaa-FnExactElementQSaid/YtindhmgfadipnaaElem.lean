/- ElementP and ElementQ of the program and of the reference. -/
import Derived.Test.YtindhmgfadipnaaExp
import Derived.Test.YtindhmgfadipnaaKit
import Derived.Test.YtindhmgfadipnaaMat
namespace Go.Proofs.Ytindhmgfadipnaa
open Go.ChangeShapes Go.WideShapes Go.ChangeAt Go.RowKit
set_option linter.unusedVariables false

def powL (m s : Nat) : List Int := (List.replicate (m + 1) (0 : Int)).set m ((2 ^ s : Nat) : Int)

theorem powL_len (m s : Nat) : (powL m s).length = m + 1 := by simp [powL]

def pElementP (s t : Int) : List (List Int) × Int :=
  if inB s 0 10 = true then (if inB t 1 10 = true then (if 40 < degW 0 0 (powL (t.toNat - 1) s.toNat) then ([], 3) else ([powL (t.toNat - 1) s.toNat], 0)) else ([], 2)) else ([], 2)

theorem pElementP_sz (s t : Int) : tot (pElementP s t).1 ≤ 4000000000 := by
  unfold pElementP
  split
  · split
    · rename_i h
      have h1 := inB_true h
      split
      · simp [tot]
      · simp [tot, powL_len]; omega
    · simp [tot]
  · simp [tot]

theorem pow_small (s : Nat) (h : s ≤ 10) : 2 ^ s ≤ 1024 := by
  have := Nat.pow_le_pow_right (n := 2) (by omega) h
  have e : (2 : Nat) ^ 10 = 1024 := by decide
  omega

set_option maxHeartbeats 400000 in
theorem impl_elementP {m s : Nat} {w} (hm : m ≤ 9) (hs : s ≤ 10) :
    Calls Try.prog 88 #[.int .i64 (s : Int), .int .i64 ((m : Int) + 1)] w fun e w' => ∃ g, e = .returned (.slice (some ⟨g, 0, none⟩) (m + 1) (m + 1)) ∧ OwnI w' w.heap.size (some ⟨g, 0, none⟩) (m + 1) (m + 1) (powL m s) ∧ Below w.heap.size w w' := by
  obtain ⟨i0, hi, hz0, hz1, hz2⟩ := info_parts Try.infoI
  have hmk := run_make (P := Try.prog) w 36 2 i0 (.int .i64 0) Try.underlying36 hi hz0 .i64 .i64 ((m : Int) + 1) ((m : Int) + 1) (by omega) (by omega) (by rw [hz2]; omega) (by omega)
  rw [hz1] at hmk
  rw [show ((m : Int) + 1).toNat * 1 = m + 1 by omega, show ((m : Int) + 1).toNat = m + 1 by omega] at hmk
  have hI := made_own w (m + 1) (by omega)
  have hbel : Below w.heap.size w (w.alloc (.cells (madeCells (Value.int .i64 0).cells (m + 1)) 2)) := (Below.refl _ _).alloc (Nat.le_refl _) _
  generalize hW : w.alloc (.cells (madeCells (Value.int .i64 0).cells (m + 1)) 2) = W at *
  clear hW hi hz0 hz1 hz2
  have hf := hI.frozen m
  have hc := hI.cell (i := m) (by omega)
  have hp := pow_small s hs
  unfold powL
  generalize hpe : 2 ^ s = p at *
  have hI2 := hI.set m (x := (p : Int)) (I64.mk (by omega) (by omega))
  have hbel2 := hbel.setCell (p := ⟨w.heap.size, m, none⟩) (Nat.le_refl _) (.int .i64 (p : Int))
  have HI := Lib.hid hI2
  have HB := Lib.hid hbel2
  have hpw : IntKind.i64.wrap ((2 : Int) ^ s) = (p : Int) := by rw [← hpe, IntWalk.i64_left]; exact pow_wrap62 s (by omega)
  have hmn : min s 64 = s := by omega
  have e1 : ((m : Int) + 1) - 1 = (m : Int) := by omega
  have e2 : (m : Int) < (m : Int) + 1 := by omega
  clear hI hI2 hbel hbel2 hp hpe
  go_enter Try.func88, Try.ntmps88
  go_wp2
  go_ret
  exact ⟨_, rfl, HI.out, HB.out⟩

set_option maxHeartbeats 400000 in
theorem spec_l06Power {m s : Nat} {w} (hm : m ≤ 9) (hs : s ≤ 10) :
    Calls Try.prog 85 #[.int .i64 ((m : Int) + 1), .int .i64 ((2 ^ s : Nat) : Int)] w fun e w' => ∃ g, e = .returned (.slice (some ⟨g, 0, none⟩) (m + 1) (m + 1)) ∧ OwnI w' w.heap.size (some ⟨g, 0, none⟩) (m + 1) (m + 1) (powL m s) ∧ Below w.heap.size w w' := by
  obtain ⟨i0, hi, hz0, hz1, hz2⟩ := info_parts Try.infoI
  have hmk := run_make (P := Try.prog) w 36 2 i0 (.int .i64 0) Try.underlying36 hi hz0 .i64 .i64 ((m : Int) + 1) ((m : Int) + 1) (by omega) (by omega) (by rw [hz2]; omega) (by omega)
  rw [hz1] at hmk
  rw [show ((m : Int) + 1).toNat * 1 = m + 1 by omega, show ((m : Int) + 1).toNat = m + 1 by omega] at hmk
  have hI := made_own w (m + 1) (by omega)
  have hbel : Below w.heap.size w (w.alloc (.cells (madeCells (Value.int .i64 0).cells (m + 1)) 2)) := (Below.refl _ _).alloc (Nat.le_refl _) _
  generalize hW : w.alloc (.cells (madeCells (Value.int .i64 0).cells (m + 1)) 2) = W at *
  clear hW hi hz0 hz1 hz2
  have hf := hI.frozen m
  have hc := hI.cell (i := m) (by omega)
  have hp := pow_small s hs
  have hp1 : 0 < 2 ^ s := Nat.pow_pos (by omega)
  unfold powL
  generalize hpe : 2 ^ s = p at *
  have hI2 := hI.set m (x := (p : Int)) (I64.mk (by omega) (by omega))
  have hbel2 := hbel.setCell (p := ⟨w.heap.size, m, none⟩) (Nat.le_refl _) (.int .i64 (p : Int))
  have HI := Lib.hid hI2
  have HB := Lib.hid hbel2
  have e1 : ((m : Int) + 1) - 1 = (m : Int) := by omega
  have e2 : (m : Int) < (m : Int) + 1 := by omega
  have n1 : (((m : Int) + 1) == 0) = false := by rw [beq_eq_false_iff_ne]; omega
  have n2 : ((p : Int) == 0) = false := by rw [beq_eq_false_iff_ne]; omega
  clear hI hI2 hbel hbel2 hp hp1 hpe
  go_enter Try.func85, Try.ntmps85
  go_wp2
  go_ret
  exact ⟨_, rfl, HI.out, HB.out⟩

end Go.Proofs.Ytindhmgfadipnaa
