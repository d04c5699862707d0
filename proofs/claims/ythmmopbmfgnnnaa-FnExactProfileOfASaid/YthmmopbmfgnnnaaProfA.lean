/- ProfileOfA of the program and of the reference: both return the numbers n + 1, n, .., 1, or the code for the range. -/
import Derived.Test.YthmmopbmfgnnnaaBin
import Derived.Test.YthmmopbmfgnnnaaMem
namespace Go.Proofs.Ythmmopbmfgnnnaa
open Go.ChangeShapes Go.WideShapes Go.ChangeAt Go.RowKit
set_option linter.unusedVariables false

/-- the first k of the numbers m, m - 1, .. -/
def dl (m : Int) (k : Nat) : List Int := (List.range k).map fun j : Nat => m - (j : Int)
theorem dl_len (m : Int) (k : Nat) : (dl m k).length = k := by simp [dl]
theorem dl_succ (m : Int) (k : Nat) : dl m (k + 1) = dl m k ++ [m - (k : Int)] := by simp [dl, List.range_succ]

def pProfileOfA (n : Int) : List Int × Int := if inB n 0 9 = true then (dl (n + 1) (n + 1).toNat, 0) else ([], 2)
theorem pProfileOfA_len (n : Int) : (pProfileOfA n).1.length ≤ 1000000 := by
  unfold pProfileOfA
  by_cases h : inB n 0 9 = true
  · have := inB_true h
    rw [if_pos h]; simp only [dl_len]; omega
  · rw [if_neg h]; simp

set_option maxHeartbeats 400000 in
theorem impl_ProfileOfA (n : Int) (w : World) (hi : I64 n) : Calls Try.prog 24 #[.int .i64 n] w fun e w' => ∃ A l c, e = .returned (.tuple #[.slice A l c, .int .i64 (pProfileOfA n).2]) ∧ OwnI w' w.heap.size A l c (pProfileOfA n).1 ∧ Below w.heap.size w w' := by
  clear hi
  by_cases hd : inB n 0 9 = true
  · have hb := inB_true hd
    have hf : pProfileOfA n = (dl (n + 1) (n + 1).toNat, 0) := by simp only [pProfileOfA, hd, if_true]
    rw [hf]; clear hf
    have h0 := hb.1
    have h9 := hb.2
    clear hb
    have HI := Lib.hid (show OwnI (w.alloc (.cells #[] 2)) w.heap.size (some ⟨w.heap.size, 0, none⟩) 0 0 (dl (n + 1) 0) from empty_own w)
    have HB := Lib.hid (show Below w.heap.size w (w.alloc (.cells #[] 2)) from (Below.refl _ _).alloc (Nat.le_refl _) _)
    go_enter Try.func24, Try.ntmps24
    go_wp2_with (go_at_call 48; refine (in_any _ _ _ _).mono ?_; rintro e w' ⟨rfl, rfl⟩)
    go_loopw [4, 5] (fun v i wr => ∃ (k : Nat) (A : Option Addr) (c : Nat), (k : Int) ≤ n + 1 ∧ i = .int .i64 (n + 1 - (k : Int)) ∧ v = .slice A k c ∧ OwnI wr w.heap.size A k c (dl (n + 1) k) ∧ Below w.heap.size w wr) (fun _ i _ => (intOf i).toNat)
    case atStart => exact ⟨0, _, _, by omega, by go_num, rfl, HI.out, HB.out⟩
    case round =>
      obtain ⟨k, A, c, hk, rfl, rfl, ho, hb⟩ := hrel
      have HO := Lib.hid ho
      have HBW := Lib.hid hb
      clear ho hb HI HB
      by_cases hlt : 1 ≤ n + 1 - (k : Int)
      · go_wp2_with (at_builtin; refine app1 _ _ _ _ _ _ _ _ _ rfl rfl rfl rfl HO.out (I64.mk (by omega) (by omega)) (by omega) HBW.out.size ?_; intro g c' w1 ho2 hg)
        have HO2 := Lib.hid (show OwnI w1 w.heap.size (some ⟨g, 0, none⟩) (k + 1) c' (dl (n + 1) (k + 1)) by rw [dl_succ, show n + 1 - (k : Int) = n + 1 - (k : Int) from rfl]; exact ho2)
        have HB2 := Lib.hid (HBW.out.grown hg HBW.out.size (fun k hk => HO.out.row_ge hk))
        clear ho2 hg
        go_wp2
        go_roundw
        case rel => exact ⟨k + 1, _, _, by omega, by go_num, rfl, HO2.out, HB2.out⟩
        case measure => simp [intOf]; omega
      · have e : (n + 1).toNat = k := by omega
        have HE := Lib.hid e
        clear e
        go_wp2
        go_ret2
        exact ⟨A, k, c, rfl, by rw [HE.out]; exact HO.out, HBW.out⟩
  · have hd' : inB n 0 9 = false := by simpa using hd
    have hf : pProfileOfA n = ([], 2) := by simp only [pProfileOfA, hd', Bool.false_eq_true, if_false]
    rw [hf]; clear hf hd
    go_enter Try.func24, Try.ntmps24
    go_wp2_with (go_at_call 48; refine (in_any _ _ _ _).mono ?_; rintro e w' ⟨rfl, rfl⟩)
    go_ret2
    exact ⟨none, 0, 0, rfl, OwnI.nil _ _, Below.refl _ _⟩

set_option maxHeartbeats 400000 in
theorem spec_ProfileOfA (n : Int) (w : World) (hi : I64 n) : Calls Try.prog 23 #[.int .i64 n] w fun e w' => ∃ A l c, e = .returned (.tuple #[.slice A l c, .int .i64 (pProfileOfA n).2]) ∧ OwnI w' w.heap.size A l c (pProfileOfA n).1 ∧ Below w.heap.size w w' := by
  clear hi
  by_cases hd : inB n 0 9 = true
  · have hb := inB_true hd
    have hf : pProfileOfA n = (dl (n + 1) (n + 1).toNat, 0) := by simp only [pProfileOfA, hd, if_true]
    rw [hf]; clear hf
    have h0 := hb.1
    have h9 := hb.2
    clear hb
    have HI := Lib.hid (show OwnI (w.alloc (.cells #[] 2)) w.heap.size (some ⟨w.heap.size, 0, none⟩) 0 0 (dl (n + 1) 0) from empty_own w)
    have HB := Lib.hid (show Below w.heap.size w (w.alloc (.cells #[] 2)) from (Below.refl _ _).alloc (Nat.le_refl _) _)
    go_enter Try.func23, Try.ntmps23
    go_wp2_with (go_at_call 44; refine (l01In_any _ _ _ _).mono ?_; rintro e w' ⟨rfl, rfl⟩)
    go_loopw [0, 4] (fun i v wr => ∃ (k : Nat) (A : Option Addr) (c : Nat), (k : Int) ≤ n + 1 ∧ i = .int .i64 (n - (k : Int)) ∧ v = .slice A k c ∧ OwnI wr w.heap.size A k c (dl (n + 1) k) ∧ Below w.heap.size w wr) (fun i _ _ => (intOf i + 1).toNat)
    case atStart => exact ⟨0, _, _, by omega, by go_num, rfl, HI.out, HB.out⟩
    case round =>
      obtain ⟨k, A, c, hk, rfl, rfl, ho, hb⟩ := hrel
      have HO := Lib.hid ho
      have HBW := Lib.hid hb
      clear ho hb HI HB
      by_cases hlt : 0 ≤ n - (k : Int)
      · go_wp2_with (at_builtin; refine app1 _ _ _ _ _ _ _ _ _ rfl rfl rfl rfl HO.out (I64.mk (by omega) (by omega)) (by omega) HBW.out.size ?_; intro g c' w1 ho2 hg)
        have HO2 := Lib.hid (show OwnI w1 w.heap.size (some ⟨g, 0, none⟩) (k + 1) c' (dl (n + 1) (k + 1)) by rw [dl_succ, show n + 1 - (k : Int) = n - (k : Int) + 1 by omega]; exact ho2)
        have HB2 := Lib.hid (HBW.out.grown hg HBW.out.size (fun k hk => HO.out.row_ge hk))
        clear ho2 hg
        go_wp2
        go_roundw
        case rel => exact ⟨k + 1, _, _, by omega, by go_num, rfl, HO2.out, HB2.out⟩
        case measure => simp [intOf]; omega
      · have e : (n + 1).toNat = k := by omega
        have HE := Lib.hid e
        clear e
        go_wp2
        go_ret2
        exact ⟨A, k, c, rfl, by rw [HE.out]; exact HO.out, HBW.out⟩
  · have hd' : inB n 0 9 = false := by simpa using hd
    have hf : pProfileOfA n = ([], 2) := by simp only [pProfileOfA, hd', Bool.false_eq_true, if_false]
    rw [hf]; clear hf hd
    go_enter Try.func23, Try.ntmps23
    go_wp2_with (go_at_call 44; refine (l01In_any _ _ _ _).mono ?_; rintro e w' ⟨rfl, rfl⟩)
    go_ret2
    exact ⟨none, 0, 0, rfl, OwnI.nil _ _, Below.refl _ _⟩

end Go.Proofs.Ythmmopbmfgnnnaa
