/- The product of a mask and rows; TimesRow of the program and of the reference. -/
import Derived.Test.YtindhmgfadipnaaMat
namespace Go.Proofs.Ytindhmgfadipnaa
open Go.ChangeShapes Go.WideShapes Go.ChangeAt Go.RowKit
set_option linter.unusedVariables false

/-- the sum of the first k rows that a mask names -/
def tim (m : Nat) (xs : List Int) : Nat → Int
  | 0 => 0
  | k + 1 => if m / 2 ^ k % 2 = 1 then bits .xor .i64 (tim m xs k) (xs.getD k 0) else tim m xs k

theorem bits_I64 (op : BinOp) (a b : Int) : I64 (bits op .i64 a b) := by
  unfold bits
  rw [IntWalk.i64_left]
  exact I64.wrap64 _

theorem tim_I64 (m : Nat) (xs : List Int) (k : Nat) : I64 (tim m xs k) := by
  induction k with
  | zero => exact I64.mk (by show (-9223372036854775808 : Int) ≤ 0; decide) (by show (0 : Int) ≤ 9223372036854775807; decide)
  | succ k ih =>
    unfold tim
    split
    · exact bits_I64 _ _ _
    · exact ih

theorem and_one' (m : Nat) (hm : m < 9223372036854775808) : bits .and .i64 (m : Int) 1 = ((m % 2 : Nat) : Int) := by
  have := i64_and_nat m 1 hm (by omega)
  rw [Nat.and_one_is_mod] at this
  exact this

set_option maxHeartbeats 400000 in
theorem impl_times {m : Nat} {A n c xs w} (h : RI w A n xs) (hm : m < 9223372036854775808) (hn : n ≤ 60) :
    Calls Try.prog 98 #[.int .i64 (m : Int), .slice A n c] w fun e w' => e = .returned (.int .i64 (tim m xs n)) ∧ w = w' := by
  have H := Lib.hid h
  clear h
  go_enter Try.func98, Try.ntmps98
  go_wp2
  go_loop [5, 10] (fun tv iv => ∃ i : Nat, i ≤ n ∧ iv = .int .i64 (i : Int) ∧ tv = .int .i64 (tim m xs i)) (fun _ iv => n - (intOf iv).toNat)
  case atStart => exact ⟨0, by omega, rfl, rfl⟩
  case round =>
    obtain ⟨i, hi, rfl, rfl⟩ := hrel
    by_cases hlt : i < n
    · obtain ⟨b, off, rfl, _, hc⟩ := H.out.at_ hlt
      have hcd := cast_div m i
      have hmn : min i 64 = i := by omega
      have hle : m / 2 ^ i ≤ m := Nat.div_le_self _ _
      have hs : tim m xs (i + 1) = if m / 2 ^ i % 2 = 1 then bits .xor .i64 (tim m xs i) (xs.getD i 0) else tim m xs i := rfl
      generalize m / 2 ^ i = q at *
      have hao := and_one' q (by omega)
      generalize tim m xs i = t at *
      generalize xs.getD i 0 = x at *
      by_cases h2 : q % 2 = 1
      · rw [if_pos h2] at hs
        have HS := Lib.hid hs
        have hao1 : bits .and .i64 (q : Int) 1 = 1 := by rw [hao, h2]; rfl
        clear hs h2 hao
        go_wp2
        go_round
        case rel => exact ⟨i + 1, by omega, by go_num, by rw [HS.out]⟩
        case measure => simp [intOf]; omega
      · rw [if_neg h2] at hs
        have HS := Lib.hid hs
        have hao1 : bits .and .i64 (q : Int) 1 = 0 := by rw [hao, show q % 2 = 0 by omega]; rfl
        clear hs h2 hao
        go_wp2
        go_round
        case rel => exact ⟨i + 1, by omega, by go_num, by rw [HS.out]⟩
        case measure => simp [intOf]; omega
    · obtain rfl : i = n := by omega
      go_wp2
      go_ret
      exact ⟨rfl, rfl⟩

set_option maxHeartbeats 400000 in
theorem spec_l02Times {m : Nat} {A n c xs w} (h : RI w A n xs) (hm : m < 9223372036854775808) (hn : n ≤ 60) :
    Calls Try.prog 96 #[.int .i64 (m : Int), .slice A n c] w fun e w' => e = .returned (.int .i64 (tim m xs n)) ∧ w = w' := by
  have H := Lib.hid h
  clear h
  go_enter Try.func96, Try.ntmps96
  go_wp2
  go_loop [5, 6] (fun tv iv => ∃ i : Nat, i ≤ n ∧ iv = .int .i64 (i : Int) ∧ tv = .int .i64 (tim m xs i)) (fun _ iv => n - (intOf iv).toNat)
  case atStart => exact ⟨0, by omega, rfl, rfl⟩
  case round =>
    obtain ⟨i, hi, rfl, rfl⟩ := hrel
    by_cases hlt : i < n
    · obtain ⟨b, off, rfl, _, hc⟩ := H.out.at_ hlt
      have hlt' : (i : Int) < (n : Int) := by omega
      have hcd := cast_div m i
      have hmn : min i 64 = i := by omega
      have hle : m / 2 ^ i ≤ m := Nat.div_le_self _ _
      have hs : tim m xs (i + 1) = if m / 2 ^ i % 2 = 1 then bits .xor .i64 (tim m xs i) (xs.getD i 0) else tim m xs i := rfl
      generalize m / 2 ^ i = q at *
      have hao := and_one' q (by omega)
      have hu : IntKind.u64.wrap (i : Int) = (i : Int) := wrap_u64_id _ (by omega) (by omega)
      generalize tim m xs i = t at *
      generalize xs.getD i 0 = x at *
      by_cases h2 : q % 2 = 1
      · rw [if_pos h2] at hs
        have HS := Lib.hid hs
        have hao1 : bits .and .i64 (q : Int) 1 = 1 := by rw [hao, h2]; rfl
        clear hs h2 hao
        go_wp2
        go_round
        case rel => exact ⟨i + 1, by omega, by go_num, by rw [HS.out]⟩
        case measure => simp [intOf]; omega
      · rw [if_neg h2] at hs
        have HS := Lib.hid hs
        have hao1 : bits .and .i64 (q : Int) 1 = 0 := by rw [hao, show q % 2 = 0 by omega]; rfl
        clear hs h2 hao
        go_wp2
        go_round
        case rel => exact ⟨i + 1, by omega, by go_num, by rw [HS.out]⟩
        case measure => simp [intOf]; omega
    · obtain rfl : i = n := by omega
      go_wp2
      go_ret
      exact ⟨rfl, rfl⟩

theorem maskB_true {x : Int} {d : Nat} (h : maskB x d = true) (hd : d ≤ 60) : 0 ≤ x ∧ x < 1152921504606846976 := by
  have h1 := inB_true h
  have h2 := pow_le60 d hd
  omega

theorem impl_narrow {k A n c xs w} (hk : I64 k) (h : RI w A n xs) (hn : n ≤ 1048576) :
    Calls Try.prog 107 #[.agg #[.int .i64 k, .slice A n c]] w fun e w' => e = .returned (.int .i64 (if pIsMatrix k xs = true then (if xs.length ≤ 60 then 0 else 2) else 1)) ∧ Below w.heap.size w w' := by
  have hb0 := box_below w (.cells #[.int .i64 k, .slice A n c] 40)
  have CON := Lib.hid (impl_IsMatrix (c := c) hk (h.below hb0) hn)
  have HB0 := Lib.hid hb0
  have hl := h.len
  have hs := h.small
  have hc1 : (w.alloc (.cells #[.int .i64 k, .slice A n c] 40)).cell? ⟨w.heap.size, 1, none⟩ = some (.slice A n c) := by
    rw [World.cell?_alloc_at _ _ _ _ rfl]; rfl
  have hsz : w.heap.size < (w.alloc (.cells #[.int .i64 k, .slice A n c] 40)).heap.size := by simp
  have HC1 := Lib.hid hc1
  rw [hl]
  clear h hk hb0 hc1 hl
  cases hp : pIsMatrix k xs with
  | false =>
    rw [hp] at CON
    rw [if_neg (by simp)]
    clear hp
    go_enter Try.func107, Try.ntmps107
    go_wp2_with fail
    refine CON.out.mono ?_
    rintro e w1 ⟨rfl, hb⟩
    have HB := Lib.hid (HB0.out.trans (hb.mono HB0.out.size))
    clear hb
    go_wp2
    go_ret
    exact ⟨rfl, HB.out⟩
  | true =>
    rw [hp] at CON
    rw [if_pos rfl]
    clear hp
    by_cases h60 : n ≤ 60
    · have h60' : ¬ (60 : Int) < (n : Int) := by omega
      rw [if_pos h60]
      go_enter Try.func107, Try.ntmps107
      go_wp2_with fail
      refine CON.out.mono ?_
      rintro e w1 ⟨rfl, hb⟩
      have hc := (hb.cell (p := ⟨w.heap.size, 1, none⟩) hsz).trans HC1.out
      have HB := Lib.hid (HB0.out.trans (hb.mono HB0.out.size))
      clear hb
      go_wp2
      go_ret
      exact ⟨rfl, HB.out⟩
    · have h60' : (60 : Int) < (n : Int) := by omega
      rw [if_neg h60]
      go_enter Try.func107, Try.ntmps107
      go_wp2_with fail
      refine CON.out.mono ?_
      rintro e w1 ⟨rfl, hb⟩
      have hc := (hb.cell (p := ⟨w.heap.size, 1, none⟩) hsz).trans HC1.out
      have HB := Lib.hid (HB0.out.trans (hb.mono HB0.out.size))
      clear hb
      go_wp2
      go_ret
      exact ⟨rfl, HB.out⟩

def pTimesRow (x k : Int) (xs : List Int) : Int × Int :=
  if pIsMatrix k xs = true then (if (decide (xs.length ≤ 60) && maskB x xs.length) = true then (tim x.toNat xs xs.length, 0) else (0, 2)) else (0, 1)

end Go.Proofs.Ytindhmgfadipnaa
