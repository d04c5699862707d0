/- math/bits.OnesCount64 at numbers below 2^40, and 'ones', OnesIn, LeastSpike of the program and of the reference. -/
import Derived.Test.YtindhmgfadipnaaDig
import Derived.Test.YtindhmgfadipnaaPop
namespace Go.Proofs.Ytindhmgfadipnaa
open Go.ChangeShapes Go.WideShapes Go.ChangeAt Go.RowKit
set_option linter.unusedVariables false

theorem ofInt_u64 (a : Nat) (ha : a < 18446744073709551616) : (BitVec.ofInt 64 (a : Int)).toNat = a := by
  rw [BitVec.ofInt_natCast, BitVec.toNat_ofNat]; exact Nat.mod_eq_of_lt (by omega)

theorem u64_and_nat (a b : Nat) (ha : a < 9223372036854775808) (hb : b < 9223372036854775808) : bits .and .u64 (a : Int) (b : Int) = ((a &&& b : Nat) : Int) := by
  have hx : a &&& b < 2 ^ 63 := Nat.and_lt_two_pow _ (by omega)
  show IntKind.u64.wrap ((BitVec.ofInt 64 (a : Int) &&& BitVec.ofInt 64 (b : Int)).toNat : Int) = _
  rw [BitVec.toNat_and, ofInt_u64 a (by omega), ofInt_u64 b (by omega), IntKind.wrap_u64]
  omega

theorem onesCount (m : Nat) (w : World) (hm : m ≤ 1099511627775) : Calls Try.prog 157 #[.int .u64 (m : Int)] w fun e w' => e = .returned (.int .i64 (Pop.pc 40 m : Int)) ∧ w = w' := by
  have hsw := Pop.swar_eq m (by omega)
  unfold Pop.swar at hsw
  have e1 := u64_and_nat (m / 2) 6148914691236517205 (by omega) (by omega)
  have e2 := u64_and_nat m 6148914691236517205 (by omega) (by omega)
  have l1 : m / 2 &&& 6148914691236517205 ≤ m / 2 := Nat.and_le_left
  have l2 : m &&& 6148914691236517205 ≤ m := Nat.and_le_left
  generalize m / 2 &&& 6148914691236517205 = a at *
  generalize m &&& 6148914691236517205 = b at *
  have e3 := u64_and_nat ((a + b) / 4) 3689348814741910323 (by omega) (by omega)
  have e4 := u64_and_nat (a + b) 3689348814741910323 (by omega) (by omega)
  have l3 : (a + b) / 4 &&& 3689348814741910323 ≤ (a + b) / 4 := Nat.and_le_left
  have l4 : (a + b) &&& 3689348814741910323 ≤ a + b := Nat.and_le_left
  simp only at hsw
  generalize (a + b) / 4 &&& 3689348814741910323 = c at *
  generalize (a + b) &&& 3689348814741910323 = d at *
  have e5 := u64_and_nat ((c + d) / 16 + (c + d)) 1085102592571150095 (by omega) (by omega)
  have l5 : ((c + d) / 16 + (c + d)) &&& 1085102592571150095 ≤ (c + d) / 16 + (c + d) := Nat.and_le_left
  generalize ((c + d) / 16 + (c + d)) &&& 1085102592571150095 = f at *
  have e6 := i64_and_nat ((f + f / 256) + (f + f / 256) / 65536 + ((f + f / 256) + (f + f / 256) / 65536) / 4294967296) 127 (by omega) (by omega)
  have hm127 := Nat.and_two_pow_sub_one_eq_mod ((f + f / 256) + (f + f / 256) / 65536 + ((f + f / 256) + (f + f / 256) / 65536) / 4294967296) 7
  rw [show (2 : Nat) ^ 7 - 1 = 127 by decide, show (2 : Nat) ^ 7 = 128 by decide] at hm127
  rw [hm127, hsw] at e6
  simp only [Int.natCast_add, Int.natCast_ediv, Int.cast_ofNat_Int] at e1 e2 e3 e4 e5 e6
  generalize Pop.pc 40 m = r at *
  clear hsw hm127
  go_enter Try.func157, Try.ntmps157
  go_wp2
  go_ret
  exact ⟨rfl, rfl⟩

theorem ones_any (m : Nat) (w : World) (hm : m ≤ 1099511627775) : Calls Try.prog 134 #[.int .i64 (m : Int)] w fun e w' => e = .returned (.int .i64 (Pop.pc 40 m : Int)) ∧ w = w' := by
  go_enter Try.func134, Try.ntmps134
  go_wp2_with (go_at_call 157; refine (onesCount m _ hm).mono ?_; rintro e w' ⟨rfl, rfl⟩)
  go_ret
  exact ⟨rfl, rfl⟩

theorem pc_le (k : Nat) : ∀ m, Pop.pc k m ≤ k := by
  induction k with
  | zero => intro m; simp [Pop.pc]
  | succ k ih => intro m; have := ih (m / 2); simp only [Pop.pc]; omega

theorem digs_pc (k : Nat) : ∀ (m i : Nat), m < 2 ^ k → (digs m i).length = Pop.pc k m := by
  induction k with
  | zero => intro m i h; have h0 : m = 0 := by simpa using h
            subst h0; rw [digs_zero]; rfl
  | succ k ih =>
    intro m i h
    have h2 : m / 2 < 2 ^ k := by rw [Nat.pow_succ] at h; omega
    have := ih (m / 2) (i + 1) h2
    simp only [Pop.pc]
    by_cases h0 : m = 0
    · subst h0
      have e : Pop.pc k (0 / 2) = 0 := by rw [← this, digs_zero]; rfl
      rw [digs_zero, e]; rfl
    · by_cases h1 : m % 2 = 1
      · rw [digs_odd m i h0 h1]; simp; omega
      · rw [digs_even m i h0 h1]; omega

theorem digs_pc40 (m : Nat) (h : m ≤ 1000000000000) : (digs m 0).length = Pop.pc 40 m := digs_pc 40 m 0 (by
  have : (2 : Nat) ^ 40 = 1099511627776 := by decide
  omega)

def pOnesIn (n : Int) : Int × Int := if inB n 0 1000000000000 = true then ((Pop.pc 40 n.toNat : Int), 0) else (0, 2)

/-- the least s from s on with no more than s digits 1 in d + s -/
def lsF : Nat → Nat → Nat → Nat
  | 0, _, s => s
  | f + 1, d, s => if s < Pop.pc 40 (d + s) then lsF f d (s + 1) else s

def pLeastSpike (d : Int) : Int × Int := if inB d 0 1000000 = true then ((lsF 41 d.toNat 0 : Int), 0) else (0, 2)

theorem impl_LeastSpike (n : Int) (w : World) (hi : I64 n) : Calls Try.prog 77 #[.int .i64 n] w fun e w' => e = .returned (.tuple #[.int .i64 (pLeastSpike n).1, .int .i64 (pLeastSpike n).2]) ∧ Below w.heap.size w w' := by
  clear hi
  by_cases hd : inB n 0 1000000 = true
  · have hb := inB_true hd
    have hf : pLeastSpike n = ((lsF 41 n.toNat 0 : Int), 0) := by simp only [pLeastSpike, hd, if_true]
    rw [hf]; clear hf
    obtain ⟨d, rfl⟩ := Int.eq_ofNat_of_zero_le hb.1
    have h9 : d ≤ 1000000 := by omega
    clear hb
    rw [Int.toNat_natCast]
    go_enter Try.func77, Try.ntmps77
    go_wp2_with (first | (go_at_call 87; refine (in_any _ _ _ _).mono ?_; rintro e w' ⟨rfl, rfl⟩) | fail)
    go_loop [4] (fun v => ∃ s : Nat, s ≤ 40 ∧ v = .int .i64 (s : Int) ∧ lsF (41 - s) d s = lsF 41 d 0) (fun v => 41 - (intOf v).toNat)
    case atStart => exact ⟨0, by omega, rfl, rfl⟩
    case round =>
      obtain ⟨s, hs, rfl, ht⟩ := hrel
      have hpc := pc_le 40 (d + s)
      have con := ones_any (d + s) w (by omega)
      rw [Int.natCast_add] at con
      rw [show 41 - s = (40 - s) + 1 by omega, lsF] at ht
      have CON := Lib.hid con
      generalize Pop.pc 40 (d + s) = p at *
      clear con
      by_cases hlt : s < p
      · rw [if_pos hlt, show 40 - s = 41 - (s + 1) by omega] at ht
        have HT := Lib.hid ht
        have hlt' : (s : Int) < (p : Int) := by omega
        clear ht
        go_wp2_with fail
        refine CON.out.mono ?_
        rintro e w1 ⟨rfl, rfl⟩
        go_wp2
        go_round
        case rel => exact ⟨s + 1, by omega, by go_num, HT.out⟩
        case measure => simp [intOf]; omega
      · rw [if_neg hlt] at ht
        have HT := Lib.hid ht
        have hlt' : (p : Int) ≤ (s : Int) := by omega
        clear ht
        go_wp2_with fail
        refine CON.out.mono ?_
        rintro e w1 ⟨rfl, rfl⟩
        go_wp2
        go_ret2
        exact ⟨by rw [← HT.out]; rfl, Below.refl _ _⟩
  · have hd' : inB n 0 1000000 = false := by simpa using hd
    have hf : pLeastSpike n = (0, 2) := by simp only [pLeastSpike, hd', Bool.false_eq_true, if_false]
    rw [hf]; clear hf hd
    go_enter Try.func77, Try.ntmps77
    go_wp2_with (go_at_call 87; refine (in_any _ _ _ _).mono ?_; rintro e w' ⟨rfl, rfl⟩)
    go_ret2
    exact ⟨rfl, Below.refl _ _⟩

theorem spec_l01Spike (d : Nat) (w : World) (h9 : d ≤ 1000000) : Calls Try.prog 135 #[.int .i64 (d : Int)] w fun e w' => e = .returned (.int .i64 (lsF 41 d 0 : Int)) ∧ Below w.heap.size w w' := by
  go_enter Try.func135, Try.ntmps135
  go_wp2
  go_loopw [3] (fun v wr => ∃ s : Nat, s ≤ 40 ∧ v = .int .i64 (s : Int) ∧ lsF (41 - s) d s = lsF 41 d 0 ∧ Below w.heap.size w wr) (fun v _ => 41 - (intOf v).toNat)
  case atStart => exact ⟨0, by omega, rfl, rfl, Below.refl _ _⟩
  case round =>
    obtain ⟨s, hs, rfl, ht, hb⟩ := hrel
    have HB := Lib.hid hb
    have hpc := pc_le 40 (d + s)
    have con := spec_l01Digits (d + s) wr (by omega)
    rw [Int.natCast_add] at con
    rw [show 41 - s = (40 - s) + 1 by omega, lsF] at ht
    have CON := Lib.hid con
    have HL := Lib.hid (digs_pc40 (d + s) (by omega))
    generalize Pop.pc 40 (d + s) = p at *
    clear con hb
    by_cases hlt : s < p
    · rw [if_pos hlt, show 40 - s = 41 - (s + 1) by omega] at ht
      have HT := Lib.hid ht
      have hlt' : (s : Int) < (p : Int) := by omega
      clear ht
      go_wp2_with fail
      refine CON.out.mono ?_
      rintro e w1 ⟨A, l, c, rfl, ho, hb⟩
      have hl := ho.len
      rw [HL.out] at hl
      subst hl
      have HB2 := Lib.hid (HB.out.trans (hb.mono HB.out.size))
      clear ho hb
      go_wp2
      go_roundw
      case rel => exact ⟨s + 1, by omega, by go_num, HT.out, HB2.out⟩
      case measure => simp [intOf]; omega
    · rw [if_neg hlt] at ht
      have HT := Lib.hid ht
      have hlt' : (p : Int) ≤ (s : Int) := by omega
      clear ht
      go_wp2_with fail
      refine CON.out.mono ?_
      rintro e w1 ⟨A, l, c, rfl, ho, hb⟩
      have hl := ho.len
      rw [HL.out] at hl
      subst hl
      have HB2 := Lib.hid (HB.out.trans (hb.mono HB.out.size))
      clear ho hb
      go_wp2
      go_ret
      exact ⟨by rw [← HT.out]; rfl, HB2.out⟩

theorem spec_LeastSpike (n : Int) (w : World) (hi : I64 n) : Calls Try.prog 80 #[.int .i64 n] w fun e w' => e = .returned (.tuple #[.int .i64 (pLeastSpike n).1, .int .i64 (pLeastSpike n).2]) ∧ Below w.heap.size w w' := by
  clear hi
  by_cases hd : inB n 0 1000000 = true
  · have hb := inB_true hd
    have hf : pLeastSpike n = ((lsF 41 n.toNat 0 : Int), 0) := by simp only [pLeastSpike, hd, if_true]
    rw [hf]; clear hf
    obtain ⟨d, rfl⟩ := Int.eq_ofNat_of_zero_le hb.1
    have h9 : d ≤ 1000000 := by omega
    clear hb
    rw [Int.toNat_natCast]
    go_enter Try.func80, Try.ntmps80
    go_wp2_with (first | (go_at_call 84; refine (l01In_any _ _ _ _).mono ?_; rintro e w' ⟨rfl, rfl⟩) | fail)
    refine (spec_l01Spike d _ h9).mono ?_
    rintro e w1 ⟨rfl, hb⟩
    have HB := Lib.hid hb
    clear hb
    go_wp2
    go_ret2
    exact ⟨rfl, HB.out⟩
  · have hd' : inB n 0 1000000 = false := by simpa using hd
    have hf : pLeastSpike n = (0, 2) := by simp only [pLeastSpike, hd', Bool.false_eq_true, if_false]
    rw [hf]; clear hf hd
    go_enter Try.func80, Try.ntmps80
    go_wp2_with (go_at_call 84; refine (l01In_any _ _ _ _).mono ?_; rintro e w' ⟨rfl, rfl⟩)
    go_ret2
    exact ⟨rfl, Below.refl _ _⟩

end Go.Proofs.Ytindhmgfadipnaa
