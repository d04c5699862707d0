/- Transposed matrices: transposed of the program, l02Turn of the reference. -/
import Derived.Test.YtindhmgfadipnaaTimes
import Derived.Test.YtindhmgfadipnaaBlk
import Derived.BigRegion
namespace Go.Proofs.Ytindhmgfadipnaa
open Go.ChangeShapes Go.WideShapes Go.ChangeAt Go.RowKit
set_option linter.unusedVariables false

/-- one digit, shifted, as int64 counts it -/
def shW (r i : Nat) : Int := IntKind.i64.wrap ((r : Int) * (2 : Int) ^ i)

/-- column j of the first i rows, as a number -/
def colW (X : List Int) (j : Nat) : Nat → Int
  | 0 => 0
  | i + 1 => bits .or .i64 (colW X j i) (shW ((X.getD i 0).toNat / 2 ^ j % 2) i)

theorem colW_I64 (X : List Int) (j i : Nat) : I64 (colW X j i) := by
  cases i with
  | zero => exact I64.mk (by show (-9223372036854775808 : Int) ≤ 0; decide) (by show (0 : Int) ≤ 9223372036854775807; decide)
  | succ i => exact bits_I64 _ _ _

/-- the columns of the first i rows -/
def turnL (X : List Int) (d i : Nat) : List Int := (List.range d).map (fun j => colW X j i)

/-- the columns, the first j of them of i + 1 rows, the others of i -/
def mixL (X : List Int) (d i j : Nat) : List Int := (List.range d).map (fun t => if t < j then colW X t (i + 1) else colW X t i)

theorem turnL_len (X : List Int) (d i : Nat) : (turnL X d i).length = d := by simp [turnL]

theorem mixL_zero (X : List Int) (d i : Nat) : mixL X d i 0 = turnL X d i := by simp [mixL, turnL]

theorem mixL_end (X : List Int) (d i : Nat) : mixL X d i d = turnL X d (i + 1) := by
  unfold mixL turnL
  apply List.map_congr_left
  intro t ht
  rw [if_pos (List.mem_range.1 ht)]

theorem mixL_get (X : List Int) (d i j : Nat) (h : j < d) : (mixL X d i j).getD j 0 = colW X j i := by
  simp [mixL, List.getD, h]

theorem mixL_set (X : List Int) (d i j : Nat) (h : j < d) : (mixL X d i j).set j (colW X j (i + 1)) = mixL X d i (j + 1) := by
  apply List.ext_getElem
  · simp [mixL]
  · intro t h1 h2
    have ht : t < d := by simpa [mixL] using h2
    rw [List.getElem_set]
    by_cases e : j = t
    · subst e
      simp [mixL]
    · rw [if_neg e]
      simp only [mixL, List.getElem_map, List.getElem_range]
      by_cases h3 : t < j
      · rw [if_pos h3, if_pos (by omega)]
      · rw [if_neg h3, if_neg (by omega)]

theorem turnL_zero (X : List Int) (d : Nat) : turnL X d 0 = List.replicate d 0 := by
  apply List.ext_getElem
  · simp [turnL]
  · intro t h1 h2
    simp [turnL, colW]

theorem turnL_take (X : List Int) (d n j : Nat) (h : j < d) : (turnL X d n).take (j + 1) = (turnL X d n).take j ++ [colW X j n] := by
  rw [List.take_succ_eq_append_getElem (by simpa [turnL] using h)]
  simp [turnL]

set_option maxHeartbeats 1000000 in
theorem impl_transposed {A n c X w} {d : Nat} (h : RI w A n X) (hx : ∀ x ∈ X, 0 ≤ x ∧ x < 1152921504606846976) (hn : n ≤ 60) (hd : d ≤ 60) :
    Calls Try.prog 108 #[.slice A n c, .int .i64 (d : Int)] w fun e w' => ∃ g, e = .returned (.slice (some ⟨g, 0, none⟩) d d) ∧ OwnI w' w.heap.size (some ⟨g, 0, none⟩) d d (turnL X d n) ∧ Below w.heap.size w w' := by
  obtain ⟨i0, hi, hz0, hz1, hz2⟩ := info_parts Try.infoI
  have hmk := run_make (P := Try.prog) w 36 2 i0 (.int .i64 0) Try.underlying36 hi hz0 .i64 .i64 (d : Int) (d : Int) (by omega) (by omega) (by rw [hz2]; omega) (by omega)
  rw [hz1] at hmk
  rw [show (d : Int).toNat * 1 = d by omega, show (d : Int).toNat = d by omega] at hmk
  have hI := made_own w d (by omega)
  have hbel : Below w.heap.size w (w.alloc (.cells (madeCells (Value.int .i64 0).cells d) 2)) := (Below.refl _ _).alloc (Nat.le_refl _) _
  have hl := h.len
  generalize hW : w.alloc (.cells (madeCells (Value.int .i64 0).cells d) 2) = W at *
  clear hW hi hz0 hz1 hz2
  rw [← turnL_zero X d] at hI
  have HI := Lib.hid hI
  have HB := Lib.hid hbel
  have HR := Lib.hid h
  have HX := Lib.hid hx
  have HL := Lib.hid hl
  clear hI hbel h hx hl
  go_enter Try.func108, Try.ntmps108
  go_wp2
  clear hmk
  go_loopw [13] (fun iv wr => ∃ i : Nat, i ≤ n ∧ iv = .int .i64 (i : Int) ∧ OwnI wr w.heap.size (some ⟨w.heap.size, 0, none⟩) d d (turnL X d i) ∧ Below w.heap.size w wr) (fun iv _ => n - (intOf iv).toNat)
  case atStart => exact ⟨0, by omega, rfl, HI.out, HB.out⟩
  case round =>
    obtain ⟨i, hi, rfl, ho, hb⟩ := hrel
    clear HI HB
    have HO := Lib.hid ho
    have HBW := Lib.hid hb
    by_cases hlt : i < n
    · obtain ⟨b, off, rfl, hbl, hc⟩ := (HR.out.below hb).at_ hlt
      have hxb := HX.out (X.getD i 0) (by have := HL.out; simp [List.getD, show i < X.length by omega])
      have hcs := fun j => show colW X j (i + 1) = bits .or .i64 (colW X j i) (shW ((X.getD i 0).toNat / 2 ^ j % 2) i) from rfl
      clear ho hb
      generalize X.getD i 0 = x at *
      obtain ⟨m, rfl⟩ := Int.eq_ofNat_of_zero_le hxb.1
      simp only [Int.toNat_natCast] at hcs
      have HCS := Lib.hid hcs
      have HM0 := Lib.hid (mixL_zero X d i)
      clear hcs
      obtain ⟨wo, rfl⟩ : ∃ wo : World, wo = wr := ⟨_, rfl⟩
      go_wp2
      go_loopw [20] (fun jv wi => ∃ j : Nat, j ≤ d ∧ jv = .int .i64 (j : Int) ∧ OwnI wi w.heap.size (some ⟨w.heap.size, 0, none⟩) d d (mixL X d i j) ∧ Below w.heap.size w wi) (fun jv _ => d - (intOf jv).toNat)
      case atStart => exact ⟨0, by omega, rfl, by rw [HM0.out]; exact HO.out, HBW.out⟩
      case round =>
        obtain ⟨j, hj, rfl, ho2, hb2⟩ := hrel
        clear hc
        by_cases hjl : j < d
        · have hc1 := ho2.cell (i := j) hjl
          rw [mixL_get X d i j hjl] at hc1
          have hf := ho2.frozen j
          have hs2 := ho2.set j (colW_I64 X j (i + 1))
          rw [mixL_set X d i j hjl] at hs2
          have hb3 := hb2.setCell (p := ⟨w.heap.size, j, none⟩) (Nat.le_refl _) (.int .i64 (colW X j (i + 1)))
          have hcs := HCS.out j
          rw [hcs] at hs2 hb3
          have HS2 := Lib.hid hs2
          have HB3 := Lib.hid hb3
          have hcd := cast_div m j
          have hmn : min j 64 = j := by omega
          have hmn2 : min i 64 = i := by omega
          have hle : m / 2 ^ j ≤ m := Nat.div_le_self _ _
          clear hs2 hb3 hcs
          generalize m / 2 ^ j = q at *
          have hao := and_one' q (by omega)
          have hq2 : q % 2 < 2 := Nat.mod_lt _ (by omega)
          generalize q % 2 = r at *
          have hsh : IntKind.i64.wrap ((r : Int) * (2 : Int) ^ i) = shW r i := rfl
          generalize shW r i = s at *
          generalize colW X j i = y at *
          have HOC := Lib.hid ho2
          clear ho2 hb2
          go_wp2
          go_region
          all_goals go_wp2
          go_roundw
          case rel => exact ⟨j + 1, by omega, by go_num, HS2.out.drew, HB3.out.drew⟩
          case measure => simp [intOf]; omega
        · obtain rfl : j = d := by omega
          have HO2 := Lib.hid (show OwnI wr w.heap.size (some ⟨w.heap.size, 0, none⟩) j j (turnL X j (i + 1)) by rw [← mixL_end]; exact ho2)
          have HB2 := Lib.hid hb2
          clear ho2 hb2
          go_wp2
          go_roundw
          case rel => exact ⟨i + 1, by omega, by go_num, HO2.out, HB2.out⟩
          case measure => simp [intOf]; omega
    · obtain rfl : i = n := by omega
      clear ho hb
      go_wp2
      go_ret
      exact ⟨_, rfl, HO.out, HBW.out⟩

def pTransposeOf (k : Int) (X : List Int) : (Int × List Int) × Int :=
  if pIsMatrix k X = true then (if X.length ≤ 60 then (((X.length : Int), turnL X k.toNat X.length), 0) else ((0, []), 2)) else ((0, []), 1)

theorem pTransposeOf_sz (k : Int) (X : List Int) (h : X.length ≤ 1048576) : (pTransposeOf k X).1.2.length ≤ 4000000000 := by
  unfold pTransposeOf
  split
  · rename_i hp
    have hpt := pIsMatrix_true hp
    split
    · simp [turnL]; omega
    · simp
  · simp

end Go.Proofs.Ytindhmgfadipnaa
