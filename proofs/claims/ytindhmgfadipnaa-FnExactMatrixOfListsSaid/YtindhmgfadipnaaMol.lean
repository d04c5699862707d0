/- MatrixOfLists of the program and of the reference. -/
import Derived.Test.YtindhmgfadipnaaTurn
import Derived.Test.YtindhmgfadipnaaPolyS
import Derived.Deep.RegionLaw
namespace Go.Proofs.Ytindhmgfadipnaa
open Go.ChangeShapes Go.WideShapes Go.ChangeAt Go.RowKit
set_option linter.unusedVariables false

def bitB (x : Int) : Bool := inB x 0 1

def mskF (acc : Int) (j : Nat) : List Int → Int
  | [] => acc
  | b :: r => mskF (bits .or .i64 acc (shW b.toNat j)) (j + 1) r

def maskL (x : List Int) : Int := mskF 0 0 x

theorem mskF_I64 (x : List Int) : ∀ (acc : Int) (j : Nat), I64 acc → I64 (mskF acc j x) := by
  induction x with
  | nil => intro acc j h; exact h
  | cons b r ih => intro acc j h; exact ih _ _ (bits_I64 _ _ _)

theorem I64_0 : I64 0 := I64.mk (by decide) (by decide)

def rowB (k : Int) (x : List Int) : Bool := decide ((x.length : Int) = k) && x.all bitB

def pMatrixOfLists (k : Int) (xss : List (List Int)) : (Int × List Int) × Int :=
  if inB k 0 60 = true then (if xss.length ≤ 200 then (if xss.all (rowB k) = true then ((k, xss.map maskL), 0) else ((0, []), 2)) else ((0, []), 2)) else ((0, []), 2)

theorem pMatrixOfLists_sz (k : Int) (xss : List (List Int)) (h : xss.length + tot xss ≤ 1048576) : (pMatrixOfLists k xss).1.2.length ≤ 4000000000 := by
  unfold pMatrixOfLists
  split
  · split
    · split
      · simp; omega
      · simp
    · simp
  · simp

theorem mskF_step (acc : Int) (x : List Int) (j : Nat) (h : j < x.length) : mskF acc j (x.drop j) = mskF (bits .or .i64 acc (shW (x.getD j 0).toNat j)) (j + 1) (x.drop (j + 1)) := by
  rw [dropc x j h]; rfl

theorem mskF_end (acc : Int) (x : List Int) (j : Nat) (h : x.length ≤ j) : mskF acc j (x.drop j) = acc := by
  rw [List.drop_eq_nil_of_le h]; rfl

theorem bit_pred (w : World) : PredI 102 #[] w bitB := by
  refine ⟨Try.call102, fun x w1 hx hb => ?_⟩
  show Calls Try.prog 102 #[.int .i64 x] w1 _
  clear hb hx
  go_enter Try.func102, Try.ntmps102
  go_wp2_with (go_at_call 87; refine (in_any _ _ _ _).mono ?_; rintro e w' ⟨rfl, rfl⟩)
  go_ret
  exact ⟨rfl, Below.refl _ _⟩

set_option maxHeartbeats 400000 in
theorem impl_maskOf {A n c x w} (h : RI w A n x) (hx : x.all bitB = true) (hn : n ≤ 60) :
    Calls Try.prog 103 #[.slice A n c] w fun e w' => e = .returned (.int .i64 (maskL x)) ∧ w = w' := by
  have hl := h.len
  have H := Lib.hid h
  have HX := Lib.hid (fun j (hj : j < x.length) => inB_true (List.all_eq_true.1 hx (x.getD j 0) (by simp [List.getD, hj])))
  clear h hx
  go_enter Try.func103, Try.ntmps103
  go_wp2
  go_loop [3, 8] (fun v iv => ∃ (j : Nat) (acc : Int), j ≤ n ∧ iv = .int .i64 (j : Int) ∧ v = .int .i64 acc ∧ mskF acc j (x.drop j) = maskL x) (fun _ iv => n - (intOf iv).toNat)
  case atStart => exact ⟨0, 0, by omega, rfl, rfl, rfl⟩
  case round =>
    obtain ⟨j, acc, hj, rfl, rfl, ht⟩ := hrel
    by_cases hlt : j < n
    · obtain ⟨b, off, rfl, _, hc⟩ := H.out.at_ hlt
      have hxb := HX.out j (by omega)
      rw [mskF_step acc x j (by omega)] at ht
      generalize x.getD j 0 = z at *
      obtain ⟨r, rfl⟩ := Int.eq_ofNat_of_zero_le hxb.1
      rw [Int.toNat_natCast] at ht
      have hmn : min j 64 = j := by omega
      have hsh : IntKind.i64.wrap ((r : Int) * (2 : Int) ^ j) = shW r j := rfl
      generalize shW r j = s at *
      have HT := Lib.hid ht
      clear ht hl
      go_wp2
      go_round
      case rel => exact ⟨j + 1, _, by omega, by go_num, rfl, HT.out⟩
      case measure => simp [intOf]; omega
    · obtain rfl : j = n := by omega
      rw [mskF_end acc x j (by omega)] at ht
      subst ht
      clear hl
      go_wp2
      go_ret
      exact ⟨rfl, rfl⟩

end Go.Proofs.Ytindhmgfadipnaa
