/- Words: the program's isWord and the reference's l03Word; admissible words; the excess; IsAdmissible and ExcessOf of both. -/
import Derived.Test.YtijdlejngdhpjaaDoorAll
import Derived.Test.YtijdlejngdhpjaaDoorSum
namespace Go.Proofs.YtijdlejngdhpjaaDoor
open Go.ChangeShapes Go.WideShapes Go.ChangeAt Go.RowKit
set_option linter.unusedVariables false

theorem quiet_left {P : Program} {f : FuncId} {args : Array Value} {w : World} {n : Nat} {v : Value} (h : Calls P f args (w.drewN n) fun e w' => e = .returned v ∧ w.drewN n = w') : Calls P f args (w.drewN n) fun e w'' => e = .returned v ∧ ∃ m, w'' = w.drewN m :=
  h.mono fun _ _ ⟨he, hm⟩ => ⟨he, n, hm.symm⟩

theorem sumW_rangeB (B : Int) (hB : 0 ≤ B) (xs : List Int) : ∀ (s : Int), 0 ≤ s → s + B * xs.length ≤ 1000000 → (∀ x ∈ xs, 0 ≤ x ∧ x ≤ B) → s ≤ sumW s xs ∧ sumW s xs ≤ s + B * xs.length := by
  induction xs with
  | nil => intro s _ _ _; simp [sumW]
  | cons x xs ih =>
    intro s h0 h1 hx
    have hx0 := hx x (List.mem_cons_self ..)
    simp only [List.length_cons] at h1 ⊢
    have e : B * ((xs.length + 1 : Nat) : Int) = B * (xs.length : Int) + B := by rw [Int.natCast_add, Int.mul_add]; simp
    have hm : 0 ≤ B * (xs.length : Int) := Int.mul_nonneg hB (by omega)
    rw [e] at h1 ⊢
    rw [sumW, wrap64_id (by omega) (by omega)]
    have := ih (s + x) (by omega) (by omega) (fun y hy => hx y (List.mem_cons_of_mem _ hy))
    omega

def letB (x : Int) : Bool := inB x 1 40

def wordB (xs : List Int) : Bool := decide (xs.length ≤ 20) && (xs.all letB && decide (sumW 0 xs ≤ 40))

def Lets (xs : List Int) : Prop := ∀ x ∈ xs, 1 ≤ x ∧ x ≤ 40

theorem lets_of {xs : List Int} (h : xs.all letB = true) : Lets xs := fun x hx => inB_true (List.all_eq_true.1 h x hx)

theorem wordB_true {xs : List Int} (h : wordB xs = true) : xs.length ≤ 20 ∧ Lets xs ∧ sumW 0 xs ≤ 40 := by
  simp only [wordB, Bool.and_eq_true, decide_eq_true_eq] at h
  exact ⟨h.1, lets_of h.2.1, h.2.2⟩

theorem let_pred (w : World) : PredI 57 #[] w letB := by
  refine ⟨Tryd.call57, fun x w1 hx hb => ?_⟩
  show Calls Tryd.prog 57 #[.int .i64 x] w1 _
  have hl : letB x = inB x 1 40 := rfl
  rw [hl]
  clear hb hx hl
  go_enter Tryd.func57, Tryd.ntmps57
  go_wp2_with (go_at_call 58; refine (in_any _ _ _ _).mono ?_; rintro e w' ⟨rfl, rfl⟩)
  go_ret
  exact ⟨rfl, Below.refl _ _⟩

theorem impl_isWord (A : Option Addr) (n c : Nat) (xs : List Int) (w : World) (h : RI w A n xs) :
    Calls Tryd.prog 37 #[.slice A n c] w fun e w' => e = .returned (.bool (wordB xs)) ∧ Below w.heap.size w w' := by
  have hl := h.len
  by_cases h20 : n ≤ 20
  · have CON := Lib.hid (all_any _ _ _ A n c xs w (let_pred w) h)
    have C2 := Lib.hid (fun w1 (hb : Below w.heap.size w w1) => impl_sum A n c xs w1 (h.below hb))
    clear h
    have h11 : (n : Int) ≤ 20 := by omega
    cases hall : xs.all letB with
    | false =>
      have hf : wordB xs = false := by unfold wordB; rw [hall]; simp
      have HF := Lib.hid hf
      have HA := Lib.hid hall
      clear hf hall hl
      go_enter Tryd.func37, Tryd.ntmps37
      go_wp2_with fail
      refine CON.out.mono ?_
      rintro e w1 ⟨rfl, hb⟩
      rw [HA.out]
      have HB := Lib.hid hb
      clear hb
      go_wp2
      go_ret
      exact ⟨by rw [HF.out]; rfl, HB.out⟩
    | true =>
      have HA := Lib.hid hall
      have hf : wordB xs = decide (sumW 0 xs ≤ 40) := by unfold wordB; rw [hall, hl, decide_eq_true h20]; simp
      have HF := Lib.hid hf
      clear hf hall hl
      generalize sumW 0 xs = s at *
      go_enter Tryd.func37, Tryd.ntmps37
      go_wp2_with fail
      refine CON.out.mono ?_
      rintro e w1 ⟨rfl, hb⟩
      rw [HA.out]
      have HB := Lib.hid hb
      clear hb
      go_wp2_with fail
      refine (C2.out _ HB.out).mono ?_
      rintro e w2 ⟨rfl, rfl⟩
      by_cases hs : s ≤ 40
      · go_wp2
        go_ret
        exact ⟨by rw [HF.out, show decide (s ≤ 40) = true from decide_eq_true (by omega)]; rfl, HB.out⟩
      · have hs' : 40 < s := by omega
        go_wp2
        go_ret
        exact ⟨by rw [HF.out, show decide (s ≤ 40) = false from decide_eq_false (by omega)]; rfl, HB.out⟩
  · have hf : wordB xs = false := by
      have : decide (xs.length ≤ 20) = false := decide_eq_false (by omega)
      unfold wordB; rw [this, Bool.false_and]
    rw [hf]
    clear hf h hl
    have h17 : (20 : Int) < n := by omega
    go_enter Tryd.func37, Tryd.ntmps37
    go_wp2
    go_ret
    exact ⟨rfl, Below.refl _ _⟩

set_option maxHeartbeats 400000 in
theorem spec_l03Word (A : Option Addr) (n c : Nat) (xs : List Int) (w : World) (h : RI w A n xs) :
    Calls Tryd.prog 30 #[.slice A n c] w fun e w' => e = .returned (.bool (wordB xs)) ∧ w = w' := by
  have hl := h.len
  by_cases h20 : n ≤ 20
  · have H := Lib.hid h
    have C2 := Lib.hid (spec_sum A n c xs w h)
    clear h
    have h11 : (n : Int) ≤ 20 := by omega
    go_enter Tryd.func30, Tryd.ntmps30
    go_wp2
    go_loop [3] (fun i => ∃ k : Nat, k ≤ n ∧ i = .int .i64 k ∧ (xs.take k).all letB = true) (fun i => n - (intOf i).toNat)
    case atStart => exact ⟨0, Nat.zero_le _, rfl, by simp⟩
    case round =>
      obtain ⟨k, hk, rfl, hall⟩ := hrel
      have HA := Lib.hid hall
      clear hall
      by_cases hlt : k < n
      · obtain ⟨b, off, rfl, _, hcell⟩ := H.out.at_ hlt
        have hk2 : k < xs.length := by omega
        have htk : xs.take (k + 1) = xs.take k ++ [xs.getD k 0] := by
          rw [List.take_succ_eq_append_getElem hk2]; simp [List.getD, hk2]
        have hmem : xs.getD k 0 ∈ xs := by simp [List.getD, hk2]
        generalize xs.getD k 0 = x at *
        have HT := Lib.hid htk
        have HM := Lib.hid hmem
        clear htk hmem hk2 hl
        cases hp : letB x with
        | true =>
          have hp' : inB x 1 40 = true := hp
          have HP := Lib.hid hp
          clear hp
          go_wp2_with (go_at_call 49; refine (l01In_any _ _ _ _).mono ?_; rintro e w' ⟨rfl, rfl⟩)
          go_round
          case rel => exact ⟨k + 1, by omega, by go_num, by rw [HT.out, List.all_append, HA.out]; simp [HP.out]⟩
          case measure => simp [intOf]; omega
        | false =>
          have hp' : inB x 1 40 = false := hp
          have hf : wordB xs = false := by
            have : xs.all letB = false := List.all_eq_false.2 ⟨x, HM.out, by simp [hp]⟩
            unfold wordB; rw [this]; simp
          have HF := Lib.hid hf
          clear hf hp
          go_wp2_with (go_at_call 49; refine (l01In_any _ _ _ _).mono ?_; rintro e w' ⟨rfl, rfl⟩)
          go_ret
          exact ⟨by rw [HF.out]; rfl, rfl⟩
      · obtain rfl : k = n := by omega
        have hall := HA.out
        rw [show xs.take k = xs by rw [← hl]; exact List.take_length] at hall
        have hf : wordB xs = decide (sumW 0 xs ≤ 40) := by unfold wordB; rw [hall, hl, decide_eq_true h20]; simp
        have HF := Lib.hid hf
        clear hf hall hl HA
        generalize sumW 0 xs = s at *
        go_wp2_with fail
        refine C2.out.mono ?_
        rintro e w2 ⟨rfl, rfl⟩
        by_cases hs : s ≤ 40
        · go_wp2
          go_ret
          exact ⟨by rw [HF.out, show decide (s ≤ 40) = true from decide_eq_true (by omega)]; rfl, rfl⟩
        · have hs' : 40 < s := by omega
          go_wp2
          go_ret
          exact ⟨by rw [HF.out, show decide (s ≤ 40) = false from decide_eq_false (by omega)]; rfl, rfl⟩
  · have hf : wordB xs = false := by
      have : decide (xs.length ≤ 20) = false := decide_eq_false (by omega)
      unfold wordB; rw [this, Bool.false_and]
    rw [hf]
    clear hf h hl
    have h17 : (20 : Int) < n := by omega
    go_enter Tryd.func30, Tryd.ntmps30
    go_wp2
    go_ret
    exact ⟨rfl, rfl⟩

def admL : List Int → Bool
  | x :: y :: r => if x < 2 * y then false else admL (y :: r)
  | _ => true

def excW (xs : List Int) : Int := if xs.length = 0 then 0 else 2 * xs.getD 0 0 - sumW 0 xs

def pIsAdmissible (xs : List Int) : Bool × Int := if wordB xs = true then (admL xs, 0) else (false, 1)

def pExcessOf (xs : List Int) : Int × Int := if wordB xs = true then (excW xs, 0) else (0, 1)

end Go.Proofs.YtijdlejngdhpjaaDoor
