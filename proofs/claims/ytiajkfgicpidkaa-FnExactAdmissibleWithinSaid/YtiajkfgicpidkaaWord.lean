/- Words: the program's isWord and the reference's l03Word; admissible words; the excess; IsAdmissible and ExcessOf of both. -/
import Derived.Test.YtiajkfgicpidkaaAll
import Derived.Test.YtiajkfgicpidkaaSum
namespace Go.Proofs.Ytiajkfgicpidkaa
open Go.ChangeShapes Go.WideShapes Go.ChangeAt Go.RowKit
set_option linter.unusedVariables false

theorem quiet_left {P : Program} {f : FuncId} {args : Array Value} {w : World} {n : Nat} {v : Value} (h : Calls P f args (w.drewN n) fun e w' => e = .returned v ∧ w.drewN n = w') : Calls P f args (w.drewN n) fun e w'' => e = .returned v ∧ ∃ m, w'' = w.drewN m :=
  h.mono fun _ _ ⟨he, hm⟩ => ⟨he, n, hm.symm⟩

theorem sumW_rangeB (B : Int) (hB : 0 ≤ B) (xs : List Int) : ∀ (s : Int), 0 ≤ s → s + B * xs.length ≤ 1000000 → (∀ x ∈ xs, 0 ≤ x ∧ x ≤ B) → s ≤ sumW s xs ∧ sumW s xs ≤ s + B * xs.length := by
  induction xs with
  | nil => intro s _ _ _; simp [sumW]
  | cons x xs ih =>
    intro s h0 h1 hx
    have hx0 := hx x (List.mem_cons_self ..)
    simp only [List.length_cons] at h1 ⊢
    have e : B * ((xs.length + 1 : Nat) : Int) = B * (xs.length : Int) + B := by rw [Int.natCast_add, Int.mul_add]; simp
    have hm : 0 ≤ B * (xs.length : Int) := Int.mul_nonneg hB (by omega)
    rw [e] at h1 ⊢
    rw [sumW, wrap64_id (by omega) (by omega)]
    have := ih (s + x) (by omega) (by omega) (fun y hy => hx y (List.mem_cons_of_mem _ hy))
    omega

def letB (x : Int) : Bool := inB x 1 40

def wordB (xs : List Int) : Bool := decide (xs.length ≤ 20) && (xs.all letB && decide (sumW 0 xs ≤ 40))

def Lets (xs : List Int) : Prop := ∀ x ∈ xs, 1 ≤ x ∧ x ≤ 40

theorem lets_of {xs : List Int} (h : xs.all letB = true) : Lets xs := fun x hx => inB_true (List.all_eq_true.1 h x hx)

theorem wordB_true {xs : List Int} (h : wordB xs = true) : xs.length ≤ 20 ∧ Lets xs ∧ sumW 0 xs ≤ 40 := by
  simp only [wordB, Bool.and_eq_true, decide_eq_true_eq] at h
  exact ⟨h.1, lets_of h.2.1, h.2.2⟩

theorem let_pred (w : World) : PredI 110 #[] w letB := by
  refine ⟨Try.call110, fun x w1 hx hb => ?_⟩
  show Calls Try.prog 110 #[.int .i64 x] w1 _
  have hl : letB x = inB x 1 40 := rfl
  rw [hl]
  clear hb hx hl
  go_enter Try.func110, Try.ntmps110
  go_wp2_with (go_at_call 91; refine (in_any _ _ _ _).mono ?_; rintro e w' ⟨rfl, rfl⟩)
  go_ret
  exact ⟨rfl, Below.refl _ _⟩

theorem impl_isWord (A : Option Addr) (n c : Nat) (xs : List Int) (w : World) (h : RI w A n xs) :
    Calls Try.prog 71 #[.slice A n c] w fun e w' => e = .returned (.bool (wordB xs)) ∧ Below w.heap.size w w' := by
  have hl := h.len
  by_cases h20 : n ≤ 20
  · have CON := Lib.hid (all_any _ _ _ A n c xs w (let_pred w) h)
    have C2 := Lib.hid (fun w1 (hb : Below w.heap.size w w1) => impl_sum A n c xs w1 (h.below hb))
    clear h
    have h11 : (n : Int) ≤ 20 := by omega
    cases hall : xs.all letB with
    | false =>
      have hf : wordB xs = false := by unfold wordB; rw [hall]; simp
      have HF := Lib.hid hf
      have HA := Lib.hid hall
      clear hf hall hl
      go_enter Try.func71, Try.ntmps71
      go_wp2_with fail
      refine CON.out.mono ?_
      rintro e w1 ⟨rfl, hb⟩
      rw [HA.out]
      have HB := Lib.hid hb
      clear hb
      go_wp2
      go_ret
      exact ⟨by rw [HF.out]; rfl, HB.out⟩
    | true =>
      have HA := Lib.hid hall
      have hf : wordB xs = decide (sumW 0 xs ≤ 40) := by unfold wordB; rw [hall, hl, decide_eq_true h20]; simp
      have HF := Lib.hid hf
      clear hf hall hl
      generalize sumW 0 xs = s at *
      go_enter Try.func71, Try.ntmps71
      go_wp2_with fail
      refine CON.out.mono ?_
      rintro e w1 ⟨rfl, hb⟩
      rw [HA.out]
      have HB := Lib.hid hb
      clear hb
      go_wp2_with fail
      refine (C2.out _ HB.out).mono ?_
      rintro e w2 ⟨rfl, rfl⟩
      by_cases hs : s ≤ 40
      · go_wp2
        go_ret
        exact ⟨by rw [HF.out, show decide (s ≤ 40) = true from decide_eq_true (by omega)]; rfl, HB.out⟩
      · have hs' : 40 < s := by omega
        go_wp2
        go_ret
        exact ⟨by rw [HF.out, show decide (s ≤ 40) = false from decide_eq_false (by omega)]; rfl, HB.out⟩
  · have hf : wordB xs = false := by
      have : decide (xs.length ≤ 20) = false := decide_eq_false (by omega)
      unfold wordB; rw [this, Bool.false_and]
    rw [hf]
    clear hf h hl
    have h17 : (20 : Int) < n := by omega
    go_enter Try.func71, Try.ntmps71
    go_wp2
    go_ret
    exact ⟨rfl, Below.refl _ _⟩

set_option maxHeartbeats 400000 in
theorem spec_l03Word (A : Option Addr) (n c : Nat) (xs : List Int) (w : World) (h : RI w A n xs) :
    Calls Try.prog 69 #[.slice A n c] w fun e w' => e = .returned (.bool (wordB xs)) ∧ w = w' := by
  have hl := h.len
  by_cases h20 : n ≤ 20
  · have H := Lib.hid h
    have C2 := Lib.hid (spec_sum A n c xs w h)
    clear h
    have h11 : (n : Int) ≤ 20 := by omega
    go_enter Try.func69, Try.ntmps69
    go_wp2
    go_loop [3] (fun i => ∃ k : Nat, k ≤ n ∧ i = .int .i64 k ∧ (xs.take k).all letB = true) (fun i => n - (intOf i).toNat)
    case atStart => exact ⟨0, Nat.zero_le _, rfl, by simp⟩
    case round =>
      obtain ⟨k, hk, rfl, hall⟩ := hrel
      have HA := Lib.hid hall
      clear hall
      by_cases hlt : k < n
      · obtain ⟨b, off, rfl, _, hcell⟩ := H.out.at_ hlt
        have hk2 : k < xs.length := by omega
        have htk : xs.take (k + 1) = xs.take k ++ [xs.getD k 0] := by
          rw [List.take_succ_eq_append_getElem hk2]; simp [List.getD, hk2]
        have hmem : xs.getD k 0 ∈ xs := by simp [List.getD, hk2]
        generalize xs.getD k 0 = x at *
        have HT := Lib.hid htk
        have HM := Lib.hid hmem
        clear htk hmem hk2 hl
        cases hp : letB x with
        | true =>
          have hp' : inB x 1 40 = true := hp
          have HP := Lib.hid hp
          clear hp
          go_wp2_with (go_at_call 73; refine (l01In_any _ _ _ _).mono ?_; rintro e w' ⟨rfl, rfl⟩)
          go_round
          case rel => exact ⟨k + 1, by omega, by go_num, by rw [HT.out, List.all_append, HA.out]; simp [HP.out]⟩
          case measure => simp [intOf]; omega
        | false =>
          have hp' : inB x 1 40 = false := hp
          have hf : wordB xs = false := by
            have : xs.all letB = false := List.all_eq_false.2 ⟨x, HM.out, by simp [hp]⟩
            unfold wordB; rw [this]; simp
          have HF := Lib.hid hf
          clear hf hp
          go_wp2_with (go_at_call 73; refine (l01In_any _ _ _ _).mono ?_; rintro e w' ⟨rfl, rfl⟩)
          go_ret
          exact ⟨by rw [HF.out]; rfl, rfl⟩
      · obtain rfl : k = n := by omega
        have hall := HA.out
        rw [show xs.take k = xs by rw [← hl]; exact List.take_length] at hall
        have hf : wordB xs = decide (sumW 0 xs ≤ 40) := by unfold wordB; rw [hall, hl, decide_eq_true h20]; simp
        have HF := Lib.hid hf
        clear hf hall hl HA
        generalize sumW 0 xs = s at *
        go_wp2_with fail
        refine C2.out.mono ?_
        rintro e w2 ⟨rfl, rfl⟩
        by_cases hs : s ≤ 40
        · go_wp2
          go_ret
          exact ⟨by rw [HF.out, show decide (s ≤ 40) = true from decide_eq_true (by omega)]; rfl, rfl⟩
        · have hs' : 40 < s := by omega
          go_wp2
          go_ret
          exact ⟨by rw [HF.out, show decide (s ≤ 40) = false from decide_eq_false (by omega)]; rfl, rfl⟩
  · have hf : wordB xs = false := by
      have : decide (xs.length ≤ 20) = false := decide_eq_false (by omega)
      unfold wordB; rw [this, Bool.false_and]
    rw [hf]
    clear hf h hl
    have h17 : (20 : Int) < n := by omega
    go_enter Try.func69, Try.ntmps69
    go_wp2
    go_ret
    exact ⟨rfl, rfl⟩

def admL : List Int → Bool
  | x :: y :: r => if x < 2 * y then false else admL (y :: r)
  | _ => true

set_option maxHeartbeats 400000 in
theorem impl_adm (A : Option Addr) (n c : Nat) (xs : List Int) (w : World) (h : RI w A n xs) (hx : Lets xs) (hn : n ≤ 20) :
    Calls Try.prog 78 #[.slice A n c] w fun e w' => e = .returned (.bool (admL xs)) ∧ Below w.heap.size w w' := by
  have hl := h.len
  have H := Lib.hid h
  have HX := Lib.hid hx
  clear h hx
  go_enter Try.func78, Try.ntmps78
  go_wp2
  go_loopw [3] (fun i wr => ∃ k : Nat, k ≤ n ∧ i = .int .i64 (k + 1 : Int) ∧ admL (xs.drop k) = admL xs ∧ ∃ q, wr = w.drewN q) (fun i _ => n + 1 - (intOf i).toNat)
  case atStart => exact ⟨0, Nat.zero_le _, rfl, by simp, 0, rfl⟩
  case round =>
    obtain ⟨k, hk, rfl, ht, q, rfl⟩ := hrel
    by_cases hlt : k + 1 < n
    · obtain ⟨b, off, rfl, _, hc1⟩ := H.out.at_ (i := k) (by omega)
      obtain ⟨b2, off2, hA2, _, hc2⟩ := H.out.at_ (i := k + 1) (by omega)
      obtain ⟨rfl, rfl⟩ : b = b2 ∧ off = off2 := by simpa using hA2
      have hd1 := dropc xs k (by omega)
      have hd2 := dropc xs (k + 1) (by omega)
      have m1 : xs.getD k 0 ∈ xs := by have h2 : k < xs.length := by omega
                                       simp [List.getD, h2]
      have m2 : xs.getD (k + 1) 0 ∈ xs := by have h2 : k + 1 < xs.length := by omega
                                             simp [List.getD, h2]
      have x1 := HX.out _ m1
      have x2 := HX.out _ m2
      rw [hd1, hd2] at ht
      clear m1 m2 hA2 hl
      have hd3 : xs.getD (k + 1) 0 :: xs.drop (k + 1 + 1) = xs.drop (k + 1) := hd2.symm
      generalize xs.getD k 0 = x at *
      generalize xs.getD (k + 1) 0 = y at *
      rw [admL, hd3] at ht
      have e1 : ((k : Int) + 1) - 1 = (k : Int) := by omega
      have e2 : (k : Int) + 1 < (n : Int) := by omega
      have e3 : (k : Int) < (n : Int) := by omega
      obtain ⟨x11, x12⟩ := x1
      obtain ⟨x21, x22⟩ := x2
      clear hd1 hd2 hd3
      by_cases hxy : x < 2 * y
      · rw [if_pos hxy] at ht
        have HT := Lib.hid ht
        clear ht
        go_wp2_with fail
        go_quiet (fail)
        go_wp2
        go_ret
        exact ⟨by rw [← HT.out]; rfl, below_drewN (below_drewN (Below.refl _ _) _) _⟩
      · rw [if_neg hxy] at ht
        have HT := Lib.hid ht
        have hxy' : 2 * y ≤ x := by omega
        clear ht hxy
        go_wp2_with fail
        go_quiet (fail)
        go_wp2
        go_roundw
        case rel => exact ⟨k + 1, by omega, by go_num, HT.out, _, rfl⟩
        case measure => simp [intOf]; omega
    · have hf : admL xs = true := by
        rw [← ht]
        rcases hq : xs.drop k with _ | ⟨x, _ | ⟨y, r⟩⟩
        · rfl
        · rfl
        · have := congrArg List.length hq
          simp at this; omega
      have HF := Lib.hid hf
      clear hf ht hl
      have e2 : (n : Int) ≤ (k : Int) + 1 := by omega
      go_wp2
      go_ret
      exact ⟨by rw [HF.out]; rfl, below_drewN (Below.refl _ _) _⟩

set_option maxHeartbeats 400000 in
theorem spec_adm (A : Option Addr) (n c : Nat) (xs : List Int) (w : World) (h : RI w A n xs) (hx : Lets xs) (hn : n ≤ 20) :
    Calls Try.prog 77 #[.slice A n c] w fun e w' => e = .returned (.bool (admL xs)) ∧ Below w.heap.size w w' := by
  have hl := h.len
  have H := Lib.hid h
  have HX := Lib.hid hx
  clear h hx
  go_enter Try.func77, Try.ntmps77
  go_wp2
  go_loopw [3] (fun i wr => ∃ k : Nat, k ≤ n ∧ i = .int .i64 (k + 1 : Int) ∧ admL (xs.drop k) = admL xs ∧ ∃ q, wr = w.drewN q) (fun i _ => n + 1 - (intOf i).toNat)
  case atStart => exact ⟨0, Nat.zero_le _, rfl, by simp, 0, rfl⟩
  case round =>
    obtain ⟨k, hk, rfl, ht, q, rfl⟩ := hrel
    by_cases hlt : k + 1 < n
    · obtain ⟨b, off, rfl, _, hc1⟩ := H.out.at_ (i := k) (by omega)
      obtain ⟨b2, off2, hA2, _, hc2⟩ := H.out.at_ (i := k + 1) (by omega)
      obtain ⟨rfl, rfl⟩ : b = b2 ∧ off = off2 := by simpa using hA2
      have hd1 := dropc xs k (by omega)
      have hd2 := dropc xs (k + 1) (by omega)
      have m1 : xs.getD k 0 ∈ xs := by have h2 : k < xs.length := by omega
                                       simp [List.getD, h2]
      have m2 : xs.getD (k + 1) 0 ∈ xs := by have h2 : k + 1 < xs.length := by omega
                                             simp [List.getD, h2]
      have x1 := HX.out _ m1
      have x2 := HX.out _ m2
      rw [hd1, hd2] at ht
      clear m1 m2 hA2 hl
      have hd3 : xs.getD (k + 1) 0 :: xs.drop (k + 1 + 1) = xs.drop (k + 1) := hd2.symm
      generalize xs.getD k 0 = x at *
      generalize xs.getD (k + 1) 0 = y at *
      rw [admL, hd3] at ht
      have e1 : ((k : Int) + 1) - 1 = (k : Int) := by omega
      have e2 : (k : Int) + 1 < (n : Int) := by omega
      have e3 : (k : Int) < (n : Int) := by omega
      obtain ⟨x11, x12⟩ := x1
      obtain ⟨x21, x22⟩ := x2
      clear hd1 hd2 hd3
      by_cases hxy : x < 2 * y
      · rw [if_pos hxy] at ht
        have HT := Lib.hid ht
        clear ht
        go_wp2_with fail
        go_quiet (fail)
        go_wp2
        go_ret
        exact ⟨by rw [← HT.out]; rfl, below_drewN (below_drewN (Below.refl _ _) _) _⟩
      · rw [if_neg hxy] at ht
        have HT := Lib.hid ht
        have hxy' : 2 * y ≤ x := by omega
        clear ht hxy
        go_wp2_with fail
        go_quiet (fail)
        go_wp2
        go_roundw
        case rel => exact ⟨k + 1, by omega, by go_num, HT.out, _, rfl⟩
        case measure => simp [intOf]; omega
    · have hf : admL xs = true := by
        rw [← ht]
        rcases hq : xs.drop k with _ | ⟨x, _ | ⟨y, r⟩⟩
        · rfl
        · rfl
        · have := congrArg List.length hq
          simp at this; omega
      have HF := Lib.hid hf
      clear hf ht hl
      have e2 : (n : Int) ≤ (k : Int) + 1 := by omega
      go_wp2
      go_ret
      exact ⟨by rw [HF.out]; rfl, below_drewN (Below.refl _ _) _⟩

def excW (xs : List Int) : Int := if xs.length = 0 then 0 else 2 * xs.getD 0 0 - sumW 0 xs

theorem impl_exc (A : Option Addr) (n c : Nat) (xs : List Int) (w : World) (h : RI w A n xs) (hx : Lets xs) (hn : n ≤ 1000) :
    Calls Try.prog 72 #[.slice A n c] w fun e w' => e = .returned (.int .i64 (excW xs)) ∧ Below w.heap.size w w' := by
  have hl := h.len
  cases n with
  | zero =>
    have hf : excW xs = 0 := by unfold excW; rw [if_pos hl]
    rw [hf]
    clear hf hx h hl
    go_enter Try.func72, Try.ntmps72
    go_wp2
    go_ret
    exact ⟨rfl, Below.refl _ _⟩
  | succ k =>
    have hf : excW xs = 2 * xs.getD 0 0 - sumW 0 xs := by unfold excW; rw [if_neg (by omega)]
    obtain ⟨b, off, rfl, _, hc⟩ := h.at_ (i := 0) (by omega)
    rw [Nat.add_zero] at hc
    have m1 : xs.getD 0 0 ∈ xs := by have h2 : 0 < xs.length := by omega
                                     simp [List.getD, h2]
    have x1 := hx _ m1
    have hr := sumW_rangeB 40 (by omega) xs 0 (by omega) (by omega) (fun x hm => by have := hx x hm; omega)
    have CON := Lib.hid (fun w1 (hb : Below w.heap.size w w1) => impl_sum (some ⟨b, off, none⟩) (k + 1) c xs w1 (h.below hb))
    rw [hf]
    clear m1 hf h hx
    obtain ⟨r1, r2⟩ := hr
    obtain ⟨x11, x12⟩ := x1
    rw [hl] at r2
    have r3 : sumW 0 xs ≤ 0 + 40 * ((k + 1 : Nat) : Int) := r2
    have r4 : sumW 0 xs ≤ 1000000 := by omega
    clear r2 r3 hl hn
    generalize sumW 0 xs = s at *
    generalize xs.getD 0 0 = x at *
    have hz : (((k + 1 : Nat) : Int) == 0) = false := by rw [beq_eq_false_iff_ne]; omega
    have hp : (0 : Int) < ((k + 1 : Nat) : Int) := by omega
    go_enter Try.func72, Try.ntmps72
    go_wp2
    go_quiet ((go_at_call 111; exact quiet_left (CON.out _ (below_drewN (Below.refl _ _) _))))
    go_wp2
    go_ret
    exact ⟨rfl, below_drewN (Below.refl _ _) _⟩

theorem spec_exc (A : Option Addr) (n c : Nat) (xs : List Int) (w : World) (h : RI w A n xs) (hx : Lets xs) (hn : n ≤ 1000) :
    Calls Try.prog 70 #[.slice A n c] w fun e w' => e = .returned (.int .i64 (excW xs)) ∧ Below w.heap.size w w' := by
  have hl := h.len
  cases n with
  | zero =>
    have hf : excW xs = 0 := by unfold excW; rw [if_pos hl]
    rw [hf]
    clear hf hx h hl
    go_enter Try.func70, Try.ntmps70
    go_wp2
    go_ret
    exact ⟨rfl, Below.refl _ _⟩
  | succ k =>
    have hf : excW xs = 2 * xs.getD 0 0 - sumW 0 xs := by unfold excW; rw [if_neg (by omega)]
    obtain ⟨b, off, rfl, _, hc⟩ := h.at_ (i := 0) (by omega)
    rw [Nat.add_zero] at hc
    have m1 : xs.getD 0 0 ∈ xs := by have h2 : 0 < xs.length := by omega
                                     simp [List.getD, h2]
    have x1 := hx _ m1
    have hr := sumW_rangeB 40 (by omega) xs 0 (by omega) (by omega) (fun x hm => by have := hx x hm; omega)
    have CON := Lib.hid (fun w1 (hb : Below w.heap.size w w1) => spec_sum (some ⟨b, off, none⟩) (k + 1) c xs w1 (h.below hb))
    rw [hf]
    clear m1 hf h hx
    obtain ⟨r1, r2⟩ := hr
    obtain ⟨x11, x12⟩ := x1
    rw [hl] at r2
    have r3 : sumW 0 xs ≤ 0 + 40 * ((k + 1 : Nat) : Int) := r2
    have r4 : sumW 0 xs ≤ 1000000 := by omega
    clear r2 r3 hl hn
    generalize sumW 0 xs = s at *
    generalize xs.getD 0 0 = x at *
    have hz : (((k + 1 : Nat) : Int) == 0) = false := by rw [beq_eq_false_iff_ne]; omega
    have hp : (0 : Int) < ((k + 1 : Nat) : Int) := by omega
    go_enter Try.func70, Try.ntmps70
    go_wp2
    go_quiet ((go_at_call 109; exact quiet_left (CON.out _ (below_drewN (Below.refl _ _) _))))
    go_wp2
    go_ret
    exact ⟨rfl, below_drewN (Below.refl _ _) _⟩

def pIsAdmissible (xs : List Int) : Bool × Int := if wordB xs = true then (admL xs, 0) else (false, 1)

def pExcessOf (xs : List Int) : Int × Int := if wordB xs = true then (excW xs, 0) else (0, 1)

theorem impl_IsAdmissible (A : Option Addr) (n c : Nat) (xs : List Int) (w : World) (h : RI w A n xs) (hn : n ≤ 1048576) :
    Calls Try.prog 31 #[.slice A n c] w fun e w' => e = .returned (.tuple #[.bool (pIsAdmissible xs).1, .int .i64 (pIsAdmissible xs).2]) ∧ Below w.heap.size w w' := by
  have C1 := Lib.hid (impl_isWord A n c xs w h)
  have hl := h.len
  have H := Lib.hid h
  clear h
  cases hp : wordB xs with
  | true =>
    have hpt := wordB_true hp
    have C2 := Lib.hid (fun w1 (hb : Below w.heap.size w w1) => impl_adm A n c xs w1 (H.out.below hb) hpt.2.1 (by omega))
    have hf : pIsAdmissible xs = (admL xs, 0) := by unfold pIsAdmissible; rw [if_pos hp]
    have HF := Lib.hid hf
    have HP := Lib.hid hp
    clear hpt hl hf hp
    go_enter Try.func31, Try.ntmps31
    go_wp2_with fail
    refine C1.out.mono ?_
    rintro e w1 ⟨rfl, hb⟩
    rw [HP.out]
    have HB := Lib.hid hb
    clear hb
    go_wp2_with fail
    refine (C2.out _ HB.out).mono ?_
    rintro e w2 ⟨rfl, hb2⟩
    have HB2 := Lib.hid (HB.out.trans (hb2.mono HB.out.size))
    clear hb2
    go_wp2
    go_ret2
    exact ⟨by rw [HF.out]; rfl, HB2.out⟩
  | false =>
    have hf : pIsAdmissible xs = (false, 1) := by unfold pIsAdmissible; rw [if_neg (by rw [hp]; simp)]
    have HF := Lib.hid hf
    have HP := Lib.hid hp
    clear hf hp hl
    go_enter Try.func31, Try.ntmps31
    go_wp2_with fail
    refine C1.out.mono ?_
    rintro e w1 ⟨rfl, hb⟩
    rw [HP.out]
    have HB := Lib.hid hb
    clear hb
    go_wp2
    go_ret2
    exact ⟨by rw [HF.out]; rfl, HB.out⟩

theorem spec_IsAdmissible (A : Option Addr) (n c : Nat) (xs : List Int) (w : World) (h : RI w A n xs) (hn : n ≤ 1048576) :
    Calls Try.prog 30 #[.slice A n c] w fun e w' => e = .returned (.tuple #[.bool (pIsAdmissible xs).1, .int .i64 (pIsAdmissible xs).2]) ∧ Below w.heap.size w w' := by
  have C1 := Lib.hid (spec_l03Word A n c xs w h)
  have hl := h.len
  have H := Lib.hid h
  clear h
  cases hp : wordB xs with
  | true =>
    have hpt := wordB_true hp
    have C2 := Lib.hid (fun w1 (hb : Below w.heap.size w w1) => spec_adm A n c xs w1 (H.out.below hb) hpt.2.1 (by omega))
    have hf : pIsAdmissible xs = (admL xs, 0) := by unfold pIsAdmissible; rw [if_pos hp]
    have HF := Lib.hid hf
    have HP := Lib.hid hp
    clear hpt hl hf hp
    go_enter Try.func30, Try.ntmps30
    go_wp2_with fail
    refine C1.out.mono ?_
    rintro e w1 ⟨rfl, rfl⟩
    rw [HP.out]
    have HB := Lib.hid (Below.refl w.heap.size w)
    go_wp2_with fail
    refine (C2.out _ HB.out).mono ?_
    rintro e w2 ⟨rfl, hb2⟩
    have HB2 := Lib.hid (HB.out.trans (hb2.mono HB.out.size))
    clear hb2
    go_wp2
    go_ret2
    exact ⟨by rw [HF.out]; rfl, HB2.out⟩
  | false =>
    have hf : pIsAdmissible xs = (false, 1) := by unfold pIsAdmissible; rw [if_neg (by rw [hp]; simp)]
    have HF := Lib.hid hf
    have HP := Lib.hid hp
    clear hf hp hl
    go_enter Try.func30, Try.ntmps30
    go_wp2_with fail
    refine C1.out.mono ?_
    rintro e w1 ⟨rfl, rfl⟩
    rw [HP.out]
    have HB := Lib.hid (Below.refl w.heap.size w)
    go_wp2
    go_ret2
    exact ⟨by rw [HF.out]; rfl, HB.out⟩

theorem impl_ExcessOf (A : Option Addr) (n c : Nat) (xs : List Int) (w : World) (h : RI w A n xs) (hn : n ≤ 1048576) :
    Calls Try.prog 24 #[.slice A n c] w fun e w' => e = .returned (.tuple #[.int .i64 (pExcessOf xs).1, .int .i64 (pExcessOf xs).2]) ∧ Below w.heap.size w w' := by
  have C1 := Lib.hid (impl_isWord A n c xs w h)
  have hl := h.len
  have H := Lib.hid h
  clear h
  cases hp : wordB xs with
  | true =>
    have hpt := wordB_true hp
    have C2 := Lib.hid (fun w1 (hb : Below w.heap.size w w1) => impl_exc A n c xs w1 (H.out.below hb) hpt.2.1 (by omega))
    have hf : pExcessOf xs = (excW xs, 0) := by unfold pExcessOf; rw [if_pos hp]
    have HF := Lib.hid hf
    have HP := Lib.hid hp
    clear hpt hl hf hp
    go_enter Try.func24, Try.ntmps24
    go_wp2_with fail
    refine C1.out.mono ?_
    rintro e w1 ⟨rfl, hb⟩
    rw [HP.out]
    have HB := Lib.hid hb
    clear hb
    go_wp2_with fail
    refine (C2.out _ HB.out).mono ?_
    rintro e w2 ⟨rfl, hb2⟩
    have HB2 := Lib.hid (HB.out.trans (hb2.mono HB.out.size))
    clear hb2
    go_wp2
    go_ret2
    exact ⟨by rw [HF.out]; rfl, HB2.out⟩
  | false =>
    have hf : pExcessOf xs = (0, 1) := by unfold pExcessOf; rw [if_neg (by rw [hp]; simp)]
    have HF := Lib.hid hf
    have HP := Lib.hid hp
    clear hf hp hl
    go_enter Try.func24, Try.ntmps24
    go_wp2_with fail
    refine C1.out.mono ?_
    rintro e w1 ⟨rfl, hb⟩
    rw [HP.out]
    have HB := Lib.hid hb
    clear hb
    go_wp2
    go_ret2
    exact ⟨by rw [HF.out]; rfl, HB.out⟩

theorem spec_ExcessOf (A : Option Addr) (n c : Nat) (xs : List Int) (w : World) (h : RI w A n xs) (hn : n ≤ 1048576) :
    Calls Try.prog 23 #[.slice A n c] w fun e w' => e = .returned (.tuple #[.int .i64 (pExcessOf xs).1, .int .i64 (pExcessOf xs).2]) ∧ Below w.heap.size w w' := by
  have C1 := Lib.hid (spec_l03Word A n c xs w h)
  have hl := h.len
  have H := Lib.hid h
  clear h
  cases hp : wordB xs with
  | true =>
    have hpt := wordB_true hp
    have C2 := Lib.hid (fun w1 (hb : Below w.heap.size w w1) => spec_exc A n c xs w1 (H.out.below hb) hpt.2.1 (by omega))
    have hf : pExcessOf xs = (excW xs, 0) := by unfold pExcessOf; rw [if_pos hp]
    have HF := Lib.hid hf
    have HP := Lib.hid hp
    clear hpt hl hf hp
    go_enter Try.func23, Try.ntmps23
    go_wp2_with fail
    refine C1.out.mono ?_
    rintro e w1 ⟨rfl, rfl⟩
    rw [HP.out]
    have HB := Lib.hid (Below.refl w.heap.size w)
    go_wp2_with fail
    refine (C2.out _ HB.out).mono ?_
    rintro e w2 ⟨rfl, hb2⟩
    have HB2 := Lib.hid (HB.out.trans (hb2.mono HB.out.size))
    clear hb2
    go_wp2
    go_ret2
    exact ⟨by rw [HF.out]; rfl, HB2.out⟩
  | false =>
    have hf : pExcessOf xs = (0, 1) := by unfold pExcessOf; rw [if_neg (by rw [hp]; simp)]
    have HF := Lib.hid hf
    have HP := Lib.hid hp
    clear hf hp hl
    go_enter Try.func23, Try.ntmps23
    go_wp2_with fail
    refine C1.out.mono ?_
    rintro e w1 ⟨rfl, rfl⟩
    rw [HP.out]
    have HB := Lib.hid (Below.refl w.heap.size w)
    go_wp2
    go_ret2
    exact ⟨by rw [HF.out]; rfl, HB.out⟩

end Go.Proofs.Ytiajkfgicpidkaa
