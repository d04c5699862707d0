/- Masks and IsMatrix of the program and of the reference. -/
import Derived.Test.YtindhmgfadipnaaAll
import Derived.Test.YtindhmgfadipnaaKit2
namespace Go.Proofs.Ytindhmgfadipnaa
open Go.ChangeShapes Go.WideShapes Go.ChangeAt Go.RowKit
set_option linter.unusedVariables false

/-- whether a number is a mask of d digits -/
def maskB (x : Int) (d : Nat) : Bool := inB x 0 ((2 ^ d : Nat) - 1 : Int)

theorem pow_le60 (d : Nat) (h : d ≤ 60) : 2 ^ d ≤ 1152921504606846976 := by
  have := Nat.pow_le_pow_right (n := 2) (by omega) h
  have e : (2 : Nat) ^ 60 = 1152921504606846976 := by decide
  omega

theorem cast_div (n k : Nat) : (n : Int) / 2 ^ k = ((n / 2 ^ k : Nat) : Int) := by simp

theorem mask_div (m d : Nat) : maskB (m : Int) d = decide (m / 2 ^ d = 0) := by
  have hp : 0 < 2 ^ d := Nat.pow_pos (by omega)
  have h1 : m / 2 ^ d = 0 ↔ m < 2 ^ d := by rw [Nat.div_eq_zero_iff]; omega
  unfold maskB inB
  rw [decide_eq_decide, h1]
  generalize 2 ^ d = p at *
  omega

theorem isMask_any (x : Int) (d : Nat) (w : World) (hx : I64 x) (hd : d ≤ 62) :
    Calls Try.prog 143 #[.int .i64 x, .int .i64 (d : Int)] w fun e w' => e = .returned (.bool (maskB x d)) ∧ w = w' := by
  have hxb := hx.bd
  clear hx
  by_cases h0 : 0 ≤ x
  · obtain ⟨m, rfl⟩ := Int.eq_ofNat_of_zero_le h0
    rw [mask_div]
    have hcd := cast_div m d
    have hle : m / 2 ^ d ≤ m := Nat.div_le_self _ _
    generalize m / 2 ^ d = q at *
    by_cases hq : q = 0
    · subst hq
      rw [decide_eq_true rfl]
      go_enter Try.func143, Try.ntmps143
      go_wp2
      go_ret
      exact ⟨rfl, rfl⟩
    · rw [decide_eq_false hq]
      have hq2 : ((q : Int) == 0) = false := by rw [beq_eq_false_iff_ne]; omega
      go_enter Try.func143, Try.ntmps143
      go_wp2
      go_ret
      exact ⟨rfl, rfl⟩
  · have e : maskB x d = false := decide_eq_false (by omega)
    rw [e]
    clear e
    go_enter Try.func143, Try.ntmps143
    go_wp2
    go_ret
    exact ⟨rfl, rfl⟩

def matB (d : Nat) (xs : List Int) : Bool := xs.all (fun x => maskB x d)

def pIsMatrix (k : Int) (xs : List Int) : Bool := inB k 0 60 && (decide (xs.length ≤ 200) && matB k.toNat xs)

theorem pIsMatrix_true {k xs} (h : pIsMatrix k xs = true) : 0 ≤ k ∧ k ≤ 60 ∧ xs.length ≤ 200 ∧ ∀ x ∈ xs, maskB x k.toNat = true := by
  simp only [pIsMatrix, matB, Bool.and_eq_true, decide_eq_true_eq, List.all_eq_true] at h
  exact ⟨(inB_true h.1).1, (inB_true h.1).2, h.2.1, h.2.2⟩

theorem mat_pred (w : World) (b d : Nat) (hb : b < w.heap.size) (hc : w.cell? ⟨b, 0, none⟩ = some (.int .i64 (d : Int))) (hd : d ≤ 60) : PredI 142 #[.pointer (some ⟨b, 0, none⟩)] w (fun x => maskB x d) := by
  refine ⟨Try.call142, fun x w1 hx hbw => ?_⟩
  show Calls Try.prog 142 #[.int .i64 x, .pointer (some ⟨b, 0, none⟩)] w1 _
  have hc1 := (hbw.cell (p := ⟨b, 0, none⟩) hb).trans hc
  have CON := Lib.hid (isMask_any x d w1 hx (by omega))
  clear hbw hc hx
  go_enter Try.func142, Try.ntmps142
  go_wp2_with fail
  refine CON.out.mono ?_
  rintro e w' ⟨rfl, rfl⟩
  go_wp2
  go_ret
  exact ⟨rfl, Below.refl _ _⟩

theorem impl_IsMatrix {k A n c xs w} (hk : I64 k) (h : RI w A n xs) (hn : n ≤ 1048576) :
    Calls Try.prog 97 #[.agg #[.int .i64 k, .slice A n c]] w fun e w' => e = .returned (.bool (pIsMatrix k xs)) ∧ Below w.heap.size w w' := by
  have hl := h.len
  have hmf : ∀ (fn : Fn) (first cap : Array Value) (w : World), (Instr.makeFunc fn first cap).run Try.prog w = .ok (.func fn first cap) w := fun _ _ _ _ => rfl
  cases hk60 : inB k 0 60 with
  | false =>
    have e : pIsMatrix k xs = false := by unfold pIsMatrix; rw [hk60]; rfl
    rw [e]
    have HK := Lib.hid hk60
    clear e h hk60 hl hk
    go_enter Try.func97, Try.ntmps97
    go_wp2_with fail
    refine (in_any _ _ _ _).mono ?_
    rintro e w' ⟨rfl, rfl⟩
    rw [HK.out]
    go_wp2
    go_ret
    exact ⟨rfl, box_below _ _⟩
  | true =>
    have hkb := inB_true hk60
    obtain ⟨d, rfl⟩ := Int.eq_ofNat_of_zero_le hkb.1
    have HK := Lib.hid hk60
    by_cases h2 : n ≤ 200
    · have e : pIsMatrix (d : Int) xs = matB d xs := by
        have h3 : decide (xs.length ≤ 200) = true := decide_eq_true (by omega)
        unfold pIsMatrix; rw [hk60, h3, Int.toNat_natCast]; rfl
      rw [e]
      have h2' : (n : Int) ≤ 200 := by omega
      have hb0 := box_below w (.cells #[.int .i64 (d : Int), .slice A n c] 40)
      have hcl : (w.alloc (.cells #[.int .i64 (d : Int), .slice A n c] 40)).cell? ⟨w.heap.size, 0, none⟩ = some (.int .i64 (d : Int)) := by
        rw [World.cell?_alloc_at _ _ _ _ rfl]; rfl
      have CON := Lib.hid (all_any _ _ _ A n c xs _ (mat_pred _ w.heap.size d (by simp) hcl (by omega)) (h.below hb0))
      have HB0 := Lib.hid hb0
      clear e h hk60 hl hk hkb hb0 hcl
      go_enter Try.func97, Try.ntmps97
      go_wp2_with fail
      refine (in_any _ _ _ _).mono ?_
      rintro e w' ⟨rfl, rfl⟩
      rw [HK.out]
      go_wp2_with fail
      refine CON.out.mono ?_
      rintro e w1 ⟨rfl, hb⟩
      have HB := Lib.hid (HB0.out.trans (hb.mono HB0.out.size))
      clear hb
      go_wp2
      go_ret
      exact ⟨rfl, HB.out⟩
    · have e : pIsMatrix (d : Int) xs = false := by
        have h3 : decide (xs.length ≤ 200) = false := decide_eq_false (by omega)
        unfold pIsMatrix; rw [h3]; simp
      rw [e]
      have h2' : (200 : Int) < (n : Int) := by omega
      have hs := h.small
      clear e h hk60 hl hk
      go_enter Try.func97, Try.ntmps97
      go_wp2_with fail
      refine (in_any _ _ _ _).mono ?_
      rintro e w' ⟨rfl, rfl⟩
      rw [HK.out]
      go_wp2
      go_ret
      exact ⟨rfl, box_below _ _⟩

theorem quiet_left' {P : Program} {f : FuncId} {args : Array Value} {w : World} {n : Nat} {v : Value} (h : Calls P f args (w.drewN n) fun e w' => e = .returned v ∧ w.drewN n = w') : Calls P f args (w.drewN n) fun e w'' => e = .returned v ∧ ∃ m, w'' = w.drewN m :=
  h.mono fun _ _ ⟨he, hm⟩ => ⟨he, n, hm.symm⟩

theorem pow_wrap62 (m : Nat) (h : m ≤ 60) : wrap64 ((2 : Int) ^ m) = ((2 ^ m : Nat) : Int) := by
  have h1 := pow_le60 m h
  have h3 : ((2 : Int) ^ m) = ((2 ^ m : Nat) : Int) := by simp
  rw [h3]
  generalize (2 : Nat) ^ m = p at *
  exact IntWalk.wrap64_in _ (by omega)

theorem wrap_u64_id (x : Int) (h0 : 0 ≤ x) (h1 : x < 18446744073709551616) : IntKind.u64.wrap x = x := by
  have := IntKind.wrap_u64 x
  omega

set_option maxHeartbeats 400000 in
theorem l02_loop {k : Int} {A n c xs w} {d : Nat} (hkd : k = (d : Int)) (hd : d ≤ 60) (h : RI w A n xs) (hn : n ≤ 200) :
    Calls Try.prog 95 #[.agg #[.int .i64 (d : Int), .slice A n c]] w fun e w' => e = .returned (.bool (matB d xs)) ∧ Below w.heap.size w w' := by
  have hl := h.len
  have hk60 : inB (d : Int) 0 60 = true := decide_eq_true (by omega)
  have HK := Lib.hid hk60
  have hb0 := box_below w (.cells #[.int .i64 (d : Int), .slice A n c] 40)
  have hcl0 : (w.alloc (.cells #[.int .i64 (d : Int), .slice A n c] 40)).cell? ⟨w.heap.size, 0, none⟩ = some (.int .i64 (d : Int)) := by
    rw [World.cell?_alloc_at _ _ _ _ rfl]; rfl
  have hcl1 : (w.alloc (.cells #[.int .i64 (d : Int), .slice A n c] 40)).cell? ⟨w.heap.size, 1, none⟩ = some (.slice A n c) := by
    rw [World.cell?_alloc_at _ _ _ _ rfl]; rfl
  have H := Lib.hid (h.below hb0)
  have HB0 := Lib.hid hb0
  have hsz : w.heap.size < (w.alloc (.cells #[.int .i64 (d : Int), .slice A n c] 40)).heap.size := by simp
  have HC0 := Lib.hid hcl0
  have HC1 := Lib.hid hcl1
  have h2' : (n : Int) ≤ 200 := by omega
  clear h hk60 hb0 hcl0 hcl1 hkd
  go_enter Try.func95, Try.ntmps95
  go_wp2_with fail
  refine (l01In_any _ _ _ _).mono ?_
  rintro e w' ⟨rfl, rfl⟩
  rw [HK.out]
  generalize w.alloc (.cells #[.int .i64 (d : Int), .slice A n c] 40) = W at *
  have c0 := HC0.out
  have c1 := HC1.out
  go_wp2
  go_loopw [3] (fun iv wr => ∃ i : Nat, i ≤ n ∧ iv = .int .i64 (i : Int) ∧ matB d (xs.take i) = true ∧ Below W.heap.size W wr) (fun iv _ => n - (intOf iv).toNat)
  case atStart => exact ⟨0, by omega, rfl, by simp [matB], Below.refl _ _⟩
  case round =>
    obtain ⟨i, hi, rfl, hall, hbw⟩ := hrel
    have HA := Lib.hid hall
    have HBW := Lib.hid hbw
    have c0 := (hbw.cell (p := ⟨w.heap.size, 0, none⟩) hsz).trans HC0.out
    have c1 := (hbw.cell (p := ⟨w.heap.size, 1, none⟩) hsz).trans HC1.out
    clear hall hbw
    by_cases hlt : i < n
    · obtain ⟨b, off, hA, hbl, hc0⟩ := H.out.at_ hlt
      subst hA
      have hc := (HBW.out.cell (p := ⟨b, off + i, none⟩) hbl).trans hc0
      clear hc0
      have hlt' : (i : Int) < (n : Int) := by omega
      have hpw : IntKind.i64.wrap ((2 : Int) ^ d) = ((2 ^ d : Nat) : Int) := by rw [IntWalk.i64_left]; exact pow_wrap62 d hd
      have hu : IntKind.u64.wrap (d : Int) = (d : Int) := wrap_u64_id _ (by omega) (by omega)
      have hmn : min d 64 = d := by omega
      have hps : IntKind.i64.wrap (((2 ^ d : Nat) : Int) - 1) = ((2 ^ d : Nat) : Int) - 1 := by
        have h1 := pow_le60 d hd
        have h2 : 0 < 2 ^ d := Nat.pow_pos (by omega)
        generalize (2 : Nat) ^ d = p at *
        rw [IntWalk.i64_left]; exact IntWalk.wrap64_in _ (by omega)
      have hpl := pow_le60 d hd
      have hpp : 0 < 2 ^ d := Nat.pow_pos (by omega)
      have hmk : maskB (xs.getD i 0) d = inB (xs.getD i 0) 0 (((2 ^ d : Nat) : Int) - 1) := rfl
      have hk2 : i < xs.length := by omega
      have htk : xs.take (i + 1) = xs.take i ++ [xs.getD i 0] := by
        rw [List.take_succ_eq_append_getElem hk2]; simp [List.getD, hk2]
      have hmem : xs.getD i 0 ∈ xs := by simp [List.getD, hk2]
      have HT := Lib.hid htk
      have HM := Lib.hid hmem
      have HMK := Lib.hid hmk
      clear htk hmem hmk hbl
      generalize xs.getD i 0 = x at *
      generalize (2 : Nat) ^ d = p at *
      go_wp2_with fail
      go_quiet ((go_at_call 84; exact quiet_left' (l01In_any _ _ _ _)))
      go_wp2_with fail
      · have hx : (!inB x 0 ((p : Int) - 1)) = true := by assumption
        have hm : maskB x d = false := by rw [HMK.out]; simpa using hx
        have HF := Lib.hid (show matB d xs = false from List.all_eq_false.2 ⟨x, HM.out, by simp [hm]⟩)
        clear hx hm
        go_ret
        exact ⟨by rw [HF.out]; rfl, HB0.out.trans ((below_drewN HBW.out _).mono HB0.out.size)⟩
      · have hx : (!inB x 0 ((p : Int) - 1)) = false := by assumption
        have hm : maskB x d = true := by rw [HMK.out]; simpa using hx
        have HN := Lib.hid (show matB d (xs.take (i + 1)) = true by
          have h1 := HA.out
          unfold matB at h1 ⊢
          rw [HT.out, List.all_append, h1]; simp [hm])
        clear hx hm
        go_roundw
        case rel => exact ⟨i + 1, by omega, by go_num, HN.out, below_drewN HBW.out _⟩
        case measure => simp [intOf]; omega
    · obtain rfl : i = n := by omega
      have HF := Lib.hid (show matB d xs = true by
        have h1 := HA.out
        rw [show xs.take i = xs by rw [← hl]; exact List.take_length] at h1
        exact h1)
      go_wp2
      go_ret
      exact ⟨by rw [HF.out]; rfl, HB0.out.trans (HBW.out.mono HB0.out.size)⟩

theorem spec_l02Is {k A n c xs w} (h : RI w A n xs) (hn : n ≤ 1048576) :
    Calls Try.prog 95 #[.agg #[.int .i64 k, .slice A n c]] w fun e w' => e = .returned (.bool (pIsMatrix k xs)) ∧ Below w.heap.size w w' := by
  have hl := h.len
  cases hk60 : inB k 0 60 with
  | false =>
    have e : pIsMatrix k xs = false := by unfold pIsMatrix; rw [hk60]; rfl
    rw [e]
    have HK := Lib.hid hk60
    clear e h hk60 hl
    go_enter Try.func95, Try.ntmps95
    go_wp2_with fail
    refine (l01In_any _ _ _ _).mono ?_
    rintro e w' ⟨rfl, rfl⟩
    rw [HK.out]
    go_wp2
    go_ret
    exact ⟨rfl, box_below _ _⟩
  | true =>
    have hkb := inB_true hk60
    obtain ⟨d, rfl⟩ := Int.eq_ofNat_of_zero_le hkb.1
    by_cases h2 : n ≤ 200
    · have e : pIsMatrix (d : Int) xs = matB d xs := by
        have h3 : decide (xs.length ≤ 200) = true := decide_eq_true (by omega)
        unfold pIsMatrix; rw [hk60, h3, Int.toNat_natCast]; rfl
      rw [e]
      exact l02_loop rfl (by omega) h h2
    · have HK := Lib.hid hk60
      have e : pIsMatrix (d : Int) xs = false := by
        have h3 : decide (xs.length ≤ 200) = false := decide_eq_false (by omega)
        unfold pIsMatrix; rw [h3]; simp
      rw [e]
      have h2' : (200 : Int) < (n : Int) := by omega
      have hs := h.small
      clear e h hk60 hl
      go_enter Try.func95, Try.ntmps95
      go_wp2_with fail
      refine (l01In_any _ _ _ _).mono ?_
      rintro e w' ⟨rfl, rfl⟩
      rw [HK.out]
      go_wp2
      go_ret
      exact ⟨rfl, box_below _ _⟩

end Go.Proofs.Ytindhmgfadipnaa
