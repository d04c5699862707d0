/- MeetOfProfiles of the program and of the reference. -/
import Derived.Test.YtiajkfgicpidkaaCl
import Derived.Test.YtiajkfgicpidkaaTrim
import Derived.Test.YtiajkfgicpidkaaCopy
import Derived.Deep.RegionHeld3
namespace Go.Proofs.Ytiajkfgicpidkaa
open Go.ChangeShapes Go.WideShapes Go.ChangeAt Go.RowKit
set_option linter.unusedVariables false

def meetL (xs ys : List Int) (k : Nat) : List Int := (List.range k).map fun i => min (xs.getD i 0) (ys.getD i 0)

theorem meetL_len (xs ys : List Int) (k : Nat) : (meetL xs ys k).length = k := by simp [meetL]

theorem meetL_succ (xs ys : List Int) (k : Nat) : meetL xs ys (k + 1) = meetL xs ys k ++ [min (xs.getD k 0) (ys.getD k 0)] := by simp [meetL, List.range_succ]

theorem meetL_get (xs ys : List Int) (k i : Nat) (h : i < k) : (meetL xs ys k).getD i 0 = min (xs.getD i 0) (ys.getD i 0) := by simp [meetL, List.getD, h]

theorem tlen_congr (xs ys : List Int) (k : Nat) (h : ∀ i, i < k → xs.getD i 0 = ys.getD i 0) : tlen xs k = tlen ys k := by
  induction k with
  | zero => rfl
  | succ k ih => rw [tlen, tlen, h k (by omega), ih (fun i hi => h i (by omega))]

theorem tlen_more (xs : List Int) (k m : Nat) (h : ∀ i, k ≤ i → i < k + m → xs.getD i 0 = 0) : tlen xs (k + m) = tlen xs k := by
  induction m with
  | zero => rfl
  | succ m ih =>
    rw [show k + (m + 1) = (k + m) + 1 by omega, tlen, if_pos (h (k + m) (by omega) (by omega))]
    exact ih (fun i h1 h2 => h i h1 (by omega))

/-- what stands behind the shorter list is 0 in the meet -/
theorem meet_trim (xs ys : List Int) (hx : Prf xs) : trimL (meetL xs ys xs.length) = trimL (meetL xs ys (min xs.length ys.length)) := by
  unfold trimL
  rw [meetL_len, meetL_len]
  have e1 : tlen (meetL xs ys xs.length) xs.length = tlen (meetL xs ys xs.length) (min xs.length ys.length) := by
    conv => lhs; rw [show xs.length = min xs.length ys.length + (xs.length - min xs.length ys.length) by omega]
    rw [show min xs.length ys.length + (xs.length - min xs.length ys.length) = xs.length by omega]
    conv => lhs; arg 2; rw [show xs.length = min xs.length ys.length + (xs.length - min xs.length ys.length) by omega]
    refine tlen_more _ _ _ (fun i h1 h2 => ?_)
    rw [meetL_get _ _ _ _ (by omega), getD_none ys i (by omega)]
    have := prf_get hx i
    omega
  have e2 : tlen (meetL xs ys xs.length) (min xs.length ys.length) = tlen (meetL xs ys (min xs.length ys.length)) (min xs.length ys.length) :=
    tlen_congr _ _ _ (fun i hi => by rw [meetL_get _ _ _ _ (by omega), meetL_get _ _ _ _ hi])
  rw [e1, e2]
  have h3 := tlen_le (meetL xs ys (min xs.length ys.length)) (min xs.length ys.length)
  generalize tlen (meetL xs ys (min xs.length ys.length)) (min xs.length ys.length) = m at *
  simp only [meetL, ← List.map_take, List.take_range]
  congr 2
  omega

def pMeetOfProfiles (xs ys : List Int) : List Int × Int :=
  if (pIsProfile xs && pIsProfile ys) = true then (trimL (meetL xs ys (min xs.length ys.length)), 0) else ([], 1)

theorem pMeetOfProfiles_len (xs : List Int) (hx : xs.length ≤ 1048576) (ys : List Int) (hy : ys.length ≤ 1048576) : (pMeetOfProfiles xs ys).1.length ≤ 4000000000 := by
  unfold pMeetOfProfiles
  by_cases h : (pIsProfile xs && pIsProfile ys) = true
  · rw [if_pos h]
    have := tlen_le (meetL xs ys (min xs.length ys.length)) (meetL xs ys (min xs.length ys.length)).length
    show (trimL _).length ≤ _
    rw [trimL_len]
    rw [meetL_len] at this ⊢
    omega
  · rw [if_neg h]; simp

set_option maxHeartbeats 400000 in
theorem spec_l07Trim (A : Option Addr) (n c : Nat) (xs : List Int) (w : World) (h : RI w A n xs) (hn : n ≤ 1048576) (hnc : n ≤ c) (hc : c ≤ 9223372036854775807) :
    Calls Try.prog 87 #[.slice A n c] w fun e w' => ∃ A' c' m, e = .returned (.slice A' m c') ∧ OwnI w' w.heap.size A' m c' (trimL xs) ∧ Below w.heap.size w w' := by
  have hl := h.len
  have H := Lib.hid h
  clear h
  go_enter Try.func87, Try.ntmps87
  go_wp2
  go_loop [3] (fun v => ∃ k : Nat, k ≤ n ∧ v = .int .i64 (k : Int) ∧ tlen xs k = tlen xs n) (fun v => (intOf v).toNat)
  case atStart => exact ⟨n, Nat.le_refl _, rfl, rfl⟩
  case round =>
    obtain ⟨k, hk, rfl, ht⟩ := hrel
    by_cases hex : k = 0 ∨ xs.getD (k - 1) 0 ≠ 0
    · have hk2 : tlen xs n = k := by
        rw [← ht]
        rcases hex with rfl | h0
        · rfl
        · cases k with
          | zero => rfl
          | succ k => rw [tlen, if_neg (by simpa using h0)]
      have hT : trimL xs = xs.take k := by unfold trimL; rw [hl, hk2]
      have HC := Lib.hid (spec_own A k c (xs.take k) w (H.out.take hk) (by omega))
      have HT := Lib.hid hT
      have hkc : (k : Int) ≤ (c : Int) := by omega
      rcases Nat.eq_zero_or_pos k with rfl | hpos
      · clear hex ht hk2 hT hl
        go_wp2_with fail
        refine HC.out.mono ?_
        rintro e w1 ⟨A', c', rfl, ho, hb⟩
        rw [← HT.out] at ho
        have HO := Lib.hid ho
        have HB := Lib.hid hb
        clear ho hb
        go_wp2
        go_ret
        exact ⟨_, _, _, rfl, HO.out, HB.out⟩
      · obtain ⟨j, rfl⟩ : ∃ j, k = j + 1 := ⟨k - 1, by omega⟩
        obtain ⟨b, off, rfl, _, hcell⟩ := H.out.at_ (i := j) (by omega)
        have hne : xs.getD j 0 ≠ 0 := by
          rcases hex with h | h
          · omega
          · simpa using h
        have hz : (xs.getD j 0 == 0) = false := by rw [beq_eq_false_iff_ne]; exact hne
        have e1 : ((j + 1 : Nat) : Int) - 1 = (j : Int) := by omega
        have e2 : (0 : Int) < ((j + 1 : Nat) : Int) := by omega
        have e3 : (j : Int) < (n : Int) := by omega
        clear hex ht hk2 hT hl hne
        generalize xs.getD j 0 = x at *
        go_wp2_with fail
        refine HC.out.mono ?_
        rintro e w1 ⟨A', c', rfl, ho, hb⟩
        rw [← HT.out] at ho
        have HO := Lib.hid ho
        have HB := Lib.hid hb
        clear ho hb hcell
        go_wp2
        go_ret
        exact ⟨_, _, _, rfl, HO.out, HB.out⟩
    · have hk0 : k ≠ 0 := fun h => hex (.inl h)
      obtain ⟨j, rfl⟩ : ∃ j, k = j + 1 := ⟨k - 1, by omega⟩
      have hx0 : xs.getD j 0 = 0 := by
        by_cases e : xs.getD j 0 = 0
        · exact e
        · exact absurd (.inr (by simpa using e)) hex
      obtain ⟨b, off, rfl, _, hcell⟩ := H.out.at_ (i := j) (by omega)
      rw [hx0] at hcell
      rw [tlen, if_pos hx0] at ht
      have HT := Lib.hid ht
      have e1 : ((j + 1 : Nat) : Int) - 1 = (j : Int) := by omega
      have e2 : (0 : Int) < ((j + 1 : Nat) : Int) := by omega
      have e3 : (j : Int) < (n : Int) := by omega
      clear hex ht hx0 hl hk0
      go_wp2
      go_round
      case rel => exact ⟨j, by omega, rfl, HT.out⟩
      case measure => simp [intOf]

set_option maxHeartbeats 800000 in
theorem spec_MeetOfProfiles (A1 : Option Addr) (n1 c1 : Nat) (xs : List Int) (A2 : Option Addr) (n2 c2 : Nat) (ys : List Int) (w : World) (h1 : RI w A1 n1 xs) (l1 : n1 ≤ 1048576) (h2 : RI w A2 n2 ys) (l2 : n2 ≤ 1048576) :
    Calls Try.prog 38 #[.slice A1 n1 c1, .slice A2 n2 c2] w fun e w' => ∃ A l c, e = .returned (.tuple #[.slice A l c, .int .i64 (pMeetOfProfiles xs ys).2]) ∧ OwnI w' w.heap.size A l c (pMeetOfProfiles xs ys).1 ∧ Below w.heap.size w w' := by
  have C1 := Lib.hid (spec_both A1 n1 c1 xs A2 n2 c2 ys w h1 h2)
  have hl := h1.len
  have H1 := Lib.hid h1
  have H2 := Lib.hid h2
  clear h1 h2
  cases hp : (pIsProfile xs && pIsProfile ys) with
  | true =>
    have hpx : pIsProfile xs = true := by cases h : pIsProfile xs <;> simp_all
    have hpt := pIsProfile_true hpx
    have hn := hpt.1
    have hf : pMeetOfProfiles xs ys = (trimL (meetL xs ys n1), 0) := by unfold pMeetOfProfiles; rw [if_pos hp, ← meet_trim xs ys hpt.2, hl]
    have HF := Lib.hid hf
    have HX := Lib.hid (show Prf xs from hpt.2)
    have hpy : pIsProfile ys = true := by cases h : pIsProfile ys <;> simp_all
    have HY := Lib.hid (show Prf ys from (pIsProfile_true hpy).2)
    have HP := Lib.hid (show (if (pIsProfile xs && pIsProfile ys) = true then (0 : Int) else 1) = 0 by rw [if_pos hp])
    rw [hl] at hn
    clear hf hp hl hpx hpt hpy
    have HI := Lib.hid (show OwnI (w.alloc (.cells #[] 2)) w.heap.size (some ⟨w.heap.size, 0, none⟩) 0 0 (meetL xs ys 0) from empty_own w)
    have HB := Lib.hid (show Below w.heap.size w (w.alloc (.cells #[] 2)) from (Below.refl _ _).alloc (Nat.le_refl _) _)
    go_enter Try.func38, Try.ntmps38
    go_wp2_with fail
    refine C1.out.mono ?_
    rintro e w1 ⟨rfl, rfl⟩
    rw [HP.out]
    go_wp2
    go_loopw [7, 8] (fun v iv wr => ∃ (k : Nat) (A : Option Addr) (c : Nat), k ≤ n1 ∧ iv = .int .i64 ((k : Int) + 1) ∧ v = .slice A k c ∧ OwnI wr w.heap.size A k c (meetL xs ys k) ∧ Below w.heap.size w wr) (fun _ iv _ => n1 + 1 - (intOf iv).toNat)
    case atStart => exact ⟨0, _, _, by omega, rfl, rfl, HI.out, HB.out⟩
    case round =>
      obtain ⟨k, A, c, hk, rfl, rfl, ho, hb⟩ := hrel
      have HO := Lib.hid ho
      have HBW := Lib.hid hb
      clear ho hb HI HB
      by_cases hlt : k < n1
      · have HC1 := Lib.hid (spec_at A1 n1 c1 xs ((k : Int) + 1) wr (H1.out.below HBW.out) (by omega) (by omega))
        have HC2 := Lib.hid (spec_at A2 n2 c2 ys ((k : Int) + 1) wr (H2.out.below HBW.out) (by omega) (by omega))
        rw [show ((k : Int) + 1 - 1).toNat = k by omega] at HC1 HC2
        obtain ⟨b11, b12⟩ := prf_get HX.out k
        obtain ⟨b21, b22⟩ := prf_get HY.out k
        have hms := meetL_succ xs ys k
        generalize xs.getD k 0 = x at *
        generalize ys.getD k 0 = y at *
        have hlt' : (k : Int) + 1 ≤ (n1 : Int) := by omega
        by_cases hm : y < x
        · rw [show min x y = y by omega] at hms
          have HMS := Lib.hid hms
          clear hms
          go_wp2_with fail
          refine HC1.out.mono ?_
          rintro e w3 ⟨rfl, rfl⟩
          go_wp2_with fail
          refine HC2.out.mono ?_
          rintro e w3 ⟨rfl, rfl⟩
          go_wp2_with (at_builtin; refine app1 _ _ _ _ _ _ _ _ _ rfl rfl rfl rfl HO.out (I64.mk (by omega) (by omega)) (by omega) HBW.out.size ?_; intro g c' w1 ho2 hg)
          rw [← HMS.out] at ho2
          have HO2 := Lib.hid ho2
          have HB2 := Lib.hid (HBW.out.grown hg HBW.out.size (fun k hk => HO.out.row_ge hk))
          clear ho2 hg
          go_wp2
          go_roundw
          case rel => exact ⟨k + 1, _, _, by omega, by go_num, rfl, HO2.out, HB2.out⟩
          case measure => simp [intOf]; omega
        · rw [show min x y = x by omega] at hms
          have HMS := Lib.hid hms
          have hm' : x ≤ y := by omega
          clear hms hm
          go_wp2_with fail
          refine HC1.out.mono ?_
          rintro e w3 ⟨rfl, rfl⟩
          go_wp2_with fail
          refine HC2.out.mono ?_
          rintro e w3 ⟨rfl, rfl⟩
          go_wp2_with (at_builtin; refine app1 _ _ _ _ _ _ _ _ _ rfl rfl rfl rfl HO.out (I64.mk (by omega) (by omega)) (by omega) HBW.out.size ?_; intro g c' w1 ho2 hg)
          rw [← HMS.out] at ho2
          have HO2 := Lib.hid ho2
          have HB2 := Lib.hid (HBW.out.grown hg HBW.out.size (fun k hk => HO.out.row_ge hk))
          clear ho2 hg
          go_wp2
          go_roundw
          case rel => exact ⟨k + 1, _, _, by omega, by go_num, rfl, HO2.out, HB2.out⟩
          case measure => simp [intOf]; omega
      · obtain rfl : k = n1 := by omega
        have hlt' : (k : Int) < (k : Int) + 1 := by omega
        have hkc := HO.out.cap_ge
        have HC := Lib.hid (spec_l07Trim A k c _ wr HO.out.reads (by omega) hkc.1 hkc.2)
        clear hkc
        go_wp2_with fail
        refine HC.out.mono ?_
        rintro e w2 ⟨A', c', m, rfl, ho, hb⟩
        have HO2 := Lib.hid (ho.mono HBW.out.size)
        have HB2 := Lib.hid (HBW.out.trans (hb.mono HBW.out.size))
        clear ho hb
        go_wp2
        go_ret2
        exact ⟨A', m, c', by rw [HF.out]; rfl, by rw [HF.out]; exact HO2.out, HB2.out⟩
  | false =>
    have hf : pMeetOfProfiles xs ys = ([], 1) := by unfold pMeetOfProfiles; rw [hp]; rfl
    have HF := Lib.hid hf
    have HP := Lib.hid (show (if (pIsProfile xs && pIsProfile ys) = true then (0 : Int) else 1) = 1 by rw [if_neg (by rw [hp]; simp)])
    clear hf hp hl
    go_enter Try.func38, Try.ntmps38
    go_wp2_with fail
    refine C1.out.mono ?_
    rintro e w1 ⟨rfl, rfl⟩
    rw [HP.out]
    go_wp2
    go_ret2
    exact ⟨none, 0, 0, by rw [HF.out]; rfl, by rw [HF.out]; exact OwnI.nil _ _, Below.refl _ _⟩

set_option maxHeartbeats 800000 in
theorem impl_MeetOfProfiles (A1 : Option Addr) (n1 c1 : Nat) (xs : List Int) (A2 : Option Addr) (n2 c2 : Nat) (ys : List Int) (w : World) (h1 : RI w A1 n1 xs) (l1 : n1 ≤ 1048576) (h2 : RI w A2 n2 ys) (l2 : n2 ≤ 1048576) :
    Calls Try.prog 39 #[.slice A1 n1 c1, .slice A2 n2 c2] w fun e w' => ∃ A l c, e = .returned (.tuple #[.slice A l c, .int .i64 (pMeetOfProfiles xs ys).2]) ∧ OwnI w' w.heap.size A l c (pMeetOfProfiles xs ys).1 ∧ Below w.heap.size w w' := by
  have C1 := Lib.hid (impl_IsProfile A1 n1 c1 xs w h1 l1)
  have C2 := Lib.hid (fun w1 (hb : Below w.heap.size w w1) => impl_IsProfile A2 n2 c2 ys w1 (h2.below hb) l2)
  have hl := h1.len
  have hl2 := h2.len
  have H1 := Lib.hid h1
  have H2 := Lib.hid h2
  clear h1 h2
  cases hp : pIsProfile xs with
  | true =>
    cases hq : pIsProfile ys with
    | true =>
      have hpt := pIsProfile_true hp
      have hn := hpt.1
      have hf : pMeetOfProfiles xs ys = (trimL (meetL xs ys (min n1 n2)), 0) := by unfold pMeetOfProfiles; rw [hp, hq, hl, hl2]; rfl
      have HF := Lib.hid hf
      have HX := Lib.hid (show Prf xs from hpt.2)
      have HY := Lib.hid (show Prf ys from (pIsProfile_true hq).2)
      have HP := Lib.hid hp
      have HQ := Lib.hid hq
      rw [hl] at hn
      clear hf hp hq hl hl2 hpt
      obtain ⟨mm, hmm, hmi⟩ : ∃ mm : Nat, mm = min n1 n2 ∧ ((min (n1 : Int) (n2 : Int)) = (mm : Int)) := ⟨min n1 n2, rfl, by omega⟩
      have hm1 : mm ≤ n1 := by omega
      have hm2 : mm ≤ n2 := by omega
      have HMM := Lib.hid hmm
      have HMI := Lib.hid hmi
      clear hmm hmi
      go_enter Try.func39, Try.ntmps39
      go_wp2_with fail
      refine C1.out.mono ?_
      rintro e w1 ⟨rfl, hb⟩
      rw [HP.out]
      have HB1 := Lib.hid hb
      clear hb
      go_wp2_with fail
      refine (C2.out _ HB1.out).mono ?_
      rintro e w2 ⟨rfl, hb⟩
      rw [HQ.out]
      have HB2 := Lib.hid (HB1.out.trans (hb.mono HB1.out.size))
      clear hb
      have HI := Lib.hid (show OwnI (w2.alloc (.cells #[] 2)) w.heap.size (some ⟨w2.heap.size, 0, none⟩) 0 0 (meetL xs ys 0) from (empty_own w2).mono HB2.out.size)
      have HB := Lib.hid (show Below w.heap.size w (w2.alloc (.cells #[] 2)) from HB2.out.alloc HB2.out.size _)
      have hmi := HMI.out
      by_cases hcmp : (n2 : Int) < (n1 : Int)
      · have hmn : mm = n2 := by omega
        subst hmn
        clear hmi HMI HMM
        go_wp2
        go_loopw [6, 22] (fun v iv wr => ∃ (k : Nat) (A : Option Addr) (c : Nat), k ≤ mm ∧ iv = .int .i64 (k : Int) ∧ v = .slice A k c ∧ OwnI wr w.heap.size A k c (meetL xs ys k) ∧ Below w.heap.size w wr) (fun _ iv _ => mm - (intOf iv).toNat)
        case atStart => exact ⟨0, _, _, by omega, rfl, rfl, HI.out, HB.out⟩
        case round =>
          obtain ⟨k, A, c, hk, rfl, rfl, ho, hb⟩ := hrel
          have HO := Lib.hid ho
          have HBW := Lib.hid hb
          clear ho hb HI HB
          by_cases hlt : k < mm
          · obtain ⟨b1, off1, rfl, hbl1, hc10⟩ := H1.out.at_ (i := k) (by omega)
            obtain ⟨b2, off2, rfl, hbl2, hc20⟩ := H2.out.at_ (i := k) (by omega)
            have hc1 := (HBW.out.cell (p := ⟨b1, off1 + k, none⟩) hbl1).trans hc10
            have hc2 := (HBW.out.cell (p := ⟨b2, off2 + k, none⟩) hbl2).trans hc20
            obtain ⟨b11, b12⟩ := prf_get HX.out k
            obtain ⟨b21, b22⟩ := prf_get HY.out k
            have hms := meetL_succ xs ys k
            generalize xs.getD k 0 = x at *
            generalize ys.getD k 0 = y at *
            have hlt1 : (k : Int) < (n1 : Int) := by omega
            have hlt2 : (k : Int) < (mm : Int) := by omega
            have hlt3 : (0 : Int) ≤ (k : Int) := by omega
            have HC10 := Lib.hid hc10
            have HC20 := Lib.hid hc20
            have HL1 := Lib.hid hbl1
            have HL2 := Lib.hid hbl2
            clear hbl1 hbl2 hc10 hc20
            by_cases hm : y < x
            · rw [show min x y = y by omega] at hms
              have HMS := Lib.hid hms
              clear hms
              go_wp2_with fail
              go_region_held3 (fun w' => w'.cell? ⟨b1, off1 + k, none⟩ = some (.int .i64 x) ∧ w'.cell? ⟨b2, off2 + k, none⟩ = some (.int .i64 y)) (first | go_keep | exact ⟨hk1, hk2⟩) ((refine step_app1 _ _ _ _ _ _ _ _ _ wr.heap.size (by rfl) (by rfl) (by rfl) (by rfl) (HO.out.alloc _).drew (cell_new _ _ _) (size_new _ _) (I64.mk (by omega) (by omega)) (by omega) (size_new_le _ _ HBW.out.size) ?_; intro g c' w1 ho2 hg; have hbw := ((HBW.out.alloc HBW.out.size _).drew).grown hg (size_new_le _ _ HBW.out.size) (fun k hk => HO.out.row_ge hk); have hk1 := (hbw.cell (p := ⟨b1, off1 + k, none⟩) HL1.out).trans HC10.out; have hk2 := (hbw.cell (p := ⟨b2, off2 + k, none⟩) HL2.out).trans HC20.out))
              rw [← HMS.out] at ho2
              have HO2 := Lib.hid ho2
              have HB2 := Lib.hid hbw
              clear ho2 hg hbw hk1 hk2
              go_wp2
              go_roundw
              case rel => exact ⟨k + 1, _, _, by omega, by go_num, rfl, HO2.out, HB2.out⟩
              case measure => simp [intOf]; omega
            · rw [show min x y = x by omega] at hms
              have HMS := Lib.hid hms
              have hm' : x ≤ y := by omega
              clear hms
              go_wp2_with fail
              go_region_held3 (fun w' => w'.cell? ⟨b1, off1 + k, none⟩ = some (.int .i64 x) ∧ w'.cell? ⟨b2, off2 + k, none⟩ = some (.int .i64 y)) (first | go_keep | exact ⟨hk1, hk2⟩) ((refine step_app1 _ _ _ _ _ _ _ _ _ wr.heap.size (by rfl) (by rfl) (by rfl) (by rfl) (HO.out.alloc _).drew (cell_new _ _ _) (size_new _ _) (I64.mk (by omega) (by omega)) (by omega) (size_new_le _ _ HBW.out.size) ?_; intro g c' w1 ho2 hg; have hbw := ((HBW.out.alloc HBW.out.size _).drew).grown hg (size_new_le _ _ HBW.out.size) (fun k hk => HO.out.row_ge hk); have hk1 := (hbw.cell (p := ⟨b1, off1 + k, none⟩) HL1.out).trans HC10.out; have hk2 := (hbw.cell (p := ⟨b2, off2 + k, none⟩) HL2.out).trans HC20.out))
              rw [show (if y < x then y else x) = x from if_neg (by omega), ← HMS.out] at ho2
              have HO2 := Lib.hid ho2
              have HB2 := Lib.hid hbw
              clear ho2 hg hbw hk1 hk2
              go_wp2
              go_roundw
              case rel => exact ⟨k + 1, _, _, by omega, by go_num, rfl, HO2.out, HB2.out⟩
              case measure => simp [intOf]; omega
          · obtain rfl : k = mm := by omega
            have hkc := HO.out.cap_ge
            have hml := meetL_len xs ys k
            have HT := Lib.hid (trimmed_any A k c (meetL xs ys k) wr HO.out.reads hkc.1 hkc.2)
            have htl := tlen_le (meetL xs ys k) k
            have HTK := Lib.hid (HO.out.take htl)
            have HML := Lib.hid hml
            have HMIN := Lib.hid (show (min n1 k) = k by omega)
            clear hkc hml htl
            go_wp2_with fail
            refine HT.out.mono ?_
            rintro e w3 ⟨rfl, rfl⟩
            go_wp2
            go_ret2
            refine ⟨A, _, c, by rw [HF.out]; rfl, ?_, HBW.out⟩
            rw [HF.out]
            refine (show OwnI wr w.heap.size A _ c (trimL (meetL xs ys (min n1 k))) from ?_)
            rw [HMIN.out]
            unfold trimL
            rw [HML.out]
            exact HTK.out
      · have hmn : mm = n1 := by omega
        subst hmn
        have hcmp' : (mm : Int) ≤ (n2 : Int) := by omega
        clear hmi HMI HMM hcmp
        go_wp2
        go_loopw [6, 22] (fun v iv wr => ∃ (k : Nat) (A : Option Addr) (c : Nat), k ≤ mm ∧ iv = .int .i64 (k : Int) ∧ v = .slice A k c ∧ OwnI wr w.heap.size A k c (meetL xs ys k) ∧ Below w.heap.size w wr) (fun _ iv _ => mm - (intOf iv).toNat)
        case atStart => exact ⟨0, _, _, by omega, rfl, rfl, HI.out, HB.out⟩
        case round =>
          obtain ⟨k, A, c, hk, rfl, rfl, ho, hb⟩ := hrel
          have HO := Lib.hid ho
          have HBW := Lib.hid hb
          clear ho hb HI HB
          by_cases hlt : k < mm
          · obtain ⟨b1, off1, rfl, hbl1, hc10⟩ := H1.out.at_ (i := k) (by omega)
            obtain ⟨b2, off2, rfl, hbl2, hc20⟩ := H2.out.at_ (i := k) (by omega)
            have hc1 := (HBW.out.cell (p := ⟨b1, off1 + k, none⟩) hbl1).trans hc10
            have hc2 := (HBW.out.cell (p := ⟨b2, off2 + k, none⟩) hbl2).trans hc20
            obtain ⟨b11, b12⟩ := prf_get HX.out k
            obtain ⟨b21, b22⟩ := prf_get HY.out k
            have hms := meetL_succ xs ys k
            generalize xs.getD k 0 = x at *
            generalize ys.getD k 0 = y at *
            have hlt1 : (k : Int) < (mm : Int) := by omega
            have hlt2 : (k : Int) < (n2 : Int) := by omega
            have hlt3 : (0 : Int) ≤ (k : Int) := by omega
            have HC10 := Lib.hid hc10
            have HC20 := Lib.hid hc20
            have HL1 := Lib.hid hbl1
            have HL2 := Lib.hid hbl2
            clear hbl1 hbl2 hc10 hc20
            by_cases hm : y < x
            · rw [show min x y = y by omega] at hms
              have HMS := Lib.hid hms
              clear hms
              go_wp2_with fail
              go_region_held3 (fun w' => w'.cell? ⟨b1, off1 + k, none⟩ = some (.int .i64 x) ∧ w'.cell? ⟨b2, off2 + k, none⟩ = some (.int .i64 y)) (first | go_keep | exact ⟨hk1, hk2⟩) ((refine step_app1 _ _ _ _ _ _ _ _ _ wr.heap.size (by rfl) (by rfl) (by rfl) (by rfl) (HO.out.alloc _).drew (cell_new _ _ _) (size_new _ _) (I64.mk (by omega) (by omega)) (by omega) (size_new_le _ _ HBW.out.size) ?_; intro g c' w1 ho2 hg; have hbw := ((HBW.out.alloc HBW.out.size _).drew).grown hg (size_new_le _ _ HBW.out.size) (fun k hk => HO.out.row_ge hk); have hk1 := (hbw.cell (p := ⟨b1, off1 + k, none⟩) HL1.out).trans HC10.out; have hk2 := (hbw.cell (p := ⟨b2, off2 + k, none⟩) HL2.out).trans HC20.out))
              rw [← HMS.out] at ho2
              have HO2 := Lib.hid ho2
              have HB2 := Lib.hid hbw
              clear ho2 hg hbw hk1 hk2
              go_wp2
              go_roundw
              case rel => exact ⟨k + 1, _, _, by omega, by go_num, rfl, HO2.out, HB2.out⟩
              case measure => simp [intOf]; omega
            · rw [show min x y = x by omega] at hms
              have HMS := Lib.hid hms
              have hm' : x ≤ y := by omega
              clear hms
              go_wp2_with fail
              go_region_held3 (fun w' => w'.cell? ⟨b1, off1 + k, none⟩ = some (.int .i64 x) ∧ w'.cell? ⟨b2, off2 + k, none⟩ = some (.int .i64 y)) (first | go_keep | exact ⟨hk1, hk2⟩) ((refine step_app1 _ _ _ _ _ _ _ _ _ wr.heap.size (by rfl) (by rfl) (by rfl) (by rfl) (HO.out.alloc _).drew (cell_new _ _ _) (size_new _ _) (I64.mk (by omega) (by omega)) (by omega) (size_new_le _ _ HBW.out.size) ?_; intro g c' w1 ho2 hg; have hbw := ((HBW.out.alloc HBW.out.size _).drew).grown hg (size_new_le _ _ HBW.out.size) (fun k hk => HO.out.row_ge hk); have hk1 := (hbw.cell (p := ⟨b1, off1 + k, none⟩) HL1.out).trans HC10.out; have hk2 := (hbw.cell (p := ⟨b2, off2 + k, none⟩) HL2.out).trans HC20.out))
              rw [show (if y < x then y else x) = x from if_neg (by omega), ← HMS.out] at ho2
              have HO2 := Lib.hid ho2
              have HB2 := Lib.hid hbw
              clear ho2 hg hbw hk1 hk2
              go_wp2
              go_roundw
              case rel => exact ⟨k + 1, _, _, by omega, by go_num, rfl, HO2.out, HB2.out⟩
              case measure => simp [intOf]; omega
          · obtain rfl : k = mm := by omega
            have hkc := HO.out.cap_ge
            have hml := meetL_len xs ys k
            have HT := Lib.hid (trimmed_any A k c (meetL xs ys k) wr HO.out.reads hkc.1 hkc.2)
            have htl := tlen_le (meetL xs ys k) k
            have HTK := Lib.hid (HO.out.take htl)
            have HML := Lib.hid hml
            have HMIN := Lib.hid (show (min k n2) = k by omega)
            clear hkc hml htl
            go_wp2_with fail
            refine HT.out.mono ?_
            rintro e w3 ⟨rfl, rfl⟩
            go_wp2
            go_ret2
            refine ⟨A, _, c, by rw [HF.out]; rfl, ?_, HBW.out⟩
            rw [HF.out]
            refine (show OwnI wr w.heap.size A _ c (trimL (meetL xs ys (min k n2))) from ?_)
            rw [HMIN.out]
            unfold trimL
            rw [HML.out]
            exact HTK.out
    | false =>
      have hf : pMeetOfProfiles xs ys = ([], 1) := by unfold pMeetOfProfiles; rw [hp, hq]; rfl
      have HF := Lib.hid hf
      have HP := Lib.hid hp
      have HQ := Lib.hid hq
      clear hf hp hq hl
      go_enter Try.func39, Try.ntmps39
      go_wp2_with fail
      refine C1.out.mono ?_
      rintro e w1 ⟨rfl, hb⟩
      rw [HP.out]
      have HB1 := Lib.hid hb
      clear hb
      go_wp2_with fail
      refine (C2.out _ HB1.out).mono ?_
      rintro e w2 ⟨rfl, hb⟩
      rw [HQ.out]
      have HB2 := Lib.hid (HB1.out.trans (hb.mono HB1.out.size))
      clear hb
      go_wp2
      go_ret2
      exact ⟨none, 0, 0, by rw [HF.out]; rfl, by rw [HF.out]; exact OwnI.nil _ _, HB2.out⟩
  | false =>
    have hf : pMeetOfProfiles xs ys = ([], 1) := by unfold pMeetOfProfiles; rw [hp]; rfl
    have HF := Lib.hid hf
    have HP := Lib.hid hp
    clear hf hp hl
    go_enter Try.func39, Try.ntmps39
    go_wp2_with fail
    refine C1.out.mono ?_
    rintro e w1 ⟨rfl, hb⟩
    rw [HP.out]
    have HB1 := Lib.hid hb
    clear hb
    go_wp2
    go_ret2
    exact ⟨none, 0, 0, by rw [HF.out]; rfl, by rw [HF.out]; exact OwnI.nil _ _, HB1.out⟩

end Go.Proofs.Ytiajkfgicpidkaa
