/- 'trimmed', 'degree', TopOfProfile of the program and of the reference. -/
import Derived.Test.YthmmopbmfgnnnaaSum
namespace Go.Proofs.Ythmmopbmfgnnnaa
open Go.ChangeShapes Go.WideShapes Go.ChangeAt Go.RowKit
set_option linter.unusedVariables false

/-- how many of the first k numbers are left without zeros at the end -/
def tlen (xs : List Int) : Nat → Nat
  | 0 => 0
  | k + 1 => if xs.getD k 0 = 0 then tlen xs k else k + 1
def trimL (xs : List Int) : List Int := xs.take (tlen xs xs.length)
theorem tlen_le (xs : List Int) (k : Nat) : tlen xs k ≤ k := by
  induction k with
  | zero => simp [tlen]
  | succ k ih =>
    rw [tlen]
    split <;> omega
theorem trimL_len (xs : List Int) : (trimL xs).length = tlen xs xs.length := by
  have := tlen_le xs xs.length
  simp [trimL]; omega

theorem OwnI.take {w B A n c xs} (h : OwnI w B A n c xs) {m : Nat} (hm : m ≤ n) : OwnI w B A m c (xs.take m) := by
  refine ⟨⟨?_, ?_⟩, fun x hx => h.2 x (List.mem_of_mem_take hx)⟩
  · have := h.len
    simp; omega
  · rcases h.1.2 with ⟨hv, h0⟩ | ⟨g, cap, cur, hv, hb, hg, hnc, hcm, hs, ht⟩
    · injection hv with h1 h2 h3
      subst h1; subst h3
      exact .inl ⟨by rw [show m = 0 by omega], by omega⟩
    · injection hv with h1 h2 h3
      subst h1; subst h3
      refine .inr ⟨g, c, cur, rfl, hb, hg, by omega, hcm, hs, ?_⟩
      rw [List.map_take, ← ht, List.take_take]
      congr 1; omega
theorem RI.take {w A n xs} (h : RI w A n xs) {m : Nat} (hm : m ≤ n) : RI w A m (xs.take m) := by
  have hl := h.len
  refine ⟨by simp; omega, Nat.le_trans hm h.2.1, fun x hx => h.2.2.1 x (List.mem_of_mem_take hx), fun h0 => ?_⟩
  obtain ⟨b, off, e, hb, hc⟩ := h.2.2.2 (by omega)
  exact ⟨b, off, e, hb, fun i hi => by rw [hc i (by omega)]; simp [List.getD, hi]⟩

set_option maxHeartbeats 400000 in
theorem trimmed_any (A : Option Addr) (n c : Nat) (xs : List Int) (w : World) (h : RI w A n xs) (hnc : n ≤ c) (hc63 : c ≤ 9223372036854775807) :
    Calls Try.prog 69 #[.slice A n c] w fun e w' => e = .returned (.slice A (tlen xs xs.length) c) ∧ w = w' := by
  have hl := h.len
  rw [hl]
  have H := Lib.hid h
  clear h hl
  go_enter Try.func69, Try.ntmps69
  go_wp2
  go_loop [0] (fun v => ∃ k : Nat, k ≤ n ∧ v = .slice A k c ∧ tlen xs k = tlen xs n) (fun v => match v with | .slice _ k _ => k | _ => 0)
  case atStart => exact ⟨n, Nat.le_refl _, rfl, rfl⟩
  case round =>
    obtain ⟨k, hk, rfl, ht⟩ := hrel
    cases k with
    | zero =>
      rw [tlen] at ht
      have HT := Lib.hid ht
      clear ht
      go_wp2
      go_ret
      exact ⟨by rw [← HT.out]; rfl, rfl⟩
    | succ k =>
      obtain ⟨b, off, rfl, _, hcell⟩ := H.out.at_ (i := k) (by omega)
      have e1 : ((k + 1 : Nat) : Int) - 1 = (k : Int) := by omega
      have b1 : (0 : Int) < ((k + 1 : Nat) : Int) := by omega
      rw [tlen] at ht
      by_cases hz : xs.getD k 0 = 0
      · rw [if_pos hz] at ht
        rw [hz] at hcell
        have HT := Lib.hid ht
        clear ht hz
        go_wp2
        go_round
        case rel => exact ⟨k, by omega, rfl, HT.out⟩
        case measure => simp
      · rw [if_neg hz] at ht
        generalize xs.getD k 0 = x at *
        have hz' : (x == 0) = false := by simpa using hz
        have HT := Lib.hid ht
        clear ht hz
        go_wp2
        go_ret
        exact ⟨by rw [← HT.out]; rfl, rfl⟩

/-- the degree, as int64 counts it -/
def degW (s : Int) (i : Nat) : List Int → Int
  | [] => s
  | x :: xs => degW (wrap64 (s + wrap64 (x * (((2 ^ (i + 1) : Nat) : Int) - 1)))) (i + 1) xs

set_option maxHeartbeats 400000 in
theorem impl_degree (A : Option Addr) (n c : Nat) (xs : List Int) (w : World) (h : RI w A n xs) (hn : n ≤ 40) :
    Calls Try.prog 64 #[.slice A n c] w fun e w' => e = .returned (.int .i64 (degW 0 0 xs)) ∧ w = w' := by
  have H := Lib.hid h
  clear h
  go_enter Try.func64, Try.ntmps64
  go_wp2
  go_loop [3, 8] (fun sv i => ∃ (k : Nat) (s : Int), k ≤ n ∧ i = .int .i64 k ∧ sv = .int .i64 s ∧ degW s k (xs.drop k) = degW 0 0 xs) (fun _ i => n - (intOf i).toNat)
  case atStart => exact ⟨0, 0, Nat.zero_le _, rfl, rfl, by simp⟩
  case round =>
    obtain ⟨k, s, hk, rfl, rfl, ht⟩ := hrel
    by_cases hlt : k < n
    · obtain ⟨b, off, rfl, _, hcell⟩ := H.out.at_ hlt
      have hl := H.out.len
      have hdr := dropc xs k (by omega)
      generalize xs.getD k 0 = x at *
      rw [hdr, degW] at ht
      have hP := pow_wrap (k + 1) (by omega)
      have hP2 := pow_le (k + 1) 41 (by omega)
      rw [show (2 : Nat) ^ 41 = 2199023255552 by decide] at hP2
      generalize (2 : Nat) ^ (k + 1) = P at *
      have HT := Lib.hid ht
      clear hl hdr ht
      go_wp2
      go_round
      case rel => exact ⟨k + 1, _, by omega, by go_num, rfl, HT.out⟩
      case measure => simp [intOf]; omega
    · obtain rfl : k = n := by omega
      have hl := H.out.len
      rw [List.drop_of_length_le (by omega), degW] at ht
      have HT := Lib.hid ht
      clear ht hl
      go_wp2
      go_ret
      exact ⟨by rw [← HT.out]; rfl, rfl⟩

def topL (xs : List Int) : List Int := xs.map fun x => ((2 ^ x.toNat : Nat) : Int) - 1

def Prof (xs : List Int) : Prop := ∀ x ∈ xs, 0 ≤ x ∧ x ≤ 10

set_option maxHeartbeats 400000 in
theorem impl_top (A : Option Addr) (n c : Nat) (xs : List Int) (w : World) (h : RI w A n xs) (hn : n ≤ 16) (hx : Prof xs) :
    Calls Try.prog 65 #[.slice A n c] w fun e w' => ∃ A' c' m, m ≤ n ∧ e = .returned (.slice A' m c') ∧ OwnI w' w.heap.size A' m c' (trimL (topL xs)) ∧ Below w.heap.size w w' := by
  have H := Lib.hid h
  have HX := Lib.hid hx
  clear h hx
  have HI := Lib.hid (show OwnI (w.alloc (.cells #[] 2)) w.heap.size (some ⟨w.heap.size, 0, none⟩) 0 0 (topL (xs.take 0)) from empty_own w)
  have HB := Lib.hid (show Below w.heap.size w (w.alloc (.cells #[] 2)) from (Below.refl _ _).alloc (Nat.le_refl _) _)
  go_enter Try.func65, Try.ntmps65
  go_wp2
  go_loopw [3, 9] (fun v i wr => ∃ (k : Nat) (A : Option Addr) (c : Nat), k ≤ n ∧ i = .int .i64 (k : Int) ∧ v = .slice A k c ∧ OwnI wr w.heap.size A k c (topL (xs.take k)) ∧ Below w.heap.size w wr) (fun _ i _ => n - (intOf i).toNat)
  case atStart => exact ⟨0, _, _, Nat.zero_le _, rfl, rfl, HI.out, HB.out⟩
  case round =>
    obtain ⟨k, A1, c1, hk, rfl, rfl, ho, hb⟩ := hrel
    have HO := Lib.hid ho
    have HBW := Lib.hid hb
    clear ho hb HI HB
    have hl := H.out.len
    by_cases hlt : k < n
    · obtain ⟨b, off, rfl, _, hcell⟩ := (H.out.below HBW.out).at_ hlt
      have hk2 : k < xs.length := by omega
      have htk : xs.take (k + 1) = xs.take k ++ [xs.getD k 0] := by
        rw [List.take_succ_eq_append_getElem hk2]; simp [List.getD, hk2]
      have hxk := HX.out (xs.getD k 0) (by simp [List.getD, hk2])
      generalize xs.getD k 0 = x at *
      obtain ⟨m, rfl⟩ := Int.eq_ofNat_of_zero_le hxk.1
      have hm : m ≤ 10 := by omega
      have hP := pow_wrap m (by omega)
      have hP2 := pow_le m 10 (by omega)
      rw [show (2 : Nat) ^ 10 = 1024 by decide] at hP2
      have HTL := Lib.hid (show topL (xs.take (k + 1)) = topL (xs.take k) ++ [((2 ^ m : Nat) : Int) - 1] by rw [htk]; simp [topL])
      generalize (2 : Nat) ^ m = P at *
      clear htk hxk hl hk2
      go_wp2_with (at_builtin; refine app1 _ _ _ _ _ _ _ _ _ rfl rfl rfl rfl HO.out (I64.mk (by omega) (by omega)) (by omega) HBW.out.size ?_; intro g c' w1 ho2 hg)
      rw [← HTL.out] at ho2
      have HO2 := Lib.hid ho2
      have HB2 := Lib.hid (HBW.out.grown hg HBW.out.size (fun k hk => HO.out.row_ge hk))
      clear ho2 hg
      go_wp2
      go_roundw
      case rel => exact ⟨k + 1, _, _, by omega, by go_num, rfl, HO2.out, HB2.out⟩
      case measure => simp [intOf]; omega
    · obtain rfl : k = n := by omega
      have e1 : xs.take k = xs := by rw [← hl]; exact List.take_length
      have ho := HO.out
      rw [e1] at ho
      have hnc : k ≤ c1 ∧ c1 ≤ 9223372036854775807 := by
        rcases ho.1.2 with ⟨hv, h0⟩ | ⟨g, cap, cur, hv, hb, hg, hnc, hcm, hs, ht⟩
        · injection hv with h1 h2 h3; unfold maxLen at *; omega
        · injection hv with h1 h2 h3; unfold maxLen at *; omega
      have con := trimmed_any A1 k c1 (topL xs) wr ho.reads hnc.1 hnc.2
      have hlt2 : (topL xs).length = k := ho.len
      rw [hlt2] at con
      have htl := tlen_le (topL xs) k
      have hfin := ho.take htl
      have HF := Lib.hid (show OwnI wr w.heap.size A1 (tlen (topL xs) k) c1 (trimL (topL xs)) by unfold trimL; rw [hlt2]; exact hfin)
      have CON := Lib.hid con
      clear con e1 hl ho hfin hlt2 hnc
      go_wp2_with fail
      refine CON.out.mono ?_
      rintro e w1 ⟨rfl, rfl⟩
      go_wp2
      go_ret
      exact ⟨A1, c1, _, htl, rfl, HF.out, HBW.out⟩

theorem I64_degW (xs : List Int) : ∀ (s : Int) (i : Nat), I64 s → I64 (degW s i xs) := by
  induction xs with
  | nil => intro s i h; exact h
  | cons x xs ih => intro s i h; rw [degW]; exact ih _ _ (I64.wrap64 _)

theorem degW_zeros (xs : List Int) : ∀ (s : Int) (i : Nat), I64 s → (∀ x ∈ xs, x = 0) → degW s i xs = s := by
  induction xs with
  | nil => intro s i _ _; rfl
  | cons x xs ih =>
    intro s i hs hx
    have h0 := hx x (List.mem_cons_self ..)
    subst h0
    have hb := hs.bd
    have e : wrap64 (s + wrap64 (0 * (((2 ^ (i + 1) : Nat) : Int) - 1))) = s := by
      rw [Int.zero_mul, wrap64_id (x := 0) (by omega) (by omega), Int.add_zero, wrap64_id hb.1 hb.2]
    rw [degW, e]
    exact ih s (i + 1) hs (fun y hy => hx y (List.mem_cons_of_mem _ hy))

theorem degW_append (xs ys : List Int) : ∀ (s : Int) (i : Nat), degW s i (xs ++ ys) = degW (degW s i xs) (i + xs.length) ys := by
  induction xs with
  | nil => intro s i; simp [degW]
  | cons x xs ih => intro s i; simp only [List.cons_append, degW, List.length_cons]; rw [ih, show i + 1 + xs.length = i + (xs.length + 1) by omega]

theorem tlen_zero (xs : List Int) (k : Nat) (j : Nat) (h1 : tlen xs k ≤ j) (h2 : j < k) : xs.getD j 0 = 0 := by
  induction k with
  | zero => omega
  | succ k ih =>
    rw [tlen] at h1
    by_cases hz : xs.getD k 0 = 0
    · rw [if_pos hz] at h1
      by_cases e : j = k
      · rw [e]; exact hz
      · exact ih h1 (by omega)
    · rw [if_neg hz] at h1; omega

theorem degW_trim (xs : List Int) (s : Int) (i : Nat) (hs : I64 s) : degW s i (trimL xs) = degW s i xs := by
  conv => rhs; rw [← List.take_append_drop (tlen xs xs.length) xs, degW_append]
  rw [degW_zeros _ _ _ (I64_degW _ _ _ hs)]
  · rfl
  · intro x hx
    obtain ⟨j, hj, rfl⟩ := List.getElem_of_mem hx
    rw [List.length_drop] at hj
    have := tlen_zero xs xs.length (tlen xs xs.length + j) (by omega) (by omega)
    rw [List.getElem_drop]
    simpa [List.getD, show tlen xs xs.length + j < xs.length by omega] using this

def pTopOfProfile (xs : List Int) : Int × Int := if pIsProfile xs = true then (degW 0 0 (topL xs), 0) else (0, 1)

theorem impl_TopOfProfile (A : Option Addr) (n c : Nat) (xs : List Int) (w : World) (h : RI w A n xs) (hn : n ≤ 1048576) :
    Calls Try.prog 43 #[.slice A n c] w fun e w' => e = .returned (.tuple #[.int .i64 (pTopOfProfile xs).1, .int .i64 (pTopOfProfile xs).2]) ∧ Below w.heap.size w w' := by
  have c1 := impl_IsProfile A n c xs w h hn
  have C1 := Lib.hid c1
  have hl := h.len
  have H := Lib.hid h
  clear c1 h
  by_cases hp : pIsProfile xs = true
  · have hpt := pIsProfile_true hp
    have hf : pTopOfProfile xs = (degW 0 0 (topL xs), 0) := by unfold pTopOfProfile; rw [if_pos hp]
    have HF := Lib.hid hf
    have HP := Lib.hid hp
    have HX := Lib.hid (show Prof xs from hpt.2)
    have hn16 : n ≤ 16 := by omega
    clear hf hp hpt hl
    go_enter Try.func43, Try.ntmps43
    go_wp2_with fail
    refine C1.out.mono ?_
    rintro e w1 ⟨rfl, hb⟩
    have HB := Lib.hid hb
    clear hb
    rw [HP.out]
    go_wp2_with fail
    refine (impl_top A n c xs _ (H.out.below HB.out) hn16 HX.out).mono ?_
    rintro e w2 ⟨A2, c2, m, hm, rfl, ho, hb⟩
    have HB2 := Lib.hid (HB.out.trans (hb.mono HB.out.size))
    have HO := Lib.hid ho
    clear ho hb
    go_wp2_with fail
    refine (impl_degree A2 m c2 _ _ HO.out.reads (by omega)).mono ?_
    rintro e w3 ⟨rfl, rfl⟩
    go_wp2
    go_ret2
    refine ⟨?_, HB2.out⟩
    rw [HF.out]
    show Ending.returned (.tuple #[.int .i64 (degW 0 0 (trimL (topL xs))), .int .i64 0]) = _
    rw [degW_trim _ _ _ (I64.mk (by omega) (by omega))]
  · have hp' : pIsProfile xs = false := by simpa using hp
    have hf : pTopOfProfile xs = (0, 1) := by unfold pTopOfProfile; rw [if_neg hp]
    have HF := Lib.hid hf
    have HP := Lib.hid hp'
    clear hf hp hp' hl
    go_enter Try.func43, Try.ntmps43
    go_wp2_with fail
    refine C1.out.mono ?_
    rintro e w1 ⟨rfl, hb⟩
    have HB := Lib.hid hb
    clear hb
    rw [HP.out]
    go_wp2
    go_ret2
    exact ⟨by rw [HF.out]; rfl, HB.out⟩

set_option maxHeartbeats 400000 in
theorem spec_TopOfProfile (A : Option Addr) (n c : Nat) (xs : List Int) (w : World) (h : RI w A n xs) (hn : n ≤ 1048576) :
    Calls Try.prog 42 #[.slice A n c] w fun e w' => e = .returned (.tuple #[.int .i64 (pTopOfProfile xs).1, .int .i64 (pTopOfProfile xs).2]) ∧ Below w.heap.size w w' := by
  have c1 := spec_l07Is A n c xs w h
  have C1 := Lib.hid c1
  have hl := h.len
  have H := Lib.hid h
  clear c1 h
  by_cases hp : pIsProfile xs = true
  · have hpt := pIsProfile_true hp
    have hf : pTopOfProfile xs = (degW 0 0 (topL xs), 0) := by unfold pTopOfProfile; rw [if_pos hp]
    have HF := Lib.hid hf
    have HP := Lib.hid hp
    have HX := Lib.hid (show Prof xs from hpt.2)
    have hn16 : n ≤ 16 := by omega
    clear hf hp hpt hl
    go_enter Try.func42, Try.ntmps42
    go_wp2_with fail
    refine C1.out.mono ?_
    rintro e w1 ⟨rfl, rfl⟩
    rw [HP.out]
    go_wp2
    go_loop [4, 5] (fun sv i => ∃ (k : Nat) (s : Int), k ≤ n ∧ i = .int .i64 k ∧ sv = .int .i64 s ∧ degW s k (topL (xs.drop k)) = degW 0 0 (topL xs)) (fun _ i => n - (intOf i).toNat)
    case atStart => exact ⟨0, 0, Nat.zero_le _, rfl, rfl, by simp⟩
    case round =>
      obtain ⟨k, s, hk, rfl, rfl, ht⟩ := hrel
      have hl := H.out.len
      by_cases hlt : k < n
      · obtain ⟨b, off, rfl, _, hcell⟩ := H.out.at_ hlt
        have hk2 : k < xs.length := by omega
        have hdr := dropc xs k (by omega)
        have hxk := HX.out (xs.getD k 0) (by simp [List.getD, hk2])
        generalize xs.getD k 0 = x at *
        obtain ⟨m, rfl⟩ := Int.eq_ofNat_of_zero_le hxk.1
        have hm : m ≤ 10 := by omega
        rw [hdr, show topL ((m : Int) :: xs.drop (k + 1)) = (((2 ^ m : Nat) : Int) - 1) :: topL (xs.drop (k + 1)) by simp [topL], degW] at ht
        have hP := pow_wrap (k + 1) (by omega)
        have hP2 := pow_le (k + 1) 41 (by omega)
        rw [show (2 : Nat) ^ 41 = 2199023255552 by decide] at hP2
        have hQ := pow_wrap m (by omega)
        have hQ2 := pow_le m 10 (by omega)
        rw [show (2 : Nat) ^ 10 = 1024 by decide] at hQ2
        generalize (2 : Nat) ^ (k + 1) = P at *
        generalize (2 : Nat) ^ m = Q at *
        have HT := Lib.hid ht
        clear hl hdr ht hxk hk2
        go_wp2
        go_round
        case rel => exact ⟨k + 1, _, by omega, by go_num, rfl, HT.out⟩
        case measure => simp [intOf]; omega
      · obtain rfl : k = n := by omega
        rw [List.drop_of_length_le (by omega), show topL [] = [] from rfl, degW] at ht
        have HT := Lib.hid ht
        clear ht hl
        go_wp2
        go_ret2
        exact ⟨by rw [HF.out, ← HT.out]; rfl, Below.refl _ _⟩
  · have hp' : pIsProfile xs = false := by simpa using hp
    have hf : pTopOfProfile xs = (0, 1) := by unfold pTopOfProfile; rw [if_neg hp]
    have HF := Lib.hid hf
    have HP := Lib.hid hp'
    clear hf hp hp' hl
    go_enter Try.func42, Try.ntmps42
    go_wp2_with fail
    refine C1.out.mono ?_
    rintro e w1 ⟨rfl, rfl⟩
    rw [HP.out]
    go_wp2
    go_ret2
    exact ⟨by rw [HF.out]; rfl, Below.refl _ _⟩

end Go.Proofs.Ythmmopbmfgnnnaa
