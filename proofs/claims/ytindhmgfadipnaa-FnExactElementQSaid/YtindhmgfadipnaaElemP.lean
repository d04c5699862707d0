/- ElementP and ElementQ of the program and of the reference: the functions as a whole. (gen_elem.py) -/
import Derived.Test.YtindhmgfadipnaaElem
import Derived.Test.YtindhmgfadipnaaBlk
namespace Go.Proofs.Ytindhmgfadipnaa
open Go.ChangeShapes Go.WideShapes Go.ChangeAt Go.RowKit
set_option linter.unusedVariables false

def pElementQ (i : Int) : List (List Int) × Int := if inB i 0 9 = true then pElementP 0 (i + 1) else ([], 2)

theorem pElementQ_sz (i : Int) : tot (pElementQ i).1 ≤ 4000000000 := by
  unfold pElementQ
  split
  · exact pElementP_sz _ _
  · simp [tot]

set_option maxHeartbeats 400000 in
theorem impl_ElementP {s t : Int} {w} (hs : I64 s) (ht : I64 t) :
    Calls Try.prog 19 #[.int .i64 s, .int .i64 t] w fun e w' => ∃ A n c vs, e = .returned (.tuple #[.agg #[.slice A n c], .int .i64 (pElementP s t).2]) ∧ OwnS w' w.heap.size A n c vs (pElementP s t).1 ∧ Below w.heap.size w w' := by
  have hb0 := box_below w (.cells #[.slice none 0 0] 24)
  have hbk := Blk.new w #[.slice none 0 0] 24
  have hz : (w.alloc (.cells #[.slice none 0 0] 24)).heap.size = w.heap.size + 1 := by simp
  have HB0 := Lib.hid hb0
  have HBK := Lib.hid hbk
  have HZ := Lib.hid hz
  clear hs ht hb0 hbk hz
  cases h1 : inB s 0 10 with
  | false =>
    have HF := Lib.hid (show pElementP s t = ([], 2) by unfold pElementP; rw [h1]; rfl)
    have HK := Lib.hid h1
    clear h1
    go_enter Try.func19, Try.ntmps19
    go_wp2_with fail
    refine (in_any _ _ _ _).mono ?_
    rintro e w' ⟨rfl, rfl⟩
    rw [HK.out]
    generalize w.alloc (.cells #[.slice none 0 0] 24) = W0 at *
    have c20 := HBK.out.cell 0 rfl
    have f20 := HBK.out.free 0
    go_wp2
    refine bodyPost_ret (v := .tuple #[.agg #[.slice none 0 0], .int .i64 2]) (by simp [results, Try.results19, go_sem, c20]) rfl ?_
    rw [HF.out]
    exact ⟨none, 0, 0, [], rfl, OwnS.nil _ _, HB0.out.setCell (Nat.le_refl _) _⟩
  | true =>
    have h1b := inB_true h1
    have HK := Lib.hid h1
    cases h2 : inB t 1 10 with
    | false =>
      have HF := Lib.hid (show pElementP s t = ([], 2) by unfold pElementP; rw [h1, h2]; rfl)
      have HK2 := Lib.hid h2
      clear h1 h2 h1b
      go_enter Try.func19, Try.ntmps19
      go_wp2_with fail
      refine (in_any _ _ _ _).mono ?_
      rintro e w' ⟨rfl, rfl⟩
      rw [HK.out]
      go_wp2_with fail
      refine (in_any _ _ _ _).mono ?_
      rintro e w' ⟨rfl, rfl⟩
      rw [HK2.out]
      generalize w.alloc (.cells #[.slice none 0 0] 24) = W0 at *
      have c20 := HBK.out.cell 0 rfl
      have f20 := HBK.out.free 0
      go_wp2
      refine bodyPost_ret (v := .tuple #[.agg #[.slice none 0 0], .int .i64 2]) (by simp [results, Try.results19, go_sem, c20]) rfl ?_
      rw [HF.out]
      exact ⟨none, 0, 0, [], rfl, OwnS.nil _ _, HB0.out.setCell (Nat.le_refl _) _⟩
    | true =>
      have h2b := inB_true h2
      have HK2 := Lib.hid h2
      obtain ⟨k, rfl⟩ := Int.eq_ofNat_of_zero_le h1b.1
      obtain ⟨m, rfl⟩ : ∃ m : Nat, t = (m : Int) + 1 := ⟨(t - 1).toNat, by omega⟩
      have hpe : pElementP (k : Int) ((m : Int) + 1) = if 40 < degW 0 0 (powL m k) then ([], 3) else ([powL m k], 0) := by
        unfold pElementP
        rw [if_pos h1, if_pos h2, Int.toNat_natCast, show ((m : Int) + 1).toNat - 1 = m by omega]
      have HPE := Lib.hid hpe
      have hlen := powL_len m k
      have hk10 : k ≤ 10 := by omega
      have hm9 : m ≤ 9 := by omega
      clear h1 h2 h1b h2b hpe
      have CE := Lib.hid (fun w1 => impl_elementP (w := w1) hm9 hk10)
      by_cases h40 : 40 < degW 0 0 (powL m k)
      · have HF := Lib.hid (HPE.out.trans (if_pos h40))
        have hd : decide (40 < degW 0 0 (powL m k)) = true := decide_eq_true h40
        go_enter Try.func19, Try.ntmps19
        go_wp2_with fail
        refine (in_any _ _ _ _).mono ?_
        rintro e w' ⟨rfl, rfl⟩
        rw [HK.out]
        go_wp2_with fail
        refine (in_any _ _ _ _).mono ?_
        rintro e w' ⟨rfl, rfl⟩
        rw [HK2.out]
        generalize w.alloc (.cells #[.slice none 0 0] 24) = W0 at *
        go_wp2_with fail
        refine (CE.out W0).mono ?_
        rintro e w1 ⟨g, rfl, ho, hb⟩
        have CD := Lib.hid (impl_degree _ (m + 1) (m + 1) (powL m k) w1 ho.reads (by omega))
        have HX1 := Lib.hid (HBK.out.below hb)
        have HB := Lib.hid (HB0.out.trans (hb.mono HB0.out.size))
        clear ho hb
        generalize degW 0 0 (powL m k) = d at *
        go_wp2_with fail
        refine CD.out.mono ?_
        rintro e w2 ⟨rfl, rfl⟩
        have c20 := HX1.out.cell 0 rfl
        have f20 := HX1.out.free 0
        go_wp2
        refine bodyPost_ret (v := .tuple #[.agg #[.slice none 0 0], .int .i64 3]) (by simp [results, Try.results19, go_sem, c20]) rfl ?_
        rw [HF.out]
        exact ⟨none, 0, 0, [], rfl, OwnS.nil _ _, HB.out.setCell (Nat.le_refl _) _⟩
      · have HF := Lib.hid (HPE.out.trans (if_neg h40))
        have hd : decide (40 < degW 0 0 (powL m k)) = false := decide_eq_false h40
        go_enter Try.func19, Try.ntmps19
        go_wp2_with fail
        refine (in_any _ _ _ _).mono ?_
        rintro e w' ⟨rfl, rfl⟩
        rw [HK.out]
        go_wp2_with fail
        refine (in_any _ _ _ _).mono ?_
        rintro e w' ⟨rfl, rfl⟩
        rw [HK2.out]
        generalize w.alloc (.cells #[.slice none 0 0] 24) = W0 at *
        go_wp2_with fail
        refine (CE.out W0).mono ?_
        rintro e w1 ⟨g, rfl, ho, hb⟩
        have CD := Lib.hid (impl_degree _ (m + 1) (m + 1) (powL m k) w1 ho.reads (by omega))
        have HX1 := Lib.hid (HBK.out.below hb)
        have HB := Lib.hid (HB0.out.trans (hb.mono HB0.out.size))
        have hsz : w.heap.size + 1 ≤ w1.heap.size := by have := HZ.out; have := hb.size; omega
        have HO := Lib.hid (lit1S_own w1 W0.heap.size (some ⟨g, 0, none⟩, m + 1, m + 1) (powL m k) ho hb.size)
        have HX2 := Lib.hid (HX1.out.alloc (.cells #[.slice (some ⟨g, 0, none⟩) (m + 1) (m + 1)] 36))
        have HB2 := Lib.hid (HB.out.trans ((box_below w1 (.cells #[.slice (some ⟨g, 0, none⟩) (m + 1) (m + 1)] 36)).mono HB.out.size))
        clear ho hb
        generalize degW 0 0 (powL m k) = d at *
        go_wp2_with fail
        refine CD.out.mono ?_
        rintro e w2 ⟨rfl, rfl⟩
        have c20 := HX2.out.cell 0 rfl
        have f20 := HX2.out.free 0
        go_wp2
        refine bodyPost_ret (v := .tuple #[.agg #[.slice (some ⟨w1.heap.size, 0, none⟩) 1 1], .int .i64 0]) (by simp [results, Try.results19, go_sem, c20]) rfl ?_
        rw [HF.out]
        refine ⟨_, _, _, _, rfl, (HO.out.setFar ⟨w.heap.size, 0, none⟩ _ (by show w.heap.size < W0.heap.size; have := HZ.out; omega)).mono (by have := HZ.out; omega), HB2.out.setCell (Nat.le_refl _) _⟩

set_option maxHeartbeats 400000 in
theorem spec_ElementP {s t : Int} {w} (hs : I64 s) (ht : I64 t) :
    Calls Try.prog 18 #[.int .i64 s, .int .i64 t] w fun e w' => ∃ A n c vs, e = .returned (.tuple #[.agg #[.slice A n c], .int .i64 (pElementP s t).2]) ∧ OwnS w' w.heap.size A n c vs (pElementP s t).1 ∧ Below w.heap.size w w' := by
  have hb0 := box_below w (.cells #[.slice none 0 0] 24)
  have hbk := Blk.new w #[.slice none 0 0] 24
  have hz : (w.alloc (.cells #[.slice none 0 0] 24)).heap.size = w.heap.size + 1 := by simp
  have HB0 := Lib.hid hb0
  have HBK := Lib.hid hbk
  have HZ := Lib.hid hz
  clear hs ht hb0 hbk hz
  cases h1 : inB s 0 10 with
  | false =>
    have HF := Lib.hid (show pElementP s t = ([], 2) by unfold pElementP; rw [h1]; rfl)
    have HK := Lib.hid h1
    clear h1
    go_enter Try.func18, Try.ntmps18
    go_wp2_with fail
    refine (l01In_any _ _ _ _).mono ?_
    rintro e w' ⟨rfl, rfl⟩
    rw [HK.out]
    generalize w.alloc (.cells #[.slice none 0 0] 24) = W0 at *
    have c20 := HBK.out.cell 0 rfl
    have f20 := HBK.out.free 0
    go_wp2
    refine bodyPost_ret (v := .tuple #[.agg #[.slice none 0 0], .int .i64 2]) (by simp [results, Try.results18, go_sem, c20]) rfl ?_
    rw [HF.out]
    exact ⟨none, 0, 0, [], rfl, OwnS.nil _ _, HB0.out.setCell (Nat.le_refl _) _⟩
  | true =>
    have h1b := inB_true h1
    have HK := Lib.hid h1
    cases h2 : inB t 1 10 with
    | false =>
      have HF := Lib.hid (show pElementP s t = ([], 2) by unfold pElementP; rw [h1, h2]; rfl)
      have HK2 := Lib.hid h2
      clear h1 h2 h1b
      go_enter Try.func18, Try.ntmps18
      go_wp2_with fail
      refine (l01In_any _ _ _ _).mono ?_
      rintro e w' ⟨rfl, rfl⟩
      rw [HK.out]
      go_wp2_with fail
      refine (l01In_any _ _ _ _).mono ?_
      rintro e w' ⟨rfl, rfl⟩
      rw [HK2.out]
      generalize w.alloc (.cells #[.slice none 0 0] 24) = W0 at *
      have c20 := HBK.out.cell 0 rfl
      have f20 := HBK.out.free 0
      go_wp2
      refine bodyPost_ret (v := .tuple #[.agg #[.slice none 0 0], .int .i64 2]) (by simp [results, Try.results18, go_sem, c20]) rfl ?_
      rw [HF.out]
      exact ⟨none, 0, 0, [], rfl, OwnS.nil _ _, HB0.out.setCell (Nat.le_refl _) _⟩
    | true =>
      have h2b := inB_true h2
      have HK2 := Lib.hid h2
      obtain ⟨k, rfl⟩ := Int.eq_ofNat_of_zero_le h1b.1
      obtain ⟨m, rfl⟩ : ∃ m : Nat, t = (m : Int) + 1 := ⟨(t - 1).toNat, by omega⟩
      have hpe : pElementP (k : Int) ((m : Int) + 1) = if 40 < degW 0 0 (powL m k) then ([], 3) else ([powL m k], 0) := by
        unfold pElementP
        rw [if_pos h1, if_pos h2, Int.toNat_natCast, show ((m : Int) + 1).toNat - 1 = m by omega]
      have HPE := Lib.hid hpe
      have hlen := powL_len m k
      have hk10 : k ≤ 10 := by omega
      have hm9 : m ≤ 9 := by omega
      clear h1 h2 h1b h2b hpe
      have CE := Lib.hid (fun w1 => spec_l06Power (w := w1) hm9 hk10)
      by_cases h40 : 40 < degW 0 0 (powL m k)
      · have HF := Lib.hid (HPE.out.trans (if_pos h40))
        have hd : decide (40 < degW 0 0 (powL m k)) = true := decide_eq_true h40
        have hu : IntKind.u64.wrap (k : Int) = (k : Int) := wrap_u64_id _ (by omega) (by omega)
        have hmn : min k 64 = k := by omega
        have hpw : IntKind.i64.wrap ((2 : Int) ^ k) = ((2 ^ k : Nat) : Int) := by rw [IntWalk.i64_left]; exact pow_wrap62 k (by omega)
        generalize hpe : 2 ^ k = p at *
        go_enter Try.func18, Try.ntmps18
        go_wp2_with fail
        refine (l01In_any _ _ _ _).mono ?_
        rintro e w' ⟨rfl, rfl⟩
        rw [HK.out]
        go_wp2_with fail
        refine (l01In_any _ _ _ _).mono ?_
        rintro e w' ⟨rfl, rfl⟩
        rw [HK2.out]
        generalize w.alloc (.cells #[.slice none 0 0] 24) = W0 at *
        go_wp2_with fail
        refine (CE.out W0).mono ?_
        rintro e w1 ⟨g, rfl, ho, hb⟩
        have CD := Lib.hid (spec_l01Degree _ (m + 1) (m + 1) (powL m k) w1 ho.reads (by omega))
        have HX1 := Lib.hid (HBK.out.below hb)
        have HB := Lib.hid (HB0.out.trans (hb.mono HB0.out.size))
        clear ho hb
        generalize degW 0 0 (powL m k) = d at *
        go_wp2_with fail
        refine CD.out.mono ?_
        rintro e w2 ⟨rfl, rfl⟩
        have c20 := HX1.out.cell 0 rfl
        have f20 := HX1.out.free 0
        go_wp2
        refine bodyPost_ret (v := .tuple #[.agg #[.slice none 0 0], .int .i64 3]) (by simp [results, Try.results18, go_sem, c20]) rfl ?_
        rw [HF.out]
        exact ⟨none, 0, 0, [], rfl, OwnS.nil _ _, HB.out.setCell (Nat.le_refl _) _⟩
      · have HF := Lib.hid (HPE.out.trans (if_neg h40))
        have hd : decide (40 < degW 0 0 (powL m k)) = false := decide_eq_false h40
        have hu : IntKind.u64.wrap (k : Int) = (k : Int) := wrap_u64_id _ (by omega) (by omega)
        have hmn : min k 64 = k := by omega
        have hpw : IntKind.i64.wrap ((2 : Int) ^ k) = ((2 ^ k : Nat) : Int) := by rw [IntWalk.i64_left]; exact pow_wrap62 k (by omega)
        generalize hpe : 2 ^ k = p at *
        go_enter Try.func18, Try.ntmps18
        go_wp2_with fail
        refine (l01In_any _ _ _ _).mono ?_
        rintro e w' ⟨rfl, rfl⟩
        rw [HK.out]
        go_wp2_with fail
        refine (l01In_any _ _ _ _).mono ?_
        rintro e w' ⟨rfl, rfl⟩
        rw [HK2.out]
        generalize w.alloc (.cells #[.slice none 0 0] 24) = W0 at *
        go_wp2_with fail
        refine (CE.out W0).mono ?_
        rintro e w1 ⟨g, rfl, ho, hb⟩
        have CD := Lib.hid (spec_l01Degree _ (m + 1) (m + 1) (powL m k) w1 ho.reads (by omega))
        have HX1 := Lib.hid (HBK.out.below hb)
        have HB := Lib.hid (HB0.out.trans (hb.mono HB0.out.size))
        have hsz : w.heap.size + 1 ≤ w1.heap.size := by have := HZ.out; have := hb.size; omega
        have HO := Lib.hid (lit1S_own w1 W0.heap.size (some ⟨g, 0, none⟩, m + 1, m + 1) (powL m k) ho hb.size)
        have HX2 := Lib.hid (HX1.out.alloc (.cells #[.slice (some ⟨g, 0, none⟩) (m + 1) (m + 1)] 36))
        have HB2 := Lib.hid (HB.out.trans ((box_below w1 (.cells #[.slice (some ⟨g, 0, none⟩) (m + 1) (m + 1)] 36)).mono HB.out.size))
        clear ho hb
        generalize degW 0 0 (powL m k) = d at *
        go_wp2_with fail
        refine CD.out.mono ?_
        rintro e w2 ⟨rfl, rfl⟩
        have c20 := HX2.out.cell 0 rfl
        have f20 := HX2.out.free 0
        go_wp2
        refine bodyPost_ret (v := .tuple #[.agg #[.slice (some ⟨w1.heap.size, 0, none⟩) 1 1], .int .i64 0]) (by simp [results, Try.results18, go_sem, c20]) rfl ?_
        rw [HF.out]
        refine ⟨_, _, _, _, rfl, (HO.out.setFar ⟨w.heap.size, 0, none⟩ _ (by show w.heap.size < W0.heap.size; have := HZ.out; omega)).mono (by have := HZ.out; omega), HB2.out.setCell (Nat.le_refl _) _⟩

set_option maxHeartbeats 400000 in
theorem impl_ElementQ {i : Int} {w} (hi : I64 i) :
    Calls Try.prog 24 #[.int .i64 i] w fun e w' => ∃ A n c vs, e = .returned (.tuple #[.agg #[.slice A n c], .int .i64 (pElementQ i).2]) ∧ OwnS w' w.heap.size A n c vs (pElementQ i).1 ∧ Below w.heap.size w w' := by
  have hb0 := box_below w (.cells #[.slice none 0 0] 24)
  have hbk := Blk.new w #[.slice none 0 0] 24
  have hz : (w.alloc (.cells #[.slice none 0 0] 24)).heap.size = w.heap.size + 1 := by simp
  have HB0 := Lib.hid hb0
  have HBK := Lib.hid hbk
  have HZ := Lib.hid hz
  clear hi hb0 hbk hz
  cases h1 : inB i 0 9 with
  | false =>
    have HF := Lib.hid (show pElementQ i = ([], 2) by unfold pElementQ; rw [h1]; rfl)
    have HK := Lib.hid h1
    clear h1
    go_enter Try.func24, Try.ntmps24
    go_wp2_with fail
    refine (in_any _ _ _ _).mono ?_
    rintro e w' ⟨rfl, rfl⟩
    rw [HK.out]
    generalize w.alloc (.cells #[.slice none 0 0] 24) = W0 at *
    have c20 := HBK.out.cell 0 rfl
    have f20 := HBK.out.free 0
    go_wp2
    refine bodyPost_ret (v := .tuple #[.agg #[.slice none 0 0], .int .i64 2]) (by simp [results, Try.results24, go_sem, c20]) rfl ?_
    rw [HF.out]
    exact ⟨none, 0, 0, [], rfl, OwnS.nil _ _, HB0.out.setCell (Nat.le_refl _) _⟩
  | true =>
    have h1b := inB_true h1
    have HK := Lib.hid h1
    have HF := Lib.hid (show pElementQ i = pElementP 0 (i + 1) by unfold pElementQ; rw [h1]; rfl)
    have CE := Lib.hid (fun w1 => impl_ElementP (s := 0) (t := i + 1) (w := w1) (I64.mk (by omega) (by omega)) (I64.mk (by omega) (by omega)))
    generalize pElementP 0 (i + 1) = r at *
    obtain ⟨r1, q⟩ := r
    simp only at CE
    clear h1
    go_enter Try.func24, Try.ntmps24
    go_wp2_with fail
    refine (in_any _ _ _ _).mono ?_
    rintro e w' ⟨rfl, rfl⟩
    rw [HK.out]
    generalize w.alloc (.cells #[.slice none 0 0] 24) = W0 at *
    go_wp2_with fail
    refine (CE.out W0).mono ?_
    rintro e w1 ⟨A, n, c, vs, rfl, ho, hb⟩
    have HX1 := Lib.hid (HBK.out.below hb)
    have HB := Lib.hid (HB0.out.trans (hb.mono HB0.out.size))
    have HO := Lib.hid ho
    clear ho hb
    have c20 := HX1.out.cell 0 rfl
    have f20 := HX1.out.free 0
    go_wp2
    refine bodyPost_ret (v := .tuple #[.agg #[.slice A n c], .int .i64 q]) (by simp [results, Try.results24, go_sem, c20]) rfl ?_
    rw [HF.out]
    exact ⟨A, n, c, vs, rfl, (HO.out.setFar ⟨w.heap.size, 0, none⟩ _ (by show w.heap.size < W0.heap.size; have := HZ.out; omega)).mono (by have := HZ.out; omega), HB.out.setCell (Nat.le_refl _) _⟩

set_option maxHeartbeats 400000 in
theorem spec_ElementQ {i : Int} {w} (hi : I64 i) :
    Calls Try.prog 23 #[.int .i64 i] w fun e w' => ∃ A n c vs, e = .returned (.tuple #[.agg #[.slice A n c], .int .i64 (pElementQ i).2]) ∧ OwnS w' w.heap.size A n c vs (pElementQ i).1 ∧ Below w.heap.size w w' := by
  have hb0 := box_below w (.cells #[.slice none 0 0] 24)
  have hbk := Blk.new w #[.slice none 0 0] 24
  have hz : (w.alloc (.cells #[.slice none 0 0] 24)).heap.size = w.heap.size + 1 := by simp
  have HB0 := Lib.hid hb0
  have HBK := Lib.hid hbk
  have HZ := Lib.hid hz
  clear hi hb0 hbk hz
  cases h1 : inB i 0 9 with
  | false =>
    have HF := Lib.hid (show pElementQ i = ([], 2) by unfold pElementQ; rw [h1]; rfl)
    have HK := Lib.hid h1
    clear h1
    go_enter Try.func23, Try.ntmps23
    go_wp2_with fail
    refine (l01In_any _ _ _ _).mono ?_
    rintro e w' ⟨rfl, rfl⟩
    rw [HK.out]
    generalize w.alloc (.cells #[.slice none 0 0] 24) = W0 at *
    have c20 := HBK.out.cell 0 rfl
    have f20 := HBK.out.free 0
    go_wp2
    refine bodyPost_ret (v := .tuple #[.agg #[.slice none 0 0], .int .i64 2]) (by simp [results, Try.results23, go_sem, c20]) rfl ?_
    rw [HF.out]
    exact ⟨none, 0, 0, [], rfl, OwnS.nil _ _, HB0.out.setCell (Nat.le_refl _) _⟩
  | true =>
    have h1b := inB_true h1
    have HK := Lib.hid h1
    have HF := Lib.hid (show pElementQ i = pElementP 0 (i + 1) by unfold pElementQ; rw [h1]; rfl)
    have CE := Lib.hid (fun w1 => spec_ElementP (s := 0) (t := i + 1) (w := w1) (I64.mk (by omega) (by omega)) (I64.mk (by omega) (by omega)))
    generalize pElementP 0 (i + 1) = r at *
    obtain ⟨r1, q⟩ := r
    simp only at CE
    clear h1
    go_enter Try.func23, Try.ntmps23
    go_wp2_with fail
    refine (l01In_any _ _ _ _).mono ?_
    rintro e w' ⟨rfl, rfl⟩
    rw [HK.out]
    generalize w.alloc (.cells #[.slice none 0 0] 24) = W0 at *
    go_wp2_with fail
    refine (CE.out W0).mono ?_
    rintro e w1 ⟨A, n, c, vs, rfl, ho, hb⟩
    have HX1 := Lib.hid (HBK.out.below hb)
    have HB := Lib.hid (HB0.out.trans (hb.mono HB0.out.size))
    have HO := Lib.hid ho
    clear ho hb
    have hn2 := Blk.new w1 #[.slice none 0 0] 24
    have HX2 := Lib.hid (HX1.out.alloc (.cells #[.slice none 0 0] 24))
    have hne : w.heap.size ≠ w1.heap.size := by have := HX1.out.lt; omega
    have hn3 := Blk.new w1 #[.slice A n c] 24
    have HX3 := Lib.hid (HX1.out.alloc (.cells #[.slice A n c] 24))
    have c30 := hn2.cell 0 rfl
    have f30 := hn2.free 0
    have c31 := hn3.cell 0 rfl
    have c20 := HX3.out.cell 0 rfl
    have f20 := HX3.out.free 0
    have HO2 := Lib.hid (HO.out.below (box_below w1 (.cells #[.slice A n c] 24)))
    have HB2 := Lib.hid (HB.out.trans ((box_below w1 (.cells #[.slice A n c] 24)).mono HB.out.size))
    go_wp2
    refine bodyPost_ret (v := .tuple #[.agg #[.slice A n c], .int .i64 q]) (by simp [results, Try.results23, go_sem, c20]) rfl ?_
    rw [HF.out]
    exact ⟨A, n, c, vs, rfl, (HO2.out.setFar ⟨w.heap.size, 0, none⟩ _ (by show w.heap.size < W0.heap.size; have := HZ.out; omega)).mono (by have := HZ.out; omega), HB2.out.setCell (Nat.le_refl _) _⟩

end Go.Proofs.Ytindhmgfadipnaa
