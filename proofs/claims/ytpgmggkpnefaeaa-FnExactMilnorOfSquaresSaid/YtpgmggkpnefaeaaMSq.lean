/- MilnorOfSquares of the program and of the reference. -/
import Derived.Test.YtpgmggkpnefaeaaMWord
import Derived.Test.YtpgmggkpnefaeaaSq
namespace Go.Proofs.Ytpgmggkpnefaeaa
open Go.ChangeShapes Go.WideShapes Go.ChangeAt Go.RowKit Go.Proofs
set_option linter.unusedVariables false

def pMilnorOfSquares (ws : List (List Int)) : List (List Int) × Int := if pIsSquares ws = true then (wordsP ws, 0) else ([], 1)

theorem wordP_rl {xs : List Int} (h : wordB xs = true) : ∀ y ∈ wordP xs, y.length ≤ 5 := fun y hy => by
  have h1 := (word_ends h).2.2 0
  rw [List.drop_zero] at h1
  exact (h1.1.row h1.2 y hy).1

theorem words_part (ws : List (List Int)) (hw : ∀ x ∈ ws, wordB x = true) (hn : ws.length ≤ 2000) (k : Nat) : ((ws.take k).flatMap wordP).length ≤ 100000000 ∧ ∀ y ∈ (ws.take k).flatMap wordP, y.length ≤ 5 := by
  constructor
  · have h1 := flatS_len wordP 35056 (ws.take k) (fun y hy => (wordP_small (hw y (List.mem_of_mem_take hy))).2)
    have h3 : (ws.take k).length ≤ 2000 := by simp; omega
    have h2 := Nat.mul_le_mul_right 35056 h3
    omega
  · intro y hy
    obtain ⟨x, hx, hy⟩ := List.mem_flatMap.1 hy
    exact wordP_rl (hw x (List.mem_of_mem_take hx)) y hy

theorem norm_rl {L : LL} {c : Nat} (h : ∀ y ∈ L, y.length ≤ c) : ∀ y ∈ norm L, y.length ≤ c := fun y hy => by
  have h1 := (norm_mem L y).1 hy
  exact h y (List.count_pos_iff.1 (by omega))

theorem norm_lenM (L : LL) : (norm L).length ≤ L.length := by
  have := normF_lenM L []
  simpa [norm] using this

theorem pMilnorOfSquares_sz (ws : List (List Int)) (h : ws.length + tot ws ≤ 1048576) : tot (pMilnorOfSquares ws).1 ≤ 4000000000 := by
  unfold pMilnorOfSquares
  split
  · rename_i hp
    have hq := pIsSquares_true hp
    have h1 := words_part ws hq.2.1 hq.1 ws.length
    rw [List.take_length] at h1
    show tot (wordsP ws) ≤ _
    have h2 := tot_rowsM 5 (wordsP ws) (norm_rl h1.2)
    have h3 : (wordsP ws).length ≤ (ws.flatMap wordP).length := norm_lenM _
    have h4 := Nat.mul_le_mul_left 5 (Nat.le_trans h3 h1.1)
    omega
  · simp [tot]

set_option maxHeartbeats 1600000 in
theorem impl_milnorOfWords {A n c vs ws w} (h : RS w A n vs ws) (hw : ∀ x ∈ ws, wordB x = true) (hn : n ≤ 2000) :
    Calls Try.prog 71 #[.slice A n c] w fun e w' => ∃ G k d us, e = .returned (.slice G k d) ∧ OwnS w' w.heap.size G k d us (wordsP ws) ∧ Below w.heap.size w w' := by
  have HE := Lib.hid (emptyS_own w)
  have HBE := Lib.hid (box_below2 w (.cells #[] 51))
  have HLB := Lib.hid h.len
  have H := Lib.hid h
  have HW := Lib.hid hw
  have HWP := Lib.hid (words_part ws hw (by have := h.len; omega))
  clear h hw
  go_enter Try.func71, Try.ntmps71
  go_wp2
  go_loopw [3, 9] (fun v kv wr => ∃ (k : Nat) (A6 : Option Addr) (n6 c6 : Nat) (vs6 : List Sl), k ≤ n ∧ kv = .int .i64 (k : Int) ∧ v = .slice A6 n6 c6 ∧ OwnS wr w.heap.size A6 n6 c6 vs6 ((ws.take k).flatMap wordP) ∧ Below w.heap.size w wr) (fun _ kv _ => n - (intOf kv).toNat)
  case atStart => exact ⟨0, _, _, _, [], by omega, rfl, rfl, by simpa using HE.out, HBE.out⟩
  case round =>
    obtain ⟨k, A6, n6, c6, vs6, hk, rfl, rfl, ho6, hb6⟩ := hrel
    have HO6 := Lib.hid ho6
    have HB6 := Lib.hid hb6
    clear ho6 hb6 HE HBE
    by_cases hkm : k < n
    · have hkm' : (k : Int) < (n : Int) := by omega
      have hn6 : n6 ≤ 100000000 := by have := HO6.out.len; have := (HWP.out k).1; omega
      obtain ⟨p2, o2, rfl, _, hc2⟩ := (H.out.below HB6.out).at_ hkm
      have hr2 := H.out.row hkm
      have hmem := HW.out _ (getD_memS ws k (by have := HLB.out; omega))
      have HYP := Lib.hid (wordP_small hmem)
      have HFT := Lib.hid (flat_take wordP ws k (by have := HLB.out; omega))
      generalize ws.getD k [] = y at *
      generalize vs.getD k nilS = v at *
      obtain ⟨vA, vn, vc⟩ := v
      simp only [sv] at hc2
      simp only at hr2
      have CB := Lib.hid (impl_milnorOfWord (c := vc) (hr2.below HB6.out) hmem)
      have HIN := Lib.hid HO6.out.inS
      clear hr2 hmem
      go_wp2_with fail
      refine CB.out.mono ?_
      rintro e w8 ⟨G8, k8, d8, us8, rfl, ho8, hb8⟩
      have HO8 := Lib.hid ho8
      have HB8 := Lib.hid hb8
      have hk8 : k8 ≤ 35056 := by have := ho8.len; have := HYP.out.2; omega
      clear ho8 hb8 CB
      go_wp2_with (at_builtin; refine appRS _ _ w.heap.size A6 n6 c6 vs6 G8 k8 d8 us8 _ _ rfl rfl rfl rfl (HO6.out.below HB8.out).1 HO8.out.reads (by omega) (Nat.le_trans HB6.out.size HB8.out.size) ?_; intro A9 c9 w9 ho9 hg9)
      have HO9 := Lib.hid (show OwnS w9 w.heap.size A9 (n6 + k8) c9 (vs6 ++ us8) ((ws.take (k + 1)).flatMap wordP) by rw [HFT.out]; exact OwnS.join (HO6.out.below HB8.out) HO8.out HIN.out HB6.out.size ho9 hg9)
      have HB9 := Lib.hid ((HB6.out.trans (HB8.out.mono HB6.out.size)).grown hg9 (Nat.le_trans HB6.out.size HB8.out.size) (fun k hk => (HO6.out.below HB8.out).out_ge hk))
      clear ho9 hg9
      go_wp2
      go_roundw
      case rel => exact ⟨k + 1, _, _, _, _, by omega, by go_num, rfl, HO9.out, HB9.out⟩
      case measure => simp [intOf]; omega
    · obtain rfl : k = n := by omega
      have HO1 := Lib.hid (show OwnS wr w.heap.size A6 n6 c6 vs6 (ws.flatMap wordP) by
        have := HO6.out
        rw [List.take_of_length_le (Nat.le_of_eq HLB.out)] at this
        exact this)
      have hn5 : n6 ≤ 100000000 := by have h1 := HO6.out.len; have h2 := (HWP.out k).1; omega
      have HRL1 := Lib.hid (show ∀ x ∈ ws.flatMap wordP, x.length ≤ 1048576 from fun x hx => by
        have := (HWP.out k).2 x (by rw [List.take_of_length_le (Nat.le_of_eq HLB.out)]; exact hx)
        omega)
      have CO := Lib.hid (impl_oddOnes (c := c6) HO1.out.reads (by omega) HRL1.out)
      clear HO6
      go_wp2_with fail
      refine CO.out.mono ?_
      rintro e w6 ⟨G6, k6, d6, us6, S6, rfl, ho6, hp6, hs6, hb6⟩
      have HO7 := Lib.hid (show OwnS w6 w.heap.size G6 k6 d6 us6 (wordsP ws) by unfold wordsP; rw [← odd_norm hs6 hp6]; exact ho6.mono HB6.out.size)
      have HB7 := Lib.hid (HB6.out.trans (hb6.mono HB6.out.size))
      clear ho6 hp6 hs6 hb6
      go_wp2
      go_ret
      exact ⟨_, _, _, _, rfl, HO7.out, HB7.out⟩

set_option maxHeartbeats 1600000 in
theorem spec_l05Milnor {A n c vs ws w} (h : RS w A n vs ws) (hw : ∀ x ∈ ws, wordB x = true) (hn : n ≤ 2000) :
    Calls Try.prog 69 #[.slice A n c] w fun e w' => ∃ G k d us, e = .returned (.slice G k d) ∧ OwnS w' w.heap.size G k d us (wordsP ws) ∧ Below w.heap.size w w' := by
  have HE := Lib.hid (emptyS_own w)
  have HBE := Lib.hid (box_below2 w (.cells #[] 51))
  have HLB := Lib.hid h.len
  have H := Lib.hid h
  have HW := Lib.hid hw
  have HWP := Lib.hid (words_part ws hw (by have := h.len; omega))
  clear h hw
  go_enter Try.func69, Try.ntmps69
  go_wp2
  go_loopw [3, 4] (fun v kv wr => ∃ (k : Nat) (A6 : Option Addr) (n6 c6 : Nat) (vs6 : List Sl), k ≤ n ∧ kv = .int .i64 (k : Int) ∧ v = .slice A6 n6 c6 ∧ OwnS wr w.heap.size A6 n6 c6 vs6 (norm ((ws.take k).flatMap wordP)) ∧ Below w.heap.size w wr) (fun _ kv _ => n - (intOf kv).toNat)
  case atStart => exact ⟨0, _, _, _, [], by omega, rfl, rfl, by simpa [norm_nil] using HE.out, HBE.out⟩
  case round =>
    obtain ⟨k, A6, n6, c6, vs6, hk, rfl, rfl, ho6, hb6⟩ := hrel
    have HO6 := Lib.hid ho6
    have HB6 := Lib.hid hb6
    clear ho6 hb6 HE HBE
    by_cases hkm : k < n
    · have hkm' : (k : Int) < (n : Int) := by omega
      have hn6 : n6 ≤ 100000000 := by have h1 := HO6.out.len; have h2 := (HWP.out k).1; have h3 := norm_lenM ((ws.take k).flatMap wordP); omega
      obtain ⟨p2, o2, rfl, _, hc2⟩ := (H.out.below HB6.out).at_ hkm
      have hr2 := H.out.row hkm
      have hmem := HW.out _ (getD_memS ws k (by have := HLB.out; omega))
      have HYP := Lib.hid (wordP_small hmem)
      have HYR := Lib.hid (show ∀ x ∈ wordP (ws.getD k []), x.length ≤ 1048576 from fun x hx => by have := wordP_rl hmem x hx; omega)
      have HNR := Lib.hid (show ∀ x ∈ norm ((ws.take k).flatMap wordP), x.length ≤ 1048576 from fun x hx => by have := norm_rl (HWP.out k).2 x hx; omega)
      have HFT := Lib.hid (show norm ((ws.take (k + 1)).flatMap wordP) = mrg (norm ((ws.take k).flatMap wordP)) (wordP (ws.getD k [])) by rw [flat_take wordP ws k (by have := HLB.out; omega), ← mrg_norm, norm_self (wordP_ris _)])
      generalize ws.getD k [] = y at *
      generalize vs.getD k nilS = v at *
      obtain ⟨vA, vn, vc⟩ := v
      simp only [sv] at hc2
      simp only at hr2
      have CB := Lib.hid (spec_l05Word (c := vc) (hr2.below HB6.out) hmem)
      clear hr2 hmem
      go_wp2_with fail
      refine CB.out.mono ?_
      rintro e w8 ⟨G8, k8, d8, us8, rfl, ho8, hb8⟩
      have HO8 := Lib.hid ho8
      have HB8 := Lib.hid hb8
      have hk8 : k8 ≤ 35056 := by have := ho8.len; have := HYP.out.2; omega
      clear ho8 hb8 CB
      have CS := Lib.hid (spec_l01Sum (c := c6) (c' := d8) (HO6.out.below HB8.out).reads HO8.out.reads (by omega) (by omega) HNR.out HYR.out)
      go_wp2_with fail
      refine CS.out.mono ?_
      rintro e w9 ⟨G9, k9, d9, us9, rfl, ho9, hb9⟩
      rw [← HFT.out] at ho9
      have HO9 := Lib.hid (ho9.mono (Nat.le_trans HB6.out.size HB8.out.size))
      have HB9 := Lib.hid (HB6.out.trans ((HB8.out.trans (hb9.mono HB8.out.size)).mono HB6.out.size))
      clear ho9 hb9 CS
      go_wp2
      go_roundw
      case rel => exact ⟨k + 1, _, _, _, _, by omega, by go_num, rfl, HO9.out, HB9.out⟩
      case measure => simp [intOf]; omega
    · obtain rfl : k = n := by omega
      have HO1 := Lib.hid (show OwnS wr w.heap.size A6 n6 c6 vs6 (wordsP ws) by
        have := HO6.out
        rw [List.take_of_length_le (Nat.le_of_eq HLB.out)] at this
        exact this)
      clear HO6
      go_wp2
      go_ret
      exact ⟨_, _, _, _, rfl, HO1.out, HB6.out⟩

set_option maxHeartbeats 1000000 in
theorem impl_MilnorOfSquares {A n c vs xss w} (h : RS w A n vs xss) (hn : n + tot xss ≤ 1048576) :
    Calls Try.prog 22 #[.agg #[.slice A n c]] w fun e w' => ∃ G m q us, e = .returned (.tuple #[.agg #[.slice G m q], .int .i64 (pMilnorOfSquares xss).2]) ∧ OwnS w' w.heap.size G m q us (pMilnorOfSquares xss).1 ∧ Below w.heap.size w w' := by
  have hb0 : Below w.heap.size w ((w.alloc (.cells #[.slice A n c] 34)).alloc (.cells #[.slice none 0 0] 31)) := lit2_below w _ _
  have HB0 := Lib.hid hb0
  have HK1 := Lib.hid (show Blk ((w.alloc (.cells #[.slice A n c] 34)).alloc (.cells #[.slice none 0 0] 31)) w.heap.size 34 #[.slice A n c] from (Blk.new w _ _).alloc _)
  have HK2 := Lib.hid (show Blk ((w.alloc (.cells #[.slice A n c] 34)).alloc (.cells #[.slice none 0 0] 31)) (w.heap.size + 1) 31 #[.slice none 0 0] by have := Blk.new (w.alloc (.cells #[.slice A n c] 34)) #[.slice none 0 0] 31; simpa using this)
  have HZ := Lib.hid (show ((w.alloc (.cells #[.slice A n c] 34)).alloc (.cells #[.slice none 0 0] 31)).heap.size = w.heap.size + 2 by simp)
  have HN := Lib.hid hn
  have HLB := Lib.hid h.len
  have H := Lib.hid (h.below hb0)
  have CW := Lib.hid (impl_IsSquares (c := c) (h.below hb0) HN.out)
  have CM := Lib.hid (fun (hp : pIsSquares xss = true) w2 (hb : Below ((w.alloc (.cells #[.slice A n c] 34)).alloc (.cells #[.slice none 0 0] 31)).heap.size ((w.alloc (.cells #[.slice A n c] 34)).alloc (.cells #[.slice none 0 0] 31)) w2) => impl_milnorOfWords (c := c) ((h.below hb0).below hb) (pIsSquares_true hp).2.1 (by have := (pIsSquares_true hp).1; have := h.len; omega))
  clear h hb0 hn
  cases hp : pIsSquares xss with
  | false =>
    have HF := Lib.hid (show pMilnorOfSquares xss = ([], 1) by unfold pMilnorOfSquares; rw [if_neg (by rw [hp]; simp)])
    rw [hp] at CW
    clear hp CM
    go_enter Try.func22, Try.ntmps22
    have c1 := HK1.out.cell 0 rfl
    go_wp2_with fail
    clear c1
    generalize ((w.alloc (.cells #[.slice A n c] 34)).alloc (.cells #[.slice none 0 0] 31)) = W0 at *
    refine CW.out.mono ?_
    rintro e w3 ⟨rfl, hb3⟩
    have HB3 := Lib.hid hb3
    have HX3 := Lib.hid (HK2.out.below hb3)
    have c20 := HX3.out.cell 0 rfl
    have f20 := HX3.out.free 0
    clear hb3 CW
    go_wp2
    refine bodyPost_ret (v := .tuple #[.agg #[.slice none 0 0], .int .i64 1]) (by simp [results, Try.results22, go_sem, c20]) rfl ?_
    rw [HF.out]
    exact ⟨none, 0, 0, [], rfl, OwnS.nil _ _, (HB0.out.trans (HB3.out.mono HB0.out.size)).setCell (by simp) _⟩
  | true =>
    have HF := Lib.hid (show pMilnorOfSquares xss = (wordsP xss, 0) by unfold pMilnorOfSquares; rw [if_pos hp])
    have CM2 := Lib.hid (CM.out hp)
    rw [hp] at CW
    clear hp CM
    go_enter Try.func22, Try.ntmps22
    have c1 := HK1.out.cell 0 rfl
    go_wp2_with fail
    clear c1
    generalize ((w.alloc (.cells #[.slice A n c] 34)).alloc (.cells #[.slice none 0 0] 31)) = W0 at *
    refine CW.out.mono ?_
    rintro e w3 ⟨rfl, hb3⟩
    have HB3 := Lib.hid hb3
    have HX3 := Lib.hid (HK2.out.below hb3)
    have c1 := (HK1.out.below hb3).cell 0 rfl
    clear hb3 CW
    go_wp2_with fail
    refine (CM2.out w3 HB3.out).mono ?_
    rintro e w4 ⟨G4, k4, d4, us4, rfl, ho4, hb4⟩
    have HO4 := Lib.hid ho4
    have HB4 := Lib.hid hb4
    have HX4 := Lib.hid (HX3.out.below hb4)
    have c20 := HX4.out.cell 0 rfl
    have f20 := HX4.out.free 0
    clear ho4 hb4 CM2 c1
    go_wp2
    refine bodyPost_ret (v := .tuple #[.agg #[.slice G4 k4 d4], .int .i64 0]) (by simp [results, Try.results22, go_sem, c20]) rfl ?_
    rw [HF.out]
    exact ⟨G4, k4, d4, us4, rfl, (HO4.out.setFar ⟨w.heap.size + 1, 0, none⟩ _ (by have := HZ.out; have := HB3.out.size; show w.heap.size + 1 < _; omega)).mono (by have := HZ.out; have := HB3.out.size; omega), (HB0.out.trans ((HB3.out.trans (HB4.out.mono HB3.out.size)).mono HB0.out.size)).setCell (by simp) _⟩

set_option maxHeartbeats 1000000 in
theorem spec_MilnorOfSquares {A n c vs xss w} (h : RS w A n vs xss) (hn : n + tot xss ≤ 1048576) :
    Calls Try.prog 20 #[.agg #[.slice A n c]] w fun e w' => ∃ G m q us, e = .returned (.tuple #[.agg #[.slice G m q], .int .i64 (pMilnorOfSquares xss).2]) ∧ OwnS w' w.heap.size G m q us (pMilnorOfSquares xss).1 ∧ Below w.heap.size w w' := by
  have hb0 : Below w.heap.size w ((w.alloc (.cells #[.slice A n c] 34)).alloc (.cells #[.slice none 0 0] 31)) := lit2_below w _ _
  have HB0 := Lib.hid hb0
  have HK1 := Lib.hid (show Blk ((w.alloc (.cells #[.slice A n c] 34)).alloc (.cells #[.slice none 0 0] 31)) w.heap.size 34 #[.slice A n c] from (Blk.new w _ _).alloc _)
  have HK2 := Lib.hid (show Blk ((w.alloc (.cells #[.slice A n c] 34)).alloc (.cells #[.slice none 0 0] 31)) (w.heap.size + 1) 31 #[.slice none 0 0] by have := Blk.new (w.alloc (.cells #[.slice A n c] 34)) #[.slice none 0 0] 31; simpa using this)
  have HZ := Lib.hid (show ((w.alloc (.cells #[.slice A n c] 34)).alloc (.cells #[.slice none 0 0] 31)).heap.size = w.heap.size + 2 by simp)
  have HN := Lib.hid hn
  have HLB := Lib.hid h.len
  have H := Lib.hid (h.below hb0)
  have CW := Lib.hid (spec_l03Is (c := c) (h.below hb0))
  have CM := Lib.hid (fun (hp : pIsSquares xss = true) w2 (hb : Below ((w.alloc (.cells #[.slice A n c] 34)).alloc (.cells #[.slice none 0 0] 31)).heap.size ((w.alloc (.cells #[.slice A n c] 34)).alloc (.cells #[.slice none 0 0] 31)) w2) => spec_l05Milnor (c := c) ((h.below hb0).below hb) (pIsSquares_true hp).2.1 (by have := (pIsSquares_true hp).1; have := h.len; omega))
  clear h hb0 hn
  cases hp : pIsSquares xss with
  | false =>
    have HF := Lib.hid (show pMilnorOfSquares xss = ([], 1) by unfold pMilnorOfSquares; rw [if_neg (by rw [hp]; simp)])
    rw [hp] at CW
    clear hp CM
    go_enter Try.func20, Try.ntmps20
    have c1 := HK1.out.cell 0 rfl
    go_wp2_with fail
    clear c1
    generalize ((w.alloc (.cells #[.slice A n c] 34)).alloc (.cells #[.slice none 0 0] 31)) = W0 at *
    refine CW.out.mono ?_
    rintro e w3 ⟨rfl, hb3⟩
    have HB3 := Lib.hid hb3
    have HX3 := Lib.hid (HK2.out.below hb3)
    have c20 := HX3.out.cell 0 rfl
    have f20 := HX3.out.free 0
    clear hb3 CW
    go_wp2
    refine bodyPost_ret (v := .tuple #[.agg #[.slice none 0 0], .int .i64 1]) (by simp [results, Try.results20, go_sem, c20]) rfl ?_
    rw [HF.out]
    exact ⟨none, 0, 0, [], rfl, OwnS.nil _ _, (HB0.out.trans (HB3.out.mono HB0.out.size)).setCell (by simp) _⟩
  | true =>
    have HF := Lib.hid (show pMilnorOfSquares xss = (wordsP xss, 0) by unfold pMilnorOfSquares; rw [if_pos hp])
    have CM2 := Lib.hid (CM.out hp)
    rw [hp] at CW
    clear hp CM
    go_enter Try.func20, Try.ntmps20
    have c1 := HK1.out.cell 0 rfl
    go_wp2_with fail
    clear c1
    generalize ((w.alloc (.cells #[.slice A n c] 34)).alloc (.cells #[.slice none 0 0] 31)) = W0 at *
    refine CW.out.mono ?_
    rintro e w3 ⟨rfl, hb3⟩
    have HB3 := Lib.hid hb3
    have HX3 := Lib.hid (HK2.out.below hb3)
    have c1 := (HK1.out.below hb3).cell 0 rfl
    clear hb3 CW
    go_wp2_with fail
    refine (CM2.out w3 HB3.out).mono ?_
    rintro e w4 ⟨G4, k4, d4, us4, rfl, ho4, hb4⟩
    have HO4 := Lib.hid ho4
    have HB4 := Lib.hid hb4
    have HX4 := Lib.hid (HX3.out.below hb4)
    have c20 := HX4.out.cell 0 rfl
    have f20 := HX4.out.free 0
    clear ho4 hb4 CM2 c1
    go_wp2
    refine bodyPost_ret (v := .tuple #[.agg #[.slice G4 k4 d4], .int .i64 0]) (by simp [results, Try.results20, go_sem, c20]) rfl ?_
    rw [HF.out]
    exact ⟨G4, k4, d4, us4, rfl, (HO4.out.setFar ⟨w.heap.size + 1, 0, none⟩ _ (by have := HZ.out; have := HB3.out.size; show w.heap.size + 1 < _; omega)).mono (by have := HZ.out; have := HB3.out.size; omega), (HB0.out.trans ((HB3.out.trans (HB4.out.mono HB3.out.size)).mono HB0.out.size)).setCell (by simp) _⟩

end Go.Proofs.Ytpgmggkpnefaeaa
