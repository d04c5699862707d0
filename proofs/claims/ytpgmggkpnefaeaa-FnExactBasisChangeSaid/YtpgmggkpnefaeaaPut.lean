/- spec: equality of lists; a list put into a rising slice of lists, or taken out where it is. (gen_put.py) -/
import Derived.Test.YtpgmggkpnefaeaaNorm
import Derived.Test.YtpgmggkpnefaeaaJoin
namespace Go.Proofs.Ytpgmggkpnefaeaa
open Go.ChangeShapes Go.WideShapes Go.ChangeAt Go.RowKit Go.Proofs
set_option linter.unusedVariables false

theorem RS.take {w A n vs xss} (h : RS w A n vs xss) {i : Nat} (hi : i ≤ n) : RS w A i (vs.take i) (xss.take i) := by
  have hv := h.vlen
  have hl := h.len
  refine ⟨by simp; omega, by simp; omega, Nat.le_trans hi h.2.2.1, fun h0 => ?_, fun j hj => ?_⟩
  · obtain ⟨b, off, e, hb, hc⟩ := h.2.2.2.1 (by omega)
    exact ⟨b, off, e, hb, fun j hj => by rw [hc j (by omega)]; simp [List.getD, hj]⟩
  · have e1 : (vs.take i).getD j nilS = vs.getD j nilS := by simp [List.getD, hj]
    have e2 : (xss.take i).getD j [] = xss.getD j [] := by simp [List.getD, hj]
    rw [e1, e2]
    exact h.row (by omega)

theorem RS.drop {w b off n vs xss} (h : RS w (some ⟨b, off, none⟩) n vs xss) {i : Nat} (hi : i ≤ n) : RS w (some ⟨b, off + i, none⟩) (n - i) (vs.drop i) (xss.drop i) := by
  have hv := h.vlen
  have hl := h.len
  refine ⟨by simp; omega, by simp; omega, Nat.le_trans (Nat.sub_le _ _) h.2.2.1, fun h0 => ?_, fun j hj => ?_⟩
  · obtain ⟨b2, off2, e, hb, hc⟩ := h.2.2.2.1 (by omega)
    injection e with e
    injection e with e1 e2 _
    subst e1; subst e2
    exact ⟨b, off + i, rfl, hb, fun j hj => by rw [Nat.add_assoc, hc (i + j) (by omega)]; simp [List.getD, List.getElem?_drop]⟩
  · have e1 : (vs.drop i).getD j nilS = vs.getD (i + j) nilS := by simp [List.getD, List.getElem?_drop]
    have e2 : (xss.drop i).getD j [] = xss.getD (i + j) [] := by simp [List.getD, List.getElem?_drop]
    rw [e1, e2]
    exact h.row (by omega)

theorem RS.dropC {w b off n c vs xss} (h : RS w (some ⟨b, off, none⟩) n vs xss) {i : Nat} (hi : i ≤ n) (hc : n ≤ c) : RS w (if c = i then some ⟨b, off, none⟩ else some ⟨b, off + i, none⟩) (n - i) (vs.drop i) (xss.drop i) := by
  by_cases e : c = i
  · rw [if_pos e]
    have hv := h.vlen
    have hl := h.len
    have h1 : n - i = 0 := by omega
    rw [h1, List.drop_eq_nil_of_le (by omega), List.drop_eq_nil_of_le (by omega)]
    exact RS.nil
  · rw [if_neg e]; exact h.drop hi

theorem RS.none0 {w : World} {A : Option Addr} : RS w A 0 [] [] := RS.nil

theorem OwnS.cap_ge {w B A n c vs xss} (h : OwnS w B A n c vs xss) : n ≤ c ∧ c ≤ 9223372036854775807 := by
  rcases h.1.2 with ⟨hv, h0⟩ | ⟨g, cap, cur, hv, hb, hg, hnc, hcm, hs, ht⟩
  · injection hv with h1 h2 h3; omega
  · injection hv with h1 h2 h3; unfold maxLen at hcm; omega

/-- rows picked in order out of a slice of lists of the call's own, under a new outer row -/
theorem OwnS.pick {w w' B A n c vs xss A' m c' us yss} (h : OwnS w B A n c vs xss) (hb : Below w.heap.size w w') (ho : w'.ownsRow B 51 1 (.slice A' m c') m (us.map sv)) (f : Nat → Nat) (hy : yss.length = m)
    (hf : ∀ a, a < m → f a < n) (hm : ∀ a b, a < b → b < m → f a < f b) (h1 : ∀ a, a < m → us.getD a nilS = vs.getD (f a) nilS) (h2 : ∀ a, a < m → yss.getD a [] = xss.getD (f a) []) : OwnS w' B A' m c' us yss := by
  refine ⟨ho, hy, fun i hi => ?_, fun i j hij hj k hk => ?_⟩
  · rw [h1 i hi, h2 i hi]
    exact (h.row (hf i hi)).below hb
  · rw [h1 i (by omega)] at hk
    rw [h1 j hj]
    exact h.2.2.2 (f i) (f j) (hm i j hij hj) (hf j hj) k hk

/-- one row put between the rows of a slice of lists of the call's own, under a new outer row -/
theorem OwnS.put {w w' B A n c vs xss A' c' L} {v : Sl} {x : List Int} {i : Nat} (h : OwnS w B A n c vs xss) (hb : Below w.heap.size w w') (hi : i ≤ n) (ho : w'.ownsRow B 51 1 (.slice A' (n + 1) c') (n + 1) ((vs.take i ++ v :: vs.drop i).map sv)) (hx : OwnI w' L v.1 v.2.1 v.2.2 x) (hL : w.heap.size ≤ L) (hBL : B ≤ L) :
    OwnS w' B A' (n + 1) c' (vs.take i ++ v :: vs.drop i) (xss.take i ++ x :: xss.drop i) := by
  have hv := h.vlen
  have hl := h.len
  have e : ∀ j, (vs.take i ++ v :: vs.drop i).getD j nilS = if j < i then vs.getD j nilS else if j = i then v else vs.getD (j - 1) nilS := fun j => by
    simp only [List.getD]
    by_cases h1 : j < i
    · rw [if_pos h1, List.getElem?_append_left (by simp; omega), List.getElem?_take_of_lt h1]
    · rw [if_neg h1, List.getElem?_append_right (by simp; omega)]
      have hlt : (vs.take i).length = i := by simp; omega
      rw [hlt]
      by_cases h2 : j = i
      · rw [if_pos h2, h2, Nat.sub_self]; rfl
      · rw [if_neg h2, show j - i = (j - i - 1) + 1 by omega, List.getElem?_cons_succ, List.getElem?_drop, show i + (j - i - 1) = j - 1 by omega]
  have e2 : ∀ j, (xss.take i ++ x :: xss.drop i).getD j [] = if j < i then xss.getD j [] else if j = i then x else xss.getD (j - 1) [] := fun j => by
    simp only [List.getD]
    by_cases h1 : j < i
    · rw [if_pos h1, List.getElem?_append_left (by simp; omega), List.getElem?_take_of_lt h1]
    · rw [if_neg h1, List.getElem?_append_right (by simp; omega)]
      have hlt : (xss.take i).length = i := by simp; omega
      rw [hlt]
      by_cases h2 : j = i
      · rw [if_pos h2, h2, Nat.sub_self]; rfl
      · rw [if_neg h2, show j - i = (j - i - 1) + 1 by omega, List.getElem?_cons_succ, List.getElem?_drop, show i + (j - i - 1) = j - 1 by omega]
  refine ⟨ho, by simp; omega, fun j hj => ?_, fun a b hab hbn k hk => ?_⟩
  · rw [e, e2]
    by_cases h1 : j < i
    · rw [if_pos h1, if_pos h1]; exact (h.row (by omega)).below hb
    · rw [if_neg h1, if_neg h1]
      by_cases h2 : j = i
      · rw [if_pos h2, if_pos h2]; exact hx.mono hBL
      · rw [if_neg h2, if_neg h2]; exact (h.row (by omega)).below hb
  · rw [e] at hk
    rw [e]
    have old : ∀ q, q < n → ∀ k, (vs.getD q nilS).1.map (·.block) = some k → k < L := fun q hq k hk => Nat.lt_of_lt_of_le ((h.row hq).row_lt hk) hL
    intro hk2
    by_cases h1 : a < i
    · rw [if_pos h1] at hk
      by_cases h3 : b < i
      · rw [if_pos h3] at hk2
        exact h.2.2.2 a b hab (by omega) k hk hk2
      · rw [if_neg h3] at hk2
        by_cases h4 : b = i
        · rw [if_pos h4] at hk2
          have := hx.row_ge hk2
          have := old a (by omega) k hk
          omega
        · rw [if_neg h4] at hk2
          exact h.2.2.2 a (b - 1) (by omega) (by omega) k hk hk2
    · rw [if_neg h1] at hk
      rw [if_neg (by omega), if_neg (by omega)] at hk2
      by_cases h2 : a = i
      · rw [if_pos h2] at hk
        have := hx.row_ge hk
        have := old (b - 1) (by omega) k hk2
        omega
      · rw [if_neg h2] at hk
        exact h.2.2.2 (a - 1) (b - 1) (by omega) (by omega) k hk hk2

set_option maxHeartbeats 800000 in
theorem spec_l01Same {A n c xs B m d ys w} (h : RI w A n xs) (g : RI w B m ys) :
    Calls Try.prog 127 #[.slice A n c, .slice B m d] w fun e w' => e = .returned (.bool (decide (xs = ys))) ∧ ∃ q, w' = w.drewN q := by
  have hl := h.len
  have hl' := g.len
  have hs := h.small
  have hs' := g.small
  have H := Lib.hid h
  have G := Lib.hid g
  clear h g
  by_cases hnm : n = m
  · subst hnm
    go_enter Try.func127, Try.ntmps127
    go_wp2
    go_loopw [5] (fun iv wr => ∃ i : Nat, i ≤ n ∧ iv = .int .i64 (i : Int) ∧ xs.take i = ys.take i ∧ ∃ q, wr = w.drewN q) (fun iv _ => n - (intOf iv).toNat)
    case atStart => exact ⟨0, by omega, rfl, by simp, 0, rfl⟩
    case round =>
      obtain ⟨i, hi, rfl, ht, hq⟩ := hrel
      have HW := Lib.hid (show Below w.heap.size w wr by obtain ⟨q, rfl⟩ := hq; exact below_drewN (Below.refl _ _) _)
      have HQ := Lib.hid (fun m => show ∃ q, wr.drewN m = w.drewN q by obtain ⟨q, rfl⟩ := hq; exact ⟨_, by rw [World.drewN_drewN]⟩)
      have HE := Lib.hid hq
      clear hq
      by_cases hlt : i < n
      · have hlt' : (i : Int) < (n : Int) := by omega
        obtain ⟨b, off, rfl, _, hc⟩ := (H.out.below HW.out).at_ hlt
        obtain ⟨b2, off2, rfl, _, hc2⟩ := (G.out.below HW.out).at_ hlt
        have htk1 : xs.take (i + 1) = xs.take i ++ [xs.getD i 0] := by rw [List.take_succ_eq_append_getElem (by omega)]; simp [List.getD, show i < xs.length by omega]
        have htk2 : ys.take (i + 1) = ys.take i ++ [ys.getD i 0] := by rw [List.take_succ_eq_append_getElem (by omega)]; simp [List.getD, show i < ys.length by omega]
        by_cases hxy : xs.getD i 0 = ys.getD i 0
        · have HT := Lib.hid (show xs.take (i + 1) = ys.take (i + 1) by rw [htk1, htk2, ht, hxy])
          rw [hxy] at hc
          generalize ys.getD i 0 = y at *
          clear ht htk1 htk2 hl hl' hxy
          go_wp2_with fail
          go_quiet (fail)
          go_wp2
          go_roundw
          case rel => exact ⟨i + 1, by omega, by go_num, HT.out, HQ.out _⟩
          case measure => simp [intOf]; omega
        · have HF := Lib.hid (show decide (xs = ys) = false from decide_eq_false (fun e => hxy (by rw [e])))
          have hne : (xs.getD i 0 == ys.getD i 0) = false := by rw [beq_eq_false_iff_ne]; exact hxy
          generalize xs.getD i 0 = x at *
          generalize ys.getD i 0 = y at *
          clear ht htk1 htk2 hl hl' hxy
          go_wp2_with fail
          go_quiet (fail)
          go_wp2
          go_ret
          exact ⟨by first | (rw [HF.out]; rfl) | rw [HF.out], HQ.out _⟩
      · obtain rfl : i = n := by omega
        have HF := Lib.hid (show decide (xs = ys) = true from decide_eq_true (by
          have e1 : xs.take i = xs := by rw [← hl]; exact List.take_length
          have e2 : ys.take i = ys := by rw [← hl']; exact List.take_length
          rw [← e1, ← e2]; exact ht))
        clear ht hl hl'
        go_wp2
        go_ret
        exact ⟨by first | (rw [HF.out]; rfl) | rw [HF.out], HE.out⟩
  · have HF := Lib.hid (show decide (xs = ys) = false from decide_eq_false (fun e => hnm (by rw [← hl, ← hl', e])))
    have hne : ((n : Int) == (m : Int)) = false := by rw [beq_eq_false_iff_ne]; omega
    clear hl hl' hnm
    go_enter Try.func127, Try.ntmps127
    go_wp2
    go_ret
    exact ⟨by first | (rw [HF.out]; rfl) | rw [HF.out], 0, rfl⟩

theorem RS.consRow {w B A n us yss A' c'} {v : Sl} {x : List Int} (h : RS w A n us yss) (hx : RI w v.1 v.2.1 x) (ho : w.ownsRow B 51 1 (.slice A' (1 + n) c') (1 + n) (([v] ++ us).map sv)) : RS w A' (1 + n) ([v] ++ us) ([x] ++ yss) := by
  have hv := h.vlen
  have hl := h.len
  refine RS.of_own ho (by simp; omega) (by simp; omega) (fun i hi => ?_)
  cases i with
  | zero => exact hx
  | succ i =>
    have := h.row (i := i) (by omega)
    exact this

theorem OwnS.cut {w w' B A n c vs xss A' c'} {i : Nat} (h : OwnS w B A n c vs xss) (hi : i < n) (hb : Below w.heap.size w w') (ho : w'.ownsRow B 51 1 (.slice A' (i + (n - (i + 1))) c') (i + (n - (i + 1))) ((vs.take i ++ vs.drop (i + 1)).map sv)) :
    OwnS w' B A' (i + (n - (i + 1))) c' (vs.take i ++ vs.drop (i + 1)) (xss.take i ++ xss.drop (i + 1)) := by
  have hv := h.vlen
  have hl := h.len
  refine h.pick hb ho (fun a => if a < i then a else a + 1) (by simp; omega) (fun a ha => ?_) (fun a b hab hbm => ?_) (fun a ha => ?_) (fun a ha => ?_)
  · show (if a < i then a else a + 1) < n
    split <;> omega
  · show (if a < i then a else a + 1) < (if b < i then b else b + 1)
    split <;> split <;> omega
  · show _ = vs.getD (if a < i then a else a + 1) nilS
    simp only [List.getD]
    by_cases h1 : a < i
    · rw [if_pos h1, List.getElem?_append_left (by simp; omega), List.getElem?_take_of_lt h1]
    · rw [if_neg h1, List.getElem?_append_right (by simp; omega), List.getElem?_drop]
      congr 2
      simp; omega
  · show _ = xss.getD (if a < i then a else a + 1) []
    simp only [List.getD]
    by_cases h1 : a < i
    · rw [if_pos h1, List.getElem?_append_left (by simp; omega), List.getElem?_take_of_lt h1]
    · rw [if_neg h1, List.getElem?_append_right (by simp; omega), List.getElem?_drop]
      congr 2
      simp; omega

theorem lit1S_row (w : World) (v : Sl) : (w.alloc (.cells #[sv v] 51)).ownsRow w.heap.size 51 1 (.slice (some ⟨w.heap.size, 0, none⟩) 1 1) 1 ([v].map sv) :=
  World.ownsRow_lit (base := w.heap.size) (e := 51) (size := 1) w #[sv v] 1 (Nat.le_refl _) (by unfold maxLen; omega) rfl


set_option maxRecDepth 100000 in
set_option maxHeartbeats 3200000 in
theorem spec_l01Put {B A n c vs acc A2 m c2 x w} (h : OwnS w B A n c vs acc) (g : RI w A2 m x) (hB : B ≤ w.heap.size) (hn : n ≤ 8589934592) (hm : m ≤ 1048576) :
    Calls Try.prog 141 #[.slice A n c, .slice A2 m c2] w fun e w' => ∃ G k d us, e = .returned (.slice G k d) ∧ OwnS w' B G k d us (mrg acc [x]) ∧ Below w.heap.size w w' := by
  have hs := h.reads.small
  have hc := h.cap_ge.1
  have hc2 := h.cap_ge.2
  have hf : (A = none ∧ n = 0 ∧ c = 0) ∨ ∃ g, A = some ⟨g, 0, none⟩ := by
    rcases h.1.2 with ⟨hv, h0⟩ | ⟨g, cap, cur, hv, hb, hg, hnc, hcm, hs, ht⟩
    · injection hv with h1 h2 h3
      exact .inl ⟨h1, h2, h3⟩
    · injection hv with h1 h2 h3
      exact .inr ⟨g, h1⟩
  have HL := Lib.hid h.len
  have HV := Lib.hid h.vlen
  have H := Lib.hid h
  have G := Lib.hid g
  have CO := Lib.hid (fun w2 (hb : Below w.heap.size w w2) => spec_own A2 m c2 x w2 (g.below hb) hm)
  clear h g
  rcases hf with ⟨rfl, rfl, rfl⟩ | ⟨b, rfl⟩
  · have hacc : acc = [] := List.eq_nil_of_length_eq_zero HL.out
    have hvs : vs = [] := List.eq_nil_of_length_eq_zero HV.out
    subst hacc hvs
    have HF := Lib.hid (put_end x)
    clear hn hs hc hc2
    go_enter Try.func141, Try.ntmps141
    go_wp2
    refine wp_loop_rounds 1 ?_
    rw [rounds_succ]
    go_wp2_with fail
    obtain ⟨w3, rfl⟩ : ∃ w3, w3 = w := ⟨_, rfl⟩
    have HW3 := Lib.hid (Below.refl w3.heap.size w3)
    have HR3 := Lib.hid H.out.reads
    have HT := Lib.hid (show RS w3 none 0 ([] : List Sl) [] from RS.nil)
    have HD := Lib.hid (show RS w3 none 0 ([] : List Sl) [] from RS.nil)
    have hB3 := hB
    go_region_law ((first | (refine step_appRS _ _ w4.heap.size (some ⟨w4.heap.size, 0, none⟩) 1 1 [(A4, m, c4)] _ (0 - 0) _ ([]) ([]) _ (by rfl) (by rfl) (by rfl) (by rfl) (by exact lit1S_row w4 (A4, m, c4)) (by first | exact (HD.out.below HB4.out).below (box_below w4 _).drew | exact (HD.out.below HB4.out).below (box_below w4 _)) (by omega) (by simp) ?_; intro A5 c5 w5 ho5 hg5; have HO5 := Lib.hid ho5; have HG5 := Lib.hid hg5; clear ho5 hg5) | (go_simp; go_at_call 115; refine (CO.out _ (by first | exact HW3.out | exact HW3.out.drew)).mono ?_; rintro e w4 ⟨A4, c4, rfl, ho4, hb4⟩; have HO4 := Lib.hid (show OwnI w4 w3.heap.size A4 m c4 x from ho4); have HB4 := Lib.hid (show Below w3.heap.size w3 w4 from ⟨hb4.os, hb4.tape, hb4.output, hb4.size, hb4.block⟩); clear ho4 hb4; dsimp only)))
    all_goals (
      have HB45 := Lib.hid (show Below w4.heap.size w4 w5 from ((box_below w4 (.cells #[sv (A4, m, c4)] 51)).grown ⟨HG5.out.os, HG5.out.tape, HG5.out.output, HG5.out.size, HG5.out.block⟩ (by simp) (fun k hk => Nat.le_of_eq (by simpa using hk))))
      have HB5 := Lib.hid (HB4.out.trans (HB45.out.mono HB4.out.size))
      have HRR := Lib.hid (RS.consRow (v := (A4, m, c4)) (x := x) (HD.out.below HB5.out) (HO4.out.reads.below HB45.out) HO5.out)
      have HE5 := Lib.hid (emptyS_own w5).1
      have HBE := Lib.hid (box_below w5 (.cells #[] 51))
      go_wp2_with (first | (at_builtin; refine appRS _ _ w5.heap.size A6 0 c6 ([]) _ (1 + (0 - 0)) _ ([(A4, m, c4)] ++ []) ([x] ++ []) _ rfl rfl rfl rfl HO6.out (HRR.out.below HB6.out) (by omega) HB6.out.size ?_; intro A7 c7 w7 ho7 hg7; have HO7 := Lib.hid ho7; have HG7 := Lib.hid hg7; clear ho7 hg7) | (at_builtin; refine appRS _ _ w5.heap.size (some ⟨w5.heap.size, 0, none⟩) 0 0 [] _ 0 _ ([]) ([]) _ rfl rfl rfl rfl HE5.out ((HT.out.below HB5.out).below HBE.out) (by omega) (by simp) ?_; intro A6 c6 w6 ho6 hg6; rw [Nat.zero_add, List.nil_append] at ho6; have HO6 := Lib.hid ho6; have HB6 := Lib.hid (HBE.out.grown hg6 (by simp) (fun k hk => Nat.le_of_eq (by simpa using hk))); clear ho6 hg6))
      all_goals (
        have HB57 := Lib.hid (HB6.out.grown HG7.out HB6.out.size (fun k hk => (HO6.out.lt k (by rw [own_block]; exact hk)).1))
        have HB47 := Lib.hid (HB45.out.trans (HB57.out.mono HB45.out.size))
        have HWW := Lib.hid (HW3.out.trans ((HB5.out.trans (HB57.out.mono HB5.out.size)).mono HW3.out.size))
        have HO8 := Lib.hid (rowMono HO7.out (Nat.le_trans hB (Nat.le_trans HW3.out.size HB5.out.size)))
        go_wp2
        all_goals (
          go_ret
          have HFIN := Lib.hid (show OwnS w7 B A7 (0 + (1 + (0 - 0))) c7 _ _ from by
            have e1 : 0 + (1 + (0 - 0)) = 0 + 1 := by omega
            have ho8 := HO8.out
            rw [e1] at ho8 ⊢
            exact H.out.put (v := (A4, m, c4)) (x := x) (i := 0) (L := w3.heap.size) HWW.out (by omega) (by exact ho8) (HO4.out.below (HB47.out)) HW3.out.size hB3)
          first | exact ⟨_, _, _, _, rfl, by rw [HF.out]; exact HFIN.out, HWW.out⟩ | exact ⟨_, _, _, rfl, ⟨_, by rw [HF.out]; exact HFIN.out⟩, HWW.out⟩)))
  · go_enter Try.func141, Try.ntmps141
    go_wp2
    go_loopw [5] (fun iv wr => ∃ i : Nat, i ≤ n ∧ iv = .int .i64 (i : Int) ∧ (∀ j, j < i → lessL (acc.getD j []) x = true) ∧ ∃ q, wr = w.drewN q) (fun iv _ => n - (intOf iv).toNat)
    case atStart => exact ⟨0, by omega, rfl, fun j hj => absurd hj (by omega), 0, rfl⟩
    case round =>
      obtain ⟨i, hi, rfl, hall, q, rfl⟩ := hrel
      have HA := Lib.hid hall
      clear hall
      generalize hwr : w.drewN q = wr
      have HW := Lib.hid (show Below w.heap.size w wr by rw [← hwr]; exact below_drewN (Below.refl _ _) _)
      have HQ := Lib.hid (fun m => show ∃ q, wr.drewN m = w.drewN q by rw [← hwr]; exact ⟨_, by rw [World.drewN_drewN]⟩)
      clear hwr
      have hpa := put_at acc x i (by have := HL.out; omega) HA.out
      by_cases hin : i < n
      · have hin' : (i : Int) < (n : Int) := by omega
        obtain ⟨b', off, hA, _, hcc⟩ := (H.out.reads.below HW.out).at_ hin
        obtain ⟨rfl, rfl⟩ : b = b' ∧ 0 = off := by
          injection hA with hA
          injection hA with h1 h2 _
          exact ⟨h1, h2⟩
        clear hA
        have hrow := (H.out.reads.below HW.out).row hin
        have hp := fun (h1 : lessL (acc.getD i []) x = false) (h2 : acc.getD i [] ≠ x) => put_less acc x i (by have := HL.out; omega) h1 h2
        have hps := fun (h2 : acc.getD i [] = x) => put_same acc x i (by have := HL.out; omega) h2
        have hstep := fun (h1 : lessL (acc.getD i []) x = true) => fun j (hj : j < i + 1) => show lessL (acc.getD j []) x = true from (by
          rcases Nat.lt_or_ge j i with h3 | h3
          · exact HA.out j h3
          · obtain rfl : j = i := by omega
            exact h1)
        generalize hy : acc.getD i [] = y at hrow hp hps hstep
        generalize vs.getD i nilS = u at *
        obtain ⟨uA, un, uc⟩ := u
        simp only [sv] at hcc
        rw [Nat.zero_add] at hcc
        simp only at hrow
        have CL := Lib.hid (fun w2 (hb : Below wr.heap.size wr w2) => spec_l01Less (c := uc) (d := c2) (hrow.below hb) ((G.out.below HW.out).below hb))
        have CE := Lib.hid (fun w2 (hb : Below wr.heap.size wr w2) => spec_l01Same (c := uc) (d := c2) (hrow.below hb) ((G.out.below HW.out).below hb))
        clear hrow hy
        cases hl : lessL y x with
        | true =>
          rw [hl] at CL
          have HST := Lib.hid (hstep hl)
          clear hp hps hpa hstep hl
          go_wp2_with fail
          refine (CL.out _ (Below.refl _ _)).mono ?_
          rintro e w2 ⟨rfl, q2, rfl⟩
          go_wp2
          go_roundw
          case rel => exact ⟨i + 1, by omega, by go_num, HST.out, HQ.out _⟩
          case measure => simp [intOf]; omega
        | false =>
          rw [hl] at CL
          by_cases hyx : y = x
          · have HF := Lib.hid (show mrg acc [x] = acc.take i ++ acc.drop (i + 1) by rw [hpa, hps hyx])
            rw [decide_eq_true hyx] at CE
            clear hp hps hpa hstep hl hyx
            go_wp2_with fail
            refine (CL.out _ (Below.refl _ _)).mono ?_
            rintro e w2 ⟨rfl, q2, rfl⟩
            go_wp2_with fail
            refine (CE.out _ (below_drewN (Below.refl _ _) _)).mono ?_
            rintro e w3 ⟨rfl, hq3⟩
            have HW3 := Lib.hid (show Below w.heap.size w w3 by obtain ⟨q3, rfl⟩ := hq3; exact HW.out.trans ((below_drewN (below_drewN (Below.refl _ _) _) _).mono HW.out.size))
            clear hq3 hcc CE CL HQ HA
            have HR3 := Lib.hid (H.out.reads.below HW3.out)
            have HE := Lib.hid (emptyS_own w3).1
            have HT := Lib.hid (HR3.out.take (i := i) (by omega))
            have HD := Lib.hid (HR3.out.dropC (i := i + 1) (by omega) hc)
            rw [Nat.zero_add] at HD
            have hic : i ≤ c := by omega
            have hin1 : i + 1 ≤ n := by omega
            have hin1c : i + 1 ≤ c := by omega
            have hz1 : 0 ≤ (i : Int) + 1 := by omega
            have hz2 : (i : Int) + 1 ≤ (n : Int) := by omega
            have hwi : IntKind.i64.wrap ((i : Int) + 1) = ((i + 1 : Nat) : Int) := by rw [IntKind.wrap_i64]; omega
            go_wp2_with fail
            go_region_law ((first | (refine step_appRS _ _ w3.heap.size A4 i c4 (vs.take i) _ (n - (i + 1)) _ (vs.drop (i + 1)) (acc.drop (i + 1)) _ (by rfl) (by rfl) (by rfl) (by rfl) (by exact HO4.out) (by exact HD.out.below HB4.out) (by omega) (by exact HB4.out.size) ?_; intro A5 c5 w5 ho5 hg5; have HO5 := Lib.hid ho5; have HG5 := Lib.hid hg5; clear ho5 hg5) | (refine step_appRS _ _ w3.heap.size (some ⟨w3.heap.size, 0, none⟩) 0 0 [] _ i _ (vs.take i) (acc.take i) _ (by rfl) (by rfl) (by rfl) (by rfl) (by exact HE.out) (by first | exact HT.out.below (box_below w3 _).drew | exact HT.out.below (box_below w3 _)) (by omega) (by simp) ?_; intro A4 c4 w4 ho4 hg4; rw [Nat.zero_add, List.nil_append] at ho4; have HO4 := Lib.hid ho4; have HB4 := Lib.hid (show Below w3.heap.size w3 w4 from (box_below w3 (.cells #[] 51)).grown ⟨hg4.os, hg4.tape, hg4.output, hg4.size, hg4.block⟩ (by simp) (fun k hk => Nat.le_of_eq (by simpa using hk))); clear ho4 hg4)))
            all_goals (
              have HB5 := Lib.hid (HW3.out.trans ((HB4.out.grown HG5.out HB4.out.size (fun k hk => (HO4.out.lt k (by rw [own_block]; exact hk)).1)).mono HW3.out.size))
              have HO6 := Lib.hid (H.out.cut hin HB5.out (rowMono HO5.out (Nat.le_trans hB HW3.out.size)))
              go_wp2
              all_goals (
                go_ret
                first | exact ⟨_, _, _, _, rfl, by rw [HF.out]; exact HO6.out, HB5.out⟩ | exact ⟨_, _, _, rfl, ⟨_, by rw [HF.out]; exact HO6.out⟩, HB5.out⟩))
          · have HF := Lib.hid (show mrg acc [x] = acc.take i ++ x :: acc.drop i by rw [hpa, hp hl hyx])
            rw [decide_eq_false hyx] at CE
            clear hp hps hpa hstep hl hyx
            go_wp2_with fail
            refine (CL.out _ (Below.refl _ _)).mono ?_
            rintro e w2 ⟨rfl, q2, rfl⟩
            go_wp2_with fail
            refine (CE.out _ (below_drewN (Below.refl _ _) _)).mono ?_
            rintro e w3 ⟨rfl, hq3⟩
            have HW3 := Lib.hid (show Below w.heap.size w w3 by obtain ⟨q3, rfl⟩ := hq3; exact HW.out.trans ((below_drewN (below_drewN (Below.refl _ _) _) _).mono HW.out.size))
            clear hq3 hcc CE CL HQ HA
            have HR3 := Lib.hid (H.out.reads.below HW3.out)
            have hB3 : B ≤ w3.heap.size := Nat.le_trans hB HW3.out.size
            have HT := Lib.hid (HR3.out.take (i := i) (by omega))
            have HD := Lib.hid (HR3.out.dropC (i := i) (by omega) hc)
            rw [Nat.zero_add] at HD
            have hic : i ≤ c := by omega
            go_wp2_with fail
            go_region_law ((first | (refine step_appRS _ _ w4.heap.size (some ⟨w4.heap.size, 0, none⟩) 1 1 [(A4, m, c4)] _ (n - i) _ (vs.drop i) (acc.drop i) _ (by rfl) (by rfl) (by rfl) (by rfl) (by exact lit1S_row w4 (A4, m, c4)) (by first | exact (HD.out.below HB4.out).below (box_below w4 _).drew | exact (HD.out.below HB4.out).below (box_below w4 _)) (by omega) (by simp) ?_; intro A5 c5 w5 ho5 hg5; have HO5 := Lib.hid ho5; have HG5 := Lib.hid hg5; clear ho5 hg5) | (go_simp; go_at_call 115; refine (CO.out _ (by first | exact HW3.out | exact HW3.out.drew)).mono ?_; rintro e w4 ⟨A4, c4, rfl, ho4, hb4⟩; have HO4 := Lib.hid (show OwnI w4 w3.heap.size A4 m c4 x from ho4); have HB4 := Lib.hid (show Below w3.heap.size w3 w4 from ⟨hb4.os, hb4.tape, hb4.output, hb4.size, hb4.block⟩); clear ho4 hb4; dsimp only)))
            all_goals (
              have HB45 := Lib.hid (show Below w4.heap.size w4 w5 from ((box_below w4 (.cells #[sv (A4, m, c4)] 51)).grown ⟨HG5.out.os, HG5.out.tape, HG5.out.output, HG5.out.size, HG5.out.block⟩ (by simp) (fun k hk => Nat.le_of_eq (by simpa using hk))))
              have HB5 := Lib.hid (HB4.out.trans (HB45.out.mono HB4.out.size))
              have HRR := Lib.hid (RS.consRow (v := (A4, m, c4)) (x := x) (HD.out.below HB5.out) (HO4.out.reads.below HB45.out) HO5.out)
              have HE5 := Lib.hid (emptyS_own w5).1
              have HBE := Lib.hid (box_below w5 (.cells #[] 51))
              go_wp2_with (first | (at_builtin; refine appRS _ _ w5.heap.size A6 i c6 (vs.take i) _ (1 + (n - i)) _ ([(A4, m, c4)] ++ vs.drop i) ([x] ++ acc.drop i) _ rfl rfl rfl rfl HO6.out (HRR.out.below HB6.out) (by omega) HB6.out.size ?_; intro A7 c7 w7 ho7 hg7; have HO7 := Lib.hid ho7; have HG7 := Lib.hid hg7; clear ho7 hg7) | (at_builtin; refine appRS _ _ w5.heap.size (some ⟨w5.heap.size, 0, none⟩) 0 0 [] _ i _ (vs.take i) (acc.take i) _ rfl rfl rfl rfl HE5.out ((HT.out.below HB5.out).below HBE.out) (by omega) (by simp) ?_; intro A6 c6 w6 ho6 hg6; rw [Nat.zero_add, List.nil_append] at ho6; have HO6 := Lib.hid ho6; have HB6 := Lib.hid (HBE.out.grown hg6 (by simp) (fun k hk => Nat.le_of_eq (by simpa using hk))); clear ho6 hg6))
              all_goals (
                have HB57 := Lib.hid (HB6.out.grown HG7.out HB6.out.size (fun k hk => (HO6.out.lt k (by rw [own_block]; exact hk)).1))
                have HB47 := Lib.hid (HB45.out.trans (HB57.out.mono HB45.out.size))
                have HWW := Lib.hid (HW3.out.trans ((HB5.out.trans (HB57.out.mono HB5.out.size)).mono HW3.out.size))
                have HO8 := Lib.hid (rowMono HO7.out (Nat.le_trans hB (Nat.le_trans HW3.out.size HB5.out.size)))
                go_wp2
                all_goals (
                  go_ret
                  have HFIN := Lib.hid (show OwnS w7 B A7 (i + (1 + (n - i))) c7 _ _ from by
                    have e1 : i + (1 + (n - i)) = n + 1 := by omega
                    have ho8 := HO8.out
                    rw [e1] at ho8 ⊢
                    exact H.out.put (v := (A4, m, c4)) (x := x) (i := i) (L := w3.heap.size) HWW.out (by omega) (by exact ho8) (HO4.out.below (HB47.out)) HW3.out.size hB3)
                  first | exact ⟨_, _, _, _, rfl, by rw [HF.out]; exact HFIN.out, HWW.out⟩ | exact ⟨_, _, _, rfl, ⟨_, by rw [HF.out]; exact HFIN.out⟩, HWW.out⟩)))
      · obtain rfl : i = n := by omega
        have HF := Lib.hid (show mrg acc [x] = acc.take i ++ x :: acc.drop i by rw [hpa, List.drop_eq_nil_of_le (Nat.le_of_eq HL.out), put_end])
        obtain ⟨w3, rfl⟩ : ∃ w3, w3 = wr := ⟨_, rfl⟩
        have HW3 := Lib.hid HW.out
        clear hpa HQ HA
        have HR3 := Lib.hid (H.out.reads.below HW3.out)
        have hB3 : B ≤ w3.heap.size := Nat.le_trans hB HW3.out.size
        have HT := Lib.hid (HR3.out.take (i := i) (by omega))
        have HD := Lib.hid (show RS w3 (if c = i then some ⟨b, 0, none⟩ else some ⟨b, i, none⟩) 0 ([] : List Sl) [] from RS.nil)
        have hdn : vs.drop i = [] := List.drop_eq_nil_of_le (Nat.le_of_eq HV.out)
        have hic : i ≤ c := by omega
        go_wp2_with fail
        go_region_law ((first | (refine step_appRS _ _ w4.heap.size (some ⟨w4.heap.size, 0, none⟩) 1 1 [(A4, m, c4)] _ 0 _ ([]) ([]) _ (by rfl) (by rfl) (by rfl) (by rfl) (by exact lit1S_row w4 (A4, m, c4)) (by first | exact (HD.out.below HB4.out).below (box_below w4 _).drew | exact (HD.out.below HB4.out).below (box_below w4 _)) (by omega) (by simp) ?_; intro A5 c5 w5 ho5 hg5; have HO5 := Lib.hid ho5; have HG5 := Lib.hid hg5; clear ho5 hg5) | (go_simp; go_at_call 115; refine (CO.out _ (by first | exact HW3.out | exact HW3.out.drew)).mono ?_; rintro e w4 ⟨A4, c4, rfl, ho4, hb4⟩; have HO4 := Lib.hid (show OwnI w4 w3.heap.size A4 m c4 x from ho4); have HB4 := Lib.hid (show Below w3.heap.size w3 w4 from ⟨hb4.os, hb4.tape, hb4.output, hb4.size, hb4.block⟩); clear ho4 hb4; dsimp only)))
        all_goals (
          have HB45 := Lib.hid (show Below w4.heap.size w4 w5 from ((box_below w4 (.cells #[sv (A4, m, c4)] 51)).grown ⟨HG5.out.os, HG5.out.tape, HG5.out.output, HG5.out.size, HG5.out.block⟩ (by simp) (fun k hk => Nat.le_of_eq (by simpa using hk))))
          have HB5 := Lib.hid (HB4.out.trans (HB45.out.mono HB4.out.size))
          have HRR := Lib.hid (RS.consRow (v := (A4, m, c4)) (x := x) (HD.out.below HB5.out) (HO4.out.reads.below HB45.out) HO5.out)
          have HE5 := Lib.hid (emptyS_own w5).1
          have HBE := Lib.hid (box_below w5 (.cells #[] 51))
          go_wp2_with (first | (at_builtin; refine appRS _ _ w5.heap.size A6 i c6 (vs.take i) _ (1 + 0) _ ([(A4, m, c4)] ++ []) ([x] ++ []) _ rfl rfl rfl rfl HO6.out (HRR.out.below HB6.out) (by omega) HB6.out.size ?_; intro A7 c7 w7 ho7 hg7; have HO7 := Lib.hid ho7; have HG7 := Lib.hid hg7; clear ho7 hg7) | (at_builtin; refine appRS _ _ w5.heap.size (some ⟨w5.heap.size, 0, none⟩) 0 0 [] _ i _ (vs.take i) (acc.take i) _ rfl rfl rfl rfl HE5.out ((HT.out.below HB5.out).below HBE.out) (by omega) (by simp) ?_; intro A6 c6 w6 ho6 hg6; rw [Nat.zero_add, List.nil_append] at ho6; have HO6 := Lib.hid ho6; have HB6 := Lib.hid (HBE.out.grown hg6 (by simp) (fun k hk => Nat.le_of_eq (by simpa using hk))); clear ho6 hg6))
          all_goals (
            have HB57 := Lib.hid (HB6.out.grown HG7.out HB6.out.size (fun k hk => (HO6.out.lt k (by rw [own_block]; exact hk)).1))
            have HB47 := Lib.hid (HB45.out.trans (HB57.out.mono HB45.out.size))
            have HWW := Lib.hid (HW3.out.trans ((HB5.out.trans (HB57.out.mono HB5.out.size)).mono HW3.out.size))
            have HO8 := Lib.hid (rowMono HO7.out (Nat.le_trans hB (Nat.le_trans HW3.out.size HB5.out.size)))
            go_wp2
            all_goals (
              go_ret
              have HFIN := Lib.hid (show OwnS w7 B A7 (i + (1 + 0)) c7 _ _ from by
                have e1 : i + (1 + 0) = i + 1 := by omega
                have ho8 := HO8.out
                rw [e1] at ho8 ⊢
                exact H.out.put (v := (A4, m, c4)) (x := x) (i := i) (L := w3.heap.size) HWW.out (by omega) (by rw [hdn]; exact ho8) (HO4.out.below (HB47.out)) HW3.out.size hB3)
              first | exact ⟨_, _, _, _, rfl, by rw [HF.out]; exact HFIN.out, HWW.out⟩ | exact ⟨_, _, _, rfl, ⟨_, by rw [HF.out]; exact HFIN.out⟩, HWW.out⟩)))

end Go.Proofs.Ytpgmggkpnefaeaa
