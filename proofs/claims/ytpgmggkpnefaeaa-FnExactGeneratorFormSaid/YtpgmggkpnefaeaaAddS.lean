/- AddSquares on both sides. (gen_addsq.py) -/
import Derived.Test.YtpgmggkpnefaeaaSumT
import Derived.Test.YtpgmggkpnefaeaaSq
import Derived.Test.YtpgmggkpnefaeaaBlk
namespace Go.Proofs.Ytpgmggkpnefaeaa
open Go.ChangeShapes Go.WideShapes Go.ChangeAt Go.RowKit Go.Proofs
set_option linter.unusedVariables false

def pAddSquares (a b : List (List Int)) : List (List Int) × Int :=
  if (pIsSquares a && pIsSquares b) = true then (if a ≠ [] ∧ b ≠ [] ∧ sumW 0 (a.getD 0 []) ≠ sumW 0 (b.getD 0 []) then ([], 2) else (if 2000 < (mrg a b).length then ([], 3) else (mrg a b, 0))) else ([], 1)

theorem pAddSquares_sz (a : List (List Int)) (ha : a.length + tot a ≤ 1048576) (b : List (List Int)) (hb : a.length + tot a + (b.length + tot b) ≤ 1048576) : tot (pAddSquares a b).1 ≤ 4000000000 := by
  have h := (mrg_len a b).2
  unfold pAddSquares
  split
  · split
    · simp [tot]
    · split
      · simp [tot]
      · show tot (mrg a b) ≤ _
        omega
  · simp [tot]

/-- the boxes of a function of two structs: the two parameters and the result's variable -/
structure BoxT (w : World) (b : Nat) (t : TypeId) (v0 v1 v2 : Array Value) : Prop where
  h0 : Blk w b t v0
  h1 : Blk w (b + 1) t v1
  h2 : Blk w (b + 1 + 1) t v2

theorem BoxT.new (w : World) (t : TypeId) (v0 v1 v2 : Array Value) : BoxT (((w.alloc (.cells v0 t)).alloc (.cells v1 t)).alloc (.cells v2 t)) w.heap.size t v0 v1 v2 :=
  ⟨((Blk.new w v0 t).alloc _).alloc _, by have := (Blk.new (w.alloc (.cells v0 t)) v1 t).alloc (.cells v2 t); simpa using this, by have := Blk.new ((w.alloc (.cells v0 t)).alloc (.cells v1 t)) v2 t; simpa using this⟩

theorem BoxT.below {w w' b t v0 v1 v2} (h : BoxT w b t v0 v1 v2) (hb : Below w.heap.size w w') : BoxT w' b t v0 v1 v2 := ⟨h.h0.below hb, h.h1.below hb, h.h2.below hb⟩

theorem boxT_below (w : World) (t : TypeId) (v0 v1 v2 : Array Value) : Below w.heap.size w (((w.alloc (.cells v0 t)).alloc (.cells v1 t)).alloc (.cells v2 t)) :=
  (((Below.refl _ _).alloc (Nat.le_refl _) _).alloc (by simp) _).alloc (by simp; omega) _

theorem spec_l03Fit_hi {A n c w} (h : 2000 < n) :
    Calls Try.prog 88 #[.slice A n c] w fun e w' => e = .returned (.tuple #[.agg #[.slice none 0 0], .int .i64 3]) ∧ Below w.heap.size w w' := by
  have h' : (2000 : Int) < (n : Int) := by omega
  have hb0 := box_below w (.cells #[.slice none 0 0] 34)
  have hbk := Blk.new w #[.slice none 0 0] 34
  have c0 := hbk.cell 0 rfl
  have f0 := hbk.free 0
  go_enter Try.func88, Try.ntmps88
  go_wp2
  refine bodyPost_ret (v := .tuple #[.agg #[.slice none 0 0], .int .i64 3]) (by simp [results, Try.results88, go_sem, c0]) rfl ?_
  exact ⟨rfl, box_below _ _⟩

theorem spec_l03Fit_lo {A n c w} (h : n ≤ 2000) :
    Calls Try.prog 88 #[.slice A n c] w fun e w' => e = .returned (.tuple #[.agg #[.slice A n c], .int .i64 0]) ∧ Below w.heap.size w w' := by
  have h' : (n : Int) ≤ (2000 : Int) := by omega
  have hb0 := box_below w (.cells #[.slice none 0 0] 34)
  have hbk := Blk.new w #[.slice none 0 0] 34
  have c0 := hbk.cell 0 rfl
  have f0 := hbk.free 0
  go_enter Try.func88, Try.ntmps88
  go_wp2
  refine bodyPost_ret (v := .tuple #[.agg #[.slice A n c], .int .i64 0]) (by simp [results, Try.results88, go_sem]) rfl ?_
  exact ⟨rfl, box_below _ _⟩

set_option maxRecDepth 100000 in
set_option maxHeartbeats 2000000 in
theorem impl_AddSquares {A n c vs a A2 n2 c2 us b w} (h : RS w A n vs a) (hm : n + tot a ≤ 1048576) (g : RS w A2 n2 us b) (hm2 : n2 + tot b ≤ 1048576) :
    Calls Try.prog 55 #[.agg #[.slice A n c], .agg #[.slice A2 n2 c2]] w fun e w' => ∃ G m d vs', e = .returned (.tuple #[.agg #[.slice G m d], .int .i64 (pAddSquares a b).2]) ∧ OwnS w' w.heap.size G m d vs' (pAddSquares a b).1 ∧ Below w.heap.size w w' := by
  have hra : ∀ x ∈ a, x.length ≤ 1048576 := fun x hx => by have := tot_mem a x hx; omega
  have hrb : ∀ x ∈ b, x.length ≤ 1048576 := fun x hx => by have := tot_mem b x hx; omega
  have hl := h.len
  have hl' := g.len
  have HBX := Lib.hid (BoxT.new w 34 #[.slice A n c] #[.slice A2 n2 c2] #[.slice none 0 0])
  have HB0 := Lib.hid (boxT_below w 34 #[.slice A n c] #[.slice A2 n2 c2] #[.slice none 0 0])
  have CA := Lib.hid (fun w1 (hb : Below w.heap.size w w1) => impl_IsSquares (c := c) (h.below hb) hm)
  have CB := Lib.hid (fun w1 (hb : Below w.heap.size w w1) => impl_IsSquares (c := c2) (g.below hb) hm2)
  have CS := Lib.hid (fun (ha : riseB a = true) (hb : riseB b = true) w2 (hbl : Below w.heap.size w w2) => impl_sumOf (c := c) (c2 := c2) (h.below hbl) (g.below hbl) (by omega) (by omega) hra hrb ha hb)
  clear hra hrb hm hm2
  cases hp : pIsSquares a with
  | false =>
    have HF := Lib.hid (show pAddSquares a b = ([], 1) by unfold pAddSquares; rw [hp]; rfl)
    rw [hp] at CA
    clear hp h g
    go_enter Try.func55, Try.ntmps55
    go_wp2_with fail
    generalize ((w.alloc (.cells #[.slice A n c] 34)).alloc (.cells #[.slice A2 n2 c2] 34)).alloc (.cells #[.slice none 0 0] 34) = W0 at *
    refine (CA.out _ HB0.out).mono ?_
    rintro e w1 ⟨rfl, hb⟩
    have HB := Lib.hid (HB0.out.trans (hb.mono HB0.out.size))
    have HX1 := Lib.hid (HBX.out.below hb)
    clear hb
    have c20 := HX1.out.h2.cell 0 rfl
    have f20 := HX1.out.h2.free 0
    go_wp2
    refine bodyPost_ret (v := .tuple #[.agg #[.slice none 0 0], .int .i64 1]) (by simp [results, Try.results55, go_sem, c20]) rfl ?_
    rw [HF.out]
    exact ⟨none, 0, 0, [], rfl, OwnS.nil _ _, HB.out.setCell (by simp; omega) _⟩
  | true =>
    rw [hp] at CA
    cases hq : pIsSquares b with
    | false =>
      have HF := Lib.hid (show pAddSquares a b = ([], 1) by unfold pAddSquares; rw [hp, hq]; rfl)
      rw [hq] at CB
      clear hp hq h g
      go_enter Try.func55, Try.ntmps55
      go_wp2_with fail
      generalize ((w.alloc (.cells #[.slice A n c] 34)).alloc (.cells #[.slice A2 n2 c2] 34)).alloc (.cells #[.slice none 0 0] 34) = W0 at *
      refine (CA.out _ HB0.out).mono ?_
      rintro e w1 ⟨rfl, hb⟩
      have HB := Lib.hid (HB0.out.trans (hb.mono HB0.out.size))
      have HX1 := Lib.hid (HBX.out.below hb)
      clear hb
      have c10 := HX1.out.h1.cell 0 rfl
      go_wp2_with fail
      refine (CB.out _ HB.out).mono ?_
      rintro e w2 ⟨rfl, hb⟩
      have HB2 := Lib.hid (HB.out.trans (hb.mono HB.out.size))
      have HX2 := Lib.hid (HX1.out.below hb)
      clear c10 hb
      have c20 := HX2.out.h2.cell 0 rfl
      have f20 := HX2.out.h2.free 0
      go_wp2
      refine bodyPost_ret (v := .tuple #[.agg #[.slice none 0 0], .int .i64 1]) (by simp [results, Try.results55, go_sem, c20]) rfl ?_
      rw [HF.out]
      exact ⟨none, 0, 0, [], rfl, OwnS.nil _ _, HB2.out.setCell (by simp; omega) _⟩
    | true =>
      rw [hq] at CB
      have CT := Lib.hid (CS.out (pIsSquares_true hp).2.2.2 (pIsSquares_true hq).2.2.2)
      have HPE := Lib.hid (show pAddSquares a b = (if a ≠ [] ∧ b ≠ [] ∧ sumW 0 (a.getD 0 []) ≠ sumW 0 (b.getD 0 []) then ([], 2) else (if 2000 < (mrg a b).length then ([], 3) else (mrg a b, 0))) by unfold pAddSquares; rw [hp, hq]; rfl)
      clear hp hq CS
      by_cases h0 : 0 < n
      · have h0' : (0 : Int) < (n : Int) := by omega
        by_cases h1 : 0 < n2
        · have h1' : (0 : Int) < (n2 : Int) := by omega
          have hne1 : a ≠ [] := by intro e; subst e; simp at hl; omega
          have hne2 : b ≠ [] := by intro e; subst e; simp at hl'; omega
          obtain ⟨p1, o1, rfl, hlt1, hc1⟩ := h.at_ (i := 0) (by omega)
          obtain ⟨p2, o2, rfl, hlt2, hc2⟩ := g.at_ (i := 0) (by omega)
          have hr1 := h.row (i := 0) (by omega)
          have hr2 := g.row (i := 0) (by omega)
          generalize hx : a.getD 0 [] = x at *
          generalize hy : b.getD 0 [] = y at *
          generalize vs.getD 0 nilS = u at *
          generalize us.getD 0 nilS = v at *
          obtain ⟨uA, un, uc⟩ := u
          obtain ⟨vA, vn, vc⟩ := v
          simp only at hr1 hr2
          simp only [sv] at hc1 hc2
          rw [Nat.add_zero] at hc1 hc2
          have HC1 := Lib.hid (fun w2 (hb : Below w.heap.size w w2) => (hb.cell (p := ⟨p1, o1, none⟩) hlt1).trans hc1)
          have HC2 := Lib.hid (fun w2 (hb : Below w.heap.size w w2) => (hb.cell (p := ⟨p2, o2, none⟩) hlt2).trans hc2)
          have CD := Lib.hid (fun w2 (hb : Below w.heap.size w w2) => impl_sum uA un uc x w2 (hr1.below hb))
          have CE := Lib.hid (fun w2 (hb : Below w.heap.size w w2) => impl_sum vA vn vc y w2 (hr2.below hb))
          clear hc1 hc2 hr1 hr2 hlt1 hlt2
          clear h g
          by_cases hxy : sumW 0 x = sumW 0 y
          · have HFE := Lib.hid (show pAddSquares a b = (if 2000 < (mrg a b).length then ([], 3) else (mrg a b, 0)) by rw [HPE.out, if_neg (fun hh => hh.2.2 (by first | exact hxy | (rw [hx, hy]; exact hxy)))])
            have hxe : (sumW 0 x != sumW 0 y) = false := by rw [hxy]; simp
            generalize sumW 0 x = sx at *
            generalize sumW 0 y = sy at *
            subst hxy
            by_cases hlen : 2000 < (mrg a b).length
            · have HF := Lib.hid (show pAddSquares a b = ([], 3) by rw [HFE.out, if_pos hlen])
              have HL := Lib.hid hlen
              clear hlen HFE
              go_enter Try.func55, Try.ntmps55
              go_wp2_with fail
              generalize ((w.alloc (.cells #[.slice (some ⟨p1, o1, none⟩) n c] 34)).alloc (.cells #[.slice (some ⟨p2, o2, none⟩) n2 c2] 34)).alloc (.cells #[.slice none 0 0] 34) = W0 at *
              refine (CA.out _ HB0.out).mono ?_
              rintro e w1 ⟨rfl, hb⟩
              have HB := Lib.hid (HB0.out.trans (hb.mono HB0.out.size))
              have HX1 := Lib.hid (HBX.out.below hb)
              clear hb
              have c10 := HX1.out.h1.cell 0 rfl
              go_wp2_with fail
              refine (CB.out _ HB.out).mono ?_
              rintro e w2 ⟨rfl, hb⟩
              have HB2 := Lib.hid (HB.out.trans (hb.mono HB.out.size))
              have HX2 := Lib.hid (HX1.out.below hb)
              clear c10 hb
              have c00 := HX2.out.h0.cell 0 rfl
              have c10 := HX2.out.h1.cell 0 rfl
              have c20 := HX2.out.h2.cell 0 rfl
              have f20 := HX2.out.h2.free 0
              have hc1 := HC1.out _ HB2.out
              have hc2 := HC2.out _ HB2.out
              go_wp2_with fail
              go_quiet ((first | (go_at_call_of 93 uA; exact quiet_lefts (CD.out _ (by repeat (first | exact HB2.out | refine below_drewN ?_ _)))) | (go_at_call_of 93 vA; exact quiet_lefts (CE.out _ (by repeat (first | exact HB2.out | refine below_drewN ?_ _))))))
              go_wp2_with fail
              refine (CT.out _ (by repeat (first | exact HB2.out | refine below_drewN ?_ _))).mono ?_
              rintro e w3 ⟨G, m, d, us3, rfl, ho, hb0⟩
              have hb : Below w2.heap.size w2 w3 := Below.trans (show Below w2.heap.size w2 _ from by repeat (first | exact Below.refl _ _ | refine below_drewN ?_ _)) hb0
              have ho : OwnS w3 w2.heap.size G m d us3 (mrg a b) := ho
              have HML := Lib.hid ho.len
              have hm3 : (2000 : Int) < (m : Int) := by have := HML.out; have := HL.out; omega
              have HB3 := Lib.hid (HB2.out.trans (hb.mono HB2.out.size))
              have HX3 := Lib.hid (HX2.out.below hb)
              have hbx : w.heap.size + 1 + 1 < w3.heap.size := HX3.out.h2.lt
              clear c00 c10 c20 f20 hb ho hb0
              have c20 := HX3.out.h2.cell 0 rfl
              have f20 := HX3.out.h2.free 0
              have HB9 := Lib.hid (HB3.out.setCell (p := ⟨w.heap.size + 1 + 1, 0, none⟩) (by simp; omega) (.slice none 0 0))
              have d20 := ((HX3.out.h2.set 0 (.slice none 0 0)).alloc (.cells #[.slice G m d] 34)).cell 0 rfl
              go_wp2
              refine bodyPost_ret (v := .tuple #[.agg #[.slice none 0 0], .int .i64 3]) (by simp [results, Try.results55, go_sem, d20]) rfl ?_
              rw [HF.out]
              exact ⟨none, 0, 0, [], rfl, OwnS.nil _ _, HB9.out.alloc HB9.out.size _⟩
            · have HF := Lib.hid (show pAddSquares a b = (mrg a b, 0) by rw [HFE.out, if_neg hlen])
              have HL := Lib.hid hlen
              clear hlen HFE
              go_enter Try.func55, Try.ntmps55
              go_wp2_with fail
              generalize ((w.alloc (.cells #[.slice (some ⟨p1, o1, none⟩) n c] 34)).alloc (.cells #[.slice (some ⟨p2, o2, none⟩) n2 c2] 34)).alloc (.cells #[.slice none 0 0] 34) = W0 at *
              refine (CA.out _ HB0.out).mono ?_
              rintro e w1 ⟨rfl, hb⟩
              have HB := Lib.hid (HB0.out.trans (hb.mono HB0.out.size))
              have HX1 := Lib.hid (HBX.out.below hb)
              clear hb
              have c10 := HX1.out.h1.cell 0 rfl
              go_wp2_with fail
              refine (CB.out _ HB.out).mono ?_
              rintro e w2 ⟨rfl, hb⟩
              have HB2 := Lib.hid (HB.out.trans (hb.mono HB.out.size))
              have HX2 := Lib.hid (HX1.out.below hb)
              clear c10 hb
              have c00 := HX2.out.h0.cell 0 rfl
              have c10 := HX2.out.h1.cell 0 rfl
              have c20 := HX2.out.h2.cell 0 rfl
              have f20 := HX2.out.h2.free 0
              have hc1 := HC1.out _ HB2.out
              have hc2 := HC2.out _ HB2.out
              go_wp2_with fail
              go_quiet ((first | (go_at_call_of 93 uA; exact quiet_lefts (CD.out _ (by repeat (first | exact HB2.out | refine below_drewN ?_ _)))) | (go_at_call_of 93 vA; exact quiet_lefts (CE.out _ (by repeat (first | exact HB2.out | refine below_drewN ?_ _))))))
              go_wp2_with fail
              refine (CT.out _ (by repeat (first | exact HB2.out | refine below_drewN ?_ _))).mono ?_
              rintro e w3 ⟨G, m, d, us3, rfl, ho, hb0⟩
              have hb : Below w2.heap.size w2 w3 := Below.trans (show Below w2.heap.size w2 _ from by repeat (first | exact Below.refl _ _ | refine below_drewN ?_ _)) hb0
              have ho : OwnS w3 w2.heap.size G m d us3 (mrg a b) := ho
              have HML := Lib.hid ho.len
              have hm3 : (m : Int) ≤ (2000 : Int) := by have := HML.out; have := HL.out; omega
              have HB3 := Lib.hid (HB2.out.trans (hb.mono HB2.out.size))
              have HX3 := Lib.hid (HX2.out.below hb)
              have HO3 := Lib.hid ho
              have hbx : w.heap.size + 1 + 1 < w3.heap.size := HX3.out.h2.lt
              have hbx2 : w.heap.size + 1 + 1 < w2.heap.size := HX2.out.h2.lt
              have hne : w.heap.size + 1 + 1 ≠ w3.heap.size := by omega
              clear c00 c10 c20 f20 hb ho hb0
              have HX4 := Lib.hid (HX3.out.below (box_below w3 (.cells #[.slice G m d] 34)))
              have HBO := Lib.hid (Blk.new w3 #[.slice G m d] 34)
              have HO4 := Lib.hid (HO3.out.alloc (.cells #[.slice G m d] 34))
              have HB4 := Lib.hid (HB3.out.trans (Below.mono (box_below w3 (.cells #[.slice G m d] 34)) HB3.out.size))
              have c20 := HX3.out.h2.cell 0 rfl
              have f20 := HX3.out.h2.free 0
              have HB9 := Lib.hid (HB3.out.setCell (p := ⟨w.heap.size + 1 + 1, 0, none⟩) (by simp; omega) (.slice G m d))
              have d20 := ((HX3.out.h2.set 0 (.slice G m d)).alloc (.cells #[.slice G m d] 34)).cell 0 rfl
              have b00 := HBO.out.cell 0 rfl
              go_wp2
              refine bodyPost_ret (v := .tuple #[.agg #[.slice G m d], .int .i64 0]) (by simp [results, Try.results55, go_sem, d20]) rfl ?_
              rw [HF.out]
              exact ⟨G, m, d, us3, rfl, ((HO3.out.setFar ⟨w.heap.size + 1 + 1, 0, none⟩ _ hbx2).alloc _).mono HB2.out.size, HB9.out.alloc HB9.out.size _⟩
          · have HF := Lib.hid (show pAddSquares a b = ([], 2) by rw [HPE.out, if_pos ⟨hne1, hne2, by first | exact hxy | (rw [hx, hy]; exact hxy)⟩])
            have hxe : (sumW 0 x == sumW 0 y) = false := by rw [beq_eq_false_iff_ne]; exact hxy
            have hxe2 : (sumW 0 x != sumW 0 y) = true := by rw [bne, hxe]; rfl
            generalize sumW 0 x = sx at *
            generalize sumW 0 y = sy at *
            go_enter Try.func55, Try.ntmps55
            go_wp2_with fail
            generalize ((w.alloc (.cells #[.slice (some ⟨p1, o1, none⟩) n c] 34)).alloc (.cells #[.slice (some ⟨p2, o2, none⟩) n2 c2] 34)).alloc (.cells #[.slice none 0 0] 34) = W0 at *
            refine (CA.out _ HB0.out).mono ?_
            rintro e w1 ⟨rfl, hb⟩
            have HB := Lib.hid (HB0.out.trans (hb.mono HB0.out.size))
            have HX1 := Lib.hid (HBX.out.below hb)
            clear hb
            have c10 := HX1.out.h1.cell 0 rfl
            go_wp2_with fail
            refine (CB.out _ HB.out).mono ?_
            rintro e w2 ⟨rfl, hb⟩
            have HB2 := Lib.hid (HB.out.trans (hb.mono HB.out.size))
            have HX2 := Lib.hid (HX1.out.below hb)
            clear c10 hb
            have c00 := HX2.out.h0.cell 0 rfl
            have c10 := HX2.out.h1.cell 0 rfl
            have c20 := HX2.out.h2.cell 0 rfl
            have f20 := HX2.out.h2.free 0
            have hc1 := HC1.out _ HB2.out
            have hc2 := HC2.out _ HB2.out
            go_wp2_with fail
            go_quiet ((first | (go_at_call_of 93 uA; exact quiet_lefts (CD.out _ (by repeat (first | exact HB2.out | refine below_drewN ?_ _)))) | (go_at_call_of 93 vA; exact quiet_lefts (CE.out _ (by repeat (first | exact HB2.out | refine below_drewN ?_ _))))))
            go_wp2
            refine bodyPost_ret (v := .tuple #[.agg #[.slice none 0 0], .int .i64 2]) (by simp [results, Try.results55, go_sem, c20]) rfl ?_
            rw [HF.out]
            exact ⟨none, 0, 0, [], rfl, OwnS.nil _ _, (below_drewN HB2.out _).setCell (by simp; omega) _⟩
        · obtain rfl : n2 = 0 := by omega
          have hb0e : b = [] := List.eq_nil_of_length_eq_zero hl'
          have HFE := Lib.hid (show pAddSquares a b = (if 2000 < (mrg a b).length then ([], 3) else (mrg a b, 0)) by rw [HPE.out, if_neg (fun hh => hh.2.1 hb0e)])
          clear h g
          by_cases hlen : 2000 < (mrg a b).length
          · have HF := Lib.hid (show pAddSquares a b = ([], 3) by rw [HFE.out, if_pos hlen])
            have HL := Lib.hid hlen
            clear hlen HFE
            go_enter Try.func55, Try.ntmps55
            go_wp2_with fail
            generalize ((w.alloc (.cells #[.slice A n c] 34)).alloc (.cells #[.slice A2 0 c2] 34)).alloc (.cells #[.slice none 0 0] 34) = W0 at *
            refine (CA.out _ HB0.out).mono ?_
            rintro e w1 ⟨rfl, hb⟩
            have HB := Lib.hid (HB0.out.trans (hb.mono HB0.out.size))
            have HX1 := Lib.hid (HBX.out.below hb)
            clear hb
            have c10 := HX1.out.h1.cell 0 rfl
            go_wp2_with fail
            refine (CB.out _ HB.out).mono ?_
            rintro e w2 ⟨rfl, hb⟩
            have HB2 := Lib.hid (HB.out.trans (hb.mono HB.out.size))
            have HX2 := Lib.hid (HX1.out.below hb)
            clear c10 hb
            have c00 := HX2.out.h0.cell 0 rfl
            have c10 := HX2.out.h1.cell 0 rfl
            have c20 := HX2.out.h2.cell 0 rfl
            have f20 := HX2.out.h2.free 0
            go_wp2_with fail
            go_quiet (fail)
            go_wp2_with fail
            refine (CT.out _ (by repeat (first | exact HB2.out | refine below_drewN ?_ _))).mono ?_
            rintro e w3 ⟨G, m, d, us3, rfl, ho, hb0⟩
            have hb : Below w2.heap.size w2 w3 := Below.trans (show Below w2.heap.size w2 _ from by repeat (first | exact Below.refl _ _ | refine below_drewN ?_ _)) hb0
            have ho : OwnS w3 w2.heap.size G m d us3 (mrg a b) := ho
            have HML := Lib.hid ho.len
            have hm3 : (2000 : Int) < (m : Int) := by have := HML.out; have := HL.out; omega
            have HB3 := Lib.hid (HB2.out.trans (hb.mono HB2.out.size))
            have HX3 := Lib.hid (HX2.out.below hb)
            have hbx : w.heap.size + 1 + 1 < w3.heap.size := HX3.out.h2.lt
            clear c00 c10 c20 f20 hb ho hb0
            have c20 := HX3.out.h2.cell 0 rfl
            have f20 := HX3.out.h2.free 0
            have HB9 := Lib.hid (HB3.out.setCell (p := ⟨w.heap.size + 1 + 1, 0, none⟩) (by simp; omega) (.slice none 0 0))
            have d20 := ((HX3.out.h2.set 0 (.slice none 0 0)).alloc (.cells #[.slice G m d] 34)).cell 0 rfl
            go_wp2
            refine bodyPost_ret (v := .tuple #[.agg #[.slice none 0 0], .int .i64 3]) (by simp [results, Try.results55, go_sem, d20]) rfl ?_
            rw [HF.out]
            exact ⟨none, 0, 0, [], rfl, OwnS.nil _ _, HB9.out.alloc HB9.out.size _⟩
          · have HF := Lib.hid (show pAddSquares a b = (mrg a b, 0) by rw [HFE.out, if_neg hlen])
            have HL := Lib.hid hlen
            clear hlen HFE
            go_enter Try.func55, Try.ntmps55
            go_wp2_with fail
            generalize ((w.alloc (.cells #[.slice A n c] 34)).alloc (.cells #[.slice A2 0 c2] 34)).alloc (.cells #[.slice none 0 0] 34) = W0 at *
            refine (CA.out _ HB0.out).mono ?_
            rintro e w1 ⟨rfl, hb⟩
            have HB := Lib.hid (HB0.out.trans (hb.mono HB0.out.size))
            have HX1 := Lib.hid (HBX.out.below hb)
            clear hb
            have c10 := HX1.out.h1.cell 0 rfl
            go_wp2_with fail
            refine (CB.out _ HB.out).mono ?_
            rintro e w2 ⟨rfl, hb⟩
            have HB2 := Lib.hid (HB.out.trans (hb.mono HB.out.size))
            have HX2 := Lib.hid (HX1.out.below hb)
            clear c10 hb
            have c00 := HX2.out.h0.cell 0 rfl
            have c10 := HX2.out.h1.cell 0 rfl
            have c20 := HX2.out.h2.cell 0 rfl
            have f20 := HX2.out.h2.free 0
            go_wp2_with fail
            go_quiet (fail)
            go_wp2_with fail
            refine (CT.out _ (by repeat (first | exact HB2.out | refine below_drewN ?_ _))).mono ?_
            rintro e w3 ⟨G, m, d, us3, rfl, ho, hb0⟩
            have hb : Below w2.heap.size w2 w3 := Below.trans (show Below w2.heap.size w2 _ from by repeat (first | exact Below.refl _ _ | refine below_drewN ?_ _)) hb0
            have ho : OwnS w3 w2.heap.size G m d us3 (mrg a b) := ho
            have HML := Lib.hid ho.len
            have hm3 : (m : Int) ≤ (2000 : Int) := by have := HML.out; have := HL.out; omega
            have HB3 := Lib.hid (HB2.out.trans (hb.mono HB2.out.size))
            have HX3 := Lib.hid (HX2.out.below hb)
            have HO3 := Lib.hid ho
            have hbx : w.heap.size + 1 + 1 < w3.heap.size := HX3.out.h2.lt
            have hbx2 : w.heap.size + 1 + 1 < w2.heap.size := HX2.out.h2.lt
            have hne : w.heap.size + 1 + 1 ≠ w3.heap.size := by omega
            clear c00 c10 c20 f20 hb ho hb0
            have HX4 := Lib.hid (HX3.out.below (box_below w3 (.cells #[.slice G m d] 34)))
            have HBO := Lib.hid (Blk.new w3 #[.slice G m d] 34)
            have HO4 := Lib.hid (HO3.out.alloc (.cells #[.slice G m d] 34))
            have HB4 := Lib.hid (HB3.out.trans (Below.mono (box_below w3 (.cells #[.slice G m d] 34)) HB3.out.size))
            have c20 := HX3.out.h2.cell 0 rfl
            have f20 := HX3.out.h2.free 0
            have HB9 := Lib.hid (HB3.out.setCell (p := ⟨w.heap.size + 1 + 1, 0, none⟩) (by simp; omega) (.slice G m d))
            have d20 := ((HX3.out.h2.set 0 (.slice G m d)).alloc (.cells #[.slice G m d] 34)).cell 0 rfl
            have b00 := HBO.out.cell 0 rfl
            go_wp2
            refine bodyPost_ret (v := .tuple #[.agg #[.slice G m d], .int .i64 0]) (by simp [results, Try.results55, go_sem, d20]) rfl ?_
            rw [HF.out]
            exact ⟨G, m, d, us3, rfl, ((HO3.out.setFar ⟨w.heap.size + 1 + 1, 0, none⟩ _ hbx2).alloc _).mono HB2.out.size, HB9.out.alloc HB9.out.size _⟩
      · obtain rfl : n = 0 := by omega
        have ha0e : a = [] := List.eq_nil_of_length_eq_zero hl
        have HFE := Lib.hid (show pAddSquares a b = (if 2000 < (mrg a b).length then ([], 3) else (mrg a b, 0)) by rw [HPE.out, if_neg (fun hh => hh.1 ha0e)])
        clear h g
        by_cases hlen : 2000 < (mrg a b).length
        · have HF := Lib.hid (show pAddSquares a b = ([], 3) by rw [HFE.out, if_pos hlen])
          have HL := Lib.hid hlen
          clear hlen HFE
          go_enter Try.func55, Try.ntmps55
          go_wp2_with fail
          generalize ((w.alloc (.cells #[.slice A 0 c] 34)).alloc (.cells #[.slice A2 n2 c2] 34)).alloc (.cells #[.slice none 0 0] 34) = W0 at *
          refine (CA.out _ HB0.out).mono ?_
          rintro e w1 ⟨rfl, hb⟩
          have HB := Lib.hid (HB0.out.trans (hb.mono HB0.out.size))
          have HX1 := Lib.hid (HBX.out.below hb)
          clear hb
          have c10 := HX1.out.h1.cell 0 rfl
          go_wp2_with fail
          refine (CB.out _ HB.out).mono ?_
          rintro e w2 ⟨rfl, hb⟩
          have HB2 := Lib.hid (HB.out.trans (hb.mono HB.out.size))
          have HX2 := Lib.hid (HX1.out.below hb)
          clear c10 hb
          have c00 := HX2.out.h0.cell 0 rfl
          have c10 := HX2.out.h1.cell 0 rfl
          have c20 := HX2.out.h2.cell 0 rfl
          have f20 := HX2.out.h2.free 0
          go_wp2_with fail
          go_quiet (fail)
          go_wp2_with fail
          refine (CT.out _ (by repeat (first | exact HB2.out | refine below_drewN ?_ _))).mono ?_
          rintro e w3 ⟨G, m, d, us3, rfl, ho, hb0⟩
          have hb : Below w2.heap.size w2 w3 := Below.trans (show Below w2.heap.size w2 _ from by repeat (first | exact Below.refl _ _ | refine below_drewN ?_ _)) hb0
          have ho : OwnS w3 w2.heap.size G m d us3 (mrg a b) := ho
          have HML := Lib.hid ho.len
          have hm3 : (2000 : Int) < (m : Int) := by have := HML.out; have := HL.out; omega
          have HB3 := Lib.hid (HB2.out.trans (hb.mono HB2.out.size))
          have HX3 := Lib.hid (HX2.out.below hb)
          have hbx : w.heap.size + 1 + 1 < w3.heap.size := HX3.out.h2.lt
          clear c00 c10 c20 f20 hb ho hb0
          have c20 := HX3.out.h2.cell 0 rfl
          have f20 := HX3.out.h2.free 0
          have HB9 := Lib.hid (HB3.out.setCell (p := ⟨w.heap.size + 1 + 1, 0, none⟩) (by simp; omega) (.slice none 0 0))
          have d20 := ((HX3.out.h2.set 0 (.slice none 0 0)).alloc (.cells #[.slice G m d] 34)).cell 0 rfl
          go_wp2
          refine bodyPost_ret (v := .tuple #[.agg #[.slice none 0 0], .int .i64 3]) (by simp [results, Try.results55, go_sem, d20]) rfl ?_
          rw [HF.out]
          exact ⟨none, 0, 0, [], rfl, OwnS.nil _ _, HB9.out.alloc HB9.out.size _⟩
        · have HF := Lib.hid (show pAddSquares a b = (mrg a b, 0) by rw [HFE.out, if_neg hlen])
          have HL := Lib.hid hlen
          clear hlen HFE
          go_enter Try.func55, Try.ntmps55
          go_wp2_with fail
          generalize ((w.alloc (.cells #[.slice A 0 c] 34)).alloc (.cells #[.slice A2 n2 c2] 34)).alloc (.cells #[.slice none 0 0] 34) = W0 at *
          refine (CA.out _ HB0.out).mono ?_
          rintro e w1 ⟨rfl, hb⟩
          have HB := Lib.hid (HB0.out.trans (hb.mono HB0.out.size))
          have HX1 := Lib.hid (HBX.out.below hb)
          clear hb
          have c10 := HX1.out.h1.cell 0 rfl
          go_wp2_with fail
          refine (CB.out _ HB.out).mono ?_
          rintro e w2 ⟨rfl, hb⟩
          have HB2 := Lib.hid (HB.out.trans (hb.mono HB.out.size))
          have HX2 := Lib.hid (HX1.out.below hb)
          clear c10 hb
          have c00 := HX2.out.h0.cell 0 rfl
          have c10 := HX2.out.h1.cell 0 rfl
          have c20 := HX2.out.h2.cell 0 rfl
          have f20 := HX2.out.h2.free 0
          go_wp2_with fail
          go_quiet (fail)
          go_wp2_with fail
          refine (CT.out _ (by repeat (first | exact HB2.out | refine below_drewN ?_ _))).mono ?_
          rintro e w3 ⟨G, m, d, us3, rfl, ho, hb0⟩
          have hb : Below w2.heap.size w2 w3 := Below.trans (show Below w2.heap.size w2 _ from by repeat (first | exact Below.refl _ _ | refine below_drewN ?_ _)) hb0
          have ho : OwnS w3 w2.heap.size G m d us3 (mrg a b) := ho
          have HML := Lib.hid ho.len
          have hm3 : (m : Int) ≤ (2000 : Int) := by have := HML.out; have := HL.out; omega
          have HB3 := Lib.hid (HB2.out.trans (hb.mono HB2.out.size))
          have HX3 := Lib.hid (HX2.out.below hb)
          have HO3 := Lib.hid ho
          have hbx : w.heap.size + 1 + 1 < w3.heap.size := HX3.out.h2.lt
          have hbx2 : w.heap.size + 1 + 1 < w2.heap.size := HX2.out.h2.lt
          have hne : w.heap.size + 1 + 1 ≠ w3.heap.size := by omega
          clear c00 c10 c20 f20 hb ho hb0
          have HX4 := Lib.hid (HX3.out.below (box_below w3 (.cells #[.slice G m d] 34)))
          have HBO := Lib.hid (Blk.new w3 #[.slice G m d] 34)
          have HO4 := Lib.hid (HO3.out.alloc (.cells #[.slice G m d] 34))
          have HB4 := Lib.hid (HB3.out.trans (Below.mono (box_below w3 (.cells #[.slice G m d] 34)) HB3.out.size))
          have c20 := HX3.out.h2.cell 0 rfl
          have f20 := HX3.out.h2.free 0
          have HB9 := Lib.hid (HB3.out.setCell (p := ⟨w.heap.size + 1 + 1, 0, none⟩) (by simp; omega) (.slice G m d))
          have d20 := ((HX3.out.h2.set 0 (.slice G m d)).alloc (.cells #[.slice G m d] 34)).cell 0 rfl
          have b00 := HBO.out.cell 0 rfl
          go_wp2
          refine bodyPost_ret (v := .tuple #[.agg #[.slice G m d], .int .i64 0]) (by simp [results, Try.results55, go_sem, d20]) rfl ?_
          rw [HF.out]
          exact ⟨G, m, d, us3, rfl, ((HO3.out.setFar ⟨w.heap.size + 1 + 1, 0, none⟩ _ hbx2).alloc _).mono HB2.out.size, HB9.out.alloc HB9.out.size _⟩

set_option maxRecDepth 100000 in
set_option maxHeartbeats 2000000 in
theorem spec_AddSquares {A n c vs a A2 n2 c2 us b w} (h : RS w A n vs a) (hm : n + tot a ≤ 1048576) (g : RS w A2 n2 us b) (hm2 : n2 + tot b ≤ 1048576) :
    Calls Try.prog 54 #[.agg #[.slice A n c], .agg #[.slice A2 n2 c2]] w fun e w' => ∃ G m d vs', e = .returned (.tuple #[.agg #[.slice G m d], .int .i64 (pAddSquares a b).2]) ∧ OwnS w' w.heap.size G m d vs' (pAddSquares a b).1 ∧ Below w.heap.size w w' := by
  have hra : ∀ x ∈ a, x.length ≤ 1048576 := fun x hx => by have := tot_mem a x hx; omega
  have hrb : ∀ x ∈ b, x.length ≤ 1048576 := fun x hx => by have := tot_mem b x hx; omega
  have hl := h.len
  have hl' := g.len
  have HBX := Lib.hid (BoxT.new w 34 #[.slice A n c] #[.slice A2 n2 c2] #[.slice none 0 0])
  have HB0 := Lib.hid (boxT_below w 34 #[.slice A n c] #[.slice A2 n2 c2] #[.slice none 0 0])
  have CA := Lib.hid (fun w1 (hb : Below w.heap.size w w1) => spec_l03Is (c := c) (h.below hb))
  have CB := Lib.hid (fun w1 (hb : Below w.heap.size w w1) => spec_l03Is (c := c2) (g.below hb))
  have CS := Lib.hid (fun (ha : riseB a = true) (hb : riseB b = true) w2 (hbl : Below w.heap.size w w2) => spec_l01Sum (c := c) (c' := c2) (h.below hbl) (g.below hbl) (by omega) (by omega) hra hrb)
  have FH := Lib.hid (fun G m d w3 (h : 2000 < m) => spec_l03Fit_hi (A := G) (n := m) (c := d) (w := w3) h)
  have FL := Lib.hid (fun G m d w3 (h : m ≤ 2000) => spec_l03Fit_lo (A := G) (n := m) (c := d) (w := w3) h)
  clear hra hrb hm hm2
  cases hp : pIsSquares a with
  | false =>
    have HF := Lib.hid (show pAddSquares a b = ([], 1) by unfold pAddSquares; rw [hp]; rfl)
    rw [hp] at CA
    clear hp h g
    go_enter Try.func54, Try.ntmps54
    go_wp2_with fail
    generalize ((w.alloc (.cells #[.slice A n c] 34)).alloc (.cells #[.slice A2 n2 c2] 34)).alloc (.cells #[.slice none 0 0] 34) = W0 at *
    refine (CA.out _ HB0.out).mono ?_
    rintro e w1 ⟨rfl, hb⟩
    have HB := Lib.hid (HB0.out.trans (hb.mono HB0.out.size))
    have HX1 := Lib.hid (HBX.out.below hb)
    clear hb
    have c20 := HX1.out.h2.cell 0 rfl
    have f20 := HX1.out.h2.free 0
    go_wp2
    refine bodyPost_ret (v := .tuple #[.agg #[.slice none 0 0], .int .i64 1]) (by simp [results, Try.results54, go_sem, c20]) rfl ?_
    rw [HF.out]
    exact ⟨none, 0, 0, [], rfl, OwnS.nil _ _, HB.out.setCell (by simp; omega) _⟩
  | true =>
    rw [hp] at CA
    cases hq : pIsSquares b with
    | false =>
      have HF := Lib.hid (show pAddSquares a b = ([], 1) by unfold pAddSquares; rw [hp, hq]; rfl)
      rw [hq] at CB
      clear hp hq h g
      go_enter Try.func54, Try.ntmps54
      go_wp2_with fail
      generalize ((w.alloc (.cells #[.slice A n c] 34)).alloc (.cells #[.slice A2 n2 c2] 34)).alloc (.cells #[.slice none 0 0] 34) = W0 at *
      refine (CA.out _ HB0.out).mono ?_
      rintro e w1 ⟨rfl, hb⟩
      have HB := Lib.hid (HB0.out.trans (hb.mono HB0.out.size))
      have HX1 := Lib.hid (HBX.out.below hb)
      clear hb
      have c10 := HX1.out.h1.cell 0 rfl
      go_wp2_with fail
      refine (CB.out _ HB.out).mono ?_
      rintro e w2 ⟨rfl, hb⟩
      have HB2 := Lib.hid (HB.out.trans (hb.mono HB.out.size))
      have HX2 := Lib.hid (HX1.out.below hb)
      clear c10 hb
      have c20 := HX2.out.h2.cell 0 rfl
      have f20 := HX2.out.h2.free 0
      go_wp2
      refine bodyPost_ret (v := .tuple #[.agg #[.slice none 0 0], .int .i64 1]) (by simp [results, Try.results54, go_sem, c20]) rfl ?_
      rw [HF.out]
      exact ⟨none, 0, 0, [], rfl, OwnS.nil _ _, HB2.out.setCell (by simp; omega) _⟩
    | true =>
      rw [hq] at CB
      have CT := Lib.hid (CS.out (pIsSquares_true hp).2.2.2 (pIsSquares_true hq).2.2.2)
      have HPE := Lib.hid (show pAddSquares a b = (if a ≠ [] ∧ b ≠ [] ∧ sumW 0 (a.getD 0 []) ≠ sumW 0 (b.getD 0 []) then ([], 2) else (if 2000 < (mrg a b).length then ([], 3) else (mrg a b, 0))) by unfold pAddSquares; rw [hp, hq]; rfl)
      clear hp hq CS
      by_cases h0 : 0 < n
      · have h0' : (0 : Int) < (n : Int) := by omega
        by_cases h1 : 0 < n2
        · have h1' : (0 : Int) < (n2 : Int) := by omega
          have hne1 : a ≠ [] := by intro e; subst e; simp at hl; omega
          have hne2 : b ≠ [] := by intro e; subst e; simp at hl'; omega
          obtain ⟨p1, o1, rfl, hlt1, hc1⟩ := h.at_ (i := 0) (by omega)
          obtain ⟨p2, o2, rfl, hlt2, hc2⟩ := g.at_ (i := 0) (by omega)
          have hr1 := h.row (i := 0) (by omega)
          have hr2 := g.row (i := 0) (by omega)
          generalize hx : a.getD 0 [] = x at *
          generalize hy : b.getD 0 [] = y at *
          generalize vs.getD 0 nilS = u at *
          generalize us.getD 0 nilS = v at *
          obtain ⟨uA, un, uc⟩ := u
          obtain ⟨vA, vn, vc⟩ := v
          simp only at hr1 hr2
          simp only [sv] at hc1 hc2
          rw [Nat.add_zero] at hc1 hc2
          have HC1 := Lib.hid (fun w2 (hb : Below w.heap.size w w2) => (hb.cell (p := ⟨p1, o1, none⟩) hlt1).trans hc1)
          have HC2 := Lib.hid (fun w2 (hb : Below w.heap.size w w2) => (hb.cell (p := ⟨p2, o2, none⟩) hlt2).trans hc2)
          have CD := Lib.hid (fun w2 (hb : Below w.heap.size w w2) => spec_sum uA un uc x w2 (hr1.below hb))
          have CE := Lib.hid (fun w2 (hb : Below w.heap.size w w2) => spec_sum vA vn vc y w2 (hr2.below hb))
          clear hc1 hc2 hr1 hr2 hlt1 hlt2
          clear h g
          by_cases hxy : sumW 0 x = sumW 0 y
          · have HFE := Lib.hid (show pAddSquares a b = (if 2000 < (mrg a b).length then ([], 3) else (mrg a b, 0)) by rw [HPE.out, if_neg (fun hh => hh.2.2 (by first | exact hxy | (rw [hx, hy]; exact hxy)))])
            have hxe : (sumW 0 x != sumW 0 y) = false := by rw [hxy]; simp
            generalize sumW 0 x = sx at *
            generalize sumW 0 y = sy at *
            subst hxy
            by_cases hlen : 2000 < (mrg a b).length
            · have HF := Lib.hid (show pAddSquares a b = ([], 3) by rw [HFE.out, if_pos hlen])
              have HL := Lib.hid hlen
              clear hlen HFE
              go_enter Try.func54, Try.ntmps54
              go_wp2_with fail
              generalize ((w.alloc (.cells #[.slice (some ⟨p1, o1, none⟩) n c] 34)).alloc (.cells #[.slice (some ⟨p2, o2, none⟩) n2 c2] 34)).alloc (.cells #[.slice none 0 0] 34) = W0 at *
              refine (CA.out _ HB0.out).mono ?_
              rintro e w1 ⟨rfl, hb⟩
              have HB := Lib.hid (HB0.out.trans (hb.mono HB0.out.size))
              have HX1 := Lib.hid (HBX.out.below hb)
              clear hb
              have c10 := HX1.out.h1.cell 0 rfl
              go_wp2_with fail
              refine (CB.out _ HB.out).mono ?_
              rintro e w2 ⟨rfl, hb⟩
              have HB2 := Lib.hid (HB.out.trans (hb.mono HB.out.size))
              have HX2 := Lib.hid (HX1.out.below hb)
              clear c10 hb
              have c00 := HX2.out.h0.cell 0 rfl
              have c10 := HX2.out.h1.cell 0 rfl
              have c20 := HX2.out.h2.cell 0 rfl
              have f20 := HX2.out.h2.free 0
              have hc1 := HC1.out _ HB2.out
              have hc2 := HC2.out _ HB2.out
              go_wp2_with fail
              go_quiet ((first | (go_at_call_of 92 uA; exact quiet_lefts (CD.out _ (by repeat (first | exact HB2.out | refine below_drewN ?_ _)))) | (go_at_call_of 92 vA; exact quiet_lefts (CE.out _ (by repeat (first | exact HB2.out | refine below_drewN ?_ _))))))
              go_wp2_with fail
              refine (CT.out _ (by repeat (first | exact HB2.out | refine below_drewN ?_ _))).mono ?_
              rintro e w3 ⟨G, m, d, us3, rfl, ho, hb0⟩
              have hb : Below w2.heap.size w2 w3 := Below.trans (show Below w2.heap.size w2 _ from by repeat (first | exact Below.refl _ _ | refine below_drewN ?_ _)) hb0
              have ho : OwnS w3 w2.heap.size G m d us3 (mrg a b) := ho
              have HML := Lib.hid ho.len
              have hm3 : 2000 < m := by have := HML.out; have := HL.out; omega
              have HB3 := Lib.hid (HB2.out.trans (hb.mono HB2.out.size))
              have HX3 := Lib.hid (HX2.out.below hb)
              clear c00 c10 c20 f20 hb ho hb0
              go_wp2_with fail
              refine (FH.out G m d w3 hm3).mono ?_
              rintro e w4 ⟨rfl, hb4⟩
              have HB4 := Lib.hid (HB3.out.trans (hb4.mono HB3.out.size))
              have HX4 := Lib.hid (HX3.out.below hb4)
              clear hb4
              have HB5 := Lib.hid (HB4.out.trans (Below.mono (box_below w4 (.cells #[.slice none 0 0] 34)) HB4.out.size))
              have HX5 := Lib.hid (HX4.out.below (box_below w4 (.cells #[.slice none 0 0] 34)))
              have HBO := Lib.hid (Blk.new w4 #[.slice none 0 0] 34)
              have hbx : w.heap.size + 1 + 1 < w4.heap.size := HX4.out.h2.lt
              have hne : w.heap.size + 1 + 1 ≠ w4.heap.size := by omega
              have c20 := HX4.out.h2.cell 0 rfl
              have f20 := HX4.out.h2.free 0
              have HB9 := Lib.hid (HB4.out.setCell (p := ⟨w.heap.size + 1 + 1, 0, none⟩) (by simp; omega) (.slice none 0 0))
              have d20 := ((HX4.out.h2.set 0 (.slice none 0 0)).alloc (.cells #[.slice none 0 0] 34)).cell 0 rfl
              have b00 := HBO.out.cell 0 rfl
              go_wp2
              refine bodyPost_ret (v := .tuple #[.agg #[.slice none 0 0], .int .i64 3]) (by simp [results, Try.results54, go_sem, d20]) rfl ?_
              rw [HF.out]
              exact ⟨none, 0, 0, [], rfl, OwnS.nil _ _, HB9.out.alloc HB9.out.size _⟩
            · have HF := Lib.hid (show pAddSquares a b = (mrg a b, 0) by rw [HFE.out, if_neg hlen])
              have HL := Lib.hid hlen
              clear hlen HFE
              go_enter Try.func54, Try.ntmps54
              go_wp2_with fail
              generalize ((w.alloc (.cells #[.slice (some ⟨p1, o1, none⟩) n c] 34)).alloc (.cells #[.slice (some ⟨p2, o2, none⟩) n2 c2] 34)).alloc (.cells #[.slice none 0 0] 34) = W0 at *
              refine (CA.out _ HB0.out).mono ?_
              rintro e w1 ⟨rfl, hb⟩
              have HB := Lib.hid (HB0.out.trans (hb.mono HB0.out.size))
              have HX1 := Lib.hid (HBX.out.below hb)
              clear hb
              have c10 := HX1.out.h1.cell 0 rfl
              go_wp2_with fail
              refine (CB.out _ HB.out).mono ?_
              rintro e w2 ⟨rfl, hb⟩
              have HB2 := Lib.hid (HB.out.trans (hb.mono HB.out.size))
              have HX2 := Lib.hid (HX1.out.below hb)
              clear c10 hb
              have c00 := HX2.out.h0.cell 0 rfl
              have c10 := HX2.out.h1.cell 0 rfl
              have c20 := HX2.out.h2.cell 0 rfl
              have f20 := HX2.out.h2.free 0
              have hc1 := HC1.out _ HB2.out
              have hc2 := HC2.out _ HB2.out
              go_wp2_with fail
              go_quiet ((first | (go_at_call_of 92 uA; exact quiet_lefts (CD.out _ (by repeat (first | exact HB2.out | refine below_drewN ?_ _)))) | (go_at_call_of 92 vA; exact quiet_lefts (CE.out _ (by repeat (first | exact HB2.out | refine below_drewN ?_ _))))))
              go_wp2_with fail
              refine (CT.out _ (by repeat (first | exact HB2.out | refine below_drewN ?_ _))).mono ?_
              rintro e w3 ⟨G, m, d, us3, rfl, ho, hb0⟩
              have hb : Below w2.heap.size w2 w3 := Below.trans (show Below w2.heap.size w2 _ from by repeat (first | exact Below.refl _ _ | refine below_drewN ?_ _)) hb0
              have ho : OwnS w3 w2.heap.size G m d us3 (mrg a b) := ho
              have HML := Lib.hid ho.len
              have hm3 : m ≤ 2000 := by have := HML.out; have := HL.out; omega
              have HB3 := Lib.hid (HB2.out.trans (hb.mono HB2.out.size))
              have HX3 := Lib.hid (HX2.out.below hb)
              have HO3 := Lib.hid ho
              have hbx2 : w.heap.size + 1 + 1 < w2.heap.size := HX2.out.h2.lt
              clear c00 c10 c20 f20 hb ho hb0
              go_wp2_with fail
              refine (FL.out G m d w3 hm3).mono ?_
              rintro e w4 ⟨rfl, hb4⟩
              have HB4 := Lib.hid (HB3.out.trans (hb4.mono HB3.out.size))
              have HX4 := Lib.hid (HX3.out.below hb4)
              have HO4 := Lib.hid (HO3.out.below hb4)
              clear hb4
              have HB5 := Lib.hid (HB4.out.trans (Below.mono (box_below w4 (.cells #[.slice G m d] 34)) HB4.out.size))
              have HX5 := Lib.hid (HX4.out.below (box_below w4 (.cells #[.slice G m d] 34)))
              have HBO := Lib.hid (Blk.new w4 #[.slice G m d] 34)
              have HO5 := Lib.hid (HO4.out.alloc (.cells #[.slice G m d] 34))
              have hbx : w.heap.size + 1 + 1 < w4.heap.size := HX4.out.h2.lt
              have hne : w.heap.size + 1 + 1 ≠ w4.heap.size := by omega
              have c20 := HX4.out.h2.cell 0 rfl
              have f20 := HX4.out.h2.free 0
              have HB9 := Lib.hid (HB4.out.setCell (p := ⟨w.heap.size + 1 + 1, 0, none⟩) (by simp; omega) (.slice G m d))
              have d20 := ((HX4.out.h2.set 0 (.slice G m d)).alloc (.cells #[.slice G m d] 34)).cell 0 rfl
              have b00 := HBO.out.cell 0 rfl
              go_wp2
              refine bodyPost_ret (v := .tuple #[.agg #[.slice G m d], .int .i64 0]) (by simp [results, Try.results54, go_sem, d20]) rfl ?_
              rw [HF.out]
              exact ⟨G, m, d, us3, rfl, ((HO4.out.setFar ⟨w.heap.size + 1 + 1, 0, none⟩ _ hbx2).alloc _).mono HB2.out.size, HB9.out.alloc HB9.out.size _⟩
          · have HF := Lib.hid (show pAddSquares a b = ([], 2) by rw [HPE.out, if_pos ⟨hne1, hne2, by first | exact hxy | (rw [hx, hy]; exact hxy)⟩])
            have hxe : (sumW 0 x == sumW 0 y) = false := by rw [beq_eq_false_iff_ne]; exact hxy
            have hxe2 : (sumW 0 x != sumW 0 y) = true := by rw [bne, hxe]; rfl
            generalize sumW 0 x = sx at *
            generalize sumW 0 y = sy at *
            go_enter Try.func54, Try.ntmps54
            go_wp2_with fail
            generalize ((w.alloc (.cells #[.slice (some ⟨p1, o1, none⟩) n c] 34)).alloc (.cells #[.slice (some ⟨p2, o2, none⟩) n2 c2] 34)).alloc (.cells #[.slice none 0 0] 34) = W0 at *
            refine (CA.out _ HB0.out).mono ?_
            rintro e w1 ⟨rfl, hb⟩
            have HB := Lib.hid (HB0.out.trans (hb.mono HB0.out.size))
            have HX1 := Lib.hid (HBX.out.below hb)
            clear hb
            have c10 := HX1.out.h1.cell 0 rfl
            go_wp2_with fail
            refine (CB.out _ HB.out).mono ?_
            rintro e w2 ⟨rfl, hb⟩
            have HB2 := Lib.hid (HB.out.trans (hb.mono HB.out.size))
            have HX2 := Lib.hid (HX1.out.below hb)
            clear c10 hb
            have c00 := HX2.out.h0.cell 0 rfl
            have c10 := HX2.out.h1.cell 0 rfl
            have c20 := HX2.out.h2.cell 0 rfl
            have f20 := HX2.out.h2.free 0
            have hc1 := HC1.out _ HB2.out
            have hc2 := HC2.out _ HB2.out
            go_wp2_with fail
            go_quiet ((first | (go_at_call_of 92 uA; exact quiet_lefts (CD.out _ (by repeat (first | exact HB2.out | refine below_drewN ?_ _)))) | (go_at_call_of 92 vA; exact quiet_lefts (CE.out _ (by repeat (first | exact HB2.out | refine below_drewN ?_ _))))))
            go_wp2
            refine bodyPost_ret (v := .tuple #[.agg #[.slice none 0 0], .int .i64 2]) (by simp [results, Try.results54, go_sem, c20]) rfl ?_
            rw [HF.out]
            exact ⟨none, 0, 0, [], rfl, OwnS.nil _ _, (below_drewN HB2.out _).setCell (by simp; omega) _⟩
        · obtain rfl : n2 = 0 := by omega
          have hb0e : b = [] := List.eq_nil_of_length_eq_zero hl'
          have HFE := Lib.hid (show pAddSquares a b = (if 2000 < (mrg a b).length then ([], 3) else (mrg a b, 0)) by rw [HPE.out, if_neg (fun hh => hh.2.1 hb0e)])
          clear h g
          by_cases hlen : 2000 < (mrg a b).length
          · have HF := Lib.hid (show pAddSquares a b = ([], 3) by rw [HFE.out, if_pos hlen])
            have HL := Lib.hid hlen
            clear hlen HFE
            go_enter Try.func54, Try.ntmps54
            go_wp2_with fail
            generalize ((w.alloc (.cells #[.slice A n c] 34)).alloc (.cells #[.slice A2 0 c2] 34)).alloc (.cells #[.slice none 0 0] 34) = W0 at *
            refine (CA.out _ HB0.out).mono ?_
            rintro e w1 ⟨rfl, hb⟩
            have HB := Lib.hid (HB0.out.trans (hb.mono HB0.out.size))
            have HX1 := Lib.hid (HBX.out.below hb)
            clear hb
            have c10 := HX1.out.h1.cell 0 rfl
            go_wp2_with fail
            refine (CB.out _ HB.out).mono ?_
            rintro e w2 ⟨rfl, hb⟩
            have HB2 := Lib.hid (HB.out.trans (hb.mono HB.out.size))
            have HX2 := Lib.hid (HX1.out.below hb)
            clear c10 hb
            have c00 := HX2.out.h0.cell 0 rfl
            have c10 := HX2.out.h1.cell 0 rfl
            have c20 := HX2.out.h2.cell 0 rfl
            have f20 := HX2.out.h2.free 0
            go_wp2_with fail
            go_quiet (fail)
            go_wp2_with fail
            refine (CT.out _ (by repeat (first | exact HB2.out | refine below_drewN ?_ _))).mono ?_
            rintro e w3 ⟨G, m, d, us3, rfl, ho, hb0⟩
            have hb : Below w2.heap.size w2 w3 := Below.trans (show Below w2.heap.size w2 _ from by repeat (first | exact Below.refl _ _ | refine below_drewN ?_ _)) hb0
            have ho : OwnS w3 w2.heap.size G m d us3 (mrg a b) := ho
            have HML := Lib.hid ho.len
            have hm3 : 2000 < m := by have := HML.out; have := HL.out; omega
            have HB3 := Lib.hid (HB2.out.trans (hb.mono HB2.out.size))
            have HX3 := Lib.hid (HX2.out.below hb)
            clear c00 c10 c20 f20 hb ho hb0
            go_wp2_with fail
            refine (FH.out G m d w3 hm3).mono ?_
            rintro e w4 ⟨rfl, hb4⟩
            have HB4 := Lib.hid (HB3.out.trans (hb4.mono HB3.out.size))
            have HX4 := Lib.hid (HX3.out.below hb4)
            clear hb4
            have HB5 := Lib.hid (HB4.out.trans (Below.mono (box_below w4 (.cells #[.slice none 0 0] 34)) HB4.out.size))
            have HX5 := Lib.hid (HX4.out.below (box_below w4 (.cells #[.slice none 0 0] 34)))
            have HBO := Lib.hid (Blk.new w4 #[.slice none 0 0] 34)
            have hbx : w.heap.size + 1 + 1 < w4.heap.size := HX4.out.h2.lt
            have hne : w.heap.size + 1 + 1 ≠ w4.heap.size := by omega
            have c20 := HX4.out.h2.cell 0 rfl
            have f20 := HX4.out.h2.free 0
            have HB9 := Lib.hid (HB4.out.setCell (p := ⟨w.heap.size + 1 + 1, 0, none⟩) (by simp; omega) (.slice none 0 0))
            have d20 := ((HX4.out.h2.set 0 (.slice none 0 0)).alloc (.cells #[.slice none 0 0] 34)).cell 0 rfl
            have b00 := HBO.out.cell 0 rfl
            go_wp2
            refine bodyPost_ret (v := .tuple #[.agg #[.slice none 0 0], .int .i64 3]) (by simp [results, Try.results54, go_sem, d20]) rfl ?_
            rw [HF.out]
            exact ⟨none, 0, 0, [], rfl, OwnS.nil _ _, HB9.out.alloc HB9.out.size _⟩
          · have HF := Lib.hid (show pAddSquares a b = (mrg a b, 0) by rw [HFE.out, if_neg hlen])
            have HL := Lib.hid hlen
            clear hlen HFE
            go_enter Try.func54, Try.ntmps54
            go_wp2_with fail
            generalize ((w.alloc (.cells #[.slice A n c] 34)).alloc (.cells #[.slice A2 0 c2] 34)).alloc (.cells #[.slice none 0 0] 34) = W0 at *
            refine (CA.out _ HB0.out).mono ?_
            rintro e w1 ⟨rfl, hb⟩
            have HB := Lib.hid (HB0.out.trans (hb.mono HB0.out.size))
            have HX1 := Lib.hid (HBX.out.below hb)
            clear hb
            have c10 := HX1.out.h1.cell 0 rfl
            go_wp2_with fail
            refine (CB.out _ HB.out).mono ?_
            rintro e w2 ⟨rfl, hb⟩
            have HB2 := Lib.hid (HB.out.trans (hb.mono HB.out.size))
            have HX2 := Lib.hid (HX1.out.below hb)
            clear c10 hb
            have c00 := HX2.out.h0.cell 0 rfl
            have c10 := HX2.out.h1.cell 0 rfl
            have c20 := HX2.out.h2.cell 0 rfl
            have f20 := HX2.out.h2.free 0
            go_wp2_with fail
            go_quiet (fail)
            go_wp2_with fail
            refine (CT.out _ (by repeat (first | exact HB2.out | refine below_drewN ?_ _))).mono ?_
            rintro e w3 ⟨G, m, d, us3, rfl, ho, hb0⟩
            have hb : Below w2.heap.size w2 w3 := Below.trans (show Below w2.heap.size w2 _ from by repeat (first | exact Below.refl _ _ | refine below_drewN ?_ _)) hb0
            have ho : OwnS w3 w2.heap.size G m d us3 (mrg a b) := ho
            have HML := Lib.hid ho.len
            have hm3 : m ≤ 2000 := by have := HML.out; have := HL.out; omega
            have HB3 := Lib.hid (HB2.out.trans (hb.mono HB2.out.size))
            have HX3 := Lib.hid (HX2.out.below hb)
            have HO3 := Lib.hid ho
            have hbx2 : w.heap.size + 1 + 1 < w2.heap.size := HX2.out.h2.lt
            clear c00 c10 c20 f20 hb ho hb0
            go_wp2_with fail
            refine (FL.out G m d w3 hm3).mono ?_
            rintro e w4 ⟨rfl, hb4⟩
            have HB4 := Lib.hid (HB3.out.trans (hb4.mono HB3.out.size))
            have HX4 := Lib.hid (HX3.out.below hb4)
            have HO4 := Lib.hid (HO3.out.below hb4)
            clear hb4
            have HB5 := Lib.hid (HB4.out.trans (Below.mono (box_below w4 (.cells #[.slice G m d] 34)) HB4.out.size))
            have HX5 := Lib.hid (HX4.out.below (box_below w4 (.cells #[.slice G m d] 34)))
            have HBO := Lib.hid (Blk.new w4 #[.slice G m d] 34)
            have HO5 := Lib.hid (HO4.out.alloc (.cells #[.slice G m d] 34))
            have hbx : w.heap.size + 1 + 1 < w4.heap.size := HX4.out.h2.lt
            have hne : w.heap.size + 1 + 1 ≠ w4.heap.size := by omega
            have c20 := HX4.out.h2.cell 0 rfl
            have f20 := HX4.out.h2.free 0
            have HB9 := Lib.hid (HB4.out.setCell (p := ⟨w.heap.size + 1 + 1, 0, none⟩) (by simp; omega) (.slice G m d))
            have d20 := ((HX4.out.h2.set 0 (.slice G m d)).alloc (.cells #[.slice G m d] 34)).cell 0 rfl
            have b00 := HBO.out.cell 0 rfl
            go_wp2
            refine bodyPost_ret (v := .tuple #[.agg #[.slice G m d], .int .i64 0]) (by simp [results, Try.results54, go_sem, d20]) rfl ?_
            rw [HF.out]
            exact ⟨G, m, d, us3, rfl, ((HO4.out.setFar ⟨w.heap.size + 1 + 1, 0, none⟩ _ hbx2).alloc _).mono HB2.out.size, HB9.out.alloc HB9.out.size _⟩
      · obtain rfl : n = 0 := by omega
        have ha0e : a = [] := List.eq_nil_of_length_eq_zero hl
        have HFE := Lib.hid (show pAddSquares a b = (if 2000 < (mrg a b).length then ([], 3) else (mrg a b, 0)) by rw [HPE.out, if_neg (fun hh => hh.1 ha0e)])
        clear h g
        by_cases hlen : 2000 < (mrg a b).length
        · have HF := Lib.hid (show pAddSquares a b = ([], 3) by rw [HFE.out, if_pos hlen])
          have HL := Lib.hid hlen
          clear hlen HFE
          go_enter Try.func54, Try.ntmps54
          go_wp2_with fail
          generalize ((w.alloc (.cells #[.slice A 0 c] 34)).alloc (.cells #[.slice A2 n2 c2] 34)).alloc (.cells #[.slice none 0 0] 34) = W0 at *
          refine (CA.out _ HB0.out).mono ?_
          rintro e w1 ⟨rfl, hb⟩
          have HB := Lib.hid (HB0.out.trans (hb.mono HB0.out.size))
          have HX1 := Lib.hid (HBX.out.below hb)
          clear hb
          have c10 := HX1.out.h1.cell 0 rfl
          go_wp2_with fail
          refine (CB.out _ HB.out).mono ?_
          rintro e w2 ⟨rfl, hb⟩
          have HB2 := Lib.hid (HB.out.trans (hb.mono HB.out.size))
          have HX2 := Lib.hid (HX1.out.below hb)
          clear c10 hb
          have c00 := HX2.out.h0.cell 0 rfl
          have c10 := HX2.out.h1.cell 0 rfl
          have c20 := HX2.out.h2.cell 0 rfl
          have f20 := HX2.out.h2.free 0
          go_wp2_with fail
          go_quiet (fail)
          go_wp2_with fail
          refine (CT.out _ (by repeat (first | exact HB2.out | refine below_drewN ?_ _))).mono ?_
          rintro e w3 ⟨G, m, d, us3, rfl, ho, hb0⟩
          have hb : Below w2.heap.size w2 w3 := Below.trans (show Below w2.heap.size w2 _ from by repeat (first | exact Below.refl _ _ | refine below_drewN ?_ _)) hb0
          have ho : OwnS w3 w2.heap.size G m d us3 (mrg a b) := ho
          have HML := Lib.hid ho.len
          have hm3 : 2000 < m := by have := HML.out; have := HL.out; omega
          have HB3 := Lib.hid (HB2.out.trans (hb.mono HB2.out.size))
          have HX3 := Lib.hid (HX2.out.below hb)
          clear c00 c10 c20 f20 hb ho hb0
          go_wp2_with fail
          refine (FH.out G m d w3 hm3).mono ?_
          rintro e w4 ⟨rfl, hb4⟩
          have HB4 := Lib.hid (HB3.out.trans (hb4.mono HB3.out.size))
          have HX4 := Lib.hid (HX3.out.below hb4)
          clear hb4
          have HB5 := Lib.hid (HB4.out.trans (Below.mono (box_below w4 (.cells #[.slice none 0 0] 34)) HB4.out.size))
          have HX5 := Lib.hid (HX4.out.below (box_below w4 (.cells #[.slice none 0 0] 34)))
          have HBO := Lib.hid (Blk.new w4 #[.slice none 0 0] 34)
          have hbx : w.heap.size + 1 + 1 < w4.heap.size := HX4.out.h2.lt
          have hne : w.heap.size + 1 + 1 ≠ w4.heap.size := by omega
          have c20 := HX4.out.h2.cell 0 rfl
          have f20 := HX4.out.h2.free 0
          have HB9 := Lib.hid (HB4.out.setCell (p := ⟨w.heap.size + 1 + 1, 0, none⟩) (by simp; omega) (.slice none 0 0))
          have d20 := ((HX4.out.h2.set 0 (.slice none 0 0)).alloc (.cells #[.slice none 0 0] 34)).cell 0 rfl
          have b00 := HBO.out.cell 0 rfl
          go_wp2
          refine bodyPost_ret (v := .tuple #[.agg #[.slice none 0 0], .int .i64 3]) (by simp [results, Try.results54, go_sem, d20]) rfl ?_
          rw [HF.out]
          exact ⟨none, 0, 0, [], rfl, OwnS.nil _ _, HB9.out.alloc HB9.out.size _⟩
        · have HF := Lib.hid (show pAddSquares a b = (mrg a b, 0) by rw [HFE.out, if_neg hlen])
          have HL := Lib.hid hlen
          clear hlen HFE
          go_enter Try.func54, Try.ntmps54
          go_wp2_with fail
          generalize ((w.alloc (.cells #[.slice A 0 c] 34)).alloc (.cells #[.slice A2 n2 c2] 34)).alloc (.cells #[.slice none 0 0] 34) = W0 at *
          refine (CA.out _ HB0.out).mono ?_
          rintro e w1 ⟨rfl, hb⟩
          have HB := Lib.hid (HB0.out.trans (hb.mono HB0.out.size))
          have HX1 := Lib.hid (HBX.out.below hb)
          clear hb
          have c10 := HX1.out.h1.cell 0 rfl
          go_wp2_with fail
          refine (CB.out _ HB.out).mono ?_
          rintro e w2 ⟨rfl, hb⟩
          have HB2 := Lib.hid (HB.out.trans (hb.mono HB.out.size))
          have HX2 := Lib.hid (HX1.out.below hb)
          clear c10 hb
          have c00 := HX2.out.h0.cell 0 rfl
          have c10 := HX2.out.h1.cell 0 rfl
          have c20 := HX2.out.h2.cell 0 rfl
          have f20 := HX2.out.h2.free 0
          go_wp2_with fail
          go_quiet (fail)
          go_wp2_with fail
          refine (CT.out _ (by repeat (first | exact HB2.out | refine below_drewN ?_ _))).mono ?_
          rintro e w3 ⟨G, m, d, us3, rfl, ho, hb0⟩
          have hb : Below w2.heap.size w2 w3 := Below.trans (show Below w2.heap.size w2 _ from by repeat (first | exact Below.refl _ _ | refine below_drewN ?_ _)) hb0
          have ho : OwnS w3 w2.heap.size G m d us3 (mrg a b) := ho
          have HML := Lib.hid ho.len
          have hm3 : m ≤ 2000 := by have := HML.out; have := HL.out; omega
          have HB3 := Lib.hid (HB2.out.trans (hb.mono HB2.out.size))
          have HX3 := Lib.hid (HX2.out.below hb)
          have HO3 := Lib.hid ho
          have hbx2 : w.heap.size + 1 + 1 < w2.heap.size := HX2.out.h2.lt
          clear c00 c10 c20 f20 hb ho hb0
          go_wp2_with fail
          refine (FL.out G m d w3 hm3).mono ?_
          rintro e w4 ⟨rfl, hb4⟩
          have HB4 := Lib.hid (HB3.out.trans (hb4.mono HB3.out.size))
          have HX4 := Lib.hid (HX3.out.below hb4)
          have HO4 := Lib.hid (HO3.out.below hb4)
          clear hb4
          have HB5 := Lib.hid (HB4.out.trans (Below.mono (box_below w4 (.cells #[.slice G m d] 34)) HB4.out.size))
          have HX5 := Lib.hid (HX4.out.below (box_below w4 (.cells #[.slice G m d] 34)))
          have HBO := Lib.hid (Blk.new w4 #[.slice G m d] 34)
          have HO5 := Lib.hid (HO4.out.alloc (.cells #[.slice G m d] 34))
          have hbx : w.heap.size + 1 + 1 < w4.heap.size := HX4.out.h2.lt
          have hne : w.heap.size + 1 + 1 ≠ w4.heap.size := by omega
          have c20 := HX4.out.h2.cell 0 rfl
          have f20 := HX4.out.h2.free 0
          have HB9 := Lib.hid (HB4.out.setCell (p := ⟨w.heap.size + 1 + 1, 0, none⟩) (by simp; omega) (.slice G m d))
          have d20 := ((HX4.out.h2.set 0 (.slice G m d)).alloc (.cells #[.slice G m d] 34)).cell 0 rfl
          have b00 := HBO.out.cell 0 rfl
          go_wp2
          refine bodyPost_ret (v := .tuple #[.agg #[.slice G m d], .int .i64 0]) (by simp [results, Try.results54, go_sem, d20]) rfl ?_
          rw [HF.out]
          exact ⟨G, m, d, us3, rfl, ((HO4.out.setFar ⟨w.heap.size + 1 + 1, 0, none⟩ _ hbx2).alloc _).mono HB2.out.size, HB9.out.alloc HB9.out.size _⟩

end Go.Proofs.Ytpgmggkpnefaeaa
