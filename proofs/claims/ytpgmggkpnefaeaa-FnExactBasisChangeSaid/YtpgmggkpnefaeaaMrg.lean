/- The sum of two term lists as the reference merges them. -/
import Derived.Test.YtpgmggkpnefaeaaSort
import Derived.Test.YtpgmggkpnefaeaaTerms
import Derived.Test.YtpgmggkpnefaeaaCopy
import Derived.Test.YtpgmggkpnefaeaaAppS
import Derived.Test.YtpgmggkpnefaeaaSame
namespace Go.Proofs.Ytpgmggkpnefaeaa
open Go.ChangeShapes Go.WideShapes Go.ChangeAt Go.RowKit
set_option linter.unusedVariables false

theorem box_below2 (w : World) (o : Obj) : Below w.heap.size w (w.alloc o) := (Below.refl _ _).alloc (Nat.le_refl _) _

def mrg : List (List Int) → List (List Int) → List (List Int)
  | [], b => b
  | x :: a, [] => x :: a
  | x :: a, y :: b => if lessL x y = true then x :: mrg a (y :: b) else if lessL y x = true then y :: mrg (x :: a) b else mrg a b
termination_by a b => a.length + b.length

theorem mrg_nil (b : List (List Int)) : mrg [] b = b := by rw [mrg]

theorem mrg_nil_right (a : List (List Int)) : mrg a [] = a := by cases a <;> rw [mrg]

theorem mrg_cons (x y : List Int) (a b : List (List Int)) : mrg (x :: a) (y :: b) = if lessL x y = true then x :: mrg a (y :: b) else if lessL y x = true then y :: mrg (x :: a) b else mrg a b := by rw [mrg]

theorem mrg_step (a b : List (List Int)) (i k : Nat) (hi : i < a.length) (hk : k < b.length) : mrg (a.drop i) (b.drop k) = if lessL (a.getD i []) (b.getD k []) = true then a.getD i [] :: mrg (a.drop (i + 1)) (b.drop k) else if lessL (b.getD k []) (a.getD i []) = true then b.getD k [] :: mrg (a.drop i) (b.drop (k + 1)) else mrg (a.drop (i + 1)) (b.drop (k + 1)) := by
  rw [dropS a i hi, dropS b k hk, mrg_cons]

theorem mrg_left (a b : List (List Int)) (i k : Nat) (hi : i < a.length) (hk : b.length ≤ k) : mrg (a.drop i) (b.drop k) = a.getD i [] :: mrg (a.drop (i + 1)) (b.drop k) := by
  rw [List.drop_eq_nil_of_le hk, mrg_nil_right, mrg_nil_right, dropS a i hi]

theorem mrg_right (a b : List (List Int)) (i k : Nat) (hi : a.length ≤ i) (hk : k < b.length) : mrg (a.drop i) (b.drop k) = b.getD k [] :: mrg (a.drop i) (b.drop (k + 1)) := by
  rw [List.drop_eq_nil_of_le hi, mrg_nil, mrg_nil, dropS b k hk]

theorem mrg_done (a b : List (List Int)) (i k : Nat) (hi : a.length ≤ i) (hk : b.length ≤ k) : mrg (a.drop i) (b.drop k) = [] := by
  rw [List.drop_eq_nil_of_le hi, List.drop_eq_nil_of_le hk, mrg_nil]

theorem mrg_len (a b : List (List Int)) : (mrg a b).length ≤ a.length + b.length ∧ tot (mrg a b) ≤ tot a + tot b := by
  induction a generalizing b with
  | nil => rw [mrg_nil]; simp [tot]
  | cons x a iha =>
    induction b with
    | nil => rw [mrg_nil_right]; simp [tot]
    | cons y b ihb =>
      rw [mrg_cons]
      split
      · have := iha (y :: b)
        simp only [tot, List.length_cons] at this ⊢
        omega
      · split
        · simp only [tot, List.length_cons] at ihb ⊢
          omega
        · have := iha b
          simp only [tot, List.length_cons] at this ⊢
          omega

set_option maxRecDepth 100000 in
set_option maxHeartbeats 4000000 in
theorem spec_l01Sum {A n c vs a A' n' c' vs' b w} (h : RS w A n vs a) (g : RS w A' n' vs' b) (hn : n ≤ 4294967296) (hn' : n' ≤ 4294967296) (hra : ∀ x ∈ a, x.length ≤ 1048576) (hrb : ∀ x ∈ b, x.length ≤ 1048576) :
    Calls Try.prog 79 #[.slice A n c, .slice A' n' c'] w fun e w' => ∃ G m d us, e = .returned (.slice G m d) ∧ OwnS w' w.heap.size G m d us (mrg a b) ∧ Below w.heap.size w w' := by
  have hl := h.len
  have hl' := g.len
  have H := Lib.hid h
  have G := Lib.hid g
  have HL := Lib.hid hl
  have HL' := Lib.hid hl'
  have HRA := Lib.hid hra
  have HRB := Lib.hid hrb
  have HE := Lib.hid (emptyS_own w)
  have HBE := Lib.hid (box_below2 w (.cells #[] 51))
  have HML := Lib.hid (mrg_len a b).1
  clear h g hl hl' hra hrb
  go_enter Try.func79, Try.ntmps79
  go_wp2
  go_loopw [5, 6, 7] (fun v iv kv wr => ∃ (i k : Nat) (A5 : Option Addr) (n5 c5 : Nat) (vs5 : List Sl) (acc : List (List Int)), i ≤ n ∧ k ≤ n' ∧ iv = .int .i64 (i : Int) ∧ kv = .int .i64 (k : Int) ∧ v = .slice A5 n5 c5 ∧ OwnS wr w.heap.size A5 n5 c5 vs5 acc ∧ acc ++ mrg (a.drop i) (b.drop k) = mrg a b ∧ Below w.heap.size w wr) (fun _ iv kv _ => n + n' - (intOf iv).toNat - (intOf kv).toNat)
  case atStart => exact ⟨0, 0, _, _, _, [], [], by omega, by omega, rfl, rfl, rfl, HE.out, rfl, HBE.out⟩
  case round =>
    obtain ⟨i, k, A5, n5, c5, vs5, acc, hi, hk, rfl, rfl, rfl, ho, ht, hb⟩ := hrel
    clear HE HBE
    have HO := Lib.hid ho
    have HT := Lib.hid ht
    have HB := Lib.hid hb
    clear ho ht hb
    have hn5 : n5 ≤ 1099511627776 := by
      have h1 := congrArg List.length HT.out
      have h2 := HML.out
      have h3 := HO.out.len
      have h4 := HL.out
      have h5 := HL'.out
      simp only [List.length_append] at h1
      omega
    by_cases hin : i < n
    · have hin' : (i : Int) < (n : Int) := by omega
      have hie : ((i : Int) == (n : Int)) = false := by rw [beq_eq_false_iff_ne]; omega
      obtain ⟨p1, o1, rfl, _, hc1⟩ := (H.out.below HB.out).at_ hin
      have hr1 := (H.out.below HB.out).row hin
      have hrl1 := HRA.out _ (getD_memS a i (by have := HL.out; omega))
      by_cases hkn : k < n'
      · have hkn' : (k : Int) < (n' : Int) := by omega
        have hke : ((k : Int) == (n' : Int)) = false := by rw [beq_eq_false_iff_ne]; omega
        obtain ⟨p2, o2, rfl, _, hc2⟩ := (G.out.below HB.out).at_ hkn
        have hr2 := (G.out.below HB.out).row hkn
        have hrl2 := HRB.out _ (getD_memS b k (by have := HL'.out; omega))
        have HST := Lib.hid (mrg_step a b i k (by have := HL.out; omega) (by have := HL'.out; omega))
        generalize a.getD i [] = x at *
        generalize b.getD k [] = y at *
        generalize vs.getD i nilS = u at *
        obtain ⟨uA, un, uc⟩ := u
        simp only [sv] at hc1
        simp only at hr1
        have hul := hr1.len
        have COa := Lib.hid (fun w2 (hb : Below wr.heap.size wr w2) => spec_own uA un uc x w2 (hr1.below hb) (by omega))
        generalize vs'.getD k nilS = v at *
        obtain ⟨vA, vn, vc⟩ := v
        simp only [sv] at hc2
        simp only at hr2
        have hvl := hr2.len
        have COb := Lib.hid (fun w2 (hb : Below wr.heap.size wr w2) => spec_own vA vn vc y w2 (hr2.below hb) (by omega))
        have CLab := Lib.hid (fun w2 (hb : Below wr.heap.size wr w2) => spec_l01Less (c := uc) (d := vc) (hr1.below hb) (hr2.below hb))
        have CLba := Lib.hid (fun w2 (hb : Below wr.heap.size wr w2) => spec_l01Less (c := vc) (d := uc) (hr2.below hb) (hr1.below hb))
        clear hr1 hr2 hrl1 hrl2 hul hvl
        cases h1 : lessL x y with
        | true =>
          have HT2 := Lib.hid (show (acc ++ [x]) ++ mrg (a.drop (i + 1)) (b.drop k) = mrg a b by rw [← HT.out, HST.out, h1, if_pos rfl]; simp)
          rw [h1] at CLab
          clear h1
          go_wp2_with fail
          go_quiet ((go_at_call 114; exact quiet_q (CLab.out _ (below_drewN (Below.refl _ _) _))))
          go_wp2_with (first | (go_at_call 115; refine (COa.out _ (by repeat (first | exact HWD.out | exact Below.refl _ _ | refine below_drewN ?_ _))).mono ?_; rintro e W3 ⟨A4, c4, rfl, ho3, hb3⟩; have HB3 := Lib.hid ((fun (hq : Below wr.heap.size wr _) => hq.trans (hb3.mono hq.size)) (by repeat (first | exact HWD.out | exact Below.refl _ _ | refine below_drewN ?_ _))); have HO3 := Lib.hid ((fun (hq : Below wr.heap.size wr _) => OwnI.mono ho3 hq.size) (by repeat (first | exact HWD.out | exact Below.refl _ _ | refine below_drewN ?_ _))); clear ho3 hb3) | (at_builtin; refine app1S _ _ w.heap.size wr.heap.size A5 n5 c5 vs5 acc (A4, un, c4) x W3 rfl rfl rfl rfl (HO.out.below HB3.out) HO3.out HO.out.inS HB.out.size hn5 (Nat.le_trans HB.out.size HB3.out.size) ?_; intro g5 c5' W4 ho4 hg4 hat4))
          have HO4 := Lib.hid ho4
          have HB4 := Lib.hid ((HB.out.trans (HB3.out.mono HB.out.size)).grown hg4 (Nat.le_trans HB.out.size HB3.out.size) (fun k hk => (HO.out.below HB3.out).out_ge hk))
          clear ho4 hg4 hat4
          go_wp2
          go_roundw
          case rel => exact ⟨i + 1, k, _, _, _, _, _, by omega, by omega, by go_num, by go_num, rfl, HO4.out, HT2.out, HB4.out⟩
          case measure => simp [intOf]; omega
        | false =>
          rw [h1] at CLab
          cases h2 : lessL y x with
          | true =>
            have HT2 := Lib.hid (show (acc ++ [y]) ++ mrg (a.drop i) (b.drop (k + 1)) = mrg a b by rw [← HT.out, HST.out, h1, if_neg (by simp), h2, if_pos rfl]; simp)
            rw [h2] at CLba
            clear h1 h2
            go_wp2_with fail
            go_quiet ((go_at_call 114; exact quiet_q (CLab.out _ (below_drewN (Below.refl _ _) _))))
            go_wp2_with fail
            generalize hwd : wr.drewN nq = wd
            have HWD := Lib.hid (show Below wr.heap.size wr wd by rw [← hwd]; exact below_drewN (Below.refl _ _) _)
            have q1 : wd.cell? ⟨p1, o1 + i, none⟩ = some (.slice uA un uc) := by rw [← hwd]; exact hc1
            have q2 : wd.cell? ⟨p2, o2 + k, none⟩ = some (.slice vA vn vc) := by rw [← hwd]; exact hc2
            clear hwd hc1 hc2
            go_quiet ((go_at_call 114; exact quiet_q (CLba.out _ (below_drewN HWD.out _))))
            go_wp2_with (first | (go_at_call 115; refine (COb.out _ (by repeat (first | exact HWD.out | exact Below.refl _ _ | refine below_drewN ?_ _))).mono ?_; rintro e W3 ⟨A4, c4, rfl, ho3, hb3⟩; have HB3 := Lib.hid ((fun (hq : Below wr.heap.size wr _) => hq.trans (hb3.mono hq.size)) (by repeat (first | exact HWD.out | exact Below.refl _ _ | refine below_drewN ?_ _))); have HO3 := Lib.hid ((fun (hq : Below wr.heap.size wr _) => OwnI.mono ho3 hq.size) (by repeat (first | exact HWD.out | exact Below.refl _ _ | refine below_drewN ?_ _))); clear ho3 hb3) | (at_builtin; refine app1S _ _ w.heap.size wr.heap.size A5 n5 c5 vs5 acc (A4, vn, c4) y W3 rfl rfl rfl rfl (HO.out.below HB3.out) HO3.out HO.out.inS HB.out.size hn5 (Nat.le_trans HB.out.size HB3.out.size) ?_; intro g5 c5' W4 ho4 hg4 hat4))
            have HO4 := Lib.hid ho4
            have HB4 := Lib.hid ((HB.out.trans (HB3.out.mono HB.out.size)).grown hg4 (Nat.le_trans HB.out.size HB3.out.size) (fun k hk => (HO.out.below HB3.out).out_ge hk))
            clear ho4 hg4 hat4
            go_wp2
            go_roundw
            case rel => exact ⟨i, k + 1, _, _, _, _, _, by omega, by omega, by go_num, by go_num, rfl, HO4.out, HT2.out, HB4.out⟩
            case measure => simp [intOf]; omega
          | false =>
            have HT2 := Lib.hid (show acc ++ mrg (a.drop (i + 1)) (b.drop (k + 1)) = mrg a b by rw [← HT.out, HST.out, h1, if_neg (by simp), h2, if_neg (by simp)])
            rw [h2] at CLba
            clear h1 h2
            go_wp2_with fail
            go_quiet ((go_at_call 114; exact quiet_q (CLab.out _ (below_drewN (Below.refl _ _) _))))
            go_wp2_with fail
            generalize hwd : wr.drewN nq = wd
            have HWD := Lib.hid (show Below wr.heap.size wr wd by rw [← hwd]; exact below_drewN (Below.refl _ _) _)
            have q1 : wd.cell? ⟨p1, o1 + i, none⟩ = some (.slice uA un uc) := by rw [← hwd]; exact hc1
            have q2 : wd.cell? ⟨p2, o2 + k, none⟩ = some (.slice vA vn vc) := by rw [← hwd]; exact hc2
            clear hwd hc1 hc2
            go_quiet ((go_at_call 114; exact quiet_q (CLba.out _ (below_drewN HWD.out _))))
            go_wp2
            go_roundw
            case rel => exact ⟨i + 1, k + 1, _, _, _, _, _, by omega, by omega, by go_num, by go_num, rfl, HO.out.below ((below_drewN HWD.out _)), HT2.out, HB.out.trans ((below_drewN HWD.out _).mono HB.out.size)⟩
            case measure => simp [intOf]; omega
      · obtain rfl : k = n' := by omega
        have HST := Lib.hid (mrg_left a b i k (by have := HL.out; omega) (by have := HL'.out; omega))
        generalize a.getD i [] = x at *
        generalize vs.getD i nilS = u at *
        obtain ⟨uA, un, uc⟩ := u
        simp only [sv] at hc1
        simp only at hr1
        have hul := hr1.len
        have COa := Lib.hid (fun w2 (hb : Below wr.heap.size wr w2) => spec_own uA un uc x w2 (hr1.below hb) (by omega))
        have HT2 := Lib.hid (show (acc ++ [x]) ++ mrg (a.drop (i + 1)) (b.drop k) = mrg a b by rw [← HT.out, HST.out]; simp)
        clear hr1 hrl1 hul
        go_wp2_with fail
        go_quiet (fail)
        go_wp2_with (first | (go_at_call 115; refine (COa.out _ (by repeat (first | exact HWD.out | exact Below.refl _ _ | refine below_drewN ?_ _))).mono ?_; rintro e W3 ⟨A4, c4, rfl, ho3, hb3⟩; have HB3 := Lib.hid ((fun (hq : Below wr.heap.size wr _) => hq.trans (hb3.mono hq.size)) (by repeat (first | exact HWD.out | exact Below.refl _ _ | refine below_drewN ?_ _))); have HO3 := Lib.hid ((fun (hq : Below wr.heap.size wr _) => OwnI.mono ho3 hq.size) (by repeat (first | exact HWD.out | exact Below.refl _ _ | refine below_drewN ?_ _))); clear ho3 hb3) | (at_builtin; refine app1S _ _ w.heap.size wr.heap.size A5 n5 c5 vs5 acc (A4, un, c4) x W3 rfl rfl rfl rfl (HO.out.below HB3.out) HO3.out HO.out.inS HB.out.size hn5 (Nat.le_trans HB.out.size HB3.out.size) ?_; intro g5 c5' W4 ho4 hg4 hat4))
        have HO4 := Lib.hid ho4
        have HB4 := Lib.hid ((HB.out.trans (HB3.out.mono HB.out.size)).grown hg4 (Nat.le_trans HB.out.size HB3.out.size) (fun k hk => (HO.out.below HB3.out).out_ge hk))
        clear ho4 hg4 hat4
        go_wp2
        go_roundw
        case rel => exact ⟨i + 1, k, _, _, _, _, _, by omega, by omega, by go_num, by go_num, rfl, HO4.out, HT2.out, HB4.out⟩
        case measure => simp [intOf]; omega
    · obtain rfl : i = n := by omega
      by_cases hkn : k < n'
      · have hkn' : (k : Int) < (n' : Int) := by omega
        have hke : ((k : Int) == (n' : Int)) = false := by rw [beq_eq_false_iff_ne]; omega
        obtain ⟨p2, o2, rfl, _, hc2⟩ := (G.out.below HB.out).at_ hkn
        have hr2 := (G.out.below HB.out).row hkn
        have hrl2 := HRB.out _ (getD_memS b k (by have := HL'.out; omega))
        have HST := Lib.hid (mrg_right a b i k (by have := HL.out; omega) (by have := HL'.out; omega))
        generalize b.getD k [] = y at *
        generalize vs'.getD k nilS = v at *
        obtain ⟨vA, vn, vc⟩ := v
        simp only [sv] at hc2
        simp only at hr2
        have hvl := hr2.len
        have COb := Lib.hid (fun w2 (hb : Below wr.heap.size wr w2) => spec_own vA vn vc y w2 (hr2.below hb) (by omega))
        have HT2 := Lib.hid (show (acc ++ [y]) ++ mrg (a.drop i) (b.drop (k + 1)) = mrg a b by rw [← HT.out, HST.out]; simp)
        clear hr2 hrl2 hvl
        go_wp2_with fail
        go_quiet (fail)
        go_wp2_with fail
        generalize hwd : wr.drewN nq = wd
        have HWD := Lib.hid (show Below wr.heap.size wr wd by rw [← hwd]; exact below_drewN (Below.refl _ _) _)
        have q2 : wd.cell? ⟨p2, o2 + k, none⟩ = some (.slice vA vn vc) := by rw [← hwd]; exact hc2
        clear hwd hc2
        go_quiet (fail)
        go_wp2_with (first | (go_at_call 115; refine (COb.out _ (by repeat (first | exact HWD.out | exact Below.refl _ _ | refine below_drewN ?_ _))).mono ?_; rintro e W3 ⟨A4, c4, rfl, ho3, hb3⟩; have HB3 := Lib.hid ((fun (hq : Below wr.heap.size wr _) => hq.trans (hb3.mono hq.size)) (by repeat (first | exact HWD.out | exact Below.refl _ _ | refine below_drewN ?_ _))); have HO3 := Lib.hid ((fun (hq : Below wr.heap.size wr _) => OwnI.mono ho3 hq.size) (by repeat (first | exact HWD.out | exact Below.refl _ _ | refine below_drewN ?_ _))); clear ho3 hb3) | (at_builtin; refine app1S _ _ w.heap.size wr.heap.size A5 n5 c5 vs5 acc (A4, vn, c4) y W3 rfl rfl rfl rfl (HO.out.below HB3.out) HO3.out HO.out.inS HB.out.size hn5 (Nat.le_trans HB.out.size HB3.out.size) ?_; intro g5 c5' W4 ho4 hg4 hat4))
        have HO4 := Lib.hid ho4
        have HB4 := Lib.hid ((HB.out.trans (HB3.out.mono HB.out.size)).grown hg4 (Nat.le_trans HB.out.size HB3.out.size) (fun k hk => (HO.out.below HB3.out).out_ge hk))
        clear ho4 hg4 hat4
        go_wp2
        go_roundw
        case rel => exact ⟨i, k + 1, _, _, _, _, _, by omega, by omega, by go_num, by go_num, rfl, HO4.out, HT2.out, HB4.out⟩
        case measure => simp [intOf]; omega
      · obtain rfl : k = n' := by omega
        have ht := HT.out
        rw [mrg_done a b i k (by have := HL.out; omega) (by have := HL'.out; omega), List.append_nil] at ht
        have HO2 := Lib.hid (show OwnS wr w.heap.size A5 n5 c5 vs5 (mrg a b) by rw [← ht]; exact HO.out)
        clear ht
        go_wp2
        go_ret
        exact ⟨_, _, _, _, rfl, HO2.out, HB.out⟩

end Go.Proofs.Ytpgmggkpnefaeaa
