/- AdmissibleBasis of the program and of the reference. -/
import Derived.Test.YtpgmggkpnefaeaaAdw
import Derived.Test.YtpgmggkpnefaeaaAppS
import Derived.Test.YtpgmggkpnefaeaaCopy
namespace Go.Proofs.Ytpgmggkpnefaeaa
open Go.ChangeShapes Go.WideShapes Go.ChangeAt Go.RowKit
set_option linter.unusedVariables false

set_option maxHeartbeats 1600000 in
theorem impl_admw (d : Nat) : ∀ (most : Nat) (w : World), d ≤ 40 → most ≤ 40 →
    Calls Try.prog 64 #[.int .i64 (d : Int), .int .i64 (most : Int)] w fun e w' => ∃ A n c vs, e = .returned (.slice A n c) ∧ OwnS w' w.heap.size A n c vs (admw d most) ∧ Below w.heap.size w w' := by
  induction d using Nat.strongRecOn with
  | _ d ih =>
    intro most w hd hmost
    have IH := Lib.hid ih
    clear ih
    rcases Nat.eq_zero_or_pos d with rfl | hpos
    · have ho := lit1S_own (w.alloc (.cells #[] 2)) w.heap.size (some ⟨w.heap.size, 0, none⟩, 0, 0) [] (empty_own w) (by simp)
      rw [show (w.alloc (.cells #[] 2)).heap.size = w.heap.size + 1 by simp, show ([[]] : List (List Int)) = admw 0 most by unfold admw; rw [if_pos rfl]] at ho
      have HO := Lib.hid ho
      clear ho
      have HB := Lib.hid (show Below w.heap.size w ((w.alloc (.cells #[] 2)).alloc (.cells #[sv (some ⟨w.heap.size, 0, none⟩, 0, 0)] 51)) from (((Below.refl _ _).alloc (Nat.le_refl _) _).alloc (by simp) _))
      go_enter Try.func64, Try.ntmps64
      go_wp2
      go_ret
      exact ⟨_, _, _, _, rfl, HO.out, HB.out⟩
    · have HI := Lib.hid (emptyS_own w)
      have HB := Lib.hid (show Below w.heap.size w (w.alloc (.cells #[] 51)) from (Below.refl _ _).alloc (Nat.le_refl _) _)
      have hadmw : admw d most = admwL d most 1 := by unfold admw; rw [if_neg (by omega)]
      have HSP := Lib.hid hadmw
      have HBD := Lib.hid (admw_bound d most hd).1
      have hz : ((d : Int) == 0) = false := by rw [beq_eq_false_iff_ne]; omega
      clear hadmw
      by_cases hcmp : (most : Int) < (d : Int)
      all_goals
        go_enter Try.func64, Try.ntmps64
        go_wp2
        go_loopw [5, 6] (fun v p wr => ∃ (part : Nat) (A : Option Addr) (n c : Nat) (vs : List Sl) (acc : List (List Int)), 1 ≤ part ∧ part ≤ 81 ∧ p = .int .i64 (part : Int) ∧ v = .slice A n c ∧ OwnS wr w.heap.size A n c vs acc ∧ acc ++ admwL d most part = admw d most ∧ Below w.heap.size w wr) (fun _ p _ => 82 - (intOf p).toNat)
        case atStart => exact ⟨1, _, _, _, [], [], by omega, by omega, rfl, rfl, HI.out, HSP.out.symm, HB.out⟩
        case round =>
          obtain ⟨part, A, n, c, vs, acc, hp1, hp2, rfl, rfl, ho, ht, hb⟩ := hrel
          clear HI HB
          have HT := Lib.hid ht
          have HO := Lib.hid ho
          have HBW := Lib.hid hb
          clear ht ho hb
          by_cases hgo : part ≤ d ∧ part ≤ most
          · obtain ⟨hg1, hg2⟩ := hgo
            have hg1' : (part : Int) ≤ (d : Int) := by omega
            have hg2' : (part : Int) ≤ (most : Int) := by omega
            have con := IH.out (d - part) (by omega) (part / 2) wr (by omega) (by omega)
            rw [show ((d - part : Nat) : Int) = (d : Int) - (part : Int) by omega, show ((part / 2 : Nat) : Int) = (part : Int) / 2 by omega] at con
            have CON := Lib.hid con
            have ht := HT.out
            rw [admwL_go d most part hp1 hg1 hg2] at ht
            have HT2 := Lib.hid ht
            clear con ht
            have hRrow := admw_row (d - part) (part / 2)
            generalize hR : admw (d - part) (part / 2) = RR at *
            have HRROW := Lib.hid hRrow
            clear hR hRrow
            go_wp2_with fail
            refine CON.out.mono ?_
            rintro e w2 ⟨AR, nR, cR, vR, rfl, hoR, hbR⟩
            have HR0 := Lib.hid hoR
            have HO2 := Lib.hid (HO.out.below hbR)
            have HB2 := Lib.hid (HBW.out.trans (hbR.mono HBW.out.size))
            have HNE := Lib.hid (show ∀ k, A.map (·.block) = some k → AR.map (·.block) ≠ some k from fun k h1 h2 => by
              have l1 := HO.out.inS.1 k h1
              have l2 := hoR.out_ge h2
              omega)
            have hsR := hoR.reads.small
            clear hoR hbR
            go_wp2
            obtain ⟨wo, rfl⟩ : ∃ wo : World, wo = wr := ⟨_, rfl⟩
            go_loopw [5, 28] (fun v iv wr => ∃ (j : Nat) (A : Option Addr) (n c : Nat) (vs : List Sl) (acc : List (List Int)), j ≤ nR ∧ iv = .int .i64 (j : Int) ∧ v = .slice A n c ∧ OwnS wr w.heap.size A n c vs acc ∧ acc ++ ((RR.drop j).map (fun r => (part : Int) :: r) ++ admwL d most (part + 1)) = admw d most ∧ OwnS wr wo.heap.size AR nR cR vR RR ∧ (∀ k, A.map (·.block) = some k → AR.map (·.block) ≠ some k) ∧ Below w.heap.size w wr) (fun _ iv _ => nR - (intOf iv).toNat)
            case atStart => exact ⟨0, _, _, _, vs, acc, by omega, rfl, rfl, HO2.out, HT2.out, HR0.out, HNE.out, HB2.out⟩
            case round =>
              obtain ⟨j, A, n, c, vs, acc, hj, rfl, rfl, ho, ht, hoR, hne, hb⟩ := hrel
              have HOI := Lib.hid ho
              have HTI := Lib.hid ht
              have HRI := Lib.hid hoR
              have HNI := Lib.hid hne
              have HBI := Lib.hid hb
              clear HO2 HT2 HR0 HNE HB2 HO HT
              clear ho ht hoR hne hb
              by_cases hlt : j < nR
              · obtain ⟨g, rfl, hBg, hgs⟩ := HRI.out.form (by omega)
                have hcell := HRI.out.cell hlt
                have hrow := HRI.out.row hlt
                have hr40 : (RR.getD j []).length ≤ 40 := by
                  have hj2 : j < RR.length := by rw [HRI.out.len]; exact hlt
                  have := HRROW.out (RR.getD j []) (by simp [List.getD, hj2])
                  omega
                have hRl := HRI.out.len
                have hd0 : RR.drop j = RR.getD j [] :: RR.drop (j + 1) := by
                  have h2 : j < RR.length := by omega
                  rw [List.drop_eq_getElem_cons h2]; simp [List.getD, h2]
                have hti := HTI.out
                rw [hd0, List.map_cons, List.cons_append] at hti
                have hti2 : (acc ++ [[(part : Int)] ++ RR.getD j []]) ++ ((RR.drop (j + 1)).map (fun r => (part : Int) :: r) ++ admwL d most (part + 1)) = admw d most := by
                  rw [List.append_assoc]; exact hti
                have hlen : acc.length ≤ 1099511627776 := by
                  have h1 := congrArg List.length hti2
                  have h2 := HBD.out
                  simp only [List.length_append, List.length_cons] at h1
                  omega
                have hnl := HOI.out.len
                have HT3 := Lib.hid hti2
                have hn40 : n ≤ 1099511627776 := by omega
                generalize vR.getD j nilS = v3 at *
                generalize RR.getD j [] = row at *
                obtain ⟨a3, n3, c3⟩ := v3
                simp only at hrow
                simp only [sv] at hcell
                have hrs := hrow.len
                have HROW := Lib.hid hrow
                have hlt' : (j : Int) < (nR : Int) := by omega
                clear hrow hd0 hti hti2 hlen hRl
                clear hBg hgs
                go_wp2_with (first | (at_builtin; refine appR _ _ _ _ _ _ _ _ _ _ _ _ rfl rfl rfl rfl (lit1_own wr (part : Int) (I64.mk (by omega) (by omega))) (HROW.out.reads.below ((Below.refl _ _).alloc (Nat.le_refl _) _)) (by omega) (by simp) ?_; intro A4 c4 W3 ho3 hg3; have HO3 := Lib.hid ho3; have HB3 := Lib.hid (((Below.refl wr.heap.size wr).alloc (Nat.le_refl _) _).grown hg3 (by simp) (fun k hk => (lit1_own wr (part : Int) (I64.mk (by omega) (by omega))).row_ge hk)); clear ho3 hg3) | (at_builtin; refine app1S _ _ w.heap.size wr.heap.size A n c vs acc (A4, 1 + n3, c4) _ W3 rfl rfl rfl rfl (HOI.out.below HB3.out) HO3.out HOI.out.inS HBI.out.size hn40 (Nat.le_trans HBI.out.size HB3.out.size) ?_; intro g5 c5 W4 ho4 hg4 hat4))
                have HO4 := Lib.hid ho4
                have HR4 := Lib.hid ((HRI.out.below HB3.out).kept_out (HOI.out.below HB3.out) HNI.out hg4)
                have HN4 := Lib.hid (show ∀ k, (some (⟨g5, 0, none⟩ : Addr)).map (·.block) = some k → (some (⟨g, 0, none⟩ : Addr)).map (·.block) ≠ some k from fun k h1 h2 => by
                  have e1 : g5 = k := by simpa using h1
                  have e2 : g = k := by simpa using h2
                  subst e1
                  rcases hat4 with h | h
                  · exact HNI.out _ h h2
                  · have l1 := HRI.out.inS.1 _ h2
                    have l2 := HB3.out.size
                    omega)
                have HB4 := Lib.hid ((HBI.out.trans (HB3.out.mono HBI.out.size)).grown hg4 (Nat.le_trans HBI.out.size HB3.out.size) (fun k hk => (HOI.out.below HB3.out).out_ge hk))
                clear ho4 hg4 hat4
                go_wp2
                go_roundw
                case rel => exact ⟨j + 1, _, _, _, _, _, by omega, by go_num, rfl, HO4.out, HT3.out, HR4.out, HN4.out, HB4.out⟩
                case measure => simp [intOf]; omega
              · obtain rfl : j = nR := by omega
                have hti := HTI.out
                rw [List.drop_of_length_le (by rw [HRI.out.len]; exact Nat.le_refl _), List.map_nil, List.nil_append] at hti
                have HT3 := Lib.hid hti
                clear hti
                go_wp2
                go_roundw
                case rel => exact ⟨part + 1, _, _, _, _, _, by omega, by omega, by go_num, rfl, HOI.out, HT3.out, HBI.out⟩
                case measure => simp [intOf]; omega
          · have ht := HT.out
            rw [admwL_stop d most part hgo, List.append_nil] at ht
            have HO2 := Lib.hid (show OwnS wr w.heap.size A n c vs (admw d most) by rw [← ht]; exact HO.out)
            have hs1 : (most : Int) < (d : Int) → (most : Int) < (part : Int) := fun _ => by omega
            have hs2 : (d : Int) ≤ (most : Int) → (d : Int) < (part : Int) := fun _ => by omega
            first | (have hs := hs1 hcmp; clear hs1 hs2) | (have hs := hs2 hcmp; clear hs1 hs2)
            clear ht HT HO
            go_wp2
            go_ret
            exact ⟨_, _, _, _, rfl, HO2.out, HBW.out⟩

set_option maxHeartbeats 1600000 in
theorem spec_admw (d : Nat) : ∀ (most : Nat) (As : Option Addr) (ns cs : Nat) (st : List Int) (A0 : Option Addr) (n0 c0 : Nat) (vs0 : List Sl) (acc0 : List (List Int)) (B L : Nat) (w : World), d ≤ 40 → most ≤ 40 → ns + d ≤ 1000 →
    OwnI w L As ns cs st → OwnS w B A0 n0 c0 vs0 acc0 → InS A0 n0 vs0 L → B ≤ L → L ≤ w.heap.size → acc0.length + (admw d most).length ≤ 1099511627776 →
    Calls Try.prog 96 #[.int .i64 (d : Int), .int .i64 (most : Int), .slice As ns cs, .slice A0 n0 c0] w (GrewS w B A0 (acc0 ++ (admw d most).map (fun r => st ++ r))) := by
  induction d using Nat.strongRecOn with
  | _ d ih =>
    intro most As ns cs st A0 n0 c0 vs0 acc0 B L w hd hmost hns hst hacc hin hBL hLw hbd
    have IH := Lib.hid ih
    have HST := Lib.hid hst
    have HACC := Lib.hid hacc
    have HIN := Lib.hid hin
    have HBD := Lib.hid hbd
    have hn0 := hacc.len
    clear ih hst hacc hin hbd
    rcases Nat.eq_zero_or_pos d with rfl | hpos
    · have hf : acc0 ++ (admw 0 most).map (fun r => st ++ r) = acc0 ++ [st] := by
        have : admw 0 most = [[]] := by unfold admw; rw [if_pos rfl]
        rw [this]; simp
      have hn40 : n0 ≤ 1099511627776 := by have := HBD.out; omega
      have HF := Lib.hid hf
      clear hf
      go_enter Try.func96, Try.ntmps96
      go_wp2_with (at_builtin; refine app1S _ _ B L A0 n0 c0 vs0 acc0 (As, ns, cs) st w rfl rfl rfl rfl HACC.out HST.out HIN.out hBL hn40 (Nat.le_trans hBL hLw) ?_; intro g5 c5 W4 ho4 hg4 hat4)
      rw [← HF.out] at ho4
      have HO4 := Lib.hid ho4
      have HG4 := Lib.hid hg4
      have HA4 := Lib.hid (show (some (⟨g5, 0, none⟩ : Addr)).map (·.block) = A0.map (·.block) ∨ ∀ k, (some (⟨g5, 0, none⟩ : Addr)).map (·.block) = some k → w.heap.size ≤ k from by
        rcases hat4 with h | h
        · exact .inl h.symm
        · refine .inr (fun k hk => ?_)
          have e1 : g5 = k := by simpa using hk
          omega)
      clear ho4 hg4 hat4
      go_wp2
      go_ret
      exact ⟨_, _, _, _, rfl, HO4.out, HG4.out, HA4.out⟩
    · have hadmw : admw d most = admwL d most 1 := by unfold admw; rw [if_neg (by omega)]
      have HSP := Lib.hid hadmw
      have hz : ((d : Int) == 0) = false := by rw [beq_eq_false_iff_ne]; omega
      clear hadmw
      go_enter Try.func96, Try.ntmps96
      go_wp2
      go_loopw [3, 9] (fun v p wr => ∃ (part : Nat) (A : Option Addr) (n c : Nat) (vs : List Sl) (acc : List (List Int)), 1 ≤ part ∧ part ≤ 81 ∧ p = .int .i64 (part : Int) ∧ v = .slice A n c ∧ OwnS wr B A n c vs acc ∧ acc ++ (admwL d most part).map (fun r => st ++ r) = acc0 ++ (admw d most).map (fun r => st ++ r) ∧ OwnI wr L As ns cs st ∧ w.grownBy wr (A0.map (·.block)) ∧ (A.map (·.block) = A0.map (·.block) ∨ ∀ k, A.map (·.block) = some k → w.heap.size ≤ k)) (fun _ p _ => 82 - (intOf p).toNat)
      case atStart => exact ⟨1, _, _, _, _, _, by omega, by omega, rfl, rfl, HACC.out, by rw [HSP.out], HST.out, World.grownBy.refl _ _, .inl rfl⟩
      case round =>
        obtain ⟨part, A, n, c, vs, acc, hp1, hp2, rfl, rfl, ho, ht, hst, hg, hat⟩ := hrel
        have HO := Lib.hid ho
        have HT := Lib.hid ht
        have HSTR := Lib.hid hst
        have HG := Lib.hid hg
        have HAT := Lib.hid hat
        clear ho ht hst hg hat
        by_cases hgo : part ≤ d ∧ part ≤ most
        · obtain ⟨hg1, hg2⟩ := hgo
          have hg1' : (part : Int) ≤ (d : Int) := by omega
          have hg2' : (part : Int) ≤ (most : Int) := by omega
          have ht := HT.out
          rw [admwL_go d most part hp1 hg1 hg2, List.map_append, ← List.append_assoc] at ht
          have hlen : acc.length + (admw (d - part) (part / 2)).length ≤ 1099511627776 := by
            have h1 := congrArg List.length ht
            have h2 := HBD.out
            simp only [List.length_append, List.length_map] at h1
            omega
          have hmm : ((admw (d - part) (part / 2)).map (fun r => (part : Int) :: r)).map (fun r => st ++ r) = (admw (d - part) (part / 2)).map (fun r => (st ++ [(part : Int)]) ++ r) := by
            rw [List.map_map]
            apply List.map_congr_left
            intro r _
            simp
          rw [hmm] at ht
          have HT2 := Lib.hid ht
          have CO := Lib.hid (spec_own As ns cs st wr HSTR.out.reads (by omega))
          clear ht hmm
          go_wp2_with fail
          refine CO.out.mono ?_
          rintro e w1 ⟨A1, c1, rfl, ho1, hb1⟩
          have HO1 := Lib.hid ho1
          have HB1 := Lib.hid hb1
          clear ho1 hb1
          go_wp2_with (at_builtin; refine app1 _ _ _ _ _ _ _ _ _ rfl rfl rfl rfl HO1.out (I64.mk (by omega) (by omega)) (by omega) HB1.out.size ?_; intro g2 c2 W3 ho3 hg3; have HO3 := Lib.hid ho3; have HB3 := Lib.hid (HB1.out.grown hg3 HB1.out.size (fun k hk => HO1.out.row_ge hk)); clear ho3 hg3)
          have con := IH.out (d - part) (by omega) (part / 2) (some ⟨g2, 0, none⟩) (ns + 1) c2 (st ++ [(part : Int)]) A n c vs acc B wr.heap.size W3 (by omega) (by omega) (by omega) HO3.out (HO.out.below HB3.out) HO.out.inS (Nat.le_trans hBL (Nat.le_trans hLw HG.out.size)) HB3.out.size hlen
          rw [show ((d - part : Nat) : Int) = (d : Int) - (part : Int) by omega, show ((part / 2 : Nat) : Int) = (part : Int) / 2 by omega] at con
          refine con.mono ?_
          rintro e w5 ⟨A5, n5, c5, vs5, rfl, ho5, hg5, hat5⟩
          have HO5 := Lib.hid ho5
          have HST5 := Lib.hid ((HSTR.out.below HB3.out).kept_out (HO.out.below HB3.out) hg5)
          have HG5 := Lib.hid (grown_step (HG.out.trans (Below.grownBy HB3.out _)) hg5 HAT.out)
          have HAT5 := Lib.hid (show A5.map (·.block) = A0.map (·.block) ∨ ∀ k, A5.map (·.block) = some k → w.heap.size ≤ k from by
            rcases hat5 with h | h
            · rcases HAT.out with h2 | h2
              · exact .inl (h.trans h2)
              · exact .inr (fun k hk => h2 k (h ▸ hk))
            · exact .inr (fun k hk => Nat.le_trans (Nat.le_trans HG.out.size HB3.out.size) (h k hk)))
          clear ho5 hg5 hat5 con hlen
          go_wp2
          go_roundw
          case rel => exact ⟨part + 1, _, _, _, _, _, by omega, by omega, by go_num, rfl, HO5.out, HT2.out, HST5.out, HG5.out, HAT5.out⟩
          case measure => simp [intOf]; omega
        · have ht := HT.out
          rw [admwL_stop d most part hgo, List.map_nil, List.append_nil] at ht
          have HO2 := Lib.hid (show OwnS wr B A n c vs (acc0 ++ (admw d most).map (fun r => st ++ r)) by rw [← ht]; exact HO.out)
          clear ht HT HO
          by_cases hpm : part ≤ most
          · have h1 : (part : Int) ≤ (most : Int) := by omega
            have h2 : (d : Int) < (part : Int) := by omega
            go_wp2
            go_ret
            exact ⟨_, _, _, _, rfl, HO2.out, HG.out, HAT.out⟩
          · have h1 : (most : Int) < (part : Int) := by omega
            go_wp2
            go_ret
            exact ⟨_, _, _, _, rfl, HO2.out, HG.out, HAT.out⟩

theorem spec_l03Basis (d : Nat) (w : World) (hd : d ≤ 40) : Calls Try.prog 59 #[.int .i64 (d : Int)] w fun e w' => ∃ A l c vs, e = .returned (.slice A l c) ∧ OwnS w' w.heap.size A l c vs (admw d d) ∧ Below w.heap.size w w' := by
  have CON := Lib.hid (spec_admw d d (some ⟨w.heap.size, 0, none⟩) 0 0 [] none 0 0 [] [] w.heap.size w.heap.size (w.alloc (.cells #[] 2)) (by omega) (by omega) (by omega) (empty_own w) (OwnS.nil _ _) ⟨fun k hk => (by cases hk), fun i hi => absurd hi (by omega)⟩ (Nat.le_refl _) (by simp) (by have := (admw_bound d d (by omega)).1; simpa using this))
  go_enter Try.func59, Try.ntmps59
  go_wp2_with fail
  refine CON.out.mono ?_
  rintro e w2 ⟨A, l, c, vs, rfl, ho, hg, hat⟩
  have e1 : [] ++ (admw d d).map (fun r => [] ++ r) = admw d d := by simp
  rw [e1] at ho
  have HO := Lib.hid ho
  have HB := Lib.hid (((Below.refl w.heap.size w).alloc (Nat.le_refl _) (.cells #[] 2)).grown hg (by simp) (fun k hk => by cases hk))
  clear ho hg hat e1
  go_wp2
  go_ret
  exact ⟨A, l, c, vs, rfl, HO.out, HB.out⟩

theorem isDegree_any (n : Int) (w : World) : Calls Try.prog 62 #[.int .i64 n] w fun e w' => e = .returned (.bool (inB n 0 40)) ∧ w = w' := by
  go_enter Try.func62, Try.ntmps62
  go_wp2_with (go_at_call 90; refine (in_any _ _ _ _).mono ?_; rintro e w' ⟨rfl, rfl⟩)
  go_ret
  exact ⟨rfl, rfl⟩

end Go.Proofs.Ytpgmggkpnefaeaa
