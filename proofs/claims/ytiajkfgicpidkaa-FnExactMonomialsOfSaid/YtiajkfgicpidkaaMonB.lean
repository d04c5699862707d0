/- MonomialsOf of the program and of the reference. -/
import Derived.Test.YtiajkfgicpidkaaMon
import Derived.Test.YtiajkfgicpidkaaAppS
import Derived.Test.YtiajkfgicpidkaaCopy
namespace Go.Proofs.Ytiajkfgicpidkaa
open Go.ChangeShapes Go.WideShapes Go.ChangeAt Go.RowKit
set_option linter.unusedVariables false

set_option maxHeartbeats 1600000 in
theorem impl_mon (k : Nat) : ∀ (d : Nat) (w : World), 1 ≤ k → k ≤ 4 → d ≤ 40 →
    Calls Try.prog 86 #[.int .i64 (k : Int), .int .i64 (d : Int)] w fun e w' => ∃ A n c vs, e = .returned (.slice A n c) ∧ OwnS w' w.heap.size A n c vs (mon k d) ∧ Below w.heap.size w w' := by
  induction k using Nat.strongRecOn with
  | _ k ih =>
    intro d w hk1 hk4 hd
    have IH := Lib.hid ih
    clear ih
    rcases Nat.lt_or_ge 1 k with hpos | hone
    rotate_left
    · obtain rfl : k = 1 := by omega
      have ho := lit1S_own (w.alloc (.cells #[.int .i64 (d : Int)] 2)) w.heap.size (some ⟨w.heap.size, 0, none⟩, 1, 1) [(d : Int)] (lit1_own w (d : Int) (I64.mk (by omega) (by omega))) (by simp)
      rw [show (w.alloc (.cells #[.int .i64 (d : Int)] 2)).heap.size = w.heap.size + 1 by simp, ← mon_one d] at ho
      have HO := Lib.hid ho
      have HB := Lib.hid (show Below w.heap.size w ((w.alloc (.cells #[.int .i64 (d : Int)] 2)).alloc (.cells #[sv (some ⟨w.heap.size, 0, none⟩, 1, 1)] 22)) from (((Below.refl _ _).alloc (Nat.le_refl _) _).alloc (by simp) _))
      clear ho
      go_enter Try.func86, Try.ntmps86
      go_wp2
      go_ret
      exact ⟨_, _, _, _, rfl, HO.out, HB.out⟩
    · obtain ⟨k2, rfl⟩ : ∃ k2, k = k2 + 2 := ⟨k - 2, by omega⟩
      have HI := Lib.hid (emptyS_own w)
      have HB := Lib.hid (show Below w.heap.size w (w.alloc (.cells #[] 22)) from (Below.refl _ _).alloc (Nat.le_refl _) _)
      have HSP := Lib.hid (mon_more k2 d)
      have HBD := Lib.hid (mon_bound (k2 + 2) d hk1 hk4 hd)
      obtain ⟨K, hK⟩ : ∃ K : Int, K = ((k2 + 2 : Nat) : Int) := ⟨_, rfl⟩
      have hz : (K == 1) = false := by rw [beq_eq_false_iff_ne]; omega
      have hK1 : K - 1 = ((k2 + 1 : Nat) : Int) := by omega
      have hK2 : K ≤ 4 := by omega
      have hK3 : 1 ≤ K := by omega
      rw [← hK]
      have HK1 := Lib.hid hK1
      clear hK hK1
      go_enter Try.func86, Try.ntmps86
      go_wp2
      go_loopw [5, 17] (fun v p wr => ∃ (n : Nat) (A : Option Addr) (l c : Nat) (vs : List Sl) (acc : List (List Int)), n ≤ d + 1 ∧ p = .int .i64 (n : Int) ∧ v = .slice A l c ∧ OwnS wr w.heap.size A l c vs acc ∧ acc ++ monT (mon (k2 + 1)) d n = mon (k2 + 2) d ∧ Below w.heap.size w wr) (fun _ p _ => d + 1 - (intOf p).toNat)
      case atStart => exact ⟨0, _, _, _, [], [], by omega, rfl, rfl, HI.out, HSP.out.symm, HB.out⟩
      case round =>
        obtain ⟨n, A, l, c, vs, acc, hn, rfl, rfl, ho, ht, hb⟩ := hrel
        clear HI HB
        have HT := Lib.hid ht
        have HO := Lib.hid ho
        have HBW := Lib.hid hb
        clear ht ho hb
        by_cases hgo : n ≤ d
        · have hgo' : (n : Int) < (d : Int) + 1 := by omega
          have con := IH.out (k2 + 1) (by omega) (d - n) wr (by omega) (by omega) (by omega)
          rw [show ((d - n : Nat) : Int) = (d : Int) - (n : Int) by omega, ← HK1.out] at con
          have CON := Lib.hid con
          have ht := HT.out
          rw [monT_go _ d n hgo] at ht
          have HT2 := Lib.hid ht
          clear con ht
          have hRrow := mon_rows (k2 + 1) (d - n) (by omega) (by omega)
          generalize hR : mon (k2 + 1) (d - n) = RR at *
          have HRROW := Lib.hid hRrow
          clear hR hRrow
          go_wp2_with fail
          refine CON.out.mono ?_
          rintro e w2 ⟨AR, nR, cR, vR, rfl, hoR, hbR⟩
          have HR0 := Lib.hid hoR
          have HO2 := Lib.hid (HO.out.below hbR)
          have HB2 := Lib.hid (HBW.out.trans (hbR.mono HBW.out.size))
          have HNE := Lib.hid (show ∀ k, A.map (·.block) = some k → AR.map (·.block) ≠ some k from fun k h1 h2 => by
            have l1 := HO.out.inS.1 k h1
            have l2 := hoR.out_ge h2
            omega)
          have hsR := hoR.reads.small
          clear hoR hbR
          go_wp2
          obtain ⟨wo, rfl⟩ : ∃ wo : World, wo = wr := ⟨_, rfl⟩
          go_loopw [5, 27] (fun v iv wr => ∃ (j : Nat) (A : Option Addr) (l c : Nat) (vs : List Sl) (acc : List (List Int)), j ≤ nR ∧ iv = .int .i64 (j : Int) ∧ v = .slice A l c ∧ OwnS wr w.heap.size A l c vs acc ∧ acc ++ ((RR.drop j).map (fun r => (n : Int) :: r) ++ monT (mon (k2 + 1)) d (n + 1)) = mon (k2 + 2) d ∧ OwnS wr wo.heap.size AR nR cR vR RR ∧ (∀ k, A.map (·.block) = some k → AR.map (·.block) ≠ some k) ∧ Below w.heap.size w wr) (fun _ iv _ => nR - (intOf iv).toNat)
          case atStart => exact ⟨0, _, _, _, vs, acc, by omega, rfl, rfl, HO2.out, HT2.out, HR0.out, HNE.out, HB2.out⟩
          case round =>
            obtain ⟨j, A, l, c, vs, acc, hj, rfl, rfl, ho, ht, hoR, hne, hb⟩ := hrel
            have HOI := Lib.hid ho
            have HTI := Lib.hid ht
            have HRI := Lib.hid hoR
            have HNI := Lib.hid hne
            have HBI := Lib.hid hb
            clear HO2 HT2 HR0 HNE HB2 HO HT
            clear ho ht hoR hne hb
            by_cases hlt : j < nR
            · obtain ⟨g, rfl, hBg, hgs⟩ := HRI.out.form (by omega)
              have hcell := HRI.out.cell hlt
              have hrow := HRI.out.row hlt
              have hr40 : (RR.getD j []).length ≤ 40 := by
                have hj2 : j < RR.length := by rw [HRI.out.len]; exact hlt
                have := HRROW.out (RR.getD j []) (by simp [List.getD, hj2])
                omega
              have hRl := HRI.out.len
              have hd0 : RR.drop j = RR.getD j [] :: RR.drop (j + 1) := by
                have h2 : j < RR.length := by omega
                rw [List.drop_eq_getElem_cons h2]; simp [List.getD, h2]
              have hti := HTI.out
              rw [hd0, List.map_cons, List.cons_append] at hti
              have hti2 : (acc ++ [[(n : Int)] ++ RR.getD j []]) ++ ((RR.drop (j + 1)).map (fun r => (n : Int) :: r) ++ monT (mon (k2 + 1)) d (n + 1)) = mon (k2 + 2) d := by
                rw [List.append_assoc]; exact hti
              have hlen : acc.length ≤ 1099511627776 := by
                have h1 := congrArg List.length hti2
                have h2 := HBD.out
                simp only [List.length_append, List.length_cons] at h1
                omega
              have hnl := HOI.out.len
              have HT3 := Lib.hid hti2
              have hn40 : l ≤ 1099511627776 := by omega
              generalize vR.getD j nilS = v3 at *
              generalize RR.getD j [] = row at *
              obtain ⟨a3, n3, c3⟩ := v3
              simp only at hrow
              simp only [sv] at hcell
              have hrs := hrow.len
              have HROW := Lib.hid hrow
              have hlt' : (j : Int) < (nR : Int) := by omega
              clear hrow hd0 hti hti2 hlen hRl
              clear hBg hgs
              go_wp2_with (first | (at_builtin; refine appR _ _ _ _ _ _ _ _ _ _ _ _ rfl rfl rfl rfl (lit1_own wr (n : Int) (I64.mk (by omega) (by omega))) (HROW.out.reads.below ((Below.refl _ _).alloc (Nat.le_refl _) _)) (by omega) (by simp) ?_; intro A4 c4 W3 ho3 hg3; have HO3 := Lib.hid ho3; have HB3 := Lib.hid (((Below.refl wr.heap.size wr).alloc (Nat.le_refl _) _).grown hg3 (by simp) (fun k hk => (lit1_own wr (n : Int) (I64.mk (by omega) (by omega))).row_ge hk)); clear ho3 hg3) | (at_builtin; refine app1S _ _ w.heap.size wr.heap.size A l c vs acc (A4, 1 + n3, c4) _ W3 rfl rfl rfl rfl (HOI.out.below HB3.out) HO3.out HOI.out.inS HBI.out.size hn40 (Nat.le_trans HBI.out.size HB3.out.size) ?_; intro g5 c5 W4 ho4 hg4 hat4))
              have HO4 := Lib.hid ho4
              have HR4 := Lib.hid ((HRI.out.below HB3.out).kept_out (HOI.out.below HB3.out) HNI.out hg4)
              have HN4 := Lib.hid (show ∀ k, (some (⟨g5, 0, none⟩ : Addr)).map (·.block) = some k → (some (⟨g, 0, none⟩ : Addr)).map (·.block) ≠ some k from fun k h1 h2 => by
                have e1 : g5 = k := by simpa using h1
                have e2 : g = k := by simpa using h2
                subst e1
                rcases hat4 with h | h
                · exact HNI.out _ h h2
                · have l1 := HRI.out.inS.1 _ h2
                  have l2 := HB3.out.size
                  omega)
              have HB4 := Lib.hid ((HBI.out.trans (HB3.out.mono HBI.out.size)).grown hg4 (Nat.le_trans HBI.out.size HB3.out.size) (fun k hk => (HOI.out.below HB3.out).out_ge hk))
              clear ho4 hg4 hat4
              go_wp2
              go_roundw
              case rel => exact ⟨j + 1, _, _, _, _, _, by omega, by go_num, rfl, HO4.out, HT3.out, HR4.out, HN4.out, HB4.out⟩
              case measure => simp [intOf]; omega
            · obtain rfl : j = nR := by omega
              have hti := HTI.out
              rw [List.drop_of_length_le (by rw [HRI.out.len]; exact Nat.le_refl _), List.map_nil, List.nil_append] at hti
              have HT3 := Lib.hid hti
              clear hti
              go_wp2
              go_roundw
              case rel => exact ⟨n + 1, _, _, _, _, _, by omega, by go_num, rfl, HOI.out, HT3.out, HBI.out⟩
              case measure => simp [intOf]; omega
        · have ht := HT.out
          rw [monT_stop _ d n (by omega), List.append_nil] at ht
          have HO2 := Lib.hid (show OwnS wr w.heap.size A l c vs (mon (k2 + 2) d) by rw [← ht]; exact HO.out)
          have hs : (d : Int) + 1 ≤ (n : Int) := by omega
          clear ht HT HO
          go_wp2
          go_ret
          exact ⟨_, _, _, _, rfl, HO2.out, HBW.out⟩

theorem InS.more {A n vs L L'} (h : InS A n vs L) (hL : L ≤ L') : InS A n vs L' := ⟨fun k hk => Nat.lt_of_lt_of_le (h.1 k hk) hL, fun i hi k hk => Nat.lt_of_lt_of_le (h.2 i hi k hk) hL⟩

set_option maxHeartbeats 1600000 in
theorem spec_mon (k : Nat) : ∀ (d : Nat) (As : Option Addr) (ns cs : Nat) (st : List Int) (A0 : Option Addr) (n0 c0 : Nat) (vs0 : List Sl) (acc0 : List (List Int)) (B L : Nat) (w : World), 1 ≤ k → k ≤ 4 → d ≤ 40 → ns + k ≤ 1000 →
    OwnI w L As ns cs st → OwnS w B A0 n0 c0 vs0 acc0 → InS A0 n0 vs0 L → B ≤ L → L ≤ w.heap.size → acc0.length + (mon k d).length ≤ 1099511627776 →
    Calls Try.prog 114 #[.int .i64 (k : Int), .int .i64 (d : Int), .slice As ns cs, .slice A0 n0 c0] w (GrewS w B A0 (acc0 ++ (mon k d).map (fun r => st ++ r))) := by
  induction k using Nat.strongRecOn with
  | _ k ih =>
    intro d As ns cs st A0 n0 c0 vs0 acc0 B L w hk1 hk4 hd hns hst hacc hin hBL hLw hbd
    have IH := Lib.hid ih
    have HST := Lib.hid hst
    have HACC := Lib.hid hacc
    have HIN := Lib.hid hin
    have HBD := Lib.hid hbd
    have hn0 := hacc.len
    clear ih hst hacc hin hbd
    rcases Nat.lt_or_ge 1 k with hpos | hone
    rotate_left
    · obtain rfl : k = 1 := by omega
      have hf : acc0 ++ (mon 1 d).map (fun r => st ++ r) = acc0 ++ [st ++ [(d : Int)]] := by rw [mon_one]; simp
      have hn40 : n0 ≤ 1099511627776 := by have := HBD.out; omega
      have HF := Lib.hid hf
      have CO := Lib.hid (spec_own As ns cs st w HST.out.reads (by omega))
      clear hf
      go_enter Try.func114, Try.ntmps114
      go_wp2_with fail
      refine CO.out.mono ?_
      rintro e w1 ⟨A1, c1, rfl, ho1, hb1⟩
      have HO1 := Lib.hid ho1
      have HB1 := Lib.hid hb1
      clear ho1 hb1
      go_wp2_with (first | (at_builtin; refine app1 _ _ _ _ _ _ _ _ _ rfl rfl rfl rfl HO1.out (I64.mk (by omega) (by omega)) (by omega) HB1.out.size ?_; intro g2 c2 W3 ho3 hg3; have HO3 := Lib.hid ho3; have HB3 := Lib.hid (HB1.out.grown hg3 HB1.out.size (fun k hk => HO1.out.row_ge hk)); clear ho3 hg3) | (at_builtin; refine app1S _ _ B w.heap.size A0 n0 c0 vs0 acc0 (some ⟨g2, 0, none⟩, ns + 1, c2) (st ++ [(d : Int)]) W3 rfl rfl rfl rfl (HACC.out.below HB3.out) HO3.out (HIN.out.more hLw) (Nat.le_trans hBL hLw) hn40 (Nat.le_trans (Nat.le_trans hBL hLw) HB3.out.size) ?_; intro g5 c5 W4 ho4 hg4 hat4))
      rw [← HF.out] at ho4
      have HO4 := Lib.hid ho4
      have HG4 := Lib.hid (grown_step (Below.grownBy HB3.out (A0.map (·.block))) hg4 (.inl rfl))
      have HA4 := Lib.hid (show (some (⟨g5, 0, none⟩ : Addr)).map (·.block) = A0.map (·.block) ∨ ∀ k, (some (⟨g5, 0, none⟩ : Addr)).map (·.block) = some k → w.heap.size ≤ k from by
        rcases hat4 with h | h
        · exact .inl h.symm
        · refine .inr (fun k hk => ?_)
          have e1 : g5 = k := by simpa using hk
          have l2 := HB3.out.size
          omega)
      clear ho4 hg4 hat4
      go_wp2
      go_ret
      exact ⟨_, _, _, _, rfl, HO4.out, HG4.out, HA4.out⟩
    · obtain ⟨k2, rfl⟩ : ∃ k2, k = k2 + 2 := ⟨k - 2, by omega⟩
      have HSP := Lib.hid (mon_more k2 d)
      obtain ⟨K, hK⟩ : ∃ K : Int, K = ((k2 + 2 : Nat) : Int) := ⟨_, rfl⟩
      have hz : (K == 1) = false := by rw [beq_eq_false_iff_ne]; omega
      have hK2 : K ≤ 4 := by omega
      have hK3 : 1 ≤ K := by omega
      have HK1 := Lib.hid (show K - 1 = ((k2 + 1 : Nat) : Int) by omega)
      rw [← hK]
      clear hK
      go_enter Try.func114, Try.ntmps114
      go_wp2
      go_loopw [3, 9] (fun v p wr => ∃ (n : Nat) (A : Option Addr) (l c : Nat) (vs : List Sl) (acc : List (List Int)), n ≤ d + 1 ∧ p = .int .i64 (n : Int) ∧ v = .slice A l c ∧ OwnS wr B A l c vs acc ∧ acc ++ (monT (mon (k2 + 1)) d n).map (fun r => st ++ r) = acc0 ++ (mon (k2 + 2) d).map (fun r => st ++ r) ∧ OwnI wr L As ns cs st ∧ w.grownBy wr (A0.map (·.block)) ∧ (A.map (·.block) = A0.map (·.block) ∨ ∀ k, A.map (·.block) = some k → w.heap.size ≤ k)) (fun _ p _ => d + 1 - (intOf p).toNat)
      case atStart => exact ⟨0, _, _, _, _, _, by omega, rfl, rfl, HACC.out, by rw [HSP.out], HST.out, World.grownBy.refl _ _, .inl rfl⟩
      case round =>
        obtain ⟨n, A, l, c, vs, acc, hn, rfl, rfl, ho, ht, hst, hg, hat⟩ := hrel
        have HO := Lib.hid ho
        have HT := Lib.hid ht
        have HSTR := Lib.hid hst
        have HG := Lib.hid hg
        have HAT := Lib.hid hat
        clear ho ht hst hg hat
        by_cases hgo : n ≤ d
        · have hgo' : (n : Int) ≤ (d : Int) := by omega
          have ht := HT.out
          rw [monT_go _ d n hgo, List.map_append, ← List.append_assoc] at ht
          have hlen : acc.length + (mon (k2 + 1) (d - n)).length ≤ 1099511627776 := by
            have h1 := congrArg List.length ht
            have h2 := HBD.out
            simp only [List.length_append, List.length_map] at h1
            omega
          have hmm : ((mon (k2 + 1) (d - n)).map (fun r => (n : Int) :: r)).map (fun r => st ++ r) = (mon (k2 + 1) (d - n)).map (fun r => (st ++ [(n : Int)]) ++ r) := by
            rw [List.map_map]
            apply List.map_congr_left
            intro r _
            simp
          rw [hmm] at ht
          have HT2 := Lib.hid ht
          have CO := Lib.hid (spec_own As ns cs st wr HSTR.out.reads (by omega))
          clear ht hmm
          go_wp2_with fail
          refine CO.out.mono ?_
          rintro e w1 ⟨A1, c1, rfl, ho1, hb1⟩
          have HO1 := Lib.hid ho1
          have HB1 := Lib.hid hb1
          clear ho1 hb1
          go_wp2_with (at_builtin; refine app1 _ _ _ _ _ _ _ _ _ rfl rfl rfl rfl HO1.out (I64.mk (by omega) (by omega)) (by omega) HB1.out.size ?_; intro g2 c2 W3 ho3 hg3; have HO3 := Lib.hid ho3; have HB3 := Lib.hid (HB1.out.grown hg3 HB1.out.size (fun k hk => HO1.out.row_ge hk)); clear ho3 hg3)
          have con := IH.out (k2 + 1) (by omega) (d - n) (some ⟨g2, 0, none⟩) (ns + 1) c2 (st ++ [(n : Int)]) A l c vs acc B wr.heap.size W3 (by omega) (by omega) (by omega) (by omega) HO3.out (HO.out.below HB3.out) HO.out.inS (Nat.le_trans hBL (Nat.le_trans hLw HG.out.size)) HB3.out.size hlen
          rw [show ((d - n : Nat) : Int) = (d : Int) - (n : Int) by omega, ← HK1.out] at con
          refine con.mono ?_
          rintro e w5 ⟨A5, n5, c5, vs5, rfl, ho5, hg5, hat5⟩
          have HO5 := Lib.hid ho5
          have HST5 := Lib.hid ((HSTR.out.below HB3.out).kept_out (HO.out.below HB3.out) hg5)
          have HG5 := Lib.hid (grown_step (HG.out.trans (Below.grownBy HB3.out _)) hg5 HAT.out)
          have HAT5 := Lib.hid (show A5.map (·.block) = A0.map (·.block) ∨ ∀ k, A5.map (·.block) = some k → w.heap.size ≤ k from by
            rcases hat5 with h | h
            · rcases HAT.out with h2 | h2
              · exact .inl (h.trans h2)
              · exact .inr (fun k hk => h2 k (h ▸ hk))
            · exact .inr (fun k hk => Nat.le_trans (Nat.le_trans HG.out.size HB3.out.size) (h k hk)))
          clear ho5 hg5 hat5 con hlen
          go_wp2
          go_roundw
          case rel => exact ⟨n + 1, _, _, _, _, _, by omega, by go_num, rfl, HO5.out, HT2.out, HST5.out, HG5.out, HAT5.out⟩
          case measure => simp [intOf]; omega
        · have ht := HT.out
          rw [monT_stop _ d n (by omega), List.map_nil, List.append_nil] at ht
          have HO2 := Lib.hid (show OwnS wr B A l c vs (acc0 ++ (mon (k2 + 2) d).map (fun r => st ++ r)) by rw [← ht]; exact HO.out)
          have hs : (d : Int) < (n : Int) := by omega
          clear ht HT HO
          go_wp2
          go_ret
          exact ⟨_, _, _, _, rfl, HO2.out, HG.out, HAT.out⟩

theorem spec_l08All (k d : Nat) (w : World) (h1 : 1 ≤ k) (h4 : k ≤ 4) (hd : d ≤ 40) : Calls Try.prog 84 #[.int .i64 (k : Int), .int .i64 (d : Int)] w fun e w' => ∃ A l c vs, e = .returned (.slice A l c) ∧ OwnS w' w.heap.size A l c vs (mon k d) ∧ Below w.heap.size w w' := by
  have CON := Lib.hid (spec_mon k d (some ⟨w.heap.size, 0, none⟩) 0 0 [] none 0 0 [] [] w.heap.size w.heap.size (w.alloc (.cells #[] 2)) h1 h4 hd (by omega) (empty_own w) (OwnS.nil _ _) ⟨fun k hk => (by cases hk), fun i hi => absurd hi (by omega)⟩ (Nat.le_refl _) (by simp) (by have := mon_bound k d h1 h4 hd; simp; omega))
  go_enter Try.func84, Try.ntmps84
  go_wp2_with fail
  refine CON.out.mono ?_
  rintro e w2 ⟨A, l, c, vs, rfl, ho, hg, hat⟩
  have e1 : [] ++ (mon k d).map (fun r => [] ++ r) = mon k d := by simp
  rw [e1] at ho
  have HO := Lib.hid ho
  have HB := Lib.hid (((Below.refl w.heap.size w).alloc (Nat.le_refl _) (.cells #[] 2)).grown hg (by simp) (fun k hk => by cases hk))
  clear ho hg hat e1
  go_wp2
  go_ret
  exact ⟨A, l, c, vs, rfl, HO.out, HB.out⟩

theorem isDeg_any (n : Int) (w : World) : Calls Try.prog 75 #[.int .i64 n] w fun e w' => e = .returned (.bool (inB n 0 40)) ∧ w = w' := by
  go_enter Try.func75, Try.ntmps75
  go_wp2_with (go_at_call 91; refine (in_any _ _ _ _).mono ?_; rintro e w' ⟨rfl, rfl⟩)
  go_ret
  exact ⟨rfl, rfl⟩

theorem isCount_any (n : Int) (w : World) : Calls Try.prog 85 #[.int .i64 n] w fun e w' => e = .returned (.bool (inB n 1 4)) ∧ w = w' := by
  go_enter Try.func85, Try.ntmps85
  go_wp2_with (go_at_call 91; refine (in_any _ _ _ _).mono ?_; rintro e w' ⟨rfl, rfl⟩)
  go_ret
  exact ⟨rfl, rfl⟩

set_option maxHeartbeats 800000 in
theorem impl_MonomialsOf (k0 n0 : Int) (w : World) (hi : I64 k0) (hi2 : I64 n0) : Calls Try.prog 37 #[.int .i64 k0, .int .i64 n0] w fun e w' => ∃ A l c vs, e = .returned (.tuple #[.slice A l c, .int .i64 (pMonomialsOf k0 n0).2]) ∧ OwnS w' w.heap.size A l c vs (pMonomialsOf k0 n0).1 ∧ Below w.heap.size w w' := by
  clear hi hi2
  cases hk : inB k0 1 4 with
  | false =>
    have hf : pMonomialsOf k0 n0 = ([], 2) := by unfold pMonomialsOf; rw [hk]; rfl
    have HF := Lib.hid hf
    clear hf
    go_enter Try.func37, Try.ntmps37
    go_wp2_with (first | (go_at_call 85; refine (isCount_any _ _).mono ?_; rintro e w2 ⟨rfl, rfl⟩) | (go_at_call 75; refine (isDeg_any _ _).mono ?_; rintro e w2 ⟨rfl, rfl⟩) | fail)
    go_ret2
    exact ⟨none, 0, 0, [], by rw [HF.out]; rfl, by rw [HF.out]; exact OwnS.nil _ _, Below.refl _ _⟩
  | true =>
  cases hd : inB n0 0 40 with
  | false =>
    have hf : pMonomialsOf k0 n0 = ([], 2) := by unfold pMonomialsOf; rw [hk, hd]; rfl
    have HF := Lib.hid hf
    clear hf
    go_enter Try.func37, Try.ntmps37
    go_wp2_with (first | (go_at_call 85; refine (isCount_any _ _).mono ?_; rintro e w2 ⟨rfl, rfl⟩) | (go_at_call 75; refine (isDeg_any _ _).mono ?_; rintro e w2 ⟨rfl, rfl⟩) | fail)
    go_ret2
    exact ⟨none, 0, 0, [], by rw [HF.out]; rfl, by rw [HF.out]; exact OwnS.nil _ _, Below.refl _ _⟩
  | true =>
    have hb := inB_true hd
    have hbk := inB_true hk
    have hf : pMonomialsOf k0 n0 = (if 2000 < (mon k0.toNat n0.toNat).length then ([], 3) else (mon k0.toNat n0.toNat, 0)) := by unfold pMonomialsOf; rw [hk, hd]; rfl
    obtain ⟨d, rfl⟩ := Int.eq_ofNat_of_zero_le hb.1
    obtain ⟨k, rfl⟩ := Int.eq_ofNat_of_zero_le (show 0 ≤ k0 by omega)
    have h1 : 1 ≤ k := by omega
    have h4 : k ≤ 4 := by omega
    rw [Int.toNat_natCast, Int.toNat_natCast] at hf
    have CON := Lib.hid (impl_mon k d w h1 h4 (by omega))
    have hbd := mon_bound k d h1 h4 (by omega)
    clear hb hbk
    by_cases hl : 2000 < (mon k d).length
    · rw [if_pos hl] at hf
      have HF := Lib.hid hf
      clear hf
      go_enter Try.func37, Try.ntmps37
      go_wp2_with (first | (go_at_call 85; refine (isCount_any _ _).mono ?_; rintro e w2 ⟨rfl, rfl⟩) | (go_at_call 75; refine (isDeg_any _ _).mono ?_; rintro e w2 ⟨rfl, rfl⟩) | fail)
      refine CON.out.mono ?_
      rintro e w2 ⟨A, l, c, vs, rfl, ho, hb⟩
      have hll := ho.len
      have hl2 : (2000 : Int) < (l : Int) := by omega
      have HB := Lib.hid hb
      clear ho hb hll
      go_wp2
      go_ret2
      exact ⟨none, 0, 0, [], by rw [HF.out]; rfl, by rw [HF.out]; exact OwnS.nil _ _, HB.out⟩
    · rw [if_neg hl] at hf
      have HF := Lib.hid hf
      clear hf
      go_enter Try.func37, Try.ntmps37
      go_wp2_with (first | (go_at_call 85; refine (isCount_any _ _).mono ?_; rintro e w2 ⟨rfl, rfl⟩) | (go_at_call 75; refine (isDeg_any _ _).mono ?_; rintro e w2 ⟨rfl, rfl⟩) | fail)
      refine CON.out.mono ?_
      rintro e w2 ⟨A, l, c, vs, rfl, ho, hb⟩
      have hll := ho.len
      have hl2 : (l : Int) ≤ 2000 := by omega
      have HO := Lib.hid ho
      have HB := Lib.hid hb
      clear ho hb hll
      go_wp2
      go_ret2
      exact ⟨A, l, c, vs, by rw [HF.out]; rfl, by rw [HF.out]; exact HO.out, HB.out⟩

set_option maxHeartbeats 800000 in
theorem spec_MonomialsOf (k0 n0 : Int) (w : World) (hi : I64 k0) (hi2 : I64 n0) : Calls Try.prog 36 #[.int .i64 k0, .int .i64 n0] w fun e w' => ∃ A l c vs, e = .returned (.tuple #[.slice A l c, .int .i64 (pMonomialsOf k0 n0).2]) ∧ OwnS w' w.heap.size A l c vs (pMonomialsOf k0 n0).1 ∧ Below w.heap.size w w' := by
  clear hi hi2
  cases hk : inB k0 1 4 with
  | false =>
    have hf : pMonomialsOf k0 n0 = ([], 2) := by unfold pMonomialsOf; rw [hk]; rfl
    have HF := Lib.hid hf
    clear hf
    go_enter Try.func36, Try.ntmps36
    go_wp2_with (first | (go_at_call 73; refine (l01In_any _ _ _ _).mono ?_; rintro e w2 ⟨rfl, rfl⟩) | fail)
    go_ret2
    exact ⟨none, 0, 0, [], by rw [HF.out]; rfl, by rw [HF.out]; exact OwnS.nil _ _, Below.refl _ _⟩
  | true =>
  cases hd : inB n0 0 40 with
  | false =>
    have hf : pMonomialsOf k0 n0 = ([], 2) := by unfold pMonomialsOf; rw [hk, hd]; rfl
    have HF := Lib.hid hf
    clear hf
    go_enter Try.func36, Try.ntmps36
    go_wp2_with (first | (go_at_call 73; refine (l01In_any _ _ _ _).mono ?_; rintro e w2 ⟨rfl, rfl⟩) | fail)
    go_ret2
    exact ⟨none, 0, 0, [], by rw [HF.out]; rfl, by rw [HF.out]; exact OwnS.nil _ _, Below.refl _ _⟩
  | true =>
    have hb := inB_true hd
    have hbk := inB_true hk
    have hf : pMonomialsOf k0 n0 = (if 2000 < (mon k0.toNat n0.toNat).length then ([], 3) else (mon k0.toNat n0.toNat, 0)) := by unfold pMonomialsOf; rw [hk, hd]; rfl
    obtain ⟨d, rfl⟩ := Int.eq_ofNat_of_zero_le hb.1
    obtain ⟨k, rfl⟩ := Int.eq_ofNat_of_zero_le (show 0 ≤ k0 by omega)
    have h1 : 1 ≤ k := by omega
    have h4 : k ≤ 4 := by omega
    rw [Int.toNat_natCast, Int.toNat_natCast] at hf
    have CON := Lib.hid (spec_l08All k d w h1 h4 (by omega))
    have hbd := mon_bound k d h1 h4 (by omega)
    clear hb hbk
    by_cases hl : 2000 < (mon k d).length
    · rw [if_pos hl] at hf
      have HF := Lib.hid hf
      clear hf
      go_enter Try.func36, Try.ntmps36
      go_wp2_with (first | (go_at_call 73; refine (l01In_any _ _ _ _).mono ?_; rintro e w2 ⟨rfl, rfl⟩) | fail)
      refine CON.out.mono ?_
      rintro e w2 ⟨A, l, c, vs, rfl, ho, hb⟩
      have hll := ho.len
      have hl2 : (2000 : Int) < (l : Int) := by omega
      have HB := Lib.hid hb
      clear ho hb hll
      go_wp2
      go_ret2
      exact ⟨none, 0, 0, [], by rw [HF.out]; rfl, by rw [HF.out]; exact OwnS.nil _ _, HB.out⟩
    · rw [if_neg hl] at hf
      have HF := Lib.hid hf
      clear hf
      go_enter Try.func36, Try.ntmps36
      go_wp2_with (first | (go_at_call 73; refine (l01In_any _ _ _ _).mono ?_; rintro e w2 ⟨rfl, rfl⟩) | fail)
      refine CON.out.mono ?_
      rintro e w2 ⟨A, l, c, vs, rfl, ho, hb⟩
      have hll := ho.len
      have hl2 : (l : Int) ≤ 2000 := by omega
      have HO := Lib.hid ho
      have HB := Lib.hid hb
      clear ho hb hll
      go_wp2
      go_ret2
      exact ⟨A, l, c, vs, by rw [HF.out]; rfl, by rw [HF.out]; exact HO.out, HB.out⟩

end Go.Proofs.Ytiajkfgicpidkaa
