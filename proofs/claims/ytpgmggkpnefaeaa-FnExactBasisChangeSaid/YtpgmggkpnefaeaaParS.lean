/- PartitionsOf of the reference. -/
import Derived.Test.YtpgmggkpnefaeaaPar
import Derived.Test.YtpgmggkpnefaeaaCopy
import Derived.Test.YtpgmggkpnefaeaaAppS
import Derived.Test.YtpgmggkpnefaeaaMat
namespace Go.Proofs.Ytpgmggkpnefaeaa
open Go.ChangeShapes Go.WideShapes Go.ChangeAt Go.RowKit
set_option linter.unusedVariables false

theorem box_below' (w : World) (o : Obj) : Below w.heap.size w (w.alloc o) := (Below.refl _ _).alloc (Nat.le_refl _) _

theorem par_ns {ns part left : Nat} (h : part + 1 = 2 ^ (ns + 1)) (h1 : part ≤ left) (h2 : left ≤ 40) : ns ≤ 4 := by
  rcases Nat.lt_or_ge 4 ns with h3 | h3
  · have h4 : 2 ^ 6 ≤ 2 ^ (ns + 1) := Nat.pow_le_pow_right (by omega) (by omega)
    omega
  · exact h3

theorem par_lt {r part left : Nat} (hp : 1 ≤ part) : r < left / part + 1 ↔ r * part ≤ left := by
  rw [Nat.lt_succ_iff, Nat.le_div_iff_mul_le (by omega)]

theorem par_bound {r part left : Nat} (hp : 1 ≤ part) (h : r ≤ left / part + 1) : r * part ≤ left + part := by
  have h1 : r * part ≤ (left / part + 1) * part := Nat.mul_le_mul_right _ h
  have h2 : left / part * part ≤ left := Nat.div_mul_le_self _ _
  rw [Nat.add_mul, Nat.one_mul] at h1
  omega

theorem par_le {r part left : Nat} (hp : 1 ≤ part) (h : r ≤ left / part + 1) : r ≤ left + 1 := by
  have := Nat.div_le_self left part
  omega

theorem par_last {r part left : Nat} (hp : 1 ≤ part) (h : r * part = left) : left / part + 1 ≤ r + 1 := by
  have : left / part = r := by rw [← h]; exact Nat.mul_div_cancel _ (by omega)
  omega

theorem par_mapmap (r : Nat) (st : List Int) (l : List (List Int)) : (l.map ((r : Int) :: ·)).map (fun x => st ++ x) = l.map (fun x => (st ++ [(r : Int)]) ++ x) := by
  rw [List.map_map]
  apply List.map_congr_left
  intro x _
  simp

set_option maxHeartbeats 1600000 in
theorem spec_par (f : Nat) : ∀ (left part : Nat) (As : Option Addr) (ns cs : Nat) (st : List Int) (A0 : Option Addr) (n0 c0 : Nat) (vs0 : List Sl) (acc0 : List (List Int)) (B L : Nat) (w : World), left ≤ 40 → f + ns = 6 → part + 1 = 2 ^ (ns + 1) →
    OwnI w L As ns cs st → OwnS w B A0 n0 c0 vs0 acc0 → InS A0 n0 vs0 L → B ≤ L → L ≤ w.heap.size → acc0.length + (prtF (f + 1) left part).length ≤ 1099511627776 →
    Calls Try.prog 111 #[.int .i64 (left : Int), .slice As ns cs, .slice A0 n0 c0] w (GrewS w B A0 (acc0 ++ (prtF (f + 1) left part).map (fun r => st ++ r))) := by
  induction f using Nat.strongRecOn with
  | _ f ih =>
    intro left part As ns cs st A0 n0 c0 vs0 acc0 B L w hd hns hpt hst hacc hin hBL hLw hbd
    have IH := Lib.hid ih
    have HST := Lib.hid hst
    have HACC := Lib.hid hacc
    have HIN := Lib.hid hin
    have HBD := Lib.hid hbd
    have HPT := Lib.hid hpt
    have hn0 := hacc.len
    have hu : IntKind.u64.wrap ((ns : Int) + 1) = ((ns + 1 : Nat) : Int) := wrap_u64_id _ (by omega) (by omega)
    have hmn : min (ns + 1) 64 = ns + 1 := by omega
    have hpw : IntKind.i64.wrap ((2 : Int) ^ (ns + 1)) = (part : Int) + 1 := by
      rw [IntWalk.i64_left]
      have := pow_wrap62 (ns + 1) (by omega)
      rw [← hpt] at this
      rw [this]; omega
    have hp1 : 1 ≤ part := by have : 2 ^ 1 ≤ 2 ^ (ns + 1) := Nat.pow_le_pow_right (by omega) (by omega); omega
    have hp127 : part ≤ 127 := by have : 2 ^ (ns + 1) ≤ 2 ^ 7 := Nat.pow_le_pow_right (by omega) (by omega); omega
    clear ih hst hacc hin hbd hpt
    rcases Nat.eq_zero_or_pos left with rfl | hpos
    · have hf : acc0 ++ (prtF (f + 1) 0 part).map (fun r => st ++ r) = acc0 ++ [st] := by rw [prtF_zero]; simp
      have hn40 : n0 ≤ 1099511627776 := by have := HBD.out; omega
      have HF := Lib.hid hf
      clear hf
      go_enter Try.func111, Try.ntmps111
      go_wp2_with (at_builtin; refine app1S _ _ B L A0 n0 c0 vs0 acc0 (As, ns, cs) st w rfl rfl rfl rfl HACC.out HST.out HIN.out hBL hn40 (Nat.le_trans hBL hLw) ?_; intro g5 c5 W4 ho4 hg4 hat4)
      rw [← HF.out] at ho4
      have HO4 := Lib.hid ho4
      have HG4 := Lib.hid hg4
      have HA4 := Lib.hid (show (some (⟨g5, 0, none⟩ : Addr)).map (·.block) = A0.map (·.block) ∨ ∀ k, (some (⟨g5, 0, none⟩ : Addr)).map (·.block) = some k → w.heap.size ≤ k from by
        rcases hat4 with h | h
        · exact .inl h.symm
        · refine .inr (fun k hk => ?_)
          have e1 : g5 = k := by simpa using hk
          omega)
      clear ho4 hg4 hat4
      go_wp2
      go_ret
      exact ⟨_, _, _, _, rfl, HO4.out, HG4.out, HA4.out⟩
    · have hz : ((left : Int) == 0) = false := by rw [beq_eq_false_iff_ne]; omega
      by_cases hlp : left < part
      · have hf : acc0 ++ (prtF (f + 1) left part).map (fun r => st ++ r) = acc0 := by rw [prtF_stop f left part (by omega) hlp]; simp
        have HF := Lib.hid hf
        have hlp' : (left : Int) < (part : Int) := by omega
        clear hf
        go_enter Try.func111, Try.ntmps111
        go_wp2
        go_ret
        exact ⟨_, _, _, _, rfl, by rw [HF.out]; exact HACC.out, World.grownBy.refl _ _, .inl rfl⟩
      · have hle : part ≤ left := by omega
        have hle' : (part : Int) ≤ (left : Int) := by omega
        have hns4 := par_ns HPT.out hle hd
        obtain ⟨f', rfl⟩ : ∃ f', f = f' + 1 + 1 := ⟨f - 2, by omega⟩
        have HGO := Lib.hid (prtF_go (f' + 1 + 1) left part (by omega) hle)
        generalize hge : (fun n => (prtF (f' + 1 + 1) (left - n * part) (2 * part + 1)).map ((n : Int) :: ·)) = g at HGO
        have HGE := Lib.hid hge
        have hlpb : decide (left < part) = false := decide_eq_false hlp
        have hlpn : ¬ left < part := hlp
        clear hge hlp
        go_enter Try.func111, Try.ntmps111
        go_wp2
        clear hu hpw hmn
        go_loopw [2, 8] (fun v p wr => ∃ (r : Nat) (A : Option Addr) (n c : Nat) (vs : List Sl) (acc : List (List Int)), r ≤ left / part + 1 ∧ p = .int .i64 (r : Int) ∧ v = .slice A n c ∧ OwnS wr B A n c vs acc ∧ acc ++ (prtL g (left / part + 1) r).map (fun x => st ++ x) = acc0 ++ (prtF (f' + 1 + 1 + 1) left part).map (fun x => st ++ x) ∧ OwnI wr L As ns cs st ∧ w.grownBy wr (A0.map (·.block)) ∧ (A.map (·.block) = A0.map (·.block) ∨ ∀ k, A.map (·.block) = some k → w.heap.size ≤ k)) (fun _ p _ => left + 2 - (intOf p).toNat)
        case atStart => exact ⟨0, _, _, _, _, _, Nat.zero_le _, rfl, rfl, HACC.out, by rw [HGO.out], HST.out, World.grownBy.refl _ _, .inl rfl⟩
        case round =>
          obtain ⟨r, A, n, c, vs, acc, hr, rfl, rfl, ho, ht, hst, hg, hat⟩ := hrel
          have HO := Lib.hid ho
          have HT := Lib.hid ht
          have HSTR := Lib.hid hst
          have HG := Lib.hid hg
          have HAT := Lib.hid hat
          have hrb := par_bound hp1 hr
          have hrl := par_le hp1 hr
          have hlt := par_lt (r := r) (left := left) hp1
          have hlast := par_last (r := r) (left := left) hp1
          have hmul : (r : Int) * (part : Int) = ((r * part : Nat) : Int) := by simp
          have HGR := Lib.hid (show g r = (prtF (f' + 1 + 1) (left - r * part) (2 * part + 1)).map ((r : Int) :: ·) by rw [← HGE.out])
          have HPM := Lib.hid (par_mapmap r st (prtF (f' + 1 + 1) (left - r * part) (2 * part + 1)))
          clear ho ht hst hg hat
          generalize left / part + 1 = N at *
          generalize r * part = P at *
          by_cases hgo : P ≤ left
          · have hrN := hlt.2 hgo
            have hgo' : (P : Int) ≤ (left : Int) := by omega
            have ht := HT.out
            rw [prtL_step g N r hrN, List.map_append, ← List.append_assoc, HGR.out, HPM.out] at ht
            have hlen : acc.length + (prtF (f' + 1 + 1) (left - P) (2 * part + 1)).length ≤ 1099511627776 := by
              have h1 := congrArg List.length ht
              have h2 := HBD.out
              simp only [List.length_append, List.length_map] at h1
              omega
            have HT2 := Lib.hid ht
            have CO := Lib.hid (spec_own As ns cs st wr HSTR.out.reads (by omega))
            have hLr : L ≤ wr.heap.size := Nat.le_trans hLw HG.out.size
            have HINR := Lib.hid HO.out.inS
            clear ht hlt
            go_wp2_with fail
            refine CO.out.mono ?_
            rintro e w1 ⟨A1, c1, rfl, ho1, hb1⟩
            have HO1 := Lib.hid ho1
            have HB1 := Lib.hid hb1
            clear ho1 hb1
            have hn40 : n ≤ 1099511627776 := by have := HO.out.len; omega
            by_cases heq : P = left
            · subst heq
              have hend := hlast rfl
              have HT3 := Lib.hid (show acc ++ [st ++ [(r : Int)]] = acc0 ++ (prtF (f' + 1 + 1 + 1) P part).map (fun x => st ++ x) by
                have h1 := HT2.out
                rw [Nat.sub_self, prtF_zero, prtL_end g N (r + 1) hend] at h1
                simpa using h1)
              go_wp2_with (first | (at_builtin; refine app1 _ _ _ _ _ _ _ _ _ rfl rfl rfl rfl HO1.out (I64.mk (by omega) (by omega)) (by omega) HB1.out.size ?_; intro g2 c2 W3 ho3 hg3; have HO3 := Lib.hid ho3; have HB3 := Lib.hid (HB1.out.grown hg3 HB1.out.size (fun k hk => HO1.out.row_ge hk)); clear ho3 hg3) | (at_builtin; refine app1S _ _ B wr.heap.size A n c vs acc (some ⟨g2, 0, none⟩, ns + 1, c2) (st ++ [(r : Int)]) W3 rfl rfl rfl rfl (HO.out.below HB3.out) HO3.out HINR.out (Nat.le_trans hBL hLr) hn40 (Nat.le_trans (Nat.le_trans hBL hLr) HB3.out.size) ?_; intro g5 c5 W4 ho4 hg4 hat4))
              rw [HT3.out] at ho4
              have HO4 := Lib.hid ho4
              have HG4 := Lib.hid (grown_step (HG.out.trans (Below.grownBy HB3.out _)) hg4 HAT.out)
              have HA4 := Lib.hid (show (some (⟨g5, 0, none⟩ : Addr)).map (·.block) = A0.map (·.block) ∨ ∀ k, (some (⟨g5, 0, none⟩ : Addr)).map (·.block) = some k → w.heap.size ≤ k from by
                rcases hat4 with h | h
                · rcases HAT.out with h2 | h2
                  · exact .inl (h.symm.trans h2)
                  · exact .inr (fun k hk => h2 k (h.trans hk))
                · refine .inr (fun k hk => ?_)
                  have e1 : g5 = k := by simpa using hk
                  have := HG.out.size
                  have := HB3.out.size
                  omega)
              clear ho4 hg4 hat4
              go_wp2
              go_ret
              exact ⟨_, _, _, _, rfl, HO4.out, HG4.out, HA4.out⟩
            · have hne : ((P : Int) == (left : Int)) = false := by rw [beq_eq_false_iff_ne]; omega
              go_wp2_with (at_builtin; refine app1 _ _ _ _ _ _ _ _ _ rfl rfl rfl rfl HO1.out (I64.mk (by omega) (by omega)) (by omega) HB1.out.size ?_; intro g2 c2 W3 ho3 hg3; have HO3 := Lib.hid ho3; have HB3 := Lib.hid (HB1.out.grown hg3 HB1.out.size (fun k hk => HO1.out.row_ge hk)); clear ho3 hg3)
              have con := IH.out (f' + 1) (by omega) (left - P) (2 * part + 1) (some ⟨g2, 0, none⟩) (ns + 1) c2 (st ++ [(r : Int)]) A n c vs acc B wr.heap.size W3 (by omega) (by omega) (by have := HPT.out; rw [Nat.pow_succ]; omega) HO3.out (HO.out.below HB3.out) HINR.out (Nat.le_trans hBL hLr) HB3.out.size hlen
              rw [show ((left - P : Nat) : Int) = (left : Int) - (P : Int) by omega] at con
              refine con.mono ?_
              rintro e w5 ⟨A5, n5, c5, vs5, rfl, ho5, hg5, hat5⟩
              have HO5 := Lib.hid ho5
              have HST5 := Lib.hid ((HSTR.out.below HB3.out).kept_out (HO.out.below HB3.out) hg5)
              have HG5 := Lib.hid (grown_step (HG.out.trans (Below.grownBy HB3.out _)) hg5 HAT.out)
              have HAT5 := Lib.hid (show A5.map (·.block) = A0.map (·.block) ∨ ∀ k, A5.map (·.block) = some k → w.heap.size ≤ k from by
                rcases hat5 with h | h
                · rcases HAT.out with h2 | h2
                  · exact .inl (h.trans h2)
                  · exact .inr (fun k hk => h2 k (h ▸ hk))
                · exact .inr (fun k hk => Nat.le_trans (Nat.le_trans HG.out.size HB3.out.size) (h k hk)))
              clear ho5 hg5 hat5 con hlen
              go_wp2
              go_roundw
              case rel => exact ⟨r + 1, _, _, _, _, _, by omega, by go_num, rfl, HO5.out, HT2.out, HST5.out, HG5.out, HAT5.out⟩
              case measure => simp [intOf]; omega
          · have hend : N ≤ r := by
              rcases Nat.lt_or_ge r N with h | h
              · exact absurd (hlt.1 h) hgo
              · exact h
            have hgo' : (left : Int) < (P : Int) := by omega
            have ht := HT.out
            rw [prtL_end g N r hend, List.map_nil, List.append_nil] at ht
            have HO2 := Lib.hid (show OwnS wr B A n c vs (acc0 ++ (prtF (f' + 1 + 1 + 1) left part).map (fun x => st ++ x)) by rw [← ht]; exact HO.out)
            clear ht HT HO hlt
            go_wp2
            go_ret
            exact ⟨_, _, _, _, rfl, HO2.out, HG.out, HAT.out⟩

theorem spec_l01All {d : Nat} {w} (hd : d ≤ 40) :
    Calls Try.prog 72 #[.int .i64 (d : Int)] w fun e w' => ∃ A n c vs, e = .returned (.slice A n c) ∧ OwnS w' w.heap.size A n c vs (parL d) ∧ Below w.heap.size w w' := by
  have CON := Lib.hid (spec_par 6 d 1 (some ⟨w.heap.size, 0, none⟩) 0 0 [] none 0 0 [] [] w.heap.size w.heap.size (w.alloc (.cells #[] 2)) hd rfl rfl (empty_own w) (OwnS.nil _ _) ⟨fun k hk => (by cases hk), fun i hi => absurd hi (by omega)⟩ (Nat.le_refl _) (by simp) (by have := (par_facts d hd).1; show 0 + (parL d).length ≤ _; omega))
  have HB0 := Lib.hid (box_below' w (.cells #[] 2))
  go_enter Try.func72, Try.ntmps72
  go_wp2_with fail
  refine CON.out.mono ?_
  rintro e w2 ⟨A, l, c, vs, rfl, ho, hg, hat⟩
  have HO := Lib.hid (show OwnS w2 w.heap.size A l c vs (parL d) by
    have h1 := ho
    rw [show ([] : List (List Int)) ++ (prtF (6 + 1) d 1).map (fun r => [] ++ r) = parL d by simp [parL]] at h1
    exact h1)
  have HB := Lib.hid (show Below w.heap.size w w2 from (HB0.out).trans ⟨hg.os, hg.tape, hg.output, Nat.le_trans (by simp) hg.size, fun k hk => hg.block k (by simp; omega) (by simp)⟩)
  clear ho hg hat
  go_wp2
  go_ret
  exact ⟨_, _, _, _, rfl, HO.out, HB.out⟩

theorem spec_PartitionsOf {n : Int} {w : World} (hi : I64 n) : Calls Try.prog 28 #[.int .i64 n] w fun e w' => ∃ A l c vs, e = .returned (.tuple #[.slice A l c, .int .i64 (pPartitionsOf n).2]) ∧ OwnS w' w.heap.size A l c vs (pPartitionsOf n).1 ∧ Below w.heap.size w w' := by
  clear hi
  cases hd : inB n 0 40 with
  | true =>
    have hb := inB_true hd
    have HF := Lib.hid (show pPartitionsOf n = (parL n.toNat, 0) by unfold pPartitionsOf; rw [if_pos hd])
    have HD := Lib.hid hd
    obtain ⟨d, rfl⟩ := Int.eq_ofNat_of_zero_le hb.1
    have CON := Lib.hid (fun w => spec_l01All (d := d) (w := w) (by omega))
    clear hd hb
    go_enter Try.func28, Try.ntmps28
    go_wp2_with fail
    refine (l01In_any _ _ _ _).mono ?_
    rintro e w1 ⟨rfl, rfl⟩
    rw [HD.out]
    go_wp2_with fail
    refine (CON.out _).mono ?_
    rintro e w2 ⟨A, l, c, vs, rfl, ho, hb⟩
    have HO := Lib.hid ho
    have HB := Lib.hid hb
    clear ho hb
    go_wp2
    go_ret2
    exact ⟨A, l, c, vs, by rw [HF.out]; rfl, by rw [HF.out, Int.toNat_natCast]; exact HO.out, HB.out⟩
  | false =>
    have HF := Lib.hid (show pPartitionsOf n = ([], 2) by unfold pPartitionsOf; rw [hd]; rfl)
    have HD := Lib.hid hd
    clear hd
    go_enter Try.func28, Try.ntmps28
    go_wp2_with fail
    refine (l01In_any _ _ _ _).mono ?_
    rintro e w1 ⟨rfl, rfl⟩
    rw [HD.out]
    go_wp2
    go_ret2
    exact ⟨none, 0, 0, [], by rw [HF.out]; rfl, by rw [HF.out]; exact OwnS.nil _ _, Below.refl _ _⟩

end Go.Proofs.Ytpgmggkpnefaeaa
