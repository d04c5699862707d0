/- MilnorBasis and DualBasis on both sides. (gen_mbas.py) -/
import Derived.Test.YtpgmggkpnefaeaaKitT
import Derived.Test.YtpgmggkpnefaeaaParP
import Derived.Test.YtpgmggkpnefaeaaCooS
namespace Go.Proofs.Ytpgmggkpnefaeaa
open Go.ChangeShapes Go.WideShapes Go.ChangeAt Go.RowKit
set_option linter.unusedVariables false

theorem take_snocV (vs : List Sl) (i : Nat) (h : i < vs.length) : vs.take (i + 1) = vs.take i ++ [vs.getD i nilS] := by
  rw [List.take_succ_eq_append_getElem h]; simp [List.getD, h]

def pMilnorBasis (n : Int) : List (List Int) × Int := pPartitionsOf n

theorem pMilnorBasis_sz (n : Int) : tot (pMilnorBasis n).1 ≤ 4000000000 := pPartitionsOf_sz n

set_option maxHeartbeats 800000 in
theorem impl_MilnorBasis {n : Int} {w : World} (hi : I64 n) : Calls Try.prog 36 #[.int .i64 n] w fun e w' => ∃ A l c gv, e = .returned (.tuple #[.slice A l c, .int .i64 (pMilnorBasis n).2]) ∧ OwnT 31 w' w.heap.size A l c gv (pMilnorBasis n).1 ∧ Below w.heap.size w w' := by
  clear hi
  cases hd : inB n 0 40 with
  | true =>
    have hb := inB_true hd
    have HD := Lib.hid hd
    obtain ⟨d, rfl⟩ := Int.eq_ofNat_of_zero_le hb.1
    have HF := Lib.hid (show pMilnorBasis (d : Int) = (parL d, 0) by unfold pMilnorBasis pPartitionsOf; rw [if_pos hd, Int.toNat_natCast])
    have CON := Lib.hid (fun w => impl_partitions (d := d) (w := w) (by omega))
    have HPF := Lib.hid (par_facts d (by omega)).1
    clear hd hb
    go_enter Try.func36, Try.ntmps36
    go_wp2_with fail
    refine (isDegree_any _ _).mono ?_
    rintro e w1 ⟨rfl, rfl⟩
    rw [HD.out]
    have HE := Lib.hid (PreT.empty 31 w)
    have HB1 := Lib.hid ((Below.refl w.heap.size w).alloc (Nat.le_refl _) (.cells #[] 31))
    go_wp2_with fail
    refine (CON.out _).mono ?_
    rintro e w2 ⟨PA, N, pc, vs, rfl, ho0, hb0⟩
    have HO := Lib.hid (ho0.mono HB1.out.size)
    have HB := Lib.hid (HB1.out.trans (hb0.mono HB1.out.size))
    have HPE := Lib.hid (HE.out.below hb0)
    clear ho0 hb0 HE HB1
    have HN := Lib.hid HO.out.vlen
    have HNS := Lib.hid (show N ≤ 1099511627776 by have h1 := HPF.out; have h2 := HO.out.len; omega)
    have hNS := HO.out.reads.small
    go_wp2
    go_loopw [4, 14] (fun v iv wr => ∃ (i : Nat) (A5 : Option Addr) (c5 : Nat) (gv : List Gv), i ≤ N ∧ iv = .int .i64 (i : Int) ∧ v = .slice A5 i c5 ∧ PreT 31 wr w.heap.size A5 i c5 gv ∧ gv.map (·.2) = vs.take i ∧ OwnS wr w.heap.size PA N pc vs (parL d) ∧ Below w.heap.size w wr) (fun _ iv _ => N - (intOf iv).toNat)
    case atStart => exact ⟨0, _, _, [], by omega, rfl, rfl, HPE.out, rfl, HO.out, HB.out⟩
    case round =>
      obtain ⟨i, A5, c5, gv, hi, rfl, rfl, hp, hgv, ho, hb⟩ := hrel
      clear HPE HO HB
      have HP := Lib.hid hp
      have HGV := Lib.hid hgv
      have HO := Lib.hid ho
      have HB := Lib.hid hb
      clear hp hgv ho hb
      by_cases hlt : i < N
      · have hlt' : (i : Int) < (N : Int) := by omega
        obtain ⟨b, off, rfl, _, hc⟩ := HO.out.reads.at_ hlt
        have HTK := Lib.hid (take_snocV vs i (by have := HN.out; omega))
        generalize vs.getD i nilS = v at *
        obtain ⟨vA, vn, vc⟩ := v
        simp only [sv] at hc
        go_wp2_with (at_builtin; go_loud (refine app1T 31 46 info_Milnor Try.underlying46 (by decide) (by decide) _ _ w.heap.size A5 i c5 gv (vA, vn, vc) wr rfl rfl rfl (by first | rfl | (simp; rfl) | simp) HP.out (Nat.le_trans hi HNS.out) HB.out.size ?_); intro g5 c5' W4 hp4 hg4 hk4)
        have HP4 := Lib.hid hp4
        have HO4 := Lib.hid (hk4 _ _ _ _ _ _ HO.out)
        have HB4 := Lib.hid (HB.out.grown hg4 HB.out.size (fun k hk => (HP.out.own.lt k ((own_block A5 i c5).trans hk)).1))
        clear hp4 hg4 hk4
        go_wp2
        go_roundw
        case rel => exact ⟨i + 1, _, _, _, by omega, by go_num, rfl, HP4.out, by rw [List.map_append, HGV.out, HTK.out]; rfl, HO4.out, HB4.out⟩
        case measure => simp [intOf]; omega
      · obtain rfl : i = N := by omega
        have HT := Lib.hid (OwnT.of_pre HP.out HO.out (by rw [HGV.out, ← HN.out]; exact List.take_length))
        go_wp2
        go_ret2
        exact ⟨_, _, _, _, by rw [HF.out]; rfl, by rw [HF.out]; exact HT.out, HB.out⟩
  | false =>
    have HF := Lib.hid (show pMilnorBasis n = ([], 2) by unfold pMilnorBasis pPartitionsOf; rw [hd]; rfl)
    have HD := Lib.hid hd
    clear hd
    go_enter Try.func36, Try.ntmps36
    go_wp2_with fail
    refine (isDegree_any _ _).mono ?_
    rintro e w1 ⟨rfl, rfl⟩
    rw [HD.out]
    go_wp2
    go_ret2
    exact ⟨none, 0, 0, [], by rw [HF.out]; rfl, by rw [HF.out]; exact OwnT.nil _ _ _, Below.refl _ _⟩

set_option maxHeartbeats 800000 in
theorem spec_MilnorBasis {n : Int} {w : World} (hi : I64 n) : Calls Try.prog 35 #[.int .i64 n] w fun e w' => ∃ A l c gv, e = .returned (.tuple #[.slice A l c, .int .i64 (pMilnorBasis n).2]) ∧ OwnT 31 w' w.heap.size A l c gv (pMilnorBasis n).1 ∧ Below w.heap.size w w' := by
  clear hi
  cases hd : inB n 0 40 with
  | true =>
    have hb := inB_true hd
    have HD := Lib.hid hd
    obtain ⟨d, rfl⟩ := Int.eq_ofNat_of_zero_le hb.1
    have HF := Lib.hid (show pMilnorBasis (d : Int) = (parL d, 0) by unfold pMilnorBasis pPartitionsOf; rw [if_pos hd, Int.toNat_natCast])
    have CON := Lib.hid (fun w => spec_l04Basis (d := d) (w := w) (by omega))
    have HPF := Lib.hid (par_facts d (by omega)).1
    clear hd hb
    go_enter Try.func35, Try.ntmps35
    go_wp2_with fail
    refine (l01In_any _ _ _ _).mono ?_
    rintro e w1 ⟨rfl, rfl⟩
    rw [HD.out]
    go_wp2_with fail
    refine (CON.out _).mono ?_
    rintro e w2 ⟨PA, N, pc, vs, rfl, ho0, hb0⟩
    have HPE := Lib.hid ((PreT.empty 31 w2).mono hb0.size)
    have HO := Lib.hid (ho0.alloc (.cells #[] 31))
    have HB := Lib.hid (hb0.alloc hb0.size (.cells #[] 31))
    clear ho0 hb0
    have HN := Lib.hid HO.out.vlen
    have HNS := Lib.hid (show N ≤ 1099511627776 by have h1 := HPF.out; have h2 := HO.out.len; omega)
    have hNS := HO.out.reads.small
    go_wp2
    go_loopw [5, 6] (fun v iv wr => ∃ (i : Nat) (A5 : Option Addr) (c5 : Nat) (gv : List Gv), i ≤ N ∧ iv = .int .i64 (i : Int) ∧ v = .slice A5 i c5 ∧ PreT 31 wr w.heap.size A5 i c5 gv ∧ gv.map (·.2) = vs.take i ∧ OwnS wr w.heap.size PA N pc vs (parL d) ∧ Below w.heap.size w wr) (fun _ iv _ => N - (intOf iv).toNat)
    case atStart => exact ⟨0, _, _, [], by omega, rfl, rfl, HPE.out, rfl, HO.out, HB.out⟩
    case round =>
      obtain ⟨i, A5, c5, gv, hi, rfl, rfl, hp, hgv, ho, hb⟩ := hrel
      clear HPE HO HB
      have HP := Lib.hid hp
      have HGV := Lib.hid hgv
      have HO := Lib.hid ho
      have HB := Lib.hid hb
      clear hp hgv ho hb
      by_cases hlt : i < N
      · have hlt' : (i : Int) < (N : Int) := by omega
        obtain ⟨b, off, rfl, _, hc⟩ := HO.out.reads.at_ hlt
        have HTK := Lib.hid (take_snocV vs i (by have := HN.out; omega))
        generalize vs.getD i nilS = v at *
        obtain ⟨vA, vn, vc⟩ := v
        simp only [sv] at hc
        go_wp2_with (at_builtin; go_loud (refine app1T 31 46 info_Milnor Try.underlying46 (by decide) (by decide) _ _ w.heap.size A5 i c5 gv (vA, vn, vc) wr rfl rfl rfl (by first | rfl | (simp; rfl) | simp) HP.out (Nat.le_trans hi HNS.out) HB.out.size ?_); intro g5 c5' W4 hp4 hg4 hk4)
        have HP4 := Lib.hid hp4
        have HO4 := Lib.hid (hk4 _ _ _ _ _ _ HO.out)
        have HB4 := Lib.hid (HB.out.grown hg4 HB.out.size (fun k hk => (HP.out.own.lt k ((own_block A5 i c5).trans hk)).1))
        clear hp4 hg4 hk4
        go_wp2
        go_roundw
        case rel => exact ⟨i + 1, _, _, _, by omega, by go_num, rfl, HP4.out, by rw [List.map_append, HGV.out, HTK.out]; rfl, HO4.out, HB4.out⟩
        case measure => simp [intOf]; omega
      · obtain rfl : i = N := by omega
        have HT := Lib.hid (OwnT.of_pre HP.out HO.out (by rw [HGV.out, ← HN.out]; exact List.take_length))
        go_wp2
        go_ret2
        exact ⟨_, _, _, _, by rw [HF.out]; rfl, by rw [HF.out]; exact HT.out, HB.out⟩
  | false =>
    have HF := Lib.hid (show pMilnorBasis n = ([], 2) by unfold pMilnorBasis pPartitionsOf; rw [hd]; rfl)
    have HD := Lib.hid hd
    clear hd
    go_enter Try.func35, Try.ntmps35
    go_wp2_with fail
    refine (l01In_any _ _ _ _).mono ?_
    rintro e w1 ⟨rfl, rfl⟩
    rw [HD.out]
    go_wp2
    go_ret2
    exact ⟨none, 0, 0, [], by rw [HF.out]; rfl, by rw [HF.out]; exact OwnT.nil _ _ _, Below.refl _ _⟩

def pDualBasis (n : Int) : List (List Int) × Int := pPartitionsOf n

theorem pDualBasis_sz (n : Int) : tot (pDualBasis n).1 ≤ 4000000000 := pPartitionsOf_sz n

set_option maxHeartbeats 800000 in
theorem impl_DualBasis {n : Int} {w : World} (hi : I64 n) : Calls Try.prog 31 #[.int .i64 n] w fun e w' => ∃ A l c gv, e = .returned (.tuple #[.slice A l c, .int .i64 (pDualBasis n).2]) ∧ OwnT 74 w' w.heap.size A l c gv (pDualBasis n).1 ∧ Below w.heap.size w w' := by
  clear hi
  cases hd : inB n 0 40 with
  | true =>
    have hb := inB_true hd
    have HD := Lib.hid hd
    obtain ⟨d, rfl⟩ := Int.eq_ofNat_of_zero_le hb.1
    have HF := Lib.hid (show pDualBasis (d : Int) = (parL d, 0) by unfold pDualBasis pPartitionsOf; rw [if_pos hd, Int.toNat_natCast])
    have CON := Lib.hid (fun w => impl_partitions (d := d) (w := w) (by omega))
    have HPF := Lib.hid (par_facts d (by omega)).1
    clear hd hb
    go_enter Try.func31, Try.ntmps31
    go_wp2_with fail
    refine (isDegree_any _ _).mono ?_
    rintro e w1 ⟨rfl, rfl⟩
    rw [HD.out]
    have HE := Lib.hid (PreT.empty 74 w)
    have HB1 := Lib.hid ((Below.refl w.heap.size w).alloc (Nat.le_refl _) (.cells #[] 74))
    go_wp2_with fail
    refine (CON.out _).mono ?_
    rintro e w2 ⟨PA, N, pc, vs, rfl, ho0, hb0⟩
    have HO := Lib.hid (ho0.mono HB1.out.size)
    have HB := Lib.hid (HB1.out.trans (hb0.mono HB1.out.size))
    have HPE := Lib.hid (HE.out.below hb0)
    clear ho0 hb0 HE HB1
    have HN := Lib.hid HO.out.vlen
    have HNS := Lib.hid (show N ≤ 1099511627776 by have h1 := HPF.out; have h2 := HO.out.len; omega)
    have hNS := HO.out.reads.small
    go_wp2
    go_loopw [4, 14] (fun v iv wr => ∃ (i : Nat) (A5 : Option Addr) (c5 : Nat) (gv : List Gv), i ≤ N ∧ iv = .int .i64 (i : Int) ∧ v = .slice A5 i c5 ∧ PreT 74 wr w.heap.size A5 i c5 gv ∧ gv.map (·.2) = vs.take i ∧ OwnS wr w.heap.size PA N pc vs (parL d) ∧ Below w.heap.size w wr) (fun _ iv _ => N - (intOf iv).toNat)
    case atStart => exact ⟨0, _, _, [], by omega, rfl, rfl, HPE.out, rfl, HO.out, HB.out⟩
    case round =>
      obtain ⟨i, A5, c5, gv, hi, rfl, rfl, hp, hgv, ho, hb⟩ := hrel
      clear HPE HO HB
      have HP := Lib.hid hp
      have HGV := Lib.hid hgv
      have HO := Lib.hid ho
      have HB := Lib.hid hb
      clear hp hgv ho hb
      by_cases hlt : i < N
      · have hlt' : (i : Int) < (N : Int) := by omega
        obtain ⟨b, off, rfl, _, hc⟩ := HO.out.reads.at_ hlt
        have HTK := Lib.hid (take_snocV vs i (by have := HN.out; omega))
        generalize vs.getD i nilS = v at *
        obtain ⟨vA, vn, vc⟩ := v
        simp only [sv] at hc
        go_wp2_with (at_builtin; go_loud (refine app1T 74 41 info_Dual Try.underlying41 (by decide) (by decide) _ _ w.heap.size A5 i c5 gv (vA, vn, vc) wr rfl rfl rfl (by first | rfl | (simp; rfl) | simp) HP.out (Nat.le_trans hi HNS.out) HB.out.size ?_); intro g5 c5' W4 hp4 hg4 hk4)
        have HP4 := Lib.hid hp4
        have HO4 := Lib.hid (hk4 _ _ _ _ _ _ HO.out)
        have HB4 := Lib.hid (HB.out.grown hg4 HB.out.size (fun k hk => (HP.out.own.lt k ((own_block A5 i c5).trans hk)).1))
        clear hp4 hg4 hk4
        go_wp2
        go_roundw
        case rel => exact ⟨i + 1, _, _, _, by omega, by go_num, rfl, HP4.out, by rw [List.map_append, HGV.out, HTK.out]; rfl, HO4.out, HB4.out⟩
        case measure => simp [intOf]; omega
      · obtain rfl : i = N := by omega
        have HT := Lib.hid (OwnT.of_pre HP.out HO.out (by rw [HGV.out, ← HN.out]; exact List.take_length))
        go_wp2
        go_ret2
        exact ⟨_, _, _, _, by rw [HF.out]; rfl, by rw [HF.out]; exact HT.out, HB.out⟩
  | false =>
    have HF := Lib.hid (show pDualBasis n = ([], 2) by unfold pDualBasis pPartitionsOf; rw [hd]; rfl)
    have HD := Lib.hid hd
    clear hd
    go_enter Try.func31, Try.ntmps31
    go_wp2_with fail
    refine (isDegree_any _ _).mono ?_
    rintro e w1 ⟨rfl, rfl⟩
    rw [HD.out]
    go_wp2
    go_ret2
    exact ⟨none, 0, 0, [], by rw [HF.out]; rfl, by rw [HF.out]; exact OwnT.nil _ _ _, Below.refl _ _⟩

set_option maxHeartbeats 800000 in
theorem spec_DualBasis {n : Int} {w : World} (hi : I64 n) : Calls Try.prog 30 #[.int .i64 n] w fun e w' => ∃ A l c gv, e = .returned (.tuple #[.slice A l c, .int .i64 (pDualBasis n).2]) ∧ OwnT 74 w' w.heap.size A l c gv (pDualBasis n).1 ∧ Below w.heap.size w w' := by
  clear hi
  cases hd : inB n 0 40 with
  | true =>
    have hb := inB_true hd
    have HD := Lib.hid hd
    obtain ⟨d, rfl⟩ := Int.eq_ofNat_of_zero_le hb.1
    have HF := Lib.hid (show pDualBasis (d : Int) = (parL d, 0) by unfold pDualBasis pPartitionsOf; rw [if_pos hd, Int.toNat_natCast])
    have CON := Lib.hid (fun w => spec_l01All (d := d) (w := w) (by omega))
    have HPF := Lib.hid (par_facts d (by omega)).1
    clear hd hb
    go_enter Try.func30, Try.ntmps30
    go_wp2_with fail
    refine (l01In_any _ _ _ _).mono ?_
    rintro e w1 ⟨rfl, rfl⟩
    rw [HD.out]
    go_wp2_with fail
    refine (CON.out _).mono ?_
    rintro e w2 ⟨PA, N, pc, vs, rfl, ho0, hb0⟩
    have HPE := Lib.hid ((PreT.empty 74 w2).mono hb0.size)
    have HO := Lib.hid (ho0.alloc (.cells #[] 74))
    have HB := Lib.hid (hb0.alloc hb0.size (.cells #[] 74))
    clear ho0 hb0
    have HN := Lib.hid HO.out.vlen
    have HNS := Lib.hid (show N ≤ 1099511627776 by have h1 := HPF.out; have h2 := HO.out.len; omega)
    have hNS := HO.out.reads.small
    go_wp2
    go_loopw [5, 6] (fun v iv wr => ∃ (i : Nat) (A5 : Option Addr) (c5 : Nat) (gv : List Gv), i ≤ N ∧ iv = .int .i64 (i : Int) ∧ v = .slice A5 i c5 ∧ PreT 74 wr w.heap.size A5 i c5 gv ∧ gv.map (·.2) = vs.take i ∧ OwnS wr w.heap.size PA N pc vs (parL d) ∧ Below w.heap.size w wr) (fun _ iv _ => N - (intOf iv).toNat)
    case atStart => exact ⟨0, _, _, [], by omega, rfl, rfl, HPE.out, rfl, HO.out, HB.out⟩
    case round =>
      obtain ⟨i, A5, c5, gv, hi, rfl, rfl, hp, hgv, ho, hb⟩ := hrel
      clear HPE HO HB
      have HP := Lib.hid hp
      have HGV := Lib.hid hgv
      have HO := Lib.hid ho
      have HB := Lib.hid hb
      clear hp hgv ho hb
      by_cases hlt : i < N
      · have hlt' : (i : Int) < (N : Int) := by omega
        obtain ⟨b, off, rfl, _, hc⟩ := HO.out.reads.at_ hlt
        have HTK := Lib.hid (take_snocV vs i (by have := HN.out; omega))
        generalize vs.getD i nilS = v at *
        obtain ⟨vA, vn, vc⟩ := v
        simp only [sv] at hc
        go_wp2_with (at_builtin; go_loud (refine app1T 74 41 info_Dual Try.underlying41 (by decide) (by decide) _ _ w.heap.size A5 i c5 gv (vA, vn, vc) wr rfl rfl rfl (by first | rfl | (simp; rfl) | simp) HP.out (Nat.le_trans hi HNS.out) HB.out.size ?_); intro g5 c5' W4 hp4 hg4 hk4)
        have HP4 := Lib.hid hp4
        have HO4 := Lib.hid (hk4 _ _ _ _ _ _ HO.out)
        have HB4 := Lib.hid (HB.out.grown hg4 HB.out.size (fun k hk => (HP.out.own.lt k ((own_block A5 i c5).trans hk)).1))
        clear hp4 hg4 hk4
        go_wp2
        go_roundw
        case rel => exact ⟨i + 1, _, _, _, by omega, by go_num, rfl, HP4.out, by rw [List.map_append, HGV.out, HTK.out]; rfl, HO4.out, HB4.out⟩
        case measure => simp [intOf]; omega
      · obtain rfl : i = N := by omega
        have HT := Lib.hid (OwnT.of_pre HP.out HO.out (by rw [HGV.out, ← HN.out]; exact List.take_length))
        go_wp2
        go_ret2
        exact ⟨_, _, _, _, by rw [HF.out]; rfl, by rw [HF.out]; exact HT.out, HB.out⟩
  | false =>
    have HF := Lib.hid (show pDualBasis n = ([], 2) by unfold pDualBasis pPartitionsOf; rw [hd]; rfl)
    have HD := Lib.hid hd
    clear hd
    go_enter Try.func30, Try.ntmps30
    go_wp2_with fail
    refine (l01In_any _ _ _ _).mono ?_
    rintro e w1 ⟨rfl, rfl⟩
    rw [HD.out]
    go_wp2
    go_ret2
    exact ⟨none, 0, 0, [], by rw [HF.out]; rfl, by rw [HF.out]; exact OwnT.nil _ _ _, Below.refl _ _⟩

end Go.Proofs.Ytpgmggkpnefaeaa
