/- impl: the end of a table. -/
import Derived.Test.YtpgmggkpnefaeaaFin
import Derived.Deep.RegionHeld3
namespace Go.Proofs.Ytpgmggkpnefaeaa
open Go.ChangeShapes Go.WideShapes Go.ChangeAt Go.RowKit
set_option linter.unusedVariables false

theorem take_all (z : List Int) (q : Nat) (h : q < z.length) : z.take (q + 1) = z.take q ++ [z.getD q 0] := by
  rw [List.take_succ_eq_append_getElem h]; simp [List.getD, h]

set_option maxRecDepth 100000 in
set_option maxHeartbeats 3200000 in
theorem impl_finish {w B0 B1 bT gR gC AS AX nS cR cS cC cX r S X A5 n5 c5 vs5 acc} (h : Tab w B0 B1 bT gR gC AS AX nS cR cS cC cX r S X A5 n5 c5 vs5 acc) (hn : nS ≤ 40) (hr : 0 ≤ r ∧ r ≤ 1000) (hS : sm S) (hX : sm X) (hXl : X.length = nS) (hacc : acc.length ≤ 8589934592) :
    Calls Try.prog 163 #[.pointer (some ⟨bT, 0, none⟩)] w fun e w' => e = .returned (.tuple #[]) ∧ ∃ A6 n6 c6 vs6, Tab w' B0 B1 bT gR gC AS AX nS cR cS cC cX r S X A6 n6 c6 vs6 (acc ++ resL r X S) ∧ Below B0 w w' := by
  have hSl := h.hS.len
  have H := Lib.hid h
  have HSM := Lib.hid (And.intro hS hX)
  have hBw : B0 ≤ w.heap.size := Nat.le_trans h.gT (Nat.le_of_lt h.box.lt)
  clear h hS hX
  have HT0 := Lib.hid (H.out.below (box_below w (.cells #[.pointer (some ⟨bT, 0, none⟩)] 118)))
  have HP0 := Lib.hid (Blk.new w #[.pointer (some ⟨bT, 0, none⟩)] 118)
  have HW0 := Lib.hid (box_below w (.cells #[.pointer (some ⟨bT, 0, none⟩)] 118))
  go_enter Try.func163, Try.ntmps163
  go_wp2_with fail
  generalize w.alloc (.cells #[.pointer (some ⟨bT, 0, none⟩)] 118) = W0 at *
  have kt := HP0.out.cell 0 (v := .pointer (some ⟨bT, 0, none⟩)) rfl
  have k0 := HT0.out.box.cell 0 (v := .slice (some ⟨gR, 0, none⟩) 1 cR) rfl
  have k1 := HT0.out.box.cell 1 (v := .slice AS nS cS) rfl
  have nt := World.new_ne W0 _ kt
  have n0 := World.new_ne W0 _ k0
  have n1 := World.new_ne W0 _ k1
  have X1 := Lib.hid (show Blk ((W0.alloc (.cells #[.int .i64 1] 3)).alloc (.cells #[.int .i64 (nS : Int)] 3)) W0.heap.size 3 #[.int .i64 1] from (Blk.new W0 _ _).alloc _)
  have X2 := Lib.hid (show Blk ((W0.alloc (.cells #[.int .i64 1] 3)).alloc (.cells #[.int .i64 (nS : Int)] 3)) (W0.heap.size + 1) 3 #[.int .i64 (nS : Int)] by have := Blk.new (W0.alloc (.cells #[.int .i64 1] 3)) #[.int .i64 (nS : Int)] 3; simpa using this)
  have X3 := Lib.hid (show Below W0.heap.size W0 ((W0.alloc (.cells #[.int .i64 1] 3)).alloc (.cells #[.int .i64 (nS : Int)] 3)) from ((Below.refl _ _).alloc (Nat.le_refl _) _).alloc (by simp) _)
  have Y1 := Lib.hid (show Blk ((W0.alloc (.cells #[.int .i64 (nS : Int)] 3)).alloc (.cells #[.int .i64 1] 3)) (W0.heap.size + 1) 3 #[.int .i64 1] by have := Blk.new (W0.alloc (.cells #[.int .i64 (nS : Int)] 3)) #[.int .i64 1] 3; simpa using this)
  have Y2 := Lib.hid (show Blk ((W0.alloc (.cells #[.int .i64 (nS : Int)] 3)).alloc (.cells #[.int .i64 1] 3)) W0.heap.size 3 #[.int .i64 (nS : Int)] from (Blk.new W0 _ _).alloc _)
  have Y3 := Lib.hid (show Below W0.heap.size W0 ((W0.alloc (.cells #[.int .i64 (nS : Int)] 3)).alloc (.cells #[.int .i64 1] 3)) from ((Below.refl _ _).alloc (Nat.le_refl _) _).alloc (by simp) _)
  refine Code.wp_mono (Q := fun e a w' => e = .normal ∧ ∃ bm bn, a = ⟨#[.pointer (some ⟨bT, 0, none⟩), .pointer (some ⟨w.heap.size, 0, none⟩), .pointer (some ⟨bm, 0, none⟩), .pointer (some ⟨bn, 0, none⟩), undef, undef, undef, undef, undef, .pointer (some ⟨bT, 0, none⟩), .pointer (some ⟨bT, 0, none⟩), .pointer (some ⟨bT, 0, none⟩), .slice (some ⟨gR, 0, none⟩) 1 cR, .int .i64 1, .pointer (some ⟨bT, 0, none⟩), .pointer (some ⟨bT, 0, none⟩), .pointer (some ⟨bT, 1, none⟩), .slice AS nS cS, .int .i64 (nS : Int), undef, undef, undef, undef, undef, undef, undef, undef, undef, undef, undef, undef, undef, undef, undef, undef, undef, undef, undef, undef, undef, undef, undef, undef, undef, undef, undef, undef, undef, undef, undef, undef, undef, undef, undef, undef, undef, undef, undef, undef, undef, undef, undef], []⟩ ∧ Blk w' bm 3 #[.int .i64 1] ∧ Blk w' bn 3 #[.int .i64 (nS : Int)] ∧ Below W0.heap.size W0 w') ?imp ?reg
  case reg =>
    go_region_held3 (fun w' => w'.cell? ⟨w.heap.size, 0, none⟩ = some (.pointer (some ⟨bT, 0, none⟩)) ∧ w'.cell? ⟨bT, 0, none⟩ = some (.slice (some ⟨gR, 0, none⟩) 1 cR) ∧ w'.cell? ⟨bT, 1, none⟩ = some (.slice AS nS cS)) (go_keep) (fail)
    all_goals (first | exact ⟨rfl, W0.heap.size, W0.heap.size + 1, rfl, X1.out, X2.out, X3.out.drew⟩ | exact ⟨rfl, W0.heap.size + 1, W0.heap.size, rfl, Y1.out, Y2.out, Y3.out.drew⟩)
  case imp =>
    rintro e a w1 ⟨rfl, bm, bn, rfl, hbm, hbn, hb⟩
    have HT1 := Lib.hid (HT0.out.below hb)
    have HP1 := Lib.hid (HP0.out.below hb)
    have HM1 := Lib.hid hbm
    have HN1 := Lib.hid hbn
    have HW1 := Lib.hid (HW0.out.trans (hb.mono HW0.out.size))
    have hB1 : B1 ≤ w1.heap.size := HT1.out.h1
    clear kt k0 k1 nt n0 n1 hbm hbn hb X1 X2 X3 Y1 Y2 Y3 HT0 HP0 HW0
    have hw1 : IntKind.i64.wrap (1 + (nS : Int)) = 1 + (nS : Int) := IntWalk.i64_in _ (by omega)
    have HE := Lib.hid (empty_own w1)
    have HBE := Lib.hid (box_below w1 (.cells #[] 2))
    have CA := Lib.hid (fun w2 (hb : Below w1.heap.size w1 w2) (i j : Nat) (hij : 1 ≤ i + j) (hi : i ≤ 2000) (hj : j ≤ 2000) => impl_at (HT1.out.below hb) (HP1.out.below hb) (HM1.out.below hb) (HN1.out.below hb) (by omega) i j hij hi hj)
    have HAS := Lib.hid (fun i j => atV_sm nS i j hr HSM.out.1 HSM.out.2)
    have HG1 := Lib.hid (fun q => sm_get (l := S ++ [0]) (fun z hz => by
      rcases List.mem_append.1 hz with h | h
      · exact HSM.out.1 z h
      · rw [List.mem_singleton.1 h]; omega) q)
    have HG2 := Lib.hid (fun q => sm_get (l := r :: X) (fun z hz => by
      rcases List.mem_cons.1 hz with h | h
      · rw [h]; exact hr
      · exact HSM.out.2 z h) q)
    have HDL := Lib.hid (diaL_len r X S (by omega))
    go_wp2
    go_loopw [5, 6] (fun v kv wr => ∃ (q : Nat) (A7 : Option Addr) (c7 : Nat), q ≤ nS + 1 ∧ kv = .int .i64 ((q : Int) + 1) ∧ v = .slice A7 q c7 ∧ OwnI wr w1.heap.size A7 q c7 ((diaL r X S).take q) ∧ (∀ p, p < q → (bits .and .i64 ((S ++ [0]).getD p 0) ((r :: X).getD p 0) == 0) = true) ∧ Below w1.heap.size w1 wr) (fun _ kv _ => nS + 3 - (intOf kv).toNat)
    case atStart => exact ⟨0, _, _, by omega, rfl, rfl, HE.out, fun p hp => absurd hp (by omega), HBE.out⟩
    case round =>
      obtain ⟨wo, rfl⟩ : ∃ wo, wo = wr := ⟨wr, rfl⟩
      obtain ⟨q, A7, c7, hq, rfl, rfl, ho, hz, hb⟩ := hrel
      clear HE HBE
      have HO := Lib.hid ho
      have HZ := Lib.hid hz
      have HB := Lib.hid hb
      clear ho hz hb
      have km := (HM1.out.below HB.out).cell 0 (v := .int .i64 1) rfl
      have kn := (HN1.out.below HB.out).cell 0 (v := .int .i64 (nS : Int)) rfl
      by_cases hqn : q < nS + 1
      · have hq' : (q : Int) + 1 ≤ 1 + (nS : Int) := by omega
        have HE := Lib.hid (empty_own wo)
        have HBE := Lib.hid (box_below wo (.cells #[] 2))
        go_wp2
        clear km kn
        go_loopw [7, 8] (fun v iv wr => ∃ (i : Nat) (A8 : Option Addr) (c8 : Nat), i ≤ q + 2 ∧ iv = .int .i64 (i : Int) ∧ v = .slice A8 i c8 ∧ OwnI wr wo.heap.size A8 i c8 (diagL r S X nS (q + 1) i) ∧ Below wo.heap.size wo wr) (fun _ iv _ => q + 3 - (intOf iv).toNat)
        case atStart => exact ⟨0, _, _, by omega, rfl, rfl, HE.out, HBE.out⟩
        case round =>
          obtain ⟨i, A8, c8, hi, rfl, rfl, ho8, hb8⟩ := hrel
          clear HE HBE
          have HO8 := Lib.hid ho8
          have HB8 := Lib.hid hb8
          have HB18 := Lib.hid (HB.out.trans (hb8.mono HB.out.size))
          clear ho8 hb8
          by_cases hik : i < q + 2
          · have hik' : (i : Int) ≤ (q : Int) + 1 := by omega
            have hsub : IntKind.i64.wrap ((q : Int) + 1 - (i : Int)) = ((q + 1 - i : Nat) : Int) := by rw [IntKind.wrap_i64]; omega
            have hav := HAS.out i (q + 1 - i)
            have HST := Lib.hid (diagL_step r S X nS (q + 1) i)
            have cc := CA.out wr HB18.out i (q + 1 - i) (by omega) (by omega) (by omega)
            rw [show ((q + 1 - i : Nat) : Int) = (q : Int) + 1 - (i : Int) by omega] at cc
            have CC := Lib.hid cc
            clear cc hsub
            generalize atV r S X nS i (q + 1 - i) = y at *
            go_wp2_with (first | (go_at_call 166; refine CC.out.mono ?_; rintro e w' ⟨rfl, rfl⟩) | (at_builtin; refine app1 _ _ _ _ _ _ _ _ _ rfl rfl rfl rfl HO8.out (I64.mk (by omega) (by omega)) (by omega) HB8.out.size ?_; intro g c' w2 ho2 hg))
            rw [← HST.out] at ho2
            have HO2 := Lib.hid ho2
            have HB2 := Lib.hid (HB8.out.grown hg HB8.out.size (fun k hk => HO8.out.row_ge hk))
            clear ho2 hg
            go_wp2
            go_roundw
            case rel => exact ⟨i + 1, _, _, by omega, by go_num, rfl, HO2.out, HB2.out⟩
            case measure => simp [intOf]; omega
          · obtain rfl : i = q + 2 := by omega
            have hik' : (q : Int) + 1 < ((q + 2 : Nat) : Int) := by omega
            have ho9 := HO8.out
            rw [diagL_full r S X nS (q + 1) hSl hXl (by omega) (by omega), Nat.add_sub_cancel] at ho9
            have HO9 := Lib.hid ho9
            have hg1 := HG1.out q
            have hg2 := HG2.out q
            have HTK := Lib.hid (diaL_take r X S (by omega) q (by omega))
            have HNO := Lib.hid (res_no r X S (by omega) q (by omega))
            have HZ2 := Lib.hid (fun (hy : (bits .and .i64 ((S ++ [0]).getD q 0) ((r :: X).getD q 0) == 0) = true) => fun p (hp : p < q + 1) => show (bits .and .i64 ((S ++ [0]).getD p 0) ((r :: X).getD p 0) == 0) = true from (by
              rcases Nat.lt_or_ge p q with h3 | h3
              · exact HZ.out p h3
              · obtain rfl : p = q := by omega
                exact hy))
            generalize (S ++ [0]).getD q 0 = x at *
            generalize (r :: X).getD q 0 = y at *
            have CAP := Lib.hid (impl_apart A8 (q + 2) c8 _ wr HO9.out.reads)
            rw [apartB_diag x y q hg1.1 hg1.2] at CAP
            clear ho9
            cases hxy : (bits .and .i64 x y == 0) with
            | false =>
              rw [hxy] at CAP
              have HF := Lib.hid (HNO.out hxy)
              have HT8 := Lib.hid (HT1.out.below HB18.out)
              clear hxy
              go_wp2_with fail
              refine CAP.out.mono ?_
              rintro e w' ⟨rfl, rfl⟩
              go_wp2
              refine bodyPost_ret (v := .tuple #[]) (by simp [results, Try.results163, go_sem]) rfl ?_
              exact ⟨rfl, _, _, _, _, by rw [HF.out, List.append_nil]; exact HT8.out, (HW1.out.trans (HB18.out.mono HW1.out.size)).mono hBw⟩
            | true =>
              rw [hxy] at CAP
              have HZ3 := Lib.hid (HZ2.out hxy)
              clear hxy
              have CSU := Lib.hid (impl_sum A8 (q + 2) c8 _ wr HO9.out.reads)
              rw [sumW_diag x y q hg1.1 hg1.2 hg2.1 hg2.2] at CSU
              have HO7 := Lib.hid (HO.out.below HB8.out)
              go_wp2_with fail
              refine CAP.out.mono ?_
              rintro e w' ⟨rfl, rfl⟩
              go_wp2_with (first | (go_at_call 93; refine CSU.out.mono ?_; rintro e w' ⟨rfl, rfl⟩) | (at_builtin; refine app1 _ _ _ _ _ _ _ _ _ rfl rfl rfl rfl HO7.out (I64.mk (by omega) (by omega)) (by omega) HB18.out.size ?_; intro g c' w2 ho2 hg))
              rw [← HTK.out] at ho2
              have HO2 := Lib.hid ho2
              have HB2 := Lib.hid (HB18.out.grown hg HB18.out.size (fun k hk => HO7.out.row_ge hk))
              clear ho2 hg
              go_wp2
              go_roundw
              case rel => exact ⟨q + 1, _, _, by omega, by go_num, rfl, HO2.out, HZ3.out, HB2.out⟩
              case measure => simp [intOf]; omega
      · obtain rfl : q = nS + 1 := by omega
        have hq' : 1 + (nS : Int) < ((nS + 1 : Nat) : Int) + 1 := by omega
        have ho := HO.out
        rw [List.take_of_length_le (by have := HDL.out; omega)] at ho
        have HO2 := Lib.hid ho
        have HR := Lib.hid (res_yes r X S (by omega) (fun p hp => HZ.out p (by omega)))
        have HTL := Lib.hid (show (diaL r X S).length = nS + 1 by have := HDL.out; omega)
        generalize diaL r X S = L at *
        clear ho
        have HTo := Lib.hid (HT1.out.below HB.out)
        have HPo := Lib.hid (HP1.out.below HB.out)
        have HIN := Lib.hid HT1.out.hO.inS
        have HWo := Lib.hid (show Below B0 w wo from (HW1.out.trans (HB.out.mono HW1.out.size)).mono hBw)
        have hn5 : n5 ≤ 1099511627776 := by have := HT1.out.hO.len; omega
        have hBT : B0 ≤ bT := HT1.out.gT
        have hBB : B0 ≤ B1 := by have := HT1.out.lT; omega
        have hW1o := HB.out.size
        have CTR := Lib.hid (fun w2 (hb : Below wo.heap.size wo w2) => (trimmed_any A7 (nS + 1) c7 L w2 (HO2.out.reads.below hb) HO2.out.cap_ge.1 HO2.out.cap_ge.2).mono (fun e w' h => (show e = .returned (.slice A7 (tlen L L.length) c7) ∧ Below wo.heap.size wo w' from ⟨h.1, h.2 ▸ hb⟩)))
        have kt := HPo.out.cell 0 (v := .pointer (some ⟨bT, 0, none⟩)) rfl
        have k3 := HTo.out.box.cell 3 (v := .slice A5 n5 c5) rfl
        have f3 := HTo.out.box.free 3
        clear HB HT1 HW1
        go_wp2_with fail
        go_region_law ((first | (refine step_app1D _ _ B1 A5 n5 c5 vs5 acc (A7, tlen L L.length, c7) (trimL L) _ w4.heap.size (by rfl) (by rfl) (by rfl) (by rfl) (HT4.out.hO.alloc _).drew (HO4.out.alloc _).drew (cell_new _ _ _) HDIS.out hn5 (size_new_le _ _ HT4.out.h1) ?_; intro g c9 w9 ho9 hg9 hat9; have HO9 := Lib.hid ho9; have HG9 := Lib.hid (show w4.grownBy w9 (A5.map (·.block)) from World.grownBy.trans (World.grownBy_alloc w4 _ _) ⟨hg9.os, hg9.tape, hg9.output, hg9.size, hg9.block⟩); have HP9 := Lib.hid (HP4.out.grown HG9.out (blk_apartS HP4.out HT4.out.hO (by decide))); have HX9 := Lib.hid (HT4.out.boxGrown HG9.out); have kt := HP9.out.cell 0 (v := .pointer (some ⟨bT, 0, none⟩)) rfl; have f3 := HX9.out.free 3; have k3 := HX9.out.cell 3 (v := .slice A5 n5 c5) rfl; clear ho9 hg9 hat9) | (go_simp; go_at_call 101; refine (CTR.out _ (by exact ⟨rfl, rfl, rfl, Nat.le_refl _, fun _ _ => rfl⟩)).mono ?_; rintro e w4 ⟨rfl, hb4⟩; have HW4 := Lib.hid (show Below wo.heap.size wo w4 from ⟨hb4.os, hb4.tape, hb4.output, hb4.size, hb4.block⟩); have HT4 := Lib.hid (HTo.out.below HW4.out); have HP4 := Lib.hid (HPo.out.below HW4.out); have HO4 := Lib.hid (show OwnI w4 B1 A7 (tlen L L.length) c7 (trimL L) from ((HO2.out.below HW4.out).take (show tlen L L.length ≤ nS + 1 from Nat.le_trans (tlen_le L L.length) (Nat.le_of_eq HTL.out))).mono hB1); have HDIS := Lib.hid (show ∀ i, i < n5 → ∀ k, (vs5.getD i nilS).1.map (·.block) = some k → A7.map (·.block) ≠ some k from fun i hi k hk hk2 => by have h1 := HIN.out.2 i hi k hk; have h2 := HO2.out.row_ge hk2; omega); have kt := HP4.out.cell 0 (v := .pointer (some ⟨bT, 0, none⟩)) rfl; have k3 := HT4.out.box.cell 3 (v := .slice A5 n5 c5) rfl; have f3 := HT4.out.box.free 3; have hbl := HT4.out.box.lt; have hpl := HP4.out.lt; clear hb4; dsimp only)))
        all_goals (
          have HT9 := Lib.hid (HT4.out.more HG9.out HO9.out)
          have HB9 := Lib.hid (((HWo.out.trans (HW4.out.mono (Nat.le_trans hBw HWo.out.size))).grown HG9.out (Nat.le_trans (Nat.le_trans hBw HWo.out.size) HW4.out.size) (fun k hk => Nat.le_trans hBB (HT4.out.hO.out_ge hk))).setCell (p := ⟨bT, 3, none⟩) hBT (.slice (some ⟨g, 0, none⟩) (n5 + 1) c9))
          clear kt k3 f3
          go_wp2
          refine bodyPost_end (v := .tuple #[]) (by simp [results, Try.results163, go_sem]) rfl ?_
          exact ⟨rfl, ⟨_, _, _, _, by rw [HR.out]; exact HT9.out⟩, HB9.out⟩)

end Go.Proofs.Ytpgmggkpnefaeaa
