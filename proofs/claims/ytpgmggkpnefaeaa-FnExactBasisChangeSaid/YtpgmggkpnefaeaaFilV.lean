/- spec: the product of two of Milnor's basis elements; one square times a sum. -/
import Derived.Test.YtpgmggkpnefaeaaFilU
import Derived.Deep.RegionLaw
namespace Go.Proofs.Ytpgmggkpnefaeaa
open Go.ChangeShapes Go.WideShapes Go.ChangeAt Go.RowKit Go.Proofs
set_option linter.unusedVariables false

set_option maxRecDepth 100000 in
set_option maxHeartbeats 3200000 in
theorem spec_product {A c A2 nS c2 r S w} (h : RI w A 1 [r]) (g : RI w A2 nS S) (hn : nS ≤ 5) (hr : 0 ≤ r ∧ r ≤ 1000) (hs : sm S) (hacc : (prodP r S).length ≤ 8589934592) :
    Calls Try.prog 128 #[.slice A 1 c, .slice A2 nS c2] w (FilsPost w w.heap.size (norm (prodP r S))) := by
  have HL := Lib.hid g.len
  have HSM := Lib.hid hs
  have HACC := Lib.hid hacc
  have H := Lib.hid h
  have G := Lib.hid g
  have HZ := Lib.hid (lit1_own w 0 (I64.mk (by omega) (by omega)))
  have HZB := Lib.hid (box_below2 w (.cells #[.int .i64 0] 2))
  obtain ⟨p1, o1, rfl, hlt1, hc1⟩ := h.at_ (i := 0) (by omega)
  simp only [List.getD, List.getElem?_cons_zero, Option.getD_some, Nat.add_zero] at hc1
  have HC1 := Lib.hid (fun w2 (hb : Below w.heap.size w w2) => (hb.cell (p := ⟨p1, o1, none⟩) hlt1).trans hc1)
  obtain ⟨i0, hi, hz0, hz1, hz2⟩ := info_parts Try.infoI
  have HMK := Lib.hid (fun W : World => show (Instr.makeSlice 51 (.int .i64 ((nS : Int) + 1)) (.int .i64 ((nS : Int) + 1))).run Try.prog W = .ok (.slice (some ⟨W.heap.size, 0, none⟩) (nS + 1) (nS + 1)) (W.alloc (.cells (madeCells (Value.int .i64 0).cells (nS + 1)) 2)) by
    have hmk := run_make (P := Try.prog) W 51 2 i0 (.int .i64 0) Try.underlying51 hi hz0 .i64 .i64 ((nS : Int) + 1) ((nS : Int) + 1) (by omega) (by omega) (by rw [hz2]; omega) (by omega)
    rw [hz1] at hmk
    rw [show ((nS : Int) + 1).toNat * 1 = nS + 1 by omega, show ((nS : Int) + 1).toNat = nS + 1 by omega] at hmk
    exact hmk)
  clear h g hs hacc hi hz0 hz1 hz2 hc1 hlt1
  go_enter Try.func128, Try.ntmps128
  go_wp2_with (at_builtin; refine appR _ _ w.heap.size (some ⟨w.heap.size, 0, none⟩) 1 1 [0] _ nS _ S _ rfl rfl rfl rfl HZ.out (G.out.below HZB.out) (by omega) (by simp) ?_; intro A4 c4 W3 ho4 hg4)
  have HO4 := Lib.hid (show OwnI W3 w.heap.size A4 (1 + nS) c4 (0 :: S) from ho4)
  have HB3 := Lib.hid (HZB.out.grown hg4 (by simp) (fun k hk => HZ.out.row_ge hk))
  have HT4 := Lib.hid (show OwnS (W3.alloc (.cells #[.slice A4 (1 + nS) c4] 51)) w.heap.size (some ⟨W3.heap.size, 0, none⟩) 1 1 [(A4, 1 + nS, c4)] [0 :: S] from lit1S_own W3 w.heap.size (A4, 1 + nS, c4) (0 :: S) HO4.out HB3.out.size)
  have HB4 := Lib.hid (HB3.out.trans ((box_below2 W3 (.cells #[.slice A4 (1 + nS) c4] 51)).mono HB3.out.size))
  have HSZ := Lib.hid (show W3.heap.size < (W3.alloc (.cells #[.slice A4 (1 + nS) c4] 51)).heap.size by simp)
  have HLT4 := Lib.hid (show ∀ k, A4.map (·.block) = some k → k < W3.heap.size from fun k hk => HO4.out.row_lt hk)
  clear ho4 hg4 HZ HZB
  go_wp2_with fail
  generalize W3.alloc (.cells #[.slice A4 (1 + nS) c4] 51) = W4 at *
  generalize W3.heap.size = b3 at *
  go_loopw [5, 6] (fun v iv wr => (iv = .int .i64 0 ∧ v = .slice (some ⟨b3, 0, none⟩) 1 1 ∧ wr = W4) ∨ (iv = .int .i64 1 ∧ ∃ G c6 u0 u1, v = .slice G 2 c6 ∧ OwnS wr w.heap.size G 2 c6 [u0, u1] [0 :: S, r :: List.replicate nS 0] ∧ Below w.heap.size w wr)) (fun _ iv _ => 2 - (intOf iv).toNat)
  case atStart => exact .inl ⟨rfl, rfl, rfl⟩
  case round =>
    rcases hrel with ⟨rfl, rfl, hw⟩ | ⟨rfl, G6, c6, u0, u1, rfl, ho6, hb6⟩
    · subst hw
      have hmk := HMK.out
      go_upto_region 6 with fail
      clear hmk
      have HI := Lib.hid (show OwnI (wr.alloc (.cells (madeCells #[Value.int .i64 0] (nS + 1)) 2)) wr.heap.size (some ⟨wr.heap.size, 0, none⟩) (nS + 1) (nS + 1) (List.replicate (nS + 1) 0) from made_own wr (nS + 1) (by omega))
      have HB5 := Lib.hid (box_below2 wr (.cells (madeCells #[Value.int .i64 0] (nS + 1)) 2))
      have hlt5 : wr.heap.size < (wr.alloc (.cells (madeCells #[Value.int .i64 0] (nS + 1)) 2)).heap.size := by simp
      generalize wr.alloc (.cells (madeCells #[Value.int .i64 0] (nS + 1)) 2) = W5 at *
      have hc := HI.out.cell (i := 0) (by omega)
      have hf := HI.out.frozen 0
      have c1 := HC1.out W5 (HB4.out.trans (HB5.out.mono HB4.out.size))
      have HI2 := Lib.hid (show OwnI (W5.setCell ⟨wr.heap.size, 0, none⟩ (.int .i64 r)) wr.heap.size (some ⟨wr.heap.size, 0, none⟩) (nS + 1) (nS + 1) (r :: List.replicate nS 0) from HI.out.set 0 (x := r) (I64.mk (by omega) (by omega)))
      have HB6 := Lib.hid (HB5.out.setCell (p := ⟨wr.heap.size, 0, none⟩) (Nat.le_refl _) (.int .i64 r))
      go_upto_region 7 with fail
      clear hc hf c1 HI HB5
      generalize W5.setCell ⟨wr.heap.size, 0, none⟩ (.int .i64 r) = W6 at *
      have HDIS := Lib.hid (show ∀ i, i < 1 → ∀ k, ([(A4, 1 + nS, c4)].getD i nilS).1.map (·.block) = some k → (some (⟨wr.heap.size, 0, none⟩ : Addr)).map (·.block) ≠ some k from fun i hi k hk hk2 => by
        obtain rfl : i = 0 := by omega
        have h1 := HLT4.out k hk
        have h2 := HSZ.out
        have h3 : wr.heap.size = k := by simpa using hk2
        omega)
      go_wp2_with (at_builtin; go_loud (refine app1D _ _ w.heap.size (some ⟨b3, 0, none⟩) 1 1 [(A4, 1 + nS, c4)] [0 :: S] (some ⟨wr.heap.size, 0, none⟩, nS + 1, nS + 1) (r :: List.replicate nS 0) W6 rfl rfl rfl rfl (HT4.out.below HB6.out) (HI2.out.mono HB4.out.size) HDIS.out (by omega) (Nat.le_trans HB4.out.size HB6.out.size) ?_); intro g9 c9 w9 ho9 hg9 hat9)
      have HO9 := Lib.hid (show OwnS w9 w.heap.size (some ⟨g9, 0, none⟩) 2 c9 [(A4, 1 + nS, c4), (some ⟨wr.heap.size, 0, none⟩, nS + 1, nS + 1)] [0 :: S, r :: List.replicate nS 0] from ho9)
      have HB9 := Lib.hid ((HB4.out.trans (HB6.out.mono HB4.out.size)).grown hg9 (Nat.le_trans HB4.out.size HB6.out.size) (fun k hk => (HT4.out.below HB6.out).out_ge hk))
      clear ho9 hg9 hat9
      go_wp2
      go_roundw
      case rel => exact .inr ⟨rfl, _, _, _, _, rfl, HO9.out, HB9.out⟩
      case measure => simp [intOf]
    · have HE := Lib.hid (emptyS_own wr)
      have HBE := Lib.hid (box_below2 wr (.cells #[] 51))
      have HO6 := Lib.hid ho6
      have HB6 := Lib.hid hb6
      clear ho6 hb6
      have CF := Lib.hid (spec_fill hn S 0 r [] [] G6 c6 u0 u1 wr.heap.size _ 0 0 [] [] _ (by simpa [HL.out] using HO6.out.reads.below HBE.out) HE.out HBE.out.size rfl rfl (by rw [HL.out]; omega) hr (fun z hz => by cases hz) HSM.out (fun z hz => by cases hz) (by rw [List.length_nil, Nat.zero_add]; exact HACC.out))
      rw [show ((0 : Nat) : Int) + 1 = 1 from rfl] at CF
      go_wp2_with fail
      refine CF.out.mono ?_
      rintro e w7 ⟨G7, k7, d7, us7, rfl, ho7, hb7⟩
      have HO7 := Lib.hid (ho7.mono HB6.out.size)
      have HB7 := Lib.hid (HB6.out.trans ((HBE.out.trans (hb7.mono HBE.out.size)).mono HB6.out.size))
      clear ho7 hb7 CF
      go_wp2
      go_ret
      exact ⟨_, _, _, _, rfl, HO7.out, HB7.out⟩

/-- one square times a sum of Milnor's elements -/
theorem spec_l04Times {A c v0 A2 n2 c2 us L w n d} (h : RS w A 1 [v0] [[n]]) (g : RS w A2 n2 us L) (hn : 0 ≤ n ∧ n ≤ 40) (hm : MilP d L) (hd : d ≤ 40) :
    Calls Try.prog 98 #[.slice A 1 c, .slice A2 n2 c2] w fun e w' => ∃ G k d us, e = .returned (.slice G k d) ∧ OwnS w' w.heap.size G k d us (timesP n L) ∧ Below w.heap.size w w' := by
  have HE := Lib.hid (emptyS_own w)
  have HBE := Lib.hid (box_below2 w (.cells #[] 51))
  have HLB := Lib.hid g.len
  have H := Lib.hid h
  have G := Lib.hid g
  have hn2 : n2 ≤ 35056 := by have := hm.len hd; have := g.len; omega
  have HSM := Lib.hid (hm.sm hd)
  have HPL := Lib.hid (prodP_len hm hd n)
  have HFP := Lib.hid (flat_part hm hd n)
  have HRL := Lib.hid (flat_rl hm hd n)
  obtain ⟨p1, o1, rfl, hlt1, hc1⟩ := h.at_ (i := 0) (by omega)
  have hr1 := h.row (i := 0) (by omega)
  simp only [List.getD, List.getElem?_cons_zero, Option.getD_some] at hc1 hr1
  obtain ⟨uA, un, uc⟩ := v0
  simp only [sv, Nat.add_zero] at hc1
  simp only at hr1
  obtain rfl : un = 1 := by have := hr1.len; simpa using this.symm
  have HR1 := Lib.hid hr1
  have HC1 := Lib.hid (fun w2 (hb : Below w.heap.size w w2) => (hb.cell (p := ⟨p1, o1, none⟩) hlt1).trans hc1)
  have HP1 := Lib.hid hlt1
  clear h g hr1 hc1 hlt1
  go_enter Try.func98, Try.ntmps98
  go_wp2
  go_loopw [5, 6] (fun v iv wr => ∃ (i : Nat) (A5 : Option Addr) (n5 c5 : Nat) (vs5 : List Sl), i ≤ 1 ∧ iv = .int .i64 (i : Int) ∧ v = .slice A5 n5 c5 ∧ OwnS wr w.heap.size A5 n5 c5 vs5 (norm ((L.take (i * n2)).flatMap (prodP n))) ∧ Below w.heap.size w wr) (fun _ iv _ => 1 - (intOf iv).toNat)
  case atStart => exact ⟨0, _, _, _, [], by omega, rfl, rfl, by simpa [norm_nil] using HE.out, HBE.out⟩
  case round =>
    obtain ⟨wo, rfl⟩ : ∃ wo, wo = wr := ⟨wr, rfl⟩
    obtain ⟨i, A5, n5, c5, vs5, hi, rfl, rfl, ho, hb⟩ := hrel
    clear HE HBE
    have HO := Lib.hid ho
    have HB := Lib.hid hb
    clear ho hb
    by_cases hin : i < 1
    · obtain rfl : i = 0 := by omega
      have HO0 := Lib.hid (show OwnS wo w.heap.size A5 n5 c5 vs5 (norm ((L.take 0).flatMap (prodP n))) by simpa using HO.out)
      clear HO
      rw [show ((0 : Nat) : Int) = 0 from rfl]
      go_wp2
      go_loopw [5, 7] (fun v kv wr => ∃ (k : Nat) (A6 : Option Addr) (n6 c6 : Nat) (vs6 : List Sl), k ≤ n2 ∧ kv = .int .i64 (k : Int) ∧ v = .slice A6 n6 c6 ∧ OwnS wr w.heap.size A6 n6 c6 vs6 (norm ((L.take k).flatMap (prodP n))) ∧ Below w.heap.size w wr) (fun _ kv _ => n2 - (intOf kv).toNat)
      case atStart => exact ⟨0, _, _, _, _, by omega, rfl, rfl, HO0.out, HB.out⟩
      case round =>
        obtain ⟨k, A6, n6, c6, vs6, hk, rfl, rfl, ho6, hb6⟩ := hrel
        have HO6 := Lib.hid ho6
        have HB6 := Lib.hid hb6
        clear ho6 hb6 HO0 HB
        by_cases hkm : k < n2
        · have hkm' : (k : Int) < (n2 : Int) := by omega
          have hn6 : n6 ≤ 1000000000 := by have h1 := HO6.out.len; have h2 := HFP.out k; have h3 := norm_len ((L.take k).flatMap (prodP n)); omega
          obtain ⟨p2, o2, rfl, hlt2, hc2⟩ := (G.out.below HB6.out).at_ hkm
          have hr2 := G.out.row hkm
          have hmem := getD_memS L k (by have := HLB.out; omega)
          have HY := Lib.hid (HSM.out _ hmem)
          have HYP := Lib.hid (HPL.out _ hmem)
          have HYR := Lib.hid (prodP_rl n (L.getD k []))
          have HFT := Lib.hid (show norm ((L.take (k + 1)).flatMap (prodP n)) = mrg (norm ((L.take k).flatMap (prodP n))) (norm (prodP n (L.getD k []))) by rw [flat_take (prodP n) L k (by have := HLB.out; omega), mrg_norm])
          have HRA := Lib.hid (show ∀ x ∈ norm ((L.take k).flatMap (prodP n)), x.length ≤ 1048576 from fun x hx => by
            have h1 := (norm_mem _ x).1 hx
            have h2 : x ∈ (L.take k).flatMap (prodP n) := List.count_pos_iff.1 (by omega)
            have := HRL.out k x h2
            omega)
          clear hmem
          generalize L.getD k [] = y at *
          generalize us.getD k nilS = v at *
          obtain ⟨vA, vn, vc⟩ := v
          simp only [sv] at hc2
          simp only at hr2
          have hvl : vn ≤ 5 := by have := hr2.len; have := HY.out.1; omega
          have HRB := Lib.hid (show ∀ x ∈ norm (prodP n y), x.length ≤ 1048576 from fun x hx => by
            have h1 := (norm_mem _ x).1 hx
            have h2 : x ∈ prodP n y := List.count_pos_iff.1 (by omega)
            have := HYR.out x h2
            have := HY.out.1
            omega)
          have c1 := HC1.out _ HB6.out
          have CB := Lib.hid (fun w2 (hb : Below wr.heap.size wr w2) => spec_product (c := uc) (c2 := vc) ((HR1.out.below HB6.out).below hb) ((hr2.below HB6.out).below hb) hvl ⟨by omega, by omega⟩ HY.out.2 (by have := HYP.out; omega))
          clear hr2
          go_wp2_with fail
          go_region_law ((first | (go_simp; go_at_call 79; refine (spec_l01Sum (c := c6) (c' := d8) ((HO6.out.below HB8.out).reads) HO8.out.reads (by omega) (by have h1 := HO8.out.len; have h2 := norm_len (prodP n y); have h3 := HYP.out; omega) HRA.out HRB.out).mono ?_; rintro e w9 ⟨A9, n9, c9, vs9, rfl, ho9, hb9⟩; have HO9 := Lib.hid (show OwnS w9 w8.heap.size A9 n9 c9 vs9 (mrg (norm ((L.take k).flatMap (prodP n))) (norm (prodP n y))) from ho9); have HB9 := Lib.hid (show Below w8.heap.size w8 w9 from ⟨hb9.os, hb9.tape, hb9.output, hb9.size, hb9.block⟩); clear ho9 hb9; dsimp only) | (go_simp; go_at_call 128; refine (CB.out _ (by first | exact Below.refl _ _ | exact (Below.refl _ _).drew)).mono ?_; rintro e w8 ⟨A8, n8, d8, vs8, rfl, ho8, hb8⟩; have HO8 := Lib.hid (show OwnS w8 wr.heap.size A8 n8 d8 vs8 (norm (prodP n y)) from ho8); have HB8 := Lib.hid (show Below wr.heap.size wr w8 from ⟨hb8.os, hb8.tape, hb8.output, hb8.size, hb8.block⟩); have c1 := (HB8.out.cell (p := ⟨p1, o1, none⟩) (Nat.lt_of_lt_of_le (show p1 < w.heap.size from HP1.out) HB6.out.size)).trans c1; have hc2 := (HB8.out.cell (p := ⟨p2, o2 + k, none⟩) hlt2).trans hc2; clear ho8 hb8; dsimp only)))
          all_goals (
            have HO10 := Lib.hid (show OwnS w9 w.heap.size A9 n9 c9 vs9 (norm ((L.take (k + 1)).flatMap (prodP n))) by rw [HFT.out]; exact HO9.out.mono (Nat.le_trans HB6.out.size HB8.out.size))
            have HB10 := Lib.hid (HB6.out.trans ((HB8.out.trans (HB9.out.mono HB8.out.size)).mono HB6.out.size))
            clear c1 hc2
            go_wp2
            go_roundw
            case rel => exact ⟨k + 1, _, _, _, _, by omega, by go_num, rfl, HO10.out, HB10.out⟩
            case measure => simp [intOf]; omega)
        · obtain rfl : k = n2 := by omega
          have HO7 := Lib.hid (show OwnS wr w.heap.size A6 n6 c6 vs6 (norm ((L.take (1 * k)).flatMap (prodP n))) by rw [Nat.one_mul]; exact HO6.out)
          go_wp2
          go_roundw
          case rel => exact ⟨1, _, _, _, _, by omega, by go_num, rfl, HO7.out, HB6.out⟩
          case measure => simp [intOf]
    · obtain rfl : i = 1 := by omega
      have HO1 := Lib.hid (show OwnS wo w.heap.size A5 n5 c5 vs5 (timesP n L) by
        have := HO.out
        rw [Nat.one_mul, List.take_of_length_le (Nat.le_of_eq HLB.out)] at this
        exact this)
      clear HO
      rw [show ((1 : Nat) : Int) = 1 from rfl]
      go_wp2
      go_ret
      exact ⟨_, _, _, _, rfl, HO1.out, HB.out⟩

end Go.Proofs.Ytpgmggkpnefaeaa
