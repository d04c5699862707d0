/- impl: the product of two of Milnor's basis elements, of one square and a sum, and of a word's squares. -/
import Derived.Test.YtpgmggkpnefaeaaFilI
import Derived.Test.YtpgmggkpnefaeaaOddO
import Derived.Test.YtpgmggkpnefaeaaJoin
import Derived.Test.YtpgmggkpnefaeaaGenI
namespace Go.Proofs.Ytpgmggkpnefaeaa
open Go.ChangeShapes Go.WideShapes Go.ChangeAt Go.RowKit Go.Proofs
set_option linter.unusedVariables false

/-- the tables before the first number is tried -/
theorem Tab.start {w9 : World} {B0 bT gR g gX AS nS cR cS c9 r S} (hbx : Blk w9 bT 120 #[.slice (some ⟨gR, 0, none⟩) 1 cR, .slice AS nS cS, .slice none 0 0, .slice none 0 0]) (hR : OwnI w9 B0 (some ⟨gR, 0, none⟩) 1 cR [r]) (hS : OwnI w9 B0 AS nS cS S) (hC : OwnS w9 B0 (some ⟨g, 0, none⟩) 1 c9 [(some ⟨gX, 0, none⟩, nS, nS)] [List.replicate nS 0])
    (n1 : AS.map (·.block) ≠ some gR) (n2 : gX ≠ gR) (n3 : AS.map (·.block) ≠ some gX) (hB : B0 ≤ bT) :
    Tab (w9.setCell ⟨bT, 2, none⟩ (.slice (some ⟨g, 0, none⟩) 1 c9)) B0 (w9.setCell ⟨bT, 2, none⟩ (.slice (some ⟨g, 0, none⟩) 1 c9)).heap.size bT gR g AS (some ⟨gX, 0, none⟩) nS cR cS c9 nS r S (List.replicate nS 0) none 0 0 [] [] := by
  have hs := set_grown w9 ⟨bT, 2, none⟩ (.slice (some ⟨g, 0, none⟩) 1 c9)
  have hR' := hR.keep hs (fun k hk e => blk_apartI hbx hR (by decide) (by rw [hk]; exact e.symm))
  have hS' := hS.keep hs (fun k hk e => blk_apartI hbx hS (by decide) (by rw [hk]; exact e.symm))
  have hC' := hC.setBox hbx (by decide) (by decide) 2 (.slice (some ⟨g, 0, none⟩) 1 c9)
  have hX' := hC'.row (i := 0) (by omega)
  have hlt : bT < w9.heap.size := hbx.lt
  exact ⟨hbx.set 2 _, hR', hS', hC', OwnS.nil _ _, n1, fun e => n2 (by simpa using e), fun k hk e => n3 (by rw [hk]; exact e.symm), hR'.row_lt rfl, fun k hk => hS'.row_lt hk, fun k hk => hX'.row_lt hk, (hC'.form (by omega)).elim (fun q hq => by
    have h1 := hq.1
    have h2 := hq.2.2
    simp at h1
    omega), Nat.lt_of_lt_of_le hlt hs.size, hB, Nat.le_refl _⟩

theorem cell_new2 (w : World) (o : Obj) (v : Value) (t : TypeId) : ((w.alloc o).alloc (.cells #[v] t)).drew.cell? ⟨w.heap.size + 1, 0, none⟩ = some v := by
  have := cell_new (w.alloc o) v t
  rw [show (w.alloc o).heap.size = w.heap.size + 1 by simp] at this
  exact this

set_option maxRecDepth 100000 in
set_option maxHeartbeats 3200000 in
theorem impl_basisProduct {A c A2 nS c2 r S w} (h : RI w A 1 [r]) (g : RI w A2 nS S) (hn : nS ≤ 5) (hr : 0 ≤ r ∧ r ≤ 1000) (hs : sm S) (hacc : (prodP r S).length ≤ 8589934592) :
    Calls Try.prog 133 #[.slice A 1 c, .slice A2 nS c2] w fun e w' => ∃ G k d us, e = .returned (.slice G k d) ∧ OwnS w' w.heap.size G k d us (prodP r S) ∧ Below w.heap.size w w' := by
  have C1 := Lib.hid (impl_copy A 1 c [r] w h (by omega))
  have C2 := Lib.hid (fun w1 (hb : Below w.heap.size w w1) => impl_copy A2 nS c2 S w1 (g.below hb) (by omega))
  have HL := Lib.hid g.len
  have HSM := Lib.hid hs
  clear h g hs
  go_enter Try.func133, Try.ntmps133
  go_wp2_with fail
  refine C1.out.mono ?_
  rintro e w1 ⟨AR, cR, rfl, ho1, hb1⟩
  obtain ⟨gR, rfl, hg1, hg2⟩ := ho1.form (by omega)
  have HR1 := Lib.hid ho1
  have HB1 := Lib.hid hb1
  clear ho1 hb1
  go_wp2_with fail
  refine (C2.out w1 HB1.out).mono ?_
  rintro e w2 ⟨AS, cS, rfl, ho2, hb2⟩
  have HS2 := Lib.hid ho2
  have HR2 := Lib.hid (HR1.out.below hb2)
  have HB2 := Lib.hid (HB1.out.trans (hb2.mono HB1.out.size))
  have HG2 := Lib.hid (show gR < w1.heap.size ∧ w1.heap.size ≤ w2.heap.size ∧ w.heap.size ≤ w1.heap.size from ⟨hg2, hb2.size, HB1.out.size⟩)
  clear ho2 hb2 HR1 hg1 hg2
  have HX3 := Lib.hid (Blk.new w2 #[.slice (some ⟨gR, 0, none⟩) 1 cR, .slice AS nS cS, .slice none 0 0, .slice none 0 0] 120)
  have HB3 := Lib.hid (box_below w2 (.cells #[.slice (some ⟨gR, 0, none⟩) 1 cR, .slice AS nS cS, .slice none 0 0, .slice none 0 0] 120))
  have HR3 := Lib.hid (HR2.out.below HB3.out)
  have HS3 := Lib.hid (HS2.out.below HB3.out)
  have HN1 := Lib.hid (show AS.map (·.block) ≠ some gR from fun e => by have h1 := HS2.out.row_ge e; have h2 := HG2.out.1; omega)
  have HLS := Lib.hid (show ∀ k, AS.map (·.block) = some k → k < w2.heap.size from fun k hk => HS2.out.row_lt hk)
  have HBW := Lib.hid (HB2.out.trans (HB3.out.mono HB2.out.size))
  have HSZ := Lib.hid (show w2.heap.size ≤ (w2.alloc (.cells #[.slice (some ⟨gR, 0, none⟩) 1 cR, .slice AS nS cS, .slice none 0 0, .slice none 0 0] 120)).heap.size from HB3.out.size)
  have HWB := Lib.hid HB2.out.size
  go_wp2_with fail
  generalize w2.alloc (.cells #[.slice (some ⟨gR, 0, none⟩) 1 cR, .slice AS nS cS, .slice none 0 0, .slice none 0 0] 120) = W3 at *
  clear HB3 HR2 HS2
  generalize w2.heap.size = bT at *
  go_loopw [14] (fun kv wr => (kv = .int .i64 0 ∧ wr = W3) ∨ (kv = .int .i64 1 ∧ ∃ g gX c9, Tab wr w.heap.size wr.heap.size bT gR g AS (some ⟨gX, 0, none⟩) nS cR cS c9 nS r S (List.replicate nS 0) none 0 0 [] [] ∧ Below w.heap.size w wr)) (fun kv _ => 2 - (intOf kv).toNat)
  case atStart => exact .inl ⟨rfl, rfl⟩
  case round =>
    rcases hrel with ⟨rfl, hw⟩ | ⟨rfl, g, gX, c9, hT, hB⟩
    · subst hw
      have k2 := HX3.out.cell 2 (v := .slice none 0 0) rfl
      have f2 := HX3.out.free 2
      have hbl := HX3.out.lt
      obtain ⟨i0, hi, hz0, hz1, hz2⟩ := info_parts Try.infoI
      have hmk : ∀ W : World, (Instr.makeSlice 51 (.int .i64 (nS : Int)) (.int .i64 (nS : Int))).run Try.prog W = .ok (.slice (some ⟨W.heap.size, 0, none⟩) nS nS) (W.alloc (.cells (madeCells (Value.int .i64 0).cells nS) 2)) := fun W => by
        have hmk := run_make (P := Try.prog) W 51 2 i0 (.int .i64 0) Try.underlying51 hi hz0 .i64 .i64 (nS : Int) (nS : Int) (by omega) (by omega) (by rw [hz2]; omega) (by omega)
        rw [hz1] at hmk
        rw [show ((nS : Int)).toNat * 1 = nS by omega, show ((nS : Int)).toNat = nS by omega] at hmk
        exact hmk
      clear hi hz0 hz1 hz2
      go_wp2_with fail
      go_region_law ((refine step_app1D _ _ w.heap.size none 0 0 [] [] (some ⟨wr.heap.size, 0, none⟩, nS, nS) (List.replicate nS 0) _ (wr.heap.size + 1) (by rfl) (by rfl) (by rfl) (by rfl) (OwnS.nil _ _) (by exact (((made_own wr nS (by omega)).alloc _).mono HBW.out.size).drew') (by exact cell_new2 wr _ _ _) (fun i hi => absurd hi (by omega)) (by omega) (by exact Nat.le_trans HBW.out.size (lit2_below wr _ _).size) ?_; intro g c9 w9 ho9 hg9 hat9; have HO9 := Lib.hid (show OwnS w9 w.heap.size (some ⟨g, 0, none⟩) 1 c9 [(some ⟨wr.heap.size, 0, none⟩, nS, nS)] [List.replicate nS 0] from ho9); have HB9 := Lib.hid (show Below wr.heap.size wr w9 from (lit2_below wr _ _).trans (Below.mono (below_of_none ⟨hg9.os, hg9.tape, hg9.output, hg9.size, hg9.block⟩) (lit2_below wr _ _).size)); have HX9 := Lib.hid (HX3.out.below HB9.out); have k2 := HX9.out.cell 2 (v := .slice none 0 0) rfl; have f2 := HX9.out.free 2; clear ho9 hg9 hat9))
      all_goals (
        have HT9 := Lib.hid (Tab.start HX9.out (HR3.out.below HB9.out) ((HS3.out.below HB9.out).mono HG2.out.2.2) HO9.out HN1.out (by have h1 := HG2.out.1; have h2 := HG2.out.2.1; have h3 := HSZ.out; omega) (fun e => by have h1 := HLS.out _ e; have h3 := HSZ.out; omega) HWB.out)
        have HBF := Lib.hid ((HBW.out.trans (HB9.out.mono HBW.out.size)).setCell (p := ⟨bT, 2, none⟩) HWB.out (.slice (some ⟨g, 0, none⟩) 1 c9))
        clear k2 f2 hmk
        go_wp2
        go_roundw
        case rel => exact .inr ⟨rfl, _, _, _, HT9.out, HBF.out⟩
        case measure => simp [intOf])
    · have HT := Lib.hid hT
      have HB := Lib.hid hB
      clear hT hB
      have CF := Lib.hid (impl_fill hn S 0 r [] [] none 0 0 [] [] wr (by simpa [HL.out] using HT.out) rfl rfl (by rw [HL.out]; omega) hr (fun z hz => by cases hz) HSM.out (fun z hz => by cases hz) (by rw [List.length_nil, Nat.zero_add]; exact hacc))
      rw [show ((0 : Nat) : Int) = 0 from rfl, List.nil_append] at CF
      go_wp2_with fail
      refine CF.out.mono ?_
      rintro e w4 ⟨rfl, ⟨A6, n6, c6, vs6, hT4⟩, hB4⟩
      have HT4 := Lib.hid hT4
      have HB4 := Lib.hid (HB.out.trans hB4)
      have k3 := hT4.box.cell 3 (v := .slice A6 n6 c6) rfl
      clear hT4 hB4 CF
      go_wp2
      go_ret
      exact ⟨_, _, _, _, rfl, HT4.out.hO.mono HB.out.size, HB4.out⟩

/-- one square times a sum of Milnor's elements -/
theorem impl_multiplied {A c v0 A2 n2 c2 us L w n d} (h : RS w A 1 [v0] [[n]]) (g : RS w A2 n2 us L) (hn : 0 ≤ n ∧ n ≤ 40) (hm : MilP d L) (hd : d ≤ 40) :
    Calls Try.prog 105 #[.slice A 1 c, .slice A2 n2 c2] w fun e w' => ∃ G k d us, e = .returned (.slice G k d) ∧ OwnS w' w.heap.size G k d us (timesP n L) ∧ Below w.heap.size w w' := by
  have HE := Lib.hid (emptyS_own w)
  have HBE := Lib.hid (box_below2 w (.cells #[] 51))
  have HLB := Lib.hid g.len
  have H := Lib.hid h
  have G := Lib.hid g
  have hn2 : n2 ≤ 35056 := by have := hm.len hd; have := g.len; omega
  have HSM := Lib.hid (hm.sm hd)
  have HPL := Lib.hid (prodP_len hm hd n)
  have HFP := Lib.hid (flat_part hm hd n)
  have HRL := Lib.hid (flat_rl hm hd n)
  clear h g
  go_enter Try.func105, Try.ntmps105
  go_wp2
  go_loopw [5, 13] (fun v iv wr => ∃ (i : Nat) (A5 : Option Addr) (n5 c5 : Nat) (vs5 : List Sl), i ≤ 1 ∧ iv = .int .i64 (i : Int) ∧ v = .slice A5 n5 c5 ∧ OwnS wr w.heap.size A5 n5 c5 vs5 ((L.take (i * n2)).flatMap (prodP n)) ∧ Below w.heap.size w wr) (fun _ iv _ => 1 - (intOf iv).toNat)
  case atStart => exact ⟨0, _, _, _, [], by omega, rfl, rfl, by simpa using HE.out, HBE.out⟩
  case round =>
    obtain ⟨wo, rfl⟩ : ∃ wo, wo = wr := ⟨wr, rfl⟩
    obtain ⟨i, A5, n5, c5, vs5, hi, rfl, rfl, ho, hb⟩ := hrel
    clear HE HBE
    have HO := Lib.hid ho
    have HB := Lib.hid hb
    clear ho hb
    by_cases hin : i < 1
    · obtain rfl : i = 0 := by omega
      obtain ⟨p1, o1, rfl, hlt1, hc1⟩ := H.out.at_ (i := 0) (by omega)
      have hr1 := H.out.row (i := 0) (by omega)
      simp only [List.getD, List.getElem?_cons_zero, Option.getD_some] at hc1 hr1
      obtain ⟨uA, un, uc⟩ := v0
      simp only [sv, Nat.add_zero] at hc1
      simp only at hr1
      obtain rfl : un = 1 := by have := hr1.len; simpa using this.symm
      have HR1 := Lib.hid hr1
      have hc1 := (HB.out.cell (p := ⟨p1, o1, none⟩) hlt1).trans hc1
      have HO0 := Lib.hid (show OwnS wo w.heap.size A5 n5 c5 vs5 ((L.take 0).flatMap (prodP n)) by simpa using HO.out)
      clear hr1 HO
      rw [show ((0 : Nat) : Int) = 0 from rfl]
      go_wp2
      go_loopw [5, 19] (fun v kv wr => ∃ (k : Nat) (A6 : Option Addr) (n6 c6 : Nat) (vs6 : List Sl), k ≤ n2 ∧ kv = .int .i64 (k : Int) ∧ v = .slice A6 n6 c6 ∧ OwnS wr w.heap.size A6 n6 c6 vs6 ((L.take k).flatMap (prodP n)) ∧ Below w.heap.size w wr) (fun _ kv _ => n2 - (intOf kv).toNat)
      case atStart => exact ⟨0, _, _, _, _, by omega, rfl, rfl, HO0.out, HB.out⟩
      case round =>
        obtain ⟨k, A6, n6, c6, vs6, hk, rfl, rfl, ho6, hb6⟩ := hrel
        have HO6 := Lib.hid ho6
        have HB6 := Lib.hid hb6
        clear ho6 hb6 HO0 HB hc1
        by_cases hkm : k < n2
        · have hkm' : (k : Int) < (n2 : Int) := by omega
          have hn6 : n6 ≤ 1000000000 := by have := HO6.out.len; have := HFP.out k; omega
          obtain ⟨p2, o2, rfl, _, hc2⟩ := (G.out.below HB6.out).at_ hkm
          have hr2 := G.out.row hkm
          have hmem := getD_memS L k (by have := HLB.out; omega)
          have HY := Lib.hid (HSM.out _ hmem)
          have HYP := Lib.hid (HPL.out _ hmem)
          have HFT := Lib.hid (flat_take (prodP n) L k (by have := HLB.out; omega))
          clear hmem
          generalize L.getD k [] = y at *
          generalize us.getD k nilS = v at *
          obtain ⟨vA, vn, vc⟩ := v
          simp only [sv] at hc2
          simp only at hr2
          have hvl : vn ≤ 5 := by have := hr2.len; have := HY.out.1; omega
          have CB := Lib.hid (impl_basisProduct (c := uc) (c2 := vc) (HR1.out.below HB6.out) (hr2.below HB6.out) hvl (by omega) HY.out.2 (by have := HYP.out; omega))
          have HIN := Lib.hid HO6.out.inS
          clear hr2
          go_wp2_with fail
          refine CB.out.mono ?_
          rintro e w8 ⟨G8, k8, d8, us8, rfl, ho8, hb8⟩
          have HO8 := Lib.hid ho8
          have HB8 := Lib.hid hb8
          have hk8 : k8 ≤ 20664 := by have := ho8.len; have := HYP.out; omega
          clear ho8 hb8 CB
          go_wp2_with (at_builtin; refine appRS _ _ w.heap.size A6 n6 c6 vs6 G8 k8 d8 us8 _ _ rfl rfl rfl rfl (HO6.out.below HB8.out).1 HO8.out.reads (by omega) (Nat.le_trans HB6.out.size HB8.out.size) ?_; intro A9 c9 w9 ho9 hg9)
          have HO9 := Lib.hid (show OwnS w9 w.heap.size A9 (n6 + k8) c9 (vs6 ++ us8) ((L.take (k + 1)).flatMap (prodP n)) by rw [HFT.out]; exact OwnS.join (HO6.out.below HB8.out) HO8.out HIN.out HB6.out.size ho9 hg9)
          have HB9 := Lib.hid ((HB6.out.trans (HB8.out.mono HB6.out.size)).grown hg9 (Nat.le_trans HB6.out.size HB8.out.size) (fun k hk => (HO6.out.below HB8.out).out_ge hk))
          clear ho9 hg9
          go_wp2
          go_roundw
          case rel => exact ⟨k + 1, _, _, _, _, by omega, by go_num, rfl, HO9.out, HB9.out⟩
          case measure => simp [intOf]; omega
        · obtain rfl : k = n2 := by omega
          have HO7 := Lib.hid (show OwnS wr w.heap.size A6 n6 c6 vs6 ((L.take (1 * k)).flatMap (prodP n)) by rw [Nat.one_mul]; exact HO6.out)
          go_wp2
          go_roundw
          case rel => exact ⟨1, _, _, _, _, by omega, by go_num, rfl, HO7.out, HB6.out⟩
          case measure => simp [intOf]
    · obtain rfl : i = 1 := by omega
      have HO1 := Lib.hid (show OwnS wo w.heap.size A5 n5 c5 vs5 (L.flatMap (prodP n)) by
        have := HO.out
        rw [Nat.one_mul, List.take_of_length_le (Nat.le_of_eq HLB.out)] at this
        exact this)
      have HRL1 := Lib.hid (show ∀ x ∈ L.flatMap (prodP n), x.length ≤ 1048576 from fun x hx => by
        have := HRL.out n2 x (by rw [List.take_of_length_le (Nat.le_of_eq HLB.out)]; exact hx)
        omega)
      have hn5 : n5 ≤ 1000000000 := by
        have h1 := HO.out.len
        have h2 := HFP.out (1 * n2)
        omega
      have CO := Lib.hid (impl_oddOnes (c := c5) HO1.out.reads (by omega) HRL1.out)
      clear HO
      go_wp2_with fail
      refine CO.out.mono ?_
      rintro e w6 ⟨G6, k6, d6, us6, S6, rfl, ho6, hp6, hs6, hb6⟩
      have HO6 := Lib.hid (show OwnS w6 w.heap.size G6 k6 d6 us6 (timesP n L) by unfold timesP; rw [← odd_norm hs6 hp6]; exact ho6.mono HB.out.size)
      have HB6 := Lib.hid (HB.out.trans (hb6.mono HB.out.size))
      clear ho6 hp6 hs6 hb6
      go_wp2
      go_ret
      exact ⟨_, _, _, _, rfl, HO6.out, HB6.out⟩

theorem lit1S (w : World) (u : Sl) (x : List Int) (h : RI w u.1 u.2.1 x) : RS (w.alloc (.cells #[sv u] 51)) (some ⟨w.heap.size, 0, none⟩) 1 [u] [x] := by
  refine ⟨rfl, rfl, by unfold maxLen; omega, fun _ => ⟨w.heap.size, 0, rfl, by simp, fun i hi => ?_⟩, fun i hi => ?_⟩
  · obtain rfl : i = 0 := by omega
    exact cell_new w (sv u) _
  · obtain rfl : i = 0 := by omega
    exact h.below (box_below w _)

end Go.Proofs.Ytpgmggkpnefaeaa
