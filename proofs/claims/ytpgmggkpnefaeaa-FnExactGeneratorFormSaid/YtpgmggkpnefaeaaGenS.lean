/- spec: all pairs of two slices of lists, joined, equal ones struck; the generator form. GeneratorForm on both sides. -/
import Derived.Test.YtpgmggkpnefaeaaPut
import Derived.Test.YtpgmggkpnefaeaaGenI
import Derived.Test.YtpgmggkpnefaeaaAddS
namespace Go.Proofs.Ytpgmggkpnefaeaa
open Go.ChangeShapes Go.WideShapes Go.ChangeAt Go.RowKit Go.Proofs
set_option linter.unusedVariables false

set_option maxRecDepth 100000 in
set_option maxHeartbeats 3200000 in
theorem spec_l03Join {A n c vs a A2 m c2 us b w} (h : RS w A n vs a) (g : RS w A2 m us b) (hn : n ≤ 4096) (hm : m ≤ 4096) (hra : ∀ x ∈ a, x.length ≤ 4096) (hrb : ∀ x ∈ b, x.length ≤ 4096) :
    Calls Try.prog 122 #[.slice A n c, .slice A2 m c2] w fun e w' => ∃ G k d us', e = .returned (.slice G k d) ∧ OwnS w' w.heap.size G k d us' (norm (prods a b)) ∧ Below w.heap.size w w' := by
  have HLA := Lib.hid h.len
  have HLB := Lib.hid g.len
  have H := Lib.hid h
  have G := Lib.hid g
  have HRA := Lib.hid hra
  have HRB := Lib.hid hrb
  have HE := Lib.hid (emptyS_own w)
  have HBE := Lib.hid (box_below2 w (.cells #[] 51))
  clear h g hra hrb
  go_enter Try.func122, Try.ntmps122
  go_wp2
  go_loopw [5, 6] (fun v iv wr => ∃ (i : Nat) (A5 : Option Addr) (n5 c5 : Nat) (vs5 : List Sl), i ≤ n ∧ iv = .int .i64 (i : Int) ∧ v = .slice A5 n5 c5 ∧ OwnS wr w.heap.size A5 n5 c5 vs5 (norm (prods (a.take i) b)) ∧ Below w.heap.size w wr) (fun _ iv _ => n - (intOf iv).toNat)
  case atStart => exact ⟨0, _, _, _, [], by omega, rfl, rfl, HE.out, HBE.out⟩
  case round =>
    obtain ⟨wo, rfl⟩ : ∃ wo, wo = wr := ⟨wr, rfl⟩
    obtain ⟨i, A5, n5, c5, vs5, hi, rfl, rfl, ho, hb⟩ := hrel
    clear HE HBE
    have HO := Lib.hid ho
    have HB := Lib.hid hb
    clear ho hb
    by_cases hin : i < n
    · have hin' : (i : Int) < (n : Int) := by omega
      have hr1 := H.out.row hin
      have hrl1 := HRA.out _ (getD_memS a i (by have := HLA.out; omega))
      have HTK := Lib.hid (prods_take a b i (by have := HLA.out; omega))
      have HPL := Lib.hid (show (prods (a.take i) b).length ≤ 16777216 by rw [prods_len]; exact Nat.mul_le_mul (show (a.take i).length ≤ 4096 by simp; omega) (show b.length ≤ 4096 by have := HLB.out; omega))
      obtain ⟨p1, o1, rfl, hlt1, hc1⟩ := H.out.at_ hin
      generalize a.getD i [] = x at *
      generalize vs.getD i nilS = u at *
      obtain ⟨uA, un, uc⟩ := u
      simp only [sv] at hc1
      simp only at hr1
      have hul := hr1.len
      have HR1 := Lib.hid hr1
      have HC1 := Lib.hid (fun w2 (hb : Below w.heap.size w w2) => (hb.cell (p := ⟨p1, o1 + i, none⟩) hlt1).trans hc1)
      clear hr1 hc1
      go_wp2
      go_loopw [5, 7] (fun v kv wr => ∃ (k : Nat) (A6 : Option Addr) (n6 c6 : Nat) (vs6 : List Sl), k ≤ m ∧ kv = .int .i64 (k : Int) ∧ v = .slice A6 n6 c6 ∧ OwnS wr w.heap.size A6 n6 c6 vs6 (norm (prods (a.take i) b ++ (b.take k).map fun y => x ++ y)) ∧ Below w.heap.size w wr) (fun _ kv _ => m - (intOf kv).toNat)
      case atStart => exact ⟨0, _, _, _, _, by omega, rfl, rfl, by simpa using HO.out, HB.out⟩
      case round =>
        obtain ⟨k, A6, n6, c6, vs6, hk, rfl, rfl, ho6, hb6⟩ := hrel
        have HO6 := Lib.hid ho6
        have HB6 := Lib.hid hb6
        clear ho6 hb6 HO HB
        by_cases hkm : k < m
        · have hkm' : (k : Int) < (m : Int) := by omega
          have hn6 : n6 ≤ 16781312 := by
            have h1 := HO6.out.len
            have h2 := HPL.out
            have h3 : (b.take k).length ≤ 4096 := by simp; omega
            have h4 := norm_len (prods (a.take i) b ++ (b.take k).map fun y => x ++ y)
            simp only [List.length_append, List.length_map] at h4
            omega
          obtain ⟨p2, o2, rfl, hlt2, hc2⟩ := (G.out.below HB6.out).at_ hkm
          have hc1 := HC1.out _ HB6.out
          have hr2 := G.out.row hkm
          have hrl2 := HRB.out _ (getD_memS b k (by have := HLB.out; omega))
          have HMT := Lib.hid (show norm (prods (a.take i) b ++ (b.take (k + 1)).map fun y => x ++ y) = mrg (norm (prods (a.take i) b ++ (b.take k).map fun y => x ++ y)) [x ++ b.getD k []] by rw [map_take x b k (by have := HLB.out; omega), ← List.append_assoc, norm_snoc])
          generalize b.getD k [] = y at *
          generalize us.getD k nilS = v at *
          obtain ⟨vA, vn, vc⟩ := v
          simp only [sv] at hc2
          simp only at hr2
          have hvl := hr2.len
          have CO := Lib.hid (fun w2 (hb : Below wr.heap.size wr w2) => spec_own uA un uc x w2 ((HR1.out.below HB6.out).below hb) (by omega))
          have HR2 := Lib.hid (hr2.below HB6.out)
          have CP := Lib.hid (fun w2 A7 c7 (hb : Below wr.heap.size wr w2) (hx : RI w2 A7 (un + vn) (x ++ y)) => spec_l01Put (c2 := c7) (HO6.out.below hb) hx (Nat.le_trans HB6.out.size hb.size) (by omega) (by omega))
          clear hr2
          go_wp2_with fail
          go_region_law ((first | (go_simp; go_at_call 141; refine (CP.out _ A5' c5' (by first | exact HB5.out | exact HB5.out.drew) (by exact HO5.out.reads)).mono ?_; rintro e w8 ⟨A8, n8, c8, vs8, rfl, ho8, hb8⟩; have HO8 := Lib.hid (show OwnS w8 w.heap.size A8 n8 c8 vs8 (mrg (norm (prods (a.take i) b ++ (b.take k).map fun y => x ++ y)) [x ++ y]) from ho8); have HB8 := Lib.hid (show Below w5.heap.size w5 w8 from ⟨hb8.os, hb8.tape, hb8.output, hb8.size, hb8.block⟩); clear ho8 hb8; dsimp only) | (refine step_appR _ _ wr.heap.size A4 un c4 x _ vn _ y _ (by rfl) (by rfl) (by rfl) (by rfl) (by exact HO4.out) (by exact HR2.out.below HB4.out) (by omega) (by exact HB4.out.size) ?_; intro A5' c5' w5 ho5 hg5; have HO5 := Lib.hid ho5; have HB5 := Lib.hid (show Below wr.heap.size wr w5 from HB4.out.grown ⟨hg5.os, hg5.tape, hg5.output, hg5.size, hg5.block⟩ HB4.out.size (fun k hk => HO4.out.row_ge hk)); clear ho5 hg5) | (go_simp; go_at_call 115; refine (CO.out _ (by first | exact Below.refl _ _ | exact (Below.refl _ _).drew)).mono ?_; rintro e w4 ⟨A4, c4, rfl, ho4, hb4⟩; have HO4 := Lib.hid (show OwnI w4 wr.heap.size A4 un c4 x from ho4); have HB4 := Lib.hid (show Below wr.heap.size wr w4 from ⟨hb4.os, hb4.tape, hb4.output, hb4.size, hb4.block⟩); have hc2' := (HB4.out.cell (p := ⟨p2, o2 + k, none⟩) hlt2).trans hc2; clear ho4 hb4; dsimp only)))
          all_goals (
            have HO9 := Lib.hid (show OwnS w8 w.heap.size A8 n8 c8 vs8 (norm (prods (a.take i) b ++ (b.take (k + 1)).map fun y => x ++ y)) by rw [HMT.out]; exact HO8.out)
            have HB9 := Lib.hid (HB6.out.trans ((HB5.out.trans (HB8.out.mono HB5.out.size)).mono HB6.out.size))
            go_wp2
            go_roundw
            case rel => exact ⟨k + 1, _, _, _, _, by omega, by go_num, rfl, HO9.out, HB9.out⟩
            case measure => simp [intOf]; omega)
        · obtain rfl : k = m := by omega
          have ho7 := HO6.out
          rw [List.take_of_length_le (Nat.le_of_eq HLB.out), ← HTK.out] at ho7
          have HO7 := Lib.hid ho7
          clear ho7
          go_wp2
          go_roundw
          case rel => exact ⟨i + 1, _, _, _, _, by omega, by go_num, rfl, HO7.out, HB6.out⟩
          case measure => simp [intOf]; omega
    · obtain rfl : i = n := by omega
      have ho := HO.out
      rw [List.take_of_length_le (Nat.le_of_eq HLA.out)] at ho
      have HO2 := Lib.hid ho
      clear ho
      go_wp2
      go_ret
      exact ⟨_, _, _, _, rfl, HO2.out, HB.out⟩

end Go.Proofs.Ytpgmggkpnefaeaa
