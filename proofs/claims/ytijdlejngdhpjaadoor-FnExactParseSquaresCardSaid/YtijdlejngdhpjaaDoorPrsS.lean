/- ParseSquares of the reference. -/
import Derived.Test.YtijdlejngdhpjaaDoorRwS
import Derived.Test.YtijdlejngdhpjaaDoorBxS
import Derived.Test.YtijdlejngdhpjaaDoorSq
namespace Go.Proofs.YtijdlejngdhpjaaDoor
open Go.ChangeShapes Go.WideShapes Go.ChangeAt Go.RowKit Go.Proofs
set_option linter.unusedVariables false

/-- the sum of squares with a text -/
def pParseSquares (l : List UInt8) : List (List Int) × Int := match passed pIsSquares (rs_ rpS l) with
  | some X => (X, 0)
  | none => ([], 6)

set_option maxHeartbeats 1600000 in
theorem spec_ParseSquares (l : List UInt8) (w : World) (hl : l.length ≤ 1048576) :
    Calls Tryd.prog 5 #[.string (sB l)] w fun e w' => ∃ G m d vs, e = .returned (.tuple #[.agg #[.slice G m d], .int .i64 (pParseSquares l).2]) ∧ OwnS w' w.heap.size G m d vs (pParseSquares l).1 ∧ Below w.heap.size w w' := by
  have hs : (sB l).size = l.length := sB_size l
  have hb0 := box_below w (.cells #[.slice none 0 0] 24)
  have hbk := Blk.new w #[.slice none 0 0] 24
  have hz : w.heap.size < (w.alloc (.cells #[.slice none 0 0] 24)).heap.size := by simp
  have HB0 := Lib.hid hb0
  have HBK := Lib.hid hbk
  have HZ := Lib.hid hz
  clear hb0 hbk hz
  by_cases h1 : l = [48]
  · subst h1
    have he : ((sB [48]).toList == [48]) = true := by rw [sB_is]; rfl
    have HF := Lib.hid (show pParseSquares [48] = ([], 0) by
      have e1 : rs_ rpS [48] = some [] := rfl
      have e2 : pIsSquares [] = true := by decide
      unfold pParseSquares passed
      rw [e1, Option.bind_some, if_pos e2])
    go_enter Tryd.func5, Tryd.ntmps5
    have c20 := HBK.out.cell 0 rfl
    have f20 := HBK.out.free 0
    go_wp2
    refine bodyPost_ret (v := .tuple #[.agg #[.slice none 0 0], .int .i64 0]) (by simp [results, Tryd.results5, go_sem, c20]) rfl ?_
    rw [HF.out]
    exact ⟨none, 0, 0, [], rfl, OwnS.nil _ _, by first | exact HB0.out | exact HB0.out.setCell (Nat.le_refl _) _⟩
  · have he : ((sB l).toList == [48]) = false := by rw [sB_is]; exact decide_eq_false h1
    have HRS := Lib.hid (show rs_ rpS l = allOf (rw_ rpS) (splitL 43 l) by unfold rs_; rw [if_neg h1])
    have HPL := Lib.hid (fun p (hp : p ∈ splitL 43 l) => splitL_mem 43 l p hp)
    have hpl := splitL_le 43 l
    have CSP := Lib.hid (fun w1 => spec_l01Split l 43 w1 hl)
    clear h1
    go_enter Tryd.func5, Tryd.ntmps5
    go_wp2_with fail
    generalize w.alloc (.cells #[.slice none 0 0] 24) = W0 at *
    refine (CSP.out W0).mono ?_
    rintro e w1 ⟨A1, n1, c1, rfl, ho1, hb1⟩
    have hl1 := ho1.len
    have HO1 := Lib.hid ho1.reads
    have HB1 := Lib.hid hb1
    have HBX := Lib.hid (Blk.new w1 #[.slice none 0 0] 24)
    have HB3 := Lib.hid (box_below w1 (.cells #[.slice none 0 0] 24))
    have HBK1 := Lib.hid (HBK.out.below hb1)
    clear ho1 hb1 he
    generalize splitL 43 l = ps at *
    go_wp2
    generalize hW3 : w1.alloc (.cells #[.slice none 0 0] 24) = W3 at *
    have HW3 := Lib.hid hW3
    clear hW3
    go_loopw [6] (fun iv wr => ∃ (i : Nat) (A : Option Addr) (c : Nat) (vs : List Sl) (acc : List (List Int)), i ≤ n1 ∧ iv = .int .i64 (i : Int) ∧ Blk wr w1.heap.size 24 #[.slice A i c] ∧ OwnS wr w1.heap.size A i c vs acc ∧ (ps.take i).map (rw_ rpS) = acc.map some ∧ Below w1.heap.size w1 wr) (fun iv _ => n1 - (intOf iv).toNat)
    case atStart => exact ⟨0, _, _, [], [], Nat.zero_le _, rfl, HBX.out, OwnS.nil _ _, rfl, HB3.out⟩
    case round =>
      obtain ⟨i, A, c, vs, acc, hi, rfl, hbx, ho, hd, hb⟩ := hrel
      have HBO := Lib.hid hbx
      have HO := Lib.hid ho
      have HB := Lib.hid hb
      have HD := Lib.hid hd
      clear hbx ho hb hd HBX HB3
      by_cases hlt : i < n1
      · have hlt' : (i : Int) < (n1 : Int) := by omega
        obtain ⟨b, off, rfl, hbl, hc⟩ := (HO1.out.below HB.out).at_ hlt
        have hmem := getD_memB ps i (by omega)
        have hpp := HPL.out _ hmem
        have HST := Lib.hid (take_map_snoc (rw_ rpS) ps [] i (by omega))
        clear hbl
        generalize ps.getD i [] = p at *
        have CR := Lib.hid (spec_readWord p wr (by omega))
        go_wp2_with fail
        refine CR.out.mono ?_
        rintro e w4 ⟨A4, n4, c4, rfl, ho4, hb4⟩
        have HO4 := Lib.hid ho4
        have HB4 := Lib.hid hb4
        have HB14 := Lib.hid (HB.out.trans (hb4.mono HB.out.size))
        clear ho4 hb4 hc
        cases hrp : rw_ rpS p with
        | none =>
          have HF := Lib.hid (show pParseSquares l = ([], 6) by
            unfold pParseSquares passed; rw [HRS.out, allOf_none (rw_ rpS) ps p hmem hrp]; rfl)
          have HX3 := Lib.hid (HBK1.out.below HB14.out)
          have c20 := HX3.out.cell 0 rfl
          have f20 := HX3.out.free 0
          simp only [Option.isSome_none]
          go_wp2
          refine bodyPost_ret (v := .tuple #[.agg #[.slice none 0 0], .int .i64 6]) (by simp [results, Tryd.results5, go_sem, c20]) rfl ?_
          rw [HF.out]
          exact ⟨none, 0, 0, [], rfl, OwnS.nil _ _, ((HB0.out.trans (HB1.out.mono HB0.out.size)).trans (HB14.out.mono (Nat.le_trans HB0.out.size HB1.out.size))).setCell (Nat.le_refl _) _⟩
        | some x =>
          have ho5 := HO4.out
          rw [hrp] at ho5 HST
          have HO5 := Lib.hid (show OwnI w4 wr.heap.size A4 n4 c4 x from ho5)
          have HIN := Lib.hid HO.out.inS
          have HBO4 := Lib.hid (HBO.out.below HB4.out)
          have HSO4 := Lib.hid (HO.out.below HB4.out)
          have HAP := Lib.hid (blk_apartS HBO4.out HSO4.out (by decide))
          have k01 := HBO4.out.cell 0 (v := .slice A i c) rfl
          have f01 := HBO4.out.free 0
          have hbl2 := HBO4.out.lt
          clear ho5 hrp HO4
          simp only [Option.isSome_some]
          go_wp2_with (at_builtin; go_loud (refine app1S _ _ w1.heap.size wr.heap.size A i c vs acc (A4, n4, c4) x w4 rfl rfl rfl rfl HSO4.out HO5.out HIN.out HB.out.size (by omega) HB14.out.size ?_; intro g9 c9 w9 ho9 hg9 hat9; have HO9 := Lib.hid ho9; have HB9 := Lib.hid (HB14.out.grown hg9 HB14.out.size (fun k hk => HSO4.out.out_ge hk)); have HBO9 := Lib.hid (HBO4.out.grown hg9 HAP.out); clear ho9 hg9 hat9; have k01 := HBO9.out.cell 0 (v := .slice A i c) rfl; have f01 := HBO9.out.free 0))
          clear f01
          have HO10 := Lib.hid (HO9.out.setBox HBO9.out (by decide) (by decide) 0 (.slice (some ⟨g9, 0, none⟩) (i + 1) c9))
          have HBO10 := Lib.hid (HBO9.out.set 0 (.slice (some ⟨g9, 0, none⟩) (i + 1) c9))
          have HB10 := Lib.hid (HB9.out.setCell (p := ⟨w1.heap.size, 0, none⟩) (Nat.le_refl _) (.slice (some ⟨g9, 0, none⟩) (i + 1) c9))
          have HD9 := Lib.hid (show (ps.take (i + 1)).map (rw_ rpS) = (acc ++ [x]).map some by rw [← HST.out, HD.out]; simp)
          clear k01
          go_roundw
          case rel => exact ⟨i + 1, _, _, _, _, by omega, by go_num, HBO10.out, HO10.out, HD9.out, HB10.out⟩
          case measure => simp [intOf]; omega
      · obtain rfl : i = n1 := by omega
        have HX := Lib.hid (show rs_ rpS l = some acc by
          rw [HRS.out]
          apply allOf_some
          rw [← HD.out, List.take_of_length_le (by omega)])
        have HX3 := Lib.hid (HBK1.out.below HB.out)
        have CI := Lib.hid (spec_l03Is (c := c) HO.out.reads)
        have k01 := HBO.out.cell 0 (v := .slice A i c) rfl
        cases hp : pIsSquares acc with
        | false =>
          rw [hp] at CI
          have HF := Lib.hid (show pParseSquares l = ([], 6) by
            unfold pParseSquares passed; rw [HX.out, Option.bind_some, hp]; rfl)
          clear hp
          go_wp2_with fail
          refine CI.out.mono ?_
          rintro e w5 ⟨rfl, hb5⟩
          have HB5 := Lib.hid (HB.out.trans (hb5.mono HB.out.size))
          have HX5 := Lib.hid (HX3.out.below hb5)
          clear hb5 k01
          have c20 := HX5.out.cell 0 rfl
          have f20 := HX5.out.free 0
          go_wp2
          refine bodyPost_ret (v := .tuple #[.agg #[.slice none 0 0], .int .i64 6]) (by simp [results, Tryd.results5, go_sem, c20]) rfl ?_
          rw [HF.out]
          exact ⟨none, 0, 0, [], rfl, OwnS.nil _ _, ((HB0.out.trans (HB1.out.mono HB0.out.size)).trans (HB5.out.mono (Nat.le_trans HB0.out.size HB1.out.size))).setCell (Nat.le_refl _) _⟩
        | true =>
          rw [hp] at CI
          have HF := Lib.hid (show pParseSquares l = (acc, 0) by
            unfold pParseSquares passed; rw [HX.out, Option.bind_some, if_pos hp])
          clear hp
          go_wp2_with fail
          refine CI.out.mono ?_
          rintro e w5 ⟨rfl, hb5⟩
          have HB5 := Lib.hid (HB.out.trans (hb5.mono HB.out.size))
          have HX5 := Lib.hid (HX3.out.below hb5)
          have HO5 := Lib.hid (HO.out.below hb5)
          have k01 := (HBO.out.below hb5).cell 0 (v := .slice A i c) rfl
          clear hb5
          have c20 := HX5.out.cell 0 rfl
          have f20 := HX5.out.free 0
          go_wp2
          refine bodyPost_ret (v := .tuple #[.agg #[.slice A i c], .int .i64 0]) (by simp [results, Tryd.results5, go_sem, c20]) rfl ?_
          rw [HF.out]
          exact ⟨A, i, c, vs, rfl, (HO5.out.setFar ⟨w.heap.size, 0, none⟩ _ (by show w.heap.size < w1.heap.size; have := HZ.out; have := HB1.out.size; omega)).mono (by have := HZ.out; have := HB1.out.size; omega), ((HB0.out.trans (HB1.out.mono HB0.out.size)).trans (HB5.out.mono (Nat.le_trans HB0.out.size HB1.out.size))).setCell (Nat.le_refl _) _⟩

end Go.Proofs.YtijdlejngdhpjaaDoor
