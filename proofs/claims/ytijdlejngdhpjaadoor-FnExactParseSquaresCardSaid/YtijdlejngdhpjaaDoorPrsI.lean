/- The program's readSum with readWord; its ParseSquares. -/
import Derived.Test.YtijdlejngdhpjaaDoorPrsW
import Derived.Test.YtijdlejngdhpjaaDoorPrsS
namespace Go.Proofs.YtijdlejngdhpjaaDoor
open Go.ChangeShapes Go.WideShapes Go.ChangeAt Go.RowKit Go.Proofs
set_option linter.unusedVariables false

theorem OwnT.kept_outS {w w' B1 A1 n1 c1 xs B A n c vs xss} (h : OwnT w B1 A1 n1 c1 xs) (ho : OwnS w B A n c vs xss) (hg : w.grownBy w' (A.map (·.block))) : OwnT w' B1 A1 n1 c1 xs :=
  h.grown hg (fun a ha e => by
    have h1 := type_apart (k := a.block) h ho.1 (by decide) (by rw [ha]; rfl)
    rw [own_block] at h1
    exact h1 e)

set_option maxHeartbeats 1600000 in
theorem impl_readSum (l : List UInt8) (w : World) (hl : l.length ≤ 1048576) (h : LW w) :
    Calls Tryd.prog 17 #[.string (sB l), .func (.func 18) #[] #[]] w fun e w' => ∃ A n c vs, e = .returned (.tuple #[.slice A n c, .bool (rsI l).isSome]) ∧ OwnS w' w.heap.size A n c vs ((rsI l).getD []) ∧ Below w.heap.size w w' := by
  have hs : (sB l).size = l.length := sB_size l
  have HE := Lib.hid (emptyS_own w)
  have HB0 := Lib.hid (box_below w (.cells #[] 38))
  by_cases h1 : l = [48]
  · subst h1
    have he : ((sB [48]).toList == [48]) = true := by rw [sB_is]; rfl
    clear h
    go_enter Tryd.func17, Tryd.ntmps17
    go_wp2
    go_ret2
    exact ⟨_, _, _, _, rfl, HE.out, HB0.out⟩
  · have he : ((sB l).toList == [48]) = false := by rw [sB_is]; exact decide_eq_false h1
    have HRW := Lib.hid (show rsI l = if 2000 < (splitL 43 l).length then none else allOf (rw_ rpI) (splitL 43 l) by unfold rsI; rw [if_neg h1])
    have HPL := Lib.hid (fun p (hp : p ∈ splitL 43 l) => splitL_mem 43 l p hp)
    have hpl := splitL_le 43 l
    have HL0 := Lib.hid (h.below (box_below w (.cells #[] 38)))
    have HW8 := Lib.hid h.big
    clear h h1
    go_enter Tryd.func17, Tryd.ntmps17
    go_wp2_with fail
    generalize w.alloc (.cells #[] 38) = W0 at *
    refine (split_one l 43 W0 hl HL0.out).mono ?_
    rintro e w1 ⟨A1, n1, c1, rfl, ho1, hb1⟩
    have hl1 := ho1.len
    have HO1 := Lib.hid ho1
    have HB1 := Lib.hid (HB0.out.trans (hb1.mono HB0.out.size))
    have HL1 := Lib.hid (HL0.out.below hb1)
    have HE1 := Lib.hid (HE.out.below hb1)
    clear ho1 hb1 he HE HL0
    generalize splitL 43 l = ps at *
    go_wp2
    go_loopw [6, 18] (fun o iv wr => ∃ (i : Nat) (A : Option Addr) (c : Nat) (vs : List Sl) (acc : List (List Int)), i ≤ n1 ∧ i ≤ 2000 ∧ iv = .int .i64 (i : Int) ∧ o = .slice A i c ∧ OwnS wr w.heap.size A i c vs acc ∧ (ps.take i).map (rw_ rpI) = acc.map some ∧ Below w.heap.size w wr ∧ OwnT wr W0.heap.size A1 n1 c1 ps ∧ LW wr) (fun _ iv _ => n1 - (intOf iv).toNat)
    case atStart => exact ⟨0, _, _, [], [], Nat.zero_le _, Nat.zero_le _, rfl, rfl, HE1.out, rfl, HB1.out, HO1.out, HL1.out⟩
    case round =>
      obtain ⟨i, A, c, vs, acc, hi, hi2, rfl, rfl, ho, hd, hb, hrt, hlw⟩ := hrel
      have HO := Lib.hid ho
      have HB := Lib.hid hb
      have HD := Lib.hid hd
      have HRT := Lib.hid hrt
      have HLW := Lib.hid hlw
      clear ho hb hd hlw HE1 HL1 HO1 HB1
      by_cases hlt : i < n1
      · have hlt' : (i : Int) < (n1 : Int) := by omega
        obtain ⟨b, off, rfl, hbl, hc⟩ := hrt.reads.at_ hlt
        have hmem := getD_memB ps i (by omega)
        have hpp := HPL.out _ hmem
        have HST := Lib.hid (take_map_snoc (rw_ rpI) ps [] i (by omega))
        clear hbl hrt
        generalize ps.getD i [] = p at *
        have CR := Lib.hid (impl_readWord p wr (by omega) HLW.out)
        go_wp2_with fail
        refine CR.out.mono ?_
        rintro e w4 ⟨A4, n4, c4, rfl, ho4, hb4⟩
        have HB4 := Lib.hid (HB.out.trans (hb4.mono HB.out.size))
        have HSO4 := Lib.hid (HO.out.below hb4)
        have HRT4 := Lib.hid (HRT.out.below hb4)
        have HLW4 := Lib.hid (HLW.out.below hb4)
        have HIN := Lib.hid HO.out.inS
        have HO4 := Lib.hid ho4
        clear ho4 hb4 hc
        cases hrp : rw_ rpI p with
        | none =>
          have HF := Lib.hid (show rsI l = none by
            rw [HRW.out]
            split
            · rfl
            · exact allOf_none (rw_ rpI) ps p hmem hrp)
          clear hrp HO4
          simp only [Option.isSome_none]
          go_wp2
          go_ret2
          exact ⟨none, 0, 0, [], by rw [HF.out]; rfl, by rw [HF.out]; exact OwnS.nil _ _, HB4.out⟩
        | some x =>
          have ho5 := HO4.out
          rw [hrp] at ho5 HST
          have HO5 := Lib.hid (show OwnI w4 wr.heap.size A4 n4 c4 x from ho5)
          clear ho5 hrp HO4
          simp only [Option.isSome_some]
          by_cases hmax : i = 2000
          · have HF := Lib.hid (show rsI l = none by rw [HRW.out, if_pos (by omega)])
            have hm1 : ((i : Int) == 2000) = true := by rw [beq_iff_eq]; omega
            clear hmax
            go_wp2
            go_ret2
            exact ⟨none, 0, 0, [], by rw [HF.out]; rfl, by rw [HF.out]; exact OwnS.nil _ _, HB4.out⟩
          · have hm1 : ((i : Int) == 2000) = false := by rw [beq_eq_false_iff_ne]; omega
            go_wp2_with (at_builtin; refine app1S _ _ w.heap.size wr.heap.size A i c vs acc (A4, n4, c4) x w4 rfl rfl rfl rfl HSO4.out HO5.out HIN.out HB.out.size (by omega) HB4.out.size ?_; intro g9 c9 w9 ho9 hg9 hat9)
            have HO9 := Lib.hid ho9
            have HB9 := Lib.hid (HB4.out.grown hg9 HB4.out.size (fun k hk => HSO4.out.out_ge hk))
            have HRT9 := Lib.hid (HRT4.out.kept_outS HSO4.out hg9)
            have HLW9 := Lib.hid (HLW4.out.grown hg9 (fun k hk => Nat.le_trans HW8.out (HSO4.out.out_ge hk)))
            have HD9 := Lib.hid (show (ps.take (i + 1)).map (rw_ rpI) = (acc ++ [x]).map some by rw [← HST.out, HD.out]; simp)
            clear ho9 hg9 hat9
            go_roundw
            case rel => exact ⟨i + 1, _, _, _, _, by omega, by omega, by go_num, rfl, HO9.out, HD9.out, HB9.out, HRT9.out, HLW9.out⟩
            case measure => simp [intOf]; omega
      · obtain rfl : i = n1 := by omega
        have HF := Lib.hid (show rsI l = some acc by
          rw [HRW.out, if_neg (by omega)]
          apply allOf_some
          rw [← HD.out, List.take_of_length_le (by omega)])
        go_wp2
        go_ret2
        exact ⟨_, _, _, _, by rw [HF.out]; rfl, by rw [HF.out]; exact HO.out, HB.out⟩

theorem sq_good (X : List (List Int)) (h : pIsSquares X = true) : X.length ≤ 2000 ∧ ∀ xs ∈ X, ∀ x ∈ xs, goodN x :=
  ⟨(pIsSquares_true h).1, fun xs hxs x hx => by
    have h1 := (wordB_true ((pIsSquares_true h).2.1 xs hxs)).2.1 x hx
    exact ⟨by omega, by omega⟩⟩

theorem pParse_I (l : List UInt8) : pParseSquares l = match passed pIsSquares (rsI l) with
    | some X => (X, 0)
    | none => ([], 6) := by
  unfold pParseSquares
  rw [read_same pIsSquares sq_good l]
  rfl

theorem rs_tot (l : List UInt8) (X : List (List Int)) (h : rsI l = some X) : 2 * (X.length + tot X) ≤ l.length + 1 := by
  have h1 := rs_size rpI rpI_long l X (rsI_rs l X h)
  have h2 : (X.map fun xs => 2 * (xs.length + 1)).sum = 2 * (X.length + tot X) := by
    clear h h1
    induction X with
    | nil => rfl
    | cons a t ih => simp only [List.map_cons, List.sum_cons, ih, List.length_cons, tot]; omega
  omega

set_option maxHeartbeats 1600000 in
theorem impl_ParseSquares (l : List UInt8) (w : World) (hl : l.length ≤ 1048576) (h : LW w) :
    Calls Tryd.prog 6 #[.string (sB l)] w fun e w' => ∃ G m d vs, e = .returned (.tuple #[.agg #[.slice G m d], .int .i64 (pParseSquares l).2]) ∧ OwnS w' w.heap.size G m d vs (pParseSquares l).1 ∧ Below w.heap.size w w' := by
  have hb0 := box_below w (.cells #[.slice none 0 0] 24)
  have hbk := Blk.new w #[.slice none 0 0] 24
  have hz : w.heap.size < (w.alloc (.cells #[.slice none 0 0] 24)).heap.size := by simp
  have HB0 := Lib.hid hb0
  have HBK := Lib.hid hbk
  have HZ := Lib.hid hz
  have HL0 := Lib.hid (h.below hb0)
  have HPI := Lib.hid (pParse_I l)
  clear h hb0 hbk hz
  go_enter Tryd.func6, Tryd.ntmps6
  go_wp2_with fail
  generalize w.alloc (.cells #[.slice none 0 0] 24) = W0 at *
  refine (impl_readSum l W0 hl HL0.out).mono ?_
  rintro e w1 ⟨A, n, c, vs, rfl, ho, hb⟩
  have HB1 := Lib.hid hb
  have HBK1 := Lib.hid (HBK.out.below hb)
  have HB3 := Lib.hid (box_below w1 (.cells #[.slice A n c] 24))
  have HBX := Lib.hid (Blk.new w1 #[.slice A n c] 24)
  cases hr : rsI l with
  | none =>
    have HF := Lib.hid (show pParseSquares l = ([], 6) by rw [HPI.out, hr]; rfl)
    have HBK3 := Lib.hid (HBK1.out.below HB3.out)
    have c20 := HBK3.out.cell 0 rfl
    have f20 := HBK3.out.free 0
    clear ho hb hr
    simp only [Option.isSome_none]
    go_wp2
    refine bodyPost_ret (v := .tuple #[.agg #[.slice none 0 0], .int .i64 6]) (by simp [results, Tryd.results6, go_sem, c20]) rfl ?_
    rw [HF.out]
    exact ⟨none, 0, 0, [], rfl, OwnS.nil _ _, ((HB0.out.trans (HB1.out.mono HB0.out.size)).trans (HB3.out.mono (Nat.le_trans HB0.out.size HB1.out.size))).setCell (Nat.le_refl _) _⟩
  | some X =>
    have hx := ho
    rw [hr] at hx
    have HO := Lib.hid (show OwnS w1 W0.heap.size A n c vs X from hx)
    have HO3 := Lib.hid (HO.out.below HB3.out)
    have htot := rs_tot l X hr
    have hn := HO.out.len
    have CI := Lib.hid (fun w2 (hb2 : Below w1.heap.size w1 w2) => impl_IsSquares (c := c) ((HO.out.below hb2).reads) (by omega))
    have HR := Lib.hid hr
    have HBK3 := Lib.hid (HBK1.out.below HB3.out)
    have k01 := HBX.out.cell 0 (v := .slice A n c) rfl
    clear ho hb hr hx htot
    simp only [Option.isSome_some]
    cases hp : pIsSquares X with
    | false =>
      have HF := Lib.hid (show pParseSquares l = ([], 6) by
        rw [HPI.out, HR.out]; unfold passed; rw [Option.bind_some, hp]; rfl)
      rw [hp] at CI
      clear hp
      go_wp2_with fail
      generalize w1.alloc (.cells #[.slice A n c] 24) = W3 at *
      refine (CI.out W3 HB3.out).mono ?_
      rintro e w5 ⟨rfl, hb5⟩
      have HB5 := Lib.hid (HB3.out.trans (hb5.mono HB3.out.size))
      have HX5 := Lib.hid (HBK3.out.below hb5)
      clear hb5 k01
      have c20 := HX5.out.cell 0 rfl
      have f20 := HX5.out.free 0
      go_wp2
      refine bodyPost_ret (v := .tuple #[.agg #[.slice none 0 0], .int .i64 6]) (by simp [results, Tryd.results6, go_sem, c20]) rfl ?_
      rw [HF.out]
      exact ⟨none, 0, 0, [], rfl, OwnS.nil _ _, ((HB0.out.trans (HB1.out.mono HB0.out.size)).trans (HB5.out.mono (Nat.le_trans HB0.out.size HB1.out.size))).setCell (Nat.le_refl _) _⟩
    | true =>
      have HF := Lib.hid (show pParseSquares l = (X, 0) by
        rw [HPI.out, HR.out]; unfold passed; rw [Option.bind_some, if_pos hp])
      rw [hp] at CI
      clear hp
      go_wp2_with fail
      generalize w1.alloc (.cells #[.slice A n c] 24) = W3 at *
      refine (CI.out W3 HB3.out).mono ?_
      rintro e w5 ⟨rfl, hb5⟩
      have HB5 := Lib.hid (HB3.out.trans (hb5.mono HB3.out.size))
      have HX5 := Lib.hid (HBK3.out.below hb5)
      have HO5 := Lib.hid (HO3.out.below hb5)
      have k01 := (HBX.out.below hb5).cell 0 (v := .slice A n c) rfl
      clear hb5
      have c20 := HX5.out.cell 0 rfl
      have f20 := HX5.out.free 0
      go_wp2
      refine bodyPost_ret (v := .tuple #[.agg #[.slice A n c], .int .i64 0]) (by simp [results, Tryd.results6, go_sem, c20]) rfl ?_
      rw [HF.out]
      exact ⟨A, n, c, vs, rfl, (HO5.out.setFar ⟨w.heap.size, 0, none⟩ _ (by show w.heap.size < W0.heap.size; exact HZ.out)).mono (Nat.le_of_lt HZ.out), ((HB0.out.trans (HB1.out.mono HB0.out.size)).trans (HB5.out.mono (Nat.le_trans HB0.out.size HB1.out.size))).setCell (Nat.le_refl _) _⟩

end Go.Proofs.YtijdlejngdhpjaaDoor
