/- The program's readWord: a word read from a text. -/
import Derived.Test.YtijdlejngdhpjaaDoorPrsD
namespace Go.Proofs.YtijdlejngdhpjaaDoor
open Go.ChangeShapes Go.WideShapes Go.ChangeAt Go.RowKit Go.Proofs
set_option linter.unusedVariables false

/-- strings.Split at a separator of one byte -/
theorem split_one (l : List UInt8) (b : UInt8) (w : World) (hl : l.length ≤ 1048576) (h : LW w) :
    Calls Tryd.prog 32 #[.string (sB l), .string (sB [b])] w fun e w' => ∃ A n c, e = .returned (.slice A n c) ∧ OwnT w' w.heap.size A n c (splitL b l) ∧ Below w.heap.size w w' := by
  obtain ⟨m, hm⟩ := h.max
  refine (Tryd.strings_Split (sB l) (sB [b]) m w (by rw [sB_size]; omega) hm (by rw [sB_size]; exact Nat.le_refl _)).mono fun e w' h1 => ?_
  obtain ⟨he, hw⟩ := h1
  have hmap : (Lib.splitB (sB [b]) 0 (Lib.countB (sB l) (sB [b])) (sB l)).map (·.data.toList) = splitL b l := splitB_all b (sB l)
  have hlen : (Lib.splitB (sB [b]) 0 (Lib.countB (sB l) (sB [b])) (sB l)).length = Lib.countB (sB l) (sB [b]) + 1 := Lib.splitB_all (sB [b]) (by rw [sB_size]; exact Nat.le_refl _) 0 _ (sB l) rfl
  have hle := splitL_le b l
  generalize Lib.splitB (sB [b]) 0 (Lib.countB (sB l) (sB [b])) (sB l) = ys at *
  generalize Lib.countB (sB l) (sB [b]) = k at *
  have hk : k + 1 ≤ 1048577 := by rw [← hmap, List.length_map, hlen] at hle; omega
  have hown := World.ownsRow_lit (base := w.heap.size) (e := 9) (size := 1) w (ys.map Value.string).toArray (k + 1) (Nat.le_refl _) (by unfold maxLen; omega) (by simp [hlen])
  have hcells : (ys.map Value.string).toArray.toList = (splitL b l).map fun x => Value.string (sB x) := by
    rw [← hmap, List.map_map]
    rfl
  rw [hcells] at hown
  exact ⟨_, _, _, he, by rw [hw]; exact hown, by rw [hw]; exact (Below.refl _ _).alloc (Nat.le_refl _) _⟩

theorem OwnT.kept_outI {w w' B1 A1 n1 c1 xs B A n c ys} (h : OwnT w B1 A1 n1 c1 xs) (ho : OwnI w B A n c ys) (hg : w.grownBy w' (A.map (·.block))) : OwnT w' B1 A1 n1 c1 xs :=
  h.grown hg (fun a ha e => by
    have h1 := type_apart (k := a.block) h ho.1 (by decide) (by rw [ha]; rfl)
    rw [own_block] at h1
    exact h1 e)

theorem LW.grown {w w' : World} {row : Option Nat} (h : LW w) (hg : w.grownBy w' row) (hr : ∀ k, row = some k → 8 ≤ k) : LW w' := by
  have h8 := h.big
  have hb : Below 8 w w' := ⟨hg.os, hg.tape, hg.output, hg.size, fun k hk => hg.block k (by omega) (fun e => by have := hr k e.symm; omega)⟩
  refine ⟨Nat.le_trans h8 hg.size, var?_below hb Tryd.gTab (by omega) h.tab, ?_, ?_, ?_⟩
  · obtain ⟨tp, p, hv⟩ := h.syn
    exact ⟨tp, p, var?_below hb Tryd.gSyn (by omega) hv⟩
  · obtain ⟨tp, p, hv⟩ := h.rng
    exact ⟨tp, p, var?_below hb Tryd.gRng (by omega) hv⟩
  · obtain ⟨m, hm⟩ := h.max
    exact ⟨m, (hb.cell (p := ⟨0, 0, none⟩) (by show 0 < 8; omega)).trans hm⟩

theorem trim_len (p : List UInt8) : (Lib.trimPrefix p [83, 113]).length ≤ p.length := by
  unfold Lib.trimPrefix
  split
  · simp
  · exact Nat.le_refl _

set_option maxHeartbeats 1600000 in
theorem impl_readWord (l : List UInt8) (w : World) (hl : l.length ≤ 1048576) (h : LW w) :
    Calls Tryd.prog 18 #[.string (sB l)] w fun e w' => ∃ A n c, e = .returned (.tuple #[.slice A n c, .bool (rw_ rpI l).isSome]) ∧ OwnI w' w.heap.size A n c ((rw_ rpI l).getD []) ∧ Below w.heap.size w w' := by
  have hs : (sB l).size = l.length := sB_size l
  by_cases h1 : l = [49]
  · subst h1
    have HE := Lib.hid (empty_own w)
    have HB0 := Lib.hid (box_below w (.cells #[] 2))
    have he : ((sB [49]).toList == [49]) = true := by rw [sB_is]; rfl
    clear h
    go_enter Tryd.func18, Tryd.ntmps18
    go_wp2
    go_ret2
    exact ⟨_, _, _, rfl, HE.out, HB0.out⟩
  · have he : ((sB l).toList == [49]) = false := by rw [sB_is]; exact decide_eq_false h1
    have HRW := Lib.hid (show rw_ rpI l = allOf rpI (splitL 32 l) by unfold rw_; rw [if_neg h1])
    have HPL := Lib.hid (fun p (hp : p ∈ splitL 32 l) => splitL_mem 32 l p hp)
    have hpl := splitL_le 32 l
    have HE := Lib.hid (empty_own w)
    have HB0 := Lib.hid (box_below w (.cells #[] 2))
    have HL0 := Lib.hid (h.below (box_below w (.cells #[] 2)))
    have HW8 := Lib.hid h.big
    clear h h1
    go_enter Tryd.func18, Tryd.ntmps18
    go_wp2_with fail
    generalize w.alloc (.cells #[] 2) = W0 at *
    refine (split_one l 32 W0 hl HL0.out).mono ?_
    rintro e w1 ⟨A1, n1, c1, rfl, ho1, hb1⟩
    have hl1 := ho1.len
    have HO1 := Lib.hid ho1
    have HB1 := Lib.hid (HB0.out.trans (hb1.mono HB0.out.size))
    have HL1 := Lib.hid (HL0.out.below hb1)
    have HE1 := Lib.hid (HE.out.below hb1)
    clear ho1 hb1 he HE HL0
    generalize splitL 32 l = ps at *
    go_wp2
    go_loopw [4, 18] (fun o iv wr => ∃ (i : Nat) (A : Option Addr) (c : Nat) (done : List Int), i ≤ n1 ∧ iv = .int .i64 (i : Int) ∧ o = .slice A i c ∧ OwnI wr w.heap.size A i c done ∧ (ps.take i).map rpI = done.map some ∧ Below w.heap.size w wr ∧ OwnT wr W0.heap.size A1 n1 c1 ps ∧ LW wr) (fun _ iv _ => n1 - (intOf iv).toNat)
    case atStart => exact ⟨0, _, _, [], Nat.zero_le _, rfl, rfl, HE1.out, rfl, HB1.out, HO1.out, HL1.out⟩
    case round =>
      obtain ⟨i, A, c, done, hi, rfl, rfl, ho, hd, hb, hrt, hlw⟩ := hrel
      have HO := Lib.hid ho
      have HB := Lib.hid hb
      have HD := Lib.hid hd
      have HRT := Lib.hid hrt
      have HLW := Lib.hid hlw
      clear ho hb hd hlw HE1 HL1 HO1 HB1
      by_cases hlt : i < n1
      · have hlt' : (i : Int) < (n1 : Int) := by omega
        obtain ⟨b, off, rfl, hbl, hc⟩ := hrt.reads.at_ hlt
        have hmem := getD_memB ps i (by omega)
        have hpp := HPL.out _ hmem
        have HST := Lib.hid (take_map_snoc rpI ps [] i (by omega))
        clear hbl hrt
        generalize ps.getD i [] = p at *
        have htl := trim_len p
        have CC := Lib.hid (Tryd.strings_CutPrefix (sB p) (sB [83, 113]) wr)
        have CR := Lib.hid (impl_readDecimal (Lib.trimPrefix p [83, 113]) wr (by omega) HLW.out)
        have HRP := Lib.hid (show rpI p = if Lib.hasPrefix p [83, 113] = true then rdI (Lib.trimPrefix p [83, 113]) else none from rfl)
        rw [sB_data, sB_data] at CC
        generalize Lib.hasPrefix p [83, 113] = hp at *
        generalize Lib.trimPrefix p [83, 113] = q at *
        go_wp2_with (first | (go_at_call 33; refine CC.out.mono ?_; rintro e w3 ⟨rfl, rfl⟩) | fail)
        refine CR.out.mono ?_
        rintro e w2 ⟨v, rfl, hv, hvI, hb2⟩
        have HB2 := Lib.hid (HB.out.trans (hb2.mono HB.out.size))
        have HO2 := Lib.hid (HO.out.below hb2)
        have HRT2 := Lib.hid (HRT.out.below hb2)
        have HLW2 := Lib.hid (HLW.out.below hb2)
        clear hb2 hc
        cases hp with
        | false =>
          have HF := Lib.hid (show rw_ rpI l = none by rw [HRW.out]; exact allOf_none rpI ps p hmem HRP.out)
          clear hv
          go_wp2
          go_ret2
          exact ⟨none, 0, 0, by rw [HF.out]; rfl, by rw [HF.out]; exact OwnI.nil _ _, HB2.out⟩
        | true =>
          cases hrd : rdI q with
          | none =>
            have HF := Lib.hid (show rw_ rpI l = none by rw [HRW.out]; exact allOf_none rpI ps p hmem (HRP.out.trans hrd))
            clear hv
            simp only [Option.isSome_none]
            go_wp2
            go_ret2
            exact ⟨none, 0, 0, by rw [HF.out]; rfl, by rw [HF.out]; exact OwnI.nil _ _, HB2.out⟩
          | some x =>
            obtain rfl := hv x hrd
            have HRX := Lib.hid (HRP.out.trans hrd)
            clear hv hrd
            simp only [Option.isSome_some]
            go_wp2_with (at_builtin; refine app1 _ _ _ _ _ _ _ _ _ rfl rfl rfl rfl HO2.out hvI (by omega) HB2.out.size ?_; intro g9 c9 w9 ho9 hg9)
            have HO9 := Lib.hid ho9
            have HB9 := Lib.hid (HB2.out.grown hg9 HB2.out.size (fun j hj => HO2.out.row_ge hj))
            have HRT9 := Lib.hid (HRT2.out.kept_outI HO2.out hg9)
            have HLW9 := Lib.hid (HLW2.out.grown hg9 (fun k hk => Nat.le_trans HW8.out (HO2.out.row_ge hk)))
            have HD9 := Lib.hid (show (ps.take (i + 1)).map rpI = (done ++ [v]).map some by rw [← HST.out, HD.out, HRX.out]; simp)
            clear ho9 hg9
            go_roundw
            case rel => exact ⟨i + 1, _, _, _, by omega, by go_num, rfl, HO9.out, HD9.out, HB9.out, HRT9.out, HLW9.out⟩
            case measure => simp [intOf]; omega
      · obtain rfl : i = n1 := by omega
        have HF := Lib.hid (show rw_ rpI l = some done by
          rw [HRW.out]
          apply allOf_some
          rw [← HD.out, List.take_of_length_le (by omega)])
        go_wp2
        go_ret2
        exact ⟨_, _, _, by rw [HF.out]; rfl, by rw [HF.out]; exact HO.out, HB.out⟩

end Go.Proofs.YtijdlejngdhpjaaDoor
