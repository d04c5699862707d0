/- The reference's l03ReadWord: a word read from a text. -/
import Derived.Test.YtijdlejngdhpjaaDoorVal
import Derived.Test.YtijdlejngdhpjaaDoorTxtW
namespace Go.Proofs.YtijdlejngdhpjaaDoor
open Go.ChangeShapes Go.WideShapes Go.ChangeAt Go.RowKit Go.Proofs
set_option linter.unusedVariables false

theorem getD_memB (ps : List (List UInt8)) (k : Nat) (h : k < ps.length) : ps.getD k [] ∈ ps := by
  simp [List.getD, h]

theorem sum_mem_le (ps : List (List UInt8)) (p : List UInt8) (h : p ∈ ps) : p.length + 1 ≤ (ps.map fun p => p.length + 1).sum := by
  induction ps with
  | nil => cases h
  | cons a t ih =>
    simp only [List.map_cons, List.sum_cons]
    rcases List.mem_cons.1 h with rfl | h
    · omega
    · have := ih h; omega

theorem splitL_mem (b : UInt8) (l p : List UInt8) (h : p ∈ splitL b l) : p.length ≤ l.length := by
  have := sum_mem_le _ p h
  rw [splitL_bytes] at this
  omega

theorem sB_is (l m : List UInt8) : ((sB l).toList == m) = decide (l = m) := by
  rw [ByteArray.toList_eq, sB_data]
  by_cases h : l = m
  · rw [decide_eq_true h, beq_iff_eq]; exact h
  · rw [decide_eq_false h, beq_eq_false_iff_ne]; exact h

theorem valGo_bd (l : List UInt8) (a v k : Nat) (h : valGo a l = some v) (ha : a < 10 ^ k) : v < 10 ^ (k + l.length) := by
  induction l generalizing a k with
  | nil => simp [valGo] at h; simpa [← h] using ha
  | cons c r ih =>
    rw [valGo] at h
    split at h
    · cases h
    · next hc =>
      have := ih _ (k + 1) h (by rw [Nat.pow_succ]; omega)
      rw [List.length_cons, show k + (r.length + 1) = k + 1 + r.length by omega]
      exact this

theorem valL_I64 (l : List UInt8) : I64 (valL l) := by
  unfold valL
  split
  · exact I64.mk (by decide) (by decide)
  · next hc =>
    cases hm : valGo 0 l with
    | none => exact I64.mk (by decide) (by decide)
    | some m =>
      have h1 := valGo_bd l 0 m 0 hm (by decide)
      have h2 : 10 ^ (0 + l.length) ≤ 10 ^ 9 := Nat.pow_le_pow_right (by omega) (by omega)
      exact I64.mk (by simp only; omega) (by simp only; omega)

set_option maxHeartbeats 1600000 in
theorem spec_readWord (l : List UInt8) (w : World) (hl : l.length ≤ 1048576) :
    Calls Tryd.prog 15 #[.string (sB l)] w fun e w' => ∃ A n c, e = .returned (.tuple #[.slice A n c, .bool (rw_ rpS l).isSome]) ∧ OwnI w' w.heap.size A n c ((rw_ rpS l).getD []) ∧ Below w.heap.size w w' := by
  have hs : (sB l).size = l.length := sB_size l
  by_cases h1 : l = [49]
  · subst h1
    have HE := Lib.hid (empty_own w)
    have HB0 := Lib.hid (box_below w (.cells #[] 2))
    have he : ((sB [49]).toList == [49]) = true := by rw [sB_is]; rfl
    go_enter Tryd.func15, Tryd.ntmps15
    go_wp2
    go_ret2
    exact ⟨_, _, _, rfl, HE.out, HB0.out⟩
  · have he : ((sB l).toList == [49]) = false := by rw [sB_is]; exact decide_eq_false h1
    have HRW := Lib.hid (show rw_ rpS l = allOf rpS (splitL 32 l) by unfold rw_; rw [if_neg h1])
    have HPL := Lib.hid (fun p (hp : p ∈ splitL 32 l) => splitL_mem 32 l p hp)
    have hpl := splitL_le 32 l
    go_enter Tryd.func15, Tryd.ntmps15
    go_wp2_with fail
    refine (spec_l01Split l 32 w hl).mono ?_
    rintro e w1 ⟨A1, n1, c1, rfl, ho1, hb1⟩
    have hl1 := ho1.len
    have HO1 := Lib.hid ho1.reads
    have HB1 := Lib.hid hb1
    have HE := Lib.hid (empty_own w1)
    have HB0 := Lib.hid (box_below w1 (.cells #[] 2))
    clear ho1 hb1 he
    generalize splitL 32 l = ps at *
    go_wp2
    go_loopw [5, 6] (fun o iv wr => ∃ (i : Nat) (A : Option Addr) (c : Nat) (done : List Int), i ≤ n1 ∧ iv = .int .i64 (i : Int) ∧ o = .slice A i c ∧ OwnI wr w1.heap.size A i c done ∧ (ps.take i).map rpS = done.map some ∧ Below w1.heap.size w1 wr) (fun _ iv _ => n1 - (intOf iv).toNat)
    case atStart => exact ⟨0, _, _, [], Nat.zero_le _, rfl, rfl, HE.out, rfl, HB0.out⟩
    case round =>
      obtain ⟨i, A, c, done, hi, rfl, rfl, ho, hd, hb⟩ := hrel
      have HO := Lib.hid ho
      have HB := Lib.hid hb
      have HD := Lib.hid hd
      clear ho hb hd
      by_cases hlt : i < n1
      · have hlt' : (i : Int) < (n1 : Int) := by omega
        obtain ⟨b, off, rfl, hbl, hc⟩ := (HO1.out.below HB.out).at_ hlt
        have hmem := getD_memB ps i (by omega)
        have hpp := HPL.out _ hmem
        have HST := Lib.hid (take_map_snoc rpS ps [] i (by omega))
        clear hbl
        generalize ps.getD i [] = p at *
        have hps : (sB p).size = p.length := sB_size p
        have e02 : (sB p).extract 0 2 = sB (p.take 2) := sB_extract p 0 2
        by_cases h3 : p.length < 3
        · have h3' : (p.length : Int) < 3 := by omega
          have HF := Lib.hid (show rw_ rpS l = none by rw [HRW.out]; exact allOf_none rpS ps p hmem (by unfold rpS; rw [if_pos (.inl h3)]))
          go_wp2
          go_ret2
          exact ⟨none, 0, 0, by rw [HF.out]; rfl, by rw [HF.out]; exact OwnI.nil _ _, HB1.out.trans (HB.out.mono HB1.out.size)⟩
        · have h3' : ¬ (p.length : Int) < 3 := by omega
          by_cases hq : p.take 2 = [83, 113]
          · have hq' : ((sB (p.take 2)).toList == [83, 113]) = true := by rw [sB_is]; exact decide_eq_true hq
            have hex := sB_extract p 2 p.length
            rw [show (p.drop 2).take (p.length - 2) = p.drop 2 from List.take_of_length_le (by simp)] at hex
            have HV := Lib.hid (show rpS p = some (valL (p.drop 2)) by unfold rpS; rw [if_neg (fun e => e.elim (fun e => h3 e) (fun e => e hq))])
            have CV := Lib.hid (spec_l01Value (p.drop 2) wr (by simp; omega))
            have hvv : I64 (valL (p.drop 2)) := valL_I64 _
            rw [HV.out] at HST
            clear hq
            generalize valL (p.drop 2) = v at *
            go_wp2_with (first | (go_at_call 28; refine CV.out.mono ?_; rintro e w4 ⟨rfl, rfl⟩) | (at_builtin; refine app1 _ _ _ _ _ _ _ _ _ rfl rfl rfl rfl HO.out hvv (by omega) HB.out.size ?_; intro g9 c9 w9 ho9 hg9))
            have HO9 := Lib.hid ho9
            have HB9 := Lib.hid (HB.out.grown hg9 HB.out.size (fun j hj => HO.out.row_ge hj))
            have HD9 := Lib.hid (show (ps.take (i + 1)).map rpS = (done ++ [v]).map some by rw [← HST.out, HD.out]; simp)
            clear ho9 hg9
            go_roundw
            case rel => exact ⟨i + 1, _, _, _, by omega, by go_num, rfl, HO9.out, HD9.out, HB9.out⟩
            case measure => simp [intOf]; omega
          · have hq' : ((sB (p.take 2)).toList == [83, 113]) = false := by rw [sB_is]; exact decide_eq_false hq
            have HF := Lib.hid (show rw_ rpS l = none by rw [HRW.out]; exact allOf_none rpS ps p hmem (by unfold rpS; rw [if_pos (.inr hq)]))
            go_wp2
            go_ret2
            exact ⟨none, 0, 0, by rw [HF.out]; rfl, by rw [HF.out]; exact OwnI.nil _ _, HB1.out.trans (HB.out.mono HB1.out.size)⟩
      · obtain rfl : i = n1 := by omega
        have HF := Lib.hid (show rw_ rpS l = some done by
          rw [HRW.out]
          apply allOf_some
          rw [← HD.out, List.take_of_length_le (by omega)])
        go_wp2
        go_ret2
        exact ⟨_, _, _, by rw [HF.out]; rfl, by rw [HF.out]; exact HO.out.mono HB1.out.size, HB1.out.trans (HB.out.mono HB1.out.size)⟩

end Go.Proofs.YtijdlejngdhpjaaDoor
