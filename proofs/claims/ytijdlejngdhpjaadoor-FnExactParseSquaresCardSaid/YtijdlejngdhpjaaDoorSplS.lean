/- The reference's l01Split: the parts of a text between bytes. -/
import Derived.Test.YtijdlejngdhpjaaDoorTxt
import Derived.Test.YtijdlejngdhpjaaDoorSq
namespace Go.Proofs.YtijdlejngdhpjaaDoor
open Go.ChangeShapes Go.WideShapes Go.ChangeAt Go.RowKit Go.Proofs
set_option linter.unusedVariables false

theorem sB_extract (l : List UInt8) (a b : Nat) : (sB l).extract a b = sB ((l.drop a).take (b - a)) := by
  have : ((sB l).extract a b).data.toList = (l.drop a).take (b - a) := by rw [Lib.extract_data]; rfl
  rw [← this]; rfl

theorem drop_part (l : List UInt8) (a i : Nat) (c : UInt8) (ha : a ≤ i) (hc : l[i]? = some c) : l.drop a = (l.drop a).take (i - a) ++ c :: l.drop (i + 1) := by
  have hi : i < l.length := (List.getElem?_eq_some_iff.1 hc).1
  conv => lhs; rw [← List.take_append_drop (i - a) (l.drop a)]
  rw [List.drop_drop, show a + (i - a) = i by omega, List.drop_eq_getElem_cons hi, (List.getElem?_eq_some_iff.1 hc).2]

theorem take_part (l : List UInt8) (a i : Nat) (c : UInt8) (ha : a ≤ i) (hc : l[i]? = some c) : (l.drop a).take (i + 1 - a) = (l.drop a).take (i - a) ++ [c] := by
  have hi : i < l.length := (List.getElem?_eq_some_iff.1 hc).1
  rw [show i + 1 - a = (i - a) + 1 by omega, List.take_add_one, List.getElem?_drop, show a + (i - a) = i by omega, hc]
  rfl

set_option maxHeartbeats 800000 in
theorem spec_l01Split (l : List UInt8) (b : UInt8) (w : World) (hl : l.length ≤ 1048576) :
    Calls Tryd.prog 14 #[.string (sB l), .int .u8 (b.toNat : Int)] w fun e w' => ∃ A n c, e = .returned (.slice A n c) ∧ OwnT w' w.heap.size A n c (splitL b l) ∧ Below w.heap.size w w' := by
  have HE := Lib.hid (emptyT_own w)
  have HB0 := Lib.hid (box_below w (.cells #[] 9))
  have hs : (sB l).size = l.length := sB_size l
  go_enter Tryd.func14, Tryd.ntmps14
  go_wp2
  go_loopw [5, 6, 7] (fun o av iv wr => ∃ (at_ i : Nat) (A : Option Addr) (m c : Nat) (done : List (List UInt8)), at_ ≤ i ∧ i ≤ l.length ∧ m ≤ i ∧ av = .int .i64 (at_ : Int) ∧ iv = .int .i64 (i : Int) ∧ o = .slice A m c ∧ OwnT wr w.heap.size A m c done ∧ b ∉ (l.drop at_).take (i - at_) ∧ splitL b l = done ++ splitL b (l.drop at_) ∧ Below w.heap.size w wr) (fun _ _ iv _ => l.length - (intOf iv).toNat)
  case atStart => exact ⟨0, 0, _, _, _, [], Nat.le_refl _, Nat.zero_le _, Nat.le_refl _, rfl, rfl, rfl, HE.out, by simp, by simp, HB0.out⟩
  case round =>
    obtain ⟨at_, i, A, m, c, done, hai, hi, hmi, rfl, rfl, rfl, ho, hnot, hsp, hb⟩ := hrel
    have HO := Lib.hid ho
    have HB := Lib.hid hb
    have HN := Lib.hid hnot
    have HSP := Lib.hid hsp
    clear ho hb hnot hsp
    by_cases hlt : i < l.length
    · have hlt' : (i : Int) < (l.length : Int) := by omega
      obtain ⟨c0, hc0⟩ : ∃ c0, l[i]? = some c0 := ⟨l[i], List.getElem?_eq_getElem hlt⟩
      have hget : ∀ (h : i < (sB l).size), (sB l)[i]'h = c0 := fun h => by
        have h1 : (sB l)[i]'h = l[i] := rfl
        rw [h1]
        exact (List.getElem?_eq_some_iff.1 hc0).2
      have HTP := Lib.hid (take_part l at_ i c0 hai hc0)
      have HDP := Lib.hid (drop_part l at_ i c0 hai hc0)
      have hex := sB_extract l at_ i
      clear hc0
      by_cases hcb : c0 = b
      · subst hcb
        have hq : ((c0.toNat : Int) == (c0.toNat : Int)) = true := by simp
        have HSP2 := Lib.hid (show splitL c0 l = (done ++ [(l.drop at_).take (i - at_)]) ++ splitL c0 (l.drop (i + 1)) by
          rw [HSP.out, HDP.out, splitL_hit c0 _ _ HN.out, List.append_assoc, ← HDP.out]; rfl)
        clear HSP HDP
        generalize (l.drop at_).take (i - at_) = P at *
        go_wp2_with (at_builtin; refine app1T _ _ _ _ _ _ _ P _ rfl rfl rfl rfl HO.out (by omega) HB.out.size ?_; intro g9 c9 w9 ho9 hg9)
        have HO9 := Lib.hid ho9
        have HB9 := Lib.hid (HB.out.grown hg9 HB.out.size (fun j hj => HO.out.row_ge hj))
        clear ho9 hg9
        go_roundw
        case rel => exact ⟨i + 1, i + 1, _, _, _, _, Nat.le_refl _, by omega, by omega, by go_num, by go_num, rfl, HO9.out, by simp, HSP2.out, HB9.out⟩
        case measure => simp [intOf]; omega
      · have hq : ((c0.toNat : Int) == (b.toNat : Int)) = false := by
          rw [beq_eq_false_iff_ne]
          intro e
          exact hcb (UInt8.toNat_inj.1 (by omega))
        go_wp2
        go_roundw
        case rel => exact ⟨at_, i + 1, _, _, _, _, by omega, by omega, by omega, rfl, by go_num, rfl, HO.out, by rw [HTP.out]; exact fun hm => (List.mem_append.1 hm).elim HN.out (fun h1 => hcb (List.mem_singleton.1 h1).symm), HSP.out, HB.out⟩
        case measure => simp [intOf]; omega
    · obtain rfl : i = l.length := by omega
      have hfin : (l.drop at_).take (l.length - at_) = l.drop at_ := List.take_of_length_le (by simp)
      have hex := sB_extract l at_ l.length
      have HN2 := HN.out
      rw [hfin] at hex HN2
      have HSP2 := Lib.hid (show done ++ [l.drop at_] = splitL b l by rw [HSP.out, splitL_none b _ HN2])
      clear hfin HN2
      generalize l.drop at_ = P at *
      go_wp2_with (at_builtin; refine app1T _ _ _ _ _ _ _ P _ rfl rfl rfl rfl HO.out (by omega) HB.out.size ?_; intro g9 c9 w9 ho9 hg9)
      rw [HSP2.out] at ho9
      have HO9 := Lib.hid ho9
      have HB9 := Lib.hid (HB.out.grown hg9 HB.out.size (fun j hj => HO.out.row_ge hj))
      clear ho9 hg9
      go_wp2
      go_ret
      exact ⟨_, _, _, rfl, HO9.out, HB9.out⟩

end Go.Proofs.YtijdlejngdhpjaaDoor
