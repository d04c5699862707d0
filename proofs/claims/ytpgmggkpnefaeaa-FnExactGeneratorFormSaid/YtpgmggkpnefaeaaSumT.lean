/- The sum of two term lists on both sides. -/
import Derived.Test.YtpgmggkpnefaeaaOddO
import Derived.Test.YtpgmggkpnefaeaaTerms
namespace Go.Proofs.Ytpgmggkpnefaeaa
open Go.ChangeShapes Go.WideShapes Go.ChangeAt Go.RowKit Go.Proofs
set_option linter.unusedVariables false

theorem tot_mem (xss : List (List Int)) (x : List Int) (h : x ∈ xss) : x.length ≤ tot xss := by
  induction xss with
  | nil => cases h
  | cons y r ih =>
    rcases List.mem_cons.1 h with rfl | h
    · show _ ≤ _; simp [tot]
    · have := ih h; simp [tot] at *; omega

def pSumOfTermLists (a b : List (List Int)) : List (List Int) × Int :=
  if (pIsTermList a && pIsTermList b) = true then (if 2000 < (mrg a b).length then ([], 3) else (mrg a b, 0)) else ([], 1)

theorem pSumOfTermLists_sz (a : List (List Int)) (ha : a.length + tot a ≤ 1048576) (b : List (List Int)) (hb : a.length + tot a + (b.length + tot b) ≤ 1048576) : tot (pSumOfTermLists a b).1 ≤ 4000000000 := by
  have h := (mrg_len a b).2
  unfold pSumOfTermLists
  split
  · split
    · simp [tot]
    · show tot (mrg a b) ≤ _
      omega
  · simp [tot]

set_option maxHeartbeats 400000 in
theorem impl_sumOf {A n c vs a A2 n2 c2 us b w} (h : RS w A n vs a) (g : RS w A2 n2 us b) (hn : n ≤ 1048576) (hn2 : n2 ≤ 1048576) (hra : ∀ x ∈ a, x.length ≤ 1048576) (hrb : ∀ x ∈ b, x.length ≤ 1048576) (ha : riseB a = true) (hb : riseB b = true) :
    Calls Try.prog 81 #[.slice A n c, .slice A2 n2 c2] w fun e w' => ∃ G m d us', e = .returned (.slice G m d) ∧ OwnS w' w.heap.size G m d us' (mrg a b) ∧ Below w.heap.size w w' := by
  have CJ := Lib.hid (impl_joinedS (c := c) (c2 := c2) h g (by omega) (by omega))
  have hl := h.len
  have hl' := g.len
  have hv := h.vlen
  have hv' := g.vlen
  have HO := Lib.hid (fun (A1 : Option Addr) (c1 : Nat) (w1 : World) (hb1 : Below w.heap.size w w1) (ho : w1.ownsRow w.heap.size 51 1 (.slice A1 (n + n2) c1) (n + n2) ((vs ++ us).map sv)) => impl_oddOnes (A := A1) (c := c1) (n := n + n2) (vs := vs ++ us) (xss := a ++ b) (w := w1) (RS.of_own (B := w.heap.size) (c := c1) ho (by simp [hv, hv']) (by simp [hl, hl']) (fun i hi => by
    rcases Nat.lt_or_ge i n with h3 | h3
    · have e1 : (vs ++ us).getD i nilS = vs.getD i nilS := by simp [List.getD, List.getElem?_append_left (show i < vs.length by omega)]
      have e2 : (a ++ b).getD i [] = a.getD i [] := by simp [List.getD, List.getElem?_append_left (show i < a.length by omega)]
      rw [e1, e2]
      exact (h.below hb1).row h3
    · have e1 : (vs ++ us).getD i nilS = us.getD (i - n) nilS := by simp [List.getD, List.getElem?_append_right (show vs.length ≤ i by omega), hv]
      have e2 : (a ++ b).getD i [] = b.getD (i - n) [] := by simp [List.getD, List.getElem?_append_right (show a.length ≤ i by omega), hl]
      rw [e1, e2]
      exact (g.below hb1).row (by omega))) (by omega) (fun x hx => by
        rcases List.mem_append.1 hx with hx | hx
        · exact hra x hx
        · exact hrb x hx))
  have HRI := Lib.hid (And.intro ha hb)
  clear h g hra hrb ha hb
  go_enter Try.func81, Try.ntmps81
  go_wp2_with fail
  refine CJ.out.mono ?_
  rintro e w1 ⟨A1, c1, rfl, ho1, hb1⟩
  have HB1 := Lib.hid hb1
  have CO := Lib.hid (HO.out A1 c1 w1 hb1 ho1)
  clear hb1 ho1
  go_wp2_with fail
  refine CO.out.mono ?_
  rintro e w2 ⟨G, m, d, us2, S, rfl, ho, hp, hs, hb⟩
  have HB2 := Lib.hid (HB1.out.trans (hb.mono HB1.out.size))
  have HO2 := Lib.hid (show OwnS w2 w.heap.size G m d us2 (mrg a b) by rw [← odd_sorted HRI.out.1 HRI.out.2 hp hs]; exact ho.mono HB1.out.size)
  clear ho hp hs hb
  go_wp2
  go_ret
  exact ⟨_, _, _, _, rfl, HO2.out, HB2.out⟩

set_option maxHeartbeats 800000 in
theorem impl_SumOfTermLists {A n c vs a A2 n2 c2 us b w} (h : RS w A n vs a) (hm : n + tot a ≤ 1048576) (g : RS w A2 n2 us b) (hm2 : n2 + tot b ≤ 1048576) :
    Calls Try.prog 48 #[.slice A n c, .slice A2 n2 c2] w fun e w' => ∃ G m d vs', e = .returned (.tuple #[.slice G m d, .int .i64 (pSumOfTermLists a b).2]) ∧ OwnS w' w.heap.size G m d vs' (pSumOfTermLists a b).1 ∧ Below w.heap.size w w' := by
  have hra : ∀ x ∈ a, x.length ≤ 1048576 := fun x hx => by have := tot_mem a x hx; omega
  have hrb : ∀ x ∈ b, x.length ≤ 1048576 := fun x hx => by have := tot_mem b x hx; omega
  have CA := Lib.hid (impl_IsTermList (c := c) h hm)
  have CB := Lib.hid (fun w2 (hb : Below w.heap.size w w2) => impl_IsTermList (c := c2) (g.below hb) hm2)
  have CS := Lib.hid (fun (ha : riseB a = true) (hb : riseB b = true) w2 (hbl : Below w.heap.size w w2) => impl_sumOf (c := c) (c2 := c2) (h.below hbl) (g.below hbl) (by omega) (by omega) hra hrb ha hb)
  clear h g hra hrb
  cases hp : pIsTermList a with
  | false =>
    have HF := Lib.hid (show pSumOfTermLists a b = ([], 1) by unfold pSumOfTermLists; rw [hp]; rfl)
    rw [hp] at CA
    clear hp
    go_enter Try.func48, Try.ntmps48
    go_wp2_with fail
    refine CA.out.mono ?_
    rintro e w1 ⟨rfl, hb⟩
    have HB := Lib.hid hb
    clear hb
    go_wp2
    go_ret2
    exact ⟨none, 0, 0, [], by first | (rw [HF.out]; rfl) | rw [HF.out], by rw [HF.out]; exact OwnS.nil _ _, HB.out⟩
  | true =>
    rw [hp] at CA
    cases hq : pIsTermList b with
    | false =>
      have HF := Lib.hid (show pSumOfTermLists a b = ([], 1) by unfold pSumOfTermLists; rw [hp, hq]; rfl)
      rw [hq] at CB
      clear hp hq
      go_enter Try.func48, Try.ntmps48
      go_wp2_with fail
      refine CA.out.mono ?_
      rintro e w1 ⟨rfl, hb⟩
      have HB := Lib.hid hb
      clear hb
      go_wp2_with fail
      refine (CB.out _ HB.out).mono ?_
      rintro e w2 ⟨rfl, hb⟩
      have HB2 := Lib.hid (HB.out.trans (hb.mono HB.out.size))
      clear hb
      go_wp2
      go_ret2
      exact ⟨none, 0, 0, [], by first | (rw [HF.out]; rfl) | rw [HF.out], by rw [HF.out]; exact OwnS.nil _ _, HB2.out⟩
    | true =>
      rw [hq] at CB
      have CT := Lib.hid (CS.out (pIsTermList_true hp).2.2 (pIsTermList_true hq).2.2)
      have HFE := Lib.hid (show pSumOfTermLists a b = (if 2000 < (mrg a b).length then ([], 3) else (mrg a b, 0)) by unfold pSumOfTermLists; rw [hp, hq]; rfl)
      clear hp hq CS
      by_cases hlen : 2000 < (mrg a b).length
      · have HF := Lib.hid (show pSumOfTermLists a b = ([], 3) by rw [HFE.out, if_pos hlen])
        have HL := Lib.hid hlen
        clear hlen HFE
        go_enter Try.func48, Try.ntmps48
        go_wp2_with fail
        refine CA.out.mono ?_
        rintro e w1 ⟨rfl, hb⟩
        have HB := Lib.hid hb
        clear hb
        go_wp2_with fail
        refine (CB.out _ HB.out).mono ?_
        rintro e w2 ⟨rfl, hb⟩
        have HB2 := Lib.hid (HB.out.trans (hb.mono HB.out.size))
        clear hb
        go_wp2_with fail
        refine (CT.out _ HB2.out).mono ?_
        rintro e w3 ⟨G, m, d, us3, rfl, ho, hb⟩
        have hm3 : (2000 : Int) < (m : Int) := by have := ho.len; have := HL.out; omega
        have HB3 := Lib.hid (HB2.out.trans (hb.mono HB2.out.size))
        clear hb ho
        go_wp2
        go_ret2
        exact ⟨none, 0, 0, [], by first | (rw [HF.out]; rfl) | rw [HF.out], by rw [HF.out]; exact OwnS.nil _ _, HB3.out⟩
      · have HF := Lib.hid (show pSumOfTermLists a b = (mrg a b, 0) by rw [HFE.out, if_neg hlen])
        have HL := Lib.hid hlen
        clear hlen HFE
        go_enter Try.func48, Try.ntmps48
        go_wp2_with fail
        refine CA.out.mono ?_
        rintro e w1 ⟨rfl, hb⟩
        have HB := Lib.hid hb
        clear hb
        go_wp2_with fail
        refine (CB.out _ HB.out).mono ?_
        rintro e w2 ⟨rfl, hb⟩
        have HB2 := Lib.hid (HB.out.trans (hb.mono HB.out.size))
        clear hb
        go_wp2_with fail
        refine (CT.out _ HB2.out).mono ?_
        rintro e w3 ⟨G, m, d, us3, rfl, ho, hb⟩
        have hm3 : (m : Int) ≤ (2000 : Int) := by have := ho.len; have := HL.out; omega
        have HB3 := Lib.hid (HB2.out.trans (hb.mono HB2.out.size))
        have HO3 := Lib.hid (ho.mono HB2.out.size)
        clear hb ho
        go_wp2
        go_ret2
        exact ⟨_, _, _, _, by first | (rw [HF.out]; rfl) | rw [HF.out], by rw [HF.out]; exact HO3.out, HB3.out⟩

set_option maxHeartbeats 800000 in
theorem spec_SumOfTermLists {A n c vs a A2 n2 c2 us b w} (h : RS w A n vs a) (hm : n + tot a ≤ 1048576) (g : RS w A2 n2 us b) (hm2 : n2 + tot b ≤ 1048576) :
    Calls Try.prog 46 #[.slice A n c, .slice A2 n2 c2] w fun e w' => ∃ G m d vs', e = .returned (.tuple #[.slice G m d, .int .i64 (pSumOfTermLists a b).2]) ∧ OwnS w' w.heap.size G m d vs' (pSumOfTermLists a b).1 ∧ Below w.heap.size w w' := by
  have hra : ∀ x ∈ a, x.length ≤ 1048576 := fun x hx => by have := tot_mem a x hx; omega
  have hrb : ∀ x ∈ b, x.length ≤ 1048576 := fun x hx => by have := tot_mem b x hx; omega
  have CA := Lib.hid (spec_l01Terms (c := c) h)
  have CB := Lib.hid (fun w2 (hb : Below w.heap.size w w2) => spec_l01Terms (c := c2) (g.below hb))
  have CS := Lib.hid (fun (ha : riseB a = true) (hb : riseB b = true) w2 (hbl : Below w.heap.size w w2) => spec_l01Sum (c := c) (c' := c2) (h.below hbl) (g.below hbl) (by omega) (by omega) hra hrb)
  clear h g hra hrb
  cases hp : pIsTermList a with
  | false =>
    have HF := Lib.hid (show pSumOfTermLists a b = ([], 1) by unfold pSumOfTermLists; rw [hp]; rfl)
    rw [hp] at CA
    clear hp
    go_enter Try.func46, Try.ntmps46
    go_wp2_with fail
    refine CA.out.mono ?_
    rintro e w1 ⟨rfl, hb⟩
    have HB := Lib.hid hb
    clear hb
    go_wp2
    go_ret2
    exact ⟨none, 0, 0, [], by first | (rw [HF.out]; rfl) | rw [HF.out], by rw [HF.out]; exact OwnS.nil _ _, HB.out⟩
  | true =>
    rw [hp] at CA
    cases hq : pIsTermList b with
    | false =>
      have HF := Lib.hid (show pSumOfTermLists a b = ([], 1) by unfold pSumOfTermLists; rw [hp, hq]; rfl)
      rw [hq] at CB
      clear hp hq
      go_enter Try.func46, Try.ntmps46
      go_wp2_with fail
      refine CA.out.mono ?_
      rintro e w1 ⟨rfl, hb⟩
      have HB := Lib.hid hb
      clear hb
      go_wp2_with fail
      refine (CB.out _ HB.out).mono ?_
      rintro e w2 ⟨rfl, hb⟩
      have HB2 := Lib.hid (HB.out.trans (hb.mono HB.out.size))
      clear hb
      go_wp2
      go_ret2
      exact ⟨none, 0, 0, [], by first | (rw [HF.out]; rfl) | rw [HF.out], by rw [HF.out]; exact OwnS.nil _ _, HB2.out⟩
    | true =>
      rw [hq] at CB
      have CT := Lib.hid (CS.out (pIsTermList_true hp).2.2 (pIsTermList_true hq).2.2)
      have HFE := Lib.hid (show pSumOfTermLists a b = (if 2000 < (mrg a b).length then ([], 3) else (mrg a b, 0)) by unfold pSumOfTermLists; rw [hp, hq]; rfl)
      clear hp hq CS
      by_cases hlen : 2000 < (mrg a b).length
      · have HF := Lib.hid (show pSumOfTermLists a b = ([], 3) by rw [HFE.out, if_pos hlen])
        have HL := Lib.hid hlen
        clear hlen HFE
        go_enter Try.func46, Try.ntmps46
        go_wp2_with fail
        refine CA.out.mono ?_
        rintro e w1 ⟨rfl, hb⟩
        have HB := Lib.hid hb
        clear hb
        go_wp2_with fail
        refine (CB.out _ HB.out).mono ?_
        rintro e w2 ⟨rfl, hb⟩
        have HB2 := Lib.hid (HB.out.trans (hb.mono HB.out.size))
        clear hb
        go_wp2_with fail
        refine (CT.out _ HB2.out).mono ?_
        rintro e w3 ⟨G, m, d, us3, rfl, ho, hb⟩
        have hm3 : (2000 : Int) < (m : Int) := by have := ho.len; have := HL.out; omega
        have HB3 := Lib.hid (HB2.out.trans (hb.mono HB2.out.size))
        clear hb ho
        go_wp2
        go_ret2
        exact ⟨none, 0, 0, [], by first | (rw [HF.out]; rfl) | rw [HF.out], by rw [HF.out]; exact OwnS.nil _ _, HB3.out⟩
      · have HF := Lib.hid (show pSumOfTermLists a b = (mrg a b, 0) by rw [HFE.out, if_neg hlen])
        have HL := Lib.hid hlen
        clear hlen HFE
        go_enter Try.func46, Try.ntmps46
        go_wp2_with fail
        refine CA.out.mono ?_
        rintro e w1 ⟨rfl, hb⟩
        have HB := Lib.hid hb
        clear hb
        go_wp2_with fail
        refine (CB.out _ HB.out).mono ?_
        rintro e w2 ⟨rfl, hb⟩
        have HB2 := Lib.hid (HB.out.trans (hb.mono HB.out.size))
        clear hb
        go_wp2_with fail
        refine (CT.out _ HB2.out).mono ?_
        rintro e w3 ⟨G, m, d, us3, rfl, ho, hb⟩
        have hm3 : (m : Int) ≤ (2000 : Int) := by have := ho.len; have := HL.out; omega
        have HB3 := Lib.hid (HB2.out.trans (hb.mono HB2.out.size))
        have HO3 := Lib.hid (ho.mono HB2.out.size)
        clear hb ho
        go_wp2
        go_ret2
        exact ⟨_, _, _, _, by first | (rw [HF.out]; rfl) | rw [HF.out], by rw [HF.out]; exact HO3.out, HB3.out⟩

end Go.Proofs.Ytpgmggkpnefaeaa
