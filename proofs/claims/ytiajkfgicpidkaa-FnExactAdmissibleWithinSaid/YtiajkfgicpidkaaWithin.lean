/- AdmissibleWithin of the program and of the reference. -/
import Derived.Test.YtiajkfgicpidkaaAdmB
import Derived.Test.YtiajkfgicpidkaaWord
namespace Go.Proofs.Ytiajkfgicpidkaa
open Go.ChangeShapes Go.WideShapes Go.ChangeAt Go.RowKit
set_option linter.unusedVariables false

theorem admwL_lets (d : Nat) : ∀ (m most part : Nat), d ≤ 40 → d + 1 - part ≤ m → 1 ≤ part → ∀ r ∈ admwL d most part, Lets r := by
  induction d using Nat.strongRecOn with
  | _ d ih =>
    intro m
    induction m with
    | zero =>
      intro most part hd hm h1 r hr
      rw [admwL_stop d most part (by omega)] at hr
      cases hr
    | succ m ihm =>
      intro most part hd hm h1 r hr
      by_cases hgo : part ≤ d ∧ part ≤ most
      · rw [admwL_go d most part h1 hgo.1 hgo.2] at hr
        rcases List.mem_append.1 hr with h | h
        · obtain ⟨r2, h2, rfl⟩ := List.mem_map.1 h
          have h3 : Lets r2 := by
            unfold admw at h2
            by_cases h0 : d - part = 0
            · rw [if_pos h0] at h2
              rw [List.mem_singleton.1 h2]; intro x hx; cases hx
            · rw [if_neg h0] at h2
              exact ih (d - part) (by omega) (d - part) (part / 2) 1 (by omega) (by omega) (by omega) r2 h2
          intro x hx
          rcases List.mem_cons.1 hx with h4 | h4
          · omega
          · exact h3 x h4
        · exact ihm most (part + 1) hd (by omega) (by omega) r h
      · rw [admwL_stop d most part hgo] at hr
        cases hr

theorem admw_lets (d most : Nat) (hd : d ≤ 40) : ∀ r ∈ admw d most, Lets r := by
  intro r hr
  unfold admw at hr
  by_cases h0 : d = 0
  · rw [if_pos h0] at hr
    rw [List.mem_singleton.1 hr]; intro x hx; cases hx
  · rw [if_neg h0] at hr
    exact admwL_lets d d most 1 hd (by omega) (by omega) r hr

def leB (e : Int) (r : List Int) : Bool := decide (excW r ≤ e)

def pAdmissibleWithin (d e : Int) : List (List Int) × Int := if (inB d 0 40 && inB e 0 40) = true then ((admw d.toNat d.toNat).filter (leB e), 0) else ([], 2)

theorem tot_filter (p : List Int → Bool) (l : List (List Int)) : tot (l.filter p) ≤ tot l ∧ (l.filter p).length ≤ l.length := by
  induction l with
  | nil => simp [tot]
  | cons x l ih =>
    by_cases h : p x = true
    · rw [List.filter_cons_of_pos h]; simp only [tot, List.length_cons]; omega
    · rw [List.filter_cons_of_neg h]; simp only [tot, List.length_cons]; omega

theorem pAdmissibleWithin_tot (d e : Int) : tot (pAdmissibleWithin d e).1 ≤ 43980465111040 := by
  unfold pAdmissibleWithin
  by_cases h : (inB d 0 40 && inB e 0 40) = true
  · rw [if_pos h]
    have h2 : inB d 0 40 = true := by cases hh : inB d 0 40 <;> simp_all
    have hb := inB_true h2
    have h1 := (admw_bound d.toNat d.toNat (by omega)).2
    have h3 := (tot_filter (leB e) (admw d.toNat d.toNat)).1
    show tot ((admw d.toNat d.toNat).filter (leB e)) ≤ _
    omega
  · rw [if_neg h]; simp [tot]

set_option maxHeartbeats 1600000 in
theorem impl_AdmissibleWithin (n0 e0 : Int) (w : World) (hi : I64 n0) (hi2 : I64 e0) : Calls Try.prog 45 #[.int .i64 n0, .int .i64 e0] w fun e w' => ∃ A l c vs, e = .returned (.tuple #[.slice A l c, .int .i64 (pAdmissibleWithin n0 e0).2]) ∧ OwnS w' w.heap.size A l c vs (pAdmissibleWithin n0 e0).1 ∧ Below w.heap.size w w' := by
  clear hi hi2
  cases hd : inB n0 0 40 with
  | false =>
    have hf : pAdmissibleWithin n0 e0 = ([], 2) := by unfold pAdmissibleWithin; rw [hd]; rfl
    have HF := Lib.hid hf
    clear hf
    go_enter Try.func45, Try.ntmps45
    go_wp2_with (first | (go_at_call 75; refine (isDegree_any _ _).mono ?_; rintro e w2 ⟨rfl, rfl⟩) | fail)
    go_ret2
    exact ⟨none, 0, 0, [], by rw [HF.out]; rfl, by rw [HF.out]; exact OwnS.nil _ _, Below.refl _ _⟩
  | true =>
  cases he : inB e0 0 40 with
  | false =>
    have hf : pAdmissibleWithin n0 e0 = ([], 2) := by unfold pAdmissibleWithin; rw [hd, he]; rfl
    have HF := Lib.hid hf
    clear hf
    go_enter Try.func45, Try.ntmps45
    go_wp2_with (first | (go_at_call 75; refine (isDegree_any _ _).mono ?_; rintro e w2 ⟨rfl, rfl⟩) | fail)
    go_ret2
    exact ⟨none, 0, 0, [], by rw [HF.out]; rfl, by rw [HF.out]; exact OwnS.nil _ _, Below.refl _ _⟩
  | true =>
    have hb := inB_true hd
    have hf : pAdmissibleWithin n0 e0 = ((admw n0.toNat n0.toNat).filter (leB e0), 0) := by unfold pAdmissibleWithin; rw [hd, he]; rfl
    have HF := Lib.hid hf
    obtain ⟨d, rfl⟩ := Int.eq_ofNat_of_zero_le hb.1
    have hd40 : d ≤ 40 := by omega
    have HBD := Lib.hid (admw_bound d d hd40).1
    have HLT := Lib.hid (admw_lets d d hd40)
    have HRW := Lib.hid (admw_row d d)
    clear hf hb
    have HE0 := Lib.hid (emptyS_own w)
    have HB0 := Lib.hid (show Below w.heap.size w (w.alloc (.cells #[] 22)) from (Below.refl _ _).alloc (Nat.le_refl _) _)
    have CON := Lib.hid (impl_admw d d (w.alloc (.cells #[] 22)) (by omega) (by omega))
    go_enter Try.func45, Try.ntmps45
    go_wp2_with (first | (go_at_call 75; refine (isDegree_any _ _).mono ?_; rintro e w2 ⟨rfl, rfl⟩) | fail)
    refine CON.out.mono ?_
    rintro e w2 ⟨AR, nR, cR, vR, rfl, hoR, hbR⟩
    have HR0 := Lib.hid hoR
    have HO0 := Lib.hid (HE0.out.below hbR)
    have HB2 := Lib.hid (HB0.out.trans (hbR.mono HB0.out.size))
    have HBASE := Lib.hid (show w.heap.size ≤ (w.alloc (.cells #[] 22)).heap.size from HB0.out.size)
    have HNE := Lib.hid (show ∀ k, (some (⟨w.heap.size, 0, none⟩ : Addr)).map (·.block) = some k → AR.map (·.block) ≠ some k from fun k h1 h2 => by
      have l1 := HE0.out.inS.1 k h1
      have l2 := hoR.out_ge h2
      omega)
    generalize hw0 : (w.alloc (.cells #[] 22)).heap.size = b0 at *
    have hsR := hoR.reads.small
    clear hoR hbR hw0
    have HE1 := HE0
    clear HE0 HB0
    go_wp2
    go_loopw [6, 22] (fun v iv wr => ∃ (j : Nat) (A : Option Addr) (n c : Nat) (vs : List Sl), j ≤ nR ∧ iv = .int .i64 (j : Int) ∧ v = .slice A n c ∧ OwnS wr w.heap.size A n c vs (((admw d d).take j).filter (leB e0)) ∧ OwnS wr b0 AR nR cR vR (admw d d) ∧ (∀ k, A.map (·.block) = some k → AR.map (·.block) ≠ some k) ∧ (∀ i, i < n → ∃ i', i' < j ∧ vs.getD i nilS = vR.getD i' nilS) ∧ Below w.heap.size w wr) (fun _ iv _ => nR - (intOf iv).toNat)
    case atStart => exact ⟨0, _, 0, 0, [], by omega, rfl, rfl, HO0.out, HR0.out, HNE.out, fun i hi => absurd hi (by omega), HB2.out⟩
    case round =>
      obtain ⟨j, A, n, c, vs, hj, rfl, rfl, ho, hoR, hne, hsub, hb⟩ := hrel
      have HO := Lib.hid ho
      have HR := Lib.hid hoR
      have HN := Lib.hid hne
      have HSB := Lib.hid hsub
      have HB := Lib.hid hb
      clear HO0 HR0 HNE HB2
      clear ho hoR hne hsub hb
      by_cases hlt : j < nR
      · obtain ⟨g, rfl, hBg, hgs⟩ := HR.out.form (by omega)
        have hcell := HR.out.cell hlt
        have hrow := HR.out.row hlt
        have hRl := HR.out.len
        have hj2 : j < (admw d d).length := by omega
        have hmem : (admw d d).getD j [] ∈ admw d d := by simp [List.getD, hj2]
        have hlets := HLT.out _ hmem
        have hrl := HRW.out _ hmem
        have htk := take_snocS (admw d d) j hj2
        have hflt : ((admw d d).take (j + 1)).filter (leB e0) = ((admw d d).take j).filter (leB e0) ++ (if leB e0 ((admw d d).getD j []) = true then [(admw d d).getD j []] else []) := by
          rw [htk, List.filter_append]
          congr 1
          by_cases hq : leB e0 ((admw d d).getD j []) = true
          · rw [if_pos hq, List.filter_cons_of_pos hq]; rfl
          · rw [if_neg hq, List.filter_cons_of_neg hq]; rfl
        have hdis : ∀ i, i < n → ∀ k, (vs.getD i nilS).1.map (·.block) = some k → (vR.getD j nilS).1.map (·.block) ≠ some k := by
          intro i hi k hk
          obtain ⟨i', hi', e1⟩ := HSB.out i hi
          rw [e1] at hk
          exact HR.out.2.2.2 i' j hi' hlt k hk
        have hsub2 : ∀ i, i < n + 1 → ∃ i', i' < j + 1 ∧ (vs ++ [vR.getD j nilS]).getD i nilS = vR.getD i' nilS := by
          intro i hi
          have hvl := HO.out.vlen
          rcases Nat.lt_or_ge i n with h | h
          · obtain ⟨i', hi', e1⟩ := HSB.out i h
            refine ⟨i', by omega, ?_⟩
            rw [← e1]
            simp only [List.getD]; rw [List.getElem?_append_left (by omega)]
          · refine ⟨j, by omega, ?_⟩
            obtain rfl : i = n := by omega
            simp only [List.getD]; rw [List.getElem?_append_right (by omega), hvl]; simp
        have hn40 : n ≤ 1099511627776 := by
          have h1 := HO.out.len
          have h2 := (tot_filter (leB e0) ((admw d d).take j)).2
          have h3 := HBD.out
          have h4 : ((admw d d).take j).length ≤ (admw d d).length := by simp; omega
          omega
        have HCELL := Lib.hid hcell
        generalize (admw d d).getD j [] = row at *
        generalize vR.getD j nilS = v3 at *
        obtain ⟨a3, n3, c3⟩ := v3
        simp only at hrow hdis
        simp only [sv] at hcell HCELL
        have hrn := hrow.len
        have HROW := Lib.hid hrow
        have HX := Lib.hid (impl_exc a3 n3 c3 row wr hrow.reads hlets (by omega))
        have HFL := Lib.hid hflt
        have HDIS := Lib.hid hdis
        have HSUB2 := Lib.hid hsub2
        have hlt' : (j : Int) < (nR : Int) := by omega
        clear hrow hRl hj2 hmem hlets hrl htk hflt hdis hsub2 hrn
        by_cases hle : excW row ≤ e0
        · have HFL2 := Lib.hid (show ((admw d d).take (j + 1)).filter (leB e0) = ((admw d d).take j).filter (leB e0) ++ [row] by rw [HFL.out, if_pos (show leB e0 row = true from decide_eq_true hle)])
          generalize excW row = x at *
          go_wp2_with fail
          refine HX.out.mono ?_
          rintro e w3 ⟨rfl, hb3⟩
          have hc2 : w3.cell? ⟨g, j, none⟩ = some (.slice a3 n3 c3) := (hb3.cell (p := ⟨g, j, none⟩) hgs).trans HCELL.out
          have HB3 := Lib.hid hb3
          clear hb3 hBg hgs hcell
          go_wp2_with (at_builtin; refine app1D _ _ w.heap.size A n c vs _ (a3, n3, c3) row w3 rfl rfl rfl rfl (HO.out.below HB3.out) ((HROW.out.below HB3.out).mono HBASE.out) HDIS.out hn40 (Nat.le_trans HB.out.size HB3.out.size) ?_; intro g5 c5 W4 ho4 hg4 hat4)
          rw [← HFL2.out] at ho4
          have HO4 := Lib.hid ho4
          have HR4 := Lib.hid ((HR.out.below HB3.out).kept_out (HO.out.below HB3.out) HN.out hg4)
          have HN4 := Lib.hid (show ∀ k, (some (⟨g5, 0, none⟩ : Addr)).map (·.block) = some k → (some (⟨g, 0, none⟩ : Addr)).map (·.block) ≠ some k from fun k h1 h2 => by
            have e1 : g5 = k := by simpa using h1
            have e2 : g = k := by simpa using h2
            subst e1
            rcases hat4 with h | h
            · exact HN.out _ h h2
            · have l1 := (HR.out.below HB3.out).inS.1 _ h2
              omega)
          have HB4 := Lib.hid ((HB.out.trans (HB3.out.mono HB.out.size)).grown hg4 (Nat.le_trans HB.out.size HB3.out.size) (fun k hk => (HO.out.below HB3.out).out_ge hk))
          clear ho4 hg4 hat4 hc2
          go_wp2
          go_roundw
          case rel => exact ⟨j + 1, _, _, _, _, by omega, by go_num, rfl, HO4.out, HR4.out, HN4.out, HSUB2.out, HB4.out⟩
          case measure => simp [intOf]; omega
        · have HFL2 := Lib.hid (show ((admw d d).take (j + 1)).filter (leB e0) = ((admw d d).take j).filter (leB e0) by rw [HFL.out, if_neg (by unfold leB; rw [decide_eq_false hle]; simp), List.append_nil])
          have hle' : e0 < excW row := by omega
          clear hle
          generalize excW row = x at *
          go_wp2_with fail
          refine HX.out.mono ?_
          rintro e w3 ⟨rfl, hb3⟩
          have HB3 := Lib.hid hb3
          have HO4 := Lib.hid (show OwnS w3 w.heap.size A n c vs (((admw d d).take (j + 1)).filter (leB e0)) by rw [HFL2.out]; exact HO.out.below hb3)
          have HR4 := Lib.hid (HR.out.below hb3)
          have HB4 := Lib.hid (HB.out.trans (hb3.mono HB.out.size))
          have HSB4 := Lib.hid (show ∀ i, i < n → ∃ i', i' < j + 1 ∧ vs.getD i nilS = vR.getD i' nilS from fun i hi => by
            obtain ⟨i', h1, h2⟩ := HSB.out i hi
            exact ⟨i', by omega, h2⟩)
          clear hb3 hBg hgs hcell
          go_wp2
          go_roundw
          case rel => exact ⟨j + 1, _, _, _, _, by omega, by go_num, rfl, HO4.out, HR4.out, HN.out, HSB4.out, HB4.out⟩
          case measure => simp [intOf]; omega
      · obtain rfl : j = nR := by omega
        have hRl := HR.out.len
        have ho := HO.out
        rw [show (admw d d).take j = admw d d by rw [← hRl]; exact List.take_length] at ho
        have HO2 := Lib.hid ho
        clear ho hRl
        go_wp2
        go_ret2
        have HO3 := Lib.hid (show OwnS wr w.heap.size A n c vs (pAdmissibleWithin (d : Int) e0).1 by rw [HF.out, Int.toNat_natCast]; exact HO2.out)
        have HE3 := Lib.hid (show (pAdmissibleWithin (d : Int) e0).2 = 0 by rw [HF.out])
        first | exact ⟨_, _, _, _, by rw [HE3.out]; rfl, HO3.out, HB.out⟩ | exact ⟨_, _, _, by rw [HE3.out]; rfl, ⟨_, HO3.out⟩, HB.out⟩

set_option maxHeartbeats 1600000 in
theorem spec_AdmissibleWithin (n0 e0 : Int) (w : World) (hi : I64 n0) (hi2 : I64 e0) : Calls Try.prog 44 #[.int .i64 n0, .int .i64 e0] w fun e w' => ∃ A l c vs, e = .returned (.tuple #[.slice A l c, .int .i64 (pAdmissibleWithin n0 e0).2]) ∧ OwnS w' w.heap.size A l c vs (pAdmissibleWithin n0 e0).1 ∧ Below w.heap.size w w' := by
  clear hi hi2
  cases hd : inB n0 0 40 with
  | false =>
    have hf : pAdmissibleWithin n0 e0 = ([], 2) := by unfold pAdmissibleWithin; rw [hd]; rfl
    have HF := Lib.hid hf
    clear hf
    go_enter Try.func44, Try.ntmps44
    go_wp2_with (first | (go_at_call 73; refine (l01In_any _ _ _ _).mono ?_; rintro e w2 ⟨rfl, rfl⟩) | fail)
    go_ret2
    exact ⟨none, 0, 0, [], by rw [HF.out]; rfl, by rw [HF.out]; exact OwnS.nil _ _, Below.refl _ _⟩
  | true =>
  cases he : inB e0 0 40 with
  | false =>
    have hf : pAdmissibleWithin n0 e0 = ([], 2) := by unfold pAdmissibleWithin; rw [hd, he]; rfl
    have HF := Lib.hid hf
    clear hf
    go_enter Try.func44, Try.ntmps44
    go_wp2_with (first | (go_at_call 73; refine (l01In_any _ _ _ _).mono ?_; rintro e w2 ⟨rfl, rfl⟩) | fail)
    go_ret2
    exact ⟨none, 0, 0, [], by rw [HF.out]; rfl, by rw [HF.out]; exact OwnS.nil _ _, Below.refl _ _⟩
  | true =>
    have hb := inB_true hd
    have hf : pAdmissibleWithin n0 e0 = ((admw n0.toNat n0.toNat).filter (leB e0), 0) := by unfold pAdmissibleWithin; rw [hd, he]; rfl
    have HF := Lib.hid hf
    obtain ⟨d, rfl⟩ := Int.eq_ofNat_of_zero_le hb.1
    have hd40 : d ≤ 40 := by omega
    have HBD := Lib.hid (admw_bound d d hd40).1
    have HLT := Lib.hid (admw_lets d d hd40)
    have HRW := Lib.hid (admw_row d d)
    clear hf hb
    have CON := Lib.hid (spec_l03Basis d w (by omega))
    go_enter Try.func44, Try.ntmps44
    go_wp2_with (first | (go_at_call 73; refine (l01In_any _ _ _ _).mono ?_; rintro e w2 ⟨rfl, rfl⟩) | fail)
    refine CON.out.mono ?_
    rintro e w2 ⟨AR, nR, cR, vR, rfl, hoR, hbR⟩
    have HR0 := Lib.hid (hoR.below ((Below.refl w2.heap.size w2).alloc (Nat.le_refl _) (.cells #[] 22)))
    have HO0 := Lib.hid ((emptyS_own w2).mono hbR.size)
    have HB2 := Lib.hid (hbR.alloc hbR.size (.cells #[] 22))
    have HBASE := Lib.hid (Nat.le_refl w.heap.size)
    have HNE := Lib.hid (show ∀ k, (some (⟨w2.heap.size, 0, none⟩ : Addr)).map (·.block) = some k → AR.map (·.block) ≠ some k from fun k h1 h2 => by
      have e1 : w2.heap.size = k := by simpa using h1
      have l2 := hoR.inS.1 k h2
      omega)
    have hsR := hoR.reads.small
    clear hoR hbR
    go_wp2
    go_loopw [7, 8] (fun v iv wr => ∃ (j : Nat) (A : Option Addr) (n c : Nat) (vs : List Sl), j ≤ nR ∧ iv = .int .i64 (j : Int) ∧ v = .slice A n c ∧ OwnS wr w.heap.size A n c vs (((admw d d).take j).filter (leB e0)) ∧ OwnS wr w.heap.size AR nR cR vR (admw d d) ∧ (∀ k, A.map (·.block) = some k → AR.map (·.block) ≠ some k) ∧ (∀ i, i < n → ∃ i', i' < j ∧ vs.getD i nilS = vR.getD i' nilS) ∧ Below w.heap.size w wr) (fun _ iv _ => nR - (intOf iv).toNat)
    case atStart => exact ⟨0, _, 0, 0, [], by omega, rfl, rfl, HO0.out, HR0.out, HNE.out, fun i hi => absurd hi (by omega), HB2.out⟩
    case round =>
      obtain ⟨j, A, n, c, vs, hj, rfl, rfl, ho, hoR, hne, hsub, hb⟩ := hrel
      have HO := Lib.hid ho
      have HR := Lib.hid hoR
      have HN := Lib.hid hne
      have HSB := Lib.hid hsub
      have HB := Lib.hid hb
      clear HO0 HR0 HNE HB2
      clear ho hoR hne hsub hb
      by_cases hlt : j < nR
      · obtain ⟨g, rfl, hBg, hgs⟩ := HR.out.form (by omega)
        have hcell := HR.out.cell hlt
        have hrow := HR.out.row hlt
        have hRl := HR.out.len
        have hj2 : j < (admw d d).length := by omega
        have hmem : (admw d d).getD j [] ∈ admw d d := by simp [List.getD, hj2]
        have hlets := HLT.out _ hmem
        have hrl := HRW.out _ hmem
        have htk := take_snocS (admw d d) j hj2
        have hflt : ((admw d d).take (j + 1)).filter (leB e0) = ((admw d d).take j).filter (leB e0) ++ (if leB e0 ((admw d d).getD j []) = true then [(admw d d).getD j []] else []) := by
          rw [htk, List.filter_append]
          congr 1
          by_cases hq : leB e0 ((admw d d).getD j []) = true
          · rw [if_pos hq, List.filter_cons_of_pos hq]; rfl
          · rw [if_neg hq, List.filter_cons_of_neg hq]; rfl
        have hdis : ∀ i, i < n → ∀ k, (vs.getD i nilS).1.map (·.block) = some k → (vR.getD j nilS).1.map (·.block) ≠ some k := by
          intro i hi k hk
          obtain ⟨i', hi', e1⟩ := HSB.out i hi
          rw [e1] at hk
          exact HR.out.2.2.2 i' j hi' hlt k hk
        have hsub2 : ∀ i, i < n + 1 → ∃ i', i' < j + 1 ∧ (vs ++ [vR.getD j nilS]).getD i nilS = vR.getD i' nilS := by
          intro i hi
          have hvl := HO.out.vlen
          rcases Nat.lt_or_ge i n with h | h
          · obtain ⟨i', hi', e1⟩ := HSB.out i h
            refine ⟨i', by omega, ?_⟩
            rw [← e1]
            simp only [List.getD]; rw [List.getElem?_append_left (by omega)]
          · refine ⟨j, by omega, ?_⟩
            obtain rfl : i = n := by omega
            simp only [List.getD]; rw [List.getElem?_append_right (by omega), hvl]; simp
        have hn40 : n ≤ 1099511627776 := by
          have h1 := HO.out.len
          have h2 := (tot_filter (leB e0) ((admw d d).take j)).2
          have h3 := HBD.out
          have h4 : ((admw d d).take j).length ≤ (admw d d).length := by simp; omega
          omega
        have HCELL := Lib.hid hcell
        generalize (admw d d).getD j [] = row at *
        generalize vR.getD j nilS = v3 at *
        obtain ⟨a3, n3, c3⟩ := v3
        simp only at hrow hdis
        simp only [sv] at hcell HCELL
        have hrn := hrow.len
        have HROW := Lib.hid hrow
        have HX := Lib.hid (spec_exc a3 n3 c3 row wr hrow.reads hlets (by omega))
        have HFL := Lib.hid hflt
        have HDIS := Lib.hid hdis
        have HSUB2 := Lib.hid hsub2
        have hlt' : (j : Int) < (nR : Int) := by omega
        clear hrow hRl hj2 hmem hlets hrl htk hflt hdis hsub2 hrn
        by_cases hle : excW row ≤ e0
        · have HFL2 := Lib.hid (show ((admw d d).take (j + 1)).filter (leB e0) = ((admw d d).take j).filter (leB e0) ++ [row] by rw [HFL.out, if_pos (show leB e0 row = true from decide_eq_true hle)])
          generalize excW row = x at *
          go_wp2_with fail
          refine HX.out.mono ?_
          rintro e w3 ⟨rfl, hb3⟩
          have hc2 : w3.cell? ⟨g, j, none⟩ = some (.slice a3 n3 c3) := (hb3.cell (p := ⟨g, j, none⟩) hgs).trans HCELL.out
          have HB3 := Lib.hid hb3
          clear hb3 hBg hgs hcell
          go_wp2_with (at_builtin; refine app1D _ _ w.heap.size A n c vs _ (a3, n3, c3) row w3 rfl rfl rfl rfl (HO.out.below HB3.out) ((HROW.out.below HB3.out).mono HBASE.out) HDIS.out hn40 (Nat.le_trans HB.out.size HB3.out.size) ?_; intro g5 c5 W4 ho4 hg4 hat4)
          rw [← HFL2.out] at ho4
          have HO4 := Lib.hid ho4
          have HR4 := Lib.hid ((HR.out.below HB3.out).kept_out (HO.out.below HB3.out) HN.out hg4)
          have HN4 := Lib.hid (show ∀ k, (some (⟨g5, 0, none⟩ : Addr)).map (·.block) = some k → (some (⟨g, 0, none⟩ : Addr)).map (·.block) ≠ some k from fun k h1 h2 => by
            have e1 : g5 = k := by simpa using h1
            have e2 : g = k := by simpa using h2
            subst e1
            rcases hat4 with h | h
            · exact HN.out _ h h2
            · have l1 := (HR.out.below HB3.out).inS.1 _ h2
              omega)
          have HB4 := Lib.hid ((HB.out.trans (HB3.out.mono HB.out.size)).grown hg4 (Nat.le_trans HB.out.size HB3.out.size) (fun k hk => (HO.out.below HB3.out).out_ge hk))
          clear ho4 hg4 hat4 hc2
          go_wp2
          go_roundw
          case rel => exact ⟨j + 1, _, _, _, _, by omega, by go_num, rfl, HO4.out, HR4.out, HN4.out, HSUB2.out, HB4.out⟩
          case measure => simp [intOf]; omega
        · have HFL2 := Lib.hid (show ((admw d d).take (j + 1)).filter (leB e0) = ((admw d d).take j).filter (leB e0) by rw [HFL.out, if_neg (by unfold leB; rw [decide_eq_false hle]; simp), List.append_nil])
          have hle' : e0 < excW row := by omega
          clear hle
          generalize excW row = x at *
          go_wp2_with fail
          refine HX.out.mono ?_
          rintro e w3 ⟨rfl, hb3⟩
          have HB3 := Lib.hid hb3
          have HO4 := Lib.hid (show OwnS w3 w.heap.size A n c vs (((admw d d).take (j + 1)).filter (leB e0)) by rw [HFL2.out]; exact HO.out.below hb3)
          have HR4 := Lib.hid (HR.out.below hb3)
          have HB4 := Lib.hid (HB.out.trans (hb3.mono HB.out.size))
          have HSB4 := Lib.hid (show ∀ i, i < n → ∃ i', i' < j + 1 ∧ vs.getD i nilS = vR.getD i' nilS from fun i hi => by
            obtain ⟨i', h1, h2⟩ := HSB.out i hi
            exact ⟨i', by omega, h2⟩)
          clear hb3 hBg hgs hcell
          go_wp2
          go_roundw
          case rel => exact ⟨j + 1, _, _, _, _, by omega, by go_num, rfl, HO4.out, HR4.out, HN.out, HSB4.out, HB4.out⟩
          case measure => simp [intOf]; omega
      · obtain rfl : j = nR := by omega
        have hRl := HR.out.len
        have ho := HO.out
        rw [show (admw d d).take j = admw d d by rw [← hRl]; exact List.take_length] at ho
        have HO2 := Lib.hid ho
        clear ho hRl
        go_wp2
        go_ret2
        have HO3 := Lib.hid (show OwnS wr w.heap.size A n c vs (pAdmissibleWithin (d : Int) e0).1 by rw [HF.out, Int.toNat_natCast]; exact HO2.out)
        have HE3 := Lib.hid (show (pAdmissibleWithin (d : Int) e0).2 = 0 by rw [HF.out])
        first | exact ⟨_, _, _, _, by rw [HE3.out]; rfl, HO3.out, HB.out⟩ | exact ⟨_, _, _, by rw [HE3.out]; rfl, ⟨_, HO3.out⟩, HB.out⟩

end Go.Proofs.Ytiajkfgicpidkaa
