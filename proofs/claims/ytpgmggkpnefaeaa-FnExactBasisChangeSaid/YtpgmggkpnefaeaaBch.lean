/- BasisChange of the program and of the reference. -/
import Derived.Test.YtpgmggkpnefaeaaCrd
import Derived.Test.YtpgmggkpnefaeaaAdmB
import Derived.Test.YtpgmggkpnefaeaaParP
namespace Go.Proofs.Ytpgmggkpnefaeaa
open Go.ChangeShapes Go.WideShapes Go.ChangeAt Go.RowKit Go.Proofs
set_option linter.unusedVariables false

theorem spec_basisB {d : Nat} {w} (hd : d ≤ 40) :
    Calls Try.prog 74 #[.int .i64 (d : Int)] w fun e w' => ∃ A n c vs, e = .returned (.slice A n c) ∧ OwnS w' w.heap.size A n c vs (parL d) ∧ Below w.heap.size w w' := by
  have CON := Lib.hid (spec_l01All (w := w) hd)
  go_enter Try.func74, Try.ntmps74
  go_wp2_with fail
  refine CON.out.mono ?_
  rintro e w2 ⟨A, l, c, vs, rfl, ho, hb⟩
  have HO := Lib.hid ho
  have HB := Lib.hid hb
  clear ho hb
  go_wp2
  go_ret
  exact ⟨_, _, _, _, rfl, HO.out, HB.out⟩

set_option maxHeartbeats 1600000 in
theorem spec_coordinates {A n c vs L w} {d : Nat} (h : RS w A n vs L) (hn : n ≤ 1000000000) (hd : d ≤ 40) :
    Calls Try.prog 60 #[.slice A n c, .int .i64 (d : Int)] w fun e w' => ∃ G k q, e = .returned (.slice G k q) ∧ OwnI w' w.heap.size G k q (coordL L (parL d)) ∧ Below w.heap.size w w' := by
  have H := Lib.hid h
  have CB := Lib.hid (spec_basisB (d := d) (w := w) hd)
  have HPF := Lib.hid (par_facts d hd)
  clear h
  go_enter Try.func60, Try.ntmps60
  go_wp2_with fail
  refine CB.out.mono ?_
  rintro e w1 ⟨A1, m, c1, us, rfl, ho1, hb1⟩
  have HLB := Lib.hid ho1.len
  have HG := Lib.hid ho1.reads
  have HB1 := Lib.hid hb1
  have HE := Lib.hid (empty_own w1)
  have HBE := Lib.hid (HB1.out.trans ((box_below w1 (.cells #[] 2)).mono HB1.out.size))
  have HB11 := Lib.hid (box_below w1 (.cells #[] 2))
  have hm : m ≤ 1000000 := by have := ho1.len; have := HPF.out.1; omega
  clear ho1 hb1
  generalize hBs : parL d = Bs at *
  have HPB := Lib.hid hBs
  clear hBs
  go_wp2
  go_loopw [6, 7] (fun v iv wr => ∃ (i : Nat) (A5 : Option Addr) (c5 : Nat), i ≤ m ∧ iv = .int .i64 (i : Int) ∧ v = .slice A5 i c5 ∧ OwnI wr w1.heap.size A5 i c5 (coordL L (Bs.take i)) ∧ Below w1.heap.size w1 wr) (fun _ iv _ => m - (intOf iv).toNat)
  case atStart => exact ⟨0, _, _, by omega, rfl, rfl, HE.out, HB11.out⟩
  case round =>
    obtain ⟨i, A5, c5, hi, rfl, rfl, ho, hb⟩ := hrel
    have HO := Lib.hid ho
    have HB := Lib.hid hb
    have HBw := Lib.hid (HB1.out.trans (hb.mono HB1.out.size))
    clear ho hb HE HBE HB11
    by_cases him : i < m
    · have him' : (i : Int) < (m : Int) := by omega
      obtain ⟨p2, o2, rfl, _, hc2⟩ := (HG.out.below HB.out).at_ him
      have hr2 := (HG.out.below HB.out).row him
      have HST := Lib.hid (coordL_step L Bs i (by have := HLB.out; omega))
      generalize Bs.getD i [] = y at *
      generalize us.getD i nilS = v at *
      obtain ⟨vA, vn, vc⟩ := v
      simp only [sv] at hc2
      simp only at hr2
      have CH := Lib.hid (spec_place (c := c) (c2 := vc) (H.out.below HBw.out) hr2 hn)
      clear hr2
      cases hh : hasB L y with
      | true =>
        rw [hh] at CH HST
        rw [if_pos rfl] at HST
        clear hh
        go_wp2_with fail
        refine CH.out.mono ?_
        rintro e w3 ⟨z, rfl, hz, hz1, hz2, hb3⟩
        have hz0 : 0 ≤ z := of_decide_eq_true hz
        have HB3 := Lib.hid hb3
        clear hb3 hz CH
        go_wp2_with (at_builtin; refine app1 _ _ _ _ _ _ _ _ _ rfl rfl rfl rfl (HO.out.below HB3.out) (I64.mk (by omega) (by omega)) (by omega) (Nat.le_trans HB.out.size HB3.out.size) ?_; intro g9 c9 w9 ho9 hg9)
        rw [← HST.out] at ho9
        have HO9 := Lib.hid ho9
        have HB9 := Lib.hid ((HB.out.trans (HB3.out.mono HB.out.size)).grown hg9 (Nat.le_trans HB.out.size HB3.out.size) (fun k hk => HO.out.row_ge hk))
        clear ho9 hg9
        go_wp2
        go_roundw
        case rel => exact ⟨i + 1, _, _, by omega, by go_num, rfl, HO9.out, HB9.out⟩
        case measure => simp [intOf]; omega
      | false =>
        rw [hh] at CH HST
        rw [if_neg (by simp)] at HST
        clear hh
        go_wp2_with fail
        refine CH.out.mono ?_
        rintro e w3 ⟨z, rfl, hz, hz1, hz2, hb3⟩
        have hz0 : z < 0 := Int.not_le.1 (of_decide_eq_false hz)
        have HB3 := Lib.hid hb3
        clear hb3 hz CH
        go_wp2_with (at_builtin; refine app1 _ _ _ _ _ _ _ _ _ rfl rfl rfl rfl (HO.out.below HB3.out) (I64.mk (by omega) (by omega)) (by omega) (Nat.le_trans HB.out.size HB3.out.size) ?_; intro g9 c9 w9 ho9 hg9)
        rw [← HST.out] at ho9
        have HO9 := Lib.hid ho9
        have HB9 := Lib.hid ((HB.out.trans (HB3.out.mono HB.out.size)).grown hg9 (Nat.le_trans HB.out.size HB3.out.size) (fun k hk => HO.out.row_ge hk))
        clear ho9 hg9
        go_wp2
        go_roundw
        case rel => exact ⟨i + 1, _, _, by omega, by go_num, rfl, HO9.out, HB9.out⟩
        case measure => simp [intOf]; omega
    · obtain rfl : i = m := by omega
      have ho := HO.out
      rw [List.take_of_length_le (Nat.le_of_eq HLB.out)] at ho
      have HO2 := Lib.hid (ho.mono HB1.out.size)
      clear ho
      go_wp2
      go_ret
      exact ⟨_, _, _, rfl, by first | exact HO2.out | (rw [HPB.out]; exact HO2.out), HBw.out⟩


def bnd : Nat → Nat
  | 0 => 1
  | k + 1 => 2 ^ (k + 1) * bnd k

theorem admwL_cnt (d most B : Nat) (hB : ∀ d2 p, p ≤ most → (admw d2 (p / 2)).length ≤ B) : ∀ (m part : Nat), most + 1 - part ≤ m → 1 ≤ part → (admwL d most part).length ≤ m * B := by
  intro m
  induction m with
  | zero => intro part hm h1; rw [admwL_stop d most part (by omega)]; simp
  | succ m ih =>
    intro part hm h1
    by_cases hgo : part ≤ d ∧ part ≤ most
    · rw [admwL_go d most part h1 hgo.1 hgo.2, List.length_append, List.length_map, Nat.succ_mul]
      have h2 := hB (d - part) part hgo.2
      have h3 := ih (part + 1) (by omega) (by omega)
      omega
    · rw [admwL_stop d most part hgo]; simp

theorem admw_cnt (k : Nat) : ∀ most, most < 2 ^ k → ∀ d, (admw d most).length ≤ bnd k := by
  induction k with
  | zero =>
    intro most hm d
    obtain rfl : most = 0 := by simpa using hm
    unfold admw
    split
    · simp [bnd]
    · rw [admwL_stop d 0 1 (by omega)]; simp
  | succ k ih =>
    intro most hm d
    have hb : 1 ≤ bnd (k + 1) := by
      have : ∀ k, 1 ≤ bnd k := by
        intro k
        induction k with
        | zero => exact Nat.le_refl _
        | succ k ih => rw [bnd]; exact Nat.mul_pos (Nat.pow_pos (by omega)) ih
      exact this _
    unfold admw
    split
    · simpa using hb
    · have h1 := admwL_cnt d most (bnd k) (fun d2 p hp => ih (p / 2) (by rw [Nat.pow_succ] at hm; omega) d2) most 1 (by omega) (by omega)
      rw [bnd]
      exact Nat.le_trans h1 (Nat.mul_le_mul_right _ (by omega))

theorem admwL_good (d : Nat) : ∀ (m most part : Nat), d + 1 - part ≤ m → 1 ≤ part → ∀ r ∈ admwL d most part, (∀ x ∈ r, 1 ≤ x ∧ x ≤ (d : Int)) ∧ fsum r = (d : Int) ∧ ∀ k, most < 2 ^ k → r.length ≤ k := by
  induction d using Nat.strongRecOn with
  | _ d ih =>
    intro m
    induction m with
    | zero =>
      intro most part hm h1 r hr
      rw [admwL_stop d most part (by omega)] at hr
      cases hr
    | succ m ihm =>
      intro most part hm h1 r hr
      by_cases hgo : part ≤ d ∧ part ≤ most
      · rw [admwL_go d most part h1 hgo.1 hgo.2] at hr
        rcases List.mem_append.1 hr with h | h
        · obtain ⟨r2, h2, rfl⟩ := List.mem_map.1 h
          have key : (∀ x ∈ r2, 1 ≤ x ∧ x ≤ ((d - part : Nat) : Int)) ∧ fsum r2 = ((d - part : Nat) : Int) ∧ ∀ k, part / 2 < 2 ^ k → r2.length ≤ k := by
            unfold admw at h2
            by_cases h0 : d - part = 0
            · rw [if_pos h0] at h2
              rw [List.mem_singleton.1 h2]
              exact ⟨fun x hx => (by cases hx), by rw [h0]; rfl, fun k _ => Nat.zero_le _⟩
            · rw [if_neg h0] at h2
              exact ih (d - part) (by omega) (d - part) (part / 2) 1 (by omega) (by omega) r2 h2
          obtain ⟨k1, k2, k3⟩ := key
          refine ⟨fun x hx => ?_, by rw [fsum_cons, k2]; omega, fun k hk => ?_⟩
          · rcases List.mem_cons.1 hx with rfl | hx
            · omega
            · have := k1 x hx
              omega
          · cases k with
            | zero => simp at hk; omega
            | succ k =>
              have := k3 k (by rw [Nat.pow_succ] at hk; omega)
              rw [List.length_cons]; omega
        · exact ihm most (part + 1) (by omega) (by omega) r h
      · rw [admwL_stop d most part hgo] at hr
        cases hr

theorem admw_word (d : Nat) (hd : d ≤ 40) : ∀ r ∈ admw d d, wordB r = true := by
  intro r hr
  have key : (∀ x ∈ r, 1 ≤ x ∧ x ≤ 40) ∧ fsum r ≤ 40 ∧ r.length ≤ 6 := by
    unfold admw at hr
    by_cases h0 : d = 0
    · rw [if_pos h0] at hr
      rw [List.mem_singleton.1 hr]
      exact ⟨fun x hx => (by cases hx), by decide, by simp⟩
    · rw [if_neg h0] at hr
      obtain ⟨k1, k2, k3⟩ := admwL_good d d d 1 (by omega) (by omega) r hr
      exact ⟨fun x hx => by have := k1 x hx; omega, by omega, k3 6 (by omega)⟩
  obtain ⟨k1, k2, k3⟩ := key
  have h4 := sumW_fsum r 0 (by omega) (by omega) k1
  unfold wordB
  rw [decide_eq_true (by omega : r.length ≤ 20), decide_eq_true (by omega : sumW 0 r ≤ 40), Bool.and_true, Bool.true_and]
  refine List.all_eq_true.2 (fun x hx => ?_)
  have := k1 x hx
  unfold letB inB
  simp; omega

def pBasisChange (n : Int) : List (List Int) × Int := if inB n 0 40 = true then ((admw n.toNat n.toNat).map (fun x => coordL (wordP x) (parL n.toNat)), 0) else ([], 2)

theorem pBasisChange_sz (n : Int) : tot (pBasisChange n).1 ≤ 4000000000 := by
  unfold pBasisChange
  split
  · rename_i h
    have hb := inB_true h
    have h1 := admw_cnt 6 n.toNat (by omega) n.toNat
    have h2 := (par_facts n.toNat (by omega)).1
    have h3 := tot_rowsM 1000 ((admw n.toNat n.toNat).map (fun x => coordL (wordP x) (parL n.toNat))) (fun r hr => by
      obtain ⟨x, _, rfl⟩ := List.mem_map.1 hr
      unfold coordL; rw [List.length_map]; exact h2)
    rw [List.length_map] at h3
    have h4 := Nat.mul_le_mul_left 1000 h1
    have h5 : bnd 6 = 2097152 := by decide
    show tot ((admw n.toNat n.toNat).map (fun x => coordL (wordP x) (parL n.toNat))) ≤ 4000000000
    omega
  · simp [tot]

set_option maxHeartbeats 3200000 in
theorem impl_BasisChange {n : Int} {w : World} (hi : I64 n) : Calls Try.prog 15 #[.int .i64 n] w fun e w' => ∃ A l c vs, e = .returned (.tuple #[.slice A l c, .int .i64 (pBasisChange n).2]) ∧ OwnS w' w.heap.size A l c vs (pBasisChange n).1 ∧ Below w.heap.size w w' := by
  clear hi
  have HCD := Lib.hid (isDegree_any n)
  by_cases hd : inB n 0 40 = true
  · have hb := inB_true hd
    have hf : pBasisChange n = ((admw n.toNat n.toNat).map (fun x => coordL (wordP x) (parL n.toNat)), 0) := by unfold pBasisChange; rw [if_pos hd]
    have HF := Lib.hid hf
    have HD := Lib.hid hd
    obtain ⟨d, rfl⟩ := Int.eq_ofNat_of_zero_le hb.1
    rw [Int.toNat_natCast] at HF
    have CON := Lib.hid (fun w => impl_admw d d w (by omega) (by omega))
    have CP := Lib.hid (fun w => impl_partitions (d := d) (w := w) (by omega))
    have HPF := Lib.hid (par_facts d (by omega))
    have HCN := Lib.hid (show (admw d d).length ≤ 2097152 from admw_cnt 6 d (by omega) d)
    have HWB := Lib.hid (admw_word d (by omega))
    clear hf hd
    go_enter Try.func15, Try.ntmps15
    go_wp2_with fail
    refine (HCD.out _).mono ?_
    rintro e w1 ⟨rfl, rfl⟩
    rw [HD.out]
    go_wp2_with fail
    refine (CP.out _).mono ?_
    rintro e w1 ⟨A1, m1, c1, us1, rfl, ho1, hb1⟩
    have HG1 := Lib.hid ho1
    have HB1 := Lib.hid hb1
    have HE1 := Lib.hid (emptyS_own w1)
    have HBE := Lib.hid (box_below2 w1 (.cells #[] 51))
    clear ho1 hb1
    go_wp2_with fail
    refine (CON.out _).mono ?_
    rintro e w2 ⟨A2, l2, c2, vs2, rfl, ho2, hb2⟩
    have HW2 := Lib.hid (ho2.mono (Nat.le_trans HB1.out.size HBE.out.size))
    have HG2 := Lib.hid ((HG1.out.below HBE.out).below hb2)
    have HE2 := Lib.hid ((HE1.out.below hb2).mono HB1.out.size)
    have HB2 := Lib.hid (HB1.out.trans ((HBE.out.trans (hb2.mono HBE.out.size)).mono HB1.out.size))
    have HA1 := Lib.hid (show ∀ k, A1.map (·.block) = some k → k < w1.heap.size from fun k hk => HG1.out.inS.1 k hk)
    have HA2 := Lib.hid (show ∀ k, A2.map (·.block) = some k → w1.heap.size < k ∧ k < w2.heap.size from fun k hk => ⟨by have h1 := ho2.out_ge hk; simp at h1; omega, ho2.inS.1 k hk⟩)
    have HSZ := Lib.hid (show w1.heap.size < w2.heap.size by have h1 := hb2.size; simp at h1; omega)
    have hm1 : m1 ≤ 1000 := by have h1 := HG1.out.len; have h2 := HPF.out.1; omega
    have hl2 : l2 ≤ 2097152 := by have h1 := HW2.out.len; have h2 := HCN.out; omega
    clear ho2 hb2 HG1 HE1 HBE HB1
    go_wp2_with fail
    go_loopw [5, 18] (fun v iv wr => ∃ (i : Nat) (A5 : Option Addr) (c5 : Nat) (vs5 : List Sl), i ≤ l2 ∧ iv = .int .i64 (i : Int) ∧ v = .slice A5 i c5 ∧ OwnS wr w.heap.size A5 i c5 vs5 (((admw d d).take i).map fun x => coordL (wordP x) (parL d)) ∧ OwnS wr w.heap.size A2 l2 c2 vs2 (admw d d) ∧ OwnS wr w.heap.size A1 m1 c1 us1 (parL d) ∧ (∀ k, A5.map (·.block) = some k → k = w1.heap.size ∨ w2.heap.size ≤ k) ∧ w2.heap.size ≤ wr.heap.size ∧ Below w.heap.size w wr) (fun _ iv _ => l2 - (intOf iv).toNat)
    case atStart => exact ⟨0, _, _, _, by omega, rfl, rfl, by simpa using HE2.out, HW2.out, HG2.out, fun k hk => .inl (by simpa using hk.symm), Nat.le_refl _, HB2.out⟩
    case round =>
      obtain ⟨i, A5, c5, vs5, hi, rfl, rfl, ho, hw, hg1, hinv, hsz, hb⟩ := hrel
      have HO := Lib.hid ho
      have HW := Lib.hid hw
      have HG := Lib.hid hg1
      have HINV := Lib.hid hinv
      have HBs := Lib.hid hsz
      have HB := Lib.hid hb
      clear ho hw hg1 hinv hsz hb HE2 HW2 HG2 HB2
      by_cases hil : i < l2
      · have hil' : (i : Int) < (l2 : Int) := by omega
        obtain ⟨p1, o1, rfl, _, hc1⟩ := HW.out.reads.at_ hil
        have hr1 := HW.out.reads.row hil
        have hmem := HWB.out _ (getD_memS (admw d d) i (by have := HW.out.len; omega))
        have HTK := Lib.hid (show ((admw d d).take (i + 1)).map (fun x => coordL (wordP x) (parL d)) = ((admw d d).take i).map (fun x => coordL (wordP x) (parL d)) ++ [coordL (wordP ((admw d d).getD i [])) (parL d)] by rw [take_snocS _ i (by have := HW.out.len; omega), List.map_append]; rfl)
        generalize (admw d d).getD i [] = x at *
        generalize vs2.getD i nilS = v at *
        obtain ⟨vA, vn, vc⟩ := v
        simp only [sv] at hc1
        simp only at hr1
        have HWL := Lib.hid (wordP_small hmem).2
        have CM := Lib.hid (impl_milnorOfWord (c := vc) hr1 hmem)
        clear hr1 hmem
        go_wp2_with fail
        refine CM.out.mono ?_
        rintro e w3 ⟨G3, k3, d3, us3, rfl, ho3, hb3⟩
        have HO3 := Lib.hid ho3
        have HB3 := Lib.hid hb3
        clear ho3 hb3 CM
        have CC := Lib.hid (impl_coordinates (c := d3) (c2 := c1) HO3.out.reads (wordP_ris _) (by have := HO3.out.len; have := HWL.out; omega) (HG.out.reads.below HB3.out) (by omega))
        go_wp2_with fail
        refine CC.out.mono ?_
        rintro e w4 ⟨G4, d4, rfl, ho4, hb4⟩
        have HB34 := Lib.hid (HB3.out.trans (hb4.mono HB3.out.size))
        have HO4 := Lib.hid (ho4.mono HB3.out.size)
        have HIN := Lib.hid HO.out.inS
        clear ho4 hb4 CC
        go_wp2_with (at_builtin; refine app1S _ _ w.heap.size wr.heap.size A5 i c5 vs5 _ (G4, m1, d4) _ w4 rfl rfl rfl rfl (HO.out.below HB34.out) HO4.out HIN.out HB.out.size (by omega) (Nat.le_trans HB.out.size HB34.out.size) ?_; intro g9 c9 w9 ho9 hg9 hat9)
        rw [← HTK.out] at ho9
        have HO9 := Lib.hid ho9
        have HW9 := Lib.hid ((HW.out.below HB34.out).kept_out (HO.out.below HB34.out) (fun k hk e => by
          have h1 := HA2.out k e
          have h2 := HINV.out k hk
          omega) hg9)
        have HG9 := Lib.hid ((HG.out.below HB34.out).kept_out (HO.out.below HB34.out) (fun k hk e => by
          have h1 := HA1.out k e
          have h2 := HSZ.out
          rcases HINV.out k hk with h3 | h3 <;> omega) hg9)
        have HINV9 := Lib.hid (show ∀ k, (some (⟨g9, 0, none⟩ : Addr)).map (·.block) = some k → k = w1.heap.size ∨ w2.heap.size ≤ k from fun k hk => by
          have e1 : g9 = k := by simpa using hk
          rcases hat9 with h1 | h1
          · exact HINV.out k (by rw [h1, e1])
          · have h2 := HB34.out.size
            have h3 := HBs.out
            exact .inr (by omega))
        have HB9 := Lib.hid ((HB.out.trans (HB34.out.mono HB.out.size)).grown hg9 (Nat.le_trans HB.out.size HB34.out.size) (fun k hk => (HO.out.below HB34.out).out_ge hk))
        have HS9 := Lib.hid (Nat.le_trans (Nat.le_trans HBs.out HB34.out.size) hg9.size)
        clear ho9 hg9 hat9
        go_wp2
        go_roundw
        case rel => exact ⟨i + 1, _, _, _, by omega, by go_num, rfl, HO9.out, HW9.out, HG9.out, HINV9.out, HS9.out, HB9.out⟩
        case measure => simp [intOf]; omega
      · obtain rfl : i = l2 := by omega
        have ho := HO.out
        rw [List.take_of_length_le (Nat.le_of_eq HW.out.len)] at ho
        have HO2 := Lib.hid ho
        clear ho
        go_wp2
        go_ret2
        exact ⟨_, _, _, _, by rw [HF.out]; rfl, by rw [HF.out]; exact HO2.out, HB.out⟩
  · have hd' : inB n 0 40 = false := by simpa using hd
    have hf : pBasisChange n = ([], 2) := by unfold pBasisChange; rw [if_neg hd]
    have HF := Lib.hid hf
    have HD := Lib.hid hd'
    clear hf hd hd'
    go_enter Try.func15, Try.ntmps15
    go_wp2_with fail
    refine (HCD.out _).mono ?_
    rintro e w1 ⟨rfl, rfl⟩
    rw [HD.out]
    go_wp2
    go_ret2
    exact ⟨none, 0, 0, [], by rw [HF.out]; rfl, by rw [HF.out]; exact OwnS.nil _ _, Below.refl _ _⟩

set_option maxHeartbeats 3200000 in
theorem spec_BasisChange {n : Int} {w : World} (hi : I64 n) : Calls Try.prog 14 #[.int .i64 n] w fun e w' => ∃ A l c vs, e = .returned (.tuple #[.slice A l c, .int .i64 (pBasisChange n).2]) ∧ OwnS w' w.heap.size A l c vs (pBasisChange n).1 ∧ Below w.heap.size w w' := by
  clear hi
  have HCD := Lib.hid (isDegree_any n)
  by_cases hd : inB n 0 40 = true
  · have hb := inB_true hd
    have hf : pBasisChange n = ((admw n.toNat n.toNat).map (fun x => coordL (wordP x) (parL n.toNat)), 0) := by unfold pBasisChange; rw [if_pos hd]
    have HF := Lib.hid hf
    have HD := Lib.hid hd
    obtain ⟨d, rfl⟩ := Int.eq_ofNat_of_zero_le hb.1
    rw [Int.toNat_natCast] at HF
    have CON := Lib.hid (spec_l03Basis d w (by omega))
    have CP := Lib.hid (fun w => impl_partitions (d := d) (w := w) (by omega))
    have HPF := Lib.hid (par_facts d (by omega))
    have HCN := Lib.hid (show (admw d d).length ≤ 2097152 from admw_cnt 6 d (by omega) d)
    have HWB := Lib.hid (admw_word d (by omega))
    clear hf hd
    go_enter Try.func14, Try.ntmps14
    go_wp2_with (first | (go_at_call 58; refine (l01In_any _ _ _ _).mono ?_; rintro e w' ⟨rfl, rfl⟩; rw [HD.out]) | fail)
    refine CON.out.mono ?_
    rintro e w1 ⟨A2, l2, c2, vs2, rfl, ho2, hb2⟩
    have HW2 := Lib.hid (ho2.below (box_below2 w1 (.cells #[] 51)))
    have HE2 := Lib.hid ((emptyS_own w1).mono hb2.size)
    have HB2 := Lib.hid (hb2.trans ((box_below2 w1 (.cells #[] 51)).mono hb2.size))
    have HA2 := Lib.hid (show ∀ k, A2.map (·.block) = some k → k < w1.heap.size from fun k hk => ho2.inS.1 k hk)
    have hl2 : l2 ≤ 2097152 := by have h1 := ho2.len; have h2 := HCN.out; omega
    clear ho2 hb2
    go_wp2_with fail
    go_loopw [5, 6] (fun v iv wr => ∃ (i : Nat) (A5 : Option Addr) (c5 : Nat) (vs5 : List Sl), i ≤ l2 ∧ iv = .int .i64 (i : Int) ∧ v = .slice A5 i c5 ∧ OwnS wr w.heap.size A5 i c5 vs5 (((admw d d).take i).map fun x => coordL (wordP x) (parL d)) ∧ OwnS wr w.heap.size A2 l2 c2 vs2 (admw d d) ∧ (∀ k, A5.map (·.block) = some k → w1.heap.size ≤ k) ∧ w1.heap.size ≤ wr.heap.size ∧ Below w.heap.size w wr) (fun _ iv _ => l2 - (intOf iv).toNat)
    case atStart => exact ⟨0, _, _, _, by omega, rfl, rfl, by simpa using HE2.out, HW2.out, fun k hk => Nat.le_of_eq (by simpa using hk), (by simp), HB2.out⟩
    case round =>
      obtain ⟨i, A5, c5, vs5, hi, rfl, rfl, ho, hw, hinv, hsz, hb⟩ := hrel
      have HO := Lib.hid ho
      have HW := Lib.hid hw
      have HINV := Lib.hid hinv
      have HBs := Lib.hid hsz
      have HB := Lib.hid hb
      clear ho hw hinv hsz hb HE2 HW2 HB2
      by_cases hil : i < l2
      · have hil' : (i : Int) < (l2 : Int) := by omega
        obtain ⟨p1, o1, rfl, _, hc1⟩ := HW.out.reads.at_ hil
        have hr1 := HW.out.reads.row hil
        have hmem := HWB.out _ (getD_memS (admw d d) i (by have := HW.out.len; omega))
        have HTK := Lib.hid (show ((admw d d).take (i + 1)).map (fun x => coordL (wordP x) (parL d)) = ((admw d d).take i).map (fun x => coordL (wordP x) (parL d)) ++ [coordL (wordP ((admw d d).getD i [])) (parL d)] by rw [take_snocS _ i (by have := HW.out.len; omega), List.map_append]; rfl)
        generalize (admw d d).getD i [] = x at *
        generalize vs2.getD i nilS = v at *
        obtain ⟨vA, vn, vc⟩ := v
        simp only [sv] at hc1
        simp only at hr1
        have HWL := Lib.hid (wordP_small hmem).2
        have CM := Lib.hid (spec_l05Word (c := vc) hr1 hmem)
        clear hr1 hmem
        go_wp2_with fail
        refine CM.out.mono ?_
        rintro e w3 ⟨G3, k3, d3, us3, rfl, ho3, hb3⟩
        have HO3 := Lib.hid ho3
        have HB3 := Lib.hid hb3
        clear ho3 hb3 CM
        have CC := Lib.hid (spec_coordinates (c := d3) (d := d) HO3.out.reads (by have := HO3.out.len; have := HWL.out; omega) (by omega))
        go_wp2_with fail
        refine CC.out.mono ?_
        rintro e w4 ⟨G4, m1, d4, rfl, ho4, hb4⟩
        have HB34 := Lib.hid (HB3.out.trans (hb4.mono HB3.out.size))
        have HO4 := Lib.hid (ho4.mono HB3.out.size)
        have HIN := Lib.hid HO.out.inS
        clear ho4 hb4 CC
        go_wp2_with (at_builtin; refine app1S _ _ w.heap.size wr.heap.size A5 i c5 vs5 _ (G4, m1, d4) _ w4 rfl rfl rfl rfl (HO.out.below HB34.out) HO4.out HIN.out HB.out.size (by omega) (Nat.le_trans HB.out.size HB34.out.size) ?_; intro g9 c9 w9 ho9 hg9 hat9)
        rw [← HTK.out] at ho9
        have HO9 := Lib.hid ho9
        have HW9 := Lib.hid ((HW.out.below HB34.out).kept_out (HO.out.below HB34.out) (fun k hk e => by
          have h1 := HA2.out k e
          have h2 := HINV.out k hk
          omega) hg9)
        have HINV9 := Lib.hid (show ∀ k, (some (⟨g9, 0, none⟩ : Addr)).map (·.block) = some k → w1.heap.size ≤ k from fun k hk => by
          have e1 : g9 = k := by simpa using hk
          rcases hat9 with h1 | h1
          · exact HINV.out k (by rw [h1, e1])
          · have h2 := HB34.out.size
            have h3 := HBs.out
            omega)
        have HB9 := Lib.hid ((HB.out.trans (HB34.out.mono HB.out.size)).grown hg9 (Nat.le_trans HB.out.size HB34.out.size) (fun k hk => (HO.out.below HB34.out).out_ge hk))
        have HS9 := Lib.hid (Nat.le_trans (Nat.le_trans HBs.out HB34.out.size) hg9.size)
        clear ho9 hg9 hat9
        go_wp2
        go_roundw
        case rel => exact ⟨i + 1, _, _, _, by omega, by go_num, rfl, HO9.out, HW9.out, HINV9.out, HS9.out, HB9.out⟩
        case measure => simp [intOf]; omega
      · obtain rfl : i = l2 := by omega
        have ho := HO.out
        rw [List.take_of_length_le (Nat.le_of_eq HW.out.len)] at ho
        have HO2 := Lib.hid ho
        clear ho
        go_wp2
        go_ret2
        exact ⟨_, _, _, _, by rw [HF.out]; rfl, by rw [HF.out]; exact HO2.out, HB.out⟩
  · have hd' : inB n 0 40 = false := by simpa using hd
    have hf : pBasisChange n = ([], 2) := by unfold pBasisChange; rw [if_neg hd]
    have HF := Lib.hid hf
    have HD := Lib.hid hd'
    clear hf hd hd'
    go_enter Try.func14, Try.ntmps14
    go_wp2_with (first | (go_at_call 58; refine (l01In_any _ _ _ _).mono ?_; rintro e w' ⟨rfl, rfl⟩; rw [HD.out]) | fail)
    go_ret2
    exact ⟨none, 0, 0, [], by rw [HF.out]; rfl, by rw [HF.out]; exact OwnS.nil _ _, Below.refl _ _⟩

end Go.Proofs.Ytpgmggkpnefaeaa
