/- BasisOfProfile of the reference; plain law. -/
import Derived.Test.YtpgmggkpnefaeaaCooS
import Derived.Test.YtpgmggkpnefaeaaPart
namespace Go.Proofs.Ytpgmggkpnefaeaa
open Go.ChangeShapes Go.WideShapes Go.ChangeAt Go.RowKit
set_option linter.unusedVariables false

def smallB (x : List Int) : Bool := decide (x.length ≤ 10) && x.all (fun e => decide (0 ≤ e ∧ e ≤ 1000))

theorem par_small0 : (List.range 41).all (fun d => (parL d).all smallB) = true := by decide +kernel

theorem par_small (d : Nat) (h : d ≤ 40) : ∀ x ∈ parL d, x.length ≤ 10 ∧ ∀ e ∈ x, 0 ≤ e ∧ e ≤ 1000000000000 := by
  intro x hx
  have h1 := List.all_eq_true.1 (List.all_eq_true.1 par_small0 d (List.mem_range.2 (by omega))) x hx
  simp only [smallB, Bool.and_eq_true, decide_eq_true_eq, List.all_eq_true] at h1
  exact ⟨h1.1, fun e he => by have := h1.2 e he; omega⟩

def pBasisOfProfile (hs : List Int) (d : Int) : List (List Int) × Int :=
  if pIsProfile hs = true then (if inB d 0 40 = true then ((parL d.toNat).filter (inW hs 0), 0) else ([], 2)) else ([], 1)

theorem tot_filter_le (p : List Int → Bool) (l : List (List Int)) : tot (l.filter p) ≤ tot l ∧ (l.filter p).length ≤ l.length := by
  induction l with
  | nil => simp [tot]
  | cons x l ih =>
    rw [List.filter_cons]
    split
    · simp only [tot, List.length_cons]; omega
    · simp only [tot, List.length_cons]; omega

theorem pBasisOfProfile_sz (hs : List Int) (h : hs.length ≤ 1048576) (d : Int) : tot (pBasisOfProfile hs d).1 ≤ 4000000000 := by
  unfold pBasisOfProfile
  split
  · split
    · rename_i h1
      have hb := inB_true h1
      have h2 := (tot_filter_le (inW hs 0) (parL d.toNat)).1
      have h3 := (par_facts d.toNat (by omega)).2.1
      show tot ((parL d.toNat).filter (inW hs 0)) ≤ 4000000000
      omega
    · simp [tot]
  · simp [tot]

theorem filter_take (p : List Int → Bool) (l : List (List Int)) (j : Nat) (h : j < l.length) : (l.take (j + 1)).filter p = (l.take j).filter p ++ (if p (l.getD j []) = true then [l.getD j []] else []) := by
  rw [take_snocS l j h, List.filter_append]
  congr 1
  by_cases hq : p (l.getD j []) = true
  · rw [if_pos hq, List.filter_cons_of_pos hq]; rfl
  · rw [if_neg hq, List.filter_cons_of_neg hq]; rfl

set_option maxHeartbeats 1000000 in
theorem spec_l07Basis {A' n' c' hs w} {d : Nat} (g : RI w A' n' hs) (hp : Prf hs) (hd : d ≤ 40) :
    Calls Try.prog 83 #[.slice A' n' c', .int .i64 (d : Int)] w fun e w' => ∃ A n c vs, e = .returned (.slice A n c) ∧ OwnS w' w.heap.size A n c vs ((parL d).filter (inW hs 0)) ∧ Below w.heap.size w w' := by
  have CP := Lib.hid (spec_l04Basis (w := w) hd)
  have HPF := Lib.hid (par_facts d hd).1
  have HSM := Lib.hid (par_small d hd)
  have G := Lib.hid g
  have HP := Lib.hid hp
  clear g hp
  go_enter Try.func83, Try.ntmps83
  go_wp2_with fail
  refine CP.out.mono ?_
  rintro e w1 ⟨AR, nR, cR, vR, rfl, hoR, hbR⟩
  have hRl := hoR.len
  have hRs : nR ≤ 1000 := by have := HPF.out; omega
  have HB2 := Lib.hid (hbR.alloc hbR.size (.cells #[] 51))
  have HS0 := Lib.hid (show Sub (w1.alloc (.cells #[] 51)) w.heap.size (some ⟨w1.heap.size, 0, none⟩) 0 0 [] [] AR nR cR vR (parL d) 0 from ⟨(emptyS_own w1).mono hbR.size, hoR.alloc _, fun k h1 h2 => by
    have e1 : w1.heap.size = k := by simpa using h1
    have l2 := hoR.inS.1 k h2
    omega, fun i hi => absurd hi (by omega)⟩)
  have HRL := Lib.hid hRl
  clear hoR hbR hRl
  go_wp2
  go_loopw [6, 7] (fun v iv wr => ∃ (i : Nat) (A2 : Option Addr) (n2 c2 : Nat) (vs2 : List Sl), i ≤ nR ∧ iv = .int .i64 (i : Int) ∧ v = .slice A2 n2 c2 ∧ Sub wr w.heap.size A2 n2 c2 vs2 (((parL d).take i).filter (inW hs 0)) AR nR cR vR (parL d) i ∧ Below w.heap.size w wr) (fun _ iv _ => nR - (intOf iv).toNat)
  case atStart => exact ⟨0, _, _, _, [], by omega, rfl, rfl, HS0.out, HB2.out⟩
  case round =>
    obtain ⟨i, A2, n2, c2, vs2, hi, rfl, rfl, hsub, hb⟩ := hrel
    clear HS0 HB2
    have HS := Lib.hid hsub
    have HB := Lib.hid hb
    clear hsub hb
    by_cases hlt : i < nR
    · have hlt' : (i : Int) < (nR : Int) := by omega
      have hi2 : i < (parL d).length := by have := HRL.out; omega
      have hft := filter_take (inW hs 0) (parL d) i hi2
      have hsm := HSM.out _ (getD_memS (parL d) i hi2)
      have hn2 : n2 ≤ 1099511627776 := by
        have h2 := (tot_filter_le (inW hs 0) ((parL d).take i)).2
        have h3 := HPF.out
        have h4 := HS.out.own.len
        have h5 : ((parL d).take i).length ≤ (parL d).length := by simp; omega
        omega
      obtain ⟨gR, rfl, hgB, hgl⟩ := HS.out.ofR.form (by omega)
      have hcR := HS.out.ofR.cell hlt
      have hrow := HS.out.ofR.row hlt
      have HAP := Lib.hid (HS.out.apart hlt)
      have HPU := Lib.hid (fun (wx : World) (hbx : Below wr.heap.size wr wx) w' g c' acc2 (ho : OwnS w' w.heap.size (some ⟨g, 0, none⟩) (n2 + 1) c' (vs2 ++ [vR.getD i nilS]) acc2) hg hat => (HS.out.below hbx).push hlt ho hg hat)
      generalize (parL d).getD i [] = row at *
      generalize vR.getD i nilS = v at *
      obtain ⟨vA, vn, vc⟩ := v
      simp only at hrow
      simp only [sv] at hcR
      have hrl := hrow.len
      have HROW := Lib.hid hrow
      have CI := Lib.hid (spec_l07In (c := vc) (c' := c') hrow.reads (G.out.below HB.out) hsm.2 (by omega) HP.out)
      have HFT := Lib.hid hft
      have HGC := Lib.hid hcR
      clear hrow hsm hrl hft hi2 hcR
      have hcR := HGC.out
      cases hz : inW hs 0 row with
      | true =>
        have HF2 := Lib.hid (HFT.out.trans (by rw [hz, if_pos rfl]))
        rw [hz] at CI
        clear hz
        go_wp2_with fail
        refine CI.out.mono ?_
        rintro e w3 ⟨rfl, q, rfl⟩
        go_wp2_with (at_builtin; refine app1D _ _ w.heap.size A2 n2 c2 vs2 _ (vA, vn, vc) row (wr.drewN q) rfl rfl rfl rfl HS.out.own HROW.out HAP.out hn2 HB.out.size ?_; intro g5 c5 W4 ho4 hg4 hat4)
        rw [← HF2.out] at ho4
        have HS4 := Lib.hid (HPU.out _ (below_drewN (Below.refl _ _) q) _ _ _ _ ho4 hg4 (hat4.imp id (fun h => Nat.le_of_lt h)))
        have HB4 := Lib.hid ((below_drewN HB.out q).grown hg4 HB.out.size (fun k hk => HS.out.own.out_ge hk))
        clear ho4 hg4 hat4
        go_wp2
        go_roundw
        case rel => exact ⟨i + 1, _, _, _, _, by omega, by go_num, rfl, HS4.out, HB4.out⟩
        case measure => simp [intOf]; omega
      | false =>
        have HF2 := Lib.hid (HFT.out.trans (by rw [hz, if_neg (by simp), List.append_nil]))
        rw [hz] at CI
        clear hz
        go_wp2_with fail
        refine CI.out.mono ?_
        rintro e w3 ⟨rfl, q, rfl⟩
        go_wp2
        go_roundw
        case rel => exact ⟨i + 1, _, _, _, _, by omega, by go_num, rfl, by rw [HF2.out]; exact (HS.out.below (below_drewN (Below.refl _ _) q)).skip, below_drewN HB.out q⟩
        case measure => simp [intOf]; omega
    · obtain rfl : i = nR := by omega
      have ho := HS.out.own
      rw [show (parL d).take i = parL d by rw [← HRL.out]; exact List.take_length] at ho
      have HO := Lib.hid ho
      clear ho
      go_wp2
      go_ret
      exact ⟨_, _, _, _, rfl, HO.out, HB.out⟩

set_option maxHeartbeats 400000 in
theorem spec_BasisOfProfile {A' n' c' hs} {d : Int} {w} (g : RI w A' n' hs) (gn : n' ≤ 1048576) (hd : I64 d) :
    Calls Try.prog 49 #[.slice A' n' c', .int .i64 d] w fun e w' => ∃ A n c vs, e = .returned (.tuple #[.slice A n c, .int .i64 (pBasisOfProfile hs d).2]) ∧ OwnS w' w.heap.size A n c vs (pBasisOfProfile hs d).1 ∧ Below w.heap.size w w' := by
  have CI := Lib.hid (spec_l07Is A' n' c' hs w g)
  have G := Lib.hid g
  clear g hd
  cases hp : pIsProfile hs with
  | false =>
    have HF := Lib.hid (show pBasisOfProfile hs d = ([], 1) by unfold pBasisOfProfile; rw [hp]; rfl)
    rw [hp] at CI
    clear hp
    go_enter Try.func49, Try.ntmps49
    go_wp2_with fail
    refine CI.out.mono ?_
    rintro e w1 ⟨rfl, rfl⟩
    go_wp2
    go_ret2
    exact ⟨none, 0, 0, [], by first | (rw [HF.out]; rfl) | rw [HF.out], by rw [HF.out]; exact OwnS.nil _ _, Below.refl _ _⟩
  | true =>
    have HPT := Lib.hid (pIsProfile_true hp).2
    cases h1 : inB d 0 40 with
    | false =>
      have HF := Lib.hid (show pBasisOfProfile hs d = ([], 2) by unfold pBasisOfProfile; rw [hp, h1]; rfl)
      have HK := Lib.hid h1
      rw [hp] at CI
      clear hp h1
      go_enter Try.func49, Try.ntmps49
      go_wp2_with fail
      refine CI.out.mono ?_
      rintro e w1 ⟨rfl, rfl⟩
      go_wp2_with fail
      refine (l01In_any _ _ _ _).mono ?_
      rintro e w1 ⟨rfl, rfl⟩
      rw [HK.out]
      go_wp2
      go_ret2
      exact ⟨none, 0, 0, [], by first | (rw [HF.out]; rfl) | rw [HF.out], by rw [HF.out]; exact OwnS.nil _ _, Below.refl _ _⟩
    | true =>
      have h1b := inB_true h1
      have HK := Lib.hid h1
      obtain ⟨k, rfl⟩ := Int.eq_ofNat_of_zero_le h1b.1
      have HF := Lib.hid (show pBasisOfProfile hs (k : Int) = ((parL k).filter (inW hs 0), 0) by unfold pBasisOfProfile; rw [hp, h1, Int.toNat_natCast]; rfl)
      have CB := Lib.hid (spec_l07Basis (c' := c') G.out HPT.out (show k ≤ 40 by omega))
      rw [hp] at CI
      clear hp h1 h1b
      go_enter Try.func49, Try.ntmps49
      go_wp2_with fail
      refine CI.out.mono ?_
      rintro e w1 ⟨rfl, rfl⟩
      go_wp2_with fail
      refine (l01In_any _ _ _ _).mono ?_
      rintro e w1 ⟨rfl, rfl⟩
      rw [HK.out]
      go_wp2_with fail
      refine CB.out.mono ?_
      rintro e w2 ⟨A, n, c, vs, rfl, ho, hb⟩
      have HO := Lib.hid ho
      have HB := Lib.hid hb
      clear ho hb
      go_wp2
      go_ret2
      exact ⟨A, n, c, vs, by first | (rw [HF.out]; rfl) | rw [HF.out], by rw [HF.out]; exact HO.out, HB.out⟩

end Go.Proofs.Ytpgmggkpnefaeaa
