/- impl: the tables of Milnor's product, filled number by number. -/
import Derived.Test.YtpgmggkpnefaeaaFinB
import Derived.Test.YtpgmggkpnefaeaaFilP
import Derived.Deep.Cut
namespace Go.Proofs.Ytpgmggkpnefaeaa
open Go.ChangeShapes Go.WideShapes Go.ChangeAt Go.RowKit Go.Proofs
set_option linter.unusedVariables false

theorem Tab.cellR {w B0 B1 bT gR gC AS AX nS cR cS cC cX r S X A5 n5 c5 vs5 acc} (h : Tab w B0 B1 bT gR gC AS AX nS cR cS cC cX r S X A5 n5 c5 vs5 acc) : w.cell? ⟨gR, 0, none⟩ = some (.int .i64 r) := h.hR.cell (i := 0) (by omega)

theorem Tab.cellS {w B0 B1 bT gR gC gS AX nS cR cS cC cX r d s rest X A5 n5 c5 vs5 acc} {j : Nat} (h : Tab w B0 B1 bT gR gC (some ⟨gS, 0, none⟩) AX nS cR cS cC cX r (d ++ s :: rest) X A5 n5 c5 vs5 acc) (hj : d.length = j) (hn : j < nS) : w.cell? ⟨gS, j, none⟩ = some (.int .i64 s) := by
  have := h.hS.cell (i := j) hn
  rw [mid_get d s rest j hj] at this
  exact this

theorem Tab.storeX {w B0 B1 bT gR gC AS gX nS cR cS cC cX r S X A5 n5 c5 vs5 acc} {j : Nat} (h : Tab w B0 B1 bT gR gC AS (some ⟨gX, 0, none⟩) nS cR cS cC cX r S X A5 n5 c5 vs5 acc) (hn : j < nS) : (∃ v, w.cell? ⟨gX, j, none⟩ = some v) ∧ w.frozen? ⟨gX, j, none⟩ = false :=
  ⟨⟨_, h.rowX.cell hn⟩, h.rowX.1.frozenAt j⟩

/-- what a walk over the tables leaves -/
def FillPost (w : World) (B0 B1 bT gR gC : Nat) (AS AX : Option Addr) (nS cR cS cC cX : Nat) (r : Int) (S X : List Int) (acc : List (List Int)) (e : Ending) (w' : World) : Prop :=
  e = .returned (.tuple #[]) ∧ (∃ A6 n6 c6 vs6, Tab w' B0 B1 bT gR gC AS AX nS cR cS cC cX r S X A6 n6 c6 vs6 acc) ∧ Below B0 w w'

set_option maxRecDepth 100000 in
set_option maxHeartbeats 3200000 in
theorem impl_fill {B0 B1 bT gR gC nS cR cS cC cX : Nat} {AS AX : Option Addr} (hn : nS ≤ 5) (rest : List Int) : ∀ (j : Nat) (r : Int) (xs d : List Int) (A5 : Option Addr) (n5 c5 : Nat) (vs5 : List Sl) (acc : List (List Int)) (w : World), Tab w B0 B1 bT gR gC AS AX nS cR cS cC cX r (d ++ rest) (xs ++ List.replicate rest.length 0) A5 n5 c5 vs5 acc → xs.length = j → d.length = j → j + rest.length = nS → (0 ≤ r ∧ r ≤ 1000) → sm d → sm rest → sm xs → acc.length + (fillP j r xs d rest).length ≤ 8589934592 →
    Calls Try.prog 155 #[.pointer (some ⟨bT, 0, none⟩), .int .i64 0, .int .i64 (j : Int)] w (FillPost w B0 B1 bT gR gC AS AX nS cR cS cC cX r (d ++ rest) (xs ++ List.replicate rest.length 0) (acc ++ fillP j r xs d rest)) := by
  induction rest with
  | nil =>
    intro j r xs d A5 n5 c5 vs5 acc w h hx hd hj hr hsd hsr hsx hacc
    simp only [List.length_nil, Nat.add_zero] at hj
    subst hj
    simp only [List.append_nil, List.length_nil, List.replicate_zero] at h ⊢
    rw [fillP] at hacc ⊢
    have CF := Lib.hid (impl_finish h (by omega) hr hsd hsx hx (by omega))
    have k0 := h.box.cell 0 (v := .slice (some ⟨gR, 0, none⟩) 1 cR) rfl
    have k1 := h.box.cell 1 (v := .slice AS j cS) rfl
    clear h hacc
    go_enter Try.func155, Try.ntmps155
    go_wp2_with fail
    refine CF.out.mono ?_
    rintro e w1 ⟨rfl, A6, n6, c6, vs6, hT, hB⟩
    have HT := Lib.hid hT
    have HB := Lib.hid hB
    clear hT hB
    go_wp2
    refine bodyPost_ret (v := .tuple #[]) (by simp [results, Try.results155, go_sem]) rfl ?_
    exact ⟨rfl, ⟨_, _, _, _, HT.out⟩, HB.out⟩
  | cons s rest ih =>
    intro j r xs d A5 n5 c5 vs5 acc w h hx hd hj hr hsd hsr hsx hacc
    obtain ⟨gS, rfl, -⟩ := h.hS.form (show 0 < nS by simp only [List.length_cons] at hj; omega)
    obtain ⟨gX, rfl, -⟩ := h.rowX.form (show 0 < nS by simp only [List.length_cons] at hj; omega)
    have IH := Lib.hid ih
    clear ih
    simp only [List.length_cons] at hj h ⊢
    generalize hk : rest.length = k at *
    have hjn : j < nS := by omega
    obtain ⟨hs, hsr⟩ := sm_cons hsr
    have hp0 : (2 : Nat) ^ (j + 1) ≤ 2 ^ 5 := Nat.pow_le_pow_right (by omega) (by omega)
    have hp1 : (2 : Nat) ^ 1 ≤ 2 ^ (j + 1) := Nat.pow_le_pow_right (by omega) (by omega)
    have hpi : (2 : Int) ^ (j + 1) = ((2 ^ (j + 1) : Nat) : Int) := by simp
    have hps : (2 : Int) * 2 ^ j = ((2 ^ (j + 1) : Nat) : Int) := by rw [← hpi, Int.pow_succ, Int.mul_comm]
    rw [fillP, hpi] at hacc
    have HFL := Lib.hid (show fillP j r xs d (s :: rest) = (List.range (topN j r s)).flatMap fun (x : Nat) => fillP (j + 1) (r - ((2 ^ (j + 1) : Nat) : Int) * (x : Int)) (xs ++ [(x : Int)]) (d ++ [s - (x : Int)]) rest by rw [fillP, hpi])
    have HTOP := Lib.hid (fun (x : Nat) => topN_lt (j := j) (r := r) (s := s) x hr.1 hs.1)
    have hTd : (topN j r s : Int) = min (r / ((2 ^ (j + 1) : Nat) : Int)) s + 1 := by
      unfold topN; rw [hpi]
      have : 0 ≤ r / ((2 ^ (j + 1) : Nat) : Int) := Int.ediv_nonneg hr.1 (by omega)
      omega
    rw [show (2 : Nat) ^ 5 = 32 by decide] at hp0
    rw [show (2 : Nat) ^ 1 = 2 by decide] at hp1
    rw [hpi] at HTOP
    have HMM := Lib.hid (show min (r / ((2 ^ (j + 1) : Nat) : Int)) s ≤ s ∧ True from ⟨by omega, trivial⟩)
    clear hpi
    generalize (2 : Nat) ^ (j + 1) = p at *
    generalize topN j r s = T at *
    have hP : wrap64 (2 * (2 : Int) ^ j) = (p : Int) := by rw [hps]; exact wrap64_id (by omega) (by omega)
    have hrq : 0 ≤ r / (p : Int) ∧ r / (p : Int) ≤ 1000 := ⟨Int.ediv_nonneg hr.1 (by omega), Int.le_trans (Int.ediv_le_self _ hr.1) hr.2⟩
    generalize hGe : (fun (x : Nat) => fillP (j + 1) (r - (p : Int) * (x : Int)) (xs ++ [(x : Int)]) (d ++ [s - (x : Int)]) rest) = G at *
    have HG := Lib.hid (fun (x : Nat) => show G x = fillP (j + 1) (r - (p : Int) * (x : Int)) (xs ++ [(x : Int)]) (d ++ [s - (x : Int)]) rest by rw [← hGe])
    have HACC := Lib.hid hacc
    have H := Lib.hid h
    have HSX := Lib.hid hsx
    have HSD := Lib.hid hsd
    have HSR := Lib.hid hsr
    have HX := Lib.hid hx
    have HD := Lib.hid hd
    have HK := Lib.hid hk
    have hB0 : B0 ≤ w.heap.size := Nat.le_trans h.gT (Nat.le_of_lt h.box.lt)
    have k0 := h.box.cell 0 (v := .slice (some ⟨gR, 0, none⟩) 1 cR) rfl
    have k1 := h.box.cell 1 (v := .slice (some ⟨gS, 0, none⟩) nS cS) rfl
    have kr := h.cellR
    have ks := h.cellS hd hjn
    have hgX : B0 ≤ gX := h.rowX.row_ge rfl
    have hgR : B0 ≤ gR := h.hR.row_ge rfl
    have hgS : B0 ≤ gS := h.hS.row_ge rfl
    clear hGe hacc h hsx hsd hsr hx hd hk hps
    have hjb : ((j : Int) == (nS : Int)) = false := by rw [beq_eq_false_iff_ne]; omega
    have hnb : ((nS : Int) == 0) = false := by rw [beq_eq_false_iff_ne]; omega
    have HW := Lib.hid (Below.refl B0 w)
    go_enter Try.func155, Try.ntmps155
    go_wp2_with fail
    go_quiet (fail)
    go_wp2_with fail
    try simp only [hP]
    have hMs := HMM.out.1
    generalize min (r / (p : Int)) s = M at *
    have hM1 : M ≤ 1000 := by omega
    generalize hwd : w.drewN nq = wd
    have HD0 := Lib.hid (show Below w.heap.size w wd by rw [← hwd]; exact below_drewN (Below.refl _ _) _)
    clear hwd k0 k1 kr ks
    go_loopw [8] (fun xv wr => ∃ (q : Nat) (y : Int) (A7 : Option Addr) (n7 c7 : Nat) (vs7 : List Sl), q ≤ T ∧ xv = .int .i64 (q : Int) ∧ Tab wr B0 B1 bT gR gC (some ⟨gS, 0, none⟩) (some ⟨gX, 0, none⟩) nS cR cS cC cX r (d ++ s :: rest) ((xs ++ List.replicate (k + 1) 0).set j y) A7 n7 c7 vs7 (acc ++ (List.range q).flatMap G) ∧ Below B0 w wr) (fun xv _ => T - (intOf xv).toNat)
    case atStart => exact ⟨0, 0, _, _, _, _, by omega, rfl, by rw [rep_set xs k 0 j HX.out]; simpa [List.replicate_succ] using H.out.below HD0.out, HD0.out.mono hB0⟩
    case round =>
      obtain ⟨q, y, A7, n7, c7, vs7, hq, rfl, ht, hb⟩ := hrel
      have HT := Lib.hid ht
      have HB := Lib.hid hb
      clear ht hb H HD0 HW
      have k2 := HT.out.box.cell 2 (v := .slice (some ⟨gC, 0, none⟩) 1 cC) rfl
      have kc := HT.out.cellC
      have fx := (HT.out.storeX hjn).2
      obtain ⟨vx, kx⟩ := (HT.out.storeX hjn).1
      by_cases hqT : q < T
      · have hqM : (q : Int) ≤ M := by omega
        have hpq0 : 0 ≤ (p : Int) * (q : Int) := Int.mul_nonneg (by omega) (by omega)
        have hpq1 := ((HTOP.out q).1 hqT).2
        have hqs := ((HTOP.out q).1 hqT).1
        have HGQ := Lib.hid (HG.out q)
        have HFS := Lib.hid (flatR_succ G q)
        have HLE := Lib.hid (flatR_le G (q + 1) T (by omega))
        go_upto_region 10 with fail
        have HTx := Lib.hid (HT.out.setX j (y := (q : Int)) (I64.mk (by omega) (by omega)))
        have HBx := Lib.hid (HB.out.setCell (p := ⟨gX, j, none⟩) hgX (.int .i64 (q : Int)))
        clear k2 kc fx kx HT HB
        generalize wr.setCell ⟨gX, j, none⟩ (.int .i64 (q : Int)) = wa at *
        have k0 := HTx.out.box.cell 0 (v := .slice (some ⟨gR, 0, none⟩) 1 cR) rfl
        have kr := HTx.out.cellR
        have fr := HTx.out.hR.1.frozenAt 0
        go_upto_region 11 with fail
        have HTr := Lib.hid (HTx.out.setR (y := r - (p : Int) * (q : Int)) (I64.mk (by omega) (by omega)))
        have HBr := Lib.hid (HBx.out.setCell (p := ⟨gR, 0, none⟩) hgR (.int .i64 (r - (p : Int) * (q : Int))))
        clear k0 kr fr HTx HBx
        generalize wa.setCell ⟨gR, 0, none⟩ (.int .i64 (r - (p : Int) * (q : Int))) = wb at *
        have k1 := HTr.out.box.cell 1 (v := .slice (some ⟨gS, 0, none⟩) nS cS) rfl
        have ks := HTr.out.cellS HD.out hjn
        have fs := HTr.out.hS.1.frozenAt j
        go_upto_region 12 with fail
        have HTs := Lib.hid (HTr.out.setS j (y := s - (q : Int)) (I64.mk (by omega) (by omega)))
        have HBs := Lib.hid (HBr.out.setCell (p := ⟨gS, j, none⟩) hgS (.int .i64 (s - (q : Int))))
        clear k1 ks fs HTr HBr
        generalize wb.setCell ⟨gS, j, none⟩ (.int .i64 (s - (q : Int))) = wc at *
        have HTC := Lib.hid (show Tab wc B0 B1 bT gR gC (some ⟨gS, 0, none⟩) (some ⟨gX, 0, none⟩) nS cR cS cC cX (r - (p : Int) * (q : Int)) ((d ++ [s - (q : Int)]) ++ rest) ((xs ++ [(q : Int)]) ++ List.replicate k 0) A7 n7 c7 vs7 (acc ++ (List.range q).flatMap G) by
          have h1 := HTs.out
          rw [mid_set d s _ rest j HD.out, List.set_set, rep_set xs k _ j HX.out] at h1
          exact h1)
        have CF := Lib.hid (IH.out (j + 1) (r - (p : Int) * (q : Int)) (xs ++ [(q : Int)]) (d ++ [s - (q : Int)]) A7 n7 c7 vs7 (acc ++ (List.range q).flatMap G) wc HTC.out (by rw [List.length_append, HX.out]; rfl) (by rw [List.length_append, HD.out]; rfl) (by omega) (by omega) (sm_app HSD.out (sm_one (by omega) (by omega))) HSR.out (sm_app HSX.out (sm_one (by omega) (by omega))) (by
          rw [← HGQ.out]
          have h1 := HACC.out
          have h2 := HLE.out
          rw [HFS.out] at h2
          simp only [List.length_append] at h2 ⊢
          omega))
        rw [← HGQ.out, List.append_assoc acc, ← HFS.out, show ((j + 1 : Nat) : Int) = (j : Int) + 1 by omega] at CF
        clear HTs HTC
        go_wp2_with fail
        refine CF.out.mono ?_
        rintro e wd2 ⟨rfl, ⟨A8, n8, c8, vs8, hT⟩, hB⟩
        rw [List.append_assoc d, List.singleton_append] at hT
        have HTd := Lib.hid hT
        have HBd := Lib.hid (HBs.out.trans hB)
        clear hT hB CF HBs
        have k0 := HTd.out.box.cell 0 (v := .slice (some ⟨gR, 0, none⟩) 1 cR) rfl
        have kr := HTd.out.cellR
        have fr := HTd.out.hR.1.frozenAt 0
        go_upto_region 14 with fail
        have HTe := Lib.hid (HTd.out.setR (y := r) (I64.mk (by omega) (by omega)))
        have HBe := Lib.hid (HBd.out.setCell (p := ⟨gR, 0, none⟩) hgR (.int .i64 r))
        clear k0 kr fr HTd HBd
        generalize wd2.setCell ⟨gR, 0, none⟩ (.int .i64 r) = we at *
        have k1 := HTe.out.box.cell 1 (v := .slice (some ⟨gS, 0, none⟩) nS cS) rfl
        have ks := HTe.out.cellS HD.out hjn
        have fs := HTe.out.hS.1.frozenAt j
        have HTf := Lib.hid (HTe.out.setS j (y := s) (I64.mk (by omega) (by omega)))
        have HBf := Lib.hid (HBe.out.setCell (p := ⟨gS, j, none⟩) hgS (.int .i64 s))
        have HTF := Lib.hid (show Tab (we.setCell ⟨gS, j, none⟩ (.int .i64 s)) B0 B1 bT gR gC (some ⟨gS, 0, none⟩) (some ⟨gX, 0, none⟩) nS cR cS cC cX r (d ++ s :: rest) ((xs ++ List.replicate (k + 1) 0).set j (q : Int)) A8 n8 c8 vs8 (acc ++ (List.range (q + 1)).flatMap G) by
          have h1 := HTf.out
          rw [mid_set d _ _ rest j HD.out, List.append_assoc d, List.singleton_append] at h1
          rw [rep_set xs k _ j HX.out]
          exact h1)
        clear HTf HTe HBe
        go_wp2_with fail
        go_roundw
        case rel => exact ⟨q + 1, (q : Int), _, _, _, _, by omega, by go_num, HTF.out, HBf.out⟩
        case measure => simp [intOf]; omega
      · obtain rfl : q = T := by omega
        have hqM : M < (q : Int) := by omega
        have HTx := Lib.hid (HT.out.setX j (y := 0) (I64.mk (by omega) (by omega)))
        have HBx := Lib.hid (HB.out.setCell (p := ⟨gX, j, none⟩) hgX (.int .i64 0))
        have HTE := Lib.hid (show ∃ A6 n6 c6 vs6, Tab (wr.setCell ⟨gX, j, none⟩ (.int .i64 0)) B0 B1 bT gR gC (some ⟨gS, 0, none⟩) (some ⟨gX, 0, none⟩) nS cR cS cC cX r (d ++ s :: rest) (xs ++ List.replicate (k + 1) 0) A6 n6 c6 vs6 (acc ++ fillP j r xs d (s :: rest)) from ⟨A7, n7, c7, vs7, by
          have h1 := HTx.out
          rw [List.set_set, rep_set xs k _ j HX.out] at h1
          rw [HFL.out, List.replicate_succ]
          simpa using h1⟩)
        clear HTx
        go_wp2_with fail
        refine bodyPost_end (v := .tuple #[]) (by simp [results, Try.results155, go_sem]) rfl ?_
        exact ⟨rfl, HTE.out, HBx.out⟩

end Go.Proofs.Ytpgmggkpnefaeaa
