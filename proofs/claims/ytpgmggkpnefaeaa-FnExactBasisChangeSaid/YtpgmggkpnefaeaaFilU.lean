/- spec: the tables of Milnor's product, filled; one square times a sum. -/
import Derived.Test.YtpgmggkpnefaeaaFilT
import Derived.Deep.Cut
namespace Go.Proofs.Ytpgmggkpnefaeaa
open Go.ChangeShapes Go.WideShapes Go.ChangeAt Go.RowKit Go.Proofs
set_option linter.unusedVariables false

theorem OwnS.set0 {w B A c g0 m0 d0 R0 R1} {v1 : Sl} (h : OwnS w B A 2 c [(some ⟨g0, 0, none⟩, m0, d0), v1] [R0, R1]) (k : Nat) {y : Int} (hy : I64 y) : OwnS (w.setCell ⟨g0, k, none⟩ (.int .i64 y)) B A 2 c [(some ⟨g0, 0, none⟩, m0, d0), v1] [R0.set k y, R1] :=
  h.turn (i := 0) (by omega) ((h.row (i := 0) (by omega) : OwnI w B (some ⟨g0, 0, none⟩) m0 d0 R0).set k hy) (set_grown w ⟨g0, k, none⟩ _)

theorem OwnS.set1 {w B A c g1 m1 d1 R0 R1} {v0 : Sl} (h : OwnS w B A 2 c [v0, (some ⟨g1, 0, none⟩, m1, d1)] [R0, R1]) (k : Nat) {y : Int} (hy : I64 y) : OwnS (w.setCell ⟨g1, k, none⟩ (.int .i64 y)) B A 2 c [v0, (some ⟨g1, 0, none⟩, m1, d1)] [R0, R1.set k y] :=
  h.turn (i := 1) (by omega) ((h.row (i := 1) (by omega) : OwnI w B (some ⟨g1, 0, none⟩) m1 d1 R1).set k hy) (set_grown w ⟨g1, k, none⟩ _)

/-- what a walk over the tables leaves -/
def FilsPost (w : World) (B : Nat) (acc : List (List Int)) (e : Ending) (w' : World) : Prop :=
  ∃ G k d us, e = .returned (.slice G k d) ∧ OwnS w' B G k d us acc ∧ Below w.heap.size w w'

set_option maxHeartbeats 1600000 in
theorem spec_fill2 {T c2 w nS r S X B A n c vs acc} {v0 v1 : Sl} (h : RS w T 2 [v0, v1] [0 :: S, r :: X]) (ho : OwnS w B A n c vs acc) (hB : B ≤ w.heap.size) (hSl : S.length = nS) (hXl : X.length = nS) (hn : nS ≤ 5) (hr : 0 ≤ r ∧ r ≤ 1000) (hS : sm S) (hX : sm X) (hacc : acc.length ≤ 8589934592) :
    Calls Try.prog 143 #[.slice T 2 c2, .int .i64 2, .int .i64 1, .slice A n c] w (FilsPost w B (normF acc (resL r X S))) := by
  have CR := Lib.hid (spec_result (c2 := c2) h hSl hXl hn hr hS hX)
  have HO := Lib.hid ho
  have hn2 : n ≤ 8589934592 := by have := ho.len; omega
  have HDL := Lib.hid (show (trimL (diaL r X S)).length ≤ 1048576 by
    have h1 := diaL_len r X S (by omega)
    have h2 := tlen_le (diaL r X S) (diaL r X S).length
    rw [trimL_len]; omega)
  clear h ho hSl hXl hS hX hacc
  go_enter Try.func143, Try.ntmps143
  go_wp2_with fail
  refine CR.out.mono ?_
  rintro e w1 ⟨hb, ⟨hres, rfl⟩ | ⟨hres, A8, n8, c8, rfl, ho8⟩⟩
  · have HF := Lib.hid hres
    have HO1 := Lib.hid (HO.out.below hb)
    have HB1 := Lib.hid hb
    clear hb hres
    go_wp2
    go_ret
    exact ⟨_, _, _, _, rfl, by rw [HF.out]; exact HO1.out, HB1.out⟩
  · have HF := Lib.hid hres
    have HB1 := Lib.hid hb
    have CP := Lib.hid (spec_l01Put (c2 := c8) (HO.out.below hb) ho8.reads (Nat.le_trans hB hb.size) hn2 (by have := ho8.len; have := HDL.out; omega))
    clear hb hres ho8
    go_wp2_with fail
    refine CP.out.mono ?_
    rintro e w2 ⟨G, k, d, us, rfl, ho2, hb2⟩
    have HO2 := Lib.hid ho2
    have HB2 := Lib.hid (HB1.out.trans (hb2.mono HB1.out.size))
    clear ho2 hb2
    go_wp2
    go_ret
    exact ⟨_, _, _, _, rfl, by rw [HF.out]; exact HO2.out, HB2.out⟩

set_option maxRecDepth 100000 in
set_option maxHeartbeats 3200000 in
theorem spec_fill {nS : Nat} (hn : nS ≤ 5) (rest : List Int) : ∀ (j : Nat) (r : Int) (xs d : List Int) (T : Option Addr) (c2 : Nat) (v0 v1 : Sl) (B : Nat) (A : Option Addr) (n c : Nat) (vs : List Sl) (acc : List (List Int)) (w : World), RS w T 2 [v0, v1] [0 :: (d ++ rest), r :: (xs ++ List.replicate rest.length 0)] → OwnS w B A n c vs acc → B ≤ w.heap.size → xs.length = j → d.length = j → j + rest.length = nS → (0 ≤ r ∧ r ≤ 1000) → sm d → sm rest → sm xs → acc.length + (fillP j r xs d rest).length ≤ 8589934592 →
    Calls Try.prog 143 #[.slice T 2 c2, .int .i64 1, .int .i64 ((j : Int) + 1), .slice A n c] w (FilsPost w B (normF acc (fillP j r xs d rest))) := by
  induction rest with
  | nil =>
    intro j r xs d T c2 v0 v1 B A n c vs acc w h ho hB hx hd hj hr hsd hsr hsx hacc
    simp only [List.length_nil, Nat.add_zero] at hj
    subst hj
    simp only [List.append_nil, List.length_nil, List.replicate_zero] at h ⊢
    rw [fillP] at hacc ⊢
    have CF := Lib.hid (spec_fill2 (c2 := c2) h ho hB hd hx hn hr hsd hsx (by omega))
    obtain ⟨b, off, rfl, hlt, hc⟩ := h.2.2.2.1 (by omega)
    have hc0 := hc 0 (by omega)
    have hr0 := h.row (i := 0) (by omega)
    simp only [List.getD, List.getElem?_cons_zero, Option.getD_some] at hc0 hr0
    obtain ⟨a0, m0, d0⟩ := v0
    simp only [sv, Nat.add_zero] at hc0 hr0
    obtain rfl : m0 = j + 1 := by have := hr0.len; simp only [List.length_cons] at this; omega
    clear h hc hr0 ho hx hd hsd hsr hsx hlt hacc
    go_enter Try.func143, Try.ntmps143
    go_wp2_with fail
    refine CF.out.mono ?_
    rintro e w1 ⟨G, k, d', us, rfl, ho1, hb1⟩
    have HO1 := Lib.hid ho1
    have HB1 := Lib.hid hb1
    clear ho1 hb1
    go_wp2
    go_ret
    exact ⟨_, _, _, _, rfl, HO1.out, HB1.out⟩
  | cons s rest ih =>
    intro j r xs d T c2 v0 v1 B A n c vs acc w h ho hB hx hd hj hr hsd hsr hsx hacc
    have IH := Lib.hid ih
    clear ih
    simp only [List.length_cons] at hj h ⊢
    generalize hk : rest.length = k at *
    have hjn : j < nS := by omega
    obtain ⟨hs, hsr2⟩ := sm_cons hsr
    have hp0 : (2 : Nat) ^ (j + 1) ≤ 2 ^ 5 := Nat.pow_le_pow_right (by omega) (by omega)
    have hp1 : (2 : Nat) ^ 1 ≤ 2 ^ (j + 1) := Nat.pow_le_pow_right (by omega) (by omega)
    have hpi : (2 : Int) ^ (j + 1) = ((2 ^ (j + 1) : Nat) : Int) := by simp
    rw [fillP, hpi] at hacc
    have HFL := Lib.hid (show fillP j r xs d (s :: rest) = (List.range (topN j r s)).flatMap fun (x : Nat) => fillP (j + 1) (r - ((2 ^ (j + 1) : Nat) : Int) * (x : Int)) (xs ++ [(x : Int)]) (d ++ [s - (x : Int)]) rest by rw [fillP, hpi])
    have HTOP := Lib.hid (fun (x : Nat) => topN_lt (j := j) (r := r) (s := s) x hr.1 hs.1)
    have hTs := topN_le (j := j) (r := r) hs.1
    rw [show (2 : Nat) ^ 5 = 32 by decide] at hp0
    rw [show (2 : Nat) ^ 1 = 2 by decide] at hp1
    rw [hpi] at HTOP
    have HPI := Lib.hid hpi
    clear hpi
    generalize hpe : (2 : Nat) ^ (j + 1) = p at *
    generalize topN j r s = T0 at *
    have HPE := Lib.hid (show ∀ q : Nat, (p : Int) * (q : Int) ≤ 1000000 → wrap64 ((q : Int) * 2 ^ (j + 1)) = (p : Int) * (q : Int) from fun q hq => by
      have h0 : 0 ≤ (p : Int) * (q : Int) := Int.mul_nonneg (by omega) (by omega)
      rw [HPI.out, Int.mul_comm]; exact wrap64_id (by omega) (by omega))
    generalize hGe : (fun (x : Nat) => fillP (j + 1) (r - (p : Int) * (x : Int)) (xs ++ [(x : Int)]) (d ++ [s - (x : Int)]) rest) = G at *
    have HG := Lib.hid (fun (x : Nat) => show G x = fillP (j + 1) (r - (p : Int) * (x : Int)) (xs ++ [(x : Int)]) (d ++ [s - (x : Int)]) rest by rw [← hGe])
    have HACC := Lib.hid hacc
    have H := Lib.hid h
    have HO := Lib.hid ho
    have HSX := Lib.hid hsx
    have HSD := Lib.hid hsd
    have HSR := Lib.hid hsr2
    have HX := Lib.hid hx
    have HD := Lib.hid hd
    have HK := Lib.hid hk
    obtain ⟨b, off, rfl, hlt, hc⟩ := h.2.2.2.1 (by omega)
    have hc0 := hc 0 (by omega)
    have hc1 := hc 1 (by omega)
    have hr0 := h.row (i := 0) (by omega)
    have hr1 := h.row (i := 1) (by omega)
    simp only [List.getD, List.getElem?_cons_zero, List.getElem?_cons_succ, Option.getD_some] at hc0 hc1 hr0 hr1
    obtain ⟨a0, m0, d0⟩ := v0
    obtain ⟨a1, m1, d1⟩ := v1
    simp only [sv, Nat.add_zero] at hc0 hc1 hr0 hr1
    obtain rfl : m0 = nS + 1 := by have := hr0.len; simp only [List.length_cons, List.length_append] at this; omega
    obtain rfl : m1 = nS + 1 := by have := hr1.len; simp only [List.length_cons, List.length_append, List.length_replicate] at this; omega
    obtain ⟨b0, o0, rfl, hlt0, hx0⟩ := hr0.2.2.2 (by omega)
    obtain ⟨b1, o1, rfl, hlt1, hx1⟩ := hr1.2.2.2 (by omega)
    have hxs := hx0 (j + 1) (by omega)
    rw [show (0 :: (d ++ s :: rest)).getD (j + 1) 0 = s from mid_get d s rest j hd] at hxs
    have hxr := hx1 0 (by omega)
    simp only [List.getD, List.getElem?_cons_zero, Option.getD_some, Nat.add_zero] at hxr
    have HC0 := Lib.hid (fun w2 (hb : Below w.heap.size w w2) => (hb.cell (p := ⟨b, off, none⟩) hlt).trans hc0)
    have HC1 := Lib.hid (fun w2 (hb : Below w.heap.size w w2) => (hb.cell (p := ⟨b, off + 1, none⟩) hlt).trans hc1)
    have HXS := Lib.hid (fun w2 (hb : Below w.heap.size w w2) => (hb.cell (p := ⟨b0, o0 + (j + 1), none⟩) hlt0).trans hxs)
    have HXR := Lib.hid (fun w2 (hb : Below w.heap.size w w2) => (hb.cell (p := ⟨b1, o1, none⟩) hlt1).trans hxr)
    clear hGe hacc h ho hsx hsd hsr hsr2 hx hd hk hpe hc hc1 hr0 hr1 hx0 hx1 hxs hxr hlt hlt0 hlt1
    have hjb : ((j : Int) + 1 == (nS : Int) + 1) = false := by rw [beq_eq_false_iff_ne]; omega
    have HB0 := Lib.hid (Below.refl w.heap.size w)
    go_enter Try.func143, Try.ntmps143
    go_wp2
    clear hc0
    go_loopw [3, 11] (fun v xv wr => ∃ (q : Nat) (A6 : Option Addr) (n6 c6 : Nat) (vs6 : List Sl), q ≤ T0 ∧ xv = .int .i64 (q : Int) ∧ v = .slice A6 n6 c6 ∧ OwnS wr B A6 n6 c6 vs6 (normF acc ((List.range q).flatMap G)) ∧ Below w.heap.size w wr) (fun _ xv _ => T0 - (intOf xv).toNat)
    case atStart => exact ⟨0, _, _, _, _, by omega, rfl, rfl, HO.out, HB0.out⟩
    case round =>
      obtain ⟨wo, rfl⟩ : ∃ wo, wo = wr := ⟨wr, rfl⟩
      obtain ⟨q, A6, n6, c6, vs6, hq, rfl, rfl, ho6, hb6⟩ := hrel
      have HO6 := Lib.hid ho6
      have HB6 := Lib.hid hb6
      clear ho6 hb6 HO HB0
      have c0 := HC0.out wo HB6.out
      have c1 := HC1.out wo HB6.out
      have cs := HXS.out wo HB6.out
      have cr := HXR.out wo HB6.out
      by_cases hqT : q < T0
      · have hqs := ((HTOP.out q).1 hqT).1
        have hpq1 := ((HTOP.out q).1 hqT).2
        have hpq0 : 0 ≤ (p : Int) * (q : Int) := Int.mul_nonneg (by omega) (by omega)
        have HP := Lib.hid (HPE.out q (by omega))
        have HPV := Lib.hid (show wrap64 (r - wrap64 ((q : Int) * 2 ^ (j + 1))) = r - (p : Int) * (q : Int) by rw [HP.out]; exact wrap64_id (by omega) (by omega))
        have HGQ := Lib.hid (HG.out q)
        have HFS := Lib.hid (flatR_succ G q)
        have HLE := Lib.hid (flatR_le G (q + 1) T0 (by omega))
        have HN6 := Lib.hid HO6.out.len
        have CO := Lib.hid (spec_l01Own2 (c := c2) (H.out.below HB6.out) (by omega) (fun x hx2 => by
          rcases List.mem_cons.1 hx2 with rfl | hx2
          · have h1 := HD.out
            have h2 := HK.out
            simp only [List.length_cons, List.length_append]; omega
          · rw [List.mem_singleton.1 hx2]
            have h1 := HX.out
            simp only [List.length_cons, List.length_append, List.length_replicate]; omega))
        have hP := HP.out
        go_upto_if 60 with fail
        clear hP
        go_wp2_with fail
        refine CO.out.mono ?_
        rintro e w1 ⟨GN, dN, us, rfl, hoN, hbN⟩
        obtain ⟨u0, u1, rfl⟩ : ∃ u0 u1, us = [u0, u1] := by
          have h1 := hoN.vlen
          match us, h1 with
          | [x, y], _ => exact ⟨x, y, rfl⟩
        obtain ⟨GN, rfl, -⟩ := hoN.form (by omega)
        have hq0 := hoN.row (i := 0) (by omega)
        have hq1 := hoN.row (i := 1) (by omega)
        simp only [List.getD, List.getElem?_cons_zero, List.getElem?_cons_succ, Option.getD_some] at hq0 hq1
        obtain ⟨a0, m0, d0⟩ := u0
        obtain ⟨a1, m1, d1⟩ := u1
        simp only at hq0 hq1
        obtain rfl : m0 = nS + 1 := by have h1 := hq0.len; have h2 := HD.out; have h3 := HK.out; simp only [List.length_cons, List.length_append] at h1; omega
        obtain rfl : m1 = nS + 1 := by have h1 := hq1.len; have h2 := HX.out; simp only [List.length_cons, List.length_append, List.length_replicate] at h1; omega
        obtain ⟨g0, rfl, hg0, -⟩ := hq0.form (by omega)
        obtain ⟨g1, rfl, hg1, -⟩ := hq1.form (by omega)
        have HON := Lib.hid hoN
        have HBN := Lib.hid hbN
        have e0 := hoN.cell (i := 0) (by omega)
        have e1 := hoN.cell (i := 1) (by omega)
        simp only [List.getD, List.getElem?_cons_zero, List.getElem?_cons_succ, Option.getD_some, sv] at e0 e1
        clear hoN hbN hq0 hq1 CO c0 c1 cs cr
        go_wp2_with fail
        go_quiet (fail)
        go_upto_region 13 with fail
        generalize hwd : w1.drewN nq = wn
        have HNB := Lib.hid (show Below wo.heap.size wo wn by rw [← hwd]; exact below_drewN HBN.out _)
        have HN0 := Lib.hid (show OwnS wn wo.heap.size (some ⟨GN, 0, none⟩) 2 dN [(some ⟨g0, 0, none⟩, nS + 1, d0), (some ⟨g1, 0, none⟩, nS + 1, d1)] [0 :: (d ++ s :: rest), r :: (xs ++ List.replicate (k + 1) 0)] by rw [← hwd]; exact HON.out.below (below_drewN (Below.refl _ _) _))
        clear hwd HON HBN e0 e1
        have es : wn.cell? ⟨g0, j + 1, none⟩ = some (.int .i64 s) := by
          have h1 := (show OwnI wn wo.heap.size (some ⟨g0, 0, none⟩) (nS + 1) d0 (0 :: (d ++ s :: rest)) from HN0.out.row (i := 0) (by omega)).cell (i := j + 1) (by omega)
          rw [show (0 :: (d ++ s :: rest)).getD (j + 1) 0 = s from mid_get d s rest j HD.out] at h1
          exact h1
        have fs := (show OwnI wn wo.heap.size (some ⟨g0, 0, none⟩) (nS + 1) d0 (0 :: (d ++ s :: rest)) from HN0.out.row (i := 0) (by omega)).1.frozenAt (j + 1)
        go_upto_region 14 with fail
        have HN1 := Lib.hid (HN0.out.set0 (j + 1) (y := s - (q : Int)) (I64.mk (by omega) (by omega)))
        have HB1 := Lib.hid (HNB.out.setCell (p := ⟨g0, j + 1, none⟩) hg0 (.int .i64 (s - (q : Int))))
        clear es fs HN0 HNB
        generalize wn.setCell ⟨g0, j + 1, none⟩ (.int .i64 (s - (q : Int))) = wa at *
        have er := (show OwnI wa wo.heap.size (some ⟨g1, 0, none⟩) (nS + 1) d1 (r :: (xs ++ List.replicate (k + 1) 0)) from HN1.out.row (i := 1) (by omega)).cell (i := 0) (by omega)
        have fr := (show OwnI wa wo.heap.size (some ⟨g1, 0, none⟩) (nS + 1) d1 (r :: (xs ++ List.replicate (k + 1) 0)) from HN1.out.row (i := 1) (by omega)).1.frozenAt 0
        simp only [List.getD, List.getElem?_cons_zero, Option.getD_some] at er
        go_upto_region 15 with fail
        rw [HPV.out]
        have HN2 := Lib.hid (HN1.out.set1 0 (y := r - (p : Int) * (q : Int)) (I64.mk (by omega) (by omega)))
        have HB2 := Lib.hid (HB1.out.setCell (p := ⟨g1, 0, none⟩) hg1 (.int .i64 (r - (p : Int) * (q : Int))))
        clear er fr HN1 HB1
        generalize wa.setCell ⟨g1, 0, none⟩ (.int .i64 (r - (p : Int) * (q : Int))) = wb at *
        have ex := (show OwnI wb wo.heap.size (some ⟨g1, 0, none⟩) (nS + 1) d1 ((r :: (xs ++ List.replicate (k + 1) 0)).set 0 (r - (p : Int) * (q : Int))) from HN2.out.row (i := 1) (by omega)).cell (i := j + 1) (by omega)
        have fx := (show OwnI wb wo.heap.size (some ⟨g1, 0, none⟩) (nS + 1) d1 ((r :: (xs ++ List.replicate (k + 1) 0)).set 0 (r - (p : Int) * (q : Int))) from HN2.out.row (i := 1) (by omega)).1.frozenAt (j + 1)
        generalize ((r :: (xs ++ List.replicate (k + 1) 0)).set 0 (r - (p : Int) * (q : Int))).getD (j + 1) 0 = zz at ex
        go_upto_region 16 with fail
        have HN3 := Lib.hid (HN2.out.set1 (j + 1) (y := (q : Int)) (I64.mk (by omega) (by omega)))
        have HB3 := Lib.hid (HB2.out.setCell (p := ⟨g1, j + 1, none⟩) hg1 (.int .i64 (q : Int)))
        clear ex fx HN2 HB2
        generalize wb.setCell ⟨g1, j + 1, none⟩ (.int .i64 (q : Int)) = wc at *
        have HTC := Lib.hid (show RS wc (some ⟨GN, 0, none⟩) 2 [(some ⟨g0, 0, none⟩, nS + 1, d0), (some ⟨g1, 0, none⟩, nS + 1, d1)] [0 :: ((d ++ [s - (q : Int)]) ++ rest), (r - (p : Int) * (q : Int)) :: ((xs ++ [(q : Int)]) ++ List.replicate k 0)] by
          have h1 := HN3.out.reads
          rw [List.set_cons_succ, List.set_cons_zero, List.set_cons_succ, mid_set d s _ rest j HD.out, rep_set xs k _ j HX.out] at h1
          exact h1)
        have CF := Lib.hid (IH.out (j + 1) (r - (p : Int) * (q : Int)) (xs ++ [(q : Int)]) (d ++ [s - (q : Int)]) (some ⟨GN, 0, none⟩) dN _ _ B A6 n6 c6 vs6 (normF acc ((List.range q).flatMap G)) wc HTC.out (HO6.out.below HB3.out) (Nat.le_trans (Nat.le_trans hB HB6.out.size) HB3.out.size) (by rw [List.length_append, HX.out]; rfl) (by rw [List.length_append, HD.out]; rfl) (by omega) (by omega) (sm_app HSD.out (sm_one (by omega) (by omega))) HSR.out (sm_app HSX.out (sm_one (by omega) (by omega))) (by
          rw [← HGQ.out]
          have h1 := HACC.out
          have h2 := HLE.out
          have h3 := normF_lenM ((List.range q).flatMap G) acc
          rw [HFS.out, List.length_append] at h2
          omega))
        rw [← HGQ.out, ← normF_app, ← HFS.out, show ((j + 1 : Nat) : Int) = (j : Int) + 1 by omega] at CF
        clear HN3 HTC
        go_wp2_with fail
        refine CF.out.mono ?_
        rintro e w9 ⟨A9, n9, c9, vs9, rfl, ho9, hb9⟩
        have HO9 := Lib.hid ho9
        have HB9 := Lib.hid (HB6.out.trans ((HB3.out.trans (hb9.mono HB3.out.size)).mono HB6.out.size))
        clear ho9 hb9 CF HB3
        go_wp2_with fail
        go_roundw
        case rel => exact ⟨q + 1, _, _, _, _, by omega, by go_num, rfl, HO9.out, HB9.out⟩
        case measure => simp [intOf]; omega
      · have hTq : (T0 : Int) ≤ (q : Int) := by omega
        have HOE := Lib.hid (show OwnS wo B A6 n6 c6 vs6 (normF acc (fillP j r xs d (s :: rest))) by
          rw [HFL.out, show T0 = q by omega]; exact HO6.out)
        by_cases hqs : (q : Int) ≤ s
        · have hpq : r < (p : Int) * (q : Int) := by
            rcases Int.lt_or_le r ((p : Int) * (q : Int)) with h1 | h1
            · exact h1
            · exact absurd ((HTOP.out q).2 ⟨hqs, h1⟩) hqT
          have hpb : (p : Int) * (q : Int) ≤ 1000000 := by
            have h1 : p * q ≤ 32 * 1001 := Nat.mul_le_mul hp0 (by omega)
            have h2 : ((p * q : Nat) : Int) = (p : Int) * (q : Int) := by simp
            omega
          have HP := Lib.hid (HPE.out q hpb)
          generalize (p : Int) * (q : Int) = P at *
          have hP := HP.out
          go_upto_if 60 with fail
          clear hP
          go_wp2_with fail
          go_ret
          exact ⟨_, _, _, _, rfl, HOE.out, HB6.out⟩
        · have hqs' : s < (q : Int) := by omega
          go_wp2
          go_ret
          exact ⟨_, _, _, _, rfl, HOE.out, HB6.out⟩

end Go.Proofs.Ytpgmggkpnefaeaa
