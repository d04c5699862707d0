/- What the statements' own helpers eqInt64SS, markInt64SS, heldInt64SS do. -/
import Derived.Test.YtijdlejngdhpjaaDoorMemS
namespace Go.Proofs.YtijdlejngdhpjaaDoor
open Go.ChangeShapes Go.WideShapes Go.ChangeAt Go.RowKit
set_option linter.unusedVariables false

theorem quiet_q {P : Program} {f : FuncId} {args : Array Value} {w : World} {n : Nat} {v : Value} (h : Calls P f args (w.drewN n) fun e w' => e = .returned v ∧ ∃ q, w' = (w.drewN n).drewN q) : Calls P f args (w.drewN n) fun e w'' => e = .returned v ∧ ∃ m, w'' = w.drewN m :=
  h.mono fun _ _ ⟨he, q, hm⟩ => ⟨he, n + q, by rw [hm, World.drewN_drewN]⟩

set_option maxHeartbeats 400000 in
theorem eqS_same (A B : Option Addr) (n c d : Nat) (vs us : List Sl) (xss : List (List Int)) (w : World) (h : RS w A n vs xss) (g : RS w B n us xss) :
    Calls Tryd.prog 20 #[.slice A n c, .slice B n d] w fun e w' => e = .returned (.bool true) ∧ Below w.heap.size w w' := by
  have hs := h.small
  have H := Lib.hid h
  have G := Lib.hid g
  clear h g
  go_enter Tryd.func20, Tryd.ntmps20
  go_wp2
  go_loopw [5] (fun i wr => ∃ k : Nat, k ≤ n ∧ i = .int .i64 k ∧ Below w.heap.size w wr) (fun i _ => n - (intOf i).toNat)
  case atStart => exact ⟨0, Nat.zero_le _, rfl, Below.refl _ _⟩
  case round =>
    obtain ⟨k, hk, rfl, hb⟩ := hrel
    by_cases hlt : k < n
    · obtain ⟨b, off, rfl, hb1, hc⟩ := (H.out.below hb).at_ hlt
      obtain ⟨b2, off2, rfl, hb2, hc2⟩ := (G.out.below hb).at_ hlt
      have r1 := (H.out.below hb).row hlt
      have r2 := (G.out.below hb).row hlt
      have hlt' : (k : Int) < (n : Int) := by omega
      have HB := Lib.hid hb
      have en : (us.getD k nilS).2.1 = (vs.getD k nilS).2.1 := by rw [← r2.len, r1.len]
      generalize us.getD k nilS = u at *
      generalize vs.getD k nilS = v at *
      obtain ⟨vA, vn, vc⟩ := v
      obtain ⟨uA, un, uc⟩ := u
      simp only at en r1 r2
      subst en
      simp only [sv] at hc hc2
      have CON := Lib.hid (fun q => eq_q vA uA un vc uc _ (wr.drewN q) (r1.below (below_drewN (Below.refl _ _) q)) (r2.below (below_drewN (Below.refl _ _) q)))
      clear hb r1 r2 hb1 hb2
      go_wp2_with fail
      go_quiet ((go_at_call 40; exact quiet_q (CON.out _)))
      go_wp2
      go_roundw
      case rel => exact ⟨k + 1, by omega, by go_num, below_drewN HB.out _⟩
      case measure => simp [intOf]; omega
    · obtain rfl : k = n := by omega
      have HB := Lib.hid hb
      clear hb
      go_wp2
      go_ret
      exact ⟨rfl, HB.out⟩

set_option maxHeartbeats 800000 in
theorem markS_any (B L : Nat) (A : Option Addr) (n c : Nat) (vs : List Sl) (xss : List (List Int)) (k0 : Int) (w : World) (h : OwnS w B A n c vs xss) (hin : InS A n vs L) (hk0 : 0 ≤ k0) (hk : k0 + (tot xss : Int) ≤ 9223372036854775000) :
    Calls Tryd.prog 21 #[.slice A n c, .int .i64 k0] w fun e w' => e = .returned (.int .i64 (k0 + (tot xss : Int))) ∧ OwnS w' B A n c vs (marksS k0 xss) ∧ Mid B L w w' := by
  have hl := h.len
  have hs := h.reads.small
  have HI := Lib.hid (show OwnS w B A n c vs (marksS k0 (xss.take 0) ++ xss.drop 0) by simpa [marksS] using h)
  have HL := Lib.hid hl
  have HIN := Lib.hid hin
  clear h hin hl
  go_enter Tryd.func21, Tryd.ntmps21
  go_wp2
  go_loopw [1, 5] (fun kk i wr => ∃ j : Nat, j ≤ n ∧ i = .int .i64 j ∧ kk = .int .i64 (k0 + (tot (xss.take j) : Int)) ∧ OwnS wr B A n c vs (marksS k0 (xss.take j) ++ xss.drop j) ∧ Mid B L w wr) (fun _ i _ => n - (intOf i).toNat)
  case atStart => exact ⟨0, Nat.zero_le _, rfl, by simp [tot], HI.out, Mid.refl _ _ _⟩
  case round =>
    obtain ⟨j, hj, rfl, rfl, ho, hm⟩ := hrel
    clear HI
    by_cases hlt : j < n
    · obtain ⟨g, rfl, hBg, hgs⟩ := ho.form (by omega)
      have hc := ho.cell hlt
      have hrow := ho.row hlt
      have hj2 : j < xss.length := by rw [HL.out]; exact hlt
      have hgd : (marksS k0 (xss.take j) ++ xss.drop j).getD j [] = xss.getD j [] := by
        have hml : (marksS k0 (xss.take j)).length = j := by rw [marksS_len]; simp; omega
        simp only [List.getD]
        rw [List.getElem?_append_right (by omega), hml]
        simp [hj2]
      rw [hgd] at hrow
      have hstep := marksS_step xss k0 j hj2
      have htk := take_snocS xss j hj2
      have htt := tot_take_le xss (j + 1)
      have htsum : tot (xss.take (j + 1)) = tot (xss.take j) + (xss.getD j []).length := by rw [htk, tot_append]; simp [tot]
      have hrl := hrow.len
      have hge := fun k hk => hrow.row_ge (k := k) hk
      have hinr := HIN.out.2 j hlt
      have hturn := fun w' ys => ho.turn (w' := w') (ys := ys) hlt
      generalize hv : vs.getD j nilS = v at *
      obtain ⟨vA, vn, vc⟩ := v
      simp only at hrow hrl hge hinr hturn
      simp only [sv] at hc
      rw [hrl] at htsum hstep
      have CON := Lib.hid (mark_any B vA vn vc _ (k0 + (tot (xss.take j) : Int)) wr hrow (by omega) (by omega))
      have HSTEP := Lib.hid hstep
      have HSUM := Lib.hid htsum
      have HTURN := Lib.hid hturn
      have HGE := Lib.hid hge
      have HINR := Lib.hid hinr
      have HM := Lib.hid hm
      have hlt' : (j : Int) < (n : Int) := by omega
      clear ho hrow hgd hstep htk htsum hrl hge hinr hturn hv hm hBg hgs htt
      go_wp2_with fail
      refine CON.out.mono ?_
      rintro e w1 ⟨rfl, ho1, hg1⟩
      have hnew := HTURN.out w1 _ ho1 hg1
      rw [HSTEP.out] at hnew
      have HN := Lib.hid hnew
      have HM2 := Lib.hid (HM.out.trans (Mid.of_grown hg1 HGE.out HINR.out))
      clear ho1 hg1 hnew
      go_wp2
      go_roundw
      case rel => exact ⟨j + 1, by omega, by go_num, by rw [HSUM.out]; exact congrArg (Value.int .i64) (by omega), HN.out, HM2.out⟩
      case measure => simp [intOf]; omega
    · obtain rfl : j = n := by omega
      have e1 : xss.take j = xss := by rw [← HL.out]; exact List.take_length
      have e2 : xss.drop j = [] := List.drop_of_length_le (by rw [HL.out]; exact Nat.le_refl _)
      rw [e1, e2, List.append_nil] at ho
      have HO := Lib.hid ho
      have HM := Lib.hid hm
      have HE := Lib.hid e1
      clear ho hm e1 e2
      go_wp2
      go_ret
      exact ⟨by rw [HE.out]; rfl, HO.out, HM.out⟩

set_option maxHeartbeats 800000 in
theorem heldS_any (A : Option Addr) (n c : Nat) (vs : List Sl) (xss : List (List Int)) (k0 : Int) (w : World) (h : RS w A n vs (marksS k0 xss)) (hk0 : 0 ≤ k0) (hk : k0 + (tot xss : Int) ≤ 9223372036854775000) :
    Calls Tryd.prog 22 #[.slice A n c, .int .i64 k0] w fun e w' => e = .returned (.int .i64 (k0 + (tot xss : Int))) ∧ Below w.heap.size w w' := by
  have hs := h.small
  have hl : xss.length = n := by rw [← h.len, marksS_len]
  have H := Lib.hid h
  have HL := Lib.hid hl
  clear h hl
  go_enter Tryd.func22, Tryd.ntmps22
  go_wp2
  go_loopw [1, 5] (fun kk i wr => ∃ j : Nat, j ≤ n ∧ i = .int .i64 j ∧ kk = .int .i64 (k0 + (tot (xss.take j) : Int)) ∧ Below w.heap.size w wr) (fun _ i _ => n - (intOf i).toNat)
  case atStart => exact ⟨0, Nat.zero_le _, rfl, by simp [tot], Below.refl _ _⟩
  case round =>
    obtain ⟨j, hj, rfl, rfl, hb⟩ := hrel
    by_cases hlt : j < n
    · obtain ⟨b, off, rfl, _, hc⟩ := (H.out.below hb).at_ hlt
      have hrow := (H.out.below hb).row hlt
      have hj2 : j < xss.length := by rw [HL.out]; exact hlt
      rw [marksS_getD xss k0 j hj2] at hrow
      have htk := take_snocS xss j hj2
      have htt := tot_take_le xss (j + 1)
      have htsum : tot (xss.take (j + 1)) = tot (xss.take j) + (xss.getD j []).length := by rw [htk, tot_append]; simp [tot]
      have hrl := hrow.len
      rw [marks_len] at hrl
      generalize vs.getD j nilS = v at *
      obtain ⟨vA, vn, vc⟩ := v
      simp only at hrow hrl
      simp only [sv] at hc
      rw [hrl] at htsum hrow
      have CON := Lib.hid (held_any vA vn vc (k0 + (tot (xss.take j) : Int)) wr hrow (by omega) (by omega))
      have HSUM := Lib.hid htsum
      have HB := Lib.hid hb
      have hlt' : (j : Int) < (n : Int) := by omega
      have hnn : 0 ≤ k0 + (tot (xss.take j) : Int) + (vn : Int) := by omega
      clear hrow htk htsum hrl hb htt
      go_wp2_with fail
      refine CON.out.mono ?_
      rintro e w1 ⟨rfl, hb1⟩
      have HB1 := Lib.hid (HB.out.trans (hb1.mono HB.out.size))
      clear hb1
      go_wp2
      go_roundw
      case rel => exact ⟨j + 1, by omega, by go_num, by rw [HSUM.out]; exact congrArg (Value.int .i64) (by omega), HB1.out⟩
      case measure => simp [intOf]; omega
    · obtain rfl : j = n := by omega
      have HE := Lib.hid (show xss.take j = xss by rw [← HL.out]; exact List.take_length)
      have HB := Lib.hid hb
      clear hb
      go_wp2
      go_ret
      exact ⟨by rw [HE.out]; rfl, HB.out⟩

end Go.Proofs.YtijdlejngdhpjaaDoor
