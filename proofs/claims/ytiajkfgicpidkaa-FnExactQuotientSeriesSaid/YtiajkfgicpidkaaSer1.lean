/- The series of a profile, as the reference counts it. -/
import Derived.Test.YtiajkfgicpidkaaSerP
import Derived.Test.YtiajkfgicpidkaaProf
import Derived.BigRegion
namespace Go.Proofs.Ytiajkfgicpidkaa
open Go.ChangeShapes Go.WideShapes Go.ChangeAt Go.RowKit
set_option linter.unusedVariables false

theorem coef_start (d : Nat) : Coef ((List.replicate (d + 1) (0 : Int)).set 0 1) d (fun n => if n = 0 then 1 else 0) := by
  refine ⟨by simp, fun n hn => ?_⟩
  have e0 : wrap64 0 = 0 := wrap64_id (by omega) (by omega)
  have e1 : wrap64 1 = 1 := wrap64_id (by omega) (by omega)
  by_cases h : n = 0
  · subst h
    show _ = wrap64 1
    rw [e1]; simp [List.getD]
  · show _ = wrap64 (if n = 0 then 1 else 0)
    rw [if_neg h, e0]
    have h2 : ¬ 0 = n := fun e => h e.symm
    have h3 : n < d + 1 := by omega
    simp [List.getD, h2, h3]

theorem getD_set (L : List Int) (i j : Nat) (x : Int) (hi : i < L.length) : (L.set i x).getD j 0 = if i = j then x else L.getD j 0 := by
  by_cases e : i = j
  · subst e; simp [List.getD, hi]
  · simp [List.getD, e]

theorem Coef.congr {L d E E'} (h : Coef L d E) (he : ∀ n, n ≤ d → E n = E' n) : Coef L d E' := ⟨h.1, fun n hn => by rw [h.2 n hn, he n hn]⟩

/-- the list while the factor 1 + t^w is multiplied in from above: the places from z on are done -/
def Part (L : List Int) (d w z : Nat) (F : Nat → Int) : Prop := L.length = d + 1 ∧ ∀ n, n ≤ d → L.getD n 0 = wrap64 (if n < z then F n else mulF w F n)

theorem Part.start {L d F} (w : Nat) (h : Coef L d F) : Part L d w (d + 1) F := ⟨h.1, fun n hn => by rw [h.2 n hn, if_pos (by omega)]⟩

theorem Part.step {L d w z F} (h : Part L d w (z + 1) F) (hz : z ≤ d) (hw : w ≤ z) (hw1 : 1 ≤ w) : Part (L.set z (wrap64 (L.getD z 0 + L.getD (z - w) 0))) d w z F := by
  refine ⟨by rw [List.length_set]; exact h.1, fun n hn => ?_⟩
  rw [getD_set _ _ _ _ (by rw [h.1]; omega)]
  by_cases e : z = n
  · subst e
    rw [if_pos rfl, if_neg (by omega), h.2 z hz, h.2 (z - w) (by omega), if_pos (by omega), if_pos (by omega), wrap64_add]
    unfold mulF
    rw [if_pos hw]
  · rw [if_neg e, h.2 n hn]
    by_cases h1 : n < z
    · rw [if_pos (by omega), if_pos h1]
    · rw [if_neg (by omega), if_neg h1]

theorem Part.done {L d w F} (h : Part L d w w F) : Coef L d (mulF w F) := by
  refine ⟨h.1, fun n hn => ?_⟩
  rw [h.2 n hn]
  by_cases h1 : n < w
  · rw [if_pos h1]
    unfold mulF
    rw [if_neg (by omega), Int.add_zero]
  · rw [if_neg h1]

set_option maxHeartbeats 2000000 in
theorem spec_l07Series (A : Option Addr) (n c : Nat) (xs : List Int) (d : Nat) (w : World) (h : RI w A n xs) (hn : n ≤ 16) (hx : ∀ x ∈ xs, 0 ≤ x ∧ x ≤ 10) (hd : d ≤ 200) :
    Calls Try.prog 90 #[.slice A n c, .int .i64 (d : Int)] w fun e w' => ∃ g, e = .returned (.slice (some ⟨g, 0, none⟩) (d + 1) (d + 1)) ∧ OwnI w' w.heap.size (some ⟨g, 0, none⟩) (d + 1) (d + 1) (serL xs d) ∧ Below w.heap.size w w' := by
  have hl := h.len
  have H := Lib.hid h
  have HX := Lib.hid hx
  obtain ⟨i0, hi, hz0, hz1, hz2⟩ := info_parts Try.infoI
  have hmk := run_make (P := Try.prog) w 22 2 i0 (.int .i64 0) Try.underlying22 hi hz0 .i64 .i64 ((d : Int) + 1) ((d : Int) + 1) (by omega) (by omega) (by rw [hz2]; omega) (by omega)
  rw [hz1] at hmk
  rw [show ((d : Int) + 1).toNat * 1 = d + 1 by omega, show ((d : Int) + 1).toNat = d + 1 by omega] at hmk
  have hI := made_own w (d + 1) (by omega)
  have hbel : Below w.heap.size w (w.alloc (.cells (madeCells (Value.int .i64 0).cells (d + 1)) 2)) := (Below.refl _ _).alloc (Nat.le_refl _) _
  generalize hW : w.alloc (.cells (madeCells (Value.int .i64 0).cells (d + 1)) 2) = W at *
  clear hW hi hz0 hz1 hz2 h hx
  have hc := hI.cell (i := 0) (by omega)
  have hf := hI.frozen 0
  have HI := Lib.hid (hI.set 0 (x := 1) (I64.mk (by omega) (by omega)))
  have HB := Lib.hid (hbel.setCell (p := ⟨w.heap.size, 0, none⟩) (Nat.le_refl _) (.int .i64 1))
  clear hI hbel
  have hnd : n ≤ 16 := hn
  go_enter Try.func90, Try.ntmps90
  go_wp2
  clear hmk hc hf
  go_loopw [6] (fun iv wr => ∃ (i : Nat) (L : List Int) (E : Nat → Int), i ≤ n ∧ iv = .int .i64 (i : Int) ∧ OwnI wr w.heap.size (some ⟨w.heap.size, 0, none⟩) (d + 1) (d + 1) L ∧ Coef L d E ∧ (∀ m, m ≤ d → serE i (xs.drop i) E m = serE 0 xs (fun n => if n = 0 then 1 else 0) m) ∧ Below w.heap.size w wr) (fun iv _ => n - (intOf iv).toNat)
  case atStart => exact ⟨0, _, _, by omega, rfl, HI.out, coef_start d, fun m _ => by simp, HB.out⟩
  case round =>
    obtain ⟨i, L, E, hin, rfl, ho, hco, hse, hb⟩ := hrel
    clear HI HB
    have HO := Lib.hid ho
    have HCO := Lib.hid hco
    have HSE := Lib.hid hse
    have HBW := Lib.hid hb
    clear ho hco hse hb
    by_cases hlt : i < n
    · have hi2 : i < xs.length := by omega
      have hxi := HX.out (xs.getD i 0) (by simp [List.getD, hi2])
      have hdr := dropc xs i hi2
      have hP := pow_wrap (i + 1) (by omega)
      have hP2 := pow_le (i + 1) 17 (by omega)
      have hP1 := pow_le 1 (i + 1) (by omega)
      rw [show (2 : Nat) ^ 17 = 131072 by decide] at hP2
      rw [show (2 : Nat) ^ 1 = 2 by decide] at hP1
      obtain ⟨b, off, hA, hbl, hcell0⟩ := H.out.at_ hlt
      subst hA
      have hse := HSE.out
      rw [hdr] at hse
      obtain ⟨hh, hhe⟩ := Int.eq_ofNat_of_zero_le hxi.1
      rw [hhe] at hse hcell0 hxi
      have hh10 : hh ≤ 10 := by omega
      have hse2 : ∀ m, m ≤ d → serE (i + 1) (xs.drop (i + 1)) (sumX (2 ^ (i + 1) - 1) (2 ^ hh) E) m = serE 0 xs (fun n => if n = 0 then 1 else 0) m := fun m hm => by
        have := hse m hm
        rw [serE, Int.toNat_natCast] at this
        exact this
      obtain ⟨p, hp⟩ : ∃ p, 2 ^ (i + 1) = p + 1 := ⟨2 ^ (i + 1) - 1, by omega⟩
      rw [hp] at hP hP2 hP1
      rw [hp, Nat.add_sub_cancel] at hse2
      have HS2 := Lib.hid hse2
      have HC0 := Lib.hid hcell0
      have HBL := Lib.hid hbl
      clear hse hse2 hdr hhe hxi hi2 hcell0 hbl hp
      go_wp2
      obtain ⟨wo, rfl⟩ : ∃ wo : World, wo = wr := ⟨_, rfl⟩
      go_loopw [7, 8] (fun wv kv wr => ∃ (ww k : Nat) (L : List Int) (F : Nat → Int), k ≤ hh ∧ 1 ≤ ww ∧ ww ≤ 131072 ∧ wv = .int .i64 (ww : Int) ∧ kv = .int .i64 (k : Int) ∧ OwnI wr w.heap.size (some ⟨w.heap.size, 0, none⟩) (d + 1) (d + 1) L ∧ Coef L d F ∧ (∀ m, m ≤ d → mulAll (hh - k) ww F m = mulAll hh p E m) ∧ Below w.heap.size w wr) (fun _ kv _ => hh - (intOf kv).toNat)
      case atStart => exact ⟨p, 0, L, E, by omega, by omega, by omega, by go_num, rfl, HO.out, HCO.out, fun m _ => rfl, HBW.out⟩
      case round =>
        obtain ⟨ww, k, L2, F, hk, hw1, hw2, rfl, rfl, ho, hco, hmu, hb⟩ := hrel
        have HO2 := Lib.hid ho
        have HCO2 := Lib.hid hco
        have HMU := Lib.hid hmu
        have HBW2 := Lib.hid hb
        have hcell := (hb.cell (p := ⟨b, off + i, none⟩) HBL.out).trans HC0.out
        clear ho hco hmu hb HO HCO HBW
        by_cases hex : k < hh ∧ ww ≤ d
        · obtain ⟨hkh, hwd⟩ := hex
          have hmu2 : ∀ m, m ≤ d → mulAll (hh - (k + 1)) (2 * ww) (mulF ww F) m = mulAll hh p E m := fun m hm => by
            have e := HMU.out m hm
            rw [show hh - k = hh - (k + 1) + 1 by omega, mulAll] at e
            exact e
          have HMU2 := Lib.hid hmu2
          have c1 : (k : Int) < (hh : Int) := by omega
          have c2 : (ww : Int) ≤ (d : Int) := by omega
          clear hmu2 HMU
          go_wp2
          clear hcell
          obtain ⟨wi, rfl⟩ : ∃ wi : World, wi = wr := ⟨_, rfl⟩
          go_loopw [9] (fun zv wr => ∃ (z : Nat) (L3 : List Int), ww ≤ z + 1 ∧ z ≤ d ∧ zv = .int .i64 (z : Int) ∧ OwnI wr w.heap.size (some ⟨w.heap.size, 0, none⟩) (d + 1) (d + 1) L3 ∧ Part L3 d ww (z + 1) F ∧ Below w.heap.size w wr) (fun zv _ => (intOf zv).toNat)
          case atStart => exact ⟨d, L2, by omega, by omega, rfl, HO2.out, Part.start ww HCO2.out, HBW2.out⟩
          case round =>
            obtain ⟨z, L3, hz1, hz2, rfl, ho, hpt, hb⟩ := hrel
            clear HO2 HCO2 HBW2
            by_cases hzw : ww ≤ z
            · have hc1 := ho.cell (i := z) (by omega)
              have hc2 := ho.cell (i := z - ww) (by omega)
              have hf := ho.frozen z
              have b1 : (0 : Int) ≤ (z : Int) - (ww : Int) := by omega
              have b2 : (z : Int) - (ww : Int) < (d : Int) + 1 := by omega
              have b3 : (z : Int) < (d : Int) + 1 := by omega
              have b4 : (ww : Int) ≤ (z : Int) := by omega
              have HS := Lib.hid (ho.set z (I64.wrap64 (L3.getD z 0 + L3.getD (z - ww) 0)))
              have HB3 := Lib.hid (hb.setCell (p := ⟨w.heap.size, z, none⟩) (Nat.le_refl _) (.int .i64 (wrap64 (L3.getD z 0 + L3.getD (z - ww) 0))))
              have HPT := Lib.hid (hpt.step hz2 hzw hw1)
              clear ho hb hpt
              generalize ha : L3.getD z 0 = a at *
              generalize hb' : L3.getD (z - ww) 0 = b' at *
              clear ha hb'
              go_wp2
              go_region
              all_goals go_wp2
              go_roundw
              case rel => exact ⟨z - 1, _, by omega, by omega, by go_num, HS.out.drew, by rw [show z - 1 + 1 = z by omega]; exact HPT.out, HB3.out.drew⟩
              case measure => simp [intOf]; omega
            · obtain rfl : ww = z + 1 := by omega
              have HC3 := Lib.hid hpt.done
              have HO3 := Lib.hid ho
              have HB3 := Lib.hid hb
              have b4 : ¬ ((z : Int) + 1 ≤ (z : Int)) := by omega
              clear ho hb hpt
              go_wp2
              go_roundw
              case rel => exact ⟨2 * (z + 1), k + 1, L3, _, by omega, by omega, by omega, by go_num, by go_num, HO3.out, HC3.out, HMU2.out, HB3.out⟩
              case measure => simp [intOf]; omega
        · have hE : ∀ m, m ≤ d → F m = sumX p (2 ^ hh) E m := fun m hm => by
            rw [← mulAll_eq, ← HMU.out m hm]
            by_cases h1 : k < hh
            · rw [mulAll_small _ _ _ _ (by omega)]
            · rw [show hh - k = 0 by omega]
              rfl
          have HC3 := Lib.hid (HCO2.out.congr hE)
          clear hE
          by_cases h1 : k < hh
          · have c1 : (k : Int) < (hh : Int) := by omega
            have c2 : ¬ (ww : Int) ≤ (d : Int) := by omega
            clear hex
            go_wp2
            go_roundw
            case rel => exact ⟨i + 1, L2, _, by omega, by go_num, HO2.out, HC3.out, HS2.out, HBW2.out⟩
            case measure => simp [intOf]; omega
          · have c1 : ¬ (k : Int) < (hh : Int) := by omega
            clear hex
            go_wp2
            go_roundw
            case rel => exact ⟨i + 1, L2, _, by omega, by go_num, HO2.out, HC3.out, HS2.out, HBW2.out⟩
            case measure => simp [intOf]; omega
    · obtain rfl : i = n := by omega
      have hse := HSE.out
      rw [← hl, List.drop_length] at hse
      have hL : L = serL xs d := HCO.out.eq (fun m hm => hse m hm)
      subst hL
      clear hse
      go_wp2
      go_ret
      exact ⟨_, rfl, HO.out, HBW.out⟩

end Go.Proofs.Ytiajkfgicpidkaa
