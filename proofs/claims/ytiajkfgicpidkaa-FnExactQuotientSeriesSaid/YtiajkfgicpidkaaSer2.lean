/- The series of a profile, as the program counts it. -/
import Derived.Test.YtiajkfgicpidkaaSer1
namespace Go.Proofs.Ytiajkfgicpidkaa
open Go.ChangeShapes Go.WideShapes Go.ChangeAt Go.RowKit
set_option linter.unusedVariables false

theorem coef_zero (d : Nat) : Coef (List.replicate (d + 1) (0 : Int)) d (fun _ => 0) := by
  refine ⟨by simp, fun n hn => ?_⟩
  have e0 : wrap64 0 = 0 := wrap64_id (by omega) (by omega)
  have h3 : n < d + 1 := by omega
  show _ = wrap64 0
  rw [e0]
  simp [List.getD, h3]

/-- the list while E moved up by q is added from place q on: the places below k are done -/
def PartU (L : List Int) (d q k : Nat) (G E : Nat → Int) : Prop := L.length = d + 1 ∧ ∀ n, n ≤ d → L.getD n 0 = wrap64 (G n + (if q ≤ n ∧ n < k then E (n - q) else 0))

theorem PartU.start {L d G} (q : Nat) (E : Nat → Int) (h : Coef L d G) : PartU L d q q G E := ⟨h.1, fun n hn => by rw [h.2 n hn, if_neg (by omega), Int.add_zero]⟩

theorem PartU.step {N L d q k G E} (h : PartU N d q k G E) (hL : Coef L d E) (hk : k ≤ d) (hq : q ≤ k) : PartU (N.set k (wrap64 (N.getD k 0 + L.getD (k - q) 0))) d q (k + 1) G E := by
  refine ⟨by rw [List.length_set]; exact h.1, fun n hn => ?_⟩
  rw [getD_set _ _ _ _ (by rw [h.1]; omega)]
  by_cases e : k = n
  · subst e
    rw [if_pos rfl, if_pos (by omega), h.2 k hk, hL.2 (k - q) (by omega), if_neg (by omega), Int.add_zero, wrap64_add]
  · rw [if_neg e, h.2 n hn]
    by_cases h1 : q ≤ n ∧ n < k
    · rw [if_pos h1, if_pos (by omega)]
    · rw [if_neg h1, if_neg (by omega)]

theorem PartU.done {N d p x E} (h : PartU N d (x * p) (d + 1) (sumX p x E) E) : Coef N d (sumX p (x + 1) E) := by
  refine ⟨h.1, fun n hn => ?_⟩
  rw [h.2 n hn]
  show wrap64 _ = wrap64 (sumX p x E n + (if x * p ≤ n then E (n - x * p) else 0))
  by_cases h1 : x * p ≤ n
  · rw [if_pos h1, if_pos (by omega)]
  · rw [if_neg h1, if_neg (by omega)]

theorem wrap_mul (x p : Nat) (hx : x ≤ 1024) (hp : p ≤ 131072) : wrap64 ((x : Int) * (p : Int)) = ((x * p : Nat) : Int) := by
  have h1 : x * p ≤ 1024 * p := Nat.mul_le_mul_right p hx
  rw [← Int.natCast_mul]
  generalize x * p = y at *
  exact wrap64_id (by omega) (by omega)

theorem sumX_reach (p x q : Nat) (E : Nat → Int) (n : Nat) (hxq : x ≤ q) (h : x = q ∨ n < x * p) : sumX p x E n = sumX p q E n := by
  obtain ⟨r, rfl⟩ : ∃ r, q = x + r := ⟨q - x, by omega⟩
  rcases h with h | h
  · rw [← h]
  · exact (sumX_stop p x E n h r).symm

theorem below_up {B : Nat} {w wo wr : World} (h1 : Below B w wo) (h2 : Below wo.heap.size wo wr) (hB : B ≤ wo.heap.size) : Below B w wr :=
  h1.trans (h2.mono hB)

set_option maxHeartbeats 2000000 in
theorem impl_seriesOf (A : Option Addr) (n c : Nat) (xs : List Int) (d : Nat) (w : World) (h : RI w A n xs) (hn : n ≤ 16) (hx : ∀ x ∈ xs, 0 ≤ x ∧ x ≤ 10) (hd : d ≤ 200) :
    Calls Try.prog 92 #[.slice A n c, .int .i64 (d : Int)] w fun e w' => ∃ g, e = .returned (.slice (some ⟨g, 0, none⟩) (d + 1) (d + 1)) ∧ OwnI w' w.heap.size (some ⟨g, 0, none⟩) (d + 1) (d + 1) (serL xs d) ∧ Below w.heap.size w w' := by
  have hl := h.len
  have H := Lib.hid h
  have HX := Lib.hid hx
  obtain ⟨i0, hi, hz0, hz1, hz2⟩ := info_parts Try.infoI
  have hmkA := fun w : World => run_make (P := Try.prog) w 22 2 i0 (.int .i64 0) Try.underlying22 hi hz0 .i64 .i64 ((d : Int) + 1) ((d : Int) + 1) (by omega) (by omega) (by rw [hz2]; omega) (by omega)
  simp only [hz1, show ((d : Int) + 1).toNat = d + 1 by omega, Nat.mul_one] at hmkA
  have HMK := Lib.hid hmkA
  have hmk := HMK.out w
  have hI := made_own w (d + 1) (by omega)
  have hbel : Below w.heap.size w (w.alloc (.cells (madeCells (Value.int .i64 0).cells (d + 1)) 2)) := (Below.refl _ _).alloc (Nat.le_refl _) _
  generalize hW : w.alloc (.cells (madeCells (Value.int .i64 0).cells (d + 1)) 2) = W at *
  clear hW h hx hmkA hi hz0 hz1 hz2
  have hc := hI.cell (i := 0) (by omega)
  have hf := hI.frozen 0
  have HI := Lib.hid (hI.set 0 (x := 1) (I64.mk (by omega) (by omega)))
  have HB := Lib.hid (hbel.setCell (p := ⟨w.heap.size, 0, none⟩) (Nat.le_refl _) (.int .i64 1))
  clear hI hbel
  have hnd : n ≤ 16 := hn
  go_enter Try.func92, Try.ntmps92
  go_wp2
  clear hmk hc hf
  go_loopw [5, 19] (fun ov iv wr => ∃ (i g : Nat) (L : List Int) (E : Nat → Int), i ≤ n ∧ ov = .slice (some ⟨g, 0, none⟩) (d + 1) (d + 1) ∧ iv = .int .i64 (i : Int) ∧ OwnI wr w.heap.size (some ⟨g, 0, none⟩) (d + 1) (d + 1) L ∧ Coef L d E ∧ (∀ m, m ≤ d → serE i (xs.drop i) E m = serE 0 xs (fun n => if n = 0 then 1 else 0) m) ∧ Below w.heap.size w wr) (fun _ iv _ => n - (intOf iv).toNat)
  case atStart => exact ⟨0, _, _, _, by omega, rfl, rfl, HI.out, coef_start d, fun m _ => by simp, HB.out⟩
  case round =>
    obtain ⟨i, g, L, E, hin, rfl, rfl, ho, hco, hse, hb⟩ := hrel
    clear HI HB
    have HO := Lib.hid ho
    have HCO := Lib.hid hco
    have HSE := Lib.hid hse
    have HBW := Lib.hid hb
    clear ho hco hse hb
    by_cases hlt : i < n
    · have hi2 : i < xs.length := by omega
      have hxi := HX.out (xs.getD i 0) (by simp [List.getD, hi2])
      have hdr := dropc xs i hi2
      have hP := pow_wrap (i + 1) (by omega)
      have hP2 := pow_le (i + 1) 17 (by omega)
      have hP1 := pow_le 1 (i + 1) (by omega)
      rw [show (2 : Nat) ^ 17 = 131072 by decide] at hP2
      rw [show (2 : Nat) ^ 1 = 2 by decide] at hP1
      obtain ⟨b, off, hA, hbl, hcell0⟩ := H.out.at_ hlt
      subst hA
      have hse := HSE.out
      rw [hdr] at hse
      obtain ⟨hh, hhe⟩ := Int.eq_ofNat_of_zero_le hxi.1
      rw [hhe] at hse hcell0 hxi
      have hh10 : hh ≤ 10 := by omega
      have hse2 : ∀ m, m ≤ d → serE (i + 1) (xs.drop (i + 1)) (sumX (2 ^ (i + 1) - 1) (2 ^ hh) E) m = serE 0 xs (fun n => if n = 0 then 1 else 0) m := fun m hm => by
        have := hse m hm
        rw [serE, Int.toNat_natCast] at this
        exact this
      obtain ⟨p, hp⟩ : ∃ p, 2 ^ (i + 1) = p + 1 := ⟨2 ^ (i + 1) - 1, by omega⟩
      rw [hp] at hP hP2 hP1
      rw [hp, Nat.add_sub_cancel] at hse2
      have hQ := pow_wrap hh (by omega)
      have hQ2 := pow_le hh 10 (by omega)
      rw [show (2 : Nat) ^ 10 = 1024 by decide] at hQ2
      generalize (2 : Nat) ^ hh = q at *
      have HS2 := Lib.hid hse2
      have hcell := (HBW.out.cell (p := ⟨b, off + i, none⟩) hbl).trans hcell0
      have hmk := HMK.out wr
      have hg0 : g < wr.heap.size := by
        obtain ⟨g', e1, _, e2⟩ := HO.out.form (by omega)
        injection e1 with e1
        injection e1 with e1
        omega
      have hcellL := fun k (hk : k < d + 1) => HO.out.cell (i := k) hk
      have HLC := Lib.hid hcellL
      have hI := made_own wr (d + 1) (by omega)
      have hbel : Below wr.heap.size wr (wr.alloc (.cells (madeCells (Value.int .i64 0).cells (d + 1)) 2)) := (Below.refl _ _).alloc (Nat.le_refl _) _
      obtain ⟨wo, rfl⟩ : ∃ wo : World, wo = wr := ⟨_, rfl⟩
      generalize hW : wo.alloc (.cells (madeCells (Value.int .i64 0).cells (d + 1)) 2) = W2 at *
      have HI := Lib.hid hI
      have HB := Lib.hid hbel
      clear hW hse hse2 hdr hhe hxi hi2 hcell0 hbl hp hI hbel hcellL
      go_wp2
      clear hmk hcell
      go_loopw [10] (fun xv wr => ∃ (x : Nat) (N : List Int), x ≤ q ∧ xv = .int .i64 (x : Int) ∧ OwnI wr wo.heap.size (some ⟨wo.heap.size, 0, none⟩) (d + 1) (d + 1) N ∧ Coef N d (sumX p x E) ∧ Below wo.heap.size wo wr) (fun xv _ => q - (intOf xv).toNat)
      case atStart => exact ⟨0, _, by omega, rfl, HI.out, coef_zero d, HB.out⟩
      case round =>
        obtain ⟨x, N, hxq, rfl, ho, hco, hb⟩ := hrel
        clear HI HB
        have HO2 := Lib.hid ho
        have HCO2 := Lib.hid hco
        have HB2 := Lib.hid hb
        clear ho hco hb
        have hx24 : x ≤ 1024 := by omega
        have hp17 : p ≤ 131072 := by omega
        have hwq := wrap_mul x p hx24 hp17
        by_cases hex : x < q ∧ x * p ≤ d
        · obtain ⟨hxq2, hxd⟩ := hex
          have PT := Lib.hid (PartU.start (x * p) E HCO2.out)
          have PD := Lib.hid (fun N (h : PartU N d (x * p) (d + 1) (sumX p x E) E) => h.done)
          generalize x * p = y at *
          generalize sumX p x E = G at *
          have c1 : (x : Int) < (q : Int) := by omega
          have c2 : (y : Int) ≤ (d : Int) := by omega
          go_wp2
          obtain ⟨wi, rfl⟩ : ∃ wi : World, wi = wr := ⟨_, rfl⟩
          go_loopw [11] (fun kv wr => ∃ (k : Nat) (N3 : List Int), y ≤ k ∧ k ≤ d + 1 ∧ kv = .int .i64 (k : Int) ∧ OwnI wr wo.heap.size (some ⟨wo.heap.size, 0, none⟩) (d + 1) (d + 1) N3 ∧ PartU N3 d y k G E ∧ Below wo.heap.size wo wr) (fun kv _ => d + 1 - (intOf kv).toNat)
          case atStart => exact ⟨y, N, by omega, by omega, congrArg (Value.int .i64) hwq, HO2.out, PT.out, HB2.out⟩
          case round =>
            obtain ⟨k, N3, hk1, hk2, rfl, ho, hpt, hb⟩ := hrel
            clear HO2 HCO2 HB2 PT
            by_cases hkd : k ≤ d
            · have hc1 := ho.cell (i := k) (by omega)
              have hc2 := (hb.cell (p := ⟨g, k - y, none⟩) hg0).trans (HLC.out (k - y) (by omega))
              have hf := ho.frozen k
              have b1 : (0 : Int) ≤ (k : Int) - (y : Int) := by omega
              have b2 : (k : Int) - (y : Int) < (d : Int) + 1 := by omega
              have b3 : (k : Int) < (d : Int) + 1 := by omega
              have HS := Lib.hid (ho.set k (I64.wrap64 (N3.getD k 0 + L.getD (k - y) 0)))
              have HB3 := Lib.hid (hb.setCell (p := ⟨wo.heap.size, k, none⟩) (Nat.le_refl _) (.int .i64 (wrap64 (N3.getD k 0 + L.getD (k - y) 0))))
              have HPT := Lib.hid (hpt.step HCO.out hkd hk1)
              clear ho hb hpt
              generalize ha : N3.getD k 0 = a at *
              generalize hb' : L.getD (k - y) 0 = b' at *
              clear ha hb'
              go_wp2
              go_region
              all_goals go_wp2
              go_roundw
              case rel => exact ⟨k + 1, _, by omega, by omega, by go_num, HS.out.drew, HPT.out, HB3.out.drew⟩
              case measure => simp [intOf]; omega
            · obtain rfl : k = d + 1 := by omega
              have HC3 := Lib.hid (PD.out _ hpt)
              have HO3 := Lib.hid ho
              have HB3 := Lib.hid hb
              clear ho hb hpt
              go_wp2
              go_roundw
              case rel => exact ⟨x + 1, N3, by omega, by go_num, HO3.out, HC3.out, HB3.out⟩
              case measure => simp [intOf]; omega
        · have hE : ∀ m, m ≤ d → sumX p x E m = sumX p q E m := fun m hm => by
            refine sumX_reach p x q E m hxq ?_
            by_cases h1 : x < q
            · exact .inr (Nat.lt_of_le_of_lt hm (Nat.lt_of_not_le fun h2 => hex ⟨h1, h2⟩))
            · exact .inl (Nat.le_antisymm hxq (Nat.le_of_not_lt h1))
          have HC3 := Lib.hid (HCO2.out.congr hE)
          have HOO := Lib.hid (HO2.out.mono HBW.out.size)
          have HBB := Lib.hid (below_up HBW.out HB2.out HBW.out.size)
          clear hE
          by_cases h1 : x < q
          · have c1 : (x : Int) < (q : Int) := by omega
            have hxd : ¬ x * p ≤ d := fun h2 => hex ⟨h1, h2⟩
            clear hex HO2 HB2 HCO2
            generalize x * p = y at *
            have c2 : ¬ ((y : Nat) : Int) ≤ (d : Int) := by omega
            go_wp2
            go_roundw
            case rel => exact ⟨i + 1, _, N, _, by omega, rfl, by go_num, HOO.out, HC3.out, HS2.out, HBB.out⟩
            case measure => simp [intOf]; omega
          · have c1 : ¬ (x : Int) < (q : Int) := by omega
            clear hex HO2 HB2 HCO2 hwq
            go_wp2
            go_roundw
            case rel => exact ⟨i + 1, _, N, _, by omega, rfl, by go_num, HOO.out, HC3.out, HS2.out, HBB.out⟩
            case measure => simp [intOf]; omega
    · obtain rfl : i = n := by omega
      have hse := HSE.out
      rw [← hl, List.drop_length] at hse
      have hL : L = serL xs d := HCO.out.eq (fun m hm => hse m hm)
      subst hL
      clear hse
      go_wp2
      go_ret
      exact ⟨_, rfl, HO.out, HBW.out⟩

end Go.Proofs.Ytiajkfgicpidkaa
