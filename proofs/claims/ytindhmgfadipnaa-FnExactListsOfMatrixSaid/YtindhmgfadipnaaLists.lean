/- ListsOfMatrix of the program and of the reference. -/
import Derived.Test.YtindhmgfadipnaaTimes
import Derived.Test.YtindhmgfadipnaaBlk
namespace Go.Proofs.Ytindhmgfadipnaa
open Go.ChangeShapes Go.WideShapes Go.ChangeAt Go.RowKit
set_option linter.unusedVariables false

/-- the first d binary digits of a number -/
def digW (m d : Nat) : List Int := (List.range d).map (fun j => ((m / 2 ^ j % 2 : Nat) : Int))

theorem digW_len (m d : Nat) : (digW m d).length = d := by simp [digW]

theorem digW_succ (m j : Nat) : digW m (j + 1) = digW m j ++ [((m / 2 ^ j % 2 : Nat) : Int)] := by
  unfold digW
  rw [List.range_succ, List.map_append]; rfl

def lisL (d : Nat) (X : List Int) : List (List Int) := X.map (fun x => digW x.toNat d)

def pListsOfMatrix (k : Int) (X : List Int) : List (List Int) × Int :=
  if pIsMatrix k X = true then (lisL k.toNat X, 0) else ([], 1)

theorem tot_lisL (d : Nat) (X : List Int) : tot (lisL d X) = X.length * d := by
  induction X with
  | nil => simp [lisL, tot]
  | cons x X ih =>
    have e : lisL d (x :: X) = digW x.toNat d :: lisL d X := rfl
    rw [e]
    simp only [tot, List.length_cons]
    rw [ih, digW_len]
    simp only [Nat.add_mul]
    omega

theorem pListsOfMatrix_sz (k : Int) (X : List Int) (h : X.length ≤ 1048576) : tot (pListsOfMatrix k X).1 ≤ 4000000000 := by
  unfold pListsOfMatrix
  split
  · rename_i hp
    have hpt := pIsMatrix_true hp
    rw [tot_lisL]
    have h1 : X.length * k.toNat ≤ 200 * 60 := Nat.mul_le_mul hpt.2.2.1 (by omega)
    omega
  · simp [tot]

theorem lisL_take (d : Nat) (X : List Int) (i : Nat) (h : i < X.length) : (lisL d X).take (i + 1) = (lisL d X).take i ++ [digW (X.getD i 0).toNat d] := by
  rw [List.take_succ_eq_append_getElem (by simpa [lisL] using h)]
  simp [lisL, List.getD, h]

theorem lisL_all (d : Nat) (X : List Int) (n : Nat) (h : X.length = n) : (lisL d X).take n = lisL d X := by
  rw [List.take_of_length_le (by simp [lisL]; omega)]

set_option maxHeartbeats 400000 in
theorem impl_digitsOf {m d : Nat} {w} (hm : m < 9223372036854775808) (hd : d ≤ 60) :
    Calls Try.prog 104 #[.int .i64 (m : Int), .int .i64 (d : Int)] w fun e w' => ∃ A c, e = .returned (.slice A d c) ∧ OwnI w' w.heap.size A d c (digW m d) ∧ Below w.heap.size w w' := by
  have HI := Lib.hid (empty_own w)
  have HB := Lib.hid (box_below w (.cells #[] 2))
  go_enter Try.func104, Try.ntmps104
  go_wp2
  go_loopw [5, 9] (fun v iv wr => ∃ (j : Nat) (A : Option Addr) (c : Nat), j ≤ d ∧ iv = .int .i64 (j : Int) ∧ v = .slice A j c ∧ OwnI wr w.heap.size A j c (digW m j) ∧ Below w.heap.size w wr) (fun _ iv _ => d - (intOf iv).toNat)
  case atStart => exact ⟨0, _, _, by omega, rfl, rfl, HI.out, HB.out⟩
  case round =>
    obtain ⟨j, A, c, hj, rfl, rfl, ho, hb⟩ := hrel
    clear HI HB
    have HO := Lib.hid ho
    have HBW := Lib.hid hb
    clear ho hb
    by_cases hlt : j < d
    · have hcd := cast_div m j
      have hmn : min j 64 = j := by omega
      have hle : m / 2 ^ j ≤ m := Nat.div_le_self _ _
      have hsu := digW_succ m j
      generalize m / 2 ^ j = q at *
      have hao := and_one' q (by omega)
      have HSU := Lib.hid hsu
      have hq2 : q % 2 < 2 := Nat.mod_lt _ (by omega)
      clear hsu
      generalize q % 2 = r at *
      go_wp2_with (at_builtin; refine app1 _ _ _ _ _ _ _ _ _ rfl rfl rfl rfl HO.out (I64.mk (by omega) (by omega)) (by omega) HBW.out.size ?_; intro g c' w1 ho2 hg)
      rw [← HSU.out] at ho2
      have HO2 := Lib.hid ho2
      have HB2 := Lib.hid (HBW.out.grown hg HBW.out.size (fun k hk => HO.out.row_ge hk))
      clear ho2 hg
      go_wp2
      go_roundw
      case rel => exact ⟨j + 1, _, _, by omega, by go_num, rfl, HO2.out, HB2.out⟩
      case measure => simp [intOf]; omega
    · obtain rfl : j = d := by omega
      go_wp2
      go_ret
      exact ⟨A, c, rfl, HO.out, HBW.out⟩

set_option maxHeartbeats 800000 in
theorem impl_ListsOfMatrix {k A n c X w} (hk : I64 k) (h : RI w A n X) (hn : n ≤ 1048576) :
    Calls Try.prog 41 #[.agg #[.int .i64 k, .slice A n c]] w fun e w' => ∃ G m d vs, e = .returned (.tuple #[.slice G m d, .int .i64 (pListsOfMatrix k X).2]) ∧ OwnS w' w.heap.size G m d vs (pListsOfMatrix k X).1 ∧ Below w.heap.size w w' := by
  have hl := h.len
  have hs := h.small
  have hb0 := box_below w (.cells #[.int .i64 k, .slice A n c] 40)
  have hbk := Blk.new w #[.int .i64 k, .slice A n c] 40
  have CON := Lib.hid (impl_IsMatrix (c := c) hk (h.below hb0) hn)
  have H := Lib.hid (h.below hb0)
  have HB0 := Lib.hid hb0
  have HBK := Lib.hid hbk
  clear h hb0 hbk hk
  cases hp : pIsMatrix k X with
  | false =>
    have HF := Lib.hid (show pListsOfMatrix k X = ([], 1) by unfold pListsOfMatrix; rw [hp]; rfl)
    rw [hp] at CON
    clear hp hl
    go_enter Try.func41, Try.ntmps41
    go_wp2_with fail
    refine CON.out.mono ?_
    rintro e w1 ⟨rfl, hb⟩
    have HB := Lib.hid (HB0.out.trans (hb.mono HB0.out.size))
    clear hb
    go_wp2
    go_ret2
    exact ⟨none, 0, 0, [], by first | (rw [HF.out]; rfl) | rw [HF.out], by rw [HF.out]; exact OwnS.nil _ _, HB.out⟩
  | true =>
    have hpt := pIsMatrix_true hp
    obtain ⟨d, rfl⟩ := Int.eq_ofNat_of_zero_le hpt.1
    have HF := Lib.hid (show pListsOfMatrix (d : Int) X = (lisL d X, 0) by unfold pListsOfMatrix; rw [hp, Int.toNat_natCast]; rfl)
    have hd60 : d ≤ 60 := by omega
    have hn200 : n ≤ 200 := by omega
    have HM := Lib.hid (fun i (hi : i < n) => maskB_true (hpt.2.2.2 (X.getD i 0) (by simp [List.getD, show i < X.length by omega])) (by omega))
    have HL := Lib.hid hl
    rw [hp] at CON
    clear hp hpt hl
    go_enter Try.func41, Try.ntmps41
    go_wp2_with fail
    generalize w.alloc (.cells #[.int .i64 (d : Int), .slice A n c] 40) = W0 at *
    refine CON.out.mono ?_
    rintro e w1 ⟨rfl, hb⟩
    have HB := Lib.hid (hb.trans ((box_below w1 (.cells #[] 36)).mono hb.size))
    have c1 := (HBK.out.below HB.out).cell 1 rfl
    have HE := Lib.hid ((emptyS_own w1).mono hb.size)
    clear hb
    go_wp2
    clear c1
    go_loopw [4, 14] (fun v iv wr => ∃ (i : Nat) (A3 : Option Addr) (c3 : Nat) (vs : List Sl), i ≤ n ∧ iv = .int .i64 (i : Int) ∧ v = .slice A3 i c3 ∧ OwnS wr W0.heap.size A3 i c3 vs ((lisL d X).take i) ∧ Below W0.heap.size W0 wr) (fun _ iv _ => n - (intOf iv).toNat)
    case atStart => exact ⟨0, _, _, [], by omega, rfl, rfl, HE.out, HB.out⟩
    case round =>
      obtain ⟨i, A3, c3, vs, hi, rfl, rfl, ho, hb⟩ := hrel
      clear HE HB
      have HO := Lib.hid ho
      have HBW := Lib.hid hb
      clear ho hb
      by_cases hlt : i < n
      · obtain ⟨b, off, rfl, hbl, hc0⟩ := H.out.at_ hlt
        have hc := (HBW.out.cell (p := ⟨b, off + i, none⟩) hbl).trans hc0
        have hk0 := (HBK.out.below HBW.out).cell 0 rfl
        have hmb := HM.out i hlt
        have htk := lisL_take d X i (by have := HL.out; omega)
        obtain ⟨m, hme⟩ := Int.eq_ofNat_of_zero_le hmb.1
        rw [hme] at htk hc hmb
        rw [Int.toNat_natCast] at htk
        have HTK := Lib.hid htk
        have CD := Lib.hid (impl_digitsOf (w := wr) (m := m) (d := d) (by omega) hd60)
        have hn40 : i ≤ 1099511627776 := by omega
        clear hc0 hbl hme htk hmb
        go_wp2_with (first | (go_at_call 104; refine CD.out.mono ?_; rintro e W3 ⟨A4, c4, rfl, ho3, hb3⟩; have HO3 := Lib.hid ho3; have HB3 := Lib.hid hb3; clear ho3 hb3) | (at_builtin; refine app1S _ _ W0.heap.size wr.heap.size A3 i c3 vs _ (A4, d, c4) (digW m d) W3 rfl rfl rfl rfl (HO.out.below HB3.out) HO3.out HO.out.inS HBW.out.size hn40 (Nat.le_trans HBW.out.size HB3.out.size) ?_; intro g5 c5 W4 ho4 hg4 hat4))
        rw [← HTK.out] at ho4
        have HO4 := Lib.hid ho4
        have HB4 := Lib.hid ((HBW.out.trans (HB3.out.mono HBW.out.size)).grown hg4 (Nat.le_trans HBW.out.size HB3.out.size) (fun k hk => (HO.out.below HB3.out).out_ge hk))
        clear ho4 hg4 hat4
        go_wp2
        go_roundw
        case rel => exact ⟨i + 1, _, _, _, by omega, by go_num, rfl, HO4.out, HB4.out⟩
        case measure => simp [intOf]; omega
      · obtain rfl : i = n := by omega
        have HO2 := Lib.hid (show OwnS wr W0.heap.size A3 i c3 vs (lisL d X) by rw [← lisL_all d X i HL.out]; exact HO.out)
        go_wp2
        go_ret2
        exact ⟨A3, i, c3, vs, by first | (rw [HF.out]; rfl) | rw [HF.out], by rw [HF.out]; exact HO2.out.mono HB0.out.size, HB0.out.trans (HBW.out.mono HB0.out.size)⟩

set_option maxHeartbeats 1000000 in
theorem spec_ListsOfMatrix {k A n c X w} (hk : I64 k) (h : RI w A n X) (hn : n ≤ 1048576) :
    Calls Try.prog 40 #[.agg #[.int .i64 k, .slice A n c]] w fun e w' => ∃ G m d vs, e = .returned (.tuple #[.slice G m d, .int .i64 (pListsOfMatrix k X).2]) ∧ OwnS w' w.heap.size G m d vs (pListsOfMatrix k X).1 ∧ Below w.heap.size w w' := by
  have hl := h.len
  have hs := h.small
  have hb0 := box_below w (.cells #[.int .i64 k, .slice A n c] 40)
  have hbk := Blk.new w #[.int .i64 k, .slice A n c] 40
  have CON := Lib.hid (spec_l02Is (k := k) (c := c) (h.below hb0) hn)
  have H := Lib.hid (h.below hb0)
  have HB0 := Lib.hid hb0
  have HBK := Lib.hid hbk
  clear h hb0 hbk hk
  cases hp : pIsMatrix k X with
  | false =>
    have HF := Lib.hid (show pListsOfMatrix k X = ([], 1) by unfold pListsOfMatrix; rw [hp]; rfl)
    rw [hp] at CON
    clear hp hl
    go_enter Try.func40, Try.ntmps40
    go_wp2_with fail
    refine CON.out.mono ?_
    rintro e w1 ⟨rfl, hb⟩
    have HB := Lib.hid (HB0.out.trans (hb.mono HB0.out.size))
    clear hb
    go_wp2
    go_ret2
    exact ⟨none, 0, 0, [], by first | (rw [HF.out]; rfl) | rw [HF.out], by rw [HF.out]; exact OwnS.nil _ _, HB.out⟩
  | true =>
    have hpt := pIsMatrix_true hp
    obtain ⟨d, rfl⟩ := Int.eq_ofNat_of_zero_le hpt.1
    have HF := Lib.hid (show pListsOfMatrix (d : Int) X = (lisL d X, 0) by unfold pListsOfMatrix; rw [hp, Int.toNat_natCast]; rfl)
    have hd60 : d ≤ 60 := by omega
    have hn200 : n ≤ 200 := by omega
    have HM := Lib.hid (fun i (hi : i < n) => maskB_true (hpt.2.2.2 (X.getD i 0) (by simp [List.getD, show i < X.length by omega])) (by omega))
    have HL := Lib.hid hl
    rw [hp] at CON
    clear hp hpt hl
    go_enter Try.func40, Try.ntmps40
    go_wp2_with fail
    generalize w.alloc (.cells #[.int .i64 (d : Int), .slice A n c] 40) = W0 at *
    refine CON.out.mono ?_
    rintro e w1 ⟨rfl, hb⟩
    have HB := Lib.hid (hb.trans ((box_below w1 (.cells #[] 36)).mono hb.size))
    have HE := Lib.hid ((emptyS_own w1).mono hb.size)
    clear hb
    go_wp2
    go_loopw [4, 5] (fun v iv wr => ∃ (i : Nat) (A3 : Option Addr) (c3 : Nat) (vs : List Sl), i ≤ n ∧ iv = .int .i64 (i : Int) ∧ v = .slice A3 i c3 ∧ OwnS wr W0.heap.size A3 i c3 vs ((lisL d X).take i) ∧ Below W0.heap.size W0 wr) (fun _ iv _ => n - (intOf iv).toNat)
    case atStart => exact ⟨0, _, _, [], by omega, rfl, rfl, HE.out, HB.out⟩
    case round =>
      obtain ⟨i, A3, c3, vs, hi, rfl, rfl, ho, hb⟩ := hrel
      clear HE HB
      have HO := Lib.hid ho
      have HBW := Lib.hid hb
      clear ho hb
      have hk1 := (HBK.out.below HBW.out).cell 1 rfl
      by_cases hlt : i < n
      · obtain ⟨b, off, rfl, hbl, hc0⟩ := H.out.at_ hlt
        have hlt' : (i : Int) < (n : Int) := by omega
        have hmb := HM.out i hlt
        have htk := lisL_take d X i (by have := HL.out; omega)
        obtain ⟨m, hme⟩ := Int.eq_ofNat_of_zero_le hmb.1
        rw [hme] at htk hc0 hmb
        rw [Int.toNat_natCast] at htk
        have HTK := Lib.hid htk
        have HC := Lib.hid hc0
        have HBL := Lib.hid hbl
        have hn40 : i ≤ 1099511627776 := by omega
        have hm63 : m < 9223372036854775808 := by omega
        have HI := Lib.hid (empty_own wr)
        have HBI := Lib.hid (box_below wr (.cells #[] 2))
        clear hc0 hbl hme htk hmb
        obtain ⟨wo, rfl⟩ : ∃ wo : World, wo = wr := ⟨_, rfl⟩
        go_wp2
        go_loopw [6, 7] (fun v jv wi => ∃ (j : Nat) (A4 : Option Addr) (c4 : Nat), j ≤ d ∧ jv = .int .i64 (j : Int) ∧ v = .slice A4 j c4 ∧ OwnI wi wo.heap.size A4 j c4 (digW m j) ∧ Below wo.heap.size wo wi) (fun _ jv _ => d - (intOf jv).toNat)
        case atStart => exact ⟨0, _, _, by omega, rfl, rfl, HI.out, HBI.out⟩
        case round =>
          obtain ⟨j, A4, c4, hj, rfl, rfl, ho3, hb3⟩ := hrel
          clear HI HBI hk1
          have HO3 := Lib.hid ho3
          have HB3 := Lib.hid hb3
          have HBT := Lib.hid (HBW.out.trans (hb3.mono HBW.out.size))
          have hk0 := (HBK.out.below HBT.out).cell 0 rfl
          clear ho3 hb3
          by_cases hjl : j < d
          · have hjl' : (j : Int) < (d : Int) := by omega
            have hk1 := (HBK.out.below HBT.out).cell 1 rfl
            have hc := (HBT.out.cell (p := ⟨b, off + i, none⟩) HBL.out).trans HC.out
            have hcd := cast_div m j
            have hmn : min j 64 = j := by omega
            have hu : IntKind.u64.wrap (j : Int) = (j : Int) := wrap_u64_id _ (by omega) (by omega)
            have hle : m / 2 ^ j ≤ m := Nat.div_le_self _ _
            have hsu := digW_succ m j
            generalize m / 2 ^ j = q at *
            have hao := and_one' q (by omega)
            have HSU := Lib.hid hsu
            have hq2 : q % 2 < 2 := Nat.mod_lt _ (by omega)
            clear hsu
            generalize q % 2 = r at *
            go_wp2_with (at_builtin; refine app1 _ _ _ _ _ _ _ _ _ rfl rfl rfl rfl HO3.out (I64.mk (by omega) (by omega)) (by omega) HB3.out.size ?_; intro g c' w2 ho2 hg)
            rw [← HSU.out] at ho2
            have HO2 := Lib.hid ho2
            have HB2 := Lib.hid (HB3.out.grown hg HB3.out.size (fun k hk => HO3.out.row_ge hk))
            clear ho2 hg
            go_wp2
            go_roundw
            case rel => exact ⟨j + 1, _, _, by omega, by go_num, rfl, HO2.out, HB2.out⟩
            case measure => simp [intOf]; omega
          · obtain rfl : j = d := by omega
            go_wp2_with (at_builtin; refine app1S _ _ W0.heap.size wo.heap.size A3 i c3 vs _ (A4, j, c4) (digW m j) wr rfl rfl rfl rfl (HO.out.below HB3.out) HO3.out HO.out.inS HBW.out.size hn40 (Nat.le_trans HBW.out.size HB3.out.size) ?_; intro g5 c5 W4 ho4 hg4 hat4)
            rw [← HTK.out] at ho4
            have HO4 := Lib.hid ho4
            have HB4 := Lib.hid (HBT.out.grown hg4 (Nat.le_trans HBW.out.size HB3.out.size) (fun k hk => (HO.out.below HB3.out).out_ge hk))
            clear ho4 hg4 hat4
            go_wp2
            go_roundw
            case rel => exact ⟨i + 1, _, _, _, by omega, by go_num, rfl, HO4.out, HB4.out⟩
            case measure => simp [intOf]; omega
      · obtain rfl : i = n := by omega
        have HO2 := Lib.hid (show OwnS wr W0.heap.size A3 i c3 vs (lisL d X) by rw [← lisL_all d X i HL.out]; exact HO.out)
        go_wp2
        go_ret2
        exact ⟨A3, i, c3, vs, by first | (rw [HF.out]; rfl) | rw [HF.out], by rw [HF.out]; exact HO2.out.mono HB0.out.size, HB0.out.trans (HBW.out.mono HB0.out.size)⟩

end Go.Proofs.Ytindhmgfadipnaa
