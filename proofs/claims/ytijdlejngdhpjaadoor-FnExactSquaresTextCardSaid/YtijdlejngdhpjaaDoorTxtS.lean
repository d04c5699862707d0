/- The reference's text of a sum of words; its SquaresText. -/
import Derived.Test.YtijdlejngdhpjaaDoorDec
import Derived.Test.YtijdlejngdhpjaaDoorTxtX
namespace Go.Proofs.YtijdlejngdhpjaaDoor
open Go.ChangeShapes Go.WideShapes Go.ChangeAt Go.RowKit Go.Proofs
set_option linter.unusedVariables false

theorem str_byte (d : Nat) : strOfNums [48 + (d : Int)] = sB [UInt8.ofNat (48 + d)] := by
  unfold strOfNums sB
  simp only [List.map_cons, List.map_nil]
  rw [show (48 + (d : Int)).toNat = 48 + d by omega]

theorem spec_dec (x : Int) (h0 : 0 ≤ x) (h1 : x < 100) (w : World) :
    Calls Tryd.prog 44 #[.int .i64 x] w fun e w' => e = .returned (.string (sB (Lib.decDigits x.toNat))) ∧ Below w.heap.size w w' := by
  have hx : x = ((x.toNat : Nat) : Int) := by omega
  by_cases h : x.toNat < 10
  · have := spec_dec1 x.toNat w h
    rw [← hx] at this
    rw [dd_eq _ (by omega), show dd x.toNat = [UInt8.ofNat (48 + x.toNat)] by unfold dd; rw [if_pos h], ← str_byte, ← hx]
    exact this
  · have := spec_dec2 x.toNat w (by omega) (by omega)
    rw [← hx, str_byte, str_byte, sB_app] at this
    rw [dd_eq _ (by omega), show dd x.toNat = [UInt8.ofNat (48 + x.toNat / 10), UInt8.ofNat (48 + x.toNat % 10)] by unfold dd; rw [if_neg h]]
    exact this

/-- the text of the words so far -/
def tJ (X : List (List Int)) : List UInt8 := Lib.join (X.map txtWord) [43]

/-- the text of the first letters of a word -/
def tW (xs : List Int) (k : Nat) : List UInt8 := Lib.join ((xs.take k).map txtSq) [32]

theorem tW_step (xs : List Int) (k : Nat) (h : k < xs.length) : tW xs (k + 1) = if k = 0 then txtSq (xs.getD k 0) else tW xs k ++ [32] ++ txtSq (xs.getD k 0) := by
  unfold tW
  rw [← take_map_snoc txtSq xs 0 k h, join_snoc]
  by_cases h0 : k = 0
  · subst h0; simp
  · rw [if_neg h0, if_neg]
    intro e
    have := congrArg List.length e
    simp only [List.length_map, List.length_take, List.length_nil] at this
    omega

theorem tW_end (xs : List Int) (k : Nat) (h : xs.length ≤ k) (h0 : xs ≠ []) : tW xs k = txtWord xs := by
  unfold tW txtWord
  rw [if_neg h0, List.take_of_length_le h]

theorem tJ_step (X : List (List Int)) (i : Nat) (h : i < X.length) : tJ (X.take (i + 1)) = (if i = 0 then [] else tJ (X.take i) ++ [43]) ++ txtWord (X.getD i []) := by
  unfold tJ
  rw [← take_map_snoc txtWord X [] i h, join_snoc]
  by_cases h0 : i = 0
  · subst h0; simp
  · rw [if_neg h0, if_neg]
    intro e
    have := congrArg List.length e
    simp only [List.length_map, List.length_take, List.length_nil] at this
    omega

theorem txtWord_pos (xs : List Int) : 0 < (txtWord xs).length := by
  unfold txtWord
  split
  · simp
  · next h =>
    cases xs with
    | nil => exact absurd rfl h
    | cons x r =>
      rw [List.map_cons, Lib.join_cons]
      simp [txtSq]

theorem tJ_pos (X : List (List Int)) (h : X ≠ []) : 0 < (tJ X).length := by
  cases X with
  | nil => exact absurd rfl h
  | cons x r =>
    unfold tJ
    rw [List.map_cons, Lib.join_cons]
    have := txtWord_pos x
    simp; omega

theorem tW_len (xs : List Int) (k : Nat) (h : ∀ x ∈ xs, 0 ≤ x ∧ x < 100) (hn : xs.length ≤ 1048576) : (tW xs k).length ≤ 5242880 := by
  unfold tW
  have := len_join ((xs.take k).map txtSq) [32] 4 (fun y hy => by
    obtain ⟨x, hx, rfl⟩ := List.mem_map.1 hy
    have := h x (List.mem_of_mem_take hx)
    exact txtSq_len x this.1 this.2)
  simp only [List.length_map, List.length_cons, List.length_nil, List.length_take] at this
  have h2 : min k xs.length ≤ 1048576 := by omega
  omega

theorem tJ_len (X : List (List Int)) (i : Nat) (h : ∀ xs ∈ X, ∀ x ∈ xs, 0 ≤ x ∧ x < 100) (hn : X.length + tot X ≤ 1048576) : (tJ (X.take i)).length ≤ 6000000000000 := by
  unfold tJ
  have := len_join ((X.take i).map txtWord) [43] 5242880 (fun y hy => by
    obtain ⟨x, hx, rfl⟩ := List.mem_map.1 hy
    have hx' := List.mem_of_mem_take hx
    have := totl_mem hx'
    exact txtWord_len x (h x hx') (by omega))
  simp only [List.length_map, List.length_cons, List.length_nil, List.length_take] at this
  have h2 : min i X.length ≤ 1048576 := by omega
  omega

set_option maxHeartbeats 1600000 in
theorem spec_l03Text {A n c vs X w} (h : RS w A n vs X) (hx : ∀ xs ∈ X, ∀ x ∈ xs, 0 ≤ x ∧ x < 100) (hn : n + tot X ≤ 1048576) :
    Calls Tryd.prog 24 #[.slice A n c] w fun e w' => e = .returned (.string (sB (txtSum X))) ∧ Below w.heap.size w w' := by
  have HR := Lib.hid h
  have HX := Lib.hid hx
  have hl := h.len
  have hns := h.small
  clear h hx
  go_enter Tryd.func24, Tryd.ntmps24
  go_wp2
  go_loopw [3, 4] (fun t iv wr => ∃ (i : Nat) (s : ByteArray), i ≤ n ∧ iv = .int .i64 (i : Int) ∧ t = .string s ∧ s = sB (tJ (X.take i)) ∧ Below w.heap.size w wr) (fun _ iv _ => n - (intOf iv).toNat)
  case atStart => exact ⟨0, _, Nat.zero_le _, rfl, rfl, rfl, Below.refl _ _⟩
  case round =>
    obtain ⟨i, s, hi, rfl, rfl, hs, hb⟩ := hrel
    have HB := Lib.hid hb
    have HS := Lib.hid hs
    have hsz : s.size ≤ 6000000000000 := by rw [hs, sB_size]; exact tJ_len X i HX.out (by omega)
    clear hb hs
    by_cases hlt : i < n
    · have hr1 := HR.out.below HB.out
      obtain ⟨b, off, rfl, hbl, hc⟩ := hr1.at_ hlt
      have hrow := hr1.row hlt
      have hm := getD_memS X i (by omega)
      have hxk := HX.out _ hm
      have hlm := totl_mem hm
      have hj := tJ_step X i (by omega)
      have hlt' : (i : Int) < (n : Int) := by omega
      clear hm
      generalize X.getD i [] = x at *
      generalize vs.getD i nilS = v at *
      obtain ⟨vA, vn, vc⟩ := v
      simp only [sv] at hc
      simp only at hrow
      have hvn := hrow.len
      obtain ⟨base, hbase⟩ : ∃ base : List UInt8, base = (if i = 0 then [] else tJ (X.take i) ++ [43]) := ⟨_, rfl⟩
      rw [← hbase] at hj
      have hbl2 : base.length ≤ 6000000000001 := by
        rw [hbase]
        split
        · simp
        · have := tJ_len X i HX.out (by omega)
          simp; omega
      have HJ := Lib.hid hj
      have HXK := Lib.hid hxk
      have HROW := Lib.hid hrow
      have HBL := Lib.hid hbl
      have HC := Lib.hid hc
      have HST : Hid ((i = 0 → s = sB base) ∧ (0 < i → s ++ ({ data := #[43] } : ByteArray) = sB base)) := Lib.hid ⟨fun e => by
        rw [HS.out, hbase, if_pos e, e]; rfl, fun e => by
        rw [HS.out, hbase, if_neg (by omega)]
        exact sB_app _ [43]⟩
      clear hj hxk hrow hr1 hbase hbl
      have hs1 : ¬ 9223372036854775807 < s.size + 1 := by omega
      rcases Nat.eq_zero_or_pos i with h0 | h0
      all_goals (
        first | (have h0' : (0 : Int) < (i : Int) := by omega) | skip
        first | (have h0' : ¬ (0 : Int) < (i : Int) := by omega) | skip
        go_wp2
        go_loopw [3, 5] (fun t kv w2 => ∃ (k : Nat) (s2 : ByteArray), k ≤ vn ∧ kv = .int .i64 (k : Int) ∧ t = .string s2 ∧ s2 = sB (base ++ tW x k) ∧ Below wr.heap.size wr w2) (fun _ kv _ => vn - (intOf kv).toNat)
        case atStart => exact ⟨0, _, Nat.zero_le _, rfl, rfl, by rw [show base ++ tW x 0 = base from List.append_nil _]; first | exact HST.out.1 h0 | exact HST.out.2 h0, Below.refl _ _⟩
        case round =>
          obtain ⟨k, s2, hk, rfl, rfl, hs2, hb2⟩ := hrel
          have HB2 := Lib.hid hb2
          have hsz2 : s2.size ≤ 6000010000000 := by
            have := tW_len x k HXK.out (by omega)
            rw [hs2, sB_size, List.length_append]; omega
          have HS2 := Lib.hid hs2
          clear hb2 hs2
          have hc := (HB2.out.cell (p := ⟨b, off + i, none⟩) HBL.out).trans HC.out
          first | (rw [show i = 0 from h0, Nat.add_zero] at hc) | skip
          by_cases hklt : k < vn
          · obtain ⟨b2, off2, rfl, hbl3, hc2⟩ := (HROW.out.below HB2.out).at_ hklt
            have hd := HXK.out _ (getD_memI x k (by omega))
            have CD := Lib.hid (fun w1 => spec_dec (x.getD k 0) hd.1 hd.2 w1)
            have HT := Lib.hid (tW_step x k (by omega))
            have hlen := txtSq_len _ hd.1 hd.2
            have HSQ := Lib.hid (show txtSq (x.getD k 0) = [83, 113] ++ Lib.decDigits (x.getD k 0).toNat from rfl)
            have hDl : (sB (Lib.decDigits (x.getD k 0).toNat)).size ≤ 4 := by
              rw [HSQ.out] at hlen
              simp only [List.length_append, List.length_cons, List.length_nil] at hlen
              rw [sB_size]; omega
            clear hbl3 hd hlen
            generalize x.getD k 0 = y at *
            generalize Lib.decDigits y.toNat = D at *
            have hklt' : (k : Int) < (vn : Int) := by omega
            have z1 : ¬ 9223372036854775807 < s2.size + 1 := by omega
            have z2 : ¬ 9223372036854775807 < s2.size + 2 := by omega
            have z3 : ¬ 9223372036854775807 < s2.size + 1 + 2 := by omega
            have z4 : ¬ 9223372036854775807 < s2.size + 2 + (sB D).size := by omega
            have z5 : ¬ 9223372036854775807 < s2.size + 1 + 2 + (sB D).size := by omega
            have HE0 := Lib.hid (show k = 0 → s2 ++ ({ data := #[83, 113] } : ByteArray) ++ sB D = sB (base ++ tW x (k + 1)) from fun e => by
              rw [HT.out, if_pos e, HSQ.out, HS2.out, e, show base ++ tW x 0 = base from List.append_nil _]
              show sB base ++ sB [83, 113] ++ sB D = _
              rw [sB_app, sB_app, List.append_assoc])
            have HE1 := Lib.hid (show 0 < k → s2 ++ ({ data := #[32] } : ByteArray) ++ ({ data := #[83, 113] } : ByteArray) ++ sB D = sB (base ++ tW x (k + 1)) from fun e => by
              rw [HT.out, if_neg (by omega), HSQ.out, HS2.out]
              show sB (base ++ tW x k) ++ sB [32] ++ sB [83, 113] ++ sB D = _
              rw [sB_app, sB_app, sB_app]
              simp only [List.append_assoc])
            rcases Nat.eq_zero_or_pos k with hk0 | hk0
            · have hk0' : ¬ (0 : Int) < (k : Int) := by omega
              rw [hk0, Nat.add_zero] at hc2
              go_wp2_with (go_at_call 44; refine (CD.out _).mono ?_; rintro e w4 ⟨rfl, hb4⟩; have HB4 := Lib.hid (HB2.out.trans (hb4.mono HB2.out.size)); clear hb4)
              go_roundw
              case rel => exact ⟨k + 1, _, by omega, by first | go_num | (simp; omega), rfl, HE0.out hk0, HB4.out⟩
              case measure => simp [intOf]; omega
            · have hk0' : (0 : Int) < (k : Int) := by omega
              go_wp2_with (go_at_call 44; refine (CD.out _).mono ?_; rintro e w4 ⟨rfl, hb4⟩; have HB4 := Lib.hid (HB2.out.trans (hb4.mono HB2.out.size)); clear hb4)
              go_roundw
              case rel => exact ⟨k + 1, _, by omega, by first | go_num | (simp; omega), rfl, HE1.out hk0, HB4.out⟩
              case measure => simp [intOf]; omega
          · obtain rfl : k = vn := by omega
            have HB5 := Lib.hid (HB.out.trans (HB2.out.mono HB.out.size))
            rcases Nat.eq_zero_or_pos k with hv0 | hv0
            · have hv0' : ((k : Int) == 0) = true := by rw [beq_iff_eq]; omega
              have z1 : ¬ 9223372036854775807 < s2.size + 1 := by omega
              have HE := Lib.hid (show s2 ++ ({ data := #[49] } : ByteArray) = sB (tJ (X.take (i + 1))) by
                rw [HJ.out, HS2.out, List.eq_nil_of_length_eq_zero (hvn.trans hv0), hv0, show base ++ tW [] 0 = base from List.append_nil _]
                exact sB_app base [49])
              go_wp2
              go_roundw
              case rel => exact ⟨i + 1, _, by omega, by first | go_num | (simp; omega), rfl, HE.out, HB5.out⟩
              case measure => simp [intOf]; omega
            · have hv0' : ((k : Int) == 0) = false := by rw [beq_eq_false_iff_ne]; omega
              have HE := Lib.hid (show s2 = sB (tJ (X.take (i + 1))) by
                rw [HJ.out, HS2.out, tW_end x k (by omega) (fun e => by rw [e] at hvn; simp at hvn; omega)])
              go_wp2
              go_roundw
              case rel => exact ⟨i + 1, _, by omega, by first | go_num | (simp; omega), rfl, HE.out, HB5.out⟩
              case measure => simp [intOf]; omega)
    · obtain rfl : i = n := by omega
      have e1 : X.take i = X := List.take_of_length_le (by omega)
      rw [e1] at HS
      by_cases h0 : X = []
      · subst h0
        have e2 : s = { data := #[] } := HS.out
        subst e2
        go_wp2
        go_ret
        exact ⟨rfl, HB.out⟩
      · have HF := Lib.hid (show tJ X = txtSum X by unfold txtSum; rw [if_neg h0]; rfl)
        have hp : 0 < s.size := by rw [HS.out, sB_size]; exact tJ_pos X h0
        have hne : s.toList.isEmpty = false := by
          rw [ByteArray.toList_eq]
          cases hd : s.data.toList with
          | nil =>
            have : s.size = 0 := by
              rw [show s.size = s.data.toList.length from (Array.length_toList).symm, hd]; rfl
            omega
          | cons a t => rfl
        go_wp2
        go_ret
        exact ⟨by rw [HS.out, HF.out]; rfl, HB.out⟩

theorem spec_SquaresText {A n c vs xss w} (h : RS w A n vs xss) (hn : n + tot xss ≤ 1048576) :
    Calls Tryd.prog 11 #[.agg #[.slice A n c]] w fun e w' => e = .returned (.tuple #[.string (sB (pSquaresText xss).1), .int .i64 (pSquaresText xss).2]) ∧ Below w.heap.size w w' := by
  have hb0 := box_below w (.cells #[.slice A n c] 24)
  have hbk := Blk.new w #[.slice A n c] 24
  have CON := Lib.hid (spec_l03Is (c := c) (h.below hb0))
  have H := Lib.hid (h.below hb0)
  have HBK := Lib.hid hbk
  have HB0 := Lib.hid hb0
  have c0 := hbk.cell 0 rfl
  clear h hb0 hbk
  cases hp : pIsSquares xss with
  | false =>
    have HF := Lib.hid (show pSquaresText xss = ([], 1) by unfold pSquaresText; rw [hp]; rfl)
    rw [hp] at CON
    clear hp
    go_enter Tryd.func11, Tryd.ntmps11
    go_wp2_with fail
    refine CON.out.mono ?_
    rintro e w1 ⟨rfl, hb⟩
    have HB := Lib.hid (HB0.out.trans (hb.mono HB0.out.size))
    clear hb
    go_wp2
    go_ret2
    exact ⟨by first | (rw [HF.out]; rfl) | rw [HF.out], HB.out⟩
  | true =>
    have HF := Lib.hid (show pSquaresText xss = (txtSum xss, 0) by unfold pSquaresText; rw [if_pos hp])
    have HL := Lib.hid (lets_small hp)
    rw [hp] at CON
    clear hp
    go_enter Tryd.func11, Tryd.ntmps11
    go_wp2_with fail
    refine CON.out.mono ?_
    rintro e w1 ⟨rfl, hb⟩
    have HB := Lib.hid (HB0.out.trans (hb.mono HB0.out.size))
    have HBK1 := Lib.hid (HBK.out.below hb)
    have CS := Lib.hid (spec_l03Text (c := c) (H.out.below hb) HL.out hn)
    clear hb c0
    have c0 := HBK1.out.cell 0 rfl
    go_wp2_with fail
    refine CS.out.mono ?_
    rintro e w2 ⟨rfl, hb2⟩
    have HB2 := Lib.hid (HB.out.trans (hb2.mono HB.out.size))
    clear hb2
    go_wp2
    go_ret2
    exact ⟨by first | (rw [HF.out]; rfl) | rw [HF.out], HB2.out⟩

end Go.Proofs.YtijdlejngdhpjaaDoor
