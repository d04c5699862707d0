/- spec: the result of a table of Milnor's product; the tables filled; one square times a sum. -/
import Derived.Test.YtpgmggkpnefaeaaFilP
import Derived.Test.YtpgmggkpnefaeaaPut
import Derived.Test.YtpgmggkpnefaeaaGenI
namespace Go.Proofs.Ytpgmggkpnefaeaa
open Go.ChangeShapes Go.WideShapes Go.ChangeAt Go.RowKit Go.Proofs
set_option linter.unusedVariables false

set_option maxHeartbeats 1600000 in
theorem spec_l01Own2 {A n c vs xss w} (h : RS w A n vs xss) (hn : n ≤ 4294967296) (hrl : ∀ x ∈ xss, x.length ≤ 1048576) :
    Calls Try.prog 157 #[.slice A n c] w fun e w' => ∃ G d us, e = .returned (.slice G n d) ∧ OwnS w' w.heap.size G n d us xss ∧ Below w.heap.size w w' := by
  have HL := Lib.hid h.len
  have H := Lib.hid h
  have HRL := Lib.hid hrl
  have HE := Lib.hid (emptyS_own w)
  have HBE := Lib.hid (box_below2 w (.cells #[] 51))
  clear h hrl
  go_enter Try.func157, Try.ntmps157
  go_wp2
  go_loopw [3, 4] (fun v iv wr => ∃ (i : Nat) (A5 : Option Addr) (c5 : Nat) (vs5 : List Sl), i ≤ n ∧ iv = .int .i64 (i : Int) ∧ v = .slice A5 i c5 ∧ OwnS wr w.heap.size A5 i c5 vs5 (xss.take i) ∧ Below w.heap.size w wr) (fun _ iv _ => n - (intOf iv).toNat)
  case atStart => exact ⟨0, _, _, [], by omega, rfl, rfl, by simpa using HE.out, HBE.out⟩
  case round =>
    obtain ⟨i, A5, c5, vs5, hi, rfl, rfl, ho, hb⟩ := hrel
    clear HE HBE
    have HO := Lib.hid ho
    have HB := Lib.hid hb
    clear ho hb
    by_cases hin : i < n
    · have hin' : (i : Int) < (n : Int) := by omega
      obtain ⟨p1, o1, rfl, _, hc1⟩ := (H.out.below HB.out).at_ hin
      have hr1 := (H.out.below HB.out).row hin
      have hrl1 := HRL.out _ (getD_memS xss i (by have := HL.out; omega))
      have HTK := Lib.hid (take_snocS xss i (by have := HL.out; omega))
      generalize xss.getD i [] = x at *
      generalize vs.getD i nilS = u at *
      obtain ⟨uA, un, uc⟩ := u
      simp only [sv] at hc1
      simp only at hr1
      have hul := hr1.len
      have CO := Lib.hid (spec_own uA un uc x wr hr1 (by omega))
      clear hr1 hrl1 hul
      go_wp2_with (first | (go_at_call 115; refine CO.out.mono ?_; rintro e W3 ⟨A4, c4, rfl, ho3, hb3⟩; have HB3 := Lib.hid hb3; have HO3 := Lib.hid ho3; clear ho3 hb3) | (at_builtin; refine app1S _ _ w.heap.size wr.heap.size A5 i c5 vs5 _ (A4, un, c4) x W3 rfl rfl rfl rfl (HO.out.below HB3.out) HO3.out HO.out.inS HB.out.size (by omega) (Nat.le_trans HB.out.size HB3.out.size) ?_; intro g5 c5' W4 ho4 hg4 hat4))
      rw [← HTK.out] at ho4
      have HO4 := Lib.hid ho4
      have HB4 := Lib.hid ((HB.out.trans (HB3.out.mono HB.out.size)).grown hg4 (Nat.le_trans HB.out.size HB3.out.size) (fun k hk => (HO.out.below HB3.out).out_ge hk))
      clear ho4 hg4 hat4
      go_wp2
      go_roundw
      case rel => exact ⟨i + 1, _, _, _, by omega, by go_num, rfl, HO4.out, HB4.out⟩
      case measure => simp [intOf]; omega
    · obtain rfl : i = n := by omega
      have ho := HO.out
      rw [List.take_of_length_le (Nat.le_of_eq HL.out)] at ho
      have HO2 := Lib.hid ho
      clear ho
      go_wp2
      go_ret
      exact ⟨_, _, _, rfl, HO2.out, HB.out⟩

/-- what the result of a table is -/
def ResPost (w : World) (r : Int) (X S : List Int) (e : Ending) (w' : World) : Prop :=
  Below w.heap.size w w' ∧ ((resL r X S = [] ∧ e = .returned (.tuple #[.slice none 0 0, .bool false])) ∨ (resL r X S = [trimL (diaL r X S)] ∧ ∃ A n c, e = .returned (.tuple #[.slice A n c, .bool true]) ∧ OwnI w' w.heap.size A n c (trimL (diaL r X S))))

/-- a diagonal of a table of two rows, the first i rows of it -/
def dgS (top : Bool) (a b : Int) : Nat → List Int
  | 0 => []
  | 1 => if top then [a] else []
  | _ + 2 => if top then [a, b] else [b]

theorem sumW_dg (a b : Int) (h0 : 0 ≤ a) (h : a ≤ 1000) (h0' : 0 ≤ b) (h' : b ≤ 1000) : sumW 0 [a, b] = a + b ∧ sumW 0 [b] = b :=
  ⟨sumW_diag a b 0 h0 h h0' h', by rw [sumW, sumW, Int.zero_add, wrap64_id (by omega) (by omega)]⟩

theorem apart_dg (a b : Int) (h0 : 0 ≤ a) (h : a ≤ 1000) : apartB 0 [a, b] = (bits .and .i64 a b == 0) ∧ apartB 0 [b] = true := by
  refine ⟨apartB_diag a b 0 h0 h, ?_⟩
  rw [apartB, and_left_zero, if_neg (by simp)]; rfl

theorem res_all (r : Int) (X S : List Int) (n : Nat) (hS : S.length = n) (hX : X.length = n) (hz : ∀ q, q < n + 1 → (bits .and .i64 ((S ++ [0]).getD q 0) ((r :: X).getD q 0) == 0) = true) : resL r X S = [trimL (diaL r X S)] :=
  res_yes r X S (by omega) (fun q hq => hz q (by omega))

set_option maxRecDepth 100000 in
set_option maxHeartbeats 3200000 in
theorem spec_result {T c2 w nS r S X} {v0 v1 : Sl} (h : RS w T 2 [v0, v1] [0 :: S, r :: X]) (hSl : S.length = nS) (hXl : X.length = nS) (hn : nS ≤ 5) (hr : 0 ≤ r ∧ r ≤ 1000) (hS : sm S) (hX : sm X) :
    Calls Try.prog 156 #[.slice T 2 c2] w (ResPost w r X S) := by
  obtain ⟨b, off, rfl, hlt, hc⟩ := h.2.2.2.1 (by omega)
  have hc0 := hc 0 (by omega)
  have hc1 := hc 1 (by omega)
  have hr0 := h.row (i := 0) (by omega)
  have hr1 := h.row (i := 1) (by omega)
  clear h hc
  simp only [List.getD, List.getElem?_cons_zero, List.getElem?_cons_succ, Option.getD_some] at hc0 hc1 hr0 hr1
  obtain ⟨a0, m0, d0⟩ := v0
  obtain ⟨a1, m1, d1⟩ := v1
  simp only [sv, Nat.add_zero] at hc0 hc1 hr0 hr1
  obtain rfl : m0 = nS + 1 := by have := hr0.len; simp only [List.length_cons] at this; omega
  obtain rfl : m1 = nS + 1 := by have := hr1.len; simp only [List.length_cons] at this; omega
  obtain ⟨b0, o0, rfl, hlt0, hx0⟩ := hr0.2.2.2 (by omega)
  obtain ⟨b1, o1, rfl, hlt1, hx1⟩ := hr1.2.2.2 (by omega)
  clear hr0 hr1
  have HC0 := Lib.hid (fun w2 (hb : Below w.heap.size w w2) => (hb.cell (p := ⟨b, off, none⟩) hlt).trans hc0)
  have HC1 := Lib.hid (fun w2 (hb : Below w.heap.size w w2) => (hb.cell (p := ⟨b, off + 1, none⟩) hlt).trans hc1)
  have HX0 := Lib.hid (fun w2 (hb : Below w.heap.size w w2) i (hi : i < nS + 1) => (hb.cell (p := ⟨b0, o0 + i, none⟩) hlt0).trans (hx0 i hi))
  have HX1 := Lib.hid (fun w2 (hb : Below w.heap.size w w2) i (hi : i < nS + 1) => (hb.cell (p := ⟨b1, o1 + i, none⟩) hlt1).trans (hx1 i hi))
  have HG1 := Lib.hid (fun q => sm_get (l := S ++ [0]) (sm_app hS (sm_zero 1)) q)
  have HG2 := Lib.hid (fun q => sm_get (l := r :: X) (fun z hz => by
    rcases List.mem_cons.1 hz with h | h
    · rw [h]; exact hr
    · exact hX z h) q)
  have HTK := Lib.hid (fun q (hq : q < nS + 1) => diaL_take r X S (by omega) q (by omega))
  have HNO := Lib.hid (fun q (hq : q < nS + 1) => res_no r X S (by omega) q (by omega))
  have HYES := Lib.hid (res_all r X S nS hSl hXl)
  have HTOP := Lib.hid (fun q (hq : q < nS) => show (0 :: S).getD (q + 1) 0 = (S ++ [0]).getD q 0 by
    simp only [List.getD, List.getElem?_cons_succ]
    rw [List.getElem?_append_left (by omega)])
  have HEND := Lib.hid (show (S ++ [0]).getD nS 0 = (0 : Int) by
    simp only [List.getD]
    rw [List.getElem?_append_right (by omega), hSl, Nat.sub_self]; rfl)
  have HDL := Lib.hid (show (diaL r X S).length = nS + 1 by have := diaL_len r X S (by omega); omega)
  have HE := Lib.hid (empty_own w)
  have HBE := Lib.hid (box_below w (.cells #[] 2))
  clear hc1 hx0 hx1 hS hX hlt0 hlt1 hSl hXl hlt
  go_enter Try.func156, Try.ntmps156
  go_wp2
  clear hc0
  go_loopw [5, 6] (fun v kv wr => ∃ (q : Nat) (A7 : Option Addr) (c7 : Nat), q ≤ nS + 1 ∧ kv = .int .i64 ((q : Int) + 1) ∧ v = .slice A7 q c7 ∧ OwnI wr w.heap.size A7 q c7 ((diaL r X S).take q) ∧ (∀ p, p < q → (bits .and .i64 ((S ++ [0]).getD p 0) ((r :: X).getD p 0) == 0) = true) ∧ Below w.heap.size w wr) (fun _ kv _ => nS + 3 - (intOf kv).toNat)
  case atStart => exact ⟨0, _, _, by omega, rfl, rfl, HE.out, fun p hp => absurd hp (by omega), HBE.out⟩
  case round =>
    obtain ⟨wo, rfl⟩ : ∃ wo, wo = wr := ⟨wr, rfl⟩
    obtain ⟨q, A7, c7, hq, rfl, rfl, ho, hz, hb⟩ := hrel
    clear HE HBE
    have HO := Lib.hid ho
    have HZ := Lib.hid hz
    have HB := Lib.hid hb
    clear ho hz hb
    by_cases hq1 : q < nS + 1
    · have hq' : (q : Int) + 1 < 2 + ((nS : Int) + 1) - 1 := by omega
      have HE := Lib.hid (empty_own wo)
      have HBE := Lib.hid (box_below wo (.cells #[] 2))
      have hg1 := HG1.out q
      have hg2 := HG2.out q
      have HNQ := Lib.hid (HNO.out q hq1)
      have HTQ := Lib.hid (HTK.out q hq1)
      have HZ2 := Lib.hid (fun (hy : (bits .and .i64 ((S ++ [0]).getD q 0) ((r :: X).getD q 0) == 0) = true) => fun p (hp : p < q + 1) => show (bits .and .i64 ((S ++ [0]).getD p 0) ((r :: X).getD p 0) == 0) = true from (by
        rcases Nat.lt_or_ge p q with h3 | h3
        · exact HZ.out p h3
        · obtain rfl : p = q := by omega
          exact hy))
      obtain ⟨top, htop⟩ : ∃ t, t = decide (q < nS) := ⟨_, rfl⟩
      have HTP := Lib.hid htop
      have HA0 := Lib.hid (show q < nS → ∀ w2, Below w.heap.size w w2 → w2.cell? ⟨b0, o0 + (q + 1), none⟩ = some (.int .i64 ((S ++ [0]).getD q 0)) from fun hqn w2 hb => by rw [← HTOP.out q hqn]; exact HX0.out w2 hb (q + 1) (by omega))
      have HB0 := Lib.hid (show ∀ w2, Below w.heap.size w w2 → w2.cell? ⟨b1, o1 + q, none⟩ = some (.int .i64 ((r :: X).getD q 0)) from fun w2 hb => HX1.out w2 hb q hq1)
      have HAZ := Lib.hid (show ¬ q < nS → (S ++ [0]).getD q 0 = (0 : Int) from fun hqn => by
        obtain rfl : q = nS := by omega
        exact HEND.out)
      clear htop
      generalize (S ++ [0]).getD q 0 = x at *
      generalize (r :: X).getD q 0 = y at *
      have HAP := Lib.hid (show apartB 0 (dgS top x y 2) = (bits .and .i64 x y == 0) from by
        have h1 := apart_dg x y hg1.1 hg1.2
        by_cases hqn : q < nS
        · rw [HTP.out, decide_eq_true hqn]; exact h1.1
        · have h2 := HAZ.out hqn
          subst h2
          rw [HTP.out, decide_eq_false hqn, and_left_zero]; exact h1.2)
      have HSU := Lib.hid (show sumW 0 (dgS top x y 2) = x + y from by
        have h1 := sumW_dg x y hg1.1 hg1.2 hg2.1 hg2.2
        by_cases hqn : q < nS
        · rw [HTP.out, decide_eq_true hqn]; exact h1.1
        · have h2 := HAZ.out hqn
          subst h2
          rw [HTP.out, decide_eq_false hqn, Int.zero_add]; exact h1.2)
      go_wp2
      go_loopw [7, 8] (fun v iv wr => ∃ (i : Nat) (A8 : Option Addr) (n8 c8 : Nat), i ≤ 2 ∧ iv = .int .i64 (i : Int) ∧ v = .slice A8 n8 c8 ∧ OwnI wr wo.heap.size A8 n8 c8 (dgS top x y i) ∧ Below wo.heap.size wo wr) (fun _ iv _ => 3 - (intOf iv).toNat)
      case atStart => exact ⟨0, _, _, _, by omega, rfl, rfl, HE.out, HBE.out⟩
      case round =>
        obtain ⟨i, A8, n8, c8, hi, rfl, rfl, ho8, hb8⟩ := hrel
        clear HE HBE
        have HO8 := Lib.hid ho8
        have HB8 := Lib.hid hb8
        have HB18 := Lib.hid (HB.out.trans (hb8.mono HB.out.size))
        have hn8 := ho8.len
        clear ho8 hb8
        have c0 := HC0.out wr HB18.out
        have c1 := HC1.out wr HB18.out
        have cy := HB0.out wr HB18.out
        match i, hi, HO8 with
        | 0, hi, HO8 =>
          rw [show ((0 : Nat) : Int) = 0 from rfl]
          obtain rfl : n8 = 0 := by have := HO8.out.len; simpa [dgS] using this.symm
          by_cases hqn : q < nS
          · have cx := HA0.out hqn wr HB18.out
            have hqn' : (q : Int) + 1 < (nS : Int) + 1 := by omega
            have HT1 := Lib.hid (show dgS top x y 0 ++ [x] = dgS top x y 1 by rw [HTP.out, decide_eq_true hqn]; rfl)
            clear hn8
            go_wp2_with (at_builtin; refine app1 _ _ _ _ _ _ _ _ _ rfl rfl rfl rfl HO8.out (I64.mk (by omega) (by omega)) (by omega) HB8.out.size ?_; intro g c' w2 ho2 hg)
            rw [HT1.out] at ho2
            have HO2 := Lib.hid ho2
            have HB2 := Lib.hid (HB8.out.grown hg HB8.out.size (fun k hk => HO8.out.row_ge hk))
            clear ho2 hg
            go_wp2
            go_roundw
            case rel => exact ⟨1, _, _, _, by omega, rfl, rfl, HO2.out, HB2.out⟩
            case measure => simp [intOf]
          · have hqn' : (nS : Int) + 1 ≤ (q : Int) + 1 := by omega
            have HT1 := Lib.hid (show dgS top x y 0 = dgS top x y 1 by rw [HTP.out, decide_eq_false hqn]; rfl)
            have HO2 := Lib.hid (show OwnI wr wo.heap.size A8 0 c8 (dgS top x y 1) by rw [← HT1.out]; exact HO8.out)
            clear hn8
            go_wp2
            go_roundw
            case rel => exact ⟨1, _, _, _, by omega, rfl, rfl, HO2.out, HB8.out⟩
            case measure => simp [intOf]
        | 1, hi, HO8 =>
          rw [show ((1 : Nat) : Int) = 1 from rfl]
          have hn81 : n8 ≤ 1 := by
            have := HO8.out.len
            cases top <;> simp [dgS] at this <;> omega
          have hqn' : (q : Int) < (nS : Int) + 1 := by omega
          have HT1 := Lib.hid (show dgS top x y 1 ++ [y] = dgS top x y 2 by cases top <;> rfl)
          clear hn8
          go_wp2_with (at_builtin; refine app1 _ _ _ _ _ _ _ _ _ rfl rfl rfl rfl HO8.out (I64.mk (by omega) (by omega)) (by omega) HB8.out.size ?_; intro g c' w2 ho2 hg)
          rw [HT1.out] at ho2
          have HO2 := Lib.hid ho2
          have HB2 := Lib.hid (HB8.out.grown hg HB8.out.size (fun k hk => HO8.out.row_ge hk))
          clear ho2 hg
          go_wp2
          go_roundw
          case rel => exact ⟨2, _, _, _, by omega, rfl, rfl, HO2.out, HB2.out⟩
          case measure => simp [intOf]
        | 2, hi, HO8 =>
          rw [show ((2 : Nat) : Int) = 2 from rfl]
          have CAP := Lib.hid (spec_apart A8 n8 c8 _ wr HO8.out.reads)
          rw [HAP.out] at CAP
          have hn82 : n8 ≤ 2 := by
            have := HO8.out.len
            cases top <;> simp [dgS] at this <;> omega
          clear hn8 c0 c1 cy
          cases hxy : (bits .and .i64 x y == 0) with
          | false =>
            rw [hxy] at CAP
            have HF := Lib.hid (HNQ.out hxy)
            clear hxy
            go_wp2_with fail
            refine CAP.out.mono ?_
            rintro e w' ⟨rfl, rfl⟩
            go_wp2
            go_ret2
            exact ⟨HB18.out, .inl ⟨HF.out, rfl⟩⟩
          | true =>
            rw [hxy] at CAP
            have HZ3 := Lib.hid (HZ2.out hxy)
            clear hxy
            have HO7 := Lib.hid (HO.out.below HB8.out)
            go_wp2_with fail
            refine CAP.out.mono ?_
            rintro e w' ⟨rfl, rfl⟩
            clear CAP
            go_wp2
            go_loop [9, 10] (fun sv iv => ∃ (k : Nat) (s : Int), k ≤ n8 ∧ iv = .int .i64 (k : Int) ∧ sv = .int .i64 s ∧ sumW s ((dgS top x y 2).drop k) = sumW 0 (dgS top x y 2)) (fun _ iv => n8 - (intOf iv).toNat)
            case atStart => exact ⟨0, 0, Nat.zero_le _, rfl, rfl, by simp⟩
            case round =>
              obtain ⟨k, s, hk, rfl, rfl, ht⟩ := hrel
              by_cases hlt : k < n8
              · obtain ⟨b8, o8, rfl, _, hcell⟩ := HO8.out.reads.at_ hlt
                have hl := HO8.out.len
                have hdr := dropc (dgS top x y 2) k (by omega)
                generalize (dgS top x y 2).getD k 0 = z at *
                rw [hdr, sumW] at ht
                have HT := Lib.hid ht
                clear hl hdr ht
                go_wp2
                go_round
                case rel => exact ⟨k + 1, _, by omega, by go_num, rfl, HT.out⟩
                case measure => simp [intOf]; omega
              · obtain rfl : k = n8 := by omega
                have hl := HO8.out.len
                rw [List.drop_of_length_le (by omega), sumW, HSU.out] at ht
                subst ht
                clear hl
                go_wp2_with (at_builtin; refine app1 _ _ _ _ _ _ _ _ _ rfl rfl rfl rfl HO7.out (I64.mk (by omega) (by omega)) (by omega) HB18.out.size ?_; intro g c' w2 ho2 hg)
                rw [← HTQ.out] at ho2
                have HO2 := Lib.hid ho2
                have HB2 := Lib.hid (HB18.out.grown hg HB18.out.size (fun k hk => HO7.out.row_ge hk))
                clear ho2 hg
                go_wp2
                go_roundw
                case rel => exact ⟨q + 1, _, _, by omega, by go_num, rfl, HO2.out, HZ3.out, HB2.out⟩
                case measure => simp [intOf]; omega
    · obtain rfl : q = nS + 1 := by omega
      have hq' : 2 + ((nS : Int) + 1) - 1 ≤ ((nS + 1 : Nat) : Int) + 1 := by omega
      have ho := HO.out
      rw [List.take_of_length_le (Nat.le_of_eq HDL.out)] at ho
      have HO2 := Lib.hid ho
      have HR := Lib.hid (HYES.out (fun p hp => HZ.out p hp))
      have HTL := Lib.hid HDL.out
      have HTI := Lib.hid (show trimL (diaL r X S) = (diaL r X S).take (tlen (diaL r X S) (nS + 1)) by unfold trimL; rw [HDL.out])
      generalize hL : diaL r X S = L at *
      have HLD := Lib.hid hL
      clear hL
      have hcap := ho.cap_ge
      clear ho HO
      go_wp2
      go_loop [5] (fun v => ∃ k : Nat, k ≤ nS + 1 ∧ v = .slice A7 k c7 ∧ tlen L k = tlen L (nS + 1)) (fun v => match v with | .slice _ k _ => k | _ => 0)
      case atStart => exact ⟨nS + 1, Nat.le_refl _, rfl, rfl⟩
      case round =>
        obtain ⟨k, hk, rfl, ht⟩ := hrel
        cases k with
        | zero =>
          rw [tlen] at ht
          have HT := Lib.hid (show OwnI wo w.heap.size A7 0 c7 (trimL L) by rw [HTI.out, ← ht]; exact HO2.out.take (Nat.zero_le _))
          clear ht
          go_wp2
          go_ret2
          exact ⟨HB.out, .inr (by rw [HLD.out]; exact ⟨HR.out, _, _, _, rfl, HT.out⟩)⟩
        | succ k =>
          obtain ⟨b9, o9, rfl, _, hcell⟩ := HO2.out.reads.at_ (i := k) (by omega)
          have e1 : ((k + 1 : Nat) : Int) - 1 = (k : Int) := by omega
          have b1 : (0 : Int) < ((k + 1 : Nat) : Int) := by omega
          rw [tlen] at ht
          by_cases hz : L.getD k 0 = 0
          · rw [if_pos hz] at ht
            rw [hz] at hcell
            have HT := Lib.hid ht
            clear ht hz
            go_wp2
            go_round
            case rel => exact ⟨k, by omega, rfl, HT.out⟩
            case measure => simp
          · rw [if_neg hz] at ht
            generalize hzz : L.getD k 0 = z at *
            have hz' : (z == 0) = false := by simpa using hz
            have HT := Lib.hid (show OwnI wo w.heap.size (some ⟨b9, o9, none⟩) (k + 1) c7 (trimL L) by rw [HTI.out, ← ht]; exact HO2.out.take (by omega))
            clear ht hz hzz
            go_wp2
            go_ret2
            exact ⟨HB.out, .inr (by rw [HLD.out]; exact ⟨HR.out, _, _, _, rfl, HT.out⟩)⟩

end Go.Proofs.Ytpgmggkpnefaeaa
