/- impl: the lists that occur an odd number of times, sorted; the sum of two term lists. -/
import Derived.Test.YtpgmggkpnefaeaaOutR
namespace Go.Proofs.Ytpgmggkpnefaeaa
open Go.ChangeShapes Go.WideShapes Go.ChangeAt Go.RowKit Go.Proofs
set_option linter.unusedVariables false

/-- slices.SortFunc by slices.Compare at any length -/
theorem sort_any {B A n c} {vs : List Sl} {xss : List (List Int)} {w : World} (hn : n < 4611686018427387904) (hv : vs.length = n) (hx : xss.length = n) (ho : w.ownsRow B 51 1 (.slice A n c) n (vs.map sv)) (hr : ∀ i, i < n → RI w (vs.getD i nilS).1 (vs.getD i nilS).2.1 (xss.getD i [])) :
    Calls Try.prog 102 #[.slice A n c, .func (.func 103) #[] #[]] w fun e w' => e = .returned (.tuple #[]) ∧ ∃ p : List Nat, p.Perm (List.range n) ∧ p.Pairwise (fun i j => lessL (xss.getD j []) (xss.getD i []) = false) ∧ w'.ownsRow B 51 1 (.slice A n c) n (p.map (encI vs)) ∧ w.grownBy w' (A.map (·.block)) := by
  rcases Nat.eq_zero_or_pos n with h0 | h0
  · subst h0
    have hv' : vs = [] := List.eq_nil_of_length_eq_zero hv
    subst hv'
    have hcon := AnyF.slices_SortFunc_none { Try.sortL with } A c (.func (.func 103) #[] #[]) w
    change Calls Try.prog 102 _ _ _ at hcon
    refine hcon.mono ?_
    rintro e w' ⟨rfl, rfl⟩
    exact ⟨rfl, [], List.Perm.refl _, List.Pairwise.nil, ho, World.grownBy.refl _ _⟩
  · exact sort_rows h0 hn hv hx ho hr

theorem odd_len (l : List (List Int)) : (odd l).length ≤ l.length := by
  suffices ∀ n (l : List (List Int)), l.length ≤ n → (odd l).length ≤ l.length from this _ l (Nat.le_refl _)
  intro n
  induction n with
  | zero =>
    intro l hl
    have : l = [] := List.eq_nil_of_length_eq_zero (by omega)
    subst this
    rw [odd_nil]; simp
  | succ n ih =>
    intro l hl
    cases l with
    | nil => rw [odd_nil]; simp
    | cons x r =>
      rw [odd_cons]
      have h1 := ih (r.drop (runN x r)) (by simp at hl ⊢; omega)
      have h2 : (r.drop (runN x r)).length ≤ r.length := by simp
      simp only [List.length_append, List.length_cons]
      split <;> simp at * <;> omega

theorem map_range_self (xss : List (List Int)) : (List.range xss.length).map (fun i => xss.getD i []) = xss := by
  apply List.ext_getElem
  · simp
  · intro i h1 h2
    simp [List.getD, h2]

set_option maxHeartbeats 800000 in
theorem impl_sortedCopy {B A A2 n c} {vs : List Sl} {xss : List (List Int)} {w w0 : World} (h : RS w0 A n vs xss) (hb : Below w0.heap.size w0 w) (hB : w0.heap.size = B) (hn : n ≤ 8589934592) (ho : w.ownsRow B 51 1 (.slice A2 n c) n (vs.map sv)) :
    Calls Try.prog 102 #[.slice A2 n c, .func (.func 103) #[] #[]] w fun e w' => e = .returned (.tuple #[]) ∧ ∃ us S, RS w' A2 n us S ∧ S.Perm xss ∧ S.Pairwise (fun x y => lessL y x = false) ∧ Below w0.heap.size w0 w' := by
  subst hB
  have hl := h.len
  have hv := h.vlen
  refine (sort_any (xss := xss) (by omega) hv hl ho (fun i hi => (h.below hb).row hi)).mono ?_
  rintro e w' ⟨rfl, p, hp, hs, ho2, hg⟩
  have hb2 : Below w0.heap.size w0 w' := hb.grown hg hb.size (fun k hk => (ho.lt k (by rw [own_block]; exact hk)).1)
  have hpl : p.length = n := by rw [hp.length_eq]; simp
  have hpm : ∀ i, i < n → p.getD i 0 < n := fun i hi => by
    have h1 : p.getD i 0 ∈ p := by simp [List.getD, show i < p.length by omega]
    exact List.mem_range.1 (hp.mem_iff.1 h1)
  refine ⟨rfl, p.map (fun i => vs.getD i nilS), p.map (fun i => xss.getD i []), RS.of_own (B := w0.heap.size) (c := c) ?_ (by simp [hpl]) (by simp [hpl]) (fun i hi => ?_), ?_, ?_, hb2⟩
  · rw [List.map_map]; exact ho2
  · have h1 : (p.map (fun i => vs.getD i nilS)).getD i nilS = vs.getD (p.getD i 0) nilS := by simp [List.getD, show i < p.length by omega]
    have h2 : (p.map (fun i => xss.getD i [])).getD i [] = xss.getD (p.getD i 0) [] := by simp [List.getD, show i < p.length by omega]
    rw [h1, h2]
    exact (h.below hb2).row (hpm i hi)
  · have h1 := hp.map (fun i => xss.getD i [])
    rw [← hl, map_range_self] at h1
    exact h1
  · rw [List.pairwise_map]
    exact hs

set_option maxHeartbeats 1600000 in
theorem impl_oddOnes {A n c vs xss w} (h : RS w A n vs xss) (hn : n ≤ 8589934592) (hrl : ∀ x ∈ xss, x.length ≤ 1048576) :
    Calls Try.prog 110 #[.slice A n c] w fun e w' => ∃ G m d us S, e = .returned (.slice G m d) ∧ OwnS w' w.heap.size G m d us (odd S) ∧ S.Perm xss ∧ S.Pairwise (fun x y => lessL y x = false) ∧ Below w.heap.size w w' := by
  have CC := Lib.hid (impl_copyS (c := c) h hn)
  have HP := Lib.hid (fun (A1 : Option Addr) (c1 : Nat) (w1 : World) (hb : Below w.heap.size w w1) (ho : w1.ownsRow w.heap.size 51 1 (.slice A1 n c1) n (vs.map sv)) => impl_sortedCopy h hb rfl hn ho)
  have HRL := Lib.hid hrl
  clear h hrl
  go_enter Try.func110, Try.ntmps110
  go_wp2_with (first | (go_at_call 137; refine CC.out.mono ?_; rintro e w1 ⟨A1, c1, rfl, ho1, hb1⟩; have HO1 := Lib.hid ho1; have HB1 := Lib.hid hb1; clear ho1 hb1) | (go_at_call 102; refine (HP.out A1 c1 w1 HB1.out HO1.out).mono ?_; rintro e w2 ⟨rfl, us, S, hr2, hp2, hs2, hb2⟩; have HR2 := Lib.hid hr2; have HPS := Lib.hid (And.intro hp2 hs2); have HB2 := Lib.hid hb2; clear hr2 hp2 hs2 hb2))
  clear CC HP HO1 HB1
  have HSL := Lib.hid HR2.out.len
  have HSR := Lib.hid (show ∀ x ∈ S, x.length ≤ 1048576 from fun x hx => HRL.out x (HPS.out.1.mem_iff.1 hx))
  have HE := Lib.hid (emptyS_own w2)
  have HBE := Lib.hid (box_below2 w2 (.cells #[] 51))
  have HOL := Lib.hid (odd_len S)
  clear HRL
  go_loopw [4, 5] (fun v iv wr => ∃ (i : Nat) (A5 : Option Addr) (n5 c5 : Nat) (vs5 : List Sl) (acc : List (List Int)), i ≤ n ∧ iv = .int .i64 (i : Int) ∧ v = .slice A5 n5 c5 ∧ OwnS wr w2.heap.size A5 n5 c5 vs5 acc ∧ acc ++ odd (S.drop i) = odd S ∧ Below w2.heap.size w2 wr) (fun _ iv _ => n - (intOf iv).toNat)
  case atStart => exact ⟨0, _, _, _, [], [], by omega, rfl, rfl, HE.out, rfl, HBE.out⟩
  case round =>
    obtain ⟨wo, rfl⟩ : ∃ wo, wo = wr := ⟨wr, rfl⟩
    obtain ⟨i, A5, n5, c5, vs5, acc, hi, rfl, rfl, ho, ht, hb⟩ := hrel
    clear HE HBE
    have HO := Lib.hid ho
    have HT := Lib.hid ht
    have HB := Lib.hid hb
    clear ho ht hb
    have hn5 : n5 ≤ 1099511627776 := by
      have h1 := congrArg List.length HT.out
      have h2 := HOL.out
      have h3 := HO.out.len
      have h4 := HSL.out
      simp only [List.length_append] at h1
      omega
    by_cases hin : i < n
    · have hin' : (i : Int) < (n : Int) := by omega
      go_wp2
      go_loopw [6] (fun kv wr => ∃ k : Nat, i ≤ k ∧ k ≤ n ∧ kv = .int .i64 (k : Int) ∧ (∀ j, i ≤ j → j < k → S.getD j [] = S.getD i []) ∧ ∃ q, wr = wo.drewN q) (fun kv _ => n - (intOf kv).toNat)
      case atStart => exact ⟨i, by omega, by omega, rfl, fun j h1 h2 => by omega, 0, rfl⟩
      case round =>
        obtain ⟨k, hik, hk, rfl, hall, q, rfl⟩ := hrel
        have HA := Lib.hid hall
        have HBq := Lib.hid (show Below w2.heap.size w2 (wo.drewN q) from below_drewN HB.out _)
        have HOq := Lib.hid (HO.out.below (below_drewN (Below.refl _ _) q))
        clear hall
        generalize hwr : wo.drewN q = wr
        have HW := Lib.hid (show Below wo.heap.size wo wr by rw [← hwr]; exact below_drewN (Below.refl _ _) _)
        have HQ := Lib.hid (fun m => show ∃ q, wr.drewN m = wo.drewN q by rw [← hwr]; exact ⟨_, by rw [World.drewN_drewN]⟩)
        rw [hwr] at HBq HOq
        clear hwr
        obtain ⟨p1, o1, hA1, _, hci⟩ := (HR2.out.below HBq.out).at_ hin
        obtain ⟨rfl⟩ : A1 = some ⟨p1, o1, none⟩ := hA1
        have hri := (HR2.out.below HBq.out).row hin
        have hrli := HSR.out _ (getD_memS S i (by have := HSL.out; omega))
        by_cases hkn : k < n
        · have hkn' : (k : Int) < (n : Int) := by omega
          obtain ⟨p2, o2, hA2, _, hck⟩ := (HR2.out.below HBq.out).at_ hkn
          obtain ⟨rfl, rfl⟩ : p1 = p2 ∧ o1 = o2 := by simpa using hA2
          have hrk := (HR2.out.below HBq.out).row hkn
          have HXI := Lib.hid (Eq.refl (S.getD i []))
          have HXK := Lib.hid (Eq.refl (S.getD k []))
          revert HXI HXK
          generalize hx : S.getD i [] = x
          generalize hy : S.getD k [] = y
          intro _ _
          have HXI := Lib.hid hx
          have HXK := Lib.hid hy
          rw [hx] at hri hrli
          rw [hy] at hrk
          clear hx hy
          generalize us.getD i nilS = u at *
          generalize us.getD k nilS = v at *
          obtain ⟨uA, un, uc⟩ := u
          obtain ⟨vA, vn, vc⟩ := v
          simp only at hri hrk
          simp only [sv] at hci hck
          have hul := hri.len
          have COa := Lib.hid (fun w2 (hb : Below wr.heap.size wr w2) => impl_copy uA un uc x w2 (hri.below hb) (by omega))
          have CON := Lib.hid (fun q => equal_any (c := vc) (d := uc) (w := wr.drewN q) (hrk.below (below_drewN (Below.refl _ _) q)) (hri.below (below_drewN (Below.refl _ _) q)))
          clear hri hrk hrli hul hA2
          by_cases hxy : y = x
          · rw [decide_eq_true hxy] at CON
            have HA2 := Lib.hid (show ∀ j, i ≤ j → j < k + 1 → S.getD j [] = S.getD i [] from fun j h1 h2 => by
              rcases Nat.lt_or_ge j k with h3 | h3
              · exact HA.out j h1 h3
              · obtain rfl : j = k := by omega
                rw [HXI.out, HXK.out, hxy])
            clear hxy COa
            go_wp2_with fail
            go_quiet ((go_at_call 138; exact quiet_q (CON.out _)))
            go_wp2
            go_roundw
            case rel => exact ⟨k + 1, by omega, by omega, by go_num, fun j h1 h2 => (HA2.out j h1 h2).trans (by first | rfl | exact HXI.out), HQ.out _⟩
            case measure => simp [intOf]; omega
          · rw [decide_eq_false hxy] at CON
            have HX := Lib.hid (show i < k ∧ (k = S.length ∨ S.getD k [] ≠ S.getD i []) from ⟨by
              rcases Nat.lt_or_ge i k with h3 | h3
              · exact h3
              · obtain rfl : i = k := by omega
                exact absurd (HXK.out.symm.trans HXI.out) hxy, .inr (by rw [HXI.out, HXK.out]; exact hxy)⟩)
            clear hxy
            have hex := odd_step S i k HX.out.1 (by have := HSL.out; omega) HA.out HX.out.2
            by_cases hp : (k - i) % 2 = 1
            · have hm : (((k : Int) - (i : Int)) % 2 == 1) = true := by rw [beq_iff_eq]; have := HX.out.1; omega
              rw [if_pos hp] at hex
              have HT2 := Lib.hid (show (acc ++ [x]) ++ odd (S.drop k) = odd S by rw [← HT.out, hex, HXI.out]; simp)
              have HIK := Lib.hid HX.out.1
              clear hex hp HX
              go_wp2_with fail
              go_quiet ((go_at_call 138; exact quiet_q (CON.out _)))
              go_wp2_with (first | (go_at_call 100; refine (COa.out _ (by repeat (first | exact Below.refl _ _ | refine below_drewN ?_ _))).mono ?_; rintro e W3 ⟨A4, c4, rfl, ho3, hb3⟩; have HB3 := Lib.hid ((fun (hq : Below wr.heap.size wr _) => hq.trans (hb3.mono hq.size)) (by repeat (first | exact Below.refl _ _ | refine below_drewN ?_ _))); have HO3 := Lib.hid ((fun (hq : Below wr.heap.size wr _) => OwnI.mono ho3 hq.size) (by repeat (first | exact Below.refl _ _ | refine below_drewN ?_ _))); clear ho3 hb3) | (at_builtin; refine app1S _ _ w2.heap.size wr.heap.size A5 n5 c5 vs5 acc (A4, un, c4) x W3 rfl rfl rfl rfl (HOq.out.below HB3.out) HO3.out HOq.out.inS HBq.out.size hn5 (Nat.le_trans HBq.out.size HB3.out.size) ?_; intro g5 c5' W4 ho4 hg4 hat4))
              have HO4 := Lib.hid ho4
              have HB4 := Lib.hid ((HBq.out.trans (HB3.out.mono HBq.out.size)).grown hg4 (Nat.le_trans HBq.out.size HB3.out.size) (fun k hk => (HOq.out.below HB3.out).out_ge hk))
              clear ho4 hg4 hat4
              go_wp2
              go_roundw
              case rel => exact ⟨k, _, _, _, _, _, by omega, rfl, rfl, HO4.out, HT2.out, HB4.out⟩
              case measure => simp [intOf]; have := HIK.out; omega
            · have hm : (((k : Int) - (i : Int)) % 2 == 1) = false := by rw [beq_eq_false_iff_ne]; have := HX.out.1; omega
              rw [if_neg hp] at hex
              have HT2 := Lib.hid (show acc ++ odd (S.drop k) = odd S by rw [← HT.out, hex]; simp)
              have HIK := Lib.hid HX.out.1
              clear hex hp HX
              go_wp2_with fail
              go_quiet ((go_at_call 138; exact quiet_q (CON.out _)))
              go_wp2
              go_roundw
              case rel => exact ⟨k, _, _, _, _, _, by omega, rfl, rfl, HOq.out.below (by repeat (first | exact Below.refl _ _ | refine below_drewN ?_ _)), HT2.out, HBq.out.trans (by repeat (first | exact (Below.refl _ _) | refine below_drewN ?_ _))⟩
              case measure => simp [intOf]; have := HIK.out; omega
        · obtain rfl : k = n := by omega
          have HX := Lib.hid (show i < k ∧ (k = S.length ∨ S.getD k [] ≠ S.getD i []) from ⟨hin, .inl HSL.out.symm⟩)
          generalize hx : S.getD i [] = x at hri hrli
          have HXI := Lib.hid hx
          clear hx
          generalize us.getD i nilS = u at *
          obtain ⟨uA, un, uc⟩ := u
          simp only at hri
          simp only [sv] at hci
          have hul := hri.len
          have COa := Lib.hid (fun w2 (hb : Below wr.heap.size wr w2) => impl_copy uA un uc x w2 (hri.below hb) (by omega))
          clear hri hrli hul
          have hex := odd_step S i k HX.out.1 (by have := HSL.out; omega) HA.out HX.out.2
          by_cases hp : (k - i) % 2 = 1
          · have hm : (((k : Int) - (i : Int)) % 2 == 1) = true := by rw [beq_iff_eq]; have := HX.out.1; omega
            rw [if_pos hp] at hex
            have HT2 := Lib.hid (show (acc ++ [x]) ++ odd (S.drop k) = odd S by rw [← HT.out, hex, HXI.out]; simp)
            have HIK := Lib.hid HX.out.1
            clear hex hp HX
            go_wp2_with fail
            go_quiet (fail)
            go_wp2_with (first | (go_at_call 100; refine (COa.out _ (by repeat (first | exact Below.refl _ _ | refine below_drewN ?_ _))).mono ?_; rintro e W3 ⟨A4, c4, rfl, ho3, hb3⟩; have HB3 := Lib.hid ((fun (hq : Below wr.heap.size wr _) => hq.trans (hb3.mono hq.size)) (by repeat (first | exact Below.refl _ _ | refine below_drewN ?_ _))); have HO3 := Lib.hid ((fun (hq : Below wr.heap.size wr _) => OwnI.mono ho3 hq.size) (by repeat (first | exact Below.refl _ _ | refine below_drewN ?_ _))); clear ho3 hb3) | (at_builtin; refine app1S _ _ w2.heap.size wr.heap.size A5 n5 c5 vs5 acc (A4, un, c4) x W3 rfl rfl rfl rfl (HOq.out.below HB3.out) HO3.out HOq.out.inS HBq.out.size hn5 (Nat.le_trans HBq.out.size HB3.out.size) ?_; intro g5 c5' W4 ho4 hg4 hat4))
            have HO4 := Lib.hid ho4
            have HB4 := Lib.hid ((HBq.out.trans (HB3.out.mono HBq.out.size)).grown hg4 (Nat.le_trans HBq.out.size HB3.out.size) (fun k hk => (HOq.out.below HB3.out).out_ge hk))
            clear ho4 hg4 hat4
            go_wp2
            go_roundw
            case rel => exact ⟨k, _, _, _, _, _, by omega, rfl, rfl, HO4.out, HT2.out, HB4.out⟩
            case measure => simp [intOf]; have := HIK.out; omega
          · have hm : (((k : Int) - (i : Int)) % 2 == 1) = false := by rw [beq_eq_false_iff_ne]; have := HX.out.1; omega
            rw [if_neg hp] at hex
            have HT2 := Lib.hid (show acc ++ odd (S.drop k) = odd S by rw [← HT.out, hex]; simp)
            have HIK := Lib.hid HX.out.1
            clear hex hp HX
            go_wp2_with fail
            go_quiet (fail)
            go_wp2
            go_roundw
            case rel => exact ⟨k, _, _, _, _, _, by omega, rfl, rfl, HOq.out.below (by repeat (first | exact Below.refl _ _ | refine below_drewN ?_ _)), HT2.out, HBq.out.trans (by repeat (first | exact (Below.refl _ _) | refine below_drewN ?_ _))⟩
            case measure => simp [intOf]; have := HIK.out; omega
    · obtain rfl : i = n := by omega
      have HT2 := Lib.hid (show acc = odd S by rw [← HT.out, List.drop_of_length_le (Nat.le_of_eq HSL.out), odd_nil, List.append_nil])
      go_wp2
      go_ret
      exact ⟨_, _, _, _, S, rfl, by rw [← HT2.out]; exact HO.out.mono HB2.out.size, HPS.out.1, HPS.out.2, HB2.out.trans (HB.out.mono HB2.out.size)⟩

end Go.Proofs.Ytpgmggkpnefaeaa
