/- spec: the generator form; GeneratorForm on both sides. -/
import Derived.Test.YtpgmggkpnefaeaaGenS
import Derived.Test.YtpgmggkpnefaeaaBin
namespace Go.Proofs.Ytpgmggkpnefaeaa
open Go.ChangeShapes Go.WideShapes Go.ChangeAt Go.RowKit Go.Proofs
set_option linter.unusedVariables false

/-- the generator form before equal terms are struck, relation's numbers below j -/
def genAcs (f n j : Nat) : LL := prods (gen f (n - tb n)) [[(tb n : Int)]] ++ (selJ (n - tb n) (tb n) j).flatMap fun j => prods (gen f (n - j)) (gen f j)

theorem genAcs_len (f n i : Nat) (hf : f ≤ 21) (h1 : 1 ≤ n) (hn : n ≤ 20) (ht : n ≠ tb n) (hi : i ≤ (n - tb n) / 2 + 1) : (norm (genAcs f n i)).length ≤ 100000 ∧ ∀ x ∈ norm (genAcs f n i), x.length ≤ 1048576 := by
  have htb := tb_fact n h1 hn
  have hg1 := gen_small f (n - tb n) hf (by omega) (by omega)
  have key : ∀ j ∈ selJ (n - tb n) (tb n) i, (prods (gen f (n - j)) (gen f j)).length ≤ 1600 ∧ ∀ x ∈ prods (gen f (n - j)) (gen f j), x.length ≤ 1048576 := fun j hj => by
    obtain ⟨h5, h4, _⟩ := selJ_mem hj
    have ga := gen_len f (n - j) hf (by omega)
    have gb := gen_len f j hf (by omega)
    refine ⟨?_, fun x hx => ?_⟩
    · rw [prods_len]
      exact Nat.mul_le_mul ga gb
    · have := prods_row (fun x hx => gen_row f (n - j) (by omega) (by omega) x hx) (fun x hx => gen_row f j h5 (by omega) x hx) x hx
      omega
  refine ⟨Nat.le_trans (norm_len _) ?_, fun x hx => ?_⟩
  · unfold genAcs
    rw [List.length_append, prods_len, List.length_singleton, Nat.mul_one]
    have h6 := flatN_len (fun j => prods (gen f (n - j)) (gen f j)) 1600 _ (fun j hj => (key j hj).1)
    have h7 : (selJ (n - tb n) (tb n) i).length ≤ 11 := by
      have h1 := List.length_filter_le (fun j : Nat => decide (0 < j)) (relL (n - tb n) (tb n) i)
      have h2 := relL_len (n - tb n) (tb n) i
      unfold selJ
      omega
    have h9 := Nat.mul_le_mul_right 1600 h7
    have := hg1.1
    omega
  · rcases List.mem_append.1 (norm_sub hx) with hx | hx
    · have := prods_row (fun x hx => gen_row f (n - tb n) (by omega) (by omega) x hx) (m := 1) (fun x hx => by rw [List.mem_singleton.1 hx]; simp) x hx
      omega
    · obtain ⟨j, hj, hx⟩ := List.mem_flatMap.1 hx
      exact (key j hj).2 x hx

theorem genAcs_yes (f n j : Nat) (h : parB (tb n) (n - tb n) j = true) (h0 : 0 < j) : norm (genAcs f n (j + 1)) = mrg (norm (genAcs f n j)) (norm (prods (gen f (n - j)) (gen f j))) := by
  rw [mrg_norm]
  unfold genAcs
  rw [selJ_yes _ _ _ h h0, List.flatMap_append, List.append_assoc]
  simp

theorem genAcs_no (f n j : Nat) (h : parB (tb n) (n - tb n) j = false) : genAcs f n (j + 1) = genAcs f n j := by
  unfold genAcs
  rw [selJ_no _ _ _ h]

theorem genAcs_one (f n : Nat) : genAcs f n 1 = prods (gen f (n - tb n)) [[(tb n : Int)]] := by
  unfold genAcs
  rw [selJ_one]; simp

set_option maxRecDepth 100000 in
set_option maxHeartbeats 3200000 in
theorem spec_l03Generators (f : Nat) : ∀ (n : Nat) (w : World), f ≤ 21 → 1 ≤ n → n ≤ 20 → n ≤ f →
    Calls Try.prog 89 #[.int .i64 (n : Int)] w fun e w' => ∃ G k d us, e = .returned (.slice G k d) ∧ OwnS w' w.heap.size G k d us (gen f n) ∧ Below w.heap.size w w' := by
  induction f with
  | zero => intro n w _ _ _ _; omega
  | succ f ih =>
    intro n w hf h1 hn hnf
    have htb := tb_fact n h1 hn
    have IH := Lib.hid (fun (k : Nat) (w2 : World) (h1 : 1 ≤ k) (h2 : k < n) => ih k w2 (by omega) h1 (by omega) (by omega))
    clear ih
    go_enter Try.func89, Try.ntmps89
    go_wp2
    go_loopw [3] (fun iv wr => ∃ (b g : Nat), iv = .int .i64 (b : Int) ∧ 1 ≤ b ∧ b ≤ n ∧ tbF g b n = tb n ∧ n < b * 2 ^ g ∧ Below w.heap.size w wr) (fun iv _ => n - (intOf iv).toNat)
    case atStart => exact ⟨1, 6, rfl, by omega, by omega, rfl, by omega, Below.refl _ _⟩
    case round =>
      obtain ⟨b, g, rfl, hb1, hbn, htg, hpg, hbw⟩ := hrel
      have HB := Lib.hid hbw
      clear hbw
      have hw1 : IntKind.i64.wrap (2 * (b : Int)) = 2 * (b : Int) := IntWalk.i64_in _ (by omega)
      by_cases h2 : 2 * b ≤ n
      · have h2' : 2 * (b : Int) ≤ (n : Int) := by omega
        obtain ⟨g', rfl, e1, e2⟩ := tbF_more g b n h2 hpg
        have HT := Lib.hid (And.intro (e1.symm.trans htg) e2)
        clear e1 e2 htg hpg IH htb
        go_wp2
        go_roundw
        case rel => exact ⟨2 * b, g', by go_num, by omega, by omega, HT.out.1, HT.out.2, HB.out⟩
        case measure => simp [intOf]; omega
      · have h2' : (n : Int) < 2 * (b : Int) := by omega
        rw [tbF_end g b n h2] at htg
        clear hpg
        subst htg
        by_cases hnb : n = tb n
        · have hsub : IntKind.i64.wrap ((n : Int) - ((tb n : Nat) : Int)) = 0 := by rw [IntKind.wrap_i64]; omega
          have HG := Lib.hid (gen_one f n hnb)
          have HO := Lib.hid (lit2 wr (n : Int) (I64.mk (by omega) (by omega)))
          have HB2 := Lib.hid (lit2_below wr (.cells #[.int .i64 (n : Int)] 2) (.cells #[.slice (some ⟨wr.heap.size, 0, none⟩) 1 1] 51))
          clear hnb
          go_wp2
          go_ret
          exact ⟨_, _, _, _, rfl, by rw [HG.out]; exact HO.out.mono HB.out.size, HB.out.trans (HB2.out.mono HB.out.size)⟩
        · have HACC := Lib.hid (fun i => genAcs_len f n i (by omega) h1 hn hnb)
          have HGA := Lib.hid (show gen (f + 1) n = norm (genAcs f n ((n - tb n) / 2 + 1)) from gen_more f n hnb)
          have HYES := Lib.hid (fun j => genAcs_yes f n j)
          have HNO := Lib.hid (fun j => genAcs_no f n j)
          have hsub : IntKind.i64.wrap ((n : Int) - ((tb n : Nat) : Int)) = ((n - tb n : Nat) : Int) := by rw [IntKind.wrap_i64]; omega
          have hlt : 1 ≤ n - tb n ∧ n - tb n < n ∧ tb n ≤ 20 := by omega
          have hnz : (((n - tb n : Nat) : Int) == 0) = false := by rw [beq_eq_false_iff_ne]; omega
          have HGL := Lib.hid (gen_len f (n - tb n) (by omega) (by omega))
          have HGR := Lib.hid (fun x hx => Nat.le_trans (gen_row f (n - tb n) (by omega) (by omega) x hx) (show n - tb n ≤ 4096 by omega))
          have HG0 := Lib.hid (genAcs_one f n)
          have htl : tb n ≤ 20 := by omega
          have htl2 : n - tb n < tb n := by omega
          generalize tb n = t at *
          generalize ha : n - t = a at *
          clear hnb
          go_wp2_with fail
          refine (IH.out a wr hlt.1 hlt.2.1).mono ?_
          rintro e w1 ⟨G1, k1, d1, us1, rfl, ho1, hb1⟩
          have HO1 := Lib.hid ho1
          have HB1 := Lib.hid hb1
          have HW1 := Lib.hid (HB.out.trans (hb1.mono HB.out.size))
          clear ho1 hb1
          have HL := Lib.hid (lit2 w1 (t : Int) (I64.mk (by omega) (by omega)))
          have HBL := Lib.hid (lit2_below w1 (.cells #[.int .i64 (t : Int)] 2) (.cells #[.slice (some ⟨w1.heap.size, 0, none⟩) 1 1] 51))
          have hk1 : k1 ≤ 4096 := by have := HO1.out.len; have := HGL.out; omega
          have CP := Lib.hid (spec_l03Join (c := d1) (c2 := 1) (HO1.out.reads.below HBL.out) HL.out.reads hk1 (by omega) HGR.out (fun x hx => by rw [List.mem_singleton.1 hx]; simp))
          go_wp2_with fail
          refine CP.out.mono ?_
          rintro e w2 ⟨G2, k2, d2, us2, rfl, ho2, hb2⟩
          rw [← HG0.out] at ho2
          have HB12 := Lib.hid (HBL.out.trans (hb2.mono HBL.out.size))
          have HO2 := Lib.hid (ho2.mono (Nat.le_trans HW1.out.size HBL.out.size))
          have HW2 := Lib.hid (HW1.out.trans (HB12.out.mono HW1.out.size))
          clear ho2 hb2 HL HBL HB12 CP HO1 HB1 HW1 HG0
          go_wp2
          go_loopw [5, 6] (fun v jv wr => ∃ (j : Nat) (A5 : Option Addr) (n5 c5 : Nat) (vs5 : List Sl), 1 ≤ j ∧ j ≤ a / 2 + 1 ∧ jv = .int .i64 (j : Int) ∧ v = .slice A5 n5 c5 ∧ OwnS wr w.heap.size A5 n5 c5 vs5 (norm (genAcs f n j)) ∧ Below w.heap.size w wr) (fun _ jv _ => a + 1 - (intOf jv).toNat)
          case atStart => exact ⟨1, _, _, _, _, by omega, by omega, rfl, rfl, HO2.out, HW2.out⟩
          case round =>
            obtain ⟨wo, rfl⟩ : ∃ wo, wo = wr := ⟨wr, rfl⟩
            obtain ⟨j, A5, n5, c5, vs5, hj1, hj, rfl, rfl, ho5, hb5⟩ := hrel
            clear HO2 HW2
            have HO5 := Lib.hid ho5
            have HB5 := Lib.hid hb5
            clear ho5 hb5
            have hw5 : IntKind.i64.wrap (2 * (j : Int)) = 2 * (j : Int) := IntWalk.i64_in _ (by omega)
            by_cases hja : 2 * j ≤ a
            · have hja' : 2 * (j : Int) ≤ (a : Int) := by omega
              have hw2 : IntKind.i64.wrap ((t : Int) - (j : Int)) = (t : Int) - (j : Int) := IntWalk.i64_in _ (by omega)
              have hw3 : IntKind.i64.wrap ((t : Int) - (j : Int) - 1) = (t : Int) - (j : Int) - 1 := IntWalk.i64_in _ (by omega)
              have hw4 : IntKind.i64.wrap ((a : Int) - 2 * (j : Int)) = (a : Int) - 2 * (j : Int) := IntWalk.i64_in _ (by omega)
              have hpb : (bits .and .i64 ((t : Int) - (j : Int) - 1) ((a : Int) - 2 * (j : Int)) == (a : Int) - 2 * (j : Int)) = parB t a j := rfl
              have hi1 : inB ((t : Int) - (j : Int) - 1) 0 1000000000000 = true := decide_eq_true ⟨by omega, by omega⟩
              have hi2 : inB ((a : Int) - 2 * (j : Int)) 0 1000000000000 = true := decide_eq_true ⟨by omega, by omega⟩
              cases hp : parB t a j with
              | true =>
                rw [hp] at hpb
                have HN2 := Lib.hid (HYES.out j hp (by omega))
                have PY := Lib.hid (fun w2 => l01Parity_yes _ _ w2 hi1 hi2 hpb)
                have hsub2 : IntKind.i64.wrap ((n : Int) - (j : Int)) = ((n - j : Nat) : Int) := by rw [IntKind.wrap_i64]; omega
                have HGa := Lib.hid (And.intro (gen_len f (n - j) (by omega) (by omega)) (fun x hx => Nat.le_trans (gen_row f (n - j) (by omega) (by omega) x hx) (show n - j ≤ 4096 by omega)))
                have HGb := Lib.hid (And.intro (gen_len f j (by omega) (by omega)) (fun x hx => Nat.le_trans (gen_row f j (by omega) (by omega) x hx) (show j ≤ 4096 by omega)))
                have HSA := Lib.hid (HACC.out j hj)
                have hn5 : n5 ≤ 100000 := by have := HO5.out.len; have := HSA.out.1; omega
                clear hp hpb HYES HNO
                go_wp2_with fail
                refine (PY.out _).mono ?_
                rintro e w5 ⟨rfl, rfl⟩
                go_wp2_with fail
                refine (IH.out (n - j) _ (by omega) (by omega)).mono ?_
                rintro e w6 ⟨G6, k6, d6, us6, rfl, ho6, hb6⟩
                have HO6 := Lib.hid ho6
                have HB6 := Lib.hid hb6
                clear ho6 hb6
                go_wp2_with fail
                refine (IH.out j w6 (by omega) (by omega)).mono ?_
                rintro e w7 ⟨G7, k7, d7, us7, rfl, ho7, hb7⟩
                have HO7 := Lib.hid ho7
                have HO67 := Lib.hid (HO6.out.below hb7)
                have HB7 := Lib.hid (HB6.out.trans (hb7.mono HB6.out.size))
                clear ho7 hb7 HO6 HB6
                have CP := Lib.hid (spec_l03Join (c := d6) (c2 := d7) HO67.out.reads HO7.out.reads (by have := HO67.out.len; have := HGa.out.1; omega) (by have := HO7.out.len; have := HGb.out.1; omega) HGa.out.2 HGb.out.2)
                have HPL := Lib.hid (show (norm (prods (gen f (n - j)) (gen f j))).length ≤ 1600 from Nat.le_trans (norm_len _) (by rw [prods_len]; exact Nat.mul_le_mul HGa.out.1 HGb.out.1))
                have HPR := Lib.hid (show ∀ x ∈ norm (prods (gen f (n - j)) (gen f j)), x.length ≤ 1048576 from fun x hx => by have := prods_row HGa.out.2 HGb.out.2 x (norm_sub hx); omega)
                go_wp2_with fail
                refine CP.out.mono ?_
                rintro e w8 ⟨G8, k8, d8, us8, rfl, ho8, hb8⟩
                have HO8 := Lib.hid ho8
                have HB8 := Lib.hid (HB7.out.trans (hb8.mono HB7.out.size))
                clear ho8 hb8 CP HO7 HO67
                have hk8 : k8 ≤ 1600 := by have := HO8.out.len; have := HPL.out; omega
                have CS := Lib.hid (spec_l01Sum (c := c5) (c' := d8) (HO5.out.below HB8.out).reads HO8.out.reads (by omega) (by omega) HSA.out.2 HPR.out)
                go_wp2_with fail
                refine CS.out.mono ?_
                rintro e w9 ⟨A9, n9, c9, vs9, rfl, ho9, hb9⟩
                have HO9 := Lib.hid (show OwnS w9 w.heap.size A9 n9 c9 vs9 (norm (genAcs f n (j + 1))) by rw [HN2.out]; exact ho9.mono (Nat.le_trans HB5.out.size HB8.out.size))
                have HB9 := Lib.hid (HB5.out.trans ((HB8.out.trans (hb9.mono HB8.out.size)).mono HB5.out.size))
                clear ho9 hb9
                go_wp2
                go_roundw
                case rel => exact ⟨j + 1, _, _, _, _, by omega, by omega, by go_num, rfl, HO9.out, HB9.out⟩
                case measure => simp [intOf]; omega
              | false =>
                rw [hp] at hpb
                have HN2 := Lib.hid (HNO.out j hp)
                have PY := Lib.hid (fun w2 => l01Parity_no ((t : Int) - (j : Int) - 1) ((a : Int) - 2 * (j : Int)) w2 hi2 hpb)
                have HO9 := Lib.hid (show OwnS wo w.heap.size A5 n5 c5 vs5 (norm (genAcs f n (j + 1))) by rw [HN2.out]; exact HO5.out)
                clear hp hpb HYES HNO
                go_wp2_with fail
                refine (PY.out _).mono ?_
                rintro e w5 ⟨rfl, rfl⟩
                go_wp2
                go_roundw
                case rel => exact ⟨j + 1, _, _, _, _, by omega, by omega, by go_num, rfl, HO9.out, HB5.out⟩
                case measure => simp [intOf]; omega
            · have hja' : (a : Int) < 2 * (j : Int) := by omega
              obtain rfl : j = a / 2 + 1 := by omega
              have HO6 := Lib.hid (show OwnS wo w.heap.size A5 n5 c5 vs5 (gen (f + 1) n) by rw [HGA.out]; exact HO5.out)
              go_wp2
              go_ret
              exact ⟨_, _, _, _, rfl, HO6.out, HB5.out⟩

theorem tot_rowsG (L : Nat) (l : List (List Int)) (h : ∀ r ∈ l, r.length ≤ L) : tot l ≤ L * l.length := by
  induction l with
  | nil => simp [tot]
  | cons x l ih =>
    have h1 := ih (fun r hr => h r (List.mem_cons_of_mem _ hr))
    have h2 := h x List.mem_cons_self
    rw [tot, List.length_cons, Nat.mul_succ]
    omega

theorem pGeneratorForm_sz (n : Int) : tot (pGeneratorForm n).1 ≤ 4000000000 := by
  unfold pGeneratorForm
  split
  · rename_i h
    have hb := inB_true h
    show tot (gen 21 n.toNat) ≤ 4000000000
    have h1 := tot_rowsG 20 (gen 21 n.toNat) (fun r hr => by have := gen_row 21 n.toNat (by omega) (by omega) r hr; omega)
    have h2 := gen_len 21 n.toNat (by omega) (by omega)
    have h3 := Nat.mul_le_mul_left 20 h2
    omega
  · simp [tot]

set_option maxRecDepth 100000 in
set_option maxHeartbeats 1600000 in
theorem impl_GeneratorForm {n : Int} {w : World} (hi : I64 n) :
    Calls Try.prog 52 #[.int .i64 n] w fun e w' => ∃ G m d vs', e = .returned (.tuple #[.agg #[.slice G m d], .int .i64 (pGeneratorForm n).2]) ∧ OwnS w' w.heap.size G m d vs' (pGeneratorForm n).1 ∧ Below w.heap.size w w' := by
  clear hi
  have HBX := Lib.hid (Blk.new w #[.slice none 0 0] 34)
  have HB0 := Lib.hid (box_below w (.cells #[.slice none 0 0] 34))
  cases hd : inB n 1 20 with
  | true =>
    have hb := inB_true hd
    have HD := Lib.hid hd
    obtain ⟨d, rfl⟩ := Int.eq_ofNat_of_zero_le (show 0 ≤ n by omega)
    have HF := Lib.hid (show pGeneratorForm (d : Int) = (gen 21 d, 0) by unfold pGeneratorForm; rw [if_pos hd, Int.toNat_natCast])
    have CON := Lib.hid (fun w => impl_generators 21 d w (by omega) (by omega) (by omega) (by omega))
    clear hd hb
    go_enter Try.func52, Try.ntmps52
    go_wp2_with fail
    refine (in_any _ _ _ _).mono ?_
    rintro e w1 ⟨rfl, rfl⟩
    rw [HD.out]
    generalize w.alloc (.cells #[.slice none 0 0] 34) = W0 at *
    go_wp2_with fail
    refine (CON.out _).mono ?_
    rintro e w3 ⟨G, m, dd, us3, rfl, ho, hb⟩
    have HB3 := Lib.hid (HB0.out.trans (hb.mono HB0.out.size))
    have HX3 := Lib.hid (HBX.out.below hb)
    have HO3 := Lib.hid ho
    have hbx : w.heap.size < W0.heap.size := HBX.out.lt
    clear hb ho
    have c20 := HX3.out.cell 0 rfl
    have f20 := HX3.out.free 0
    have d20 := (HX3.out.set 0 (.slice G m dd)).cell 0 rfl
    have HB9 := Lib.hid (HB3.out.setCell (p := ⟨w.heap.size, 0, none⟩) (Nat.le_refl _) (.slice G m dd))
    go_wp2
    refine bodyPost_ret (v := .tuple #[.agg #[.slice G m dd], .int .i64 0]) (by simp [results, Try.results52, go_sem, d20]) rfl ?_
    rw [HF.out]
    exact ⟨G, m, dd, us3, rfl, (HO3.out.setFar ⟨w.heap.size, 0, none⟩ _ hbx).mono HB0.out.size, HB9.out⟩
  | false =>
    have HD := Lib.hid hd
    have HF := Lib.hid (show pGeneratorForm n = ([], 2) by unfold pGeneratorForm; rw [if_neg (by rw [hd]; simp)])
    clear hd
    go_enter Try.func52, Try.ntmps52
    go_wp2_with fail
    refine (in_any _ _ _ _).mono ?_
    rintro e w1 ⟨rfl, rfl⟩
    rw [HD.out]
    generalize w.alloc (.cells #[.slice none 0 0] 34) = W0 at *
    have c20 := HBX.out.cell 0 rfl
    have f20 := HBX.out.free 0
    go_wp2
    refine bodyPost_ret (v := .tuple #[.agg #[.slice none 0 0], .int .i64 2]) (by simp [results, Try.results52, go_sem, c20]) rfl ?_
    rw [HF.out]
    exact ⟨none, 0, 0, [], rfl, OwnS.nil _ _, HB0.out.setCell (Nat.le_refl _) _⟩

set_option maxRecDepth 100000 in
set_option maxHeartbeats 1600000 in
theorem spec_GeneratorForm {n : Int} {w : World} (hi : I64 n) :
    Calls Try.prog 51 #[.int .i64 n] w fun e w' => ∃ G m d vs', e = .returned (.tuple #[.agg #[.slice G m d], .int .i64 (pGeneratorForm n).2]) ∧ OwnS w' w.heap.size G m d vs' (pGeneratorForm n).1 ∧ Below w.heap.size w w' := by
  clear hi
  have HBX := Lib.hid (Blk.new w #[.slice none 0 0] 34)
  have HB0 := Lib.hid (box_below w (.cells #[.slice none 0 0] 34))
  have FL := Lib.hid (fun G m d w3 (h : m ≤ 2000) => spec_l03Fit_lo (A := G) (n := m) (c := d) (w := w3) h)
  cases hd : inB n 1 20 with
  | true =>
    have hb := inB_true hd
    have HD := Lib.hid hd
    obtain ⟨d, rfl⟩ := Int.eq_ofNat_of_zero_le (show 0 ≤ n by omega)
    have HF := Lib.hid (show pGeneratorForm (d : Int) = (gen 21 d, 0) by unfold pGeneratorForm; rw [if_pos hd, Int.toNat_natCast])
    have CON := Lib.hid (fun w => spec_l03Generators 21 d w (by omega) (by omega) (by omega) (by omega))
    have HGL := Lib.hid (gen_len 21 d (by omega) (by omega))
    clear hd hb
    go_enter Try.func51, Try.ntmps51
    go_wp2_with fail
    refine (l01In_any _ _ _ _).mono ?_
    rintro e w1 ⟨rfl, rfl⟩
    rw [HD.out]
    generalize w.alloc (.cells #[.slice none 0 0] 34) = W0 at *
    go_wp2_with fail
    refine (CON.out _).mono ?_
    rintro e w3 ⟨G, m, dd, us3, rfl, ho, hb⟩
    have HB3 := Lib.hid (HB0.out.trans (hb.mono HB0.out.size))
    have HX3 := Lib.hid (HBX.out.below hb)
    have HO3 := Lib.hid ho
    have hm3 : m ≤ 2000 := by have := ho.len; have := HGL.out; omega
    have hbx : w.heap.size < W0.heap.size := HBX.out.lt
    clear hb ho
    go_wp2_with fail
    refine (FL.out G m dd w3 hm3).mono ?_
    rintro e w4 ⟨rfl, hb4⟩
    have HB4 := Lib.hid (HB3.out.trans (hb4.mono HB3.out.size))
    have HX4 := Lib.hid (HX3.out.below hb4)
    have HO4 := Lib.hid (HO3.out.below hb4)
    clear hb4
    have HBO := Lib.hid (Blk.new w4 #[.slice G m dd] 34)
    have hbx4 : w.heap.size < w4.heap.size := HX4.out.lt
    have hne : w.heap.size ≠ w4.heap.size := by omega
    have c20 := HX4.out.cell 0 rfl
    have f20 := HX4.out.free 0
    have HB9 := Lib.hid (HB4.out.setCell (p := ⟨w.heap.size, 0, none⟩) (Nat.le_refl _) (.slice G m dd))
    have d20 := ((HX4.out.set 0 (.slice G m dd)).alloc (.cells #[.slice G m dd] 34)).cell 0 rfl
    have b00 := HBO.out.cell 0 rfl
    go_wp2
    refine bodyPost_ret (v := .tuple #[.agg #[.slice G m dd], .int .i64 0]) (by simp [results, Try.results51, go_sem, d20]) rfl ?_
    rw [HF.out]
    exact ⟨G, m, dd, us3, rfl, ((HO4.out.setFar ⟨w.heap.size, 0, none⟩ _ hbx).alloc _).mono HB0.out.size, HB9.out.alloc HB9.out.size _⟩
  | false =>
    have HD := Lib.hid hd
    have HF := Lib.hid (show pGeneratorForm n = ([], 2) by unfold pGeneratorForm; rw [if_neg (by rw [hd]; simp)])
    clear hd
    go_enter Try.func51, Try.ntmps51
    go_wp2_with fail
    refine (l01In_any _ _ _ _).mono ?_
    rintro e w1 ⟨rfl, rfl⟩
    rw [HD.out]
    generalize w.alloc (.cells #[.slice none 0 0] 34) = W0 at *
    have c20 := HBX.out.cell 0 rfl
    have f20 := HBX.out.free 0
    go_wp2
    refine bodyPost_ret (v := .tuple #[.agg #[.slice none 0 0], .int .i64 2]) (by simp [results, Try.results51, go_sem, c20]) rfl ?_
    rw [HF.out]
    exact ⟨none, 0, 0, [], rfl, OwnS.nil _ _, HB0.out.setCell (Nat.le_refl _) _⟩

end Go.Proofs.Ytpgmggkpnefaeaa
