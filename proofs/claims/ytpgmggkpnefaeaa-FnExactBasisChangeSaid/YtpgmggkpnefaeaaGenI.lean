/- impl: all pairs of two slices of lists, joined; the numbers of Adem's relation; the generator form. -/
import Derived.Test.YtpgmggkpnefaeaaOddO
import Derived.Test.YtpgmggkpnefaeaaJoin
import Derived.Test.YtpgmggkpnefaeaaGenP
namespace Go.Proofs.Ytpgmggkpnefaeaa
open Go.ChangeShapes Go.WideShapes Go.ChangeAt Go.RowKit Go.Proofs
set_option linter.unusedVariables false

theorem prods_take (a b : LL) (i : Nat) (h : i < a.length) : prods (a.take (i + 1)) b = prods (a.take i) b ++ b.map fun y => a.getD i [] ++ y := by
  rw [List.take_succ_eq_append_getElem h]
  unfold prods
  rw [List.flatMap_append]
  simp [List.getD, h]

theorem map_take (x : List Int) (b : LL) (k : Nat) (h : k < b.length) : (b.take (k + 1)).map (fun y => x ++ y) = (b.take k).map (fun y => x ++ y) ++ [x ++ b.getD k []] := by
  rw [List.take_succ_eq_append_getElem h, List.map_append]
  simp [List.getD, h]

theorem flatN_len (g : Nat → LL) (c : Nat) (l : List Nat) (h : ∀ j ∈ l, (g j).length ≤ c) : (l.flatMap g).length ≤ l.length * c := by
  induction l with
  | nil => simp
  | cons y l ih =>
    rw [List.flatMap_cons, List.length_append, List.length_cons, Nat.succ_mul]
    have h1 := ih (fun z hz => h z (List.mem_cons_of_mem _ hz))
    have h2 := h y List.mem_cons_self
    omega

theorem getD_cast (l : List Nat) (i : Nat) : (l.map (fun j : Nat => (j : Int))).getD i 0 = ((l.getD i 0 : Nat) : Int) := by
  by_cases h : i < l.length
  · simp [List.getD, h]
  · simp [List.getD, h]

theorem lit2 (w : World) (y : Int) (hy : I64 y) : OwnS ((w.alloc (.cells #[.int .i64 y] 2)).alloc (.cells #[.slice (some ⟨w.heap.size, 0, none⟩) 1 1] 51)) w.heap.size (some ⟨w.heap.size + 1, 0, none⟩) 1 1 [(some ⟨w.heap.size, 0, none⟩, 1, 1)] [[y]] := by
  have ho := lit1S_own (w.alloc (.cells #[.int .i64 y] 2)) w.heap.size (some ⟨w.heap.size, 0, none⟩, 1, 1) [y] (lit1_own w y hy) (by simp)
  rw [show (w.alloc (.cells #[.int .i64 y] 2)).heap.size = w.heap.size + 1 by simp] at ho
  exact ho

theorem lit2_below (w : World) (o o2 : Obj) : Below w.heap.size w ((w.alloc o).alloc o2) := ((Below.refl _ _).alloc (Nat.le_refl _) _).alloc (by simp) _

set_option maxHeartbeats 1600000 in
theorem impl_products {A n c vs a A2 m c2 us b w} (h : RS w A n vs a) (g : RS w A2 m us b) (hn : n ≤ 4096) (hm : m ≤ 4096) (hra : ∀ x ∈ a, x.length ≤ 1048576) (hrb : ∀ x ∈ b, x.length ≤ 1048576) :
    Calls Try.prog 124 #[.slice A n c, .slice A2 m c2] w fun e w' => ∃ G k d us', e = .returned (.slice G k d) ∧ OwnS w' w.heap.size G k d us' (prods a b) ∧ Below w.heap.size w w' := by
  have HLA := Lib.hid h.len
  have HLB := Lib.hid g.len
  have H := Lib.hid h
  have G := Lib.hid g
  have HRA := Lib.hid hra
  have HRB := Lib.hid hrb
  have HE := Lib.hid (emptyS_own w)
  have HBE := Lib.hid (box_below2 w (.cells #[] 51))
  clear h g hra hrb
  go_enter Try.func124, Try.ntmps124
  go_wp2
  go_loopw [5, 13] (fun v iv wr => ∃ (i : Nat) (A5 : Option Addr) (n5 c5 : Nat) (vs5 : List Sl), i ≤ n ∧ iv = .int .i64 (i : Int) ∧ v = .slice A5 n5 c5 ∧ OwnS wr w.heap.size A5 n5 c5 vs5 (prods (a.take i) b) ∧ Below w.heap.size w wr) (fun _ iv _ => n - (intOf iv).toNat)
  case atStart => exact ⟨0, _, _, _, [], by omega, rfl, rfl, HE.out, HBE.out⟩
  case round =>
    obtain ⟨wo, rfl⟩ : ∃ wo, wo = wr := ⟨wr, rfl⟩
    obtain ⟨i, A5, n5, c5, vs5, hi, rfl, rfl, ho, hb⟩ := hrel
    clear HE HBE
    have HO := Lib.hid ho
    have HB := Lib.hid hb
    clear ho hb
    by_cases hin : i < n
    · have hin' : (i : Int) < (n : Int) := by omega
      obtain ⟨p1, o1, rfl, _, hc1⟩ := (H.out.below HB.out).at_ hin
      have hr1 := H.out.row hin
      have hrl1 := HRA.out _ (getD_memS a i (by have := HLA.out; omega))
      have HTK := Lib.hid (prods_take a b i (by have := HLA.out; omega))
      have HPL := Lib.hid (show (prods (a.take i) b).length ≤ 16777216 by rw [prods_len]; exact Nat.mul_le_mul (show (a.take i).length ≤ 4096 by simp; omega) (show b.length ≤ 4096 by have := HLB.out; omega))
      generalize a.getD i [] = x at *
      generalize vs.getD i nilS = u at *
      obtain ⟨uA, un, uc⟩ := u
      simp only [sv] at hc1
      simp only at hr1
      have hul := hr1.len
      have HR1 := Lib.hid hr1
      clear hr1
      go_wp2
      go_loopw [5, 19] (fun v kv wr => ∃ (k : Nat) (A6 : Option Addr) (n6 c6 : Nat) (vs6 : List Sl), k ≤ m ∧ kv = .int .i64 (k : Int) ∧ v = .slice A6 n6 c6 ∧ OwnS wr w.heap.size A6 n6 c6 vs6 (prods (a.take i) b ++ (b.take k).map fun y => x ++ y) ∧ Below w.heap.size w wr) (fun _ kv _ => m - (intOf kv).toNat)
      case atStart => exact ⟨0, _, _, _, _, by omega, rfl, rfl, by simpa using HO.out, HB.out⟩
      case round =>
        obtain ⟨k, A6, n6, c6, vs6, hk, rfl, rfl, ho6, hb6⟩ := hrel
        have HO6 := Lib.hid ho6
        have HB6 := Lib.hid hb6
        clear ho6 hb6 HO HB
        by_cases hkm : k < m
        · have hkm' : (k : Int) < (m : Int) := by omega
          have hn6 : n6 ≤ 1099511627776 := by
            have h1 := HO6.out.len
            have h2 := HPL.out
            have h3 : (b.take k).length ≤ 4096 := by simp; omega
            simp only [List.length_append, List.length_map] at h1
            omega
          obtain ⟨p2, o2, rfl, _, hc2⟩ := (G.out.below HB6.out).at_ hkm
          have hr2 := G.out.row hkm
          have hrl2 := HRB.out _ (getD_memS b k (by have := HLB.out; omega))
          have HMT := Lib.hid (map_take x b k (by have := HLB.out; omega))
          generalize b.getD k [] = y at *
          generalize us.getD k nilS = v at *
          obtain ⟨vA, vn, vc⟩ := v
          simp only [sv] at hc2
          simp only at hr2
          have hvl := hr2.len
          have CJ := Lib.hid (impl_joinedI (c := uc) (c2 := vc) (HR1.out.below HB6.out) (hr2.below HB6.out) (by omega) (by omega))
          have HO7 := Lib.hid (show ∀ z, OwnS z w.heap.size A6 n6 c6 vs6 (prods (a.take i) b ++ (b.take k).map fun y => x ++ y) → OwnS z w.heap.size A6 n6 c6 vs6 (prods (a.take i) b ++ (b.take k).map fun y => x ++ y) from fun _ h => h)
          clear hr2 hrl2
          go_wp2_with (first | (go_at_call 142; refine CJ.out.mono ?_; rintro e W3 ⟨A4, c4, rfl, ho3, hb3⟩; have HO3 := Lib.hid ho3; have HB3 := Lib.hid hb3; clear ho3 hb3) | (at_builtin; refine app1S _ _ w.heap.size wr.heap.size A6 n6 c6 vs6 _ (A4, un + vn, c4) (x ++ y) W3 rfl rfl rfl rfl (HO6.out.below HB3.out) HO3.out HO6.out.inS HB6.out.size hn6 (Nat.le_trans HB6.out.size HB3.out.size) ?_; intro g5 c5' W4 ho4 hg4 hat4))
          rw [List.append_assoc, ← HMT.out] at ho4
          have HO4 := Lib.hid ho4
          have HB4 := Lib.hid ((HB6.out.trans (HB3.out.mono HB6.out.size)).grown hg4 (Nat.le_trans HB6.out.size HB3.out.size) (fun k hk => (HO6.out.below HB3.out).out_ge hk))
          clear ho4 hg4 hat4
          go_wp2
          go_roundw
          case rel => exact ⟨k + 1, _, _, _, _, by omega, by go_num, rfl, HO4.out, HB4.out⟩
          case measure => simp [intOf]; omega
        · obtain rfl : k = m := by omega
          have ho7 := HO6.out
          rw [List.take_of_length_le (Nat.le_of_eq HLB.out), ← HTK.out] at ho7
          have HO7 := Lib.hid ho7
          clear ho7
          go_wp2
          go_roundw
          case rel => exact ⟨i + 1, _, _, _, _, by omega, by go_num, rfl, HO7.out, HB6.out⟩
          case measure => simp [intOf]; omega
    · obtain rfl : i = n := by omega
      have ho := HO.out
      rw [List.take_of_length_le (Nat.le_of_eq HLA.out)] at ho
      have HO2 := Lib.hid ho
      clear ho
      go_wp2
      go_ret
      exact ⟨_, _, _, _, rfl, HO2.out, HB.out⟩

set_option maxHeartbeats 800000 in
theorem impl_relation {a b : Nat} {w : World} (ha : a ≤ 40) (hb : b ≤ 40) :
    Calls Try.prog 125 #[.int .i64 (a : Int), .int .i64 (b : Int)] w fun e w' => ∃ G d, e = .returned (.slice G (relL a b (a / 2 + 1)).length d) ∧ OwnI w' w.heap.size G (relL a b (a / 2 + 1)).length d ((relL a b (a / 2 + 1)).map fun j : Nat => (j : Int)) ∧ Below w.heap.size w w' := by
  have HE := Lib.hid (empty_own w)
  have HBE := Lib.hid (box_below2 w (.cells #[] 2))
  go_enter Try.func125, Try.ntmps125
  go_wp2
  go_loopw [5, 6] (fun v iv wr => ∃ (j : Nat) (A5 : Option Addr) (c5 : Nat), j ≤ a / 2 + 1 ∧ iv = .int .i64 (j : Int) ∧ v = .slice A5 (relL a b j).length c5 ∧ OwnI wr w.heap.size A5 (relL a b j).length c5 ((relL a b j).map fun j : Nat => (j : Int)) ∧ Below w.heap.size w wr) (fun _ iv _ => a + 1 - (intOf iv).toNat)
  case atStart => exact ⟨0, _, _, by omega, rfl, rfl, HE.out, HBE.out⟩
  case round =>
    obtain ⟨j, A5, c5, hj, rfl, rfl, ho, hb⟩ := hrel
    clear HE HBE
    have HO := Lib.hid ho
    have HB := Lib.hid hb
    have hlj := relL_len a b j
    clear ho hb
    have hw1 : IntKind.i64.wrap (2 * (j : Int)) = 2 * (j : Int) := IntWalk.i64_in _ (by omega)
    by_cases h2 : 2 * j ≤ a
    · have h2' : 2 * (j : Int) ≤ (a : Int) := by omega
      have hw2 : IntKind.i64.wrap ((b : Int) - (j : Int)) = (b : Int) - (j : Int) := IntWalk.i64_in _ (by omega)
      have hw3 : IntKind.i64.wrap ((b : Int) - (j : Int) - 1) = (b : Int) - (j : Int) - 1 := IntWalk.i64_in _ (by omega)
      have hw4 : IntKind.i64.wrap ((a : Int) - 2 * (j : Int)) = (a : Int) - 2 * (j : Int) := IntWalk.i64_in _ (by omega)
      have hpb : (bits .and .i64 ((b : Int) - (j : Int) - 1) ((a : Int) - 2 * (j : Int)) == (a : Int) - 2 * (j : Int)) = parB b a j := rfl
      cases hp : parB b a j with
      | true =>
        rw [hp] at hpb
        have HRE := Lib.hid (relL_yes a b j hp)
        clear hp
        go_wp2_with (at_builtin; refine app1 _ _ _ _ _ _ _ _ _ rfl rfl rfl rfl HO.out (I64.mk (by omega) (by omega)) (by omega) HB.out.size ?_; intro g c' w1 ho2 hg)
        have HO2 := Lib.hid (show OwnI w1 w.heap.size (some ⟨g, 0, none⟩) (relL a b (j + 1)).length c' ((relL a b (j + 1)).map fun j : Nat => (j : Int)) by rw [HRE.out, List.map_append, List.length_append]; exact ho2)
        have HB2 := Lib.hid (HB.out.grown hg HB.out.size (fun k hk => HO.out.row_ge hk))
        have HLE := Lib.hid (show (relL a b j).length + 1 = (relL a b (j + 1)).length by rw [HRE.out, List.length_append]; rfl)
        clear ho2 hg
        go_wp2
        go_roundw
        case rel => exact ⟨j + 1, _, _, by omega, by go_num, by rw [HLE.out], HO2.out, HB2.out⟩
        case measure => simp [intOf]; omega
      | false =>
        rw [hp] at hpb
        have HRE := Lib.hid (relL_no a b j hp)
        clear hp
        have HO2 := Lib.hid (show OwnI wr w.heap.size A5 (relL a b (j + 1)).length c5 ((relL a b (j + 1)).map fun j : Nat => (j : Int)) by rw [HRE.out]; exact HO.out)
        go_wp2
        go_roundw
        case rel => exact ⟨j + 1, _, _, by omega, by go_num, by rw [HRE.out], HO2.out, HB.out⟩
        case measure => simp [intOf]; omega
    · have h2' : (a : Int) < 2 * (j : Int) := by omega
      obtain rfl : j = a / 2 + 1 := by omega
      go_wp2
      go_ret
      exact ⟨_, _, rfl, HO.out, HB.out⟩

theorem gen_small (f n : Nat) (hf : f ≤ 21) (h1 : 1 ≤ n) (hn : n ≤ 20) : (gen f n).length ≤ 40 ∧ ∀ x ∈ gen f n, x.length ≤ 1048576 :=
  ⟨gen_len f n hf hn, fun x hx => by have := gen_row f n h1 hn x hx; omega⟩

theorem prods_row {a b : LL} {k m : Nat} (ha : ∀ x ∈ a, x.length ≤ k) (hb : ∀ x ∈ b, x.length ≤ m) : ∀ z ∈ prods a b, z.length ≤ k + m := fun z hz => by
  obtain ⟨x, hx, y, hy, rfl⟩ := prods_mem hz
  have := ha x hx
  have := hb y hy
  simp; omega

/-- the generator form before equal terms are struck -/
def genAcc (f n i : Nat) : LL := prods (gen f (n - tb n)) [[(tb n : Int)]] ++ (((relL (n - tb n) (tb n) ((n - tb n) / 2 + 1)).take i).filter fun j => decide (0 < j)).flatMap fun j => prods (gen f (n - j)) (gen f j)

theorem genAcc_len (f n i : Nat) (hf : f ≤ 21) (h1 : 1 ≤ n) (hn : n ≤ 20) (ht : n ≠ tb n) : (genAcc f n i).length ≤ 100000 ∧ ∀ x ∈ genAcc f n i, x.length ≤ 1048576 := by
  have htb := tb_fact n h1 hn
  have hg1 := gen_small f (n - tb n) hf (by omega) (by omega)
  have hl := relL_len (n - tb n) (tb n) ((n - tb n) / 2 + 1)
  have key : ∀ j ∈ ((relL (n - tb n) (tb n) ((n - tb n) / 2 + 1)).take i).filter (fun j => decide (0 < j)), (prods (gen f (n - j)) (gen f j)).length ≤ 1600 ∧ ∀ x ∈ prods (gen f (n - j)) (gen f j), x.length ≤ 1048576 := fun j hj => by
    obtain ⟨h2, h3⟩ := List.mem_filter.1 hj
    have h4 := relL_mem (List.mem_of_mem_take h2)
    have h5 : 0 < j := by simpa using h3
    have ga := gen_len f (n - j) hf (by omega)
    have gb := gen_len f j hf (by omega)
    refine ⟨?_, fun x hx => ?_⟩
    · rw [prods_len]
      exact Nat.mul_le_mul ga gb
    · have := prods_row (fun x hx => gen_row f (n - j) (by omega) (by omega) x hx) (fun x hx => gen_row f j h5 (by omega) x hx) x hx
      omega
  refine ⟨?_, fun x hx => ?_⟩
  · unfold genAcc
    rw [List.length_append, prods_len, List.length_singleton, Nat.mul_one]
    have h6 := flatN_len (fun j => prods (gen f (n - j)) (gen f j)) 1600 _ (fun j hj => (key j hj).1)
    have h7 := List.length_filter_le (fun j : Nat => decide (0 < j)) ((relL (n - tb n) (tb n) ((n - tb n) / 2 + 1)).take i)
    have h8 : ((relL (n - tb n) (tb n) ((n - tb n) / 2 + 1)).take i).length ≤ 11 := by simp; omega
    have h9 := Nat.mul_le_mul_right 1600 (Nat.le_trans h7 h8)
    have := hg1.1
    omega
  · rcases List.mem_append.1 hx with hx | hx
    · have := prods_row (fun x hx => gen_row f (n - tb n) (by omega) (by omega) x hx) (m := 1) (fun x hx => by rw [List.mem_singleton.1 hx]; simp) x hx
      omega
    · obtain ⟨j, hj, hx⟩ := List.mem_flatMap.1 hx
      exact (key j hj).2 x hx

theorem genAcc_next (f n i : Nat) (h : i < (relL (n - tb n) (tb n) ((n - tb n) / 2 + 1)).length) : genAcc f n (i + 1) = if 0 < (relL (n - tb n) (tb n) ((n - tb n) / 2 + 1)).getD i 0 then genAcc f n i ++ prods (gen f (n - (relL (n - tb n) (tb n) ((n - tb n) / 2 + 1)).getD i 0)) (gen f ((relL (n - tb n) (tb n) ((n - tb n) / 2 + 1)).getD i 0)) else genAcc f n i := by
  unfold genAcc
  rw [take_sel _ _ h]
  split
  · rw [List.flatMap_append, ← List.append_assoc]; simp
  · rw [List.append_nil]

theorem gen_acc (f n : Nat) (h : n ≠ tb n) : gen (f + 1) n = norm (genAcc f n (relL (n - tb n) (tb n) ((n - tb n) / 2 + 1)).length) := by
  rw [gen_more f n h]
  unfold genAcc selJ
  rw [List.take_length]

set_option maxRecDepth 100000 in
set_option maxHeartbeats 3200000 in
theorem impl_generators (f : Nat) : ∀ (n : Nat) (w : World), f ≤ 21 → 1 ≤ n → n ≤ 20 → n ≤ f →
    Calls Try.prog 91 #[.int .i64 (n : Int)] w fun e w' => ∃ G k d us, e = .returned (.slice G k d) ∧ OwnS w' w.heap.size G k d us (gen f n) ∧ Below w.heap.size w w' := by
  induction f with
  | zero => intro n w _ _ _ _; omega
  | succ f ih =>
    intro n w hf h1 hn hnf
    have htb := tb_fact n h1 hn
    have IH := Lib.hid (fun (k : Nat) (w2 : World) (h1 : 1 ≤ k) (h2 : k < n) => ih k w2 (by omega) h1 (by omega) (by omega))
    clear ih
    go_enter Try.func91, Try.ntmps91
    go_wp2
    go_loopw [3] (fun iv wr => ∃ (b g : Nat), iv = .int .i64 (b : Int) ∧ 1 ≤ b ∧ b ≤ n ∧ tbF g b n = tb n ∧ n < b * 2 ^ g ∧ Below w.heap.size w wr) (fun iv _ => n - (intOf iv).toNat)
    case atStart => exact ⟨1, 6, rfl, by omega, by omega, rfl, by omega, Below.refl _ _⟩
    case round =>
      obtain ⟨b, g, rfl, hb1, hbn, htg, hpg, hbw⟩ := hrel
      have HB := Lib.hid hbw
      clear hbw
      have hw1 : IntKind.i64.wrap (2 * (b : Int)) = 2 * (b : Int) := IntWalk.i64_in _ (by omega)
      have hw1' : IntKind.i64.wrap ((b : Int) * 2) = (b : Int) * 2 := IntWalk.i64_in _ (by omega)
      by_cases h2 : 2 * b ≤ n
      · have h2' : 2 * (b : Int) ≤ (n : Int) := by omega
        obtain ⟨g', rfl, e1, e2⟩ := tbF_more g b n h2 hpg
        have HT := Lib.hid (And.intro (e1.symm.trans htg) e2)
        clear e1 e2 htg hpg IH htb
        go_wp2
        go_roundw
        case rel => exact ⟨2 * b, g', by go_num, by omega, by omega, HT.out.1, HT.out.2, HB.out⟩
        case measure => simp [intOf]; omega
      · have h2' : (n : Int) < 2 * (b : Int) := by omega
        rw [tbF_end g b n h2] at htg
        clear hpg
        subst htg
        by_cases hnb : n = tb n
        · have hnb' : ((n : Int) == ((tb n : Nat) : Int)) = true := by rw [beq_iff_eq]; omega
          have HG := Lib.hid (gen_one f n hnb)
          have HO := Lib.hid (lit2 wr (n : Int) (I64.mk (by omega) (by omega)))
          have HB2 := Lib.hid (lit2_below wr (.cells #[.int .i64 (n : Int)] 2) (.cells #[.slice (some ⟨wr.heap.size, 0, none⟩) 1 1] 51))
          clear hnb
          go_wp2
          go_ret
          exact ⟨_, _, _, _, rfl, by rw [HG.out]; exact HO.out.mono HB.out.size, HB.out.trans (HB2.out.mono HB.out.size)⟩
        · have hnb' : ((n : Int) == ((tb n : Nat) : Int)) = false := by rw [beq_eq_false_iff_ne]; omega
          have HACC := Lib.hid (fun i => genAcc_len f n i (by omega) h1 hn hnb)
          have HGA := Lib.hid (gen_acc f n hnb)
          have HNX := Lib.hid (fun i => genAcc_next f n i)
          have hsub : IntKind.i64.wrap ((n : Int) - ((tb n : Nat) : Int)) = ((n - tb n : Nat) : Int) := by rw [IntKind.wrap_i64]; omega
          have hlt : 1 ≤ n - tb n ∧ n - tb n < n ∧ tb n ≤ 20 := by omega
          have HGL := Lib.hid (gen_small f (n - tb n) (by omega) (by omega) (by omega))
          have HG0 := Lib.hid (show genAcc f n 0 = prods (gen f (n - tb n)) [[((tb n : Nat) : Int)]] by unfold genAcc; simp)
          have HREL := Lib.hid (fun w2 => impl_relation (a := n - tb n) (b := tb n) (w := w2) (by omega) (by omega))
          have HRM := Lib.hid (fun j (hj : j ∈ relL (n - tb n) (tb n) ((n - tb n) / 2 + 1)) => relL_mem hj)
          have hrl := relL_len (n - tb n) (tb n) ((n - tb n) / 2 + 1)
          have htl : tb n ≤ 20 := by omega
          generalize tb n = t at *
          generalize hr : relL (n - t) t ((n - t) / 2 + 1) = R at *
          clear hr hnb
          go_wp2_with fail
          refine (IH.out (n - t) wr hlt.1 hlt.2.1).mono ?_
          rintro e w1 ⟨G1, k1, d1, us1, rfl, ho1, hb1⟩
          have HO1 := Lib.hid ho1
          have HB1 := Lib.hid hb1
          have HW1 := Lib.hid (HB.out.trans (hb1.mono HB.out.size))
          clear ho1 hb1
          have HL := Lib.hid (lit2 w1 (t : Int) (I64.mk (by omega) (by omega)))
          have HBL := Lib.hid (lit2_below w1 (.cells #[.int .i64 (t : Int)] 2) (.cells #[.slice (some ⟨w1.heap.size, 0, none⟩) 1 1] 51))
          have hk1 : k1 ≤ 4096 := by have := HO1.out.len; have := HGL.out.1; omega
          have CP := Lib.hid (impl_products (c := d1) (c2 := 1) (HO1.out.reads.below HBL.out) HL.out.reads hk1 (by omega) HGL.out.2 (fun x hx => by rw [List.mem_singleton.1 hx]; simp))
          go_wp2_with fail
          refine CP.out.mono ?_
          rintro e w2 ⟨G2, k2, d2, us2, rfl, ho2, hb2⟩
          rw [← HG0.out] at ho2
          have HB12 := Lib.hid (HBL.out.trans (hb2.mono HBL.out.size))
          have HO2 := Lib.hid (ho2.mono (Nat.le_trans HW1.out.size HBL.out.size))
          have HW2 := Lib.hid (HW1.out.trans (HB12.out.mono HW1.out.size))
          clear ho2 hb2 HL HBL HB12 CP HO1 HB1 HW1 HG0
          go_wp2_with fail
          refine (HREL.out w2).mono ?_
          rintro e w3 ⟨G3, d3, rfl, ho3, hb3⟩
          have HR3 := Lib.hid (ho3.mono HW2.out.size)
          have HO3 := Lib.hid (HO2.out.below hb3)
          have HW3 := Lib.hid (HW2.out.trans (hb3.mono HW2.out.size))
          clear ho3 hb3 HO2 HW2 HREL
          go_wp2
          go_loopw [4, 33] (fun v iv wr => ∃ (i : Nat) (A5 : Option Addr) (n5 c5 : Nat) (vs5 : List Sl), i ≤ R.length ∧ iv = .int .i64 (i : Int) ∧ v = .slice A5 n5 c5 ∧ OwnS wr w.heap.size A5 n5 c5 vs5 (genAcc f n i) ∧ OwnI wr w.heap.size G3 R.length d3 (R.map fun j : Nat => (j : Int)) ∧ Below w.heap.size w wr) (fun _ iv _ => R.length - (intOf iv).toNat)
          case atStart => exact ⟨0, _, _, _, _, by omega, rfl, rfl, HO3.out, HR3.out, HW3.out⟩
          case round =>
            obtain ⟨wo, rfl⟩ : ∃ wo, wo = wr := ⟨wr, rfl⟩
            obtain ⟨i, A5, n5, c5, vs5, hi, rfl, rfl, ho5, hr5, hb5⟩ := hrel
            clear HO3 HR3 HW3
            have HO5 := Lib.hid ho5
            have HR5 := Lib.hid hr5
            have HB5 := Lib.hid hb5
            clear ho5 hr5 hb5
            by_cases hir : i < R.length
            · have hir' : (i : Int) < (R.length : Int) := by omega
              obtain ⟨p1, o1, rfl, _, hc1⟩ := HR5.out.reads.at_ hir
              have hnx := HNX.out i hir
              have hjm := HRM.out _ (show R.getD i 0 ∈ R by simp [List.getD, hir])
              rw [getD_cast] at hc1
              generalize R.getD i 0 = j at *
              by_cases hj0 : 0 < j
              · have hj0' : (0 : Int) < (j : Int) := by omega
                rw [if_pos hj0] at hnx
                have HN2 := Lib.hid hnx
                have hsub2 : IntKind.i64.wrap ((n : Int) - (j : Int)) = ((n - j : Nat) : Int) := by rw [IntKind.wrap_i64]; omega
                have HGa := Lib.hid (gen_small f (n - j) (by omega) (by omega) (by omega))
                have HGb := Lib.hid (gen_small f j (by omega) (by omega) (by omega))
                have hn5 : n5 ≤ 1000000 := by have := HO5.out.len; have := (HACC.out i).1; omega
                clear hnx HNX
                go_wp2_with fail
                refine (IH.out (n - j) _ (by omega) (by omega)).mono ?_
                rintro e w6 ⟨G6, k6, d6, us6, rfl, ho6, hb6⟩
                have HO6 := Lib.hid ho6
                have HB6 := Lib.hid hb6
                clear ho6 hb6
                go_wp2_with fail
                refine (IH.out j w6 (by omega) (by omega)).mono ?_
                rintro e w7 ⟨G7, k7, d7, us7, rfl, ho7, hb7⟩
                have HO7 := Lib.hid ho7
                have HO67 := Lib.hid (HO6.out.below hb7)
                have HB7 := Lib.hid (HB6.out.trans (hb7.mono HB6.out.size))
                clear ho7 hb7 HO6 HB6
                have CP := Lib.hid (impl_products (c := d6) (c2 := d7) HO67.out.reads HO7.out.reads (by have := HO67.out.len; have := HGa.out.1; omega) (by have := HO7.out.len; have := HGb.out.1; omega) HGa.out.2 HGb.out.2)
                have HPL := Lib.hid (show (prods (gen f (n - j)) (gen f j)).length ≤ 1600 by rw [prods_len]; exact Nat.mul_le_mul HGa.out.1 HGb.out.1)
                go_wp2_with fail
                refine CP.out.mono ?_
                rintro e w8 ⟨G8, k8, d8, us8, rfl, ho8, hb8⟩
                have HO8 := Lib.hid ho8
                have HB8 := Lib.hid (HB7.out.trans (hb8.mono HB7.out.size))
                have HIN := Lib.hid ((HO5.out.below HB7.out).inS)
                clear ho8 hb8 CP HO7 HO67
                have hk8 : k8 ≤ 1600 := by have := HO8.out.len; have := HPL.out; omega
                go_wp2_with (at_builtin; refine appRS _ _ w.heap.size A5 n5 c5 vs5 G8 k8 d8 us8 _ _ rfl rfl rfl rfl (HO5.out.below HB8.out).1 HO8.out.reads (by omega) (Nat.le_trans HB5.out.size HB8.out.size) ?_; intro A9 c9 w9 ho9 hg9)
                have HO9 := Lib.hid (show OwnS w9 w.heap.size A9 (n5 + k8) c9 (vs5 ++ us8) (genAcc f n (i + 1)) by rw [HN2.out]; exact OwnS.join (HO5.out.below HB8.out) HO8.out HIN.out (Nat.le_trans HB5.out.size HB7.out.size) ho9 hg9)
                have HR9 := Lib.hid ((HR5.out.below HB8.out).kept_out (HO5.out.below HB8.out) hg9)
                have HB9 := Lib.hid ((HB5.out.trans (HB8.out.mono HB5.out.size)).grown hg9 (Nat.le_trans HB5.out.size HB8.out.size) (fun k hk => (HO5.out.below HB8.out).out_ge hk))
                clear ho9 hg9
                go_wp2
                go_roundw
                case rel => exact ⟨i + 1, _, _, _, _, by omega, by go_num, rfl, HO9.out, HR9.out, HB9.out⟩
                case measure => simp [intOf]; omega
              · obtain rfl : j = 0 := by omega
                rw [if_neg (by omega)] at hnx
                have HO9 := Lib.hid (show OwnS wo w.heap.size A5 n5 c5 vs5 (genAcc f n (i + 1)) by rw [hnx]; exact HO5.out)
                clear hnx HNX
                go_wp2
                go_roundw
                case rel => exact ⟨i + 1, _, _, _, _, by omega, by go_num, rfl, HO9.out, HR5.out, HB5.out⟩
                case measure => simp [intOf]; omega
            · obtain rfl : i = R.length := by omega
              have CO := Lib.hid (impl_oddOnes (c := c5) HO5.out.reads (by have := HO5.out.len; have := (HACC.out R.length).1; omega) (HACC.out R.length).2)
              go_wp2_with fail
              refine CO.out.mono ?_
              rintro e w6 ⟨G6, k6, d6, us6, S6, rfl, ho6, hp6, hs6, hb6⟩
              have HO6 := Lib.hid (show OwnS w6 w.heap.size G6 k6 d6 us6 (gen (f + 1) n) by rw [HGA.out, ← odd_norm hs6 hp6]; exact ho6.mono HB5.out.size)
              have HB6 := Lib.hid (HB5.out.trans (hb6.mono HB5.out.size))
              clear ho6 hp6 hs6 hb6
              go_wp2
              go_ret
              exact ⟨_, _, _, _, rfl, HO6.out, HB6.out⟩

end Go.Proofs.Ytpgmggkpnefaeaa
