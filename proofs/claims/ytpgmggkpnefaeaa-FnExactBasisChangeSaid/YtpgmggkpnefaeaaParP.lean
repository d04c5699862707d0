/- The program's partitions: the whole function; PartitionsOf of the program. -/
import Derived.Test.YtpgmggkpnefaeaaParE
import Derived.Test.YtpgmggkpnefaeaaSort
import Derived.Test.YtpgmggkpnefaeaaKit
import Derived.Test.YtpgmggkpnefaeaaAllS
import Derived.Laws.EntriesVeiled
namespace Go.Proofs.Ytpgmggkpnefaeaa
open Go.ChangeShapes Go.WideShapes Go.ChangeAt Go.RowKit
set_option linter.unusedVariables false

theorem rise_pair (l : List (List Int)) (h : riseB l = true) : l.Pairwise (fun x y => lessL x y = true) := by
  induction l with
  | nil => exact List.Pairwise.nil
  | cons x l ih =>
    cases l with
    | nil => exact List.pairwise_singleton _ _
    | cons y r =>
      have h1 : lessL x y = true ∧ riseB (y :: r) = true := by
        rw [riseB] at h
        by_cases hc : lessL x y = true
        · rw [if_pos hc] at h; exact ⟨hc, h⟩
        · rw [if_neg hc] at h; cases h
      have h2 := ih h1.2
      refine List.Pairwise.cons (fun z hz => ?_) h2
      rcases List.mem_cons.1 hz with rfl | hz
      · exact h1.1
      · exact lessL_trans _ _ _ h1.1 (List.rel_of_pairwise_cons h2 hz)

theorem rise_lt (l : List (List Int)) (h : riseB l = true) (i j : Nat) (hij : i < j) (hj : j < l.length) : lessL (l.getD i []) (l.getD j []) = true := by
  have h1 := List.pairwise_iff_getElem.1 (rise_pair l h) i j (by omega) hj hij
  simpa [List.getD, hj, show i < l.length by omega] using h1

theorem sort_ident {xss : List (List Int)} {n : Nat} {p : List Nat} (hn : xss.length = n) (hr : riseB xss = true) (hp : p.Perm (List.range n)) (hs : p.Pairwise (fun i j => lessL (xss.getD j []) (xss.getD i []) = false)) : p = List.range n := by
  refine List.Perm.eq_of_pairwise (le := fun i j => lessL (xss.getD j []) (xss.getD i []) = false) ?_ hs ?_ hp
  · intro a b ha hb h1 h2
    have ha' := List.mem_range.1 (hp.mem_iff.1 ha)
    have hb' := List.mem_range.1 hb
    rcases Nat.lt_trichotomy a b with h | h | h
    · have := rise_lt xss hr a b h (by omega)
      rw [h2] at this; cases this
    · exact h
    · have := rise_lt xss hr b a h (by omega)
      rw [h1] at this; cases this
  · rw [List.pairwise_iff_getElem]
    intro i j hi hj hij
    simp only [List.getElem_range]
    have hj' : j < n := by simpa using hj
    have h1 := rise_lt xss hr i j hij (by omega)
    cases h : lessL (xss.getD j []) (xss.getD i []) with
    | false => rfl
    | true =>
      have := lessL_trans _ _ _ h1 h
      rw [lessL_irrefl] at this; cases this

theorem range_enc (vs : List Sl) (n : Nat) (h : vs.length = n) : (List.range n).map (encI vs) = vs.map sv := by
  apply List.ext_getElem
  · simp [h]
  · intro i h1 h2
    simp [encI, List.getD, show i < vs.length by simpa using h2]

/-- a slice of lists that rises stays under the sort -/
theorem sort_same {B A n c} {vs : List Sl} {xss : List (List Int)} {w : World} (h0 : 0 < n) (hn : n < 4611686018427387904) (ho : OwnS w B A n c vs xss) (hr : riseB xss = true) :
    Calls Try.prog 102 #[.slice A n c, .func (.func 103) #[] #[]] w fun e w' => e = .returned (.tuple #[]) ∧ OwnS w' B A n c vs xss ∧ w.grownBy w' (A.map (·.block)) := by
  refine (sort_rows (xss := xss) h0 hn ho.vlen ho.len ho.1 (fun i hi => (ho.row hi).reads)).mono ?_
  rintro e w' ⟨rfl, p, hp, hs, hown, hg⟩
  have hpe := sort_ident ho.len hr hp hs
  rw [hpe, range_enc vs n ho.vlen] at hown
  exact ⟨rfl, ⟨hown, ho.len, fun i hi => (ho.row hi).kept_out ho hg, ho.2.2.2⟩, hg⟩

theorem OwnS.frozen' {w B g n c vs xss} (h : OwnS w B (some ⟨g, 0, none⟩) n c vs xss) (i : Nat) : w.frozen? ⟨g, i, none⟩ = false := h.1.frozenAt i

theorem OwnS.setSelf {w B g n c vs xss} (h : OwnS w B (some ⟨g, 0, none⟩) n c vs xss) {i : Nat} (hi : i < n) : OwnS (w.setCell ⟨g, i, none⟩ (sv (vs.getD i nilS))) B (some ⟨g, 0, none⟩) n c vs xss := by
  have hv := h.vlen
  have e : vs.map sv = (vs.map sv).set i (sv (vs.getD i nilS)) := by
    apply List.ext_getElem
    · simp
    · intro j h1 h2
      rw [List.getElem_set]
      by_cases e : i = j
      · subst e; simp [List.getD, show i < vs.length by omega]
      · rw [if_neg e]
  have hs := set_grown w ⟨g, i, none⟩ (sv (vs.getD i nilS))
  refine ⟨?_, h.2.1, fun j hj => (h.row hj).kept_out h hs, h.2.2.2⟩
  have := (h.1.stored i (sv (vs.getD i nilS))).1
  rw [← e] at this
  exact this

theorem tlen_full (xs : List Int) (h : xs.length = 0 ∨ xs.getD (xs.length - 1) 0 ≠ 0) : tlen xs xs.length = xs.length := by
  rcases h with h | h
  · rw [h]; rfl
  · cases hk : xs.length with
    | zero => rfl
    | succ k =>
      rw [hk] at h
      rw [tlen, if_neg (by simpa using h)]

theorem par_pos : (List.range 41).all (fun d => decide (0 < (parL d).length)) = true := by decide +kernel

set_option maxRecDepth 100000 in
set_option maxHeartbeats 2000000 in
theorem impl_partitions {d : Nat} {w : World} (hd : d ≤ 40) :
    Calls Try.prog 63 #[.int .i64 (d : Int)] w fun e w' => ∃ A n c vs, e = .returned (.slice A n c) ∧ OwnS w' w.heap.size A n c vs (parL d) ∧ Below w.heap.size w w' := by
  have hmf : ∀ (fn : Fn) (first cap : Array Value) (w : World), (Instr.makeFunc fn first cap).run Try.prog w = .ok (.func fn first cap) w := fun _ _ _ _ => rfl
  have he := Try.call99
  have hpf := par_facts d hd
  have hpp : 0 < (parL d).length := of_decide_eq_true (List.all_eq_true.1 par_pos d (List.mem_range.2 (by omega)))
  obtain ⟨W1, hW1⟩ : ∃ W1, W1 = w.alloc (.cells #[] 51) := ⟨_, rfl⟩
  obtain ⟨W2, hW2⟩ : ∃ W2, W2 = W1.alloc (.cells #[.slice (some ⟨w.heap.size, 0, none⟩) 0 0] 22) := ⟨_, rfl⟩
  obtain ⟨W3, hW3⟩ : ∃ W3, W3 = W2.alloc (.cells #[extV W1.heap.size W2.heap.size] 85) := ⟨_, rfl⟩
  have s1 : W1.heap.size = w.heap.size + 1 := by rw [hW1]; simp
  have s2 : W2.heap.size = w.heap.size + 1 + 1 := by rw [hW2]; simp [s1]
  have s3 : W3.heap.size = w.heap.size + 1 + 1 + 1 := by rw [hW3]; simp [s2]
  have b1 : Blk W2 W1.heap.size 22 #[.slice (some ⟨w.heap.size, 0, none⟩) 0 0] := by rw [hW2]; exact Blk.new _ _ _
  have b2 : Blk W3 W2.heap.size 85 #[extV W1.heap.size W2.heap.size] := by rw [hW3]; exact Blk.new _ _ _
  have b1' : Blk W3 W1.heap.size 22 #[.slice (some ⟨w.heap.size, 0, none⟩) 0 0] := by rw [hW3]; exact b1.alloc _
  have o1 : OwnS W3 w.heap.size (some ⟨w.heap.size, 0, none⟩) 0 0 [] [] := by rw [hW3, hW2, hW1]; exact (((emptyS_own w).alloc _).alloc _)
  have l1 : Below w.heap.size w W3 := by
    rw [hW3, hW2, hW1]
    exact (((Below.refl _ _).alloc (Nat.le_refl _) _).alloc (by simp) _).alloc (by simp; omega) _
  have con := ext_par 6 d 1 (some ⟨W3.heap.size, 0, none⟩) 0 0 [] (some ⟨w.heap.size, 0, none⟩) 0 0 [] [] w.heap.size W3.heap.size W1.heap.size W2.heap.size (W3.alloc (.cells #[] 2)) hd rfl rfl (empty_own W3) (b1'.alloc _) (b2.alloc _) (o1.alloc _) ⟨fun k hk => by have e : w.heap.size = k := (by simpa using hk); omega, fun i hi => absurd hi (by omega)⟩ (by omega) (by omega) (by omega) (by omega) (by simp) (by show 0 + (parL d).length ≤ _; omega)
  rw [show ([] : List (List Int)) ++ (prtF (6 + 1) d 1).map (fun x => [] ++ x) = parL d by simp [parL]] at con
  have hl4 : Below w.heap.size w (W3.alloc (.cells #[] 2)) := l1.trans ((box_below W3 _).mono l1.size)
  rw [s1, s2, s3] at con
  rw [s1, s2] at hW3
  subst hW3
  subst hW2
  subst hW1
  unfold extV at con hl4
  have CON := Lib.hid con
  have HL4 := Lib.hid hl4
  have HPF := Lib.hid hpf
  have HPP := Lib.hid hpp
  clear con hl4 b1 b2 b1' o1 l1 hpf hpp s1 s2 s3
  go_enter Try.func63, Try.ntmps63
  go_wp2_with fail
  refine CON.out.mono ?_
  rintro e w5 ⟨A', m', c', vs', rfl, hbo, ho, hg, hat⟩
  have hL : Below w.heap.size w w5 := HL4.out.trans ⟨hg.os, hg.tape, hg.output, hg.size, fun k hk => hg.block k (by have := HL4.out.size; omega) (by omega) (by simp; omega)⟩
  have hml := ho.len
  have hpf := HPF.out
  have hpp := HPP.out
  obtain ⟨g, rfl, hgB, hgl⟩ := ho.form (by omega)
  have HM0 := Lib.hid (show 0 < m' by omega)
  have HM1 := Lib.hid (show m' ≤ 1000 by omega)
  have hm63 : m' ≤ 1000 := HM1.out
  have HOK := Lib.hid hpf.2.2.2
  have HRI := Lib.hid hpf.2.2.1
  have HNE := Lib.hid (blk_apartS hbo ho (by decide))
  have HBO := Lib.hid hbo
  have HO := Lib.hid ho
  have HB := Lib.hid hL
  have HLEN := Lib.hid hml
  clear hpf hpp hbo ho hg hat hL hml
  have kb := HBO.out.cell 0 (v := .slice (some ⟨g, 0, none⟩) m' c') rfl
  clear CON HL4
  go_wp2
  clear kb
  go_loopw [14] (fun iv wr => ∃ i : Nat, i ≤ m' ∧ iv = .int .i64 (i : Int) ∧ Blk wr (w.heap.size + 1) 22 #[.slice (some ⟨g, 0, none⟩) m' c'] ∧ OwnS wr w.heap.size (some ⟨g, 0, none⟩) m' c' vs' (parL d) ∧ Below w.heap.size w wr) (fun iv _ => m' - (intOf iv).toNat)
  case atStart => exact ⟨0, by omega, rfl, HBO.out, HO.out, HB.out⟩
  case round =>
    obtain ⟨i, hi, rfl, hbo, ho, hb⟩ := hrel
    clear HBO HO HB
    have HBO := Lib.hid hbo
    have HO := Lib.hid ho
    have HB := Lib.hid hb
    clear hbo ho hb
    have kb := HBO.out.cell 0 (v := .slice (some ⟨g, 0, none⟩) m' c') rfl
    by_cases hlt : i < m'
    · have hlt' : (i : Int) < (m' : Int) := by omega
      have hc := HO.out.cell hlt
      have hf := HO.out.frozen' i
      have hrow := HO.out.row hlt
      have hx := HOK.out _ (getD_memS (parL d) i (by have := HLEN.out; omega))
      have HSS := Lib.hid (HO.out.setSelf hlt)
      have HSB := Lib.hid (HB.out.setCell (p := ⟨g, i, none⟩) hgB (sv (vs'.getD i nilS)))
      have HSK := Lib.hid (HBO.out.setFar ⟨g, i, none⟩ (sv (vs'.getD i nilS)) (by show g ≠ w.heap.size + 1; exact fun e => HNE.out (by rw [e]; rfl)))
      generalize (parL d).getD i [] = x at *
      generalize vs'.getD i nilS = v at *
      obtain ⟨vA, vn, vc⟩ := v
      simp only at hrow
      simp only [sv] at hc HSS HSB HSK
      have hcap := hrow.cap_ge
      have hrl := hrow.len
      have htl := tlen_full x hx.2
      have CT := Lib.hid (fun w1 (hb : Below wr.heap.size wr w1) => trimmed_any vA vn vc x w1 (hrow.reads.below hb) hcap.1 hcap.2)
      rw [htl, hrl] at CT
      clear hrow hx htl hrl hcap
      go_wp2_with fail
      go_region_law ((go_simp; go_at_call 101; refine (CT.out _ (by exact ⟨rfl, rfl, rfl, Nat.le_refl _, fun _ _ => rfl⟩)).mono ?_; rintro e w4 ⟨rfl, rfl⟩; dsimp only))
      all_goals (
        go_wp2
        go_roundw
        case rel => exact ⟨i + 1, by omega, by go_num, HSK.out, HSS.out, by first | exact HSB.out | exact HSB.out.drew⟩
        case measure => simp [intOf]; omega)
    · obtain rfl : i = m' := by omega
      have CS := Lib.hid (sort_same HM0.out (by have := HM1.out; omega) HO.out HRI.out)
      go_wp2_with fail
      refine CS.out.mono ?_
      rintro e w7 ⟨rfl, ho7, hg7⟩
      have HO7 := Lib.hid ho7
      have HB7 := Lib.hid (HB.out.grown hg7 HB.out.size (fun k hk => HO.out.out_ge hk))
      have kb := (HBO.out.grown hg7 (fun e => HNE.out e)).cell 0 (v := .slice (some ⟨g, 0, none⟩) i c') rfl
      clear ho7 hg7
      go_wp2
      go_ret
      exact ⟨_, _, _, _, rfl, HO7.out, HB7.out⟩

theorem impl_PartitionsOf {n : Int} {w : World} (hi : I64 n) : Calls Try.prog 29 #[.int .i64 n] w fun e w' => ∃ A l c vs, e = .returned (.tuple #[.slice A l c, .int .i64 (pPartitionsOf n).2]) ∧ OwnS w' w.heap.size A l c vs (pPartitionsOf n).1 ∧ Below w.heap.size w w' := by
  clear hi
  have CD : ∀ w : World, Calls Try.prog 62 #[.int .i64 n] w fun e w' => e = .returned (.bool (inB n 0 40)) ∧ w = w' := by
    intro w
    go_enter Try.func62, Try.ntmps62
    go_wp2_with (go_at_call 90; refine (in_any _ _ _ _).mono ?_; rintro e w' ⟨rfl, rfl⟩)
    go_ret
    exact ⟨rfl, rfl⟩
  have HCD := Lib.hid CD
  clear CD
  cases hd : inB n 0 40 with
  | true =>
    have hb := inB_true hd
    have HF := Lib.hid (show pPartitionsOf n = (parL n.toNat, 0) by unfold pPartitionsOf; rw [if_pos hd])
    have HD := Lib.hid hd
    obtain ⟨d, rfl⟩ := Int.eq_ofNat_of_zero_le hb.1
    have CON := Lib.hid (fun w => impl_partitions (d := d) (w := w) (by omega))
    clear hd hb
    go_enter Try.func29, Try.ntmps29
    go_wp2_with fail
    refine (HCD.out _).mono ?_
    rintro e w1 ⟨rfl, rfl⟩
    rw [HD.out]
    go_wp2_with fail
    refine (CON.out _).mono ?_
    rintro e w2 ⟨A, l, c, vs, rfl, ho, hb⟩
    have HO := Lib.hid ho
    have HB := Lib.hid hb
    clear ho hb
    go_wp2
    go_ret2
    exact ⟨A, l, c, vs, by rw [HF.out]; rfl, by rw [HF.out, Int.toNat_natCast]; exact HO.out, HB.out⟩
  | false =>
    have HF := Lib.hid (show pPartitionsOf n = ([], 2) by unfold pPartitionsOf; rw [hd]; rfl)
    have HD := Lib.hid hd
    clear hd
    go_enter Try.func29, Try.ntmps29
    go_wp2_with fail
    refine (HCD.out _).mono ?_
    rintro e w1 ⟨rfl, rfl⟩
    rw [HD.out]
    go_wp2
    go_ret2
    exact ⟨none, 0, 0, [], by rw [HF.out]; rfl, by rw [HF.out]; exact OwnS.nil _ _, Below.refl _ _⟩

end Go.Proofs.Ytpgmggkpnefaeaa
