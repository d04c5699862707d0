/- The program's text of a sum of words; SquaresText of the program. -/
import Derived.Test.YtijdlejngdhpjaaDoorTxtW
namespace Go.Proofs.YtijdlejngdhpjaaDoor
open Go.ChangeShapes Go.WideShapes Go.ChangeAt Go.RowKit Go.Proofs
set_option linter.unusedVariables false

theorem totl_mem {X : List (List Int)} {x : List Int} (h : x ∈ X) : x.length ≤ tot X := by
  induction X with
  | nil => cases h
  | cons a t ih =>
    simp only [tot]
    rcases List.mem_cons.1 h with rfl | h
    · omega
    · have := ih h; omega

set_option maxHeartbeats 800000 in
theorem impl_sumText {A n c vs X w} (h : RS w A n vs X) (hx : ∀ xs ∈ X, ∀ x ∈ xs, 0 ≤ x ∧ x < 100) (hn : n + tot X ≤ 1048576) :
    Calls Tryd.prog 26 #[.slice A n c, .func (.func 27) #[] #[]] w fun e w' => e = .returned (.string (sB (txtSum X))) ∧ Below w.heap.size w w' := by
  rcases Nat.eq_zero_or_pos n with rfl | hpos
  · have hl := h.len
    have e : X = [] := List.eq_nil_of_length_eq_zero hl
    subst e
    clear h
    go_enter Tryd.func26, Tryd.ntmps26
    go_wp2
    go_ret
    exact ⟨rfl, Below.refl _ _⟩
  · have hne : ((n : Int) == 0) = false := by rw [beq_eq_false_iff_ne]; omega
    have HE := Lib.hid (emptyT_own w)
    have HB0 := Lib.hid (box_below w (.cells #[] 9))
    have HR := Lib.hid h
    have HX := Lib.hid hx
    have hl := h.len
    clear h hx
    go_enter Tryd.func26, Tryd.ntmps26
    go_wp2
    go_loopw [5, 14] (fun p i wr => ∃ (k : Nat) (A' : Option Addr) (c' : Nat), k ≤ n ∧ i = .int .i64 (k : Int) ∧ p = .slice A' k c' ∧ OwnT wr w.heap.size A' k c' ((X.take k).map txtWord) ∧ Below w.heap.size w wr) (fun _ i _ => n - (intOf i).toNat)
    case atStart => exact ⟨0, _, _, Nat.zero_le _, rfl, rfl, HE.out, HB0.out⟩
    case round =>
      obtain ⟨k, A', c', hk, rfl, rfl, ho, hb⟩ := hrel
      have HO := Lib.hid ho
      have HB := Lib.hid hb
      clear ho hb
      by_cases hlt : k < n
      · have hr1 := HR.out.below HB.out
        obtain ⟨b, off, rfl, hbl, hc⟩ := hr1.at_ hlt
        have hrow := hr1.row hlt
        have hm := getD_memS X k (by omega)
        have hxk := HX.out _ hm
        have hlm := totl_mem hm
        have HT := Lib.hid (take_map_snoc txtWord X [] k (by omega))
        have hlt' : (k : Int) < (n : Int) := by omega
        clear hr1 hm
        generalize X.getD k [] = x at *
        generalize vs.getD k nilS = v at *
        obtain ⟨vA, vn, vc⟩ := v
        simp only [sv] at hc
        simp only at hrow
        have hvn := hrow.len
        have CW := Lib.hid (impl_wordText vA vn vc x wr hrow hxk (by omega))
        clear hrow hxk hlm hvn
        go_wp2_with (first | (go_at_call 27; refine CW.out.mono ?_; rintro e w1 ⟨rfl, hb1⟩; have HB1 := Lib.hid hb1; clear hb1) | (at_builtin; refine app1T _ _ _ _ _ _ _ (txtWord x) _ rfl rfl rfl rfl (HO.out.below HB1.out) (by omega) (Nat.le_trans HB.out.size HB1.out.size) ?_; intro g9 c9 w9 ho9 hg9))
        rw [HT.out] at ho9
        have HO9 := Lib.hid ho9
        have HB01 := Lib.hid (HB.out.trans (HB1.out.mono HB.out.size))
        have HB9 := Lib.hid (HB01.out.grown hg9 HB01.out.size (fun j hj => HO.out.row_ge hj))
        clear ho9 hg9 hc
        go_roundw
        case rel => exact ⟨k + 1, _, _, by omega, by go_num, rfl, HO9.out, HB9.out⟩
        case measure => simp [intOf]; omega
      · obtain rfl : k = n := by omega
        obtain ⟨g, rfl, _, _, _⟩ := HO.out.form hpos
        have ho := HO.out
        rw [List.take_of_length_le (by omega)] at ho
        have hb5 := len_join (X.map txtWord) [43] 5242880 (fun y hy => by
          obtain ⟨x, hx, rfl⟩ := List.mem_map.1 hy
          have := totl_mem hx
          exact txtWord_len x (HX.out x hx) (by omega))
        simp only [List.length_map, List.length_cons, List.length_nil] at hb5
        have CJ := Lib.hid (join_own w.heap.size g k c' (X.map txtWord) [43] wr ho hpos (by omega) (by omega))
        have HF := Lib.hid (show Lib.join (X.map txtWord) [43] = txtSum X by
          unfold txtSum; rw [if_neg (fun e => by rw [e] at hl; simp at hl; omega)])
        clear ho hb5
        go_wp2_with (go_at_call 46; refine CJ.out.mono ?_; rintro e w1 ⟨rfl, hb1⟩; have HB1 := Lib.hid hb1; clear hb1)
        go_ret
        exact ⟨by first | (rw [HF.out]; rfl) | rw [HF.out], HB.out.trans (HB1.out.mono HB.out.size)⟩

/-- the text of a sum of squares, or the code of what is none -/
def pSquaresText (X : List (List Int)) : List UInt8 × Int := if pIsSquares X = true then (txtSum X, 0) else ([], 1)

theorem lets_small {X : List (List Int)} (h : pIsSquares X = true) : ∀ xs ∈ X, ∀ x ∈ xs, 0 ≤ x ∧ x < 100 := fun xs hxs x hx => by
  have h1 := (wordB_true ((pIsSquares_true h).2.1 xs hxs)).2.1 x hx
  omega

theorem impl_SquaresText {A n c vs xss w} (h : RS w A n vs xss) (hn : n + tot xss ≤ 1048576) :
    Calls Tryd.prog 13 #[.agg #[.slice A n c]] w fun e w' => e = .returned (.tuple #[.string (sB (pSquaresText xss).1), .int .i64 (pSquaresText xss).2]) ∧ Below w.heap.size w w' := by
  have hb0 := box_below w (.cells #[.slice A n c] 24)
  have hbk := Blk.new w #[.slice A n c] 24
  have CON := Lib.hid (impl_IsSquares (c := c) (h.below hb0) hn)
  have H := Lib.hid (h.below hb0)
  have HBK := Lib.hid hbk
  have HB0 := Lib.hid hb0
  have c0 := hbk.cell 0 rfl
  clear h hb0 hbk
  cases hp : pIsSquares xss with
  | false =>
    have HF := Lib.hid (show pSquaresText xss = ([], 1) by unfold pSquaresText; rw [hp]; rfl)
    rw [hp] at CON
    clear hp
    go_enter Tryd.func13, Tryd.ntmps13
    go_wp2_with fail
    refine CON.out.mono ?_
    rintro e w1 ⟨rfl, hb⟩
    have HB := Lib.hid (HB0.out.trans (hb.mono HB0.out.size))
    clear hb
    go_wp2
    go_ret2
    exact ⟨by first | (rw [HF.out]; rfl) | rw [HF.out], HB.out⟩
  | true =>
    have HF := Lib.hid (show pSquaresText xss = (txtSum xss, 0) by unfold pSquaresText; rw [if_pos hp])
    have HL := Lib.hid (lets_small hp)
    rw [hp] at CON
    clear hp
    go_enter Tryd.func13, Tryd.ntmps13
    go_wp2_with fail
    refine CON.out.mono ?_
    rintro e w1 ⟨rfl, hb⟩
    have HB := Lib.hid (HB0.out.trans (hb.mono HB0.out.size))
    have HBK1 := Lib.hid (HBK.out.below hb)
    have CS := Lib.hid (impl_sumText (c := c) (H.out.below hb) HL.out hn)
    clear hb c0
    have c0 := HBK1.out.cell 0 rfl
    go_wp2_with fail
    refine CS.out.mono ?_
    rintro e w2 ⟨rfl, hb2⟩
    have HB2 := Lib.hid (HB.out.trans (hb2.mono HB.out.size))
    clear hb2
    go_wp2
    go_ret2
    exact ⟨by first | (rw [HF.out]; rfl) | rw [HF.out], HB2.out⟩

end Go.Proofs.YtijdlejngdhpjaaDoor
