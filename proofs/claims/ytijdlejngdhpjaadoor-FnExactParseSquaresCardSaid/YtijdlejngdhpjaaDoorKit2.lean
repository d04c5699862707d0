/- The statements' own helpers to.., eq.., mark.., held.., sz.. at the structs over lists and lists of lists. Written by a program of this repo. -/
import Derived.Test.YtijdlejngdhpjaaDoorKit
namespace Go.Proofs.YtijdlejngdhpjaaDoor
open Go.ChangeShapes Go.WideShapes Go.ChangeAt Go.RowKit
set_option linter.unusedVariables false

theorem sz_Squares {A n c vs xss} {w} {m : Int} (h : RS w A n vs xss) (hm : ((n + tot xss : Nat) : Int) ≤ m ∧ m ≤ 1048576) :
    Calls Tryd.prog 10 #[.agg #[.slice A n c], .int .i64 m] w fun e w' => e = .returned (.int .i64 (m - ((n + tot xss : Nat) : Int))) ∧ Below w.heap.size w w' := by
  have hb0 := box_below w (.cells #[.slice A n c] 30)
  have CON := Lib.hid (sz_Int64SS (c := c) (h.below hb0) hm)
  have HB0 := Lib.hid hb0
  obtain ⟨h1, h2⟩ := hm
  have h4 : 0 ≤ m - ((n + tot xss : Nat) : Int) := by omega
  clear h hb0
  go_enter Tryd.func10, Tryd.ntmps10
  go_wp2_with fail
  refine CON.out.mono ?_
  rintro e w1 ⟨rfl, hb⟩
  have HB := Lib.hid (HB0.out.trans (hb.mono HB0.out.size))
  clear hb
  go_wp2
  go_ret
  exact ⟨rfl, HB.out⟩

theorem szno_Squares {A n c vs xss} {w} {m : Int} (h : RS w A n vs xss) (hm : m < ((n + tot xss : Nat) : Int) ∧ 0 ≤ m ∧ m ≤ 1048576) :
    Calls Tryd.prog 10 #[.agg #[.slice A n c], .int .i64 m] w fun e w' => e = .returned (.int .i64 (-1)) ∧ Below w.heap.size w w' := by
  have hb0 := box_below w (.cells #[.slice A n c] 30)
  have CON := Lib.hid (szno_Int64SS (c := c) (h.below hb0) hm)
  have HB0 := Lib.hid hb0
  obtain ⟨h1, h2, h3⟩ := hm
  skip
  clear h hb0
  go_enter Tryd.func10, Tryd.ntmps10
  go_wp2_with fail
  refine CON.out.mono ?_
  rintro e w1 ⟨rfl, hb⟩
  have HB := Lib.hid (HB0.out.trans (hb.mono HB0.out.size))
  clear hb
  go_wp2
  go_ret
  exact ⟨rfl, HB.out⟩

set_option maxHeartbeats 400000 in
theorem to_Squares {A n c vs xss} {w} (h : RS w A n vs xss) (hn : n + tot xss ≤ 1048576) :
    Calls Tryd.prog 12 #[.agg #[.slice A n c]] w fun e w' => ∃ g us, e = .returned (.agg #[.slice (some ⟨g, 0, none⟩) n n]) ∧ OwnS w' w.heap.size (some ⟨g, 0, none⟩) n n us xss ∧ Below w.heap.size w w' := by
  have CON := Lib.hid (fun w1 (hb : Below w.heap.size w w1) => to_Int64SS (c := c) (h.below hb) hn)
  clear h hn
  go_enter Tryd.func12, Tryd.ntmps12
  go_wp2_with fail
  refine (CON.out _ (by first | exact (((Below.refl _ _).alloc (Nat.le_refl _) _).alloc (by simp) _).alloc (by simp; omega) _ | exact ((((Below.refl _ _).alloc (Nat.le_refl _) _).alloc (by simp) _).alloc (by simp; omega) _).setCell (by simp) _)).mono ?_
  rintro e w1 ⟨g, us, rfl, ho, hb⟩
  obtain ⟨hc, hf⟩ := bcell hb
  have hz := hb.size
  simp at hz
  go_wp2
  refine bodyPost_ret (v := .agg #[.slice (some ⟨g, 0, none⟩) n n]) (by simp [results, Tryd.results12, go_sem, hc]) rfl ⟨g, us, rfl, ?_, ?_⟩
  · exact ((((ho).setFar _ _ (by simp)).setFar _ _ (by simp)).mono (by simp; omega))
  · exact (((((((Below.refl _ _).alloc (Nat.le_refl _) _).alloc (by simp) _).alloc (by simp; omega) _).trans (hb.mono (by simp; omega))).setCell (by simp; try omega) _).setCell (by simp; try omega) _)

theorem eq_Squares {A B n c d vs us xss} {w} (h : RS w A n vs xss) (g : RS w B n us xss) :
    Calls Tryd.prog 7 #[.agg #[.slice A n c], .agg #[.slice B n d]] w fun e w' => e = .returned (.bool true) ∧ Below w.heap.size w w' := by
  have CON := Lib.hid (fun w1 (hb : Below w.heap.size w w1) => eq_Int64SS (c := c) (d := d) (h.below hb) (g.below hb))
  clear h g
  go_enter Tryd.func7, Tryd.ntmps7
  go_wp2_with fail
  refine (CON.out _ (((Below.refl _ _).alloc (Nat.le_refl _) _).alloc (by simp) _)).mono ?_
  rintro e w1 ⟨rfl, hb⟩
  have HB := Lib.hid ((((Below.refl _ _).alloc (Nat.le_refl _) _).alloc (by simp) _).trans (hb.mono (by simp; omega)) : Below w.heap.size w w1)
  clear hb
  go_wp2
  go_ret
  exact ⟨rfl, HB.out⟩

theorem mark_Squares {B L A n c vs xss} {k0 : Int} {w} (h : OwnS w B A n c vs xss) (hin : InS A n vs L) (hk0 : 0 ≤ k0) (hk : k0 + (tot xss : Int) ≤ 9223372036854775000) :
    Calls Tryd.prog 8 #[.agg #[.slice A n c], .int .i64 k0] w fun e w' => e = .returned (.int .i64 (k0 + (tot xss : Int))) ∧ OwnS w' B A n c vs (marksS k0 xss) ∧ Mid B L w w' := by
  have CON := Lib.hid (mark_Int64SS (c := c) (h.alloc (.cells #[.slice A n c] 24)) hin hk0 hk)
  clear h hin
  go_enter Tryd.func8, Tryd.ntmps8
  go_wp2_with fail
  refine CON.out.mono ?_
  rintro e w1 ⟨rfl, ho, hm⟩
  have HO := Lib.hid ho
  have HM := Lib.hid (mid_box hm)
  clear ho hm
  go_wp2
  go_ret
  exact ⟨rfl, HO.out, HM.out⟩

theorem held_Squares {A n c vs xss} {k0 : Int} {w} (h : RS w A n vs (marksS k0 xss)) (hk0 : 0 ≤ k0) (hk : k0 + (tot xss : Int) ≤ 9223372036854775000) :
    Calls Tryd.prog 9 #[.agg #[.slice A n c], .int .i64 k0] w fun e w' => e = .returned (.int .i64 (k0 + (tot xss : Int))) ∧ Below w.heap.size w w' := by
  have hb0 := box_below w (.cells #[.slice A n c] 24)
  have CON := Lib.hid (held_Int64SS (c := c) (h.below hb0) hk0 hk)
  have HB0 := Lib.hid hb0
  have h5 : 0 ≤ k0 + (tot xss : Int) := by omega
  clear h hb0
  go_enter Tryd.func9, Tryd.ntmps9
  go_wp2_with fail
  refine CON.out.mono ?_
  rintro e w1 ⟨rfl, hb⟩
  have HB := Lib.hid (HB0.out.trans (hb.mono HB0.out.size))
  clear hb
  go_wp2
  go_ret
  exact ⟨rfl, HB.out⟩

end Go.Proofs.YtijdlejngdhpjaaDoor
