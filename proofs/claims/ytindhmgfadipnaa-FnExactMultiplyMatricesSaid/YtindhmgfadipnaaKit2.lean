/- The statements' own helpers to.., eq.., mark.., held.., sz.. at the structs over lists and lists of lists. Written by a program of this repo. -/
import Derived.Test.YtindhmgfadipnaaKit
namespace Go.Proofs.Ytindhmgfadipnaa
open Go.ChangeShapes Go.WideShapes Go.ChangeAt Go.RowKit
set_option linter.unusedVariables false

theorem sz_Matrix {k : Int} {A n c xs} {w} {m : Int} (h : RI w A n xs) (hm : (n : Int) ≤ m ∧ m ≤ 1048576) :
    Calls Try.prog 30 #[.agg #[.int .i64 k, .slice A n c], .int .i64 m] w fun e w' => e = .returned (.int .i64 (m - (n : Int))) ∧ Below w.heap.size w w' := by
  have hb0 := box_below w (.cells #[.int .i64 k, .slice A n c] 38)
  have CON := Lib.hid (sz_Int64S (c := c) (h.below hb0) hm)
  have HB0 := Lib.hid hb0
  obtain ⟨h1, h2⟩ := hm
  have h4 : 0 ≤ m - (n : Int) := by omega
  clear h hb0
  go_enter Try.func30, Try.ntmps30
  go_wp2_with fail
  refine CON.out.mono ?_
  rintro e w1 ⟨rfl, hb⟩
  have HB := Lib.hid (HB0.out.trans (hb.mono HB0.out.size))
  clear hb
  go_wp2
  go_ret
  exact ⟨rfl, HB.out⟩

theorem szno_Matrix {k : Int} {A n c xs} {w} {m : Int} (h : RI w A n xs) (hm : m < (n : Int) ∧ 0 ≤ m ∧ m ≤ 1048576) :
    Calls Try.prog 30 #[.agg #[.int .i64 k, .slice A n c], .int .i64 m] w fun e w' => e = .returned (.int .i64 (-1)) ∧ Below w.heap.size w w' := by
  have hb0 := box_below w (.cells #[.int .i64 k, .slice A n c] 38)
  have CON := Lib.hid (szno_Int64S (c := c) (h.below hb0) hm)
  have HB0 := Lib.hid hb0
  obtain ⟨h1, h2, h3⟩ := hm
  skip
  clear h hb0
  go_enter Try.func30, Try.ntmps30
  go_wp2_with fail
  refine CON.out.mono ?_
  rintro e w1 ⟨rfl, hb⟩
  have HB := Lib.hid (HB0.out.trans (hb.mono HB0.out.size))
  clear hb
  go_wp2
  go_ret
  exact ⟨rfl, HB.out⟩

set_option maxHeartbeats 400000 in
theorem to_Matrix {k : Int} {A n c xs} {w} (h : RI w A n xs) (hn : n ≤ 1048576) :
    Calls Try.prog 32 #[.agg #[.int .i64 k, .slice A n c]] w fun e w' => ∃ g, e = .returned (.agg #[.int .i64 k, .slice (some ⟨g, 0, none⟩) n n]) ∧ OwnI w' w.heap.size (some ⟨g, 0, none⟩) n n xs ∧ Below w.heap.size w w' := by
  have CON := Lib.hid (fun w1 (hb : Below w.heap.size w w1) => to_Int64S (c := c) (h.below hb) hn)
  clear h hn
  go_enter Try.func32, Try.ntmps32
  go_wp2_with fail
  refine (CON.out _ (by first | exact (((Below.refl _ _).alloc (Nat.le_refl _) _).alloc (by simp) _).alloc (by simp; omega) _ | exact ((((Below.refl _ _).alloc (Nat.le_refl _) _).alloc (by simp) _).alloc (by simp; omega) _).setCell (by simp) _)).mono ?_
  rintro e w1 ⟨g, rfl, ho, hb⟩
  obtain ⟨hc, hf⟩ := bcell hb
  have hz := hb.size
  simp at hz
  go_wp2
  refine bodyPost_ret (v := .agg #[.int .i64 k, .slice (some ⟨g, 0, none⟩) n n]) (by simp [results, Try.results32, go_sem, hc]) rfl ⟨g, rfl, ?_, ?_⟩
  · exact (((((ho).setFar _ _ (by simp)).setFar _ _ (by simp)).setFar _ _ (by simp)).mono (by simp; omega))
  · exact ((((((((Below.refl _ _).alloc (Nat.le_refl _) _).alloc (by simp) _).alloc (by simp; omega) _).trans (hb.mono (by simp; omega))).setCell (by simp; try omega) _).setCell (by simp; try omega) _).setCell (by simp; try omega) _)

theorem eq_Matrix {k : Int} {A B n c d xs} {w} (h : RI w A n xs) (g : RI w B n xs) :
    Calls Try.prog 34 #[.agg #[.int .i64 k, .slice A n c], .agg #[.int .i64 k, .slice B n d]] w fun e w' => e = .returned (.bool true) ∧ Below w.heap.size w w' := by
  have CON := Lib.hid (fun w1 (hb : Below w.heap.size w w1) => eq_Int64S (c := c) (d := d) (h.below hb) (g.below hb))
  clear h g
  go_enter Try.func34, Try.ntmps34
  go_wp2_with fail
  refine (CON.out _ (((Below.refl _ _).alloc (Nat.le_refl _) _).alloc (by simp) _)).mono ?_
  rintro e w1 ⟨rfl, hb⟩
  have HB := Lib.hid ((((Below.refl _ _).alloc (Nat.le_refl _) _).alloc (by simp) _).trans (hb.mono (by simp; omega)) : Below w.heap.size w w1)
  clear hb
  go_wp2
  go_ret
  exact ⟨rfl, HB.out⟩

theorem mark_Matrix {k : Int} {B L A n c xs} {k0 : Int} {w} (h : OwnI w B A n c xs) (hin : InL A L) (hk0 : 0 ≤ k0) (hk : k0 + (n : Int) ≤ 9223372036854775000) :
    Calls Try.prog 35 #[.agg #[.int .i64 k, .slice A n c], .int .i64 k0] w fun e w' => e = .returned (.int .i64 (k0 + (n : Int))) ∧ OwnI w' B A n c (marks k0 n) ∧ Mid B L w w' := by
  have CON := Lib.hid (mark_Int64S (c := c) (h.alloc (.cells #[.int .i64 k, .slice A n c] 40)) hin hk0 hk)
  clear h hin
  go_enter Try.func35, Try.ntmps35
  go_wp2_with fail
  refine CON.out.mono ?_
  rintro e w1 ⟨rfl, ho, hm⟩
  have HO := Lib.hid ho
  have HM := Lib.hid (mid_box hm)
  clear ho hm
  go_wp2
  go_ret
  exact ⟨rfl, HO.out, HM.out⟩

theorem held_Matrix {k : Int} {A n c} {k0 : Int} {w} (h : RI w A n (marks k0 n)) (hk0 : 0 ≤ k0) (hk : k0 + (n : Int) ≤ 9223372036854775000) :
    Calls Try.prog 36 #[.agg #[.int .i64 k, .slice A n c], .int .i64 k0] w fun e w' => e = .returned (.int .i64 (k0 + (n : Int))) ∧ Below w.heap.size w w' := by
  have hb0 := box_below w (.cells #[.int .i64 k, .slice A n c] 40)
  have CON := Lib.hid (held_Int64S (c := c) (h.below hb0) hk0 hk)
  have HB0 := Lib.hid hb0
  have h5 : 0 ≤ k0 + (n : Int) := by omega
  clear h hb0
  go_enter Try.func36, Try.ntmps36
  go_wp2_with fail
  refine CON.out.mono ?_
  rintro e w1 ⟨rfl, hb⟩
  have HB := Lib.hid (HB0.out.trans (hb.mono HB0.out.size))
  clear hb
  go_wp2
  go_ret
  exact ⟨rfl, HB.out⟩

theorem sz_Squares {A n c vs xss} {w} {m : Int} (h : RS w A n vs xss) (hm : ((n + tot xss : Nat) : Int) ≤ m ∧ m ≤ 1048576) :
    Calls Try.prog 45 #[.agg #[.slice A n c], .int .i64 m] w fun e w' => e = .returned (.int .i64 (m - ((n + tot xss : Nat) : Int))) ∧ Below w.heap.size w w' := by
  have hb0 := box_below w (.cells #[.slice A n c] 53)
  have CON := Lib.hid (sz_Int64SS (c := c) (h.below hb0) hm)
  have HB0 := Lib.hid hb0
  obtain ⟨h1, h2⟩ := hm
  have h4 : 0 ≤ m - ((n + tot xss : Nat) : Int) := by omega
  clear h hb0
  go_enter Try.func45, Try.ntmps45
  go_wp2_with fail
  refine CON.out.mono ?_
  rintro e w1 ⟨rfl, hb⟩
  have HB := Lib.hid (HB0.out.trans (hb.mono HB0.out.size))
  clear hb
  go_wp2
  go_ret
  exact ⟨rfl, HB.out⟩

theorem szno_Squares {A n c vs xss} {w} {m : Int} (h : RS w A n vs xss) (hm : m < ((n + tot xss : Nat) : Int) ∧ 0 ≤ m ∧ m ≤ 1048576) :
    Calls Try.prog 45 #[.agg #[.slice A n c], .int .i64 m] w fun e w' => e = .returned (.int .i64 (-1)) ∧ Below w.heap.size w w' := by
  have hb0 := box_below w (.cells #[.slice A n c] 53)
  have CON := Lib.hid (szno_Int64SS (c := c) (h.below hb0) hm)
  have HB0 := Lib.hid hb0
  obtain ⟨h1, h2, h3⟩ := hm
  skip
  clear h hb0
  go_enter Try.func45, Try.ntmps45
  go_wp2_with fail
  refine CON.out.mono ?_
  rintro e w1 ⟨rfl, hb⟩
  have HB := Lib.hid (HB0.out.trans (hb.mono HB0.out.size))
  clear hb
  go_wp2
  go_ret
  exact ⟨rfl, HB.out⟩

set_option maxHeartbeats 400000 in
theorem to_Squares {A n c vs xss} {w} (h : RS w A n vs xss) (hn : n + tot xss ≤ 1048576) :
    Calls Try.prog 47 #[.agg #[.slice A n c]] w fun e w' => ∃ g us, e = .returned (.agg #[.slice (some ⟨g, 0, none⟩) n n]) ∧ OwnS w' w.heap.size (some ⟨g, 0, none⟩) n n us xss ∧ Below w.heap.size w w' := by
  have CON := Lib.hid (fun w1 (hb : Below w.heap.size w w1) => to_Int64SS (c := c) (h.below hb) hn)
  clear h hn
  go_enter Try.func47, Try.ntmps47
  go_wp2_with fail
  refine (CON.out _ (by first | exact (((Below.refl _ _).alloc (Nat.le_refl _) _).alloc (by simp) _).alloc (by simp; omega) _ | exact ((((Below.refl _ _).alloc (Nat.le_refl _) _).alloc (by simp) _).alloc (by simp; omega) _).setCell (by simp) _)).mono ?_
  rintro e w1 ⟨g, us, rfl, ho, hb⟩
  obtain ⟨hc, hf⟩ := bcell hb
  have hz := hb.size
  simp at hz
  go_wp2
  refine bodyPost_ret (v := .agg #[.slice (some ⟨g, 0, none⟩) n n]) (by simp [results, Try.results47, go_sem, hc]) rfl ⟨g, us, rfl, ?_, ?_⟩
  · exact ((((ho).setFar _ _ (by simp)).setFar _ _ (by simp)).mono (by simp; omega))
  · exact (((((((Below.refl _ _).alloc (Nat.le_refl _) _).alloc (by simp) _).alloc (by simp; omega) _).trans (hb.mono (by simp; omega))).setCell (by simp; try omega) _).setCell (by simp; try omega) _)

theorem eq_Squares {A B n c d vs us xss} {w} (h : RS w A n vs xss) (g : RS w B n us xss) :
    Calls Try.prog 49 #[.agg #[.slice A n c], .agg #[.slice B n d]] w fun e w' => e = .returned (.bool true) ∧ Below w.heap.size w w' := by
  have CON := Lib.hid (fun w1 (hb : Below w.heap.size w w1) => eq_Int64SS (c := c) (d := d) (h.below hb) (g.below hb))
  clear h g
  go_enter Try.func49, Try.ntmps49
  go_wp2_with fail
  refine (CON.out _ (((Below.refl _ _).alloc (Nat.le_refl _) _).alloc (by simp) _)).mono ?_
  rintro e w1 ⟨rfl, hb⟩
  have HB := Lib.hid ((((Below.refl _ _).alloc (Nat.le_refl _) _).alloc (by simp) _).trans (hb.mono (by simp; omega)) : Below w.heap.size w w1)
  clear hb
  go_wp2
  go_ret
  exact ⟨rfl, HB.out⟩

theorem sz_Milnor {A n c vs xss} {w} {m : Int} (h : RS w A n vs xss) (hm : ((n + tot xss : Nat) : Int) ≤ m ∧ m ≤ 1048576) :
    Calls Try.prog 50 #[.agg #[.slice A n c], .int .i64 m] w fun e w' => e = .returned (.int .i64 (m - ((n + tot xss : Nat) : Int))) ∧ Below w.heap.size w w' := by
  have hb0 := box_below w (.cells #[.slice A n c] 60)
  have CON := Lib.hid (sz_Int64SS (c := c) (h.below hb0) hm)
  have HB0 := Lib.hid hb0
  obtain ⟨h1, h2⟩ := hm
  have h4 : 0 ≤ m - ((n + tot xss : Nat) : Int) := by omega
  clear h hb0
  go_enter Try.func50, Try.ntmps50
  go_wp2_with fail
  refine CON.out.mono ?_
  rintro e w1 ⟨rfl, hb⟩
  have HB := Lib.hid (HB0.out.trans (hb.mono HB0.out.size))
  clear hb
  go_wp2
  go_ret
  exact ⟨rfl, HB.out⟩

theorem szno_Milnor {A n c vs xss} {w} {m : Int} (h : RS w A n vs xss) (hm : m < ((n + tot xss : Nat) : Int) ∧ 0 ≤ m ∧ m ≤ 1048576) :
    Calls Try.prog 50 #[.agg #[.slice A n c], .int .i64 m] w fun e w' => e = .returned (.int .i64 (-1)) ∧ Below w.heap.size w w' := by
  have hb0 := box_below w (.cells #[.slice A n c] 60)
  have CON := Lib.hid (szno_Int64SS (c := c) (h.below hb0) hm)
  have HB0 := Lib.hid hb0
  obtain ⟨h1, h2, h3⟩ := hm
  skip
  clear h hb0
  go_enter Try.func50, Try.ntmps50
  go_wp2_with fail
  refine CON.out.mono ?_
  rintro e w1 ⟨rfl, hb⟩
  have HB := Lib.hid (HB0.out.trans (hb.mono HB0.out.size))
  clear hb
  go_wp2
  go_ret
  exact ⟨rfl, HB.out⟩

set_option maxHeartbeats 400000 in
theorem to_Milnor {A n c vs xss} {w} (h : RS w A n vs xss) (hn : n + tot xss ≤ 1048576) :
    Calls Try.prog 52 #[.agg #[.slice A n c]] w fun e w' => ∃ g us, e = .returned (.agg #[.slice (some ⟨g, 0, none⟩) n n]) ∧ OwnS w' w.heap.size (some ⟨g, 0, none⟩) n n us xss ∧ Below w.heap.size w w' := by
  have CON := Lib.hid (fun w1 (hb : Below w.heap.size w w1) => to_Int64SS (c := c) (h.below hb) hn)
  clear h hn
  go_enter Try.func52, Try.ntmps52
  go_wp2_with fail
  refine (CON.out _ (by first | exact (((Below.refl _ _).alloc (Nat.le_refl _) _).alloc (by simp) _).alloc (by simp; omega) _ | exact ((((Below.refl _ _).alloc (Nat.le_refl _) _).alloc (by simp) _).alloc (by simp; omega) _).setCell (by simp) _)).mono ?_
  rintro e w1 ⟨g, us, rfl, ho, hb⟩
  obtain ⟨hc, hf⟩ := bcell hb
  have hz := hb.size
  simp at hz
  go_wp2
  refine bodyPost_ret (v := .agg #[.slice (some ⟨g, 0, none⟩) n n]) (by simp [results, Try.results52, go_sem, hc]) rfl ⟨g, us, rfl, ?_, ?_⟩
  · exact ((((ho).setFar _ _ (by simp)).setFar _ _ (by simp)).mono (by simp; omega))
  · exact (((((((Below.refl _ _).alloc (Nat.le_refl _) _).alloc (by simp) _).alloc (by simp; omega) _).trans (hb.mono (by simp; omega))).setCell (by simp; try omega) _).setCell (by simp; try omega) _)

theorem eq_Milnor {A B n c d vs us xss} {w} (h : RS w A n vs xss) (g : RS w B n us xss) :
    Calls Try.prog 20 #[.agg #[.slice A n c], .agg #[.slice B n d]] w fun e w' => e = .returned (.bool true) ∧ Below w.heap.size w w' := by
  have CON := Lib.hid (fun w1 (hb : Below w.heap.size w w1) => eq_Int64SS (c := c) (d := d) (h.below hb) (g.below hb))
  clear h g
  go_enter Try.func20, Try.ntmps20
  go_wp2_with fail
  refine (CON.out _ (((Below.refl _ _).alloc (Nat.le_refl _) _).alloc (by simp) _)).mono ?_
  rintro e w1 ⟨rfl, hb⟩
  have HB := Lib.hid ((((Below.refl _ _).alloc (Nat.le_refl _) _).alloc (by simp) _).trans (hb.mono (by simp; omega)) : Below w.heap.size w w1)
  clear hb
  go_wp2
  go_ret
  exact ⟨rfl, HB.out⟩

theorem mark_Milnor {B L A n c vs xss} {k0 : Int} {w} (h : OwnS w B A n c vs xss) (hin : InS A n vs L) (hk0 : 0 ≤ k0) (hk : k0 + (tot xss : Int) ≤ 9223372036854775000) :
    Calls Try.prog 21 #[.agg #[.slice A n c], .int .i64 k0] w fun e w' => e = .returned (.int .i64 (k0 + (tot xss : Int))) ∧ OwnS w' B A n c vs (marksS k0 xss) ∧ Mid B L w w' := by
  have CON := Lib.hid (mark_Int64SS (c := c) (h.alloc (.cells #[.slice A n c] 24)) hin hk0 hk)
  clear h hin
  go_enter Try.func21, Try.ntmps21
  go_wp2_with fail
  refine CON.out.mono ?_
  rintro e w1 ⟨rfl, ho, hm⟩
  have HO := Lib.hid ho
  have HM := Lib.hid (mid_box hm)
  clear ho hm
  go_wp2
  go_ret
  exact ⟨rfl, HO.out, HM.out⟩

theorem held_Milnor {A n c vs xss} {k0 : Int} {w} (h : RS w A n vs (marksS k0 xss)) (hk0 : 0 ≤ k0) (hk : k0 + (tot xss : Int) ≤ 9223372036854775000) :
    Calls Try.prog 22 #[.agg #[.slice A n c], .int .i64 k0] w fun e w' => e = .returned (.int .i64 (k0 + (tot xss : Int))) ∧ Below w.heap.size w w' := by
  have hb0 := box_below w (.cells #[.slice A n c] 24)
  have CON := Lib.hid (held_Int64SS (c := c) (h.below hb0) hk0 hk)
  have HB0 := Lib.hid hb0
  have h5 : 0 ≤ k0 + (tot xss : Int) := by omega
  clear h hb0
  go_enter Try.func22, Try.ntmps22
  go_wp2_with fail
  refine CON.out.mono ?_
  rintro e w1 ⟨rfl, hb⟩
  have HB := Lib.hid (HB0.out.trans (hb.mono HB0.out.size))
  clear hb
  go_wp2
  go_ret
  exact ⟨rfl, HB.out⟩

theorem sz_Dual {A n c vs xss} {w} {m : Int} (h : RS w A n vs xss) (hm : ((n + tot xss : Nat) : Int) ≤ m ∧ m ≤ 1048576) :
    Calls Try.prog 59 #[.agg #[.slice A n c], .int .i64 m] w fun e w' => e = .returned (.int .i64 (m - ((n + tot xss : Nat) : Int))) ∧ Below w.heap.size w w' := by
  have hb0 := box_below w (.cells #[.slice A n c] 73)
  have CON := Lib.hid (sz_Int64SS (c := c) (h.below hb0) hm)
  have HB0 := Lib.hid hb0
  obtain ⟨h1, h2⟩ := hm
  have h4 : 0 ≤ m - ((n + tot xss : Nat) : Int) := by omega
  clear h hb0
  go_enter Try.func59, Try.ntmps59
  go_wp2_with fail
  refine CON.out.mono ?_
  rintro e w1 ⟨rfl, hb⟩
  have HB := Lib.hid (HB0.out.trans (hb.mono HB0.out.size))
  clear hb
  go_wp2
  go_ret
  exact ⟨rfl, HB.out⟩

theorem szno_Dual {A n c vs xss} {w} {m : Int} (h : RS w A n vs xss) (hm : m < ((n + tot xss : Nat) : Int) ∧ 0 ≤ m ∧ m ≤ 1048576) :
    Calls Try.prog 59 #[.agg #[.slice A n c], .int .i64 m] w fun e w' => e = .returned (.int .i64 (-1)) ∧ Below w.heap.size w w' := by
  have hb0 := box_below w (.cells #[.slice A n c] 73)
  have CON := Lib.hid (szno_Int64SS (c := c) (h.below hb0) hm)
  have HB0 := Lib.hid hb0
  obtain ⟨h1, h2, h3⟩ := hm
  skip
  clear h hb0
  go_enter Try.func59, Try.ntmps59
  go_wp2_with fail
  refine CON.out.mono ?_
  rintro e w1 ⟨rfl, hb⟩
  have HB := Lib.hid (HB0.out.trans (hb.mono HB0.out.size))
  clear hb
  go_wp2
  go_ret
  exact ⟨rfl, HB.out⟩

set_option maxHeartbeats 400000 in
theorem to_Dual {A n c vs xss} {w} (h : RS w A n vs xss) (hn : n + tot xss ≤ 1048576) :
    Calls Try.prog 61 #[.agg #[.slice A n c]] w fun e w' => ∃ g us, e = .returned (.agg #[.slice (some ⟨g, 0, none⟩) n n]) ∧ OwnS w' w.heap.size (some ⟨g, 0, none⟩) n n us xss ∧ Below w.heap.size w w' := by
  have CON := Lib.hid (fun w1 (hb : Below w.heap.size w w1) => to_Int64SS (c := c) (h.below hb) hn)
  clear h hn
  go_enter Try.func61, Try.ntmps61
  go_wp2_with fail
  refine (CON.out _ (by first | exact (((Below.refl _ _).alloc (Nat.le_refl _) _).alloc (by simp) _).alloc (by simp; omega) _ | exact ((((Below.refl _ _).alloc (Nat.le_refl _) _).alloc (by simp) _).alloc (by simp; omega) _).setCell (by simp) _)).mono ?_
  rintro e w1 ⟨g, us, rfl, ho, hb⟩
  obtain ⟨hc, hf⟩ := bcell hb
  have hz := hb.size
  simp at hz
  go_wp2
  refine bodyPost_ret (v := .agg #[.slice (some ⟨g, 0, none⟩) n n]) (by simp [results, Try.results61, go_sem, hc]) rfl ⟨g, us, rfl, ?_, ?_⟩
  · exact ((((ho).setFar _ _ (by simp)).setFar _ _ (by simp)).mono (by simp; omega))
  · exact (((((((Below.refl _ _).alloc (Nat.le_refl _) _).alloc (by simp) _).alloc (by simp; omega) _).trans (hb.mono (by simp; omega))).setCell (by simp; try omega) _).setCell (by simp; try omega) _)

theorem eq_Dual {A B n c d vs us xss} {w} (h : RS w A n vs xss) (g : RS w B n us xss) :
    Calls Try.prog 63 #[.agg #[.slice A n c], .agg #[.slice B n d]] w fun e w' => e = .returned (.bool true) ∧ Below w.heap.size w w' := by
  have CON := Lib.hid (fun w1 (hb : Below w.heap.size w w1) => eq_Int64SS (c := c) (d := d) (h.below hb) (g.below hb))
  clear h g
  go_enter Try.func63, Try.ntmps63
  go_wp2_with fail
  refine (CON.out _ (((Below.refl _ _).alloc (Nat.le_refl _) _).alloc (by simp) _)).mono ?_
  rintro e w1 ⟨rfl, hb⟩
  have HB := Lib.hid ((((Below.refl _ _).alloc (Nat.le_refl _) _).alloc (by simp) _).trans (hb.mono (by simp; omega)) : Below w.heap.size w w1)
  clear hb
  go_wp2
  go_ret
  exact ⟨rfl, HB.out⟩

theorem sz_Poly {k : Int} {A n c vs xss} {w} {m : Int} (h : RS w A n vs xss) (hm : ((n + tot xss : Nat) : Int) ≤ m ∧ m ≤ 1048576) :
    Calls Try.prog 54 #[.agg #[.int .i64 k, .slice A n c], .int .i64 m] w fun e w' => e = .returned (.int .i64 (m - ((n + tot xss : Nat) : Int))) ∧ Below w.heap.size w w' := by
  have hb0 := box_below w (.cells #[.int .i64 k, .slice A n c] 66)
  have CON := Lib.hid (sz_Int64SS (c := c) (h.below hb0) hm)
  have HB0 := Lib.hid hb0
  obtain ⟨h1, h2⟩ := hm
  have h4 : 0 ≤ m - ((n + tot xss : Nat) : Int) := by omega
  clear h hb0
  go_enter Try.func54, Try.ntmps54
  go_wp2_with fail
  refine CON.out.mono ?_
  rintro e w1 ⟨rfl, hb⟩
  have HB := Lib.hid (HB0.out.trans (hb.mono HB0.out.size))
  clear hb
  go_wp2
  go_ret
  exact ⟨rfl, HB.out⟩

theorem szno_Poly {k : Int} {A n c vs xss} {w} {m : Int} (h : RS w A n vs xss) (hm : m < ((n + tot xss : Nat) : Int) ∧ 0 ≤ m ∧ m ≤ 1048576) :
    Calls Try.prog 54 #[.agg #[.int .i64 k, .slice A n c], .int .i64 m] w fun e w' => e = .returned (.int .i64 (-1)) ∧ Below w.heap.size w w' := by
  have hb0 := box_below w (.cells #[.int .i64 k, .slice A n c] 66)
  have CON := Lib.hid (szno_Int64SS (c := c) (h.below hb0) hm)
  have HB0 := Lib.hid hb0
  obtain ⟨h1, h2, h3⟩ := hm
  skip
  clear h hb0
  go_enter Try.func54, Try.ntmps54
  go_wp2_with fail
  refine CON.out.mono ?_
  rintro e w1 ⟨rfl, hb⟩
  have HB := Lib.hid (HB0.out.trans (hb.mono HB0.out.size))
  clear hb
  go_wp2
  go_ret
  exact ⟨rfl, HB.out⟩

set_option maxHeartbeats 400000 in
theorem to_Poly {k : Int} {A n c vs xss} {w} (h : RS w A n vs xss) (hn : n + tot xss ≤ 1048576) :
    Calls Try.prog 56 #[.agg #[.int .i64 k, .slice A n c]] w fun e w' => ∃ g us, e = .returned (.agg #[.int .i64 k, .slice (some ⟨g, 0, none⟩) n n]) ∧ OwnS w' w.heap.size (some ⟨g, 0, none⟩) n n us xss ∧ Below w.heap.size w w' := by
  have CON := Lib.hid (fun w1 (hb : Below w.heap.size w w1) => to_Int64SS (c := c) (h.below hb) hn)
  clear h hn
  go_enter Try.func56, Try.ntmps56
  go_wp2_with fail
  refine (CON.out _ (by first | exact (((Below.refl _ _).alloc (Nat.le_refl _) _).alloc (by simp) _).alloc (by simp; omega) _ | exact ((((Below.refl _ _).alloc (Nat.le_refl _) _).alloc (by simp) _).alloc (by simp; omega) _).setCell (by simp) _)).mono ?_
  rintro e w1 ⟨g, us, rfl, ho, hb⟩
  obtain ⟨hc, hf⟩ := bcell hb
  have hz := hb.size
  simp at hz
  go_wp2
  refine bodyPost_ret (v := .agg #[.int .i64 k, .slice (some ⟨g, 0, none⟩) n n]) (by simp [results, Try.results56, go_sem, hc]) rfl ⟨g, us, rfl, ?_, ?_⟩
  · exact (((((ho).setFar _ _ (by simp)).setFar _ _ (by simp)).setFar _ _ (by simp)).mono (by simp; omega))
  · exact ((((((((Below.refl _ _).alloc (Nat.le_refl _) _).alloc (by simp) _).alloc (by simp; omega) _).trans (hb.mono (by simp; omega))).setCell (by simp; try omega) _).setCell (by simp; try omega) _).setCell (by simp; try omega) _)

theorem eq_Poly {k : Int} {A B n c d vs us xss} {w} (h : RS w A n vs xss) (g : RS w B n us xss) :
    Calls Try.prog 58 #[.agg #[.int .i64 k, .slice A n c], .agg #[.int .i64 k, .slice B n d]] w fun e w' => e = .returned (.bool true) ∧ Below w.heap.size w w' := by
  have CON := Lib.hid (fun w1 (hb : Below w.heap.size w w1) => eq_Int64SS (c := c) (d := d) (h.below hb) (g.below hb))
  clear h g
  go_enter Try.func58, Try.ntmps58
  go_wp2_with fail
  refine (CON.out _ (((Below.refl _ _).alloc (Nat.le_refl _) _).alloc (by simp) _)).mono ?_
  rintro e w1 ⟨rfl, hb⟩
  have HB := Lib.hid ((((Below.refl _ _).alloc (Nat.le_refl _) _).alloc (by simp) _).trans (hb.mono (by simp; omega)) : Below w.heap.size w w1)
  clear hb
  go_wp2
  go_ret
  exact ⟨rfl, HB.out⟩

end Go.Proofs.Ytindhmgfadipnaa
