/- The statements' own helpers to.., eq.., mark.., held.., sz.. for lists, lists of lists and the structs over them, all in one form. -/
import Derived.Test.YtijdlejngdhpjaaDoorArgS
import Derived.Test.YtijdlejngdhpjaaDoorHelpS
import Derived.Test.YtijdlejngdhpjaaDoorAppS
namespace Go.Proofs.YtijdlejngdhpjaaDoor
open Go.ChangeShapes Go.WideShapes Go.ChangeAt Go.RowKit
set_option linter.unusedVariables false

theorem bcell {W w1 : World} (hb : Below W.heap.size W w1) : (∀ b o, b < W.heap.size → w1.cell? ⟨b, o, none⟩ = W.cell? ⟨b, o, none⟩) ∧ (∀ b o, b < W.heap.size → w1.frozen? ⟨b, o, none⟩ = W.frozen? ⟨b, o, none⟩) :=
  ⟨fun b o h => hb.cell (p := ⟨b, o, none⟩) h, fun b o h => hb.frozen (p := ⟨b, o, none⟩) h⟩

theorem box_below (w : World) (o : Obj) : Below w.heap.size w (w.alloc o) := (Below.refl _ _).alloc (Nat.le_refl _) _

/-- all its blocks lie below L -/
def InL (A : Option Addr) (L : Nat) : Prop := ∀ k, A.map (·.block) = some k → k < L

theorem OwnI.ins {w B A n c xs} (h : OwnI w B A n c xs) : InL A w.heap.size := fun k hk => h.row_lt hk

theorem OwnS.ins {w B A n c vs xss} (h : OwnS w B A n c vs xss) : InS A n vs w.heap.size := h.inS

theorem mid_box {B L : Nat} {w w' : World} {o : Obj} (h : Mid B L (w.alloc o) w') : Mid B L w w' :=
  ⟨h.os, h.tape, h.output, Nat.le_trans (by simp) h.size, fun k hk hh => (h.block k (Nat.lt_of_lt_of_le hk (by simp)) hh).trans (Below.heap_alloc w o k hk)⟩

theorem Below.undrawn0 {B : Nat} {a w : World} (h : Below B a w) {n : Nat} : Below B a (w.drewN n) := ⟨h.os, h.tape, h.output, h.size, h.block⟩

theorem Mid.cell {B L : Nat} {w w' : World} (h : Mid B L w w') {p : Addr} (hp : p.block < w.heap.size) (hh : p.block < B ∨ L ≤ p.block) : w'.cell? p = w.cell? p :=
  World.cell?_of_block (h.block p.block hp hh)

theorem set_grown (w : World) (p : Addr) (u : Value) : w.grownBy (w.setCell p u) (some p.block) :=
  ⟨rfl, rfl, rfl, by simp [World.setCell], fun i _ hne => Below.heap_setCell w p u i (by
    rintro rfl
    exact hne rfl)⟩

theorem OwnI.setFar {w B A n c xs} (h : OwnI w B A n c xs) (p : Addr) (u : Value) (hp : p.block < B) : OwnI (w.setCell p u) B A n c xs :=
  h.grown_far (set_grown w p u) (fun k hk => by cases hk; exact hp)

theorem OwnS.setFar {w B A n c vs xss} (h : OwnS w B A n c vs xss) (p : Addr) (u : Value) (hp : p.block < B) : OwnS (w.setCell p u) B A n c vs xss :=
  h.grown_far (set_grown w p u) (fun k hk => by cases hk; exact hp)

theorem sz_Int64S {A n c xs m w} (h : RI w A n xs) (hm : (n : Int) ≤ m ∧ m ≤ 1048576) :
    Calls Tryd.prog 43 #[.slice A n c, .int .i64 m] w fun e w' => e = .returned (.int .i64 (m - (n : Int))) ∧ Below w.heap.size w w' := by
  obtain ⟨h1, h2⟩ := hm
  have h3 : 0 ≤ m - (n : Int) := by omega
  clear h
  go_enter Tryd.func43, Tryd.ntmps43
  go_wp2
  go_ret
  exact ⟨rfl, Below.refl _ _⟩

theorem szno_Int64S {A n c xs m w} (h : RI w A n xs) (hm : m < (n : Int) ∧ 0 ≤ m ∧ m ≤ 1048576) :
    Calls Tryd.prog 43 #[.slice A n c, .int .i64 m] w fun e w' => e = .returned (.int .i64 (-1)) ∧ Below w.heap.size w w' := by
  obtain ⟨h1, h2, h4⟩ := hm
  have h3 : m - (n : Int) < 0 := by omega
  have hs := h.small
  clear h
  go_enter Tryd.func43, Tryd.ntmps43
  go_wp2
  go_ret
  exact ⟨rfl, Below.refl _ _⟩

theorem tot_take_succ (xss : List (List Int)) (j : Nat) (h : j < xss.length) : tot (xss.take (j + 1)) = tot (xss.take j) + (xss.getD j []).length := by
  rw [take_snocS xss j h, tot_append]; simp [tot]

set_option maxHeartbeats 400000 in
theorem sz_Int64SS {A n c vs xss m w} (h : RS w A n vs xss) (hm : ((n + tot xss : Nat) : Int) ≤ m ∧ m ≤ 1048576) :
    Calls Tryd.prog 23 #[.slice A n c, .int .i64 m] w fun e w' => e = .returned (.int .i64 (m - ((n + tot xss : Nat) : Int))) ∧ Below w.heap.size w w' := by
  obtain ⟨h1, h2⟩ := hm
  have h3 : 0 ≤ m - (n : Int) := by omega
  have hl := h.len
  have H := Lib.hid h
  have hs := h.small
  have hnm : (n : Int) ≤ m := by omega
  clear h
  go_enter Tryd.func23, Tryd.ntmps23
  go_wp2
  go_loopw [1, 5] (fun kk i wr => ∃ j : Nat, j ≤ n ∧ i = .int .i64 j ∧ kk = .int .i64 (m - (n : Int) - (tot (xss.take j) : Int)) ∧ Below w.heap.size w wr) (fun _ i _ => n - (intOf i).toNat)
  case atStart => exact ⟨0, Nat.zero_le _, rfl, by simp [tot], Below.refl _ _⟩
  case round =>
    obtain ⟨j, hj, rfl, rfl, hb⟩ := hrel
    by_cases hlt : j < n
    · obtain ⟨b, off, rfl, _, hc⟩ := (H.out.below hb).at_ hlt
      have hrow := (H.out.below hb).row hlt
      have hts := tot_take_succ xss j (by omega)
      have htt := tot_take_le xss (j + 1)
      have hrl := hrow.len
      generalize vs.getD j nilS = v at *
      obtain ⟨vA, vn, vc⟩ := v
      simp only at hrow hrl
      simp only [sv] at hc
      rw [hrl] at hts
      have HTS := Lib.hid hts
      have CON := Lib.hid (sz_Int64S (c := vc) (m := m - (n : Int) - (tot (xss.take j) : Int)) hrow (by omega))
      have HB := Lib.hid hb
      have hp1 : 0 ≤ m - (n : Int) - (tot (xss.take j) : Int) - (vn : Int) := by omega
      have hlt' : (j : Int) < (n : Int) := by omega
      clear hrow hts hrl hb htt
      go_wp2_with fail
      refine CON.out.mono ?_
      rintro e w1 ⟨rfl, hb1⟩
      have HB1 := Lib.hid (HB.out.trans (hb1.mono HB.out.size))
      clear hb1
      go_wp2
      go_roundw
      case rel => exact ⟨j + 1, by omega, by go_num, by rw [HTS.out]; exact congrArg (Value.int .i64) (by omega), HB1.out⟩
      case measure => simp [intOf]; omega
    · obtain rfl : j = n := by omega
      have HE := Lib.hid (show xss.take j = xss by rw [← hl]; exact List.take_length)
      have HB := Lib.hid hb
      clear hb
      go_wp2
      go_ret
      exact ⟨by rw [HE.out]; exact congrArg (fun x => Ending.returned (Value.int .i64 x)) (by omega), HB.out⟩

set_option maxHeartbeats 400000 in
theorem szno_Int64SS {A n c vs xss m w} (h : RS w A n vs xss) (hm : m < ((n + tot xss : Nat) : Int) ∧ 0 ≤ m ∧ m ≤ 1048576) :
    Calls Tryd.prog 23 #[.slice A n c, .int .i64 m] w fun e w' => e = .returned (.int .i64 (-1)) ∧ Below w.heap.size w w' := by
  obtain ⟨h1, h2, h5⟩ := hm
  have hl := h.len
  have H := Lib.hid h
  have hs := h.small
  by_cases hnm : m < (n : Int)
  · have h3 : m - (n : Int) < 0 := by omega
    clear h hl
    go_enter Tryd.func23, Tryd.ntmps23
    go_wp2
    go_ret
    exact ⟨rfl, Below.refl _ _⟩
  · have h3 : 0 ≤ m - (n : Int) := by omega
    clear h
    go_enter Tryd.func23, Tryd.ntmps23
    go_wp2
    go_loopw [1, 5] (fun kk i wr => ∃ j : Nat, j ≤ n ∧ i = .int .i64 j ∧ kk = .int .i64 (m - (n : Int) - (tot (xss.take j) : Int)) ∧ 0 ≤ m - (n : Int) - (tot (xss.take j) : Int) ∧ Below w.heap.size w wr) (fun _ i _ => n - (intOf i).toNat)
    case atStart => exact ⟨0, Nat.zero_le _, rfl, by simp [tot], by simp [tot]; omega, Below.refl _ _⟩
    case round =>
      obtain ⟨j, hj, rfl, rfl, hpos, hb⟩ := hrel
      by_cases hlt : j < n
      · obtain ⟨b, off, rfl, _, hc⟩ := (H.out.below hb).at_ hlt
        have hrow := (H.out.below hb).row hlt
        have hts := tot_take_succ xss j (by omega)
        have hrl := hrow.len
        generalize vs.getD j nilS = v at *
        obtain ⟨vA, vn, vc⟩ := v
        simp only at hrow hrl
        simp only [sv] at hc
        rw [hrl] at hts
        have HTS := Lib.hid hts
        have HB := Lib.hid hb
        have hlt' : (j : Int) < (n : Int) := by omega
        clear hts hrl hb
        by_cases hfit : (vn : Int) ≤ m - (n : Int) - (tot (xss.take j) : Int)
        · have CON := Lib.hid (sz_Int64S (c := vc) (m := m - (n : Int) - (tot (xss.take j) : Int)) hrow (by omega))
          have hp1 : 0 ≤ m - (n : Int) - (tot (xss.take j) : Int) - (vn : Int) := by omega
          clear hrow
          go_wp2_with fail
          refine CON.out.mono ?_
          rintro e w1 ⟨rfl, hb1⟩
          have HB1 := Lib.hid (HB.out.trans (hb1.mono HB.out.size))
          clear hb1
          go_wp2
          go_roundw
          case rel => exact ⟨j + 1, by omega, by go_num, by rw [HTS.out]; exact congrArg (Value.int .i64) (by omega), by rw [HTS.out]; omega, HB1.out⟩
          case measure => simp [intOf]; omega
        · have CON := Lib.hid (szno_Int64S (c := vc) (m := m - (n : Int) - (tot (xss.take j) : Int)) hrow (by omega))
          clear hrow
          go_wp2_with fail
          refine CON.out.mono ?_
          rintro e w1 ⟨rfl, hb1⟩
          have HB1 := Lib.hid (HB.out.trans (hb1.mono HB.out.size))
          clear hb1
          go_wp2
          go_ret
          exact ⟨rfl, HB1.out⟩
      · obtain rfl : j = n := by omega
        rw [show xss.take j = xss by rw [← hl]; exact List.take_length] at hpos
        omega

theorem to_Int64S {A n c xs w} (h : RI w A n xs) (hn : n ≤ 1048576) :
    Calls Tryd.prog 45 #[.slice A n c] w fun e w' => ∃ g, e = .returned (.slice (some ⟨g, 0, none⟩) n n) ∧ OwnI w' w.heap.size (some ⟨g, 0, none⟩) n n xs ∧ Below w.heap.size w w' := to_any A n c xs w h hn

theorem eq_Int64S {A B n c d xs w} (h : RI w A n xs) (g : RI w B n xs) :
    Calls Tryd.prog 40 #[.slice A n c, .slice B n d] w fun e w' => e = .returned (.bool true) ∧ Below w.heap.size w w' := eq_same A B n c d xs w h g

theorem mark_Int64S {B L A n c xs} {k0 : Int} {w} (h : OwnI w B A n c xs) (hin : InL A L) (hk0 : 0 ≤ k0) (hk : k0 + n ≤ 9223372036854775000) :
    Calls Tryd.prog 41 #[.slice A n c, .int .i64 k0] w fun e w' => e = .returned (.int .i64 (k0 + (n : Int))) ∧ OwnI w' B A n c (marks k0 n) ∧ Mid B L w w' :=
  (mark_any B A n c xs k0 w h hk0 hk).mono fun _ _ ⟨he, ho, hg⟩ => ⟨he, ho, Mid.of_grown hg (fun k hk => h.row_ge hk) hin⟩

theorem held_Int64S {A n c} {k0 : Int} {w} (h : RI w A n (marks k0 n)) (hk0 : 0 ≤ k0) (hk : k0 + n ≤ 9223372036854775000) :
    Calls Tryd.prog 42 #[.slice A n c, .int .i64 k0] w fun e w' => e = .returned (.int .i64 (k0 + (n : Int))) ∧ Below w.heap.size w w' := held_any A n c k0 w h hk0 hk

theorem eq_Int64SS {A B n c d vs us xss w} (h : RS w A n vs xss) (g : RS w B n us xss) :
    Calls Tryd.prog 20 #[.slice A n c, .slice B n d] w fun e w' => e = .returned (.bool true) ∧ Below w.heap.size w w' := eqS_same A B n c d vs us xss w h g

theorem mark_Int64SS {B L A n c vs xss} {k0 : Int} {w} (h : OwnS w B A n c vs xss) (hin : InS A n vs L) (hk0 : 0 ≤ k0) (hk : k0 + (tot xss : Int) ≤ 9223372036854775000) :
    Calls Tryd.prog 21 #[.slice A n c, .int .i64 k0] w fun e w' => e = .returned (.int .i64 (k0 + (tot xss : Int))) ∧ OwnS w' B A n c vs (marksS k0 xss) ∧ Mid B L w w' :=
  markS_any B L A n c vs xss k0 w h hin hk0 hk

theorem held_Int64SS {A n c vs xss} {k0 : Int} {w} (h : RS w A n vs (marksS k0 xss)) (hk0 : 0 ≤ k0) (hk : k0 + (tot xss : Int) ≤ 9223372036854775000) :
    Calls Tryd.prog 22 #[.slice A n c, .int .i64 k0] w fun e w' => e = .returned (.int .i64 (k0 + (tot xss : Int))) ∧ Below w.heap.size w w' := heldS_any A n c vs xss k0 w h hk0 hk

theorem set_getD_same {α : Type} (l : List α) (i : Nat) (x d : α) (h : i < l.length) : (l.set i x).getD i d = x := by simp [List.getD, h]

theorem set_getD_other {α : Type} (l : List α) (i j : Nat) (x d : α) (h : i ≠ j) : (l.set i x).getD j d = l.getD j d := by simp [List.getD, h]

/-- a row put in its place -/
theorem OwnS.setRow {w B g n c vs xss i} {v : Sl} {ys} (h : OwnS w B (some ⟨g, 0, none⟩) n c vs xss) (hi : i < n) (hy : OwnI w B v.1 v.2.1 v.2.2 ys)
    (hdis : ∀ j, j < n → j ≠ i → ∀ k, (vs.getD j nilS).1.map (·.block) = some k → v.1.map (·.block) ≠ some k) :
    OwnS (w.setCell ⟨g, i, none⟩ (sv v)) B (some ⟨g, 0, none⟩) n c (vs.set i v) (xss.set i ys) := by
  have hs := h.1.stored i (sv v)
  have hvl := h.vlen
  have hl := h.len
  refine ⟨?_, by simp [hl], fun j hj => ?_, fun j k hjk hk b hb => ?_⟩
  · have := hs.1
    rwa [← List.map_set] at this
  · by_cases e : i = j
    · subst e
      rw [set_getD_same _ _ _ _ (by omega), set_getD_same _ _ _ _ (by omega)]
      exact hy.kept_out h hs.2
    · rw [set_getD_other _ _ _ _ _ e, set_getD_other _ _ _ _ _ e]
      exact (h.row hj).kept_out h hs.2
  · by_cases e : i = j
    · subst e
      rw [set_getD_same _ _ _ _ (by omega)] at hb
      rw [set_getD_other _ _ _ _ _ (by omega)]
      intro h2
      exact hdis k hk (by omega) b h2 hb
    · rw [set_getD_other _ _ _ _ _ e] at hb
      by_cases e2 : i = k
      · subst e2
        rw [set_getD_same _ _ _ _ (by omega)]
        exact hdis j (by omega) (by omega) b hb
      · rw [set_getD_other _ _ _ _ _ e2]
        exact h.2.2.2 j k hjk hk b hb

theorem OwnS.frozen {w B g n c vs xss} (h : OwnS w B (some ⟨g, 0, none⟩) n c vs xss) (i : Nat) : w.frozen? ⟨g, i, none⟩ = false := h.1.frozenAt i

theorem OwnI.nil' (w : World) (B : Nat) : OwnI w B nilS.1 nilS.2.1 nilS.2.2 [] := OwnI.nil w B

theorem madeS_own (w : World) (n : Nat) (hn : n ≤ 9223372036854775807) :
    OwnS (w.alloc (.cells (madeCells (Value.slice none 0 0).cells n) 38)) w.heap.size (some ⟨w.heap.size, 0, none⟩) n n (List.replicate n nilS) (List.replicate n []) := by
  have hown := World.ownsRow_lit (base := w.heap.size) (e := 38) (size := 1) w (madeCells (Value.slice none 0 0).cells n) n (Nat.le_refl _) (by unfold maxLen; omega) (by rw [size_madeCells]; omega)
  have hL : (madeCells (Value.slice none 0 0).cells n).toList = (List.replicate n nilS).map sv := by
    show (madeCells #[Value.slice none 0 0] n).toList = _
    rw [toList_madeCells_one]; simp [sv, nilS]
  rw [hL] at hown
  refine ⟨by simpa using hown, by simp, fun i hi => ?_, fun i j hij hj k hk => ?_⟩
  · have e1 : (List.replicate n nilS).getD i nilS = nilS := by simp [List.getD, hi]
    have e2 : (List.replicate n ([] : List Int)).getD i [] = [] := by simp [List.getD, hi]
    rw [e1, e2]
    exact OwnI.nil' _ _
  · have e1 : (List.replicate n nilS).getD i nilS = nilS := by simp [List.getD, show i < n by omega]
    rw [e1] at hk
    cases hk

theorem setRep {α : Type} (l : List α) (d : α) (k n : Nat) (hk : k < n) (hl : l.length = n) : (l.take k ++ List.replicate (n - k) d).set k (l.getD k d) = l.take (k + 1) ++ List.replicate (n - (k + 1)) d := by
  have h2 : k < l.length := by omega
  have e : List.replicate (n - k) d = d :: List.replicate (n - (k + 1)) d := by rw [show n - k = (n - (k + 1)) + 1 by omega, List.replicate_succ]
  have hlen : (l.take k).length = k := by simp; omega
  rw [e, List.set_append, hlen]
  simp only [Nat.lt_irrefl, if_false, Nat.sub_self, List.set_cons_zero]
  rw [List.take_succ_eq_append_getElem h2, List.append_assoc]
  simp [List.getD, h2]

set_option maxHeartbeats 800000 in
theorem to_Int64SS {A n c vs xss w} (h : RS w A n vs xss) (hn : n + tot xss ≤ 1048576) :
    Calls Tryd.prog 25 #[.slice A n c] w fun e w' => ∃ g us, e = .returned (.slice (some ⟨g, 0, none⟩) n n) ∧ OwnS w' w.heap.size (some ⟨g, 0, none⟩) n n us xss ∧ Below w.heap.size w w' := by
  obtain ⟨i0, hi, hz0, hz1, hz2⟩ := info_parts Tryd.infoS
  have hl := h.len
  have hmk := run_make (P := Tryd.prog) w 22 38 i0 (.slice none 0 0) Tryd.underlying22 hi hz0 .i64 .i64 (n : Int) (n : Int) (by omega) (by omega) (by rw [hz2]; omega) (by omega)
  rw [hz1] at hmk
  simp only [Int.toNat_natCast, Nat.mul_one] at hmk
  have hI := madeS_own w n (by omega)
  have hbel : Below w.heap.size w (w.alloc (.cells (madeCells (Value.slice none 0 0).cells n) 38)) := (Below.refl _ _).alloc (Nat.le_refl _) _
  have HI := Lib.hid hI
  have HB := Lib.hid hbel
  clear hi hz0 hz1 hz2 hI hbel
  generalize w.alloc (.cells (madeCells (Value.slice none 0 0).cells n) 38) = W at *
  obtain ⟨g, hg⟩ : ∃ g, g = w.heap.size := ⟨_, rfl⟩
  have hgsz : w.heap.size ≤ g := by omega
  have HI2 := Lib.hid (show OwnS W w.heap.size (some ⟨g, 0, none⟩) n n (List.replicate n nilS) (List.replicate n []) by rw [hg]; exact HI.out)
  rw [← hg] at hmk
  clear hg HI
  have H := Lib.hid h
  clear h
  go_enter Tryd.func25, Tryd.ntmps25
  go_wp2
  clear hmk
  go_loopw [4] (fun i wr => ∃ (k : Nat) (us : List Sl), k ≤ n ∧ i = .int .i64 k ∧ us.length = n ∧ OwnS wr w.heap.size (some ⟨g, 0, none⟩) n n us (xss.take k ++ List.replicate (n - k) []) ∧ Below w.heap.size w wr) (fun i _ => n - (intOf i).toNat)
  case atStart => exact ⟨0, List.replicate n nilS, Nat.zero_le _, rfl, by simp, by simpa using HI2.out, HB.out⟩
  case round =>
    obtain ⟨k, us, hk, rfl, hus, ho, hb⟩ := hrel
    clear HI2 HB
    have HO := Lib.hid ho
    have HBW := Lib.hid hb
    have HUS := Lib.hid hus
    clear ho hb hus
    by_cases hlt : k < n
    · obtain ⟨b, off, rfl, hbl, hc0⟩ := H.out.at_ hlt
      have hrow := H.out.row hlt
      have hc := (HBW.out.cell (p := ⟨b, off + k, none⟩) hbl).trans hc0
      have hlk : (xss.getD k []).length ≤ tot xss := by
        have h1 := tot_take_succ xss k (by omega)
        have h2 := tot_take_le xss (k + 1)
        omega
      have hrl := hrow.len
      have hsetr := setRep xss [] k n hlt hl
      generalize hv : vs.getD k nilS = v at *
      obtain ⟨vA, vn, vc⟩ := v
      simp only at hrow hrl
      simp only [sv] at hc
      have CON := Lib.hid (to_Int64S (c := vc) (hrow.below HBW.out) (by omega))
      have HSET := Lib.hid hsetr
      have hlt' : (k : Int) < (n : Int) := by omega
      clear hrow hc0 hbl hlk hrl hsetr hv
      go_wp2_with fail
      refine CON.out.mono ?_
      rintro e w1 ⟨g1, rfl, ho1, hb1⟩
      have HO1 := Lib.hid (HO.out.below hb1)
      have hc2 := HO1.out.cell hlt
      have hf2 := HO1.out.frozen k
      have HN := Lib.hid (HO1.out.setRow (v := (some ⟨g1, 0, none⟩, vn, vn)) hlt (ho1.mono HBW.out.size) (fun j hj hne b hb hb2 => by
        have h1 := HO.out.inS.2 j hj b hb
        have h2 := ho1.row_ge hb2
        omega))
      rw [HSET.out] at HN
      have HB2 := Lib.hid ((HBW.out.trans (hb1.mono HBW.out.size)).setCell (p := ⟨g, k, none⟩) hgsz (sv (some ⟨g1, 0, none⟩, vn, vn)))
      clear ho1 hb1
      go_wp2
      go_roundw
      case rel => exact ⟨k + 1, _, by omega, by go_num, by simp [HUS.out], HN.out, HB2.out⟩
      case measure => simp [intOf]; omega
    · obtain rfl : k = n := by omega
      have e1 : xss.take k ++ List.replicate (k - k) [] = xss := by simp [← hl]
      rw [e1] at HO
      clear e1
      go_wp2
      go_ret
      exact ⟨_, _, rfl, HO.out, HBW.out⟩

end Go.Proofs.YtijdlejngdhpjaaDoor
