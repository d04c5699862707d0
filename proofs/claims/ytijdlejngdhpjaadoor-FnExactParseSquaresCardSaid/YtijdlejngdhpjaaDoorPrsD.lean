/- The program's readDecimal: a number read from a text. -/
import Derived.Test.YtijdlejngdhpjaaDoorTxtW
import Derived.Test.YtijdlejngdhpjaaDoorShq
import Derived.Test.YtijdlejngdhpjaaDoorRwS
namespace Go.Proofs.YtijdlejngdhpjaaDoor
open Go.ChangeShapes Go.WideShapes Go.ChangeAt Go.RowKit Go.Proofs
set_option linter.unusedVariables false

/-- what the library's functions read of the program's variables -/
structure LW (w : World) : Prop where
  big : 8 ≤ w.heap.size
  tab : Lib.TabIs Tryd.prog w "internal/strconv.uint64pow10" .u64 Lib.pow10Tab
  syn : ∃ tp p, w.var? Tryd.prog "strconv.ErrSyntax" = some #[.iface tp p]
  rng : ∃ tp p, w.var? Tryd.prog "strconv.ErrRange" = some #[.iface tp p]
  max : ∃ m, w.cell? ⟨0, 0, none⟩ = some (.int .i64 m)

theorem var?_below {P : Program} {B g : Nat} {W W' : World} {n : String} {cs : Array Value} (h : Below B W W') (hg : P.globalNamed n = some g) (hgB : g < B) (hv : W.var? P n = some cs) : W'.var? P n = some cs := by
  unfold World.var? at hv ⊢
  simp only [hg, Option.bind_some] at hv ⊢
  rw [h.block g hgB]
  exact hv

theorem Tryd.gTab : Tryd.prog.globalNamed "internal/strconv.uint64pow10" = some 3 := by kernel_rfl
theorem Tryd.gSyn : Tryd.prog.globalNamed "strconv.ErrSyntax" = some 1 := by kernel_rfl
theorem Tryd.gRng : Tryd.prog.globalNamed "strconv.ErrRange" = some 2 := by kernel_rfl

theorem LW.below {w w' : World} (h : LW w) (hb : Below w.heap.size w w') : LW w' := by
  have h8 := h.big
  refine ⟨Nat.le_trans h.big hb.size, var?_below hb Tryd.gTab (by omega) h.tab, ?_, ?_, ?_⟩
  · obtain ⟨tp, p, hv⟩ := h.syn
    exact ⟨tp, p, var?_below hb Tryd.gSyn (by omega) hv⟩
  · obtain ⟨tp, p, hv⟩ := h.rng
    exact ⟨tp, p, var?_below hb Tryd.gRng (by omega) hv⟩
  · obtain ⟨m, hm⟩ := h.max
    exact ⟨m, (hb.cell (p := ⟨0, 0, none⟩) (by show 0 < w.heap.size; omega)).trans hm⟩

/-- the library's ParseInt where the text spells no int64 -/
theorem parse_bad (s : ByteArray) (hs : s.size ≤ 1048576) (hno : ∀ v, Lib.parseIntB 64 s.data.toList ≠ .ok v) (w : World) (h : LW w) :
    Calls Tryd.prog 52 #[.string s, .int .i64 10, .int .i64 64] w fun e w' => ∃ v t q, e = .returned (.tuple #[.int .i64 v, .iface t (.pointer (some q))]) ∧ I64 v ∧ Below w.heap.size w w' := by
  rcases hp : Lib.parseIntB 64 s.data.toList with v | _ | _
  · exact absurd hp (hno v)
  · obtain ⟨tp, p, hv⟩ := h.syn
    refine (Any.strconv_ParseInt_10_at64_syntax_var Tryd.laysC174 s (by omega) hp tp p w hv).mono fun e w' h1 => ?_
    obtain ⟨N, he, _, _, hb⟩ := h1
    exact ⟨_, _, _, he, I64.mk (by decide) (by decide), hb⟩
  · obtain ⟨tp, p, hv⟩ := h.rng
    refine (Any.strconv_ParseInt_10_at64_range_var Tryd.laysC174 s (by omega) hp tp p w hv).mono fun e w' h1 => ?_
    obtain ⟨N, he, _, _, hb⟩ := h1
    exact ⟨_, _, _, he, by unfold Lib.intSat; split <;> exact I64.mk (by decide) (by decide), hb⟩

theorem below_grows (w : World) (k : Nat) (os : Array Obj) : Below w.heap.size w (Sort.grow (w.drewN k) os) :=
  ⟨rfl, rfl, rfl, by show w.heap.size ≤ (w.heap ++ os).size; rw [Array.size_append]; omega, fun j hj => by
    show (w.heap ++ os)[j]? = w.heap[j]?
    rw [Array.getElem?_append_left hj]⟩

theorem impl_decimal_any (x : Int) (h0 : -9223372036854775808 ≤ x) (h1 : x ≤ 9223372036854775807) (w : World) (h : LW w) :
    Calls Tryd.prog 47 #[.int .i64 x] w fun e w' => e = .returned (.string (sB (Lib.itoa x))) ∧ Below w.heap.size w w' := by
  have C := Lib.hid (Tryd.strconv_FormatInt_10 x h0 h1 w h.tab)
  go_enter Tryd.func47, Tryd.ntmps47
  go_wp2_with (go_at_call 63; refine C.out.mono ?_; rintro e w1 ⟨rfl, k, os, rfl⟩)
  go_ret
  exact ⟨rfl, below_grows _ _ _⟩

theorem rdI_bad (l : List UInt8) (hno : ∀ v, Lib.parseIntB 64 l ≠ .ok v) : rdI l = none := by
  unfold rdI
  split
  · rfl
  · split
    · next n hn => exact absurd hn (hno n)
    · rfl

theorem rdI_ok (l : List UInt8) (v : Int) (h15 : ¬ 15 < l.length) (hv : Lib.parseIntB 64 l = .ok v) : rdI l = if 0 ≤ v ∧ Lib.itoa v = l then some v else none := by
  unfold rdI
  rw [if_neg h15, hv]

/-- what ParseInt gives fits -/
theorem parse_fits (l : List UInt8) (v : Int) (hv : Lib.parseIntB 64 l = .ok v) : -9223372036854775808 ≤ v ∧ v ≤ 9223372036854775807 := by
  unfold Lib.parseIntB at hv
  split at hv
  · cases hv
  · next c r =>
    simp only at hv
    split at hv
    · cases hv
    · cases hv
    · next u hu =>
      split at hv
      · cases hv
      · next ha =>
        split at hv
        · cases hv
        · next hb =>
          injection hv with hv
          rw [← hv]
          split
          · next hc =>
            have : ¬ 2 ^ (64 - 1) < u := fun e => hb ⟨hc, e⟩
            omega
          · next hc =>
            have : ¬ 2 ^ (64 - 1) ≤ u := fun e => ha ⟨hc, e⟩
            omega

set_option maxHeartbeats 800000 in
theorem impl_readDecimal (l : List UInt8) (w : World) (hl : l.length ≤ 1048576) (h : LW w) :
    Calls Tryd.prog 34 #[.string (sB l)] w fun e w' => ∃ v, e = .returned (.tuple #[.int .i64 v, .bool (rdI l).isSome]) ∧ (∀ x, rdI l = some x → v = x) ∧ I64 v ∧ Below w.heap.size w w' := by
  have hs : (sB l).size = l.length := sB_size l
  by_cases h15 : 15 < l.length
  · have HF := Lib.hid (show rdI l = none by unfold rdI; rw [if_pos h15])
    have h15' : (15 : Int) < (l.length : Int) := by omega
    clear h
    go_enter Tryd.func34, Tryd.ntmps34
    go_wp2
    go_ret2
    exact ⟨0, by rw [HF.out]; rfl, by rw [HF.out]; (intro x hx; cases hx), I64.mk (by decide) (by decide), Below.refl _ _⟩
  · have h15' : ¬ (15 : Int) < (l.length : Int) := by omega
    by_cases hok : ∃ v, Lib.parseIntB 64 l = .ok v
    · obtain ⟨v, hv⟩ := hok
      have hfit := parse_fits l v hv
      have HRD := Lib.hid (rdI_ok l v h15 hv)
      have CP := Lib.hid (Tryd.strconv_ParseInt_10_at64_ok (sB l) (by rw [hs]; omega) v hv w)
      have CD := Lib.hid (fun w1 (h1 : LW w1) => impl_decimal_any v hfit.1 hfit.2 w1 h1)
      have HL := Lib.hid h
      clear hv h h15
      go_enter Tryd.func34, Tryd.ntmps34
      go_wp2_with fail
      refine CP.out.mono ?_
      rintro e w1 ⟨rfl, hw1⟩
      have hb1 : Below w.heap.size w w1 := by
        rcases hw1 with rfl | ⟨t, rfl⟩
        · exact Below.refl _ _
        · exact Lib.bytesWorld_below _ _ _
      have HB1 := Lib.hid hb1
      have HL1 := Lib.hid (HL.out.below hb1)
      clear hw1 hb1
      by_cases h0 : 0 ≤ v
      · by_cases hq : Lib.itoa v = l
        · have HF := Lib.hid (show rdI l = some v by rw [HRD.out, if_pos ⟨h0, hq⟩])
          have hq' : ((sB (Lib.itoa v)).toList == (sB l).toList) = true := by rw [sB_is, ByteArray.toList_eq, sB_data]; exact decide_eq_true hq
          clear hq
          go_wp2_with fail
          refine (CD.out _ HL1.out).mono ?_
          rintro e w2 ⟨rfl, hb2⟩
          have HB2 := Lib.hid (HB1.out.trans (hb2.mono HB1.out.size))
          clear hb2
          generalize Lib.itoa v = d at *
          go_wp2
          go_ret2
          exact ⟨v, by rw [HF.out]; rfl, by rw [HF.out]; exact fun x hx => Option.some.inj hx, I64.mk hfit.1 hfit.2, HB2.out⟩
        · have HF := Lib.hid (show rdI l = none by rw [HRD.out, if_neg (fun e => hq e.2)])
          have hq' : ((sB (Lib.itoa v)).toList == (sB l).toList) = false := by rw [sB_is, ByteArray.toList_eq, sB_data]; exact decide_eq_false hq
          clear hq
          go_wp2_with fail
          refine (CD.out _ HL1.out).mono ?_
          rintro e w2 ⟨rfl, hb2⟩
          have HB2 := Lib.hid (HB1.out.trans (hb2.mono HB1.out.size))
          clear hb2
          generalize Lib.itoa v = d at *
          go_wp2
          go_ret2
          exact ⟨v, by rw [HF.out]; rfl, by rw [HF.out]; (intro x hx; cases hx), I64.mk hfit.1 hfit.2, HB2.out⟩
      · have HF := Lib.hid (show rdI l = none by rw [HRD.out, if_neg (fun e => h0 e.1)])
        go_wp2
        go_ret2
        exact ⟨v, by rw [HF.out]; rfl, by rw [HF.out]; (intro x hx; cases hx), I64.mk hfit.1 hfit.2, HB1.out⟩
    · have HF := Lib.hid (show rdI l = none from rdI_bad l (fun v e => hok ⟨v, e⟩))
      have CP := Lib.hid (parse_bad (sB l) (by omega) (fun v e => hok ⟨v, e⟩) w h)
      clear h hok h15
      go_enter Tryd.func34, Tryd.ntmps34
      go_wp2_with fail
      refine CP.out.mono ?_
      rintro e w1 ⟨v, t, q, rfl, hv, hb1⟩
      have HB1 := Lib.hid hb1
      clear hb1
      go_wp2
      go_ret2
      exact ⟨v, by rw [HF.out]; rfl, by rw [HF.out]; (intro x hx; cases hx), hv, HB1.out⟩

end Go.Proofs.YtijdlejngdhpjaaDoor
