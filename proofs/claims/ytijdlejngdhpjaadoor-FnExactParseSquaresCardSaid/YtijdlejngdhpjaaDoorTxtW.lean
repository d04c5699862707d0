/- The program's text of a word and of a sum of terms. -/
import Derived.Test.YtijdlejngdhpjaaDoorTxt
import Derived.Test.YtijdlejngdhpjaaDoorShf
import Derived.Test.YtijdlejngdhpjaaDoorSq
namespace Go.Proofs.YtijdlejngdhpjaaDoor
open Go.ChangeShapes Go.WideShapes Go.ChangeAt Go.RowKit Go.Proofs
set_option linter.unusedVariables false

theorem impl_decimal (x : Int) (h0 : 0 ≤ x) (h1 : x < 100) (w : World) :
    Calls Tryd.prog 47 #[.int .i64 x] w fun e w' => e = .returned (.string (sB (Lib.decDigits x.toNat))) ∧ w' = w := by
  have C := Lib.hid (fun w1 => Tryd.strconv_FormatInt_10_small x.toNat (by omega) w1)
  rw [show ((x.toNat : Nat) : Int) = x by omega] at C
  go_enter Tryd.func47, Tryd.ntmps47
  go_wp2_with (go_at_call 63; refine (C.out _).mono ?_; rintro e w1 ⟨rfl, rfl⟩)
  go_ret
  exact ⟨rfl, rfl⟩

theorem len_join (ys : List (List UInt8)) (sep : List UInt8) (K : Nat) (h : ∀ y ∈ ys, y.length ≤ K) : (Lib.join ys sep).length ≤ ys.length * (K + sep.length) := by
  cases ys with
  | nil => simp [Lib.join_nil]
  | cons x r =>
    rw [Lib.join_cons]
    have hx := h x (by simp)
    have hr : (Lib.joinTail sep r).length ≤ r.length * (K + sep.length) := by
      have hr' : ∀ y ∈ r, y.length ≤ K := fun y hy => h y (by simp [hy])
      clear h hx
      induction r with
      | nil => simp [Lib.joinTail]
      | cons a t ih =>
        have h1 := ih (fun y hy => hr' y (by simp [hy]))
        have h2 := hr' a (by simp)
        simp only [Lib.joinTail, List.map_cons, List.flatten_cons, List.length_append, List.length_cons, Nat.add_mul, Nat.one_mul] at h1 ⊢
        omega
    simp only [List.length_append, List.length_cons, Nat.add_mul, Nat.one_mul] at hr ⊢
    omega

theorem txtSq_len (x : Int) (h0 : 0 ≤ x) (h1 : x < 100) : (txtSq x).length ≤ 4 := by
  unfold txtSq
  rw [dd_eq _ (by omega)]
  unfold dd
  split <;> simp

theorem txtWord_len (xs : List Int) (h : ∀ x ∈ xs, 0 ≤ x ∧ x < 100) (hn : xs.length ≤ 1048576) : (txtWord xs).length ≤ 5242880 := by
  unfold txtWord
  split
  · simp
  · have := len_join (xs.map txtSq) [32] 4 (fun y hy => by
      obtain ⟨x, hx, rfl⟩ := List.mem_map.1 hy
      exact txtSq_len x (h x hx).1 (h x hx).2)
    simp only [List.length_map, List.length_cons, List.length_nil] at this
    omega

/-- strings.Join of strings of the call's own -/
theorem join_own (B g n c : Nat) (ys : List (List UInt8)) (sep : List UInt8) (w : World) (h : OwnT w B (some ⟨g, 0, none⟩) n c ys) (hn : 0 < n) (hN : n ≤ 1048576) (hlen : (Lib.join ys sep).length ≤ 140737488355328) :
    Calls Tryd.prog 46 #[.slice (some ⟨g, 0, none⟩) n c, .string (sB sep)] w fun e w' => e = .returned (.string (sB (Lib.join ys sep))) ∧ Below w.heap.size w w' := by
  have hl := h.len
  obtain ⟨g', hg, _, hlt, hcap⟩ := h.form hn
  have hg' : g = g' := by simpa using hg
  subst hg'
  have e1 : (ys.map sB).map (·.data.toList) = ys := by
    rw [List.map_map]
    exact (List.map_congr_left (fun x _ => rfl)).trans (List.map_id ys)
  have := Tryd.strings_Join g 0 c (ys.map sB) (sB sep) w (fun j x hx => by
    rw [List.getElem?_map] at hx
    cases hy : ys[j]? with
    | none => rw [hy] at hx; cases hx
    | some y =>
      rw [hy] at hx
      have hj : j < ys.length := (List.getElem?_eq_some_iff.1 hy).1
      rw [Nat.zero_add, h.cell (by omega), ← Option.some.inj hx]
      simp [List.getD, hy]) hlt (by simp; omega) (by simp; omega) (by rw [e1]; exact hlen)
  rw [e1, List.length_map, hl] at this
  exact this

theorem getD_memI (xs : List Int) (k : Nat) (h : k < xs.length) : xs.getD k 0 ∈ xs := by
  simp [List.getD, h]

theorem take_map_snoc {α β : Type} (f : α → β) (xs : List α) (d : α) (k : Nat) (h : k < xs.length) : (xs.take k).map f ++ [f (xs.getD k d)] = (xs.take (k + 1)).map f := by
  have e : xs.getD k d = xs[k] := by simp [List.getD, h]
  rw [List.take_succ_eq_append_getElem h, List.map_append, e]
  rfl

set_option maxHeartbeats 800000 in
theorem impl_wordText (A : Option Addr) (n c : Nat) (xs : List Int) (w : World) (h : RI w A n xs) (hx : ∀ x ∈ xs, 0 ≤ x ∧ x < 100) (hn : n ≤ 1048576) :
    Calls Tryd.prog 27 #[.slice A n c] w fun e w' => e = .returned (.string (sB (txtWord xs))) ∧ Below w.heap.size w w' := by
  rcases Nat.eq_zero_or_pos n with rfl | hpos
  · have hl := h.len
    have e : xs = [] := List.eq_nil_of_length_eq_zero hl
    subst e
    clear h
    go_enter Tryd.func27, Tryd.ntmps27
    go_wp2
    go_ret
    exact ⟨rfl, Below.refl _ _⟩
  · have hne : ((n : Int) == 0) = false := by rw [beq_eq_false_iff_ne]; omega
    have HE := Lib.hid (emptyT_own w)
    have HB0 := Lib.hid (box_below w (.cells #[] 9))
    have HR := Lib.hid h
    have HX := Lib.hid hx
    have hl := h.len
    clear h hx
    go_enter Tryd.func27, Tryd.ntmps27
    go_wp2
    go_loopw [3, 12] (fun p i wr => ∃ (k : Nat) (A' : Option Addr) (c' : Nat), k ≤ n ∧ i = .int .i64 (k : Int) ∧ p = .slice A' k c' ∧ OwnT wr w.heap.size A' k c' ((xs.take k).map txtSq) ∧ Below w.heap.size w wr) (fun _ i _ => n - (intOf i).toNat)
    case atStart => exact ⟨0, _, _, Nat.zero_le _, rfl, rfl, HE.out, HB0.out⟩
    case round =>
      obtain ⟨k, A', c', hk, rfl, rfl, ho, hb⟩ := hrel
      have HO := Lib.hid ho
      have HB := Lib.hid hb
      clear ho hb
      by_cases hlt : k < n
      · obtain ⟨b, off, rfl, hbl, hc⟩ := (HR.out.below HB.out).at_ hlt
        have hd := HX.out _ (getD_memI xs k (by omega))
        have CD := Lib.hid (fun w1 => impl_decimal (xs.getD k 0) hd.1 hd.2 w1)
        have HT := Lib.hid (take_map_snoc txtSq xs 0 k (by omega))
        have HY := Lib.hid (sB_app [83, 113] (Lib.decDigits (xs.getD k 0).toNat))
        have hlt' : (k : Int) < (n : Int) := by omega
        rw [show [83, 113] ++ Lib.decDigits (xs.getD k 0).toNat = txtSq (xs.getD k 0) from rfl] at HY
        have hsz : ¬ 9223372036854775807 < 2 + (sB (Lib.decDigits (xs.getD k 0).toNat)).size := by
          have h1 := txtSq_len _ hd.1 hd.2
          simp only [txtSq, List.length_append, List.length_cons, List.length_nil] at h1
          rw [sB_size]; omega
        clear hbl hd
        generalize xs.getD k 0 = x at *
        go_wp2_with (first | (go_at_call 47; refine (CD.out _).mono ?_; rintro e w1 ⟨rfl, rfl⟩) | (at_builtin; first | rw [show ({ data := #[83, 113] } : ByteArray) ++ sB (Lib.decDigits x.toNat) = sB (txtSq x) from HY.out] | skip; refine app1T _ _ _ _ _ _ _ (txtSq x) _ rfl rfl rfl rfl HO.out (by omega) HB.out.size ?_; intro g9 c9 w9 ho9 hg9))
        rw [HT.out] at ho9
        have HO9 := Lib.hid ho9
        have HB9 := Lib.hid (HB.out.grown hg9 HB.out.size (fun j hj => HO.out.row_ge hj))
        clear ho9 hg9 hc
        go_roundw
        case rel => exact ⟨k + 1, _, _, by omega, by go_num, rfl, HO9.out, HB9.out⟩
        case measure => simp [intOf]; omega
      · obtain rfl : k = n := by omega
        obtain ⟨g, rfl, _, _, _⟩ := HO.out.form hpos
        have ho := HO.out
        rw [List.take_of_length_le (by omega)] at ho
        have hb5 := len_join (xs.map txtSq) [32] 4 (fun y hy => by
          obtain ⟨x, hx, rfl⟩ := List.mem_map.1 hy
          exact txtSq_len x (HX.out x hx).1 (HX.out x hx).2)
        simp only [List.length_map, List.length_cons, List.length_nil] at hb5
        have CJ := Lib.hid (join_own w.heap.size g k c' (xs.map txtSq) [32] wr ho hpos hn (by omega))
        have HF := Lib.hid (show Lib.join (xs.map txtSq) [32] = txtWord xs by
          unfold txtWord; rw [if_neg (fun e => by rw [e] at hl; simp at hl; omega)])
        clear ho hb5
        go_wp2_with (go_at_call 46; refine CJ.out.mono ?_; rintro e w1 ⟨rfl, hb1⟩; have HB1 := Lib.hid hb1; clear hb1)
        go_ret
        exact ⟨by first | (rw [HF.out]; rfl) | rw [HF.out], HB.out.trans (HB1.out.mono HB.out.size)⟩

end Go.Proofs.YtijdlejngdhpjaaDoor
