/- ClosureOfProfile of the program and of the reference: both return the least closed profile. -/
import Derived.Test.YtiajkfgicpidkaaCloP
import Derived.Laws.CopyOwn
import Derived.Test.YtiajkfgicpidkaaMeet
namespace Go.Proofs.Ytiajkfgicpidkaa
open Go.ChangeShapes Go.WideShapes Go.ChangeAt Go.RowKit
set_option linter.unusedVariables false

theorem below_up {B : Nat} {w wo wr : World} (h1 : Below B w wo) (h2 : Below wo.heap.size wo wr) (hB : B ≤ wo.heap.size) : Below B w wr :=
  h1.trans (h2.mono hB)

/-- a list copied over the head of a row of the call's own -/
theorem copyI {ops : Array Oper} {rest : List Oper} {o : Oper} {a : Act} {Q : Exit → Act → World → Prop} (d s : Operand) (B : Nat) (g N : Nat) (zs : List Int) (A2 : Option Addr) (m c2 : Nat) (ys : List Int) (w0 w : World) (hgd : o.guard = none)
    (ho : o.op = .call { callee := .builtin .copy, args := #[d, s], argTypes := #[22, 22] })
    (hd : a.eval d = .slice (some ⟨g, 0, none⟩) N N) (hs : a.eval s = .slice A2 m c2) (hown : OwnI w B (some ⟨g, 0, none⟩) N N zs) (hr : RI w A2 m ys) (hm : m ≤ N) (hb : Below B w0 w)
    (h : ∀ w', OwnI w' B (some ⟨g, 0, none⟩) N N (ys ++ zs.drop m) → Below B w0 w' → wpList Try.prog ops Q rest (a.put o.dst (goInt m)) w') :
    wpList Try.prog ops Q (o :: rest) a w := by
  have hyl := hr.len
  have hzl := hown.len
  rcases hown.1.2 with ⟨hv, _⟩ | ⟨g', cap, cur, hv, hBg, hg, hnc, hcm, hsz, htk⟩
  · cases hv
  · injection hv with h1 h2 h3
    injection h1 with h1
    injection h1 with h1
    subst h1
    subst h3
    have hcl : cur.toList = zs.map (Value.int .i64) := by
      rw [← htk]
      refine (List.take_of_length_le ?_).symm
      simp
      omega
    have hcul : cur.toList.length = N := by rw [hcl]; simp [hzl]
    refine wpList_copy_splice hgd d s _ _ ho 2 Try.underlying22 (by kernel_rfl) (some ⟨g, 0, none⟩) A2 N N m c2 hd hs g 0 cur.toList 2 (by simpa using hg) (ys.map (Value.int .i64)) (by rw [List.length_map, hyl]; exact (Nat.min_eq_left hm).symm) (fun hp => ?_) (by simp [hyl, hcul]; omega) (by intro v hv; simp at hv; obtain ⟨x, _, rfl⟩ := hv; rfl) B w0 hb hBg ?_
    · have hpos : 0 < m := by simpa [hyl] using hp
      refine ⟨rfl, ?_⟩
      obtain ⟨b, off, e, _, hc⟩ := hr.2.2.2 hpos
      refine ⟨_, e, fun j v hj => ?_⟩
      have hjm : j < m := by
        have := (List.getElem?_eq_some_iff.1 hj).1
        simpa [hyl] using this
      have h4 := hc j hjm
      have h5 : v = .int .i64 (ys.getD j 0) := by
        have hjl : j < ys.length := by omega
        simp [hjl] at hj
        simp [List.getD, hjl, ← hj]
      rw [h5, ← h4]
      congr 1
      unfold Addr.add
      split <;> simp_all
    · intro w' hg' hb'
      have hz : (splice cur.toList 0 (ys.map (Value.int .i64))) = (ys ++ zs.drop m).map (Value.int .i64) := by
        unfold splice
        rw [hcl]
        simp [hyl, List.map_drop]
      have hlen : (ys ++ zs.drop m).length = N := by simp [hyl, hzl]; omega
      have hgo : goInt (ys.map (Value.int .i64)).length = goInt m := by simp [hyl]
      rw [hgo]
      refine h w' ⟨⟨by simp [hyl, hzl]; omega, .inr ⟨g, N, _, rfl, hBg, hg'.out, Nat.le_refl _, hcm, ?_, ?_⟩⟩, fun x hx => ?_⟩ hb'
      · rw [hz]; simp [hyl, hzl]; omega
      · rw [hz]
        refine List.take_of_length_le ?_
        simp [hyl, hzl]; omega
      · rcases List.mem_append.1 hx with h6 | h6
        · exact hr.2.2.1 x h6
        · exact hown.2 x (List.mem_of_mem_drop h6)

theorem way_start {xs : List Int} {n : Nat} (hp : Prf xs) (hn : xs.length ≤ n) : Way xs (xs ++ (List.replicate n (0 : Int)).drop xs.length) n := by
  have e : ∀ k, (xs ++ (List.replicate n (0 : Int)).drop xs.length).getD k 0 = xs.getD k 0 := by
    intro k
    rcases Nat.lt_or_ge k xs.length with h | h
    · exact getD_append_left h
    · rw [getD_none xs k h]
      simp only [List.getD]
      rw [List.getElem?_append_right h]
      simp [List.getElem?_replicate]
      split <;> rfl
  refine ⟨by simp; omega, fun k => ?_, fun k => ?_, fun k => ?_⟩
  · rw [e]; exact (prf_get hp k).1
  · rw [e]; exact Int.le_refl _
  · rw [e]; exact clF_ge xs k

/-- the state of a pass over all pairs of places: nothing has turned, and the pairs so far are done; or there is less room -/
def Pass (L0 L : List Int) (ch : Bool) (n i j : Nat) : Prop :=
  (ch = false → L = L0 ∧ ∀ i' j', (i' < i ∨ (i' = i ∧ j' < j)) → i' + j' + 1 < n → min (L.getD j' 0) (L.getD i' 0 - ((j' : Int) + 1)) ≤ L.getD (i' + j' + 1) 0) ∧ (ch = true → room L < room L0)

theorem Pass.start (L : List Int) (n : Nat) : Pass L L false n 0 0 := ⟨fun _ => ⟨rfl, fun i' j' h => by omega⟩, fun h => by cases h⟩

theorem Pass.keep {L0 L ch n i j} (h : Pass L0 L ch n i j) (hge : min (L.getD j 0) (L.getD i 0 - ((j : Int) + 1)) ≤ L.getD (i + j + 1) 0) : Pass L0 L ch n i (j + 1) :=
  ⟨fun hc => ⟨(h.1 hc).1, fun i' j' hij hn => by
    rcases Decidable.em (i' = i ∧ j' = j) with ⟨rfl, rfl⟩ | hne
    · exact hge
    · exact (h.1 hc).2 i' j' (by omega) hn⟩, h.2⟩

theorem Pass.next {L0 L ch n i j} (h : Pass L0 L ch n i j) (hj : n ≤ i + j + 1) : Pass L0 L ch n (i + 1) 0 :=
  ⟨fun hc => ⟨(h.1 hc).1, fun i' j' hij hn => (h.1 hc).2 i' j' (by omega) hn⟩, h.2⟩

theorem Pass.turn {h L0 L ch n i j} (p : Pass L0 L ch n i j) (w : Way h L n) (hp : Prf h) (hl : h.length ≤ 16) (hn : i + j + 1 < n) (hlt : L.getD (i + j + 1) 0 < min (L.getD j 0) (L.getD i 0 - ((j : Int) + 1))) :
    Pass L0 (L.set (i + j + 1) (min (L.getD j 0) (L.getD i 0 - ((j : Int) + 1)))) true n i (j + 1) := by
  refine ⟨fun h => absurd h (by simp), fun _ => ?_⟩
  have a := w.room hp hl hn hlt
  cases ch with
  | false => rw [(p.1 rfl).1] at a; rw [(p.1 rfl).1]; exact a
  | true => exact Nat.lt_trans a (p.2 rfl)

theorem Pass.done {L0 L n i} (p : Pass L0 L false n i 0) (hi : n ≤ i + 1) : L = L0 ∧ Done L n :=
  ⟨(p.1 rfl).1, fun i' j' hn => (p.1 rfl).2 i' j' (by omega) hn⟩

def b2n (b : Bool) : Nat := if b then 1 else 0

/-- the head of a pass -/
def Head (xs L : List Int) (ch : Bool) (n gk : Nat) : Prop := Way xs L n ∧ (ch = false → Done L n) ∧ gk = 2 * room L + b2n ch

theorem Head.step {xs L L2 ch2 n gk i} (h : Head xs L true n gk) (w : Way xs L2 n) (p : Pass L L2 ch2 n i 0) (hi : n ≤ i + 1) : ∃ k, k < gk ∧ Head xs L2 ch2 n k := by
  refine ⟨2 * room L2 + b2n ch2, ?_, w, fun hc => ?_, rfl⟩
  · rw [h.2.2]
    cases ch2 with
    | false => rw [(p.1 rfl).1]; simp [b2n]
    | true => have := p.2 rfl; simp [b2n]; omega
  · subst hc
    exact (p.done hi).2

def pClosureOfProfile (xs : List Int) : List Int × Int := if pIsProfile xs = true then (if (closL xs).length ≤ 16 then (closL xs, 0) else ([], 3)) else ([], 1)

theorem pClosureOfProfile_len (xs : List Int) (h : xs.length ≤ 1048576) : (pClosureOfProfile xs).1.length ≤ 1048576 := by
  unfold pClosureOfProfile
  generalize closL xs = L
  by_cases h1 : pIsProfile xs = true
  · by_cases h2 : L.length ≤ 16
    · rw [if_pos h1, if_pos h2]
      simp only
      omega
    · rw [if_pos h1, if_neg h2]
      simp
  · rw [if_neg h1]
    simp

theorem setCell_drewN (w : World) (k : Nat) (p : Addr) (v : Value) : (w.drewN k).setCell p v = (w.setCell p v).drewN k := rfl

theorem clo_out {xs L : List Int} {n : Nat} (hx : Prf xs) (hl : xs.length ≤ 16) (hn : 26 ≤ n) (w : Way xs L n) (hd : Done L n) : trimL L = closL xs := trim_clos hx hl hn w.len (fun k => w.done hx hl hn hd k)

theorem way_prf {xs L : List Int} {n : Nat} (hx : Prf xs) (hl : xs.length ≤ 16) (w : Way xs L n) : Prf L := by
  intro x hmem
  obtain ⟨k, hk, rfl⟩ := List.getElem_of_mem hmem
  have a := w.pos k
  have b := Int.le_trans (w.le k) (clF_top hx hl k)
  have e : L.getD k 0 = L[k] := by simp [List.getD, hk]
  unfold topF at b
  rw [e] at a b
  omega

theorem OwnI.reads_take {w B g n c xs} (h : OwnI w B (some ⟨g, 0, none⟩) n c xs) {m : Nat} (hm : m ≤ n) : RI w (some ⟨g, 0, none⟩) m (xs.take m) := (h.reads).take hm

set_option maxHeartbeats 1000000 in
theorem impl_ClosureOfProfile (A : Option Addr) (n c : Nat) (xs : List Int) (w : World) (h : RI w A n xs) (hn : n ≤ 1048576) :
    Calls Try.prog 47 #[.slice A n c] w fun e w' => ∃ A l c, e = .returned (.tuple #[.slice A l c, .int .i64 (pClosureOfProfile xs).2]) ∧ OwnI w' w.heap.size A l c (pClosureOfProfile xs).1 ∧ Below w.heap.size w w' := by
  have C1 := Lib.hid (impl_IsProfile A n c xs w h hn)
  cases hp : pIsProfile xs with
  | false =>
    have hf : pClosureOfProfile xs = ([], 1) := by unfold pClosureOfProfile; rw [if_neg (by rw [hp]; simp)]
    rw [hf]
    rw [hp] at C1
    clear hf h hp
    go_enter Try.func47, Try.ntmps47
    go_wp2_with fail
    refine C1.out.mono ?_
    rintro e w1 ⟨rfl, hb⟩
    have HB := Lib.hid hb
    clear hb
    go_wp2
    go_ret2
    exact ⟨_, _, _, rfl, OwnI.nil _ _, HB.out⟩
  | true =>
    rw [hp] at C1
    have hpt := pIsProfile_true hp
    have hl := h.len
    have HX := Lib.hid (show Prf xs from hpt.2)
    have hl16 := hpt.1
    have HF := Lib.hid (show pClosureOfProfile xs = if (closL xs).length ≤ 16 then (closL xs, 0) else ([], 3) by unfold pClosureOfProfile; rw [if_pos hp])
    have H := Lib.hid h
    obtain ⟨i0, hi, hz0, hz1, hz2⟩ := info_parts Try.infoI
    have hmkA := fun w : World => run_make (P := Try.prog) w 22 2 i0 (.int .i64 0) Try.underlying22 hi hz0 .i64 .i64 64 64 (by omega) (by omega) (by rw [hz2]; omega) (by omega)
    simp only [hz1, show ((64 : Int)).toNat = 64 by omega, Nat.mul_one] at hmkA
    have HMK := Lib.hid hmkA
    have hn16 : n ≤ 16 := by omega
    clear hp hpt h hi hz0 hz1 hz2 hmkA
    go_enter Try.func47, Try.ntmps47
    go_wp2_with fail
    refine C1.out.mono ?_
    rintro e w1 ⟨rfl, hb⟩
    have hmk := HMK.out w1
    have hI := made_own w1 64 (by omega)
    have hbel : Below w.heap.size w (w1.alloc (.cells (madeCells (Value.int .i64 0).cells 64) 2)) := hb.alloc hb.size _
    generalize hW : w1.alloc (.cells (madeCells (Value.int .i64 0).cells 64) 2) = W at *
    have HI := Lib.hid (hI.mono hb.size)
    have HB := Lib.hid hbel
    have hgsz := hb.size
    generalize w1.heap.size = g at *
    clear hW hI hbel hb
    go_wp2_with (with_reducible refine copyI (.tmp 13) (.tmp 14) w.heap.size g 64 (List.replicate 64 0) A n c xs w _ rfl rfl rfl rfl HI.out (H.out.below HB.out) (by omega) HB.out ?_; intro w2 ho2 hb2)
    have HW2 := Lib.hid (show Head xs (xs ++ (List.replicate 64 (0 : Int)).drop n) true 64 (2 * room (xs ++ (List.replicate 64 (0 : Int)).drop n) + 1) from ⟨by rw [← hl]; exact way_start HX.out (by omega), fun h => absurd h (by simp), rfl⟩)
    have HO := Lib.hid ho2
    have HB2 := Lib.hid hb2
    clear ho2 hb2 hmk
    generalize xs ++ (List.replicate 64 (0 : Int)).drop n = L0 at *
    go_loopg [5] (2 * room L0 + 1) (fun gk chv wr => ∃ (ch : Bool) (L : List Int), chv = .bool ch ∧ OwnI wr w.heap.size (some ⟨g, 0, none⟩) 64 64 L ∧ Head xs L ch 64 gk ∧ Below w.heap.size w wr)
    case atStart => exact ⟨true, L0, rfl, HO.out, HW2.out, HB2.out⟩
    case round =>
      obtain ⟨ch, L, rfl, ho, hh, hb⟩ := hrel
      clear HW2 HO HB2
      have HO := Lib.hid ho
      have HH := Lib.hid hh
      have HBW := Lib.hid hb
      clear ho hh hb
      cases ch with
      | true =>
        obtain ⟨wo, rfl⟩ : ∃ wo : World, wo = wr := ⟨_, rfl⟩
        go_wp2
        go_loopw [5, 6] (fun cv iv wr => ∃ (c2 : Bool) (L2 : List Int) (i : Nat), cv = .bool c2 ∧ iv = .int .i64 ((i : Int) + 1) ∧ i ≤ 63 ∧ OwnI wr w.heap.size (some ⟨g, 0, none⟩) 64 64 L2 ∧ Way xs L2 64 ∧ Pass L L2 c2 64 i 0 ∧ Below w.heap.size w wr) (fun _ iv _ => 64 - (intOf iv).toNat)
        case atStart => exact ⟨false, L, 0, rfl, rfl, by omega, HO.out, HH.out.1, Pass.start L 64, HBW.out⟩
        case round =>
          obtain ⟨c2, L2, i, rfl, rfl, hi63, ho, hway, hpass, hb⟩ := hrel
          have HO2 := Lib.hid ho
          have HWY := Lib.hid hway
          have HPS := Lib.hid hpass
          have HB2 := Lib.hid hb
          clear ho hway hpass hb
          by_cases hlt : i < 63
          · obtain ⟨wi, rfl⟩ : ∃ wi : World, wi = wr := ⟨_, rfl⟩
            have hlt1 : (i : Int) + 1 < 64 := by omega
            go_wp2
            go_loopw [5, 7] (fun cv jv wr => ∃ (c3 : Bool) (L3 : List Int) (j : Nat), cv = .bool c3 ∧ jv = .int .i64 ((j : Int) + 1) ∧ i + j ≤ 63 ∧ OwnI wr w.heap.size (some ⟨g, 0, none⟩) 64 64 L3 ∧ Way xs L3 64 ∧ Pass L L3 c3 64 i j ∧ Below w.heap.size w wr) (fun _ jv _ => 65 - (intOf jv).toNat)
            case atStart => exact ⟨c2, L2, 0, rfl, rfl, by omega, HO2.out, HWY.out, HPS.out, HB2.out⟩
            case round =>
              obtain ⟨c3, L3, j, rfl, rfl, hij, ho, hway, hpass, hb⟩ := hrel
              clear HO2 HWY HPS HB2
              have HO3 := Lib.hid ho
              have HWY := Lib.hid hway
              have HPS := Lib.hid hpass
              have HB3 := Lib.hid hb
              clear ho hway hpass hb
              by_cases hltj : i + j + 1 < 64
              · have CON := Lib.hid (impl_needed (some ⟨g, 0, none⟩) 64 64 L3 i j wr HO3.out.reads (way_prf HX.out hl16 HWY.out) (by omega) (by omega))
                have hc := HO3.out.cell (i := i + j + 1) hltj
                have hf := HO3.out.frozen (i + j + 1)
                have hidx : (i : Int) + 1 + ((j : Int) + 1) - 1 = ((i + j + 1 : Nat) : Int) := by omega
                have hsum : (i : Int) + 1 + ((j : Int) + 1) ≤ 64 := by omega
                have hs64 : ((i + j + 1 : Nat) : Int) < 64 := by omega
                have HKEEP := Lib.hid (fun hge => HPS.out.keep (j := j) hge)
                have HTURN := Lib.hid (fun hlt => HPS.out.turn HWY.out HX.out hl16 hltj hlt)
                have HSTEP := Lib.hid (fun hlt => HWY.out.step hltj hlt)
                have HSET := Lib.hid (fun (x : Int) hx => HO3.out.set (i + j + 1) (x := x) hx)
                have HBS := Lib.hid (fun (x : Int) => HB3.out.setCell (p := ⟨g, i + j + 1, none⟩) hgsz (.int .i64 x))
                have hpy := prf_get (way_prf HX.out hl16 HWY.out) (i + j + 1)
                have hpj := prf_get (way_prf HX.out hl16 HWY.out) j
                have hpi := prf_get (way_prf HX.out hl16 HWY.out) i
                have hxI : I64 (min (L3.getD j 0) (L3.getD i 0 - ((j : Int) + 1))) := I64.mk (by omega) (by omega)
                clear hpj hpi
                generalize hxe : min (L3.getD j 0) (L3.getD i 0 - ((j : Int) + 1)) = x at *
                generalize hye : L3.getD (i + j + 1) 0 = y at *
                have HC := Lib.hid hc
                clear hc hxe hye
                by_cases hyx : y < x
                · go_wp2_with fail
                  refine CON.out.mono ?_
                  rintro e w5 ⟨rfl, rfl⟩
                  have hc := HC.out
                  go_wp2
                  go_roundw
                  case rel => exact ⟨true, _, j + 1, rfl, by go_num, by omega, HSET.out x hxI, HSTEP.out hyx, HTURN.out hyx, HBS.out x⟩
                  case measure => simp [intOf]; omega
                · have hxy : x ≤ y := by omega
                  go_wp2_with fail
                  refine CON.out.mono ?_
                  rintro e w5 ⟨rfl, rfl⟩
                  have hc := HC.out
                  go_wp2
                  go_roundw
                  case rel => exact ⟨c3, L3, j + 1, rfl, by go_num, by omega, HO3.out, HWY.out, HKEEP.out hxy, HB3.out⟩
                  case measure => simp [intOf]; omega
              · have HN := Lib.hid (HPS.out.next (by omega))
                have hsum : ¬ (i : Int) + 1 + ((j : Int) + 1) ≤ 64 := by omega
                go_wp2
                go_roundw
                case rel => exact ⟨c3, L3, i + 1, rfl, by go_num, by omega, HO3.out, HWY.out, HN.out, HB3.out⟩
                case measure => simp [intOf]; omega
          · obtain rfl : i = 63 := by omega
            obtain ⟨k, hk1, hk2⟩ := HH.out.step HWY.out HPS.out (by omega)
            have HK := Lib.hid hk2
            clear hk2
            go_wp2
            go_roundg k
            case rel => exact ⟨c2, L2, rfl, HO2.out, HK.out, HB2.out⟩
            case measure => exact hk1
      | false =>
        have HD := Lib.hid (HH.out.2.1 rfl)
        have HE := Lib.hid (clo_out HX.out hl16 (by omega) HH.out.1 HD.out)
        have hlen := HH.out.1.len
        have hlt := tlen_le L L.length
        have htl := trimL_len L
        have HRD := Lib.hid (HO.out.reads_take (m := tlen L L.length) (by omega))
        have hbr : L.take (tlen L L.length) = closL xs := HE.out
        rw [hbr] at HRD
        rw [HE.out] at htl
        have HT := Lib.hid (trimmed_any (some ⟨g, 0, none⟩) 64 64 L wr HO.out.reads (by omega) (by omega))
        rw [← htl] at HRD HT hlt
        rw [hlen] at hlt
        clear htl hbr hlen
        by_cases h16 : (closL xs).length ≤ 16
        · have HFF := Lib.hid (show pClosureOfProfile xs = (closL xs, 0) by rw [HF.out, if_pos h16])
          generalize closL xs = T at *
          have h16' : ¬ (16 : Int) < (T.length : Int) := by omega
          go_wp2_with fail
          refine HT.out.mono ?_
          rintro e w5 ⟨rfl, rfl⟩
          go_wp2_with fail
          refine (impl_copy _ _ _ _ _ HRD.out (by omega)).mono ?_
          rintro e w6 ⟨A6, c6, rfl, ho6, hb6⟩
          have HO6 := Lib.hid (ho6.mono HBW.out.size)
          have HB6 := Lib.hid (below_up HBW.out hb6 HBW.out.size)
          clear ho6 hb6
          go_wp2
          go_ret2
          rw [HFF.out]
          exact ⟨_, _, _, rfl, HO6.out, HB6.out⟩
        · have HFF := Lib.hid (show pClosureOfProfile xs = ([], 3) by rw [HF.out, if_neg h16])
          clear HRD HE
          generalize closL xs = T at *
          have h16' : (16 : Int) < (T.length : Int) := by omega
          go_wp2_with fail
          refine HT.out.mono ?_
          rintro e w5 ⟨rfl, rfl⟩
          go_wp2
          go_ret2
          rw [HFF.out]
          exact ⟨_, _, _, rfl, OwnI.nil _ _, HBW.out⟩

theorem way_start26 {xs : List Int} (hp : Prf xs) (hn : xs.length ≤ 26) : Way xs (xs ++ (List.replicate 26 (0 : Int)).drop xs.length) 26 := way_start hp hn

set_option maxHeartbeats 1000000 in
theorem spec_l07Closure (A : Option Addr) (n c : Nat) (xs : List Int) (w : World) (h : RI w A n xs) (hn : n ≤ 16) (hx : Prf xs) :
    Calls Try.prog 93 #[.slice A n c] w fun e w' => ∃ A l c, e = .returned (.slice A l c) ∧ OwnI w' w.heap.size A l c (closL xs) ∧ Below w.heap.size w w' := by
  have hl := h.len
  have HX := Lib.hid hx
  have hl16 : xs.length ≤ 16 := by omega
  have H := Lib.hid h
  obtain ⟨i0, hi, hz0, hz1, hz2⟩ := info_parts Try.infoI
  have hmkA := fun w : World => run_make (P := Try.prog) w 22 2 i0 (.int .i64 0) Try.underlying22 hi hz0 .i64 .i64 26 26 (by omega) (by omega) (by rw [hz2]; omega) (by omega)
  simp only [hz1, show ((26 : Int)).toNat = 26 by omega, Nat.mul_one] at hmkA
  have hmk := hmkA w
  have hI := made_own w 26 (by omega)
  have hbel : Below w.heap.size w (w.alloc (.cells (madeCells (Value.int .i64 0).cells 26) 2)) := (Below.refl _ _).alloc (Nat.le_refl _) _
  generalize hW : w.alloc (.cells (madeCells (Value.int .i64 0).cells 26) 2) = W at *
  have HI := Lib.hid hI
  have HB := Lib.hid hbel
  obtain ⟨g, hg⟩ : ∃ g, g = w.heap.size := ⟨_, rfl⟩
  have hgsz : w.heap.size ≤ g := by omega
  rw [← hg] at hmk HI
  clear hW hI hbel hi hz0 hz1 hz2 hmkA h hx hg
  go_enter Try.func93, Try.ntmps93
  go_wp2_with (with_reducible refine copyI (.tmp 9) (.tmp 10) w.heap.size g 26 (List.replicate 26 0) A n c xs w _ rfl rfl rfl rfl (HI.out.mono hgsz) (H.out.below HB.out) (by omega) HB.out ?_; intro w2 ho2 hb2)
  have HW2 := Lib.hid (show Head xs (xs ++ (List.replicate 26 (0 : Int)).drop n) true 26 (2 * room (xs ++ (List.replicate 26 (0 : Int)).drop n) + 1) from ⟨by rw [← hl]; exact way_start HX.out (by omega), fun h => absurd h (by simp), rfl⟩)
  have HO := Lib.hid ho2
  have HB2 := Lib.hid hb2
  clear ho2 hb2 hmk
  generalize xs ++ (List.replicate 26 (0 : Int)).drop n = L0 at *
  go_loopg [4] (2 * room L0 + 1) (fun gk chv wr => ∃ (ch : Bool) (L : List Int), chv = .bool ch ∧ OwnI wr w.heap.size (some ⟨g, 0, none⟩) 26 26 L ∧ Head xs L ch 26 gk ∧ Below w.heap.size w wr)
  case atStart => exact ⟨true, L0, rfl, HO.out, HW2.out, HB2.out⟩
  case round =>
    obtain ⟨ch, L, rfl, ho, hh, hb⟩ := hrel
    clear HW2 HO HB2
    have HO := Lib.hid ho
    have HH := Lib.hid hh
    have HBW := Lib.hid hb
    clear ho hh hb
    cases ch with
    | true =>
      obtain ⟨wo, rfl⟩ : ∃ wo : World, wo = wr := ⟨_, rfl⟩
      go_wp2
      go_loopw [4, 5] (fun cv iv wr => ∃ (c2 : Bool) (L2 : List Int) (i : Nat), cv = .bool c2 ∧ iv = .int .i64 ((i : Int) + 1) ∧ i ≤ 26 ∧ OwnI wr w.heap.size (some ⟨g, 0, none⟩) 26 26 L2 ∧ Way xs L2 26 ∧ Pass L L2 c2 26 i 0 ∧ Below w.heap.size w wr) (fun _ iv _ => 27 - (intOf iv).toNat)
      case atStart => exact ⟨false, L, 0, rfl, rfl, by omega, HO.out, HH.out.1, Pass.start L 26, HBW.out⟩
      case round =>
        obtain ⟨c2, L2, i, rfl, rfl, hi63, ho, hway, hpass, hb⟩ := hrel
        have HO2 := Lib.hid ho
        have HWY := Lib.hid hway
        have HPS := Lib.hid hpass
        have HB2 := Lib.hid hb
        clear ho hway hpass hb
        by_cases hlt : i < 26
        · obtain ⟨wi, rfl⟩ : ∃ wi : World, wi = wr := ⟨_, rfl⟩
          have hlt1 : (i : Int) + 1 ≤ 26 := by omega
          go_wp2
          go_loopw [4, 6] (fun cv jv wr => ∃ (c3 : Bool) (L3 : List Int) (j : Nat), cv = .bool c3 ∧ jv = .int .i64 ((j : Int) + 1) ∧ i + j ≤ 25 ∧ OwnI wr w.heap.size (some ⟨g, 0, none⟩) 26 26 L3 ∧ Way xs L3 26 ∧ Pass L L3 c3 26 i j ∧ Below w.heap.size w wr) (fun _ jv _ => 27 - (intOf jv).toNat)
          case atStart => exact ⟨c2, L2, 0, rfl, rfl, by omega, HO2.out, HWY.out, HPS.out, HB2.out⟩
          case round =>
            obtain ⟨c3, L3, j, rfl, rfl, hij, ho, hway, hpass, hb⟩ := hrel
            clear HO2 HWY HPS HB2
            have HO3 := Lib.hid ho
            have HWY := Lib.hid hway
            have HPS := Lib.hid hpass
            have HB3 := Lib.hid hb
            clear ho hway hpass hb
            by_cases hltj : i + j + 1 < 26
            · have hc := HO3.out.cell (i := i + j + 1) hltj
              have hci := HO3.out.cell (i := i) (by omega)
              have hcj := HO3.out.cell (i := j) (by omega)
              have hf := HO3.out.frozen (i + j + 1)
              have hidx : (i : Int) + 1 + ((j : Int) + 1) - 1 = ((i + j + 1 : Nat) : Int) := by omega
              have hidi : (i : Int) + 1 - 1 = (i : Int) := by omega
              have hidj : (j : Int) + 1 - 1 = (j : Int) := by omega
              have hsum : (i : Int) + 1 + ((j : Int) + 1) ≤ 26 := by omega
              have hs64 : ((i + j + 1 : Nat) : Int) < 26 := by omega
              have HKEEP := Lib.hid (fun hge => HPS.out.keep (j := j) hge)
              have HTURN := Lib.hid (fun hlt => HPS.out.turn HWY.out HX.out hl16 hltj hlt)
              have HSTEP := Lib.hid (fun hlt => HWY.out.step hltj hlt)
              have HSET := Lib.hid (fun (x : Int) hx => HO3.out.set (i + j + 1) (x := x) hx)
              have HBS := Lib.hid (fun (x : Int) => HB3.out.setCell (p := ⟨g, i + j + 1, none⟩) hgsz (.int .i64 x))
              have hpy := prf_get (way_prf HX.out hl16 HWY.out) (i + j + 1)
              obtain ⟨hq1, hq2⟩ := prf_get (way_prf HX.out hl16 HWY.out) j
              obtain ⟨hp1, hp2⟩ := prf_get (way_prf HX.out hl16 HWY.out) i
              have hxI : I64 (min (L3.getD j 0) (L3.getD i 0 - ((j : Int) + 1))) := I64.mk (by omega) (by omega)
              have hmn : (if L3.getD i 0 - ((j : Int) + 1) < L3.getD j 0 then L3.getD i 0 - ((j : Int) + 1) else L3.getD j 0) = min (L3.getD j 0) (L3.getD i 0 - ((j : Int) + 1)) := by
                rw [Int.min_def]; split <;> split <;> omega
              generalize hqe : L3.getD j 0 = q at *
              generalize hpe : L3.getD i 0 = p at *
              have hw : IntKind.i64.wrap (p - ((j : Int) + 1)) = p - ((j : Int) + 1) := IntWalk.i64_in _ (by omega)
              generalize hxe : min q (p - ((j : Int) + 1)) = x at *
              generalize hye : L3.getD (i + j + 1) 0 = y at *
              clear hxe hye hqe hpe
              have hlt26 : (j : Int) < 26 := by omega
              have hlt26i : (i : Int) < 26 := by omega
              go_wp2_with fail
              go_quiet (fail)
              go_wp2_with fail
              · have hyx : y < x := by assumption
                go_roundw
                case rel => exact ⟨true, _, j + 1, rfl, by go_num, by omega, (HO3.out.drewN _).set (i + j + 1) hxI, HSTEP.out hyx, HTURN.out hyx, (below_drewN HB3.out _).setCell (p := ⟨g, i + j + 1, none⟩) hgsz _⟩
                case measure => simp [intOf]; omega
              · have hxy : x ≤ y := by omega
                go_roundw
                case rel => exact ⟨c3, L3, j + 1, rfl, by go_num, by omega, HO3.out.drewN _, HWY.out, HKEEP.out hxy, below_drewN HB3.out _⟩
                case measure => simp [intOf]; omega
            · have HN := Lib.hid (HPS.out.next (by omega))
              have hsum : ¬ (i : Int) + 1 + ((j : Int) + 1) ≤ 26 := by omega
              go_wp2
              go_roundw
              case rel => exact ⟨c3, L3, i + 1, rfl, by go_num, by omega, HO3.out, HWY.out, HN.out, HB3.out⟩
              case measure => simp [intOf]; omega
        · obtain rfl : i = 26 := by omega
          obtain ⟨k, hk1, hk2⟩ := HH.out.step HWY.out HPS.out (by omega)
          have HK := Lib.hid hk2
          clear hk2
          go_wp2
          go_roundg k
          case rel => exact ⟨c2, L2, rfl, HO2.out, HK.out, HB2.out⟩
          case measure => exact hk1
    | false =>
      have HD := Lib.hid (HH.out.2.1 rfl)
      have HE := Lib.hid (clo_out HX.out hl16 (by omega) HH.out.1 HD.out)
      have HT := Lib.hid (spec_l07Trim (some ⟨g, 0, none⟩) 26 26 L wr HO.out.reads (by omega) (by omega) (by omega))
      go_wp2_with fail
      refine HT.out.mono ?_
      rintro e w5 ⟨A5, c5, m5, rfl, ho5, hb5⟩
      rw [HE.out] at ho5
      have HO5 := Lib.hid (ho5.mono HBW.out.size)
      have HB5 := Lib.hid (below_up HBW.out hb5 HBW.out.size)
      clear ho5 hb5
      go_wp2
      go_ret
      exact ⟨_, _, _, rfl, HO5.out, HB5.out⟩

theorem spec_ClosureOfProfile (A : Option Addr) (n c : Nat) (xs : List Int) (w : World) (h : RI w A n xs) (hn : n ≤ 1048576) :
    Calls Try.prog 46 #[.slice A n c] w fun e w' => ∃ A l c, e = .returned (.tuple #[.slice A l c, .int .i64 (pClosureOfProfile xs).2]) ∧ OwnI w' w.heap.size A l c (pClosureOfProfile xs).1 ∧ Below w.heap.size w w' := by
  have C1 := Lib.hid (spec_l07Is A n c xs w h)
  cases hp : pIsProfile xs with
  | false =>
    have hf : pClosureOfProfile xs = ([], 1) := by unfold pClosureOfProfile; rw [if_neg (by rw [hp]; simp)]
    rw [hf]
    rw [hp] at C1
    clear hf h hp
    go_enter Try.func46, Try.ntmps46
    go_wp2_with fail
    refine C1.out.mono ?_
    rintro e w1 ⟨rfl, rfl⟩
    go_wp2
    go_ret2
    exact ⟨_, _, _, rfl, OwnI.nil _ _, Below.refl _ _⟩
  | true =>
    rw [hp] at C1
    have hpt := pIsProfile_true hp
    have hl := h.len
    have C2 := Lib.hid (spec_l07Closure A n c xs w h (by omega) hpt.2)
    have hf : pClosureOfProfile xs = if (closL xs).length ≤ 16 then (closL xs, 0) else ([], 3) := by unfold pClosureOfProfile; rw [if_pos hp]
    rw [hf]
    clear hf hp hpt h hl
    generalize closL xs = T at *
    by_cases h16 : T.length ≤ 16
    · rw [if_pos h16]
      have H16 := Lib.hid h16
      clear h16
      go_enter Try.func46, Try.ntmps46
      go_wp2_with fail
      refine C1.out.mono ?_
      rintro e w1 ⟨rfl, rfl⟩
      go_wp2_with fail
      refine C2.out.mono ?_
      rintro e w5 ⟨A5, m5, c5, rfl, ho5, hb5⟩
      have h16' : ¬ (16 : Int) < (m5 : Int) := by have := ho5.len; have := H16.out; omega
      have HO5 := Lib.hid ho5
      have HB5 := Lib.hid hb5
      clear ho5 hb5
      go_wp2
      go_ret2
      exact ⟨_, _, _, rfl, HO5.out, HB5.out⟩
    · rw [if_neg h16]
      have H16 := Lib.hid h16
      clear h16
      go_enter Try.func46, Try.ntmps46
      go_wp2_with fail
      refine C1.out.mono ?_
      rintro e w1 ⟨rfl, rfl⟩
      go_wp2_with fail
      refine C2.out.mono ?_
      rintro e w5 ⟨A5, m5, c5, rfl, ho5, hb5⟩
      have h16' : (16 : Int) < (m5 : Int) := by have := ho5.len; have := H16.out; omega
      have HO5 := Lib.hid ho5
      have HB5 := Lib.hid hb5
      clear ho5 hb5
      go_wp2
      go_ret2
      exact ⟨_, _, _, rfl, OwnI.nil _ _, HB5.out⟩

end Go.Proofs.Ytiajkfgicpidkaa
