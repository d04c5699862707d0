/- Copies and joins of slices of lists whose rows are read only; slices.Equal. -/
import Derived.Test.YtpgmggkpnefaeaaOdd
import Derived.Test.YtpgmggkpnefaeaaCopy
import Derived.Shelf.SlSortCmp.NoneTotal
namespace Go.Proofs.Ytpgmggkpnefaeaa
open Go.ChangeShapes Go.WideShapes Go.ChangeAt Go.RowKit Go.Proofs
set_option linter.unusedVariables false

theorem RS.vlen {w A n vs xss} (h : RS w A n vs xss) : vs.length = n := h.1

theorem run_appRS (w : World) (ty : TypeId) (B : Nat) (A : Option Addr) (n c : Nat) (vs : List Sl) (A2 : Option Addr) (m c2 : Nat) (us : List Sl) (yss : List (List Int)) (hown : w.ownsRow B 51 1 (.slice A n c) n (vs.map sv)) (hr : RS w A2 m us yss) (hn : n + m ≤ 1099511627776) (hB : B ≤ w.heap.size) :
    ∃ A' c' w', (Builtin.append_ #[22, 22] ty #[.slice A n c, .slice A2 m c2]).run Try.prog w = .ok (.slice A' (n + m) c') w' ∧ w'.ownsRow B 51 1 (.slice A' (n + m) c') (n + m) ((vs ++ us).map sv) ∧ w.grownBy w' (A.map (·.block)) := by
  obtain ⟨i0, hi, hz0, hz1, hz2⟩ := info_parts Try.infoS
  have hl := hr.vlen
  cases A2 with
  | none =>
    have hm : m = 0 := by
      rcases Nat.eq_zero_or_pos m with h0 | h0
      · exact h0
      · obtain ⟨b, off, h, _⟩ := hr.at_ h0
        cases h
    subst hm
    have hus : us = [] := List.eq_nil_of_length_eq_zero hl
    subst hus
    exact ⟨A, c, w, run_app_nil w B _ ty _ i0 1 Try.underlying22 hi _ n _ hown c2, by simpa using hown, World.grownBy.refl w _⟩
  | some ad =>
    have hcells : ∀ j u, (us.map sv)[j]? = some u → w.cell? (ad.add j) = some u := by
      intro j u hu
      have hj : j < us.length := by
        rcases Nat.lt_or_ge j us.length with h | h
        · exact h
        · rw [List.getElem?_eq_none (by simpa using h)] at hu; cases hu
      obtain ⟨b, off, he, _, hc⟩ := hr.at_ (i := j) (by omega)
      have he' := Option.some.inj he
      clear he hi hz0 hz1 hz2
      subst he'
      have e1 : (⟨b, off, none⟩ : Addr).add j = ⟨b, off + j, none⟩ := by unfold Addr.add; split <;> simp_all
      rw [e1, hc, ← hu, List.getElem?_map, List.getElem?_eq_getElem hj]
      simp only [List.getD, List.getElem?_eq_getElem hj, Option.map_some, Option.getD_some]
    obtain ⟨v', w', hrun, h2, h3, _⟩ := run_append_own (P := Try.prog) w B 22 ty 51 i0 (.slice none 0 0) 1 24 Try.underlying22 hi hz0 hz1 hz2 rfl (by decide) (.slice A n c) n _ hown ad m c2 (us.map sv) (by simp [hl]) hcells
      (fun u hu => by obtain ⟨v, _, rfl⟩ := List.mem_map.1 hu; rfl) (by unfold maxLen; omega) (by omega) hB
    rw [own_block] at h3
    rw [← List.map_append] at h2
    rcases h2.2 with ⟨rfl, h0⟩ | ⟨g, cap, cur, rfl, r⟩
    · have e : n + m = 0 := h0
      refine ⟨none, 0, w', by rw [e]; exact hrun, ?_, h3⟩
      rw [e] at h2 ⊢
      exact h2
    · exact ⟨_, cap, w', hrun, h2, h3⟩

theorem appRS {ops : Array Oper} {rest : List Oper} {o : Oper} {a : Act} {Q : Exit → Act → World → Prop} (s x : Operand) (B : Nat) (A : Option Addr) (n c : Nat) (vs : List Sl) (A2 : Option Addr) (m c2 : Nat) (us : List Sl) (yss : List (List Int)) (w : World) (hgd : o.guard = none)
    (ho : o.op = .call { callee := .builtin .append, args := #[s, x], argTypes := #[22, 22] })
    (hs : a.eval s = .slice A n c) (hx : a.eval x = .slice A2 m c2) (hown : w.ownsRow B 51 1 (.slice A n c) n (vs.map sv)) (hr : RS w A2 m us yss) (hn : n + m ≤ 1099511627776) (hB : B ≤ w.heap.size)
    (h : ∀ A' c' w', w'.ownsRow B 51 1 (.slice A' (n + m) c') (n + m) ((vs ++ us).map sv) → w.grownBy w' (A.map (·.block)) → wpList Try.prog ops Q rest (a.put o.dst (.slice A' (n + m) c')) w') :
    wpList Try.prog ops Q (o :: rest) a w := by
  refine wpList_plain hgd fun _ hK => ?_
  obtain ⟨A', c', w', hrun, h2, h3⟩ := run_appRS w o.type B A n c vs A2 m c2 us yss hown hr hn hB
  unfold Oper.wp execOp
  simp only [ho, resolve, invoke, builtin, Sem.run_bind, Sem.run_pure, Result.andThen_ok, List.map_toArray, List.map_cons, List.map_nil, hs, hx, hrun]
  exact hK _ _ (h A' c' w' h2 h3)

/-- an outer row of the call's own over rows that are read -/
theorem RS.of_own {w B A n c} {vs : List Sl} {xss : List (List Int)} (ho : w.ownsRow B 51 1 (.slice A n c) n (vs.map sv)) (hv : vs.length = n) (hx : xss.length = n) (hr : ∀ i, i < n → RI w (vs.getD i nilS).1 (vs.getD i nilS).2.1 (xss.getD i [])) : RS w A n vs xss := by
  refine ⟨hv, hx, ?_, fun hn => ?_, hr⟩
  · rcases ho.2 with ⟨_, h⟩ | ⟨g, cap, cur, _, _, _, h1, h2, _⟩
    · rw [h]; exact Nat.zero_le _
    · omega
  · obtain ⟨g, cap, e, _⟩ := ho.form hn
    injection e with e1 _ _
    subst e1
    refine ⟨g, 0, rfl, ?_, fun i hi => ?_⟩
    · exact World.block_lt_of_cell? w ⟨g, 0, none⟩ (by rw [ho.cellAt 0 (by omega)]; exact List.getElem?_eq_getElem (by simp; omega))
    · rw [Nat.zero_add, ho.cellAt i (by omega)]
      simp [List.getD, show i < vs.length by omega]

theorem impl_copyS {A n c vs xss w} (h : RS w A n vs xss) (hn : n ≤ 8589934592) :
    Calls Try.prog 137 #[.slice A n c] w fun e w' => ∃ A' c', e = .returned (.slice A' n c') ∧ w'.ownsRow w.heap.size 51 1 (.slice A' n c') n (vs.map sv) ∧ Below w.heap.size w w' := by
  have HI := Lib.hid (emptyS_own w).1
  have HB := Lib.hid (show Below w.heap.size w (w.alloc (.cells #[] 51)) from (Below.refl _ _).alloc (Nat.le_refl _) _)
  have HR := Lib.hid (h.below HB.out)
  clear h
  go_enter Try.func137, Try.ntmps137
  go_wp2_with (at_builtin; refine appRS _ _ _ _ _ _ [] _ _ _ _ _ _ rfl rfl rfl rfl HI.out HR.out (by omega) HB.out.size ?_; intro A' c' w1 ho hg)
  rw [Nat.zero_add, List.nil_append] at ho
  have HO := Lib.hid ho
  have HB2 := Lib.hid (HB.out.grown hg HB.out.size (fun k hk => by
    have e : w.heap.size = k := by simpa using hk
    omega))
  clear ho hg
  go_wp2
  go_ret
  exact ⟨A', c', by simp, HO.out, HB2.out⟩

theorem impl_joinedS {A n c vs a A2 n2 c2 us b w} (h : RS w A n vs a) (g : RS w A2 n2 us b) (hn : n ≤ 8589934592) (hn2 : n2 ≤ 8589934592) :
    Calls Try.prog 117 #[.slice A n c, .slice A2 n2 c2] w fun e w' => ∃ A' c', e = .returned (.slice A' (n + n2) c') ∧ w'.ownsRow w.heap.size 51 1 (.slice A' (n + n2) c') (n + n2) ((vs ++ us).map sv) ∧ Below w.heap.size w w' := by
  have CC := Lib.hid (impl_copyS (c := c) h hn)
  have G := Lib.hid g
  clear h g
  go_enter Try.func117, Try.ntmps117
  go_wp2_with (first | (go_at_call 137; refine CC.out.mono ?_; rintro e w1 ⟨A3, c3, rfl, ho1, hb1⟩; have HO1 := Lib.hid ho1; have HB1 := Lib.hid hb1; clear ho1 hb1) | (at_builtin; refine appRS _ _ w.heap.size A3 n c3 vs _ _ _ us b _ rfl rfl rfl rfl HO1.out (G.out.below HB1.out) (by omega) HB1.out.size ?_; intro A' c' w2 ho hg))
  have HO := Lib.hid ho
  have HB2 := Lib.hid (HB1.out.grown hg HB1.out.size (fun k hk => (HO1.out.lt k (by rw [own_block]; exact hk)).1))
  clear ho hg
  go_wp2
  go_ret
  exact ⟨A', c', rfl, HO.out, HB2.out⟩

set_option maxHeartbeats 800000 in
theorem equal_any {A n c xs B m d ys w} (h : RI w A n xs) (g : RI w B m ys) :
    Calls Try.prog 138 #[.slice A n c, .slice B m d] w fun e w' => e = .returned (.bool (decide (xs = ys))) ∧ ∃ q, w' = w.drewN q := by
  have hl := h.len
  have hl' := g.len
  have hs := h.small
  have hs' := g.small
  have H := Lib.hid h
  have G := Lib.hid g
  clear h g
  by_cases hnm : n = m
  · subst hnm
    go_enter Try.func138, Try.ntmps138
    go_wp2
    go_loopw [13] (fun iv wr => ∃ i : Nat, i ≤ n ∧ iv = .int .i64 (i : Int) ∧ xs.take i = ys.take i ∧ ∃ q, wr = w.drewN q) (fun iv _ => n - (intOf iv).toNat)
    case atStart => exact ⟨0, by omega, rfl, by simp, 0, rfl⟩
    case round =>
      obtain ⟨i, hi, rfl, ht, hq⟩ := hrel
      have HW := Lib.hid (show Below w.heap.size w wr by obtain ⟨q, rfl⟩ := hq; exact below_drewN (Below.refl _ _) _)
      have HQ := Lib.hid (fun m => show ∃ q, wr.drewN m = w.drewN q by obtain ⟨q, rfl⟩ := hq; exact ⟨_, by rw [World.drewN_drewN]⟩)
      have HE := Lib.hid hq
      clear hq
      by_cases hlt : i < n
      · have hlt' : (i : Int) < (n : Int) := by omega
        obtain ⟨b, off, rfl, _, hc⟩ := (H.out.below HW.out).at_ hlt
        obtain ⟨b2, off2, rfl, _, hc2⟩ := (G.out.below HW.out).at_ hlt
        have htk1 : xs.take (i + 1) = xs.take i ++ [xs.getD i 0] := by rw [List.take_succ_eq_append_getElem (by omega)]; simp [List.getD, show i < xs.length by omega]
        have htk2 : ys.take (i + 1) = ys.take i ++ [ys.getD i 0] := by rw [List.take_succ_eq_append_getElem (by omega)]; simp [List.getD, show i < ys.length by omega]
        by_cases hxy : xs.getD i 0 = ys.getD i 0
        · have HT := Lib.hid (show xs.take (i + 1) = ys.take (i + 1) by rw [htk1, htk2, ht, hxy])
          rw [hxy] at hc
          generalize ys.getD i 0 = y at *
          clear ht htk1 htk2 hl hl' hxy
          go_wp2_with fail
          go_quiet (fail)
          go_wp2
          go_roundw
          case rel => exact ⟨i + 1, by omega, by go_num, HT.out, HQ.out _⟩
          case measure => simp [intOf]; omega
        · have HF := Lib.hid (show decide (xs = ys) = false from decide_eq_false (fun e => hxy (by rw [e])))
          have hne : (xs.getD i 0 == ys.getD i 0) = false := by rw [beq_eq_false_iff_ne]; exact hxy
          generalize xs.getD i 0 = x at *
          generalize ys.getD i 0 = y at *
          clear ht htk1 htk2 hl hl' hxy
          go_wp2_with fail
          go_quiet (fail)
          go_wp2
          go_ret
          exact ⟨by first | (rw [HF.out]; rfl) | rw [HF.out], HQ.out _⟩
      · obtain rfl : i = n := by omega
        have HF := Lib.hid (show decide (xs = ys) = true from decide_eq_true (by
          have e1 : xs.take i = xs := by rw [← hl]; exact List.take_length
          have e2 : ys.take i = ys := by rw [← hl']; exact List.take_length
          rw [← e1, ← e2]; exact ht))
        clear ht hl hl'
        go_wp2
        go_ret
        exact ⟨by first | (rw [HF.out]; rfl) | rw [HF.out], HE.out⟩
  · have HF := Lib.hid (show decide (xs = ys) = false from decide_eq_false (fun e => hnm (by rw [← hl, ← hl', e])))
    have hne : ((n : Int) == (m : Int)) = false := by rw [beq_eq_false_iff_ne]; omega
    clear hl hl' hnm
    go_enter Try.func138, Try.ntmps138
    go_wp2
    go_ret
    exact ⟨by first | (rw [HF.out]; rfl) | rw [HF.out], 0, rfl⟩

end Go.Proofs.Ytpgmggkpnefaeaa
