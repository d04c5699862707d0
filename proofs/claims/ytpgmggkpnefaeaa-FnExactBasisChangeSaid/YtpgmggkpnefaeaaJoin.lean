/- A slice of lists appended to a slice of lists of the call's own; copies of lists and of slices of lists, joins, as steps of a region that draws its order. -/
import Derived.Test.YtpgmggkpnefaeaaOutR
import Derived.Test.YtpgmggkpnefaeaaParI
namespace Go.Proofs.Ytpgmggkpnefaeaa
open Go.ChangeShapes Go.WideShapes Go.ChangeAt Go.RowKit Go.Proofs
set_option linter.unusedVariables false

theorem rowMono {w : World} {B B' e v n xs} (h : w.ownsRow B e 1 v n xs) (hB : B' ≤ B) : w.ownsRow B' e 1 v n xs := by
  refine ⟨h.1, ?_⟩
  rcases h.2 with h0 | ⟨g, cap, cur, hv, hb, r⟩
  · exact .inl h0
  · exact .inr ⟨g, cap, cur, hv, by omega, r⟩

theorem rowBelow {w w' : World} {B e v n xs} (h : w.ownsRow B e 1 v n xs) (hb : Below w.heap.size w w') : w'.ownsRow B e 1 v n xs := by
  refine h.kept (row := none) (Below.grownBy hb _) ?_
  cases v.ownBlock with
  | none => exact .inl rfl
  | some a => exact .inr (by simp)

/-- the rows of two slices of lists, the one's behind the other's, under an outer row of the call's own -/
theorem OwnS.join {w w' B A n c vs xss A2 m c2 us yss L A' c'} (h : OwnS w B A n c vs xss) (g : OwnS w L A2 m c2 us yss) (hin : InS A n vs L) (hBL : B ≤ L) (ho : w'.ownsRow B 51 1 (.slice A' (n + m) c') (n + m) ((vs ++ us).map sv)) (hg : w.grownBy w' (A.map (·.block))) :
    OwnS w' B A' (n + m) c' (vs ++ us) (xss ++ yss) := by
  have hl := h.len
  have hvl := h.vlen
  have hl2 := g.len
  have hvl2 := g.vlen
  have e1 : ∀ i, i < n → (vs ++ us).getD i nilS = vs.getD i nilS := fun i hi => by simp only [List.getD]; rw [List.getElem?_append_left (by omega)]
  have e2 : ∀ i, n ≤ i → (vs ++ us).getD i nilS = us.getD (i - n) nilS := fun i hi => by simp only [List.getD]; rw [List.getElem?_append_right (by omega), hvl]
  have e3 : ∀ i, i < n → (xss ++ yss).getD i [] = xss.getD i [] := fun i hi => by simp only [List.getD]; rw [List.getElem?_append_left (by omega)]
  have e4 : ∀ i, n ≤ i → (xss ++ yss).getD i [] = yss.getD (i - n) [] := fun i hi => by simp only [List.getD]; rw [List.getElem?_append_right (by omega), hl]
  refine ⟨ho, by simp; omega, fun i hi => ?_, fun i j hij hj k hk => ?_⟩
  · rcases Nat.lt_or_ge i n with h1 | h1
    · rw [e1 i h1, e3 i h1]
      exact (h.row h1).kept_out h hg
    · rw [e2 i h1, e4 i h1]
      exact ((g.row (i := i - n) (by omega)).kept_out h hg).mono hBL
  · rcases Nat.lt_or_ge j n with h1 | h1
    · rw [e1 i (by omega)] at hk
      rw [e1 j h1]
      exact h.2.2.2 i j hij h1 k hk
    · rw [e2 j h1]
      rcases Nat.lt_or_ge i n with h2 | h2
      · rw [e1 i h2] at hk
        intro hk2
        have l1 := hin.2 i h2 k hk
        have l2 := (g.row (i := j - n) (by omega)).row_ge hk2
        omega
      · rw [e2 i h2] at hk
        exact g.2.2.2 (i - n) (j - n) (by omega) (by omega) k hk

theorem step_appRS {ops : Array Oper} {o : Oper} {a : Act} {K : Act → World → Prop} {Q : Exit → Act → World → Prop} {E : Prop} (s x : Operand) (B : Nat) (A : Option Addr) (n c : Nat) (vs : List Sl) (A2 : Option Addr) (m c2 : Nat) (us : List Sl) (yss : List (List Int)) (W : World) (hgd : o.guard = none)
    (ho : o.op = .call { callee := .builtin .append, args := #[s, x], argTypes := #[22, 22] })
    (hs : a.eval s = .slice A n c) (hx : a.eval x = .slice A2 m c2) (hown : W.ownsRow B 51 1 (.slice A n c) n (vs.map sv)) (hr : RS W A2 m us yss) (hn : n + m ≤ 1099511627776) (hB : B ≤ W.heap.size)
    (h : ∀ A' c' w', w'.ownsRow B 51 1 (.slice A' (n + m) c') (n + m) ((vs ++ us).map sv) → W.grownBy w' (A.map (·.block)) → K (a.put o.dst (.slice A' (n + m) c')) w') :
    if Region.wanted o (yielded ops a.tmps) = true then Oper.wp Try.prog o a W K Q else E := by
  have hw : Region.wanted o (yielded ops a.tmps) = true := by simp [Region.wanted, hgd]
  rw [if_pos hw]
  obtain ⟨A', c', w', hrun, h2, h3⟩ := run_appRS W o.type B A n c vs A2 m c2 us yss hown hr hn hB
  unfold Oper.wp execOp
  simp only [ho, resolve, invoke, builtin, Sem.run_bind, Sem.run_pure, Result.andThen_ok, List.map_toArray, List.map_cons, List.map_nil, hs, hx, hrun]
  exact h A' c' w' h2 h3

theorem step_appR {ops : Array Oper} {o : Oper} {a : Act} {K : Act → World → Prop} {Q : Exit → Act → World → Prop} {E : Prop} (s x : Operand) (B : Nat) (A : Option Addr) (n c : Nat) (xs : List Int) (A2 : Option Addr) (m c2 : Nat) (ys : List Int) (W : World) (hgd : o.guard = none)
    (ho : o.op = .call { callee := .builtin .append, args := #[s, x], argTypes := #[51, 51] })
    (hs : a.eval s = .slice A n c) (hx : a.eval x = .slice A2 m c2) (hown : OwnI W B A n c xs) (hr : RI W A2 m ys) (hn : n + m ≤ 1099511627776) (hB : B ≤ W.heap.size)
    (h : ∀ A' c' w', OwnI w' B A' (n + m) c' (xs ++ ys) → W.grownBy w' (A.map (·.block)) → K (a.put o.dst (.slice A' (n + m) c')) w') :
    if Region.wanted o (yielded ops a.tmps) = true then Oper.wp Try.prog o a W K Q else E := by
  have hw : Region.wanted o (yielded ops a.tmps) = true := by simp [Region.wanted, hgd]
  rw [if_pos hw]
  obtain ⟨A', c', w', hrun, h2, h3⟩ := run_appR W o.type B A n c xs A2 m c2 ys hown hr hn hB
  unfold Oper.wp execOp
  simp only [ho, resolve, invoke, builtin, Sem.run_bind, Sem.run_pure, Result.andThen_ok, List.map_toArray, List.map_cons, List.map_nil, hs, hx, hrun]
  exact h A' c' w' h2 h3

theorem impl_joinedI {A n c xs A2 n2 c2 ys w} (h : RI w A n xs) (g : RI w A2 n2 ys) (hn : n ≤ 1048576) (hn2 : n2 ≤ 1048576) :
    Calls Try.prog 142 #[.slice A n c, .slice A2 n2 c2] w fun e w' => ∃ A' c', e = .returned (.slice A' (n + n2) c') ∧ OwnI w' w.heap.size A' (n + n2) c' (xs ++ ys) ∧ Below w.heap.size w w' := by
  have CC := Lib.hid (impl_copy A n c xs w h hn)
  have G := Lib.hid g
  clear h g
  go_enter Try.func142, Try.ntmps142
  go_wp2_with (first | (go_at_call 100; refine CC.out.mono ?_; rintro e w1 ⟨A3, c3, rfl, ho1, hb1⟩; have HO1 := Lib.hid ho1; have HB1 := Lib.hid hb1; clear ho1 hb1) | (at_builtin; refine appR _ _ w.heap.size A3 n c3 xs _ _ _ ys _ rfl rfl rfl rfl HO1.out (G.out.below HB1.out) (by omega) HB1.out.size ?_; intro A' c' w2 ho hg))
  have HO := Lib.hid ho
  have HB2 := Lib.hid (HB1.out.grown hg HB1.out.size (fun k hk => HO1.out.row_ge hk))
  clear ho hg
  go_wp2
  go_ret
  exact ⟨A', c', rfl, HO.out, HB2.out⟩

end Go.Proofs.Ytpgmggkpnefaeaa
