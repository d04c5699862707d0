/- One list appended to a slice of lists of the call's own; what such an append leaves as it was. -/
import Derived.Test.YtijdlejngdhpjaaDoorMemS
import Derived.Maps.AppendAt
namespace Go.Proofs.YtijdlejngdhpjaaDoor
open Go.ChangeShapes Go.WideShapes Go.ChangeAt Go.RowKit
set_option linter.unusedVariables false

theorem type_apart {w : World} {B1 B2 n1 n2 : Nat} {e1 e2 : TypeId} {v1 v2 : Value} {xs1 xs2 : List Value} (h1 : w.ownsRow B1 e1 1 v1 n1 xs1) (h2 : w.ownsRow B2 e2 1 v2 n2 xs2) (hne : e1 ≠ e2) {k : Nat} (hk : v1.ownBlock = some k) : v2.ownBlock ≠ some k := by
  intro hk2
  rcases h1.2 with ⟨rfl, _⟩ | ⟨g, cap, cur, rfl, _, hg, _⟩
  · cases hk
  · rcases h2.2 with ⟨rfl, _⟩ | ⟨g2, cap2, cur2, rfl, _, hg2, _⟩
    · cases hk2
    · have a1 : g = k := by simpa [Value.ownBlock] using hk
      have a2 : g2 = k := by simpa [Value.ownBlock] using hk2
      subst a1; subst a2
      rw [hg] at hg2
      injection hg2 with hg2
      injection hg2 with _ ht
      exact hne ht

/-- a list of numbers stays while the outer row of a slice of lists is written -/
theorem OwnI.kept_out {w w' B1 A1 n1 c1 xs B A n c vs xss} (h : OwnI w B1 A1 n1 c1 xs) (ho : OwnS w B A n c vs xss) (hg : w.grownBy w' (A.map (·.block))) : OwnI w' B1 A1 n1 c1 xs :=
  h.grown hg (fun a ha e => by
    have h1 := type_apart (k := a.block) h.1 ho.1 (by decide) (by rw [ha]; rfl)
    rw [own_block] at h1
    exact h1 e)

/-- another slice of lists stays while the outer row of one is written -/
theorem OwnS.kept_out {w w' B1 A1 n1 c1 vs1 xss1 B A n c vs xss} (h : OwnS w B1 A1 n1 c1 vs1 xss1) (ho : OwnS w B A n c vs xss) (hne : ∀ k, A.map (·.block) = some k → A1.map (·.block) ≠ some k) (hg : w.grownBy w' (A.map (·.block))) : OwnS w' B1 A1 n1 c1 vs1 xss1 := by
  refine ⟨h.1.kept hg ?_, h.2.1, fun i hi => (h.row hi).kept_out ho hg, h.2.2.2⟩
  rw [own_block]
  cases hA : A1.map (·.block) with
  | none => exact .inl rfl
  | some k => exact .inr (fun e => hne k e.symm hA)

theorem OwnS.alloc {w B A n c vs xss} (h : OwnS w B A n c vs xss) (o : Obj) : OwnS (w.alloc o) B A n c vs xss :=
  h.below ((Below.refl _ _).alloc (Nat.le_refl _) o)

theorem OwnS.nil (w : World) (B : Nat) : OwnS w B none 0 0 [] [] := ⟨World.ownsRow_nil _ _ _ _, rfl, fun i hi => absurd hi (by omega), fun i j _ hj => absurd hj (by omega)⟩

theorem emptyS_own (w : World) : OwnS (w.alloc (.cells #[] 38)) w.heap.size (some ⟨w.heap.size, 0, none⟩) 0 0 [] [] :=
  ⟨World.ownsRow_lit (base := w.heap.size) (e := 38) (size := 1) w #[] 0 (Nat.le_refl _) (Nat.zero_le _) rfl, rfl, fun i hi => absurd hi (by omega), fun i j _ hj => absurd hj (by omega)⟩

theorem Tryd.infoS : (Tryd.prog.info? 38).map (fun i => (i.zero, i.size, i.bytes)) = some (some (.slice none 0 0), 1, 24) := by kernel_rfl

/-- one list appended: its block is none of the rows' blocks -/
theorem app1D {ops : Array Oper} {rest : List Oper} {o : Oper} {a : Act} {Q : Exit → Act → World → Prop} (s x : Operand) (B : Nat) (A : Option Addr) (n c : Nat) (vs : List Sl) (xss : List (List Int)) (v : Sl) (ys : List Int) (w : World) (hgd : o.guard = none)
    (ho : o.op = .call { callee := .builtin .append, args := #[s, x], argTypes := #[22, 22] })
    (hs : a.eval s = .slice A n c) (hx : a.eval x = .slice (some ⟨w.heap.size, 0, none⟩) 1 1) (hown : OwnS w B A n c vs xss) (hy : OwnI w B v.1 v.2.1 v.2.2 ys) (hdis : ∀ i, i < n → ∀ k, (vs.getD i nilS).1.map (·.block) = some k → v.1.map (·.block) ≠ some k) (hn : n ≤ 1099511627776) (hB : B ≤ w.heap.size)
    (h : ∀ g c' w', OwnS w' B (some ⟨g, 0, none⟩) (n + 1) c' (vs ++ [v]) (xss ++ [ys]) → w.grownBy w' (A.map (·.block)) → (A.map (·.block) = some g ∨ w.heap.size < g) → wpList Tryd.prog ops Q rest (a.put o.dst (.slice (some ⟨g, 0, none⟩) (n + 1) c')) w') :
    wpList Tryd.prog ops Q (o :: rest) a (w.alloc (.cells #[sv v] 38)) := by
  obtain ⟨i0, hi, hz0, hz1, hz2⟩ := info_parts Tryd.infoS
  refine wpList_plain hgd fun _ hK => ?_
  have howA := hown.alloc (.cells #[sv v] 38)
  obtain ⟨v', w', hrun, h2, h3, _, h5⟩ := run_append_own_at (P := Tryd.prog) (w.alloc (.cells #[sv v] 38)) B 22 o.type 38 i0 (.slice none 0 0) 1 24 Tryd.underlying22 hi hz0 hz1 hz2 rfl (by decide) (.slice A n c) n _ howA.1
    ⟨w.heap.size, 0, none⟩ 1 1 [sv v] rfl (cell_one_new _ _ _) (by simp [sv, Value.oneCell']) (by unfold maxLen; omega) (by omega) (by simp; omega)
  obtain ⟨g, cap, rfl, _⟩ := h2.form (by omega)
  rw [own_block] at h3
  have hgw : w.grownBy w' (A.map (·.block)) := World.grownBy.trans (World.grownBy_alloc w _ _) h3
  have hl := hown.len
  have hvl := hown.vlen
  have hys := (hy.alloc (.cells #[sv v] 38)).kept_out howA h3
  have hat : A.map (·.block) = some g ∨ w.heap.size < g ∨ g = w.heap.size + 1 := by
    rcases h5 with e | e
    · left; rw [← own_block A n c, ← e]; rfl
    · right; right
      have : some g = some (w.alloc (.cells #[sv v] 38)).heap.size := e
      simpa using this
  have hat2 : A.map (·.block) = some g ∨ w.heap.size < g := hat.elim .inl (fun h => .inr (by omega))
  have hnew : OwnS w' B (some ⟨g, 0, none⟩) (n + 1) cap (vs ++ [v]) (xss ++ [ys]) := by
    refine ⟨by rw [List.map_append]; exact h2, by simp [hl], fun i hi => ?_, fun i j hij hj k hk => ?_⟩
    · rcases Nat.lt_or_ge i n with h | h
      · have e1 : (vs ++ [v]).getD i nilS = vs.getD i nilS := by simp only [List.getD]; rw [List.getElem?_append_left (by omega)]
        have e2 : (xss ++ [ys]).getD i [] = xss.getD i [] := by simp only [List.getD]; rw [List.getElem?_append_left (by omega)]
        rw [e1, e2]
        exact (howA.row h).kept_out howA h3
      · obtain rfl : i = n := by omega
        have e1 : (vs ++ [v]).getD i nilS = v := by simp only [List.getD]; rw [List.getElem?_append_right (by omega), hvl]; simp
        have e2 : (xss ++ [ys]).getD i [] = ys := by simp only [List.getD]; rw [List.getElem?_append_right (by omega), hl]; simp
        rw [e1, e2]
        exact hys
    · have e1 : (vs ++ [v]).getD i nilS = vs.getD i nilS := by simp only [List.getD]; rw [List.getElem?_append_left (by omega)]
      rw [e1] at hk
      rcases Nat.lt_or_ge j n with h | h
      · have e3 : (vs ++ [v]).getD j nilS = vs.getD j nilS := by simp only [List.getD]; rw [List.getElem?_append_left (by omega)]
        rw [e3]
        exact hown.2.2.2 i j hij h k hk
      · obtain rfl : j = n := by omega
        have e3 : (vs ++ [v]).getD j nilS = v := by simp only [List.getD]; rw [List.getElem?_append_right (by omega), hvl]; simp
        rw [e3]
        exact hdis i hij k hk
  unfold Oper.wp execOp
  simp only [ho, resolve, invoke, builtin, Sem.run_bind, Sem.run_pure, Result.andThen_ok, List.map_toArray, List.map_cons, List.map_nil, hs, hx, hrun]
  exact hK _ _ (h g cap w' hnew hgw hat2)

/-- one list appended -/
theorem app1S {ops : Array Oper} {rest : List Oper} {o : Oper} {a : Act} {Q : Exit → Act → World → Prop} (s x : Operand) (B L : Nat) (A : Option Addr) (n c : Nat) (vs : List Sl) (xss : List (List Int)) (v : Sl) (ys : List Int) (w : World) (hgd : o.guard = none)
    (ho : o.op = .call { callee := .builtin .append, args := #[s, x], argTypes := #[22, 22] })
    (hs : a.eval s = .slice A n c) (hx : a.eval x = .slice (some ⟨w.heap.size, 0, none⟩) 1 1) (hown : OwnS w B A n c vs xss) (hy : OwnI w L v.1 v.2.1 v.2.2 ys) (hin : InS A n vs L) (hBL : B ≤ L) (hn : n ≤ 1099511627776) (hB : B ≤ w.heap.size)
    (h : ∀ g c' w', OwnS w' B (some ⟨g, 0, none⟩) (n + 1) c' (vs ++ [v]) (xss ++ [ys]) → w.grownBy w' (A.map (·.block)) → (A.map (·.block) = some g ∨ w.heap.size < g) → wpList Tryd.prog ops Q rest (a.put o.dst (.slice (some ⟨g, 0, none⟩) (n + 1) c')) w') :
    wpList Tryd.prog ops Q (o :: rest) a (w.alloc (.cells #[sv v] 38)) :=
  app1D s x B A n c vs xss v ys w hgd ho hs hx hown (hy.mono hBL) (fun i hi k hk hk2 => by
    have h1 := hin.2 i hi k hk
    have h2 := hy.row_ge hk2
    omega) hn hB h

/-- a literal of one number -/
theorem lit1_own (w : World) (y : Int) (hy : I64 y) : OwnI (w.alloc (.cells #[.int .i64 y] 2)) w.heap.size (some ⟨w.heap.size, 0, none⟩) 1 1 [y] :=
  ⟨World.ownsRow_lit (base := w.heap.size) (e := 2) (size := 1) w #[.int .i64 y] 1 (Nat.le_refl _) (by unfold maxLen; omega) rfl, fun z hz => by rw [List.mem_singleton.1 hz]; exact hy⟩

/-- a literal of one list -/
theorem lit1S_own (w : World) (B : Nat) (v : Sl) (ys : List Int) (hy : OwnI w B v.1 v.2.1 v.2.2 ys) (hB : B ≤ w.heap.size) : OwnS (w.alloc (.cells #[sv v] 38)) B (some ⟨w.heap.size, 0, none⟩) 1 1 [v] [ys] := by
  refine ⟨World.ownsRow_lit (base := B) (e := 38) (size := 1) w #[sv v] 1 hB (by unfold maxLen; omega) rfl, rfl, fun i hi => ?_, fun i j hij hj => by omega⟩
  obtain rfl : i = 0 := by omega
  exact hy.alloc _

def GrewS (w : World) (B : Nat) (A0 : Option Addr) (X : List (List Int)) (e : Ending) (w' : World) : Prop :=
  ∃ A n c vs, e = .returned (.slice A n c) ∧ OwnS w' B A n c vs X ∧ w.grownBy w' (A0.map (·.block)) ∧ (A.map (·.block) = A0.map (·.block) ∨ ∀ k, A.map (·.block) = some k → w.heap.size ≤ k)

theorem grown_step {w wr w2 : World} {r0 r : Option Nat} (h : w.grownBy wr r0) (hg : wr.grownBy w2 r) (hr : r = r0 ∨ ∀ k, r = some k → w.heap.size ≤ k) : w.grownBy w2 r0 := by
  rcases hr with rfl | hr
  · exact World.grownBy.trans h hg
  · exact ⟨hg.os.trans h.os, hg.tape.trans h.tape, hg.output.trans h.output, Nat.le_trans h.size hg.size, fun k hk hne => (hg.block k (Nat.lt_of_lt_of_le hk h.size) (fun e => by have := hr k e.symm; omega)).trans (h.block k hk hne)⟩

end Go.Proofs.YtijdlejngdhpjaaDoor
