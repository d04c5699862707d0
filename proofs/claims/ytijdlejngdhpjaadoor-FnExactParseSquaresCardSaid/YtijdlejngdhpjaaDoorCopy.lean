/- Appending a list that is read to a list of the call's own; copies: the program's copyOf and the reference's l01Own. -/
import Derived.Test.YtijdlejngdhpjaaDoorMem
namespace Go.Proofs.YtijdlejngdhpjaaDoor
open Go.ChangeShapes Go.WideShapes Go.ChangeAt Go.RowKit
set_option linter.unusedVariables false

theorem run_app_nil {P : Program} (w : World) (base : Nat) (t ty e : TypeId) (i : TypeInfo) (size : Nat) (ht : P.underlying t = some (.slice e)) (hi : P.info? e = some i)
    (v : Value) (n : Nat) (xs : List Value) (hown : w.ownsRow base e size v n xs) (c : Nat) : (Builtin.append_ #[t, t] ty #[v, .slice none 0 c]).run P w = .ok v w := by
  rcases hown.2 with ⟨rfl, rfl⟩ | ⟨g, cap, cur, rfl, _, _, hnc, _⟩
  · simp [Builtin.append_, run_underlying ht, sizeOf, typeInfo, hi, Builtin.lenOf, Builtin.firstCells]
  · simp [Builtin.append_, run_underlying ht, sizeOf, typeInfo, hi, Builtin.lenOf, Builtin.firstCells, hnc, storeCells]

theorem run_appR (w : World) (ty : TypeId) (B : Nat) (A : Option Addr) (n c : Nat) (xs : List Int) (A2 : Option Addr) (m c2 : Nat) (ys : List Int) (hown : OwnI w B A n c xs) (hr : RI w A2 m ys) (hn : n + m ≤ 1099511627776) (hB : B ≤ w.heap.size) :
    ∃ A' c' w', (Builtin.append_ #[38, 38] ty #[.slice A n c, .slice A2 m c2]).run Tryd.prog w = .ok (.slice A' (n + m) c') w' ∧ OwnI w' B A' (n + m) c' (xs ++ ys) ∧ w.grownBy w' (A.map (·.block)) := by
  obtain ⟨i0, hi, hz0, hz1, hz2⟩ := info_parts Tryd.infoI
  have hl := hr.len
  have hmem : ∀ z ∈ xs ++ ys, I64 z := fun z hz => by
    rcases List.mem_append.1 hz with h1 | h1
    · exact hown.2 z h1
    · exact hr.2.2.1 z h1
  cases A2 with
  | none =>
    have hm : m = 0 := by
      rcases Nat.eq_zero_or_pos m with h0 | h0
      · exact h0
      · obtain ⟨b, off, h, _⟩ := hr.2.2.2 h0
        cases h
    subst hm
    have hys : ys = [] := List.eq_nil_of_length_eq_zero hl
    subst hys
    exact ⟨A, c, w, run_app_nil w B _ ty _ i0 1 Tryd.underlying38 hi _ n _ hown.1 c2, by simpa using hown, World.grownBy.refl w _⟩
  | some ad =>
    have hcells : ∀ j u, (ys.map (Value.int .i64))[j]? = some u → w.cell? (ad.add j) = some u := by
      intro j u hu
      have hj : j < ys.length := by
        rcases Nat.lt_or_ge j ys.length with h | h
        · exact h
        · rw [List.getElem?_eq_none (by simpa using h)] at hu; cases hu
      obtain ⟨b, off, he, _, hc⟩ := hr.at_ (i := j) (by omega)
      have he' := Option.some.inj he
      clear he hi hz0 hz1 hz2
      subst he'
      have e1 : (⟨b, off, none⟩ : Addr).add j = ⟨b, off + j, none⟩ := by unfold Addr.add; split <;> simp_all
      rw [e1, hc, ← hu, List.getElem?_map, List.getElem?_eq_getElem hj]
      simp only [List.getD, List.getElem?_eq_getElem hj, Option.map_some, Option.getD_some]
    obtain ⟨v', w', hrun, h2, h3, _⟩ := run_append_own (P := Tryd.prog) w B 38 ty 2 i0 (.int .i64 0) 1 8 Tryd.underlying38 hi hz0 hz1 hz2 rfl (by decide) (.slice A n c) n _ hown.1 ad m c2 (ys.map (Value.int .i64)) (by simp [hl]) hcells
      (by simp [Value.oneCell']) (by unfold maxLen; omega) (by omega) hB
    rw [own_block] at h3
    rw [← List.map_append] at h2
    rcases h2.2 with ⟨rfl, h0⟩ | ⟨g, cap, cur, rfl, r⟩
    · have e : n + m = 0 := h0
      refine ⟨none, 0, w', by rw [e]; exact hrun, ⟨?_, hmem⟩, h3⟩
      rw [e] at h2 ⊢
      exact h2
    · exact ⟨_, cap, w', hrun, ⟨h2, hmem⟩, h3⟩

theorem appR {ops : Array Oper} {rest : List Oper} {o : Oper} {a : Act} {Q : Exit → Act → World → Prop} (s x : Operand) (B : Nat) (A : Option Addr) (n c : Nat) (xs : List Int) (A2 : Option Addr) (m c2 : Nat) (ys : List Int) (w : World) (hgd : o.guard = none)
    (ho : o.op = .call { callee := .builtin .append, args := #[s, x], argTypes := #[38, 38] })
    (hs : a.eval s = .slice A n c) (hx : a.eval x = .slice A2 m c2) (hown : OwnI w B A n c xs) (hr : RI w A2 m ys) (hn : n + m ≤ 1099511627776) (hB : B ≤ w.heap.size)
    (h : ∀ A' c' w', OwnI w' B A' (n + m) c' (xs ++ ys) → w.grownBy w' (A.map (·.block)) → wpList Tryd.prog ops Q rest (a.put o.dst (.slice A' (n + m) c')) w') :
    wpList Tryd.prog ops Q (o :: rest) a w := by
  refine wpList_plain hgd fun _ hK => ?_
  obtain ⟨A', c', w', hrun, h2, h3⟩ := run_appR w o.type B A n c xs A2 m c2 ys hown hr hn hB
  unfold Oper.wp execOp
  simp only [ho, resolve, invoke, builtin, Sem.run_bind, Sem.run_pure, Result.andThen_ok, List.map_toArray, List.map_cons, List.map_nil, hs, hx, hrun]
  exact hK _ _ (h A' c' w' h2 h3)

theorem cell_new (w : World) (v : Value) (t : TypeId) : (w.alloc (.cells #[v] t)).drew.cell? ⟨w.heap.size, 0, none⟩ = some v := by
  show (w.alloc (.cells #[v] t)).cell? ⟨w.heap.size, 0, none⟩ = some v
  rw [World.cell?_alloc_at _ _ _ _ rfl]; rfl

theorem size_new (w : World) (o : Obj) : w.heap.size < (w.alloc o).drew.heap.size := by
  show w.heap.size < (w.alloc o).heap.size
  simp

theorem size_new_le (w : World) (o : Obj) {B : Nat} (h : B ≤ w.heap.size) : B ≤ (w.alloc o).drew.heap.size := Nat.le_trans h (Nat.le_of_lt (size_new w o))

/-- one number appended, as a step of a region that draws its order -/
theorem step_app1 {ops : Array Oper} {o : Oper} {a : Act} {K : Act → World → Prop} {Q : Exit → Act → World → Prop} {E : Prop} (s x : Operand) (B : Nat) (A : Option Addr) (n c : Nat) (xs : List Int) (y : Int) (W : World) (p : Nat) (hgd : o.guard = none)
    (ho : o.op = .call { callee := .builtin .append, args := #[s, x], argTypes := #[38, 38] })
    (hs : a.eval s = .slice A n c) (hx : a.eval x = .slice (some ⟨p, 0, none⟩) 1 1) (hown : OwnI W B A n c xs) (hc : W.cell? ⟨p, 0, none⟩ = some (.int .i64 y)) (hp : p < W.heap.size) (hy : I64 y) (hn : n ≤ 1099511627775) (hB : B ≤ W.heap.size)
    (h : ∀ g c' w', OwnI w' B (some ⟨g, 0, none⟩) (n + 1) c' (xs ++ [y]) → W.grownBy w' (A.map (·.block)) → K (a.put o.dst (.slice (some ⟨g, 0, none⟩) (n + 1) c')) w') :
    if Region.wanted o (yielded ops a.tmps) = true then Oper.wp Tryd.prog o a W K Q else E := by
  have hw : Region.wanted o (yielded ops a.tmps) = true := by simp [Region.wanted, hgd]
  rw [if_pos hw]
  have hr : RI W (some ⟨p, 0, none⟩) 1 [y] := by
    refine ⟨rfl, by unfold maxLen; omega, fun z hz => by rw [List.mem_singleton.1 hz]; exact hy, fun _ => ⟨p, 0, rfl, hp, fun i hi => ?_⟩⟩
    obtain rfl : i = 0 := by omega
    rw [hc]; rfl
  obtain ⟨A', c', w', hrun, h2, h3⟩ := run_appR W o.type B A n c xs (some ⟨p, 0, none⟩) 1 1 [y] hown hr (by omega) hB
  obtain ⟨g, rfl, _⟩ := h2.form (Nat.succ_pos n)
  unfold Oper.wp execOp
  simp only [ho, resolve, invoke, builtin, Sem.run_bind, Sem.run_pure, Result.andThen_ok, List.map_toArray, List.map_cons, List.map_nil, hs, hx, hrun]
  exact h g c' w' h2 h3

end Go.Proofs.YtijdlejngdhpjaaDoor
