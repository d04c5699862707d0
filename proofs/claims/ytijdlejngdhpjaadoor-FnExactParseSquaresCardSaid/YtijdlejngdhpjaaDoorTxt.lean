/- Strings by their bytes; a slice of strings: one that is read (RT), one of the call's own (OwnT); one string appended. -/
import Derived.Test.YtijdlejngdhpjaaDoorCopy
import Derived.Test.YtijdlejngdhpjaaDoorTxtP
import Derived.Laws.Concat
import Derived.Laws.BytesArg
namespace Go.Proofs.YtijdlejngdhpjaaDoor
open Go.ChangeShapes Go.WideShapes Go.ChangeAt Go.RowKit
set_option linter.unusedVariables false

/-- the string of some bytes -/
def sB (l : List UInt8) : ByteArray := ⟨l.toArray⟩

theorem sB_app (a b : List UInt8) : sB a ++ sB b = sB (a ++ b) := ByteArray.mk_append_mk a b

theorem sB_bytes (s : ByteArray) : sB s.data.toList = s := rfl

theorem sB_data (l : List UInt8) : (sB l).data.toList = l := rfl

theorem sB_size (l : List UInt8) : (sB l).size = l.length := by simp [sB, ByteArray.size]

theorem sB_inj {a b : List UInt8} (h : sB a = sB b) : a = b := by
  have := congrArg (fun s : ByteArray => s.data.toList) h
  simpa [sB] using this

/-- a slice of n strings that reads as xs -/
def RT (w : World) (A : Option Addr) (n : Nat) (xs : List (List UInt8)) : Prop :=
  xs.length = n ∧ (0 < n → ∃ b off, A = some ⟨b, off, none⟩ ∧ b < w.heap.size ∧ ∀ i, i < n → w.cell? ⟨b, off + i, none⟩ = some (.string (sB (xs.getD i []))))

theorem RT.below {w w' A n xs} (h : RT w A n xs) (hb : Below w.heap.size w w') : RT w' A n xs :=
  ⟨h.1, fun hn => by
    obtain ⟨b, off, e, hlt, hc⟩ := h.2 hn
    exact ⟨b, off, e, Nat.lt_of_lt_of_le hlt hb.size, fun i hi => (hb.cell (p := ⟨b, off + i, none⟩) hlt).trans (hc i hi)⟩⟩

theorem RT.at_ {w A n xs} (h : RT w A n xs) {i : Nat} (hi : i < n) : ∃ b off, A = some ⟨b, off, none⟩ ∧ b < w.heap.size ∧ w.cell? ⟨b, off + i, none⟩ = some (.string (sB (xs.getD i []))) := by
  obtain ⟨b, off, e, hb, hc⟩ := h.2 (by omega)
  exact ⟨b, off, e, hb, hc i hi⟩

/-- a slice of n strings in memory from block B on that is the call's own -/
def OwnT (w : World) (B : Nat) (A : Option Addr) (n c : Nat) (xs : List (List UInt8)) : Prop :=
  w.ownsRow B 9 1 (.slice A n c) n (xs.map fun x => Value.string (sB x))

theorem OwnT.len {w B A n c xs} (h : OwnT w B A n c xs) : xs.length = n := by have := h.1; simpa using this

theorem OwnT.form {w B A n c xs} (h : OwnT w B A n c xs) (hn : 0 < n) : ∃ g, A = some ⟨g, 0, none⟩ ∧ B ≤ g ∧ g < w.heap.size ∧ n ≤ c := by
  rcases h.2 with ⟨_, h0⟩ | ⟨g, cap, cur, hv, hb, hg, hnc, _⟩
  · omega
  · injection hv with hv _ hc
    subst hc
    exact ⟨g, hv, hb, (Array.getElem?_eq_some_iff.1 hg).1, hnc⟩

theorem OwnT.cell {w B g n c xs} (h : OwnT w B (some ⟨g, 0, none⟩) n c xs) {i : Nat} (hi : i < n) : w.cell? ⟨g, i, none⟩ = some (.string (sB (xs.getD i []))) := by
  have e := h.cellAt i (by omega)
  have hl := h.len
  have h2 : i < xs.length := by omega
  rw [e]; simp [List.getD, h2]

theorem OwnT.reads {w B A n c xs} (h : OwnT w B A n c xs) : RT w A n xs := by
  refine ⟨h.len, fun hn => ?_⟩
  obtain ⟨g, rfl, hb, hlt, _⟩ := h.form hn
  exact ⟨g, 0, rfl, hlt, fun i hi => by rw [Nat.zero_add]; exact h.cell hi⟩

theorem OwnT.grown {w w' B A n c xs} {row : Option Nat} (h : OwnT w B A n c xs) (hg : w.grownBy w' row) (hne : ∀ a, A = some a → row ≠ some a.block) : OwnT w' B A n c xs := by
  refine h.kept hg ?_
  cases A with
  | none => exact .inl rfl
  | some a => exact .inr (fun e => hne a rfl (by simpa [Value.ownBlock] using e.symm))

theorem OwnT.below {w w' B A n c xs} (h : OwnT w B A n c xs) (hb : Below w.heap.size w w') : OwnT w' B A n c xs :=
  h.grown (row := none) (Below.grownBy hb _) (fun _ _ => by simp)

theorem OwnT.row_ge {w B A n c xs} (h : OwnT w B A n c xs) {k : Nat} (hk : A.map (·.block) = some k) : B ≤ k := (h.lt k ((own_block A n c).trans hk)).1

/-- an empty list of strings in new memory -/
theorem emptyT_own (w : World) : OwnT (w.alloc (.cells #[] 9)) w.heap.size (some ⟨w.heap.size, 0, none⟩) 0 0 [] :=
  World.ownsRow_lit (base := w.heap.size) (e := 9) (size := 1) w #[] 0 (Nat.le_refl _) (Nat.zero_le _) rfl

theorem Tryd.infoT : (Tryd.prog.info? 9).map (fun i => (i.zero, i.size, i.bytes)) = some (some (.string ByteArray.empty), 1, 16) := by kernel_rfl

/-- one string appended to a list of the call's own -/
theorem app1T {ops : Array Oper} {rest : List Oper} {o : Oper} {a : Act} {Q : Exit → Act → World → Prop} (s x : Operand) (B : Nat) (A : Option Addr) (n c : Nat) (xs : List (List UInt8)) (y : List UInt8) (w : World) (hgd : o.guard = none)
    (ho : o.op = .call { callee := .builtin .append, args := #[s, x], argTypes := #[36, 36] })
    (hs : a.eval s = .slice A n c) (hx : a.eval x = .slice (some ⟨w.heap.size, 0, none⟩) 1 1) (hown : OwnT w B A n c xs) (hn : n ≤ 1099511627776) (hB : B ≤ w.heap.size)
    (h : ∀ g c' w', OwnT w' B (some ⟨g, 0, none⟩) (n + 1) c' (xs ++ [y]) → w.grownBy w' (A.map (·.block)) → wpList Tryd.prog ops Q rest (a.put o.dst (.slice (some ⟨g, 0, none⟩) (n + 1) c')) w') :
    wpList Tryd.prog ops Q (o :: rest) a (w.alloc (.cells #[.string (sB y)] 9)) := by
  obtain ⟨i0, hi, hz0, hz1, hz2⟩ := info_parts Tryd.infoT
  refine wpList_append_own _ hgd s x 36 ho B 9 i0 (.string ByteArray.empty) 1 16 Tryd.underlying36 hi hz0 hz1 hz2 rfl (by decide) (.slice A n c) n _ hs (World.ownsRow.alloc hown _) ⟨w.heap.size, 0, none⟩ 1 1 [.string (sB y)] hx rfl (cell_one_new _ _ _) (by simp [Value.oneCell']) (by unfold maxLen; omega) (by omega) (by simp; omega) ?_
  intro v' w' hown' hg _
  obtain ⟨g, cap, rfl, _⟩ := hown'.form (by omega)
  have e : (xs.map fun x => Value.string (sB x)) ++ [.string (sB y)] = (xs ++ [y]).map fun x => Value.string (sB x) := by simp
  rw [e] at hown'
  refine h g cap w' hown' ?_
  rw [own_block] at hg
  exact World.grownBy.trans (World.grownBy_alloc w _ _) hg

end Go.Proofs.YtijdlejngdhpjaaDoor
