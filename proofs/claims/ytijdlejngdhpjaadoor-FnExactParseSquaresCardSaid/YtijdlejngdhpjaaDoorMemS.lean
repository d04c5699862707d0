/- Words for memory: a slice of slices of int64 that reads as a list of lists (RS), and one that the call itself has made and owns, its rows apart (OwnS); what the statements' own helpers eqInt64SS, markInt64SS, heldInt64SS, toInt64SS do. -/
import Derived.Test.YtijdlejngdhpjaaDoorMem
import Derived.Test.YtijdlejngdhpjaaDoorCopy
namespace Go.Proofs.YtijdlejngdhpjaaDoor
open Go.ChangeShapes Go.WideShapes Go.ChangeAt Go.RowKit
set_option linter.unusedVariables false

/-- a slice's address, length, capacity -/
abbrev Sl := Option Addr × Nat × Nat

def sv (v : Sl) : Value := .slice v.1 v.2.1 v.2.2

def nilS : Sl := (none, 0, 0)

def RS (w : World) (A : Option Addr) (n : Nat) (vs : List Sl) (xss : List (List Int)) : Prop :=
  vs.length = n ∧ xss.length = n ∧ n ≤ maxLen ∧ (0 < n → ∃ b off, A = some ⟨b, off, none⟩ ∧ b < w.heap.size ∧ ∀ i, i < n → w.cell? ⟨b, off + i, none⟩ = some (sv (vs.getD i nilS))) ∧
  ∀ i, i < n → RI w (vs.getD i nilS).1 (vs.getD i nilS).2.1 (xss.getD i [])

theorem RS.small {w A n vs xss} (h : RS w A n vs xss) : n ≤ 9223372036854775807 := by have := h.2.2.1; unfold maxLen at this; omega

theorem RS.nil {w : World} {A} : RS w A 0 [] [] := ⟨rfl, rfl, Nat.zero_le _, fun h => absurd h (by omega), fun i h => absurd h (by omega)⟩

theorem RS.len {w A n vs xss} (h : RS w A n vs xss) : xss.length = n := h.2.1

theorem RS.at_ {w A n vs xss} (h : RS w A n vs xss) {i : Nat} (hi : i < n) : ∃ b off, A = some ⟨b, off, none⟩ ∧ b < w.heap.size ∧ w.cell? ⟨b, off + i, none⟩ = some (sv (vs.getD i nilS)) := by
  obtain ⟨b, off, e, hb, hc⟩ := h.2.2.2.1 (by omega)
  exact ⟨b, off, e, hb, hc i hi⟩

theorem RS.row {w A n vs xss} (h : RS w A n vs xss) {i : Nat} (hi : i < n) : RI w (vs.getD i nilS).1 (vs.getD i nilS).2.1 (xss.getD i []) := h.2.2.2.2 i hi

theorem RS.below {w w' A n vs xss} (h : RS w A n vs xss) (hb : Below w.heap.size w w') : RS w' A n vs xss :=
  ⟨h.1, h.2.1, h.2.2.1, fun hn => by
    obtain ⟨b, off, e, hlt, hc⟩ := h.2.2.2.1 hn
    exact ⟨b, off, e, Nat.lt_of_lt_of_le hlt hb.size, fun i hi => (hb.cell (p := ⟨b, off + i, none⟩) hlt).trans (hc i hi)⟩, fun i hi => (h.row hi).below hb⟩

def OwnS (w : World) (B : Nat) (A : Option Addr) (n c : Nat) (vs : List Sl) (xss : List (List Int)) : Prop :=
  w.ownsRow B 38 1 (.slice A n c) n (vs.map sv) ∧ xss.length = n ∧
  (∀ i, i < n → OwnI w B (vs.getD i nilS).1 (vs.getD i nilS).2.1 (vs.getD i nilS).2.2 (xss.getD i [])) ∧
  (∀ i j, i < j → j < n → ∀ k, (vs.getD i nilS).1.map (·.block) = some k → (vs.getD j nilS).1.map (·.block) ≠ some k)

/-- all its blocks lie below L -/
def InS (A : Option Addr) (n : Nat) (vs : List Sl) (L : Nat) : Prop := (∀ k, A.map (·.block) = some k → k < L) ∧ ∀ i, i < n → ∀ k, (vs.getD i nilS).1.map (·.block) = some k → k < L

/-- from block B up to block L something may have turned, else nothing -/
structure Mid (B L : Nat) (w w' : World) : Prop where
  os : w'.os = w.os
  tape : w'.tape = w.tape
  output : w'.output = w.output
  size : w.heap.size ≤ w'.heap.size
  block : ∀ k, k < w.heap.size → (k < B ∨ L ≤ k) → w'.heap[k]? = w.heap[k]?

theorem Mid.refl (B L : Nat) (w : World) : Mid B L w w := ⟨rfl, rfl, rfl, Nat.le_refl _, fun _ _ _ => rfl⟩

theorem Mid.trans {B L : Nat} {a b c : World} (h : Mid B L a b) (k : Mid B L b c) : Mid B L a c :=
  ⟨k.os.trans h.os, k.tape.trans h.tape, k.output.trans h.output, Nat.le_trans h.size k.size, fun i hi hh => (k.block i (Nat.lt_of_lt_of_le hi h.size) hh).trans (h.block i hi hh)⟩

theorem Mid.of_grown {B L : Nat} {a b : World} {row : Option Nat} (h : a.grownBy b row) (h1 : ∀ k, row = some k → B ≤ k) (h2 : ∀ k, row = some k → k < L) : Mid B L a b :=
  ⟨h.os, h.tape, h.output, h.size, fun k hk hh => h.block k hk (fun e => by
    have e1 := h1 k e.symm
    have e2 := h2 k e.symm
    omega)⟩

theorem Mid.below {B L B0 : Nat} {a w w' : World} (h : Below B0 a w) (hm : Mid B L w w') (hB : B0 ≤ B) (hs : B0 ≤ w.heap.size) : Below B0 a w' :=
  h.trans ⟨hm.os, hm.tape, hm.output, hm.size, fun k hk => hm.block k (by omega) (.inl (by omega))⟩

theorem OwnI.mid {w w' B A n c xs B0 L} (h : OwnI w B A n c xs) (hm : Mid B0 L w w') (hL : L ≤ B) : OwnI w' B A n c xs := by
  refine ⟨⟨h.1.1, ?_⟩, h.2⟩
  rcases h.1.2 with h0 | ⟨g, cap, cur, hv, hb, hg, r⟩
  · exact .inl h0
  · exact .inr ⟨g, cap, cur, hv, hb, (hm.block g (Array.getElem?_eq_some_iff.1 hg).1 (.inr (by omega))).trans hg, r⟩

theorem OwnS.mid {w w' B A n c vs xss B0 L} (h : OwnS w B A n c vs xss) (hm : Mid B0 L w w') (hL : L ≤ B) : OwnS w' B A n c vs xss := by
  refine ⟨⟨h.1.1, ?_⟩, h.2.1, fun i hi => (h.2.2.1 i hi).mid hm hL, h.2.2.2⟩
  rcases h.1.2 with h0 | ⟨g, cap, cur, hv, hb, hg, r⟩
  · exact .inl h0
  · exact .inr ⟨g, cap, cur, hv, hb, (hm.block g (Array.getElem?_eq_some_iff.1 hg).1 (.inr (by omega))).trans hg, r⟩

theorem OwnS.grown_far {w w' B A n c vs xss} {row : Option Nat} (h : OwnS w B A n c vs xss) (hg : w.grownBy w' row) (hr : ∀ k, row = some k → k < B) : OwnS w' B A n c vs xss :=
  h.mid (B0 := 0) (L := B) (Mid.of_grown hg (fun _ _ => Nat.zero_le _) hr) (Nat.le_refl _)

theorem OwnS.len {w B A n c vs xss} (h : OwnS w B A n c vs xss) : xss.length = n := h.2.1

theorem OwnS.vlen {w B A n c vs xss} (h : OwnS w B A n c vs xss) : vs.length = n := by have := h.1.1; simpa using this

theorem OwnS.row {w B A n c vs xss} (h : OwnS w B A n c vs xss) {i : Nat} (hi : i < n) : OwnI w B (vs.getD i nilS).1 (vs.getD i nilS).2.1 (vs.getD i nilS).2.2 (xss.getD i []) := h.2.2.1 i hi

theorem OwnS.form {w B A n c vs xss} (h : OwnS w B A n c vs xss) (hn : 0 < n) : ∃ g, A = some ⟨g, 0, none⟩ ∧ B ≤ g ∧ g < w.heap.size := by
  rcases h.1.2 with ⟨_, h0⟩ | ⟨g, cap, cur, hv, hb, hg, _⟩
  · omega
  · injection hv with hv
    exact ⟨g, hv, hb, (Array.getElem?_eq_some_iff.1 hg).1⟩

theorem OwnS.small {w B A n c vs xss} (h : OwnS w B A n c vs xss) : n ≤ maxLen := by
  rcases h.1.2 with ⟨_, h0⟩ | ⟨g, cap, cur, hv, hb, hg, hnc, hcm, _⟩
  · omega
  · omega

theorem OwnS.cell {w B g n c vs xss} (h : OwnS w B (some ⟨g, 0, none⟩) n c vs xss) {i : Nat} (hi : i < n) : w.cell? ⟨g, i, none⟩ = some (sv (vs.getD i nilS)) := by
  have e := h.1.cellAt i (by omega)
  have hl := h.vlen
  have h2 : i < vs.length := by omega
  rw [e]; simp [List.getD, h2]

theorem OwnS.reads {w B A n c vs xss} (h : OwnS w B A n c vs xss) : RS w A n vs xss := by
  refine ⟨h.vlen, h.len, h.small, fun hn => ?_, fun i hi => (h.row hi).reads⟩
  obtain ⟨g, rfl, hb, hlt⟩ := h.form hn
  exact ⟨g, 0, rfl, hlt, fun i hi => by rw [Nat.zero_add]; exact h.cell hi⟩

theorem OwnS.below {w w' B A n c vs xss} (h : OwnS w B A n c vs xss) (hb : Below w.heap.size w w') : OwnS w' B A n c vs xss := by
  refine ⟨h.1.kept (row := none) (Below.grownBy hb _) ?_, h.2.1, fun i hi => (h.row hi).below hb, h.2.2.2⟩
  cases A with
  | none => exact .inl rfl
  | some a => exact .inr (by simp [Value.ownBlock])

theorem OwnS.mono {w B B' A n c vs xss} (h : OwnS w B A n c vs xss) (hB : B' ≤ B) : OwnS w B' A n c vs xss := by
  refine ⟨⟨h.1.1, ?_⟩, h.2.1, fun i hi => (h.row hi).mono hB, h.2.2.2⟩
  rcases h.1.2 with h0 | ⟨g, cap, cur, hv, hb, r⟩
  · exact .inl h0
  · exact .inr ⟨g, cap, cur, hv, by omega, r⟩

theorem OwnS.inS {w B A n c vs xss} (h : OwnS w B A n c vs xss) : InS A n vs w.heap.size :=
  ⟨fun k hk => (h.1.lt k ((own_block A n c).trans hk)).2, fun i hi k hk => (h.row hi).row_lt hk⟩

theorem OwnS.out_ge {w B A n c vs xss} (h : OwnS w B A n c vs xss) {k : Nat} (hk : A.map (·.block) = some k) : B ≤ k := (h.1.lt k ((own_block A n c).trans hk)).1

/-- the outer row and a row of it never share a block: their element types differ -/
theorem OwnS.apart {w B A n c vs xss} (h : OwnS w B A n c vs xss) {i : Nat} (hi : i < n) {k : Nat} (hk : (vs.getD i nilS).1.map (·.block) = some k) : A.map (·.block) ≠ some k := by
  intro hA
  have hr := (h.row hi).1
  rcases hr.2 with ⟨hv, _⟩ | ⟨g, cap, cur, hv, _, hg, _⟩
  · injection hv with h1; rw [h1] at hk; cases hk
  · injection hv with h1
    rw [h1] at hk
    have hgk : g = k := by simpa using hk
    rcases h.1.2 with ⟨hv2, _⟩ | ⟨g2, cap2, cur2, hv2, _, hg2, _⟩
    · injection hv2 with h1; rw [h1] at hA; cases hA
    · injection hv2 with h2
      rw [h2] at hA
      have hgk2 : g2 = k := by simpa using hA
      subst hgk; subst hgk2
      rw [hg] at hg2
      injection hg2 with hg2
      injection hg2 with _ ht
      exact absurd ht (by decide)

/-- one row of it has turned into ys -/
theorem OwnS.turn {w w' B A n c vs xss i ys} (h : OwnS w B A n c vs xss) (hi : i < n) (ho : OwnI w' B (vs.getD i nilS).1 (vs.getD i nilS).2.1 (vs.getD i nilS).2.2 ys) (hg : w.grownBy w' ((vs.getD i nilS).1.map (·.block))) :
    OwnS w' B A n c vs (xss.set i ys) := by
  refine ⟨h.1.kept hg ?_, by simpa using h.2.1, fun j hj => ?_, h.2.2.2⟩
  · rw [own_block]
    cases hA : A.map (·.block) with
    | none => exact .inl rfl
    | some k => exact .inr (fun e => h.apart hi e.symm hA)
  · by_cases e : i = j
    · subst e
      have h2 : i < xss.length := by have := h.len; omega
      have e2 : (xss.set i ys).getD i [] = ys := by simp [List.getD, h2]
      rw [e2]; exact ho
    · have e2 : (xss.set i ys).getD j [] = xss.getD j [] := by simp [List.getD, e]
      rw [e2]
      refine (h.row hj).grown hg (fun a ha e3 => ?_)
      have hk : (vs.getD j nilS).1.map (·.block) = some a.block := by rw [ha]; rfl
      rcases Nat.lt_or_ge i j with h1 | h1
      · exact h.2.2.2 i j h1 hj _ e3 hk
      · exact h.2.2.2 j i (by omega) hi _ hk e3

def marksS (k : Int) : List (List Int) → List (List Int)
  | [] => []
  | xs :: r => marks k xs.length :: marksS (k + (xs.length : Int)) r

def tot : List (List Int) → Nat
  | [] => 0
  | xs :: r => xs.length + tot r

theorem marksS_len (xss : List (List Int)) : ∀ k, (marksS k xss).length = xss.length := by
  induction xss with
  | nil => intro k; rfl
  | cons x r ih => intro k; simp [marksS, ih]

theorem tot_append (a b : List (List Int)) : tot (a ++ b) = tot a + tot b := by
  induction a with
  | nil => simp [tot]
  | cons x r ih => simp [tot, ih]; omega

theorem marksS_append (a b : List (List Int)) : ∀ k, marksS k (a ++ b) = marksS k a ++ marksS (k + (tot a : Int)) b := by
  induction a with
  | nil => intro k; simp [marksS, tot]
  | cons x r ih => intro k; simp only [List.cons_append, marksS, ih, tot]; congr 2; rw [show k + (x.length : Int) + (tot r : Int) = k + ((x.length + tot r : Nat) : Int) by omega]

theorem take_snocS (xss : List (List Int)) (i : Nat) (h : i < xss.length) : xss.take (i + 1) = xss.take i ++ [xss.getD i []] := by
  rw [List.take_succ_eq_append_getElem h]; simp [List.getD, h]

theorem tot_take_le (xss : List (List Int)) (i : Nat) : tot (xss.take i) ≤ tot xss := by
  conv => rhs; rw [← List.take_append_drop i xss, tot_append]
  omega

theorem marksS_step (xss : List (List Int)) (k : Int) (i : Nat) (hi : i < xss.length) :
    (marksS k (xss.take i) ++ xss.drop i).set i (marks (k + (tot (xss.take i) : Int)) (xss.getD i []).length) = marksS k (xss.take (i + 1)) ++ xss.drop (i + 1) := by
  have hl : (marksS k (xss.take i)).length = i := by rw [marksS_len]; simp; omega
  rw [List.set_append, hl]
  simp only [Nat.lt_irrefl, if_false, Nat.sub_self]
  rw [List.drop_eq_getElem_cons hi, List.set_cons_zero, take_snocS xss i hi, marksS_append, List.append_assoc]
  rfl

theorem marksS_getD (xss : List (List Int)) (k : Int) (i : Nat) (hi : i < xss.length) : (marksS k xss).getD i [] = marks (k + (tot (xss.take i) : Int)) (xss.getD i []).length := by
  have h := marksS_append (xss.take i) (xss.drop i) k
  rw [List.take_append_drop] at h
  have hl : (marksS k (xss.take i)).length = i := by rw [marksS_len]; simp; omega
  rw [h, List.drop_eq_getElem_cons hi]
  simp only [List.getD, marksS]
  rw [List.getElem?_append_right (by omega), hl]
  simp [hi]

end Go.Proofs.YtijdlejngdhpjaaDoor
