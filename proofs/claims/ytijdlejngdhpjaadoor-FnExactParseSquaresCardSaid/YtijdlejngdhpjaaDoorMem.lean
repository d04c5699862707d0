/- Words for memory: a slice of int64 that reads as a list (RI), and one that the call itself has made and owns (OwnI); their laws; what the statements' own helpers toInt64S, eqInt64S, markInt64S, heldInt64S do. -/
import Derived.Test.YtijdlejngdhpjaaDoorRows
import Derived.WalkKit
import Derived.ProofKit
import Derived.WalkSpells
import Derived.WalkLawsBesides
import Derived.Lib.Hide
import Derived.Laws.OwnMore
import Derived.Deep.AppendLies
import Derived.Deep.LoopGhost
import Derived.Deep.DeepMust
import Derived.Deep.QuietTactic
import Derived.BigQuiet
import Derived.Deep.Draws
import Derived.Deep.OwnRows
import Derived.Outline
namespace Go.Proofs.YtijdlejngdhpjaaDoor
open Go.ChangeShapes Go.WideShapes Go.ChangeAt Go.RowKit
set_option linter.unusedVariables false

def I64 (x : Int) : Prop := (Lit.int .i64 x).wf = true

theorem I64.bd {x : Int} (h : I64 x) : -9223372036854775808 ≤ x ∧ x ≤ 9223372036854775807 := by
  have h' := h
  simp [I64, Lit.wf, IntKind.min, IntKind.max, IntKind.signed, IntKind.bits] at h'
  exact h'

theorem I64.mk {x : Int} (h1 : -9223372036854775808 ≤ x) (h2 : x ≤ 9223372036854775807) : I64 x := by
  simp [I64, Lit.wf, IntKind.min, IntKind.max, IntKind.signed, IntKind.bits]
  exact ⟨h1, h2⟩

/-- a slice value of n elements at A reads as the list xs -/
def RI (w : World) (A : Option Addr) (n : Nat) (xs : List Int) : Prop :=
  xs.length = n ∧ n ≤ maxLen ∧ (∀ x ∈ xs, I64 x) ∧ (0 < n → ∃ b off, A = some ⟨b, off, none⟩ ∧ b < w.heap.size ∧ ∀ i, i < n → w.cell? ⟨b, off + i, none⟩ = some (.int .i64 (xs.getD i 0)))

def IsRow (w : World) (a : Option Addr) (len cap : Nat) (zs : List Int) : Prop :=
  (a = none ∧ len = 0 ∧ cap = 0 ∧ zs = []) ∨
  ∃ x, a = some x ∧ len ≤ cap ∧ cap ≤ maxLen ∧ zs.length = cap ∧ (∀ i, i < zs.length → w.cell? (x.add i) = some (.int .i64 (zs.getD i 0))) ∧ ∀ n ∈ zs, (Lit.int .i64 n).wf = true

theorem RI.len {w A n xs} (h : RI w A n xs) : xs.length = n := h.1

theorem RI.small {w A n xs} (h : RI w A n xs) : n ≤ 9223372036854775807 := by have := h.2.1; unfold maxLen at this; omega

theorem RI.nil {w : World} {A} : RI w A 0 [] := ⟨rfl, Nat.zero_le _, fun _ h => (by cases h), fun h => absurd h (by omega)⟩

theorem RI.at_ {w A n xs} (h : RI w A n xs) {i : Nat} (hi : i < n) : ∃ b off, A = some ⟨b, off, none⟩ ∧ b < w.heap.size ∧ w.cell? ⟨b, off + i, none⟩ = some (.int .i64 (xs.getD i 0)) := by
  obtain ⟨b, off, e, hb, hc⟩ := h.2.2.2 (by omega)
  exact ⟨b, off, e, hb, hc i hi⟩

theorem RI.el {w A n xs} (h : RI w A n xs) {i : Nat} (hi : i < n) : I64 (xs.getD i 0) := by
  have hl := h.1
  have h2 : i < xs.length := by omega
  have e : xs.getD i 0 = xs[i] := by simp [List.getD, h2]
  rw [e]; exact h.2.2.1 _ (List.getElem_mem h2)

theorem RI.below {w w' A n xs} (h : RI w A n xs) (hb : Below w.heap.size w w') : RI w' A n xs :=
  ⟨h.1, h.2.1, h.2.2.1, fun hn => by
    obtain ⟨b, off, e, hlt, hc⟩ := h.2.2.2 hn
    exact ⟨b, off, e, Nat.lt_of_lt_of_le hlt hb.size, fun i hi => (hb.cell (p := ⟨b, off + i, none⟩) hlt).trans (hc i hi)⟩⟩

theorem RI.of_row {w a len cap zs} (h : IsRow w a len cap zs) : RI w a len (zs.take len) := by
  rcases h with ⟨rfl, rfl, rfl, rfl⟩ | ⟨x, rfl, hl, hm, hz, hc, hw⟩
  · exact RI.nil
  · refine ⟨by simp; omega, by omega, fun y hy => hw y (List.mem_of_mem_take hy), fun hn => ?_⟩
    obtain ⟨b, off, spot⟩ := x
    have h0 := hc 0 (by omega)
    have hspot : spot = none := by simpa [Addr.add] using World.cell?_spot h0
    subst hspot
    refine ⟨b, off, rfl, ?_, fun i hi => ?_⟩
    · have := World.block_lt_of_cell? w _ h0
      simpa [Addr.add] using this
    · have h1 := hc i (by omega)
      have e : (zs.take len).getD i 0 = zs.getD i 0 := by simp [List.getD, hi]
      rw [e, ← h1]
      congr 1
      unfold Addr.add
      split <;> simp_all

/-- a slice of n elements that reads as xs, in memory from block B on that is the call's own -/
def OwnI (w : World) (B : Nat) (A : Option Addr) (n c : Nat) (xs : List Int) : Prop :=
  w.ownsRow B 2 1 (.slice A n c) n (xs.map (Value.int .i64)) ∧ ∀ x ∈ xs, I64 x

theorem OwnI.nil (w : World) (B : Nat) : OwnI w B none 0 0 [] := ⟨World.ownsRow_nil _ _ _ _, fun _ h => (by cases h)⟩

theorem OwnI.len {w B A n c xs} (h : OwnI w B A n c xs) : xs.length = n := by have := h.1.1; simpa using this

theorem OwnI.form {w B A n c xs} (h : OwnI w B A n c xs) (hn : 0 < n) : ∃ g, A = some ⟨g, 0, none⟩ ∧ B ≤ g ∧ g < w.heap.size := by
  rcases h.1.2 with ⟨_, h0⟩ | ⟨g, cap, cur, hv, hb, hg, _⟩
  · omega
  · injection hv with hv
    exact ⟨g, hv, hb, (Array.getElem?_eq_some_iff.1 hg).1⟩

theorem OwnI.small {w B A n c xs} (h : OwnI w B A n c xs) : n ≤ maxLen := by
  rcases h.1.2 with ⟨_, h0⟩ | ⟨g, cap, cur, hv, hb, hg, hnc, hcm, _⟩
  · omega
  · omega

theorem OwnI.cell {w B g n c xs} (h : OwnI w B (some ⟨g, 0, none⟩) n c xs) {i : Nat} (hi : i < n) : w.cell? ⟨g, i, none⟩ = some (.int .i64 (xs.getD i 0)) := by
  have e := h.1.cellAt i (by omega)
  have hl := h.len
  have h2 : i < xs.length := by omega
  rw [e]; simp [List.getD, h2]

theorem OwnI.frozen {w B g n c xs} (h : OwnI w B (some ⟨g, 0, none⟩) n c xs) (i : Nat) : w.frozen? ⟨g, i, none⟩ = false := h.1.frozenAt i

theorem OwnI.reads {w B A n c xs} (h : OwnI w B A n c xs) : RI w A n xs := by
  refine ⟨h.len, h.small, h.2, fun hn => ?_⟩
  obtain ⟨g, rfl, hb, hlt⟩ := h.form hn
  exact ⟨g, 0, rfl, hlt, fun i hi => by rw [Nat.zero_add]; exact h.cell hi⟩

theorem OwnI.set {w B g n c xs} (h : OwnI w B (some ⟨g, 0, none⟩) n c xs) (i : Nat) {x : Int} (hx : I64 x) : OwnI (w.setCell ⟨g, i, none⟩ (.int .i64 x)) B (some ⟨g, 0, none⟩) n c (xs.set i x) := by
  refine ⟨?_, fun y hy => ?_⟩
  · have := (h.1.stored i (.int .i64 x)).1
    rwa [← List.map_set] at this
  · rcases List.mem_or_eq_of_mem_set hy with h1 | h1
    · exact h.2 y h1
    · rw [h1]; exact hx

theorem OwnI.grown {w w' B A n c xs} {row : Option Nat} (h : OwnI w B A n c xs) (hg : w.grownBy w' row) (hne : ∀ a, A = some a → row ≠ some a.block) : OwnI w' B A n c xs := by
  refine ⟨h.1.kept hg ?_, h.2⟩
  cases A with
  | none => exact .inl rfl
  | some a => exact .inr (fun e => hne a rfl (by simpa [Value.ownBlock] using e.symm))

theorem Below.grownBy {w w' : World} (h : Below w.heap.size w w') (row : Option Nat) : w.grownBy w' row := ⟨h.os, h.tape, h.output, h.size, fun k hk _ => h.block k hk⟩

theorem OwnI.below {w w' B A n c xs} (h : OwnI w B A n c xs) (hb : Below w.heap.size w w') : OwnI w' B A n c xs :=
  h.grown (row := none) (Below.grownBy hb _) (fun _ _ => by simp)

theorem OwnI.mono {w B B' A n c xs} (h : OwnI w B A n c xs) (hB : B' ≤ B) : OwnI w B' A n c xs := by
  refine ⟨⟨h.1.1, ?_⟩, h.2⟩
  rcases h.1.2 with h0 | ⟨g, cap, cur, hv, hb, r⟩
  · exact .inl h0
  · exact .inr ⟨g, cap, cur, hv, by omega, r⟩

theorem OwnI.alloc {w B A n c xs} (h : OwnI w B A n c xs) (o : Obj) : OwnI (w.alloc o) B A n c xs := ⟨h.1.alloc o, h.2⟩

theorem OwnI.drewN {w B A n c xs} (h : OwnI w B A n c xs) (k : Nat) : OwnI (w.drewN k) B A n c xs := h

theorem OwnI.drew {w B A n c xs} (h : OwnI w B A n c xs) : OwnI w.drew B A n c xs := h

theorem below_drewN {B : Nat} {a w : World} (h : Below B a w) (n : Nat) : Below B a (w.drewN n) := ⟨h.os, h.tape, h.output, h.size, h.block⟩

theorem Tryd.infoI : (Tryd.prog.info? 2).map (fun i => (i.zero, i.size, i.bytes)) = some (some (.int .i64 0), 1, 8) := by kernel_rfl

theorem take_rep_set (xs : List Int) (k n : Nat) (hk : k < n) (hl : xs.length = n) : (xs.take k ++ List.replicate (n - k) 0).set k (xs.getD k 0) = xs.take (k + 1) ++ List.replicate (n - (k + 1)) 0 := by
  have h2 : k < xs.length := by omega
  apply List.ext_getElem?
  intro j
  simp only [List.getElem?_set, List.length_append, List.length_take, List.length_replicate, List.getElem?_append, List.getElem?_take, List.getElem?_replicate, List.getD]
  by_cases e : k = j
  · subst e
    have e1 : k < k + 1 := by omega
    have e2 : min (k + 1) xs.length = k + 1 := by omega
    have e3 : min k xs.length = k := by omega
    rw [e2, e3]
    simp [h2, e1]; omega
  · by_cases h : j < k
    · have e2 : j < min k xs.length := by omega
      have e3 : j < min (k + 1) xs.length := by omega
      have e4 : j < k + 1 := by omega
      rw [if_neg e]; simp [e2, e3, h, e4]
    · have e2 : ¬ j < min k xs.length := by omega
      have e3 : ¬ j < min (k + 1) xs.length := by omega
      rw [if_neg e, if_neg e2, if_neg e3]
      have e4 : min k xs.length = k := by omega
      have e5 : min (k + 1) xs.length = k + 1 := by omega
      rw [e4, e5]
      congr 1
      simp; omega

set_option maxHeartbeats 400000 in
theorem to_any (A : Option Addr) (n c : Nat) (xs : List Int) (w : World) (h : RI w A n xs) (hn : n ≤ 1048576) :
    Calls Tryd.prog 45 #[.slice A n c] w fun e w' => ∃ g, e = .returned (.slice (some ⟨g, 0, none⟩) n n) ∧ OwnI w' w.heap.size (some ⟨g, 0, none⟩) n n xs ∧ Below w.heap.size w w' := by
  obtain ⟨i0, hi, hz0, hz1, hz2⟩ := info_parts Tryd.infoI
  have hmk := run_make (P := Tryd.prog) w 38 2 i0 (.int .i64 0) Tryd.underlying38 hi hz0 .i64 .i64 (n : Int) (n : Int) (by omega) (by omega) (by rw [hz2]; omega) (by omega)
  rw [hz1] at hmk
  simp only [Int.toNat_natCast, Nat.mul_one] at hmk
  have hown := World.ownsRow_lit (base := w.heap.size) (e := 2) (size := 1) w (madeCells (Value.int .i64 0).cells n) n (Nat.le_refl _) (by unfold maxLen; omega) (by rw [size_madeCells]; omega)
  have hbel : Below w.heap.size w (w.alloc (.cells (madeCells (Value.int .i64 0).cells n) 2)) := (Below.refl _ _).alloc (Nat.le_refl _) _
  have hL : (madeCells (Value.int .i64 0).cells n).toList = (List.replicate n (0 : Int)).map (Value.int .i64) := by
    show (madeCells #[Value.int .i64 0] n).toList = _
    rw [toList_madeCells_one]; simp
  rw [hL] at hown
  have hI : OwnI (w.alloc (.cells (madeCells (Value.int .i64 0).cells n) 2)) w.heap.size (some ⟨w.heap.size, 0, none⟩) n n (xs.take 0 ++ List.replicate (n - 0) 0) :=
    ⟨by simpa using hown, fun x hx => by simp at hx; rw [hx.2]; exact I64.mk (by omega) (by omega)⟩
  clear hown hL hi hz0 hz1 hz2
  generalize hW : w.alloc (.cells (madeCells (Value.int .i64 0).cells n) 2) = W at *
  have HW := Lib.hid hW
  clear hW
  have H := Lib.hid h
  clear h
  go_enter Tryd.func45, Tryd.ntmps45
  go_wp2
  clear hmk
  go_loopw [4] (fun i wr => ∃ k : Nat, k ≤ n ∧ i = .int .i64 k ∧ OwnI wr w.heap.size (some ⟨w.heap.size, 0, none⟩) n n (xs.take k ++ List.replicate (n - k) 0) ∧ Below w.heap.size w wr) (fun i _ => n - (intOf i).toNat)
  case atStart => exact ⟨0, Nat.zero_le _, rfl, hI, hbel⟩
  case round =>
    clear hI hbel HW
    obtain ⟨k, hk, rfl, ho, hb⟩ := hrel
    by_cases hlt : k < n
    · have hR := H.out.below hb
      obtain ⟨b, off, rfl, hbl, hc⟩ := hR.at_ hlt
      have hx := hR.el hlt
      have hc2 := ho.cell hlt
      have hfr := ho.frozen k
      have hn' := ho.set k hx
      rw [take_rep_set xs k n hlt hR.len] at hn'
      have hb' := hb.setCell (p := ⟨w.heap.size, k, none⟩) (Nat.le_refl _) (.int .i64 (xs.getD k 0))
      have HN := Lib.hid hn'
      have HB := Lib.hid hb'
      have HO := Lib.hid ho
      clear hR hn' hb' ho hb hx hbl
      go_wp2
      go_roundw
      case rel => exact ⟨k + 1, by omega, by go_num, HN.out, HB.out⟩
      case measure => simp [intOf]; omega
    · obtain rfl : k = n := by omega
      have hl := H.out.len
      have e1 : xs.take k ++ List.replicate (k - k) 0 = xs := by simp [← hl]
      rw [e1] at ho
      clear hl e1
      have HO := Lib.hid ho
      have HB := Lib.hid hb
      clear ho hb
      go_wp2
      go_ret
      exact ⟨_, rfl, HO.out, HB.out⟩

set_option maxHeartbeats 400000 in
theorem eq_q (A B : Option Addr) (n c d : Nat) (xs : List Int) (w : World) (h : RI w A n xs) (g : RI w B n xs) :
    Calls Tryd.prog 40 #[.slice A n c, .slice B n d] w fun e w' => e = .returned (.bool true) ∧ ∃ q, w' = w.drewN q := by
  have hs := h.small
  have H := Lib.hid h
  have G := Lib.hid g
  clear h g
  go_enter Tryd.func40, Tryd.ntmps40
  go_wp2
  go_loopw [5] (fun i wr => ∃ k : Nat, k ≤ n ∧ i = .int .i64 k ∧ ∃ q, wr = w.drewN q) (fun i _ => n - (intOf i).toNat)
  case atStart => exact ⟨0, Nat.zero_le _, rfl, 0, rfl⟩
  case round =>
    obtain ⟨k, hk, rfl, q, rfl⟩ := hrel
    by_cases hlt : k < n
    · obtain ⟨b, off, rfl, _, hc⟩ := H.out.at_ hlt
      obtain ⟨b2, off2, rfl, _, hc2⟩ := G.out.at_ hlt
      have hlt' : (k : Int) < (n : Int) := by omega
      go_wp2_with fail
      go_quiet (fail)
      go_wp2
      go_roundw
      case rel => exact ⟨k + 1, by omega, by go_num, _, rfl⟩
      case measure => simp [intOf]; omega
    · obtain rfl : k = n := by omega
      go_wp2
      go_ret
      exact ⟨rfl, _, rfl⟩

theorem eq_same (A B : Option Addr) (n c d : Nat) (xs : List Int) (w : World) (h : RI w A n xs) (g : RI w B n xs) :
    Calls Tryd.prog 40 #[.slice A n c, .slice B n d] w fun e w' => e = .returned (.bool true) ∧ Below w.heap.size w w' :=
  (eq_q A B n c d xs w h g).mono fun _ _ ⟨he, _, hq⟩ => ⟨he, hq ▸ below_drewN (Below.refl _ _) _⟩

/-- the numbers from k on -/
def marks (k : Int) (n : Nat) : List Int := (List.range n).map fun i : Nat => k + (i : Int)

theorem marks_len (k : Int) (n : Nat) : (marks k n).length = n := by simp [marks]

theorem marks_get (k : Int) (n i : Nat) (h : i < n) : (marks k n).getD i 0 = k + (i : Int) := by simp [marks, List.getD, h]

theorem marks_step (xs : List Int) (k : Int) (i n : Nat) (hi : i < n) (hl : xs.length = n) : ((marks k i) ++ xs.drop i).set i (k + (i : Int)) = marks k (i + 1) ++ xs.drop (i + 1) := by
  have h2 : i < xs.length := by omega
  have e : xs.drop i = xs[i] :: xs.drop (i + 1) := List.drop_eq_getElem_cons h2
  rw [e, List.set_append]
  simp only [marks_len, Nat.lt_irrefl, if_false, Nat.sub_self, List.set_cons_zero]
  simp [marks, List.range_succ]

theorem own_block (A : Option Addr) (n c : Nat) : (Value.slice A n c).ownBlock = A.map (·.block) := by cases A <;> rfl

theorem OwnI.row_ge {w B A n c xs} (h : OwnI w B A n c xs) {k : Nat} (hk : A.map (·.block) = some k) : B ≤ k := (h.1.lt k ((own_block A n c).trans hk)).1

theorem OwnI.row_lt {w B A n c xs} (h : OwnI w B A n c xs) {k : Nat} (hk : A.map (·.block) = some k) : k < w.heap.size := (h.1.lt k ((own_block A n c).trans hk)).2

theorem OwnI.grown_far {w w' B A n c xs} {row : Option Nat} (h : OwnI w B A n c xs) (hg : w.grownBy w' row) (hr : ∀ k, row = some k → k < B) : OwnI w' B A n c xs :=
  h.grown hg (fun a ha e => by
    subst ha
    have h1 := h.row_ge (k := a.block) rfl
    have h2 := hr _ e
    omega)

set_option maxHeartbeats 400000 in
theorem mark_any (B : Nat) (A : Option Addr) (n c : Nat) (xs : List Int) (k0 : Int) (w : World) (h : OwnI w B A n c xs) (hk0 : 0 ≤ k0) (hk : k0 + n ≤ 9223372036854775000) :
    Calls Tryd.prog 41 #[.slice A n c, .int .i64 k0] w fun e w' => e = .returned (.int .i64 (k0 + (n : Int))) ∧ OwnI w' B A n c (marks k0 n) ∧ w.grownBy w' (A.map (·.block)) := by
  have hl := h.len
  rcases Nat.eq_zero_or_pos n with rfl | hn
  · have hx : xs = [] := List.eq_nil_of_length_eq_zero hl
    subst hx
    have H := Lib.hid h
    clear h
    go_enter Tryd.func41, Tryd.ntmps41
    go_wp2
    refine wp_loop_rounds 1 ?_
    rw [rounds_succ]
    go_wp2
    go_ret
    exact ⟨by simp, H.out, World.grownBy.refl _ _⟩
  · obtain ⟨g, rfl, hB, hg⟩ := h.form hn
    have hI : OwnI w B (some ⟨g, 0, none⟩) n c (marks k0 0 ++ xs.drop 0) := by simpa [marks] using h
    have HI := Lib.hid hI
    have HL := Lib.hid hl
    clear h hI hl
    go_enter Tryd.func41, Tryd.ntmps41
    go_wp2
    go_loopw [1, 5] (fun kk i wr => ∃ j : Nat, j ≤ n ∧ i = .int .i64 j ∧ kk = .int .i64 (k0 + (j : Int)) ∧ OwnI wr B (some ⟨g, 0, none⟩) n c (marks k0 j ++ xs.drop j) ∧ w.grownBy wr (some g)) (fun _ i _ => n - (intOf i).toNat)
    case atStart => exact ⟨0, Nat.zero_le _, rfl, by go_num, HI.out, World.grownBy.refl _ _⟩
    case round =>
      obtain ⟨j, hj, rfl, rfl, ho, hb⟩ := hrel
      by_cases hlt : j < n
      · have hc := ho.cell hlt
        have hf := ho.frozen j
        have hn' := ho.set j (x := k0 + (j : Int)) (I64.mk (by omega) (by omega))
        rw [marks_step xs k0 j n hlt HL.out] at hn'
        have hs := (ho.1.stored j (.int .i64 (k0 + (j : Int)))).2
        have hb' := World.grownBy.trans hb hs
        have HN := Lib.hid hn'
        have HB := Lib.hid hb'
        clear hn' hb' hs ho hb
        have hlt' : (j : Int) < (n : Int) := by omega
        go_wp2
        go_roundw
        case rel => exact ⟨j + 1, by omega, by go_num, by go_num, HN.out, HB.out⟩
        case measure => simp [intOf]; omega
      · obtain rfl : j = n := by omega
        have e1 : marks k0 j ++ xs.drop j = marks k0 j := by rw [List.drop_of_length_le (by rw [HL.out]; exact Nat.le_refl _)]; simp
        rw [e1] at ho
        clear e1
        have HO := Lib.hid ho
        have HB := Lib.hid hb
        clear ho hb
        go_wp2
        go_ret
        exact ⟨rfl, HO.out, HB.out⟩

set_option maxHeartbeats 400000 in
theorem held_any (A : Option Addr) (n c : Nat) (k0 : Int) (w : World) (h : RI w A n (marks k0 n)) (hk0 : 0 ≤ k0) (hk : k0 + n ≤ 9223372036854775000) :
    Calls Tryd.prog 42 #[.slice A n c, .int .i64 k0] w fun e w' => e = .returned (.int .i64 (k0 + (n : Int))) ∧ Below w.heap.size w w' := by
  have H := Lib.hid h
  clear h
  go_enter Tryd.func42, Tryd.ntmps42
  go_wp2
  go_loop [1, 5] (fun kk i => ∃ j : Nat, j ≤ n ∧ i = .int .i64 j ∧ kk = .int .i64 (k0 + (j : Int))) (fun _ i => n - (intOf i).toNat)
  case atStart => exact ⟨0, Nat.zero_le _, rfl, by go_num⟩
  case round =>
    obtain ⟨j, hj, rfl, rfl⟩ := hrel
    by_cases hlt : j < n
    · obtain ⟨b, off, rfl, _, hc⟩ := H.out.at_ hlt
      rw [marks_get k0 n j hlt] at hc
      have hlt' : (j : Int) < (n : Int) := by omega
      go_wp2
      go_round
      case rel => exact ⟨j + 1, by omega, by go_num, by go_num⟩
      case measure => simp [intOf]; omega
    · obtain rfl : j = n := by omega
      go_wp2
      go_ret
      exact ⟨rfl, Below.refl _ _⟩

/-- an empty list in new memory -/
theorem empty_own (w : World) : OwnI (w.alloc (.cells #[] 2)) w.heap.size (some ⟨w.heap.size, 0, none⟩) 0 0 [] :=
  ⟨World.ownsRow_lit (base := w.heap.size) (e := 2) (size := 1) w #[] 0 (Nat.le_refl _) (Nat.zero_le _) rfl, fun _ h => (by cases h)⟩

/-- one number appended to a list of the call's own -/
theorem app1 {ops : Array Oper} {rest : List Oper} {o : Oper} {a : Act} {Q : Exit → Act → World → Prop} (s x : Operand) (B : Nat) (A : Option Addr) (n c : Nat) (xs : List Int) (y : Int) (w : World) (hgd : o.guard = none)
    (ho : o.op = .call { callee := .builtin .append, args := #[s, x], argTypes := #[38, 38] })
    (hs : a.eval s = .slice A n c) (hx : a.eval x = .slice (some ⟨w.heap.size, 0, none⟩) 1 1) (hown : OwnI w B A n c xs) (hy : I64 y) (hn : n ≤ 1099511627776) (hB : B ≤ w.heap.size)
    (h : ∀ g c' w', OwnI w' B (some ⟨g, 0, none⟩) (n + 1) c' (xs ++ [y]) → w.grownBy w' (A.map (·.block)) → wpList Tryd.prog ops Q rest (a.put o.dst (.slice (some ⟨g, 0, none⟩) (n + 1) c')) w') :
    wpList Tryd.prog ops Q (o :: rest) a (w.alloc (.cells #[.int .i64 y] 2)) := by
  obtain ⟨i0, hi, hz0, hz1, hz2⟩ := info_parts Tryd.infoI
  refine wpList_append_own _ hgd s x 38 ho B 2 i0 (.int .i64 0) 1 8 Tryd.underlying38 hi hz0 hz1 hz2 rfl (by decide) (.slice A n c) n _ hs (hown.1.alloc _) ⟨w.heap.size, 0, none⟩ 1 1 [.int .i64 y] hx rfl (cell_one_new _ _ _) (by simp [Value.oneCell']) (by unfold maxLen; omega) (by omega) (by simp; omega) ?_
  intro v' w' hown' hg _
  obtain ⟨g, cap, rfl, _⟩ := hown'.form (by omega)
  have e : xs.map (Value.int .i64) ++ [.int .i64 y] = (xs ++ [y]).map (Value.int .i64) := by simp
  rw [e] at hown'
  refine h g cap w' ⟨hown', fun z hz => ?_⟩ ?_
  · rcases List.mem_append.1 hz with h1 | h1
    · exact hown.2 z h1
    · rw [List.mem_singleton.1 h1]; exact hy
  · rw [own_block] at hg
    exact World.grownBy.trans (World.grownBy_alloc w _ _) hg

theorem made_own (w : World) (n : Nat) (hn : n ≤ 9223372036854775807) :
    OwnI (w.alloc (.cells (madeCells (Value.int .i64 0).cells n) 2)) w.heap.size (some ⟨w.heap.size, 0, none⟩) n n (List.replicate n 0) := by
  have hown := World.ownsRow_lit (base := w.heap.size) (e := 2) (size := 1) w (madeCells (Value.int .i64 0).cells n) n (Nat.le_refl _) (by unfold maxLen; omega) (by rw [size_madeCells]; omega)
  have hL : (madeCells (Value.int .i64 0).cells n).toList = (List.replicate n (0 : Int)).map (Value.int .i64) := by
    show (madeCells #[Value.int .i64 0] n).toList = _
    rw [toList_madeCells_one]; simp
  rw [hL] at hown
  exact ⟨by simpa using hown, fun x hx => by simp at hx; rw [hx.2]; exact I64.mk (by omega) (by omega)⟩

theorem I64.wrap64 (x : Int) : I64 (RowKit.wrap64 x) := by
  rw [← IntWalk.i64_left]
  have h := IntKind.wrap_i64 x
  exact I64.mk (by rw [h]; omega) (by rw [h]; omega)

end Go.Proofs.YtijdlejngdhpjaaDoor
