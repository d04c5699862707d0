/- Slices of elements each of which holds one list (MilnorBasis, DualBasis): reading, owning, appending; the laws' helpers on them. (gen_kitt.py) -/
import Derived.Test.YtpgmggkpnefaeaaKit2
import Derived.Deep.RegionHeld3
namespace Go.Proofs.Ytpgmggkpnefaeaa
open Go.ChangeShapes Go.WideShapes Go.ChangeAt Go.RowKit
set_option linter.unusedVariables false

theorem row_below {w w' : World} {B e v n xs} (h : w.ownsRow B e 1 v n xs) (hb : Below w.heap.size w w') : w'.ownsRow B e 1 v n xs := by
  rcases h with ⟨hl, h0 | ⟨g, cap, cur, hv, hB, hg, r⟩⟩
  · exact ⟨hl, .inl h0⟩
  · exact ⟨hl, .inr ⟨g, cap, cur, hv, hB, (hb.block g (Array.getElem?_eq_some_iff.1 hg).1).trans hg, r⟩⟩

theorem row_mid {w w' : World} {B e v n xs B0 L} (h : w.ownsRow B e 1 v n xs) (hm : Mid B0 L w w') (hL : L ≤ B) : w'.ownsRow B e 1 v n xs := by
  rcases h with ⟨hl, h0 | ⟨g, cap, cur, hv, hB, hg, r⟩⟩
  · exact ⟨hl, .inl h0⟩
  · exact ⟨hl, .inr ⟨g, cap, cur, hv, hB, (hm.block g (Array.getElem?_eq_some_iff.1 hg).1 (.inr (by omega))).trans hg, r⟩⟩

theorem row_mono {w : World} {B B' e v n xs} (h : w.ownsRow B e 1 v n xs) (hB : B' ≤ B) : w.ownsRow B' e 1 v n xs := by
  rcases h with ⟨hl, h0 | ⟨g, cap, cur, hv, hb, r⟩⟩
  · exact ⟨hl, .inl h0⟩
  · exact ⟨hl, .inr ⟨g, cap, cur, hv, by omega, r⟩⟩

theorem row_kept_type {w w' : World} {B1 B2 n1 n2 : Nat} {e1 e2 : TypeId} {v1 v2 : Value} {xs1 xs2 : List Value} (h1 : w.ownsRow B1 e1 1 v1 n1 xs1) (h2 : w.ownsRow B2 e2 1 v2 n2 xs2) (hne : e1 ≠ e2) (hg : w.grownBy w' v2.ownBlock) : w'.ownsRow B1 e1 1 v1 n1 xs1 := by
  refine h1.kept hg ?_
  cases hb : v1.ownBlock with
  | none => exact .inl rfl
  | some k => exact .inr (fun e => type_apart h1 h2 hne hb e.symm)

theorem OwnI.kept_type {w w' : World} {B1 A1 n1 c1 xs B2 n2 : _} {e2 : TypeId} {v2 : Value} {xs2 : List Value} (h : OwnI w B1 A1 n1 c1 xs) (h2 : w.ownsRow B2 e2 1 v2 n2 xs2) (hne : 2 ≠ e2) (hg : w.grownBy w' v2.ownBlock) : OwnI w' B1 A1 n1 c1 xs :=
  ⟨row_kept_type h.1 h2 hne hg, h.2⟩

theorem OwnS.kept_type {w w' : World} {B1 A1 n1 c1 vs xss B2 n2 : _} {e2 : TypeId} {v2 : Value} {xs2 : List Value} (h : OwnS w B1 A1 n1 c1 vs xss) (h2 : w.ownsRow B2 e2 1 v2 n2 xs2) (hne : e2 ≠ 51) (hne2 : e2 ≠ 2) (hg : w.grownBy w' v2.ownBlock) : OwnS w' B1 A1 n1 c1 vs xss :=
  ⟨row_kept_type h.1 h2 (Ne.symm hne) hg, h.2.1, fun i hi => (h.row hi).kept_type h2 (Ne.symm hne2) hg, h.2.2.2⟩

/-- an element's outer block and its one list -/
abbrev Gv := Nat × Sl

def tv (u : Gv) : Value := .slice (some ⟨u.1, 0, none⟩) 1 1

def nilG : Gv := (0, nilS)

def RT (w : World) (A : Option Addr) (n : Nat) (gv : List Gv) (xss : List (List Int)) : Prop :=
  gv.length = n ∧ xss.length = n ∧ n ≤ maxLen ∧ (∀ i, i < n → ∃ b off, A = some ⟨b, off, none⟩ ∧ b < w.heap.size ∧ w.cell? ⟨b, off + i, none⟩ = some (tv (gv.getD i nilG))) ∧
  ∀ i, i < n → RS w (some ⟨(gv.getD i nilG).1, 0, none⟩) 1 [(gv.getD i nilG).2] [xss.getD i []]

theorem RT.len {w A n gv xss} (h : RT w A n gv xss) : xss.length = n := h.2.1

theorem RT.small {w A n gv xss} (h : RT w A n gv xss) : n ≤ 9223372036854775807 := by have := h.2.2.1; unfold maxLen at this; omega

theorem RT.below {w w' A n gv xss} (h : RT w A n gv xss) (hb : Below w.heap.size w w') : RT w' A n gv xss :=
  ⟨h.1, h.2.1, h.2.2.1, fun i hi => by
    obtain ⟨b, off, e, hlt, hc⟩ := h.2.2.2.1 i hi
    exact ⟨b, off, e, Nat.lt_of_lt_of_le hlt hb.size, (hb.cell (p := ⟨b, off + i, none⟩) hlt).trans hc⟩, fun i hi => (h.2.2.2.2 i hi).below hb⟩

structure PreT (e : TypeId) (w : World) (B : Nat) (A : Option Addr) (n c : Nat) (gv : List Gv) : Prop where
  own : w.ownsRow B e 1 (.slice A n c) n (gv.map tv)
  box : ∀ i, i < n → w.ownsRow B 51 1 (tv (gv.getD i nilG)) 1 [sv (gv.getD i nilG).2]

theorem PreT.below {e w w' B A n c gv} (h : PreT e w B A n c gv) (hb : Below w.heap.size w w') : PreT e w' B A n c gv := ⟨row_below h.own hb, fun i hi => row_below (h.box i hi) hb⟩

theorem PreT.mid {e w w' B A n c gv B0 L} (h : PreT e w B A n c gv) (hm : Mid B0 L w w') (hL : L ≤ B) : PreT e w' B A n c gv := ⟨row_mid h.own hm hL, fun i hi => row_mid (h.box i hi) hm hL⟩

theorem PreT.mono {e w B B' A n c gv} (h : PreT e w B A n c gv) (hB : B' ≤ B) : PreT e w B' A n c gv := ⟨row_mono h.own hB, fun i hi => row_mono (h.box i hi) hB⟩

theorem PreT.vlen {e w B A n c gv} (h : PreT e w B A n c gv) : gv.length = n := by have := h.own.1; simpa using this

theorem PreT.nil (e : TypeId) (w : World) (B : Nat) : PreT e w B none 0 0 [] := ⟨World.ownsRow_nil _ _ _ _, fun i hi => absurd hi (by omega)⟩

theorem PreT.empty (e : TypeId) (w : World) : PreT e (w.alloc (.cells #[] e)) w.heap.size (some ⟨w.heap.size, 0, none⟩) 0 0 [] :=
  ⟨World.ownsRow_lit (base := w.heap.size) (e := e) (size := 1) w #[] 0 (Nat.le_refl _) (Nat.zero_le _) rfl, fun i hi => absurd hi (by omega)⟩

/-- a written list of numbers leaves the elements' blocks -/
theorem PreT.kept_row {e w w' B A n c gv B1 A1 n1 c1 xs} (h : PreT e w B A n c gv) (ho : OwnI w B1 A1 n1 c1 xs) (he : e ≠ 2) (hg : w.grownBy w' (A1.map (·.block))) : PreT e w' B A n c gv := by
  rw [← own_block A1 n1 c1] at hg
  exact ⟨row_kept_type h.own ho.1 he hg, fun i hi => row_kept_type (h.box i hi) ho.1 (by decide) hg⟩

structure OwnT (e : TypeId) (w : World) (B : Nat) (A : Option Addr) (n c : Nat) (gv : List Gv) (xss : List (List Int)) : Prop where
  pre : PreT e w B A n c gv
  len : xss.length = n
  row : ∀ i, i < n → OwnI w B (gv.getD i nilG).2.1 (gv.getD i nilG).2.2.1 (gv.getD i nilG).2.2.2 (xss.getD i [])
  apart : ∀ i j, i < j → j < n → ∀ k, (gv.getD i nilG).2.1.map (·.block) = some k → (gv.getD j nilG).2.1.map (·.block) ≠ some k

theorem OwnT.nil (e : TypeId) (w : World) (B : Nat) : OwnT e w B none 0 0 [] [] := ⟨PreT.nil _ _ _, rfl, fun i hi => absurd hi (by omega), fun i j _ hj => absurd hj (by omega)⟩

theorem OwnT.below {e w w' B A n c gv xss} (h : OwnT e w B A n c gv xss) (hb : Below w.heap.size w w') : OwnT e w' B A n c gv xss := ⟨h.pre.below hb, h.len, fun i hi => (h.row i hi).below hb, h.apart⟩

theorem OwnT.mid {e w w' B A n c gv xss B0 L} (h : OwnT e w B A n c gv xss) (hm : Mid B0 L w w') (hL : L ≤ B) : OwnT e w' B A n c gv xss := ⟨h.pre.mid hm hL, h.len, fun i hi => (h.row i hi).mid hm hL, h.apart⟩

theorem OwnT.mono {e w B B' A n c gv xss} (h : OwnT e w B A n c gv xss) (hB : B' ≤ B) : OwnT e w B' A n c gv xss := ⟨h.pre.mono hB, h.len, fun i hi => (h.row i hi).mono hB, h.apart⟩

theorem one_reads {w : World} {B g : Nat} {v : Sl} {xs} (hb : w.ownsRow B 51 1 (.slice (some ⟨g, 0, none⟩) 1 1) 1 [sv v]) (h : RI w v.1 v.2.1 xs) : RS w (some ⟨g, 0, none⟩) 1 [v] [xs] := by
  have hc := hb.cellAt 0 (by simp)
  refine ⟨rfl, rfl, by unfold maxLen; omega, fun _ => ⟨g, 0, rfl, World.block_lt_of_cell? w ⟨g, 0, none⟩ (by rw [hc]; rfl), fun i hi => ?_⟩, fun i hi => ?_⟩
  · obtain rfl : i = 0 := by omega
    rw [Nat.zero_add, hc]; rfl
  · obtain rfl : i = 0 := by omega
    exact h

theorem OwnT.reads {e w B A n c gv xss} (h : OwnT e w B A n c gv xss) : RT w A n gv xss := by
  refine ⟨h.pre.vlen, h.len, ?_, fun i hi => ?_, fun i hi => ?_⟩
  · rcases h.pre.own.2 with ⟨_, h0⟩ | ⟨g, cap, cur, _, _, _, h1, h2, _⟩
    · rw [h0]; exact Nat.zero_le _
    · omega
  · obtain ⟨g, cap, ev, _⟩ := h.pre.own.form (by omega)
    injection ev with e1 _ _
    have ho := h.pre.own
    rw [e1] at ho ⊢
    refine ⟨g, 0, rfl, ?_, ?_⟩
    · exact World.block_lt_of_cell? w ⟨g, 0, none⟩ (by rw [ho.cellAt 0 (by omega)]; exact List.getElem?_eq_getElem (by have := h.pre.vlen; simp; omega))
    · rw [Nat.zero_add, ho.cellAt i (by omega)]
      simp [List.getD, show i < gv.length by have := h.pre.vlen; omega]
  · exact one_reads (h.pre.box i hi) (h.row i hi).reads

def InT (A : Option Addr) (n : Nat) (gv : List Gv) (L : Nat) : Prop := ∀ i, i < n → ∀ k, (gv.getD i nilG).2.1.map (·.block) = some k → k < L

theorem OwnT.ins {e w B A n c gv xss} (h : OwnT e w B A n c gv xss) : InT A n gv w.heap.size := fun i hi k hk => (h.row i hi).row_lt hk

/-- one list of it has turned into ys -/
theorem OwnT.turn {e w w' B A n c gv xss i ys} (h : OwnT e w B A n c gv xss) (he : e ≠ 2) (hi : i < n) (ho : OwnI w' B (gv.getD i nilG).2.1 (gv.getD i nilG).2.2.1 (gv.getD i nilG).2.2.2 ys) (hg : w.grownBy w' ((gv.getD i nilG).2.1.map (·.block))) :
    OwnT e w' B A n c gv (xss.set i ys) := by
  refine ⟨h.pre.kept_row (h.row i hi) he hg, by simpa using h.len, fun j hj => ?_, h.apart⟩
  by_cases ee : i = j
  · subst ee
    have h2 : i < xss.length := by have := h.len; omega
    have e2 : (xss.set i ys).getD i [] = ys := by simp [List.getD, h2]
    rw [e2]; exact ho
  · have e2 : (xss.set i ys).getD j [] = xss.getD j [] := by simp [List.getD, ee]
    rw [e2]
    refine (h.row j hj).grown hg (fun a ha e3 => ?_)
    have hk : (gv.getD j nilG).2.1.map (·.block) = some a.block := by rw [ha]; rfl
    rcases Nat.lt_or_ge i j with h1 | h1
    · exact h.apart i j h1 hj _ e3 hk
    · exact h.apart j i (by omega) hi _ hk e3

/-- one element appended -/
theorem app1T {ops : Array Oper} {rest : List Oper} {o : Oper} {a : Act} {Q : Exit → Act → World → Prop} (e et : TypeId) (hinfo : (Try.prog.info? e).map (fun i => (i.zero, i.size, i.bytes)) = some (some (.agg #[.slice none 0 0]), 1, 24)) (hund : Try.prog.underlying et = some (.slice e)) (he : e ≠ 51) (he2 : e ≠ 2)
    (s x : Operand) (B : Nat) (A : Option Addr) (n c : Nat) (gv : List Gv) (v : Sl) (w : World) (hgd : o.guard = none)
    (ho : o.op = .call { callee := .builtin .append, args := #[s, x], argTypes := #[et, et] })
    (hs : a.eval s = .slice A n c) (hx : a.eval x = .slice (some ⟨w.heap.size + 1, 0, none⟩) 1 1) (hown : PreT e w B A n c gv) (hn : n ≤ 1099511627776) (hB : B ≤ w.heap.size)
    (h : ∀ g c' w', PreT e w' B (some ⟨g, 0, none⟩) (n + 1) c' (gv ++ [(w.heap.size, v)]) → w.grownBy w' (A.map (·.block)) → (∀ B1 A1 n1 c1 vs xss, OwnS w B1 A1 n1 c1 vs xss → OwnS w' B1 A1 n1 c1 vs xss) → wpList Try.prog ops Q rest (a.put o.dst (.slice (some ⟨g, 0, none⟩) (n + 1) c')) w') :
    wpList Try.prog ops Q (o :: rest) a ((w.alloc (.cells #[sv v] 51)).alloc (.cells #[tv (w.heap.size, v)] e)) := by
  obtain ⟨i0, hi, hz0, hz1, hz2⟩ := info_parts hinfo
  refine wpList_plain hgd fun _ hK => ?_
  have hsz : (w.alloc (.cells #[sv v] 51)).heap.size = w.heap.size + 1 := by simp
  have howA := (hown.below ((Below.refl _ _).alloc (Nat.le_refl _) (.cells #[sv v] 51))).below ((Below.refl _ _).alloc (Nat.le_refl _) (.cells #[tv (w.heap.size, v)] e))
  have hcn := cell_one_new (w.alloc (.cells #[sv v] 51)) (tv (w.heap.size, v)) e
  rw [hsz] at hcn
  obtain ⟨v', w', hrun, h2, h3, _, _⟩ := run_append_own_at (P := Try.prog) ((w.alloc (.cells #[sv v] 51)).alloc (.cells #[tv (w.heap.size, v)] e)) B et o.type e i0 (.agg #[.slice none 0 0]) 1 24 hund hi hz0 hz1 hz2 rfl (by decide) (.slice A n c) n _ howA.own
    ⟨w.heap.size + 1, 0, none⟩ 1 1 [tv (w.heap.size, v)] rfl hcn (by simp [tv, Value.oneCell']) (by unfold maxLen; omega) (by omega) (by simp; omega)
  obtain ⟨g, cap, rfl, _⟩ := h2.form (by omega)
  have hgw := h3
  rw [own_block] at hgw
  have hvl := hown.vlen
  have hnew : PreT e w' B (some ⟨g, 0, none⟩) (n + 1) cap (gv ++ [(w.heap.size, v)]) := by
    refine ⟨by rw [List.map_append]; exact h2, fun i hi => ?_⟩
    rcases Nat.lt_or_ge i n with h | h
    · have e1 : (gv ++ [(w.heap.size, v)]).getD i nilG = gv.getD i nilG := by simp only [List.getD]; rw [List.getElem?_append_left (by omega)]
      rw [e1]
      exact row_kept_type (howA.box i h) howA.own (Ne.symm he) h3
    · obtain rfl : i = n := by omega
      have e1 : (gv ++ [(w.heap.size, v)]).getD i nilG = (w.heap.size, v) := by simp only [List.getD]; rw [List.getElem?_append_right (by omega), hvl]; simp
      rw [e1]
      have hb0 : (w.alloc (.cells #[sv v] 51)).ownsRow B 51 1 (tv (w.heap.size, v)) 1 [sv v] := World.ownsRow_lit (base := B) (e := 51) (size := 1) w #[sv v] 1 hB (by unfold maxLen; omega) rfl
      exact row_kept_type (row_below hb0 ((Below.refl _ _).alloc (Nat.le_refl _) _)) howA.own (Ne.symm he) h3
  unfold Oper.wp execOp
  simp only [ho, resolve, invoke, builtin, Sem.run_bind, Sem.run_pure, Result.andThen_ok, List.map_toArray, List.map_cons, List.map_nil, hs, hx, hrun]
  exact hK _ _ (h g cap w' hnew (World.grownBy.trans (World.grownBy_alloc w _ _) (World.grownBy.trans (World.grownBy_alloc _ _ _) hgw)) (fun B1 A1 n1 c1 vs xss hs => ((hs.alloc _).alloc _).kept_type howA.own he he2 h3))

/-- the elements of which each holds a list of a slice of lists -/
theorem OwnT.of_pre {e w B A n c gv A2 c2 vs xss} (h : PreT e w B A n c gv) (ho : OwnS w B A2 n c2 vs xss) (hv : gv.map (·.2) = vs) : OwnT e w B A n c gv xss := by
  have hg : ∀ i, i < n → (gv.getD i nilG).2 = vs.getD i nilS := fun i hi => by
    have h1 : i < gv.length := by have := h.vlen; omega
    rw [← hv]
    simp [List.getD, h1]
  refine ⟨h, ho.len, fun i hi => ?_, fun i j hij hj => ?_⟩
  · rw [hg i hi]; exact ho.row hi
  · rw [hg i (by omega), hg j hj]; exact ho.2.2.2 i j hij hj

set_option maxHeartbeats 800000 in
theorem mark_one {B g : Nat} {v : Sl} {xs : List Int} {k0 : Int} {w : World} (hb : w.ownsRow B 51 1 (.slice (some ⟨g, 0, none⟩) 1 1) 1 [sv v]) (h : OwnI w B v.1 v.2.1 v.2.2 xs) (hk0 : 0 ≤ k0) (hk : k0 + (xs.length : Int) ≤ 9223372036854775000) :
    Calls Try.prog 17 #[.slice (some ⟨g, 0, none⟩) 1 1, .int .i64 k0] w fun e w' => e = .returned (.int .i64 (k0 + (xs.length : Int))) ∧ OwnI w' B v.1 v.2.1 v.2.2 (marks k0 xs.length) ∧ w.grownBy w' (v.1.map (·.block)) := by
  have hc : w.cell? ⟨g, 0, none⟩ = some (sv v) := by rw [hb.cellAt 0 (by simp)]; rfl
  obtain ⟨vA, vn, vc⟩ := v
  have hl := h.len
  simp only [sv] at hc
  simp only at h hl
  subst hl
  have CON := Lib.hid (mark_any B vA xs.length vc xs k0 w h hk0 hk)
  clear h hb
  go_enter Try.func17, Try.ntmps17
  go_wp2
  go_loopw [1, 5] (fun kk i wr => (i = .int .i64 0 ∧ kk = .int .i64 k0 ∧ wr = w) ∨ (i = .int .i64 1 ∧ kk = .int .i64 (k0 + (xs.length : Int)) ∧ OwnI wr B vA xs.length vc (marks k0 xs.length) ∧ w.grownBy wr (vA.map (·.block)))) (fun _ i _ => 1 - (intOf i).toNat)
  case atStart => exact .inl ⟨rfl, rfl, rfl⟩
  case round =>
    rcases hrel with ⟨rfl, rfl, rfl⟩ | ⟨rfl, rfl, ho, hg⟩
    · go_wp2_with fail
      refine CON.out.mono ?_
      rintro e w1 ⟨rfl, ho1, hg1⟩
      have HO1 := Lib.hid ho1
      have HG1 := Lib.hid hg1
      clear ho1 hg1
      go_wp2
      go_roundw
      case rel => exact .inr ⟨rfl, rfl, HO1.out, HG1.out⟩
      case measure => simp [intOf]
    · have HO1 := Lib.hid ho
      have HG1 := Lib.hid hg
      clear ho hg CON
      go_wp2
      go_ret
      exact ⟨rfl, HO1.out, HG1.out⟩

theorem info_Milnor : (Try.prog.info? 31).map (fun i => (i.zero, i.size, i.bytes)) = some (some (.agg #[.slice none 0 0]), 1, 24) := by kernel_rfl

set_option maxHeartbeats 800000 in
theorem mark_MilnorS {B L A n c gv xss} {k0 : Int} {w} (h : OwnT 31 w B A n c gv xss) (hin : InT A n gv L) (hk0 : 0 ≤ k0) (hk : k0 + (tot xss : Int) ≤ 9223372036854775000) :
    Calls Try.prog 38 #[.slice A n c, .int .i64 k0] w fun e w' => e = .returned (.int .i64 (k0 + (tot xss : Int))) ∧ OwnT 31 w' B A n c gv (marksS k0 xss) ∧ Mid B L w w' := by
  have hl := h.len
  have hs := h.reads.small
  have HI := Lib.hid (show OwnT 31 w B A n c gv (marksS k0 (xss.take 0) ++ xss.drop 0) by simpa [marksS] using h)
  have HL := Lib.hid hl
  have HIN := Lib.hid hin
  clear h hin hl
  go_enter Try.func38, Try.ntmps38
  go_wp2
  go_loopw [1, 5] (fun kk i wr => ∃ j : Nat, j ≤ n ∧ i = .int .i64 j ∧ kk = .int .i64 (k0 + (tot (xss.take j) : Int)) ∧ OwnT 31 wr B A n c gv (marksS k0 (xss.take j) ++ xss.drop j) ∧ Mid B L w wr) (fun _ i _ => n - (intOf i).toNat)
  case atStart => exact ⟨0, Nat.zero_le _, rfl, by simp [tot], HI.out, Mid.refl _ _ _⟩
  case round =>
    obtain ⟨j, hj, rfl, rfl, ho, hm⟩ := hrel
    clear HI
    by_cases hlt : j < n
    · obtain ⟨b, off, rfl, _, hc⟩ := ho.reads.2.2.2.1 j hlt
      have hrow := ho.row j hlt
      have hbox := ho.pre.box j hlt
      have hj2 : j < xss.length := by rw [HL.out]; exact hlt
      have hgd : (marksS k0 (xss.take j) ++ xss.drop j).getD j [] = xss.getD j [] := by
        have hml : (marksS k0 (xss.take j)).length = j := by rw [marksS_len]; simp; omega
        simp only [List.getD]
        rw [List.getElem?_append_right (by omega), hml]
        simp [hj2]
      rw [hgd] at hrow
      have hstep := marksS_step xss k0 j hj2
      have htk := take_snocS xss j hj2
      have htt := tot_take_le xss (j + 1)
      have htsum : tot (xss.take (j + 1)) = tot (xss.take j) + (xss.getD j []).length := by rw [htk, tot_append]; simp [tot]
      have hge := fun k hk => hrow.row_ge (k := k) hk
      have hinr := HIN.out j hlt
      have hturn := fun w' ys => ho.turn (w' := w') (ys := ys) (by decide) hlt
      generalize hx : xss.getD j [] = x at hrow htsum hstep
      generalize hv : gv.getD j nilG = u at *
      obtain ⟨g, v⟩ := u
      simp only [tv] at hc hbox
      simp only at hrow hge hinr hturn
      have CON := Lib.hid (mark_one (k0 := k0 + (tot (xss.take j) : Int)) hbox hrow (by omega) (by omega))
      have HSTEP := Lib.hid hstep
      have HSUM := Lib.hid htsum
      have HTURN := Lib.hid hturn
      have HGE := Lib.hid hge
      have HINR := Lib.hid hinr
      have HM := Lib.hid hm
      have hlt' : (j : Int) < (n : Int) := by omega
      clear hrow hbox hstep htk htsum hturn hge hinr hm ho htt hgd hx
      go_wp2_with fail
      refine CON.out.mono ?_
      rintro e w1 ⟨rfl, ho1, hg1⟩
      have HO1 := Lib.hid (HTURN.out w1 _ ho1 hg1)
      have HM1 := Lib.hid (HM.out.trans (Mid.of_grown hg1 HGE.out HINR.out))
      clear ho1 hg1
      rw [HSTEP.out] at HO1
      go_wp2
      go_roundw
      case rel => exact ⟨j + 1, by omega, by go_num, by rw [HSUM.out]; exact congrArg (Value.int .i64) (by omega), HO1.out, HM1.out⟩
      case measure => simp [intOf]; omega
    · obtain rfl : j = n := by omega
      have HE := Lib.hid (show xss.take j = xss by rw [← HL.out]; exact List.take_length)
      have HE2 := Lib.hid (show xss.drop j = [] by rw [← HL.out]; exact List.drop_length)
      have HO := Lib.hid ho
      have HM := Lib.hid hm
      clear ho hm
      go_wp2
      go_ret
      exact ⟨by first | (rw [HE.out]; rfl) | rw [HE.out], by have := HO.out; rw [HE.out, HE2.out, List.append_nil] at this; exact this, HM.out⟩

set_option maxHeartbeats 800000 in
theorem held_MilnorS {A n c gv xss} {k0 : Int} {w} (h : RT w A n gv (marksS k0 xss)) (hk0 : 0 ≤ k0) (hk : k0 + (tot xss : Int) ≤ 9223372036854775000) :
    Calls Try.prog 39 #[.slice A n c, .int .i64 k0] w fun e w' => e = .returned (.int .i64 (k0 + (tot xss : Int))) ∧ Below w.heap.size w w' := by
  have hs := h.small
  have hl : xss.length = n := by rw [← h.len, marksS_len]
  have H := Lib.hid h
  have HL := Lib.hid hl
  clear h hl
  go_enter Try.func39, Try.ntmps39
  go_wp2
  go_loopw [1, 5] (fun kk i wr => ∃ j : Nat, j ≤ n ∧ i = .int .i64 j ∧ kk = .int .i64 (k0 + (tot (xss.take j) : Int)) ∧ Below w.heap.size w wr) (fun _ i _ => n - (intOf i).toNat)
  case atStart => exact ⟨0, Nat.zero_le _, rfl, by simp [tot], Below.refl _ _⟩
  case round =>
    obtain ⟨j, hj, rfl, rfl, hb⟩ := hrel
    by_cases hlt : j < n
    · obtain ⟨b, off, rfl, _, hc⟩ := (H.out.below hb).2.2.2.1 j hlt
      have hrow := (H.out.below hb).2.2.2.2 j hlt
      have hj2 : j < xss.length := by rw [HL.out]; exact hlt
      rw [marksS_getD xss k0 j hj2] at hrow
      have htk := take_snocS xss j hj2
      have htt := tot_take_le xss (j + 1)
      have htsum : tot (xss.take (j + 1)) = tot (xss.take j) + (xss.getD j []).length := by rw [htk, tot_append]; simp [tot]
      generalize hx : xss.getD j [] = x at hrow htsum
      generalize gv.getD j nilG = u at *
      obtain ⟨g, v⟩ := u
      simp only at hrow
      simp only [tv] at hc
      have e1 : [marks (k0 + (tot (xss.take j) : Int)) x.length] = marksS (k0 + (tot (xss.take j) : Int)) [x] := rfl
      rw [e1] at hrow
      have e2 : tot [x] = x.length := by simp [tot]
      have con := held_Int64SS (c := 1) (k0 := k0 + (tot (xss.take j) : Int)) hrow (by omega) (by rw [e2]; omega)
      rw [e2] at con
      have CON := Lib.hid con
      have HSUM := Lib.hid htsum
      have HB := Lib.hid hb
      have hlt' : (j : Int) < (n : Int) := by omega
      have hnn : 0 ≤ k0 + (tot (xss.take j) : Int) + (x.length : Int) := by omega
      clear hrow htk htsum hb htt con e1 e2 hx
      go_wp2_with fail
      refine CON.out.mono ?_
      rintro e w1 ⟨rfl, hb1⟩
      have HB1 := Lib.hid (HB.out.trans (hb1.mono HB.out.size))
      clear hb1
      go_wp2
      go_roundw
      case rel => exact ⟨j + 1, by omega, by go_num, by rw [HSUM.out]; exact congrArg (Value.int .i64) (by omega), HB1.out⟩
      case measure => simp [intOf]; omega
    · obtain rfl : j = n := by omega
      have HE := Lib.hid (show xss.take j = xss by rw [← HL.out]; exact List.take_length)
      have HB := Lib.hid hb
      clear hb
      go_wp2
      go_ret
      exact ⟨by first | (rw [HE.out]; rfl) | rw [HE.out], HB.out⟩

set_option maxHeartbeats 800000 in
theorem eq_MilnorS {A B n c d gv us xss} {w} (h : RT w A n gv xss) (g : RT w B n us xss) :
    Calls Try.prog 37 #[.slice A n c, .slice B n d] w fun e w' => e = .returned (.bool true) ∧ Below w.heap.size w w' := by
  have hs := h.small
  have H := Lib.hid h
  have G := Lib.hid g
  clear h g
  go_enter Try.func37, Try.ntmps37
  go_wp2
  go_loopw [5] (fun i wr => ∃ k : Nat, k ≤ n ∧ i = .int .i64 k ∧ Below w.heap.size w wr) (fun i _ => n - (intOf i).toNat)
  case atStart => exact ⟨0, Nat.zero_le _, rfl, Below.refl _ _⟩
  case round =>
    obtain ⟨k, hk, rfl, hb⟩ := hrel
    by_cases hlt : k < n
    · obtain ⟨b, off, rfl, hb1, hc⟩ := (H.out.below hb).2.2.2.1 k hlt
      obtain ⟨b2, off2, rfl, hb2, hc2⟩ := (G.out.below hb).2.2.2.1 k hlt
      have r1 := (H.out.below hb).2.2.2.2 k hlt
      have r2 := (G.out.below hb).2.2.2.2 k hlt
      have hlt' : (k : Int) < (n : Int) := by omega
      have HB := Lib.hid hb
      generalize us.getD k nilG = u at *
      generalize gv.getD k nilG = v at *
      obtain ⟨vg, v⟩ := v
      obtain ⟨ug, u⟩ := u
      simp only at r1 r2
      simp only [tv] at hc hc2
      have CON := Lib.hid (fun w2 (hb : Below wr.heap.size wr w2) => eq_Milnor (c := 1) (d := 1) (r1.below hb) (r2.below hb))
      clear hb r1 r2
      have HLB1 := Lib.hid hb1
      have HLB2 := Lib.hid hb2
      clear hb1 hb2
      go_wp2_with fail
      go_region_held3 (fun w' => w'.cell? ⟨b, off + k, none⟩ = some (.slice (some ⟨vg, 0, none⟩) 1 1) ∧ w'.cell? ⟨b2, off2 + k, none⟩ = some (.slice (some ⟨ug, 0, none⟩) 1 1)) (first | go_keep | exact ⟨by assumption, by assumption⟩) ((go_at_call 23; refine (CON.out _ (by repeat (first | exact Below.refl _ _ | refine below_drewN ?_ _ | refine Below.drew ?_))).mono ?_; rintro e W4 ⟨rfl, hb0⟩; have hb : Below wr.heap.size wr W4 := ⟨hb0.os, hb0.tape, hb0.output, hb0.size, hb0.block⟩; clear hb0; have hc3 := (hb.cell (p := ⟨b, off + k, none⟩) HLB1.out).trans hc; have hc4 := (hb.cell (p := ⟨b2, off2 + k, none⟩) HLB2.out).trans hc2; have HB4 := Lib.hid (HB.out.trans (hb.mono HB.out.size)); clear hb hc hc2))
      go_wp2
      go_roundw
      case rel => exact ⟨k + 1, by omega, by go_num, HB4.out⟩
      case measure => simp [intOf]; omega
    · obtain rfl : k = n := by omega
      have HB := Lib.hid hb
      clear hb
      go_wp2
      go_ret
      exact ⟨rfl, HB.out⟩

theorem info_Dual : (Try.prog.info? 74).map (fun i => (i.zero, i.size, i.bytes)) = some (some (.agg #[.slice none 0 0]), 1, 24) := by kernel_rfl

set_option maxHeartbeats 800000 in
theorem mark_DualS {B L A n c gv xss} {k0 : Int} {w} (h : OwnT 74 w B A n c gv xss) (hin : InT A n gv L) (hk0 : 0 ≤ k0) (hk : k0 + (tot xss : Int) ≤ 9223372036854775000) :
    Calls Try.prog 33 #[.slice A n c, .int .i64 k0] w fun e w' => e = .returned (.int .i64 (k0 + (tot xss : Int))) ∧ OwnT 74 w' B A n c gv (marksS k0 xss) ∧ Mid B L w w' := by
  have hl := h.len
  have hs := h.reads.small
  have HI := Lib.hid (show OwnT 74 w B A n c gv (marksS k0 (xss.take 0) ++ xss.drop 0) by simpa [marksS] using h)
  have HL := Lib.hid hl
  have HIN := Lib.hid hin
  clear h hin hl
  go_enter Try.func33, Try.ntmps33
  go_wp2
  go_loopw [1, 5] (fun kk i wr => ∃ j : Nat, j ≤ n ∧ i = .int .i64 j ∧ kk = .int .i64 (k0 + (tot (xss.take j) : Int)) ∧ OwnT 74 wr B A n c gv (marksS k0 (xss.take j) ++ xss.drop j) ∧ Mid B L w wr) (fun _ i _ => n - (intOf i).toNat)
  case atStart => exact ⟨0, Nat.zero_le _, rfl, by simp [tot], HI.out, Mid.refl _ _ _⟩
  case round =>
    obtain ⟨j, hj, rfl, rfl, ho, hm⟩ := hrel
    clear HI
    by_cases hlt : j < n
    · obtain ⟨b, off, rfl, _, hc⟩ := ho.reads.2.2.2.1 j hlt
      have hrow := ho.row j hlt
      have hbox := ho.pre.box j hlt
      have hj2 : j < xss.length := by rw [HL.out]; exact hlt
      have hgd : (marksS k0 (xss.take j) ++ xss.drop j).getD j [] = xss.getD j [] := by
        have hml : (marksS k0 (xss.take j)).length = j := by rw [marksS_len]; simp; omega
        simp only [List.getD]
        rw [List.getElem?_append_right (by omega), hml]
        simp [hj2]
      rw [hgd] at hrow
      have hstep := marksS_step xss k0 j hj2
      have htk := take_snocS xss j hj2
      have htt := tot_take_le xss (j + 1)
      have htsum : tot (xss.take (j + 1)) = tot (xss.take j) + (xss.getD j []).length := by rw [htk, tot_append]; simp [tot]
      have hge := fun k hk => hrow.row_ge (k := k) hk
      have hinr := HIN.out j hlt
      have hturn := fun w' ys => ho.turn (w' := w') (ys := ys) (by decide) hlt
      generalize hx : xss.getD j [] = x at hrow htsum hstep
      generalize hv : gv.getD j nilG = u at *
      obtain ⟨g, v⟩ := u
      simp only [tv] at hc hbox
      simp only at hrow hge hinr hturn
      have CON := Lib.hid (mark_one (k0 := k0 + (tot (xss.take j) : Int)) hbox hrow (by omega) (by omega))
      have HSTEP := Lib.hid hstep
      have HSUM := Lib.hid htsum
      have HTURN := Lib.hid hturn
      have HGE := Lib.hid hge
      have HINR := Lib.hid hinr
      have HM := Lib.hid hm
      have hlt' : (j : Int) < (n : Int) := by omega
      clear hrow hbox hstep htk htsum hturn hge hinr hm ho htt hgd hx
      go_wp2_with fail
      refine CON.out.mono ?_
      rintro e w1 ⟨rfl, ho1, hg1⟩
      have HO1 := Lib.hid (HTURN.out w1 _ ho1 hg1)
      have HM1 := Lib.hid (HM.out.trans (Mid.of_grown hg1 HGE.out HINR.out))
      clear ho1 hg1
      rw [HSTEP.out] at HO1
      go_wp2
      go_roundw
      case rel => exact ⟨j + 1, by omega, by go_num, by rw [HSUM.out]; exact congrArg (Value.int .i64) (by omega), HO1.out, HM1.out⟩
      case measure => simp [intOf]; omega
    · obtain rfl : j = n := by omega
      have HE := Lib.hid (show xss.take j = xss by rw [← HL.out]; exact List.take_length)
      have HE2 := Lib.hid (show xss.drop j = [] by rw [← HL.out]; exact List.drop_length)
      have HO := Lib.hid ho
      have HM := Lib.hid hm
      clear ho hm
      go_wp2
      go_ret
      exact ⟨by first | (rw [HE.out]; rfl) | rw [HE.out], by have := HO.out; rw [HE.out, HE2.out, List.append_nil] at this; exact this, HM.out⟩

set_option maxHeartbeats 800000 in
theorem held_DualS {A n c gv xss} {k0 : Int} {w} (h : RT w A n gv (marksS k0 xss)) (hk0 : 0 ≤ k0) (hk : k0 + (tot xss : Int) ≤ 9223372036854775000) :
    Calls Try.prog 34 #[.slice A n c, .int .i64 k0] w fun e w' => e = .returned (.int .i64 (k0 + (tot xss : Int))) ∧ Below w.heap.size w w' := by
  have hs := h.small
  have hl : xss.length = n := by rw [← h.len, marksS_len]
  have H := Lib.hid h
  have HL := Lib.hid hl
  clear h hl
  go_enter Try.func34, Try.ntmps34
  go_wp2
  go_loopw [1, 5] (fun kk i wr => ∃ j : Nat, j ≤ n ∧ i = .int .i64 j ∧ kk = .int .i64 (k0 + (tot (xss.take j) : Int)) ∧ Below w.heap.size w wr) (fun _ i _ => n - (intOf i).toNat)
  case atStart => exact ⟨0, Nat.zero_le _, rfl, by simp [tot], Below.refl _ _⟩
  case round =>
    obtain ⟨j, hj, rfl, rfl, hb⟩ := hrel
    by_cases hlt : j < n
    · obtain ⟨b, off, rfl, _, hc⟩ := (H.out.below hb).2.2.2.1 j hlt
      have hrow := (H.out.below hb).2.2.2.2 j hlt
      have hj2 : j < xss.length := by rw [HL.out]; exact hlt
      rw [marksS_getD xss k0 j hj2] at hrow
      have htk := take_snocS xss j hj2
      have htt := tot_take_le xss (j + 1)
      have htsum : tot (xss.take (j + 1)) = tot (xss.take j) + (xss.getD j []).length := by rw [htk, tot_append]; simp [tot]
      generalize hx : xss.getD j [] = x at hrow htsum
      generalize gv.getD j nilG = u at *
      obtain ⟨g, v⟩ := u
      simp only at hrow
      simp only [tv] at hc
      have e1 : [marks (k0 + (tot (xss.take j) : Int)) x.length] = marksS (k0 + (tot (xss.take j) : Int)) [x] := rfl
      rw [e1] at hrow
      have e2 : tot [x] = x.length := by simp [tot]
      have con := held_Int64SS (c := 1) (k0 := k0 + (tot (xss.take j) : Int)) hrow (by omega) (by rw [e2]; omega)
      rw [e2] at con
      have CON := Lib.hid con
      have HSUM := Lib.hid htsum
      have HB := Lib.hid hb
      have hlt' : (j : Int) < (n : Int) := by omega
      have hnn : 0 ≤ k0 + (tot (xss.take j) : Int) + (x.length : Int) := by omega
      clear hrow htk htsum hb htt con e1 e2 hx
      go_wp2_with fail
      refine CON.out.mono ?_
      rintro e w1 ⟨rfl, hb1⟩
      have HB1 := Lib.hid (HB.out.trans (hb1.mono HB.out.size))
      clear hb1
      go_wp2
      go_roundw
      case rel => exact ⟨j + 1, by omega, by go_num, by rw [HSUM.out]; exact congrArg (Value.int .i64) (by omega), HB1.out⟩
      case measure => simp [intOf]; omega
    · obtain rfl : j = n := by omega
      have HE := Lib.hid (show xss.take j = xss by rw [← HL.out]; exact List.take_length)
      have HB := Lib.hid hb
      clear hb
      go_wp2
      go_ret
      exact ⟨by first | (rw [HE.out]; rfl) | rw [HE.out], HB.out⟩

set_option maxHeartbeats 800000 in
theorem eq_DualS {A B n c d gv us xss} {w} (h : RT w A n gv xss) (g : RT w B n us xss) :
    Calls Try.prog 32 #[.slice A n c, .slice B n d] w fun e w' => e = .returned (.bool true) ∧ Below w.heap.size w w' := by
  have hs := h.small
  have H := Lib.hid h
  have G := Lib.hid g
  clear h g
  go_enter Try.func32, Try.ntmps32
  go_wp2
  go_loopw [5] (fun i wr => ∃ k : Nat, k ≤ n ∧ i = .int .i64 k ∧ Below w.heap.size w wr) (fun i _ => n - (intOf i).toNat)
  case atStart => exact ⟨0, Nat.zero_le _, rfl, Below.refl _ _⟩
  case round =>
    obtain ⟨k, hk, rfl, hb⟩ := hrel
    by_cases hlt : k < n
    · obtain ⟨b, off, rfl, hb1, hc⟩ := (H.out.below hb).2.2.2.1 k hlt
      obtain ⟨b2, off2, rfl, hb2, hc2⟩ := (G.out.below hb).2.2.2.1 k hlt
      have r1 := (H.out.below hb).2.2.2.2 k hlt
      have r2 := (G.out.below hb).2.2.2.2 k hlt
      have hlt' : (k : Int) < (n : Int) := by omega
      have HB := Lib.hid hb
      generalize us.getD k nilG = u at *
      generalize gv.getD k nilG = v at *
      obtain ⟨vg, v⟩ := v
      obtain ⟨ug, u⟩ := u
      simp only at r1 r2
      simp only [tv] at hc hc2
      have CON := Lib.hid (fun w2 (hb : Below wr.heap.size wr w2) => eq_Dual (c := 1) (d := 1) (r1.below hb) (r2.below hb))
      clear hb r1 r2
      have HLB1 := Lib.hid hb1
      have HLB2 := Lib.hid hb2
      clear hb1 hb2
      go_wp2_with fail
      go_region_held3 (fun w' => w'.cell? ⟨b, off + k, none⟩ = some (.slice (some ⟨vg, 0, none⟩) 1 1) ∧ w'.cell? ⟨b2, off2 + k, none⟩ = some (.slice (some ⟨ug, 0, none⟩) 1 1)) (first | go_keep | exact ⟨by assumption, by assumption⟩) ((go_at_call 73; refine (CON.out _ (by repeat (first | exact Below.refl _ _ | refine below_drewN ?_ _ | refine Below.drew ?_))).mono ?_; rintro e W4 ⟨rfl, hb0⟩; have hb : Below wr.heap.size wr W4 := ⟨hb0.os, hb0.tape, hb0.output, hb0.size, hb0.block⟩; clear hb0; have hc3 := (hb.cell (p := ⟨b, off + k, none⟩) HLB1.out).trans hc; have hc4 := (hb.cell (p := ⟨b2, off2 + k, none⟩) HLB2.out).trans hc2; have HB4 := Lib.hid (HB.out.trans (hb.mono HB.out.size)); clear hb hc hc2))
      go_wp2
      go_roundw
      case rel => exact ⟨k + 1, by omega, by go_num, HB4.out⟩
      case measure => simp [intOf]; omega
    · obtain rfl : k = n := by omega
      have HB := Lib.hid hb
      clear hb
      go_wp2
      go_ret
      exact ⟨rfl, HB.out⟩

end Go.Proofs.Ytpgmggkpnefaeaa
