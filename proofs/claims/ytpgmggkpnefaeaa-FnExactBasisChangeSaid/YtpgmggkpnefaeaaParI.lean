/- The program's partitions: the closure that calls itself. -/
import Derived.Test.YtpgmggkpnefaeaaParS
import Derived.Test.YtpgmggkpnefaeaaBlk
import Derived.Deep.RegionLaw
import Derived.Deep.RegionLawGrows
namespace Go.Proofs.Ytpgmggkpnefaeaa
open Go.ChangeShapes Go.WideShapes Go.ChangeAt Go.RowKit
set_option linter.unusedVariables false

/-- nothing has turned but block bo and one row -/
structure GrewB (w : World) (bo : Nat) (row : Option Nat) (w' : World) : Prop where
  os : w'.os = w.os
  tape : w'.tape = w.tape
  output : w'.output = w.output
  size : w.heap.size ≤ w'.heap.size
  block : ∀ k, k < w.heap.size → k ≠ bo → row ≠ some k → w'.heap[k]? = w.heap[k]?

theorem GrewB.refl (w : World) (bo : Nat) (row : Option Nat) : GrewB w bo row w := ⟨rfl, rfl, rfl, Nat.le_refl _, fun _ _ _ _ => rfl⟩

theorem GrewB.step {w wr w2 : World} {bo : Nat} {r0 r : Option Nat} (h : GrewB w bo r0 wr) (hg : GrewB wr bo r w2) (hr : r = r0 ∨ ∀ k, r = some k → w.heap.size ≤ k) : GrewB w bo r0 w2 :=
  ⟨hg.os.trans h.os, hg.tape.trans h.tape, hg.output.trans h.output, Nat.le_trans h.size hg.size, fun k hk hb h0 => (hg.block k (Nat.lt_of_lt_of_le hk h.size) hb (fun e => by
    rcases hr with h1 | h1
    · exact h0 (h1 ▸ e)
    · have := h1 k e; omega)).trans (h.block k hk hb h0)⟩

theorem GrewB.of_grown {w w' : World} {bo : Nat} {row : Option Nat} (h : w.grownBy w' row) : GrewB w bo row w' :=
  ⟨h.os, h.tape, h.output, h.size, fun k hk _ hr => h.block k hk (fun e => hr e.symm)⟩

theorem GrewB.of_below {w w' : World} {bo : Nat} {row : Option Nat} (h : Below w.heap.size w w') : GrewB w bo row w' :=
  ⟨h.os, h.tape, h.output, h.size, fun k hk _ _ => h.block k hk⟩

theorem GrewB.then_below {w wr w2 : World} {bo : Nat} {r0 : Option Nat} (h : GrewB w bo r0 wr) (hb : Below wr.heap.size wr w2) : GrewB w bo r0 w2 :=
  h.step (GrewB.of_below hb) (.inl rfl)

theorem GrewB.set {w w' : World} {bo : Nat} {row : Option Nat} (h : GrewB w bo row w') (j : Nat) (u : Value) : GrewB w bo row (w'.setCell ⟨bo, j, none⟩ u) := by
  have hs := (set_grown w' ⟨bo, j, none⟩ u)
  exact ⟨hs.os.trans h.os, hs.tape.trans h.tape, hs.output.trans h.output, Nat.le_trans h.size hs.size, fun k hk hb hr => (hs.block k (Nat.lt_of_lt_of_le hk h.size) (fun e => hb (by simpa using e))).trans (h.block k hk hb hr)⟩

theorem OwnI.grewB {w w' B A n c xs bo} {row : Option Nat} (h : OwnI w B A n c xs) (hg : GrewB w bo row w') (hb : bo < B) (hr : ∀ k, A.map (·.block) = some k → row ≠ some k) : OwnI w' B A n c xs := by
  refine ⟨⟨h.1.1, ?_⟩, h.2⟩
  rcases h.1.2 with h0 | ⟨g, cap, cur, hv, hbb, hgg, r⟩
  · exact .inl h0
  · refine .inr ⟨g, cap, cur, hv, hbb, (hg.block g (Array.getElem?_eq_some_iff.1 hgg).1 (by omega) (hr g ?_)).trans hgg, r⟩
    have := own_block A n c
    rw [hv] at this
    exact this.symm

theorem OwnI.kept_out2 {w w' B1 A1 n1 c1 xs B A n c vs xss bo} (h : OwnI w B1 A1 n1 c1 xs) (ho : OwnS w B A n c vs xss) (hg : GrewB w bo (A.map (·.block)) w') (hb : bo < B1) : OwnI w' B1 A1 n1 c1 xs :=
  h.grewB hg hb (fun k hk e => by
    have h1 := type_apart (k := k) h.1 ho.1 (by decide) (by rw [own_block]; exact hk)
    rw [own_block] at h1
    exact h1 e)

theorem Blk.grewB {w w' b t vs bo} {row : Option Nat} (h : Blk w b t vs) (hg : GrewB w bo row w') (hb : b ≠ bo) (hr : row ≠ some b) : Blk w' b t vs := (hg.block b h.lt hb hr).trans h

theorem blk_apart_row {w b t vs B e v n xs} (h : Blk w b t vs) (ho : w.ownsRow B e 1 v n xs) (hne : t ≠ e) : v.ownBlock ≠ some b := by
  intro hk
  rcases ho.2 with ⟨rfl, _⟩ | ⟨g, cap, cur, rfl, _, hg, _⟩
  · cases hk
  · have a1 : g = b := by simpa [Value.ownBlock] using hk
    subst a1
    have h2 : w.heap[g]? = some (.cells vs t (0, 0)) := h
    rw [hg] at h2
    injection h2 with h2
    injection h2 with _ ht
    exact hne ht.symm

theorem blk_apartS {w b t vs B A n c vs2 xss} (h : Blk w b t vs) (ho : OwnS w B A n c vs2 xss) (hne : t ≠ 51) : A.map (·.block) ≠ some b := by
  have := blk_apart_row h ho.1 hne
  rw [own_block] at this
  exact this

theorem blk_apartI {w b t vs B A n c xs} (h : Blk w b t vs) (ho : OwnI w B A n c xs) (hne : t ≠ 2) : A.map (·.block) ≠ some b := by
  have := blk_apart_row h ho.1 hne
  rw [own_block] at this
  exact this

theorem OwnS.setBox {w B A n c vs xss b t us} (h : OwnS w B A n c vs xss) (hb : Blk w b t us) (h1 : t ≠ 51) (h2 : t ≠ 2) (j : Nat) (u : Value) : OwnS (w.setCell ⟨b, j, none⟩ u) B A n c vs xss := by
  have hg := set_grown w ⟨b, j, none⟩ u
  refine ⟨h.1.kept hg ?_, h.2.1, fun i hi => (h.row hi).grown hg (fun a ha e => blk_apartI hb (h.row hi) h2 (by rw [ha]; exact e.symm)), h.2.2.2⟩
  rw [own_block]
  cases hA : A.map (·.block) with
  | none => exact .inl rfl
  | some k => exact .inr (fun e => blk_apartS hb h h1 (by rw [hA]; exact e))

theorem below_of_none {w w' : World} (h : w.grownBy w' none) : Below w.heap.size w w' := ⟨h.os, h.tape, h.output, h.size, fun k hk => h.block k hk (by simp)⟩

theorem RI.some_of {w A n xs} (h : RI w A n xs) : ∀ b, A = some b → ∀ j u, (xs.map (Value.int .i64))[j]? = some u → w.cell? (b.add j) = some u := by
  intro b hb j u hu
  have hj : j < xs.length := by
    have := (List.getElem?_eq_some_iff.1 hu).1
    simpa using this
  have hl := h.len
  obtain ⟨b2, off, hA, _, hc⟩ := h.at_ (i := j) (by omega)
  rw [hb] at hA
  obtain rfl : b = ⟨b2, off, none⟩ := by simpa using hA
  have e : u = .int .i64 (xs.getD j 0) := by
    rw [List.getElem?_map, List.getElem?_eq_getElem hj] at hu
    simp only [Option.map_some, Option.some.injEq] at hu
    rw [← hu]; simp [List.getD, hj]
  rw [e, ← hc]
  congr 1
  unfold Addr.add
  split <;> simp_all

theorem step_appG {ops : Array Oper} {o : Oper} {a : Act} {K : Act → World → Prop} {Q : Exit → Act → World → Prop} {E : Prop} (s x : Operand) (R : Option Addr) (n : Nat) (r : List Int) (y : Int) (W : World) (p : Nat) (hgd : o.guard = none)
    (ho : o.op = .call { callee := .builtin .append, args := #[s, x], argTypes := #[51, 51] })
    (hs : a.eval s = .slice R n n) (hx : a.eval x = .slice (some ⟨p, 0, none⟩) 1 1) (hr : RI W R n r) (hnone : R = none → n = 0) (hc : W.cell? ⟨p, 0, none⟩ = some (.int .i64 y)) (hy : I64 y) (hn : n ≤ 1048576)
    (h : ∀ g c' w', OwnI w' W.heap.size (some ⟨g, 0, none⟩) (n + 1) c' (r ++ [y]) → Below W.heap.size W w' → K (a.put o.dst (.slice (some ⟨g, 0, none⟩) (n + 1) c')) w') :
    if Region.wanted o (yielded ops a.tmps) = true then Oper.wp Try.prog o a W K Q else E := by
  obtain ⟨i0, hi, hz0, hz1, hz2⟩ := info_parts Try.infoI
  have hl := hr.len
  refine step_append_grows hgd s x 51 ho 2 i0 (.int .i64 0) 1 8 Try.underlying51 hi hz0 hz1 hz2 rfl (by decide) R n n (r.map (Value.int .i64)) hs (fun e => ⟨hnone e, hnone e⟩) (by simp; omega) hr.some_of ⟨p, 0, none⟩ 1 1 [.int .i64 y] hx rfl ?_ ?_ (by omega) (by unfold maxLen; omega) (by omega) ?_
  · intro j u hu
    obtain rfl : j = 0 := by
      have := (List.getElem?_eq_some_iff.1 hu).1
      simpa using this
    have : u = .int .i64 y := by simpa using hu.symm
    rw [this, ← hc]
    congr 1
  · intro u hu
    rw [List.mem_singleton.1 hu]; rfl
  · intro v' w' hown hg
    obtain ⟨g, cap, rfl, _⟩ := hown.form (by omega)
    have e : r.map (Value.int .i64) ++ [.int .i64 y] = (r ++ [y]).map (Value.int .i64) := by simp
    rw [e] at hown
    refine h g cap w' ⟨hown, fun z hz => ?_⟩ (below_of_none hg)
    rcases List.mem_append.1 hz with h1 | h1
    · exact hr.2.2.1 z h1
    · rw [List.mem_singleton.1 h1]; exact hy

theorem step_app1D {ops : Array Oper} {o : Oper} {a : Act} {K : Act → World → Prop} {Q : Exit → Act → World → Prop} {E : Prop} (s x : Operand) (B : Nat) (A : Option Addr) (n c : Nat) (vs : List Sl) (xss : List (List Int)) (v : Sl) (ys : List Int) (W : World) (p : Nat) (hgd : o.guard = none)
    (ho : o.op = .call { callee := .builtin .append, args := #[s, x], argTypes := #[22, 22] })
    (hs : a.eval s = .slice A n c) (hx : a.eval x = .slice (some ⟨p, 0, none⟩) 1 1) (hown : OwnS W B A n c vs xss) (hy : OwnI W B v.1 v.2.1 v.2.2 ys) (hc : W.cell? ⟨p, 0, none⟩ = some (sv v)) (hdis : ∀ i, i < n → ∀ k, (vs.getD i nilS).1.map (·.block) = some k → v.1.map (·.block) ≠ some k) (hn : n ≤ 1099511627776) (hB : B ≤ W.heap.size)
    (h : ∀ g c' w', OwnS w' B (some ⟨g, 0, none⟩) (n + 1) c' (vs ++ [v]) (xss ++ [ys]) → W.grownBy w' (A.map (·.block)) → (A.map (·.block) = some g ∨ W.heap.size ≤ g) → K (a.put o.dst (.slice (some ⟨g, 0, none⟩) (n + 1) c')) w') :
    if Region.wanted o (yielded ops a.tmps) = true then Oper.wp Try.prog o a W K Q else E := by
  have hw : Region.wanted o (yielded ops a.tmps) = true := by simp [Region.wanted, hgd]
  rw [if_pos hw]
  obtain ⟨i0, hi, hz0, hz1, hz2⟩ := info_parts Try.infoS
  have hcc : ∀ j u, [sv v][j]? = some u → W.cell? ((⟨p, 0, none⟩ : Addr).add j) = some u := by
    intro j u hu
    obtain rfl : j = 0 := by
      have := (List.getElem?_eq_some_iff.1 hu).1
      simpa using this
    have : u = sv v := by simpa using hu.symm
    rw [this, ← hc]
    congr 1
  obtain ⟨v', w', hrun, h2, h3, _, h5⟩ := run_append_own_at (P := Try.prog) W B 22 o.type 51 i0 (.slice none 0 0) 1 24 Try.underlying22 hi hz0 hz1 hz2 rfl (by decide) (.slice A n c) n _ hown.1
    ⟨p, 0, none⟩ 1 1 [sv v] rfl hcc (by simp [sv, Value.oneCell']) (by unfold maxLen; omega) (by omega) hB
  obtain ⟨g, cap, rfl, _⟩ := h2.form (by omega)
  rw [own_block] at h3
  have hl := hown.len
  have hvl := hown.vlen
  have hys := hy.kept_out hown h3
  have hat : A.map (·.block) = some g ∨ W.heap.size ≤ g := by
    rcases h5 with e | e
    · left; rw [← own_block A n c, ← e]; rfl
    · right
      have : some g = some W.heap.size := e
      have : g = W.heap.size := by simpa using this
      omega
  have hnew : OwnS w' B (some ⟨g, 0, none⟩) (n + 1) cap (vs ++ [v]) (xss ++ [ys]) := by
    refine ⟨by rw [List.map_append]; exact h2, by simp [hl], fun i hi => ?_, fun i j hij hj k hk => ?_⟩
    · rcases Nat.lt_or_ge i n with h | h
      · have e1 : (vs ++ [v]).getD i nilS = vs.getD i nilS := by simp only [List.getD]; rw [List.getElem?_append_left (by omega)]
        have e2 : (xss ++ [ys]).getD i [] = xss.getD i [] := by simp only [List.getD]; rw [List.getElem?_append_left (by omega)]
        rw [e1, e2]
        exact (hown.row h).kept_out hown h3
      · obtain rfl : i = n := by omega
        have e1 : (vs ++ [v]).getD i nilS = v := by simp only [List.getD]; rw [List.getElem?_append_right (by omega), hvl]; simp
        have e2 : (xss ++ [ys]).getD i [] = ys := by simp only [List.getD]; rw [List.getElem?_append_right (by omega), hl]; simp
        rw [e1, e2]
        exact hys
    · have e1 : (vs ++ [v]).getD i nilS = vs.getD i nilS := by simp only [List.getD]; rw [List.getElem?_append_left (by omega)]
      rw [e1] at hk
      rcases Nat.lt_or_ge j n with h | h
      · have e3 : (vs ++ [v]).getD j nilS = vs.getD j nilS := by simp only [List.getD]; rw [List.getElem?_append_left (by omega)]
        rw [e3]
        exact hown.2.2.2 i j hij h k hk
      · obtain rfl : j = n := by omega
        have e3 : (vs ++ [v]).getD j nilS = v := by simp only [List.getD]; rw [List.getElem?_append_right (by omega), hvl]; simp
        rw [e3]
        exact hdis i hij k hk
  unfold Oper.wp execOp
  simp only [ho, resolve, invoke, builtin, Sem.run_bind, Sem.run_pure, Result.andThen_ok, List.map_toArray, List.map_cons, List.map_nil, hs, hx, hrun]
  exact h g cap w' hnew h3 hat

end Go.Proofs.Ytpgmggkpnefaeaa
