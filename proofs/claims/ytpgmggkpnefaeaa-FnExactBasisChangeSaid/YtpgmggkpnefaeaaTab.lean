/- impl: the tables of Milnor's product in memory, one row; the numbers of a diagonal. -/
import Derived.Test.YtpgmggkpnefaeaaMilP
import Derived.Test.YtpgmggkpnefaeaaParI
import Derived.Test.YtpgmggkpnefaeaaKit
namespace Go.Proofs.Ytpgmggkpnefaeaa
open Go.ChangeShapes Go.WideShapes Go.ChangeAt Go.RowKit
set_option linter.unusedVariables false

theorem OwnS.keep {w w' B A n c vs xss} {row : Option Nat} (h : OwnS w B A n c vs xss) (hg : w.grownBy w' row) (h1 : ∀ k, A.map (·.block) = some k → row ≠ some k) (h2 : ∀ i, i < n → ∀ k, (vs.getD i nilS).1.map (·.block) = some k → row ≠ some k) : OwnS w' B A n c vs xss := by
  refine ⟨h.1.kept hg ?_, h.2.1, fun i hi => (h.row hi).grown hg (fun a ha e => h2 i hi a.block (by rw [ha]; rfl) e), h.2.2.2⟩
  rw [own_block]
  cases hA : A.map (·.block) with
  | none => exact .inl rfl
  | some k => exact .inr (fun e => h1 k hA e.symm)

theorem OwnI.keep {w w' B A n c xs} {row : Option Nat} (h : OwnI w B A n c xs) (hg : w.grownBy w' row) (h1 : ∀ k, A.map (·.block) = some k → row ≠ some k) : OwnI w' B A n c xs :=
  h.grown hg (fun a ha e => h1 a.block (by rw [ha]; rfl) e)

structure Tab (w : World) (B0 B1 bT gR gC : Nat) (AS AX : Option Addr) (nS cR cS cC cX : Nat) (r : Int) (S X : List Int) (A5 : Option Addr) (n5 c5 : Nat) (vs5 : List Sl) (acc : List (List Int)) : Prop where
  box : Blk w bT 120 #[.slice (some ⟨gR, 0, none⟩) 1 cR, .slice AS nS cS, .slice (some ⟨gC, 0, none⟩) 1 cC, .slice A5 n5 c5]
  hR : OwnI w B0 (some ⟨gR, 0, none⟩) 1 cR [r]
  hS : OwnI w B0 AS nS cS S
  hC : OwnS w B0 (some ⟨gC, 0, none⟩) 1 cC [(AX, nS, cX)] [X]
  hO : OwnS w B1 A5 n5 c5 vs5 acc
  n1 : AS.map (·.block) ≠ some gR
  n2 : AX.map (·.block) ≠ some gR
  n3 : ∀ k, AS.map (·.block) = some k → AX.map (·.block) ≠ some k
  lR : gR < B1
  lS : ∀ k, AS.map (·.block) = some k → k < B1
  lX : ∀ k, AX.map (·.block) = some k → k < B1
  lC : gC < B1
  lT : bT < B1
  gT : B0 ≤ bT
  h1 : B1 ≤ w.heap.size

theorem Tab.below {w w' B0 B1 bT gR gC AS AX nS cR cS cC cX r S X A5 n5 c5 vs5 acc} (h : Tab w B0 B1 bT gR gC AS AX nS cR cS cC cX r S X A5 n5 c5 vs5 acc) (hb : Below w.heap.size w w') : Tab w' B0 B1 bT gR gC AS AX nS cR cS cC cX r S X A5 n5 c5 vs5 acc :=
  ⟨h.box.below hb, h.hR.below hb, h.hS.below hb, h.hC.below hb, h.hO.below hb, h.n1, h.n2, h.n3, h.lR, h.lS, h.lX, h.lC, h.lT, h.gT, Nat.le_trans h.h1 hb.size⟩

theorem Tab.rowX {w B0 B1 bT gR gC AS AX nS cR cS cC cX r S X A5 n5 c5 vs5 acc} (h : Tab w B0 B1 bT gR gC AS AX nS cR cS cC cX r S X A5 n5 c5 vs5 acc) : OwnI w B0 AX nS cX X := h.hC.row (i := 0) (by omega)

theorem Tab.cellC {w B0 B1 bT gR gC AS AX nS cR cS cC cX r S X A5 n5 c5 vs5 acc} (h : Tab w B0 B1 bT gR gC AS AX nS cR cS cC cX r S X A5 n5 c5 vs5 acc) : w.cell? ⟨gC, 0, none⟩ = some (.slice AX nS cX) := h.hC.cell (i := 0) (by omega)

theorem Tab.setR {w B0 B1 bT gR gC AS AX nS cR cS cC cX r S X A5 n5 c5 vs5 acc} (h : Tab w B0 B1 bT gR gC AS AX nS cR cS cC cX r S X A5 n5 c5 vs5 acc) {y : Int} (hy : I64 y) : Tab (w.setCell ⟨gR, 0, none⟩ (.int .i64 y)) B0 B1 bT gR gC AS AX nS cR cS cC cX y S X A5 n5 c5 vs5 acc := by
  have hg := set_grown w ⟨gR, 0, none⟩ (.int .i64 y)
  refine ⟨h.box.setFar _ _ (fun e => blk_apartI h.box h.hR (by decide) (by rw [← e]; rfl)), h.hR.set 0 hy, h.hS.keep hg (fun k hk e => h.n1 (by rw [hk]; exact e.symm)), h.hC.keep hg (fun k hk e => ?_) (fun i hi k hk e => ?_), h.hO.setFar _ _ h.lR, h.n1, h.n2, h.n3, h.lR, h.lS, h.lX, h.lC, h.lT, h.gT, Nat.le_trans h.h1 hg.size⟩
  · have h2 := type_apart (k := k) h.hC.1 h.hR.1 (by decide) (by rw [own_block]; exact hk)
    rw [own_block] at h2
    exact h2 e
  · obtain rfl : i = 0 := by omega
    exact h.n2 (by rw [show AX.map (·.block) = some k from hk]; exact e.symm)

theorem Tab.setS {w B0 B1 bT gR gC gS AX nS cR cS cC cX r S X A5 n5 c5 vs5 acc} (h : Tab w B0 B1 bT gR gC (some ⟨gS, 0, none⟩) AX nS cR cS cC cX r S X A5 n5 c5 vs5 acc) (j : Nat) {y : Int} (hy : I64 y) : Tab (w.setCell ⟨gS, j, none⟩ (.int .i64 y)) B0 B1 bT gR gC (some ⟨gS, 0, none⟩) AX nS cR cS cC cX r (S.set j y) X A5 n5 c5 vs5 acc := by
  have hg := set_grown w ⟨gS, j, none⟩ (.int .i64 y)
  refine ⟨h.box.setFar _ _ (fun e => blk_apartI h.box h.hS (by decide) (by rw [← e]; rfl)), h.hR.keep hg (fun k hk e => h.n1 (by rw [← hk] at e; exact e)), h.hS.set j hy, h.hC.keep hg (fun k hk e => ?_) (fun i hi k hk e => ?_), h.hO.setFar _ _ (h.lS gS rfl), h.n1, h.n2, h.n3, h.lR, h.lS, h.lX, h.lC, h.lT, h.gT, Nat.le_trans h.h1 hg.size⟩
  · have h2 := type_apart (k := k) h.hC.1 h.hS.1 (by decide) (by rw [own_block]; exact hk)
    rw [own_block] at h2
    exact h2 e
  · obtain rfl : i = 0 := by omega
    exact h.n3 gS rfl (by rw [show AX.map (·.block) = some k from hk]; exact e.symm)

theorem Tab.setX {w B0 B1 bT gR gC AS gX nS cR cS cC cX r S X A5 n5 c5 vs5 acc} (h : Tab w B0 B1 bT gR gC AS (some ⟨gX, 0, none⟩) nS cR cS cC cX r S X A5 n5 c5 vs5 acc) (j : Nat) {y : Int} (hy : I64 y) : Tab (w.setCell ⟨gX, j, none⟩ (.int .i64 y)) B0 B1 bT gR gC AS (some ⟨gX, 0, none⟩) nS cR cS cC cX r S (X.set j y) A5 n5 c5 vs5 acc := by
  have hg := set_grown w ⟨gX, j, none⟩ (.int .i64 y)
  exact ⟨h.box.setFar _ _ (fun e => blk_apartI h.box h.rowX (by decide) (by rw [← e]; rfl)), h.hR.keep hg (fun k hk e => h.n2 (by rw [← hk] at e; exact e)), h.hS.keep hg (fun k hk e => h.n3 k hk e), h.hC.turn (i := 0) (by omega) (h.rowX.set j hy) hg, h.hO.setFar _ _ (h.lX gX rfl), h.n1, h.n2, h.n3, h.lR, h.lS, h.lX, h.lC, h.lT, h.gT, Nat.le_trans h.h1 hg.size⟩

theorem Tab.boxGrown {w w' B0 B1 bT gR gC AS AX nS cR cS cC cX r S X A5 n5 c5 vs5 acc} (h : Tab w B0 B1 bT gR gC AS AX nS cR cS cC cX r S X A5 n5 c5 vs5 acc) (hg : w.grownBy w' (A5.map (·.block))) : Blk w' bT 120 #[.slice (some ⟨gR, 0, none⟩) 1 cR, .slice AS nS cS, .slice (some ⟨gC, 0, none⟩) 1 cC, .slice A5 n5 c5] :=
  h.box.grown hg (fun e => by have := h.hO.out_ge e; have := h.lT; omega)

/-- the sum after a list is appended to it -/
theorem Tab.more {w w' B0 B1 bT gR gC AS AX nS cR cS cC cX r S X A5 n5 c5 vs5 acc A6 n6 c6 vs6 acc'} (h : Tab w B0 B1 bT gR gC AS AX nS cR cS cC cX r S X A5 n5 c5 vs5 acc) (hg : w.grownBy w' (A5.map (·.block))) (ho : OwnS w' B1 A6 n6 c6 vs6 acc') :
    Tab (w'.setCell ⟨bT, 3, none⟩ (.slice A6 n6 c6)) B0 B1 bT gR gC AS AX nS cR cS cC cX r S X A6 n6 c6 vs6 acc' := by
  have ge : ∀ k, A5.map (·.block) = some k → B1 ≤ k := fun k hk => h.hO.out_ge hk
  have far : ∀ k, k < B1 → A5.map (·.block) ≠ some k := fun k hk e => by have := ge k e; omega
  have hbx : Blk w' bT 120 _ := h.box.grown hg (far _ h.lT)
  have hR := h.hR.keep hg (fun k hk => far k (by
    have e : gR = k := by simpa using hk
    have := h.lR
    omega))
  have hS := h.hS.keep hg (fun k hk => far k (h.lS k hk))
  have hC := h.hC.keep hg (fun k hk => far k (by
    have e : gC = k := by simpa using hk
    have := h.lC
    omega)) (fun i hi k hk => far k (by
    obtain rfl : i = 0 := by omega
    exact h.lX k hk))
  have hs := set_grown w' ⟨bT, 3, none⟩ (.slice A6 n6 c6)
  exact ⟨hbx.set 3 _, hR.keep hs (fun k hk e => blk_apartI hbx hR (by decide) (by rw [hk]; exact e.symm)), hS.keep hs (fun k hk e => blk_apartI hbx hS (by decide) (by rw [hk]; exact e.symm)), hC.setBox hbx (by decide) (by decide) 3 _, ho.setFar _ _ h.lT, h.n1, h.n2, h.n3, h.lR, h.lS, h.lX, h.lC, h.lT, h.gT, Nat.le_trans h.h1 (Nat.le_trans hg.size hs.size)⟩

/-- the number of row i and column j of a table -/
def atV (r : Int) (S X : List Int) (n i j : Nat) : Int := if 1 < i ∨ n < j then 0 else if i = 0 then S.getD (j - 1) 0 else if j = 0 then r else X.getD (j - 1) 0

def diagL (r : Int) (S X : List Int) (n k m : Nat) : List Int := (List.range m).map fun i => atV r S X n i (k - i)

theorem diagL_step (r : Int) (S X : List Int) (n k m : Nat) : diagL r S X n k (m + 1) = diagL r S X n k m ++ [atV r S X n m (k - m)] := by
  unfold diagL; rw [List.range_succ, List.map_append]; rfl

theorem diagL_full (r : Int) (S X : List Int) (n k : Nat) (hS : S.length = n) (hX : X.length = n) (h1 : 1 ≤ k) (hk : k ≤ n + 1) : diagL r S X n k (k + 1) = (S ++ [0]).getD (k - 1) 0 :: (r :: X).getD (k - 1) 0 :: List.replicate (k - 1) 0 := by
  unfold diagL
  obtain ⟨q, rfl⟩ : ∃ q, k = q + 1 := ⟨k - 1, by omega⟩
  apply List.ext_getElem
  · simp
  · intro i h1 h2
    rw [List.getElem_map, List.getElem_range]
    match i with
    | 0 =>
      simp only [List.getElem_cons_zero, Nat.sub_zero, Nat.add_sub_cancel]
      unfold atV
      by_cases hq : q < n
      · rw [if_neg (by omega), if_pos rfl, Nat.add_sub_cancel]
        simp only [List.getD]
        rw [List.getElem?_append_left (by omega)]
      · obtain rfl : q = n := by omega
        rw [if_pos (by omega)]
        simp only [List.getD]
        rw [List.getElem?_append_right (by omega), hS, Nat.sub_self]
        rfl
    | 1 =>
      simp only [List.getElem_cons_succ, List.getElem_cons_zero, Nat.add_sub_cancel]
      unfold atV
      rw [if_neg (by omega), if_neg (by omega)]
      cases q with
      | zero => rfl
      | succ q => rw [if_neg (by omega)]; rfl
    | i + 2 =>
      simp only [List.getElem_cons_succ, List.getElem_replicate]
      unfold atV
      rw [if_pos (by omega)]

theorem and_left_zero (x : Int) : bits .and .i64 0 x = 0 := by
  show IntKind.i64.wrap ((BitVec.ofInt 64 0 &&& BitVec.ofInt 64 x).toNat : Int) = 0
  simp
  decide

theorem and_right_zero (x : Int) : bits .and .i64 x 0 = 0 := by
  show IntKind.i64.wrap ((BitVec.ofInt 64 x &&& BitVec.ofInt 64 0).toNat : Int) = 0
  simp
  decide

theorem or_zero_nn (x : Int) (h0 : 0 ≤ x) (h : x ≤ 1000) : bits .or .i64 0 x = x := by
  show IntKind.i64.wrap ((BitVec.ofInt 64 0 ||| BitVec.ofInt 64 x).toNat : Int) = x
  rw [show BitVec.ofInt 64 0 = 0#64 by decide, BitVec.zero_or, BitVec.toNat_ofInt, IntKind.wrap_i64]
  omega

theorem apartB_zeros (s : Int) (k : Nat) : apartB s (List.replicate k 0) = true := by
  induction k generalizing s with
  | zero => rfl
  | succ k ih => rw [List.replicate_succ, apartB, and_right_zero, if_neg (by simp)]; exact ih _

theorem apartB_diag (a b : Int) (k : Nat) (h0 : 0 ≤ a) (h : a ≤ 1000) : apartB 0 (a :: b :: List.replicate k 0) = (bits .and .i64 a b == 0) := by
  rw [apartB, and_left_zero, if_neg (by simp), or_zero_nn a h0 h, apartB]
  by_cases hp : bits .and .i64 a b = 0
  · rw [hp, if_neg (by simp), apartB_zeros]; rfl
  · rw [if_pos (by simpa using hp)]; symm; simpa using hp

end Go.Proofs.Ytpgmggkpnefaeaa
