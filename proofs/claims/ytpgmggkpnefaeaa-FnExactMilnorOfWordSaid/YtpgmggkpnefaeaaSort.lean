/- slices.SortFunc on a slice of lists by slices.Compare: the shelf's contract, turned to lists. -/
import Derived.Test.YtpgmggkpnefaeaaRise
import Derived.Test.YtpgmggkpnefaeaaAppS
import Derived.Shelf.SlSortCmp.Whole1
import Derived.Shelf.Lay
import Derived.Ground.SlsfProg
import Derived.Ground.NamesProg
namespace Go.Proofs.Ytpgmggkpnefaeaa
open Go.ChangeShapes Go.WideShapes Go.ChangeAt Go.RowKit Go.Proofs
open Go.Sort (Holds SWO SortedIn PermIn putRow putCells grow)
set_option linter.unusedVariables false

theorem cmpL_self (x : List Int) : cmpL x x = 0 := by
  induction x with
  | nil => rfl
  | cons a x ih => rw [cmpL, if_neg (by omega), if_neg (by omega)]; exact ih

theorem lessL_cons (a b : Int) (x y : List Int) : lessL (a :: x) (b :: y) = true ↔ a < b ∨ (a = b ∧ lessL x y = true) := by
  unfold lessL
  rw [cmpL]
  by_cases h1 : a < b
  · rw [if_pos h1]; simp [h1]
  · rw [if_neg h1]
    by_cases h2 : b < a
    · rw [if_pos h2]; simp; omega
    · rw [if_neg h2]
      have : a = b := by omega
      simp [this]

theorem lessL_nil (x : List Int) : lessL x [] = false := by cases x <;> rfl

theorem lessL_nil_cons (b : Int) (y : List Int) : lessL [] (b :: y) = true := rfl

theorem lessL_irrefl (x : List Int) : lessL x x = false := by unfold lessL; rw [cmpL_self]; rfl

theorem lessL_trans (x y z : List Int) : lessL x y = true → lessL y z = true → lessL x z = true := by
  induction x generalizing y z with
  | nil =>
    intro h1 h2
    cases z with
    | nil => rw [lessL_nil] at h2; cases h2
    | cons c z => rfl
  | cons a x ih =>
    intro h1 h2
    cases y with
    | nil => rw [lessL_nil] at h1; cases h1
    | cons b y =>
      cases z with
      | nil => rw [lessL_nil] at h2; cases h2
      | cons c z =>
        rw [lessL_cons] at h1 h2 ⊢
        rcases h1 with h1 | ⟨h1, h1'⟩
        · rcases h2 with h2 | ⟨h2, h2'⟩
          · exact .inl (by omega)
          · exact .inl (by omega)
        · rcases h2 with h2 | ⟨h2, h2'⟩
          · exact .inl (by omega)
          · exact .inr ⟨by omega, ih y z h1' h2'⟩

theorem lessL_total (x y : List Int) (h1 : lessL x y = false) (h2 : lessL y x = false) : x = y := by
  induction x generalizing y with
  | nil =>
    cases y with
    | nil => rfl
    | cons b y => rw [lessL_nil_cons] at h1; cases h1
  | cons a x ih =>
    cases y with
    | nil => rw [lessL_nil_cons] at h2; cases h2
    | cons b y =>
      have h3 : ¬ (a < b ∨ (a = b ∧ lessL x y = true)) := fun h => by rw [(lessL_cons a b x y).2 h] at h1; cases h1
      have h4 : ¬ (b < a ∨ (b = a ∧ lessL y x = true)) := fun h => by rw [(lessL_cons b a y x).2 h] at h2; cases h2
      have e : a = b := by
        rcases Int.lt_trichotomy a b with h | h | h
        · exact absurd (.inl h) h3
        · exact h
        · exact absurd (.inl h) h4
      subst e
      have h5 : lessL x y = false := by
        cases h : lessL x y with
        | false => rfl
        | true => exact absurd (.inr ⟨rfl, h⟩) h3
      have h6 : lessL y x = false := by
        cases h : lessL y x with
        | false => rfl
        | true => exact absurd (.inr ⟨rfl, h⟩) h4
      rw [ih y h5 h6]

theorem lessL_ntrans (x y z : List Int) (h1 : lessL x y = false) (h2 : lessL y z = false) : lessL x z = false := by
  cases h : lessL x z with
  | false => rfl
  | true =>
    cases h3 : lessL z y with
    | true => rw [lessL_trans x z y h h3] at h1; cases h1
    | false =>
      have := lessL_total y z h2 h3
      subst this
      rw [h] at h1; cases h1

def encI (vs : List Sl) (i : Nat) : Value := sv (vs.getD i nilS)

def cfI (xss : List (List Int)) (i j : Nat) : Int := cmpL (xss.getD i []) (xss.getD j [])

theorem lt_cfI (xss : List (List Int)) (i j : Nat) : Go.Proofs.ltOf (cfI xss) i j = lessL (xss.getD i []) (xss.getD j []) := rfl

theorem swo_cfI (xss : List (List Int)) : SWO (Go.Proofs.ltOf (cfI xss)) where
  irrefl x := by rw [lt_cfI]; exact lessL_irrefl _
  trans x y z h1 h2 := by rw [lt_cfI] at *; exact lessL_trans _ _ _ h1 h2
  ntrans x y z h1 h2 := by rw [lt_cfI] at *; exact lessL_ntrans _ _ _ h1 h2

theorem heap_sorted {w : World} {g n : Nat} {os : Array Obj} {cur : Array Value} {e : TypeId} {fr : Nat × Nat} (enc : Nat → Value) (d : Array Nat) (hb : w.heap[g]? = some (.cells cur e fr)) :
    (sortWorld enc w g 0 n d os).heap[g]? = some (.cells (putCells enc 0 d cur) e fr) := by
  have hg : g < w.heap.size := (Array.getElem?_eq_some_iff.1 hb).1
  unfold sortWorld
  rw [Go.Sort.heap_grow_old _ _ (by simpa [putRow, Go.Sort.mapBlock, Go.Sort.ahead] using hg)]
  simp [putRow, Go.Sort.mapBlock, Go.Sort.ahead, Array.getElem?_modify, hb, Go.Sort.onCells]

theorem grown_sorted {w : World} {g n : Nat} {os : Array Obj} (enc : Nat → Value) (d : Array Nat) : w.grownBy (sortWorld enc w g 0 n d os) (some g) := by
  unfold sortWorld
  refine ⟨rfl, rfl, rfl, by simp [putRow, Go.Sort.mapBlock, Go.Sort.ahead], fun k hk hne => ?_⟩
  rw [Go.Sort.heap_grow_old _ _ (by simpa [putRow, Go.Sort.mapBlock, Go.Sort.ahead] using hk)]
  have : g ≠ k := fun e => hne (by rw [e])
  simp [putRow, Go.Sort.mapBlock, Go.Sort.ahead, Array.getElem?_modify, this]

theorem take_putCells (enc : Nat → Value) (cur : Array Value) (d : Array Nat) (h : d.size ≤ cur.size) : (putCells enc 0 d cur).toList.take d.size = d.toList.map enc := by
  apply List.ext_getElem?
  intro j
  by_cases hj : j < d.size
  · rw [List.getElem?_take_of_lt hj, Array.getElem?_toList]
    simp [putCells, hj, show j < cur.size by omega]
  · rw [List.getElem?_take_eq_none (by omega), List.getElem?_eq_none (by simp; omega)]

theorem owns_sorted {w : World} {B g n m cap : Nat} {e : TypeId} {os : Array Obj} {cur : Array Value} (enc : Nat → Value) (d : Array Nat) (hd : d.size = n) (hB : B ≤ g) (hb : w.heap[g]? = some (.cells cur e (0, 0))) (h1 : n ≤ cap) (h2 : cap ≤ maxLen) (h3 : cur.size = cap * 1) :
    (sortWorld enc w g 0 m d os).ownsRow B e 1 (.slice (some ⟨g, 0, none⟩) n cap) n (d.toList.map enc) :=
  ⟨by simp [hd], .inr ⟨g, cap, _, rfl, hB, heap_sorted enc d hb, h1, h2, by simp [putCells, h3], by rw [Nat.mul_one, ← hd]; exact take_putCells enc cur d (by omega)⟩⟩

theorem RI.sorted {w : World} {A n xs} {blk cnt : Nat} {vs : List Sl} (h : RI w A n xs) (hc : ∀ i, i < cnt → w.cell? ⟨blk, i, none⟩ = some (encI vs i)) (m : Nat) (dk : Array Nat) (hs : dk.size = cnt) (os : Array Obj) : RI (sortWorld (encI vs) w blk 0 m dk os) A n xs := by
  refine ⟨h.1, h.2.1, h.2.2.1, fun hn => ?_⟩
  obtain ⟨b, off, e, hlt, hcell⟩ := h.2.2.2 hn
  refine ⟨b, off, e, ?_, fun i hi => ?_⟩
  · exact Nat.lt_of_lt_of_le hlt (grown_sorted (w := w) (g := blk) (n := m) (os := os) (encI vs) dk).size
  · unfold sortWorld
    rw [Go.Sort.cell?_grow _ _ _ (by simpa [putRow, Go.Sort.mapBlock, Go.Sort.ahead] using hlt), Go.Sort.cell?_putRow_other]
    · exact hcell i hi
    · by_cases hb : b = blk
      · subst hb
        refine .inr (.inr ?_)
        rcases Nat.lt_or_ge (off + i) cnt with h1 | h1
        · have h2 := hc (off + i) h1
          rw [hcell i hi] at h2
          simp [encI, sv] at h2
        · show 0 + dk.size ≤ off + i
          omega
      · exact .inl hb

shelf_lay_g SlLaysF.n6 Slsf 6 at Try 102 as Try.sortL

set_option maxHeartbeats 1000000 in
theorem sort_rows {B A n c} {vs : List Sl} {xss : List (List Int)} {w : World} (h0 : 0 < n) (hn : n < 4611686018427387904) (hv : vs.length = n) (hx : xss.length = n) (ho : w.ownsRow B 51 1 (.slice A n c) n (vs.map sv)) (hr : ∀ i, i < n → RI w (vs.getD i nilS).1 (vs.getD i nilS).2.1 (xss.getD i [])) :
    Calls Try.prog 102 #[.slice A n c, .func (.func 103) #[] #[]] w fun e w' => e = .returned (.tuple #[]) ∧ ∃ p : List Nat, p.Perm (List.range n) ∧ p.Pairwise (fun i j => lessL (xss.getD j []) (xss.getD i []) = false) ∧ w'.ownsRow B 51 1 (.slice A n c) n (p.map (encI vs)) ∧ w.grownBy w' (A.map (·.block)) := by
  have ho' := ho
  obtain ⟨hlen, ⟨_, h⟩ | ⟨g, cap, cur, hvv, hB, hb, hnc, hcm, hcs, htk⟩⟩ := ho'
  · exact absurd h (by omega)
  injection hvv with e1 e2 e3
  subst e1
  subst e3
  have hc : ∀ i, i < n → w.cell? ⟨g, i, none⟩ = some (encI vs i) := fun i hi => by
    rw [ho.cellAt i (by omega)]
    simp [encI, List.getD, show i < vs.length by omega]
  have hd : (List.range n).toArray.size = n := by simp
  have hH : Holds (encI vs) w g 0 (List.range n).toArray := fun j hj => by
    have hj' : j < n := by simpa using hj
    refine ⟨?_, ho.frozenAt _⟩
    rw [Nat.zero_add, hc j hj']
    congr 2
    rw [getElem!_pos _ j hj]
    simp
  have hrow : ∀ x, RI w (vs.getD x nilS).1 (vs.getD x nilS).2.1 (xss.getD x []) := fun x => by
    rcases Nat.lt_or_ge x n with h | h
    · exact hr x h
    · have e1 : vs.getD x nilS = nilS := by simp [List.getD, List.getElem?_eq_none (show vs.length ≤ x by omega)]
      have e2 : xss.getD x [] = [] := by simp [List.getD, List.getElem?_eq_none (show xss.length ≤ x by omega)]
      rw [e1, e2]
      exact RI.nil
  have hcmp : CmpLays1 Try.prog 103 #[] (encI vs) (cfI xss) g 0 (List.range n).toArray.size w := fun m os dk hs x y =>
    (compare_any (c := (vs.getD x nilS).2.2) (d := (vs.getD y nilS).2.2) ((hrow x).sorted hc m dk (hs.trans hd) os) ((hrow y).sorted hc m dk (hs.trans hd) os)).mono fun e w' ⟨he, q, hq⟩ => ⟨he, q, #[], by rw [hq, Go.Sort.grow_empty]⟩
  have hcon := Any.slices_SortFunc Try.sortL (encI vs) (fun _ => rfl) (cfI xss) (swo_cfI xss) 103 #[] g 0 c (List.range n).toArray w Try.call103 hcmp hH (Array.getElem?_eq_some_iff.1 hb).1 (by simpa using hn)
  change Calls Try.prog 102 _ _ _ at hcon
  rw [hd] at hcon
  refine hcon.mono ?_
  rintro e w' ⟨rfl, d', m, os, ⟨hp1, _, hp3⟩, hs, rfl⟩
  rw [hd] at hp1
  refine ⟨rfl, d'.toList, ?_, ?_, owns_sorted (encI vs) d' hp1 hB hb hnc hcm hcs, grown_sorted (encI vs) d'⟩
  · have e3 : d'.extract 0 n = d' := by rw [← hp1]; exact Array.extract_size
    have e4 : (List.range n).toArray.extract 0 n = (List.range n).toArray := by
      have : (List.range n).toArray.extract 0 (List.range n).toArray.size = (List.range n).toArray := Array.extract_size
      rw [hd] at this
      exact this
    rw [e3, e4] at hp3
    exact hp3
  · rw [List.pairwise_iff_getElem]
    intro i j hi hj hij
    have hi' : i < d'.size := by simpa using hi
    have hj' : j < d'.size := by simpa using hj
    have := hs i j (Nat.zero_le _) hij (by omega)
    rw [getElem!_pos d' j hj', getElem!_pos d' i hi', lt_cfI] at this
    simpa using this

end Go.Proofs.Ytpgmggkpnefaeaa
