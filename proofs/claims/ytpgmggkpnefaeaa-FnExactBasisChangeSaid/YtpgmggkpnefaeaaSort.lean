/- slices.SortFunc on a slice of lists by slices.Compare: the shelf's contract, turned to lists. -/
import Derived.Test.YtpgmggkpnefaeaaRise
import Derived.Test.YtpgmggkpnefaeaaAppS
import Derived.Shelf.SlSortCmp.Whole1
namespace Go.Proofs.Ytpgmggkpnefaeaa
open Go.ChangeShapes Go.WideShapes Go.ChangeAt Go.RowKit Go.Proofs
open Go.Sort (Holds SWO SortedIn PermIn putRow putCells grow)
set_option linter.unusedVariables false

theorem cmpL_self (x : List Int) : cmpL x x = 0 := by
  induction x with
  | nil => rfl
  | cons a x ih => rw [cmpL, if_neg (by omega), if_neg (by omega)]; exact ih

theorem lessL_cons (a b : Int) (x y : List Int) : lessL (a :: x) (b :: y) = true ↔ a < b ∨ (a = b ∧ lessL x y = true) := by
  unfold lessL
  rw [cmpL]
  by_cases h1 : a < b
  · rw [if_pos h1]; simp [h1]
  · rw [if_neg h1]
    by_cases h2 : b < a
    · rw [if_pos h2]; simp; omega
    · rw [if_neg h2]
      have : a = b := by omega
      simp [this]

theorem lessL_nil (x : List Int) : lessL x [] = false := by cases x <;> rfl

theorem lessL_nil_cons (b : Int) (y : List Int) : lessL [] (b :: y) = true := rfl

theorem lessL_irrefl (x : List Int) : lessL x x = false := by unfold lessL; rw [cmpL_self]; rfl

theorem lessL_trans (x y z : List Int) : lessL x y = true → lessL y z = true → lessL x z = true := by
  induction x generalizing y z with
  | nil =>
    intro h1 h2
    cases z with
    | nil => rw [lessL_nil] at h2; cases h2
    | cons c z => rfl
  | cons a x ih =>
    intro h1 h2
    cases y with
    | nil => rw [lessL_nil] at h1; cases h1
    | cons b y =>
      cases z with
      | nil => rw [lessL_nil] at h2; cases h2
      | cons c z =>
        rw [lessL_cons] at h1 h2 ⊢
        rcases h1 with h1 | ⟨h1, h1'⟩
        · rcases h2 with h2 | ⟨h2, h2'⟩
          · exact .inl (by omega)
          · exact .inl (by omega)
        · rcases h2 with h2 | ⟨h2, h2'⟩
          · exact .inl (by omega)
          · exact .inr ⟨by omega, ih y z h1' h2'⟩

theorem lessL_total (x y : List Int) (h1 : lessL x y = false) (h2 : lessL y x = false) : x = y := by
  induction x generalizing y with
  | nil =>
    cases y with
    | nil => rfl
    | cons b y => rw [lessL_nil_cons] at h1; cases h1
  | cons a x ih =>
    cases y with
    | nil => rw [lessL_nil_cons] at h2; cases h2
    | cons b y =>
      have h3 : ¬ (a < b ∨ (a = b ∧ lessL x y = true)) := fun h => by rw [(lessL_cons a b x y).2 h] at h1; cases h1
      have h4 : ¬ (b < a ∨ (b = a ∧ lessL y x = true)) := fun h => by rw [(lessL_cons b a y x).2 h] at h2; cases h2
      have e : a = b := by
        rcases Int.lt_trichotomy a b with h | h | h
        · exact absurd (.inl h) h3
        · exact h
        · exact absurd (.inl h) h4
      subst e
      have h5 : lessL x y = false := by
        cases h : lessL x y with
        | false => rfl
        | true => exact absurd (.inr ⟨rfl, h⟩) h3
      have h6 : lessL y x = false := by
        cases h : lessL y x with
        | false => rfl
        | true => exact absurd (.inr ⟨rfl, h⟩) h4
      rw [ih y h5 h6]

theorem lessL_ntrans (x y z : List Int) (h1 : lessL x y = false) (h2 : lessL y z = false) : lessL x z = false := by
  cases h : lessL x z with
  | false => rfl
  | true =>
    cases h3 : lessL z y with
    | true => rw [lessL_trans x z y h h3] at h1; cases h1
    | false =>
      have := lessL_total y z h2 h3
      subst this
      rw [h] at h1; cases h1

def encI (vs : List Sl) (i : Nat) : Value := sv (vs.getD i nilS)

def cfI (xss : List (List Int)) (i j : Nat) : Int := cmpL (xss.getD i []) (xss.getD j [])

theorem lt_cfI (xss : List (List Int)) (i j : Nat) : Go.Proofs.ltOf (cfI xss) i j = lessL (xss.getD i []) (xss.getD j []) := rfl

theorem swo_cfI (xss : List (List Int)) : SWO (Go.Proofs.ltOf (cfI xss)) := {
  irrefl := fun x => by rw [lt_cfI]; exact lessL_irrefl _,
  trans := fun x y z h1 h2 => by rw [lt_cfI] at *; exact lessL_trans _ _ _ h1 h2,
  ntrans := fun x y z h1 h2 => by rw [lt_cfI] at *; exact lessL_ntrans _ _ _ h1 h2 }

theorem heap_sorted {w : World} {g n : Nat} {os : Array Obj} {cur : Array Value} {e : TypeId} {fr : Nat × Nat} (enc : Nat → Value) (d : Array Nat) (hb : w.heap[g]? = some (.cells cur e fr)) :
    (sortWorld enc w g 0 n d os).heap[g]? = some (.cells (putCells enc 0 d cur) e fr) := by
  have hg : g < w.heap.size := (Array.getElem?_eq_some_iff.1 hb).1
  unfold sortWorld
  rw [Go.Sort.heap_grow_old _ _ (by simpa [putRow, Go.Sort.mapBlock, Go.Sort.ahead] using hg)]
  simp [putRow, Go.Sort.mapBlock, Go.Sort.ahead, Array.getElem?_modify, hb, Go.Sort.onCells]

theorem grown_sorted {w : World} {g n : Nat} {os : Array Obj} (enc : Nat → Value) (d : Array Nat) : w.grownBy (sortWorld enc w g 0 n d os) (some g) := by
  unfold sortWorld
  refine ⟨rfl, rfl, rfl, by simp [putRow, Go.Sort.mapBlock, Go.Sort.ahead], fun k hk hne => ?_⟩
  rw [Go.Sort.heap_grow_old _ _ (by simpa [putRow, Go.Sort.mapBlock, Go.Sort.ahead] using hk)]
  have : g ≠ k := fun e => hne (by rw [e])
  simp [putRow, Go.Sort.mapBlock, Go.Sort.ahead, Array.getElem?_modify, this]

theorem take_putCells (enc : Nat → Value) (cur : Array Value) (d : Array Nat) (h : d.size ≤ cur.size) : (putCells enc 0 d cur).toList.take d.size = d.toList.map enc := by
  apply List.ext_getElem?
  intro j
  by_cases hj : j < d.size
  · rw [List.getElem?_take_of_lt hj, Array.getElem?_toList]
    simp [putCells, hj, show j < cur.size by omega]
  · rw [List.getElem?_take_eq_none (by omega), List.getElem?_eq_none (by simp; omega)]

theorem owns_sorted {w : World} {B g n m cap : Nat} {e : TypeId} {os : Array Obj} {cur : Array Value} (enc : Nat → Value) (d : Array Nat) (hd : d.size = n) (hB : B ≤ g) (hb : w.heap[g]? = some (.cells cur e (0, 0))) (h1 : n ≤ cap) (h2 : cap ≤ maxLen) (h3 : cur.size = cap * 1) :
    (sortWorld enc w g 0 m d os).ownsRow B e 1 (.slice (some ⟨g, 0, none⟩) n cap) n (d.toList.map enc) :=
  ⟨by simp [hd], .inr ⟨g, cap, _, rfl, hB, heap_sorted enc d hb, h1, h2, by simp [putCells, h3], by rw [Nat.mul_one, ← hd]; exact take_putCells enc cur d (by omega)⟩⟩

theorem RI.sorted {w : World} {A n xs} {blk cnt : Nat} {vs : List Sl} (h : RI w A n xs) (hc : ∀ i, i < cnt → w.cell? ⟨blk, i, none⟩ = some (encI vs i)) (m : Nat) (dk : Array Nat) (hs : dk.size = cnt) (os : Array Obj) : RI (sortWorld (encI vs) w blk 0 m dk os) A n xs := by
  refine ⟨h.1, h.2.1, h.2.2.1, fun hn => ?_⟩
  obtain ⟨b, off, e, hlt, hcell⟩ := h.2.2.2 hn
  refine ⟨b, off, e, ?_, fun i hi => ?_⟩
  · exact Nat.lt_of_lt_of_le hlt (grown_sorted (w := w) (g := blk) (n := m) (os := os) (encI vs) dk).size
  · unfold sortWorld
    rw [Go.Sort.cell?_grow _ _ _ (by simpa [putRow, Go.Sort.mapBlock, Go.Sort.ahead] using hlt), Go.Sort.cell?_putRow_other]
    · exact hcell i hi
    · by_cases hb : b = blk
      · subst hb
        refine .inr (.inr ?_)
        rcases Nat.lt_or_ge (off + i) cnt with h1 | h1
        · have h2 := hc (off + i) h1
          rw [hcell i hi] at h2
          simp [encI, sv] at h2
        · show 0 + dk.size ≤ off + i
          omega
      · exact .inl hb

def Try.sortL_ren : Go.Shelf.Ren := ⟨fun | 6 => 102 | 15 => 130 | 14 => 129 | 28 => 152 | 29 => 153 | 20 => 144 | 21 => 145 | 22 => 146 | 23 => 147 | 24 => 148 | 25 => 149 | 26 => 150 | 27 => 151 | 46 => 158 | 47 => 159 | 48 => 160 | 49 => 161 | 50 => 162 | 57 => 165 | n => n, fun | 22 => 22 | 24 => 51 | 25 => 87 | 3 => 3 | 39 => 99 | 0 => 0 | 53 => 116 | 55 => 103 | 4 => 4 | 46 => 110 | 45 => 109 | 50 => 101 | 5 => 5 | 9 => 9 | 66 => 124 | 70 => 128 | 76 => 130 | 77 => 131 | n => n, fun | n => n⟩

theorem Try.sortL : Go.Proofs.SlLaysF.n6 Try.prog Try.sortL_ren := {
  mixed := by kernel_rfl,
  f6 := ⟨Try.f102.name, by decide, Try.func102.trans (congrArg some (by kernel_rfl))⟩,
  f14 := ⟨Try.f129.name, by decide, Try.func129.trans (congrArg some (by kernel_rfl))⟩,
  f15 := Try.func130.trans (congrArg some (by kernel_rfl)),
  f20 := ⟨Try.f144.name, by decide, Try.func144.trans (congrArg some (by kernel_rfl))⟩,
  f21 := ⟨Try.f145.name, by decide, Try.func145.trans (congrArg some (by kernel_rfl))⟩,
  f22 := ⟨Try.f146.name, by decide, Try.func146.trans (congrArg some (by kernel_rfl))⟩,
  f23 := ⟨Try.f147.name, by decide, Try.func147.trans (congrArg some (by kernel_rfl))⟩,
  f24 := ⟨Try.f148.name, by decide, Try.func148.trans (congrArg some (by kernel_rfl))⟩,
  f25 := ⟨Try.f149.name, by decide, Try.func149.trans (congrArg some (by kernel_rfl))⟩,
  f26 := ⟨Try.f150.name, by decide, Try.func150.trans (congrArg some (by kernel_rfl))⟩,
  f27 := ⟨Try.f151.name, by decide, Try.func151.trans (congrArg some (by kernel_rfl))⟩,
  f28 := Try.func152.trans (congrArg some (by kernel_rfl)),
  f29 := Try.func153.trans (congrArg some (by kernel_rfl)),
  f46 := ⟨Try.f158.name, by decide, Try.func158.trans (congrArg some (by kernel_rfl))⟩,
  f47 := Try.func159.trans (congrArg some (by kernel_rfl)),
  f48 := Try.func160.trans (congrArg some (by kernel_rfl)),
  f49 := ⟨Try.f161.name, by decide, Try.func161.trans (congrArg some (by kernel_rfl))⟩,
  f50 := ⟨Try.f162.name, by decide, Try.func162.trans (congrArg some (by kernel_rfl))⟩,
  f57 := ⟨Try.f165.name, by decide, Try.func165.trans (congrArg some (by kernel_rfl))⟩,
  t0 := Try.underlying0,
  a0 := Try.isAgg0,
  z0 := Try.sizeOf0,
  v0 := Try.zeroValue0,
  t3 := Try.underlying3,
  a3 := Try.isAgg3,
  z3 := Try.sizeOf3,
  v3 := Try.zeroValue3,
  t4 := Try.underlying4,
  a4 := Try.isAgg4,
  z4 := Try.sizeOf4,
  v4 := Try.zeroValue4,
  t5 := Try.underlying5,
  a5 := Try.isAgg5,
  z5 := Try.sizeOf5,
  v5 := Try.zeroValue5,
  t9 := Try.underlying9,
  a9 := Try.isAgg9,
  z9 := Try.sizeOf9,
  v9 := Try.zeroValue9,
  t22 := Try.underlying22,
  a22 := Try.isAgg22,
  z22 := Try.sizeOf22,
  v22 := Try.zeroValue22,
  a24 := Try.isAgg51,
  z24 := Try.sizeOf51,
  t25 := Try.underlying87,
  a25 := Try.isAgg87,
  z25 := Try.sizeOf87,
  v25 := Try.zeroValue87,
  t39 := Try.underlying99,
  a39 := Try.isAgg99,
  z39 := Try.sizeOf99,
  v39 := Try.zeroValue99,
  t45 := Try.underlying109,
  a45 := Try.isAgg109,
  z45 := Try.sizeOf109,
  v45 := Try.zeroValue109,
  t46 := Try.underlying110,
  a46 := Try.isAgg110,
  z46 := Try.sizeOf110,
  v46 := Try.zeroValue110,
  t50 := Try.underlying101,
  a50 := Try.isAgg101,
  z50 := Try.sizeOf101,
  v50 := Try.zeroValue101,
  t53 := Try.underlying116,
  a53 := Try.isAgg116,
  z53 := Try.sizeOf116,
  v53 := Try.zeroValue116,
  t55 := Try.underlying103,
  a55 := Try.isAgg103,
  z55 := Try.sizeOf103,
  v55 := Try.zeroValue103,
  t66 := Try.underlying124,
  a66 := Try.isAgg124,
  z66 := Try.sizeOf124,
  v66 := Try.zeroValue124,
  t70 := Try.underlying128,
  a70 := Try.isAgg128,
  z70 := Try.sizeOf128,
  v70 := Try.zeroValue128,
  t76 := Try.underlying130,
  a76 := Try.isAgg130,
  z76 := Try.sizeOf130,
  v76 := Try.zeroValue130,
  t77 := Try.underlying131,
  a77 := Try.isAgg131,
  z77 := Try.sizeOf131,
  v77 := Try.zeroValue131 }

set_option maxHeartbeats 1000000 in
theorem sort_rows {B A n c} {vs : List Sl} {xss : List (List Int)} {w : World} (h0 : 0 < n) (hn : n < 4611686018427387904) (hv : vs.length = n) (hx : xss.length = n) (ho : w.ownsRow B 51 1 (.slice A n c) n (vs.map sv)) (hr : ∀ i, i < n → RI w (vs.getD i nilS).1 (vs.getD i nilS).2.1 (xss.getD i [])) :
    Calls Try.prog 102 #[.slice A n c, .func (.func 103) #[] #[]] w fun e w' => e = .returned (.tuple #[]) ∧ ∃ p : List Nat, p.Perm (List.range n) ∧ p.Pairwise (fun i j => lessL (xss.getD j []) (xss.getD i []) = false) ∧ w'.ownsRow B 51 1 (.slice A n c) n (p.map (encI vs)) ∧ w.grownBy w' (A.map (·.block)) := by
  have ho' := ho
  obtain ⟨hlen, ⟨_, h⟩ | ⟨g, cap, cur, hvv, hB, hb, hnc, hcm, hcs, htk⟩⟩ := ho'
  · exact absurd h (by omega)
  injection hvv with e1 e2 e3
  subst e1
  subst e3
  have hc : ∀ i, i < n → w.cell? ⟨g, i, none⟩ = some (encI vs i) := fun i hi => by
    rw [ho.cellAt i (by omega)]
    simp [encI, List.getD, show i < vs.length by omega]
  have hd : (List.range n).toArray.size = n := by simp
  have hH : Holds (encI vs) w g 0 (List.range n).toArray := fun j hj => by
    have hj' : j < n := by simpa using hj
    refine ⟨?_, ho.frozenAt _⟩
    rw [Nat.zero_add, hc j hj']
    congr 2
    rw [getElem!_pos _ j hj]
    simp
  have hrow : ∀ x, RI w (vs.getD x nilS).1 (vs.getD x nilS).2.1 (xss.getD x []) := fun x => by
    rcases Nat.lt_or_ge x n with h | h
    · exact hr x h
    · have e1 : vs.getD x nilS = nilS := by simp [List.getD, List.getElem?_eq_none (show vs.length ≤ x by omega)]
      have e2 : xss.getD x [] = [] := by simp [List.getD, List.getElem?_eq_none (show xss.length ≤ x by omega)]
      rw [e1, e2]
      exact RI.nil
  have hcmp : CmpLays1 Try.prog 103 #[] (encI vs) (cfI xss) g 0 (List.range n).toArray.size w := fun m os dk hs x y =>
    (compare_any (c := (vs.getD x nilS).2.2) (d := (vs.getD y nilS).2.2) ((hrow x).sorted hc m dk (hs.trans hd) os) ((hrow y).sorted hc m dk (hs.trans hd) os)).mono fun e w' ⟨he, q, hq⟩ => ⟨he, q, #[], by rw [hq, Go.Sort.grow_empty]⟩
  have hcon := Any.slices_SortFunc Try.sortL (encI vs) (fun _ => rfl) (cfI xss) (swo_cfI xss) 103 #[] g 0 c (List.range n).toArray w Try.call103 hcmp hH (Array.getElem?_eq_some_iff.1 hb).1 (by simpa using hn)
  change Calls Try.prog 102 _ _ _ at hcon
  rw [hd] at hcon
  refine hcon.mono ?_
  rintro e w' ⟨rfl, d', m, os, ⟨hp1, _, hp3⟩, hs, rfl⟩
  rw [hd] at hp1
  refine ⟨rfl, d'.toList, ?_, ?_, owns_sorted (encI vs) d' hp1 hB hb hnc hcm hcs, grown_sorted (encI vs) d'⟩
  · have e3 : d'.extract 0 n = d' := by rw [← hp1]; exact Array.extract_size
    have e4 : (List.range n).toArray.extract 0 n = (List.range n).toArray := by
      have : (List.range n).toArray.extract 0 (List.range n).toArray.size = (List.range n).toArray := Array.extract_size
      rw [hd] at this
      exact this
    rw [e3, e4] at hp3
    exact hp3
  · rw [List.pairwise_iff_getElem]
    intro i j hi hj hij
    have hi' : i < d'.size := by simpa using hi
    have hj' : j < d'.size := by simpa using hj
    have := hs i j (Nat.zero_le _) hij (by omega)
    rw [getElem!_pos d' j hj', getElem!_pos d' i hi', lt_cfI] at this
    simpa using this

end Go.Proofs.Ytpgmggkpnefaeaa
