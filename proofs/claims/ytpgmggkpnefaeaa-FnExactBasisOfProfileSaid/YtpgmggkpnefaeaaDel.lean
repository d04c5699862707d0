/- BasisOfProfile of the program: slices.DeleteFunc on a slice of lists of the call's own. -/
import Derived.Test.YtpgmggkpnefaeaaBas
import Derived.Test.YtpgmggkpnefaeaaSort
import Derived.Shelf.SlicesE.DeleteFunc
namespace Go.Proofs.Ytpgmggkpnefaeaa
open Go.ChangeShapes Go.WideShapes Go.ChangeAt Go.RowKit Go.Proofs
open Go.Sort (Holds putRow putCells grow)
set_option linter.unusedVariables false

def delP (hs : List Int) (xss : List (List Int)) (i : Nat) : Bool := !inW hs 0 (xss.getD i [])

/-- the closure says whether a row is not in the part -/
theorem del_gives {A n c x A' n' c' hs b} {W : World} (hr : RI W A n x) (g : RI W A' n' hs) (hx : ∀ e ∈ x, 0 ≤ e ∧ e ≤ 1000000000000) (hn : n ≤ 10) (hp : Prf hs) (hc : W.cell? ⟨b, 0, none⟩ = some (.slice A' n' c')) :
    Calls Try.prog 86 #[.slice A n c, .pointer (some ⟨b, 0, none⟩)] W fun e w' => e = .returned (.bool (!inW hs 0 x)) ∧ ∃ q, w' = W.drewN q := by
  have CON := Lib.hid (impl_inPart (c := c) (c' := c') hr g hx hn hp)
  clear hr g hx hp
  go_enter Try.func86, Try.ntmps86
  go_wp2_with fail
  refine CON.out.mono ?_
  rintro e w' ⟨rfl, rfl⟩
  go_wp2
  go_ret
  exact ⟨rfl, 0, rfl⟩

def Try.delL_ren : Go.Shelf.Ren := ⟨fun | 10 => 85 | 6 => 120 | n => n, fun | 22 => 22 | 23 => 51 | 25 => 66 | 3 => 3 | 4 => 4 | 0 => 0 | n => n, fun | n => n⟩

theorem Try.delL : Go.Proofs.SlLaysH.n10 Try.prog Try.delL_ren := {
  mixed := by kernel_rfl,
  f6 := ⟨Try.f120.name, by decide, Try.func120.trans (congrArg some (by kernel_rfl))⟩,
  f10 := ⟨Try.f85.name, by decide, Try.func85.trans (congrArg some (by kernel_rfl))⟩,
  t0 := Try.underlying0,
  a0 := Try.isAgg0,
  z0 := Try.sizeOf0,
  v0 := Try.zeroValue0,
  t3 := Try.underlying3,
  a3 := Try.isAgg3,
  z3 := Try.sizeOf3,
  v3 := Try.zeroValue3,
  t4 := Try.underlying4,
  a4 := Try.isAgg4,
  z4 := Try.sizeOf4,
  v4 := Try.zeroValue4,
  t22 := Try.underlying22,
  a22 := Try.isAgg22,
  z22 := Try.sizeOf22,
  v22 := Try.zeroValue22,
  a23 := Try.isAgg51,
  z23 := Try.sizeOf51,
  t25 := Try.underlying66,
  a25 := Try.isAgg66,
  z25 := Try.sizeOf66,
  v25 := Try.zeroValue66 }

theorem take_pre (enc : Nat → Value) (cur : Array Value) (K R : List Nat) (h : (K ++ R).length ≤ cur.size) : (putCells enc 0 (K ++ R).toArray cur).toList.take K.length = K.map enc := by
  have h1 := take_putCells enc cur (K ++ R).toArray (by simpa using h)
  have h2 := congrArg (List.take K.length) h1
  rw [List.take_take] at h2
  simp only [List.size_toArray, List.length_append, List.map_append] at h2
  rw [Nat.min_eq_left (by omega)] at h2
  rw [h2, List.take_left' (by simp)]

theorem filter_range (xss : List (List Int)) (p : List Int → Bool) (n : Nat) (hn : xss.length = n) : ((List.range n).filter (fun i => p (xss.getD i []))).map (fun i => xss.getD i []) = xss.filter p := by
  have e : xss = (List.range n).map (fun i => xss.getD i []) := by
    apply List.ext_getElem
    · simp [hn]
    · intro i h1 h2
      simp [List.getD, h1]
  conv => rhs; rw [e, List.filter_map]
  rfl

set_option maxHeartbeats 1000000 in
theorem del_rows {B A n c} {vs : List Sl} {xss : List (List Int)} {w : World} {A' n' c' hs b us} (h0 : 0 < n) (hn1 : n ≤ 1000000) (ho : OwnS w B A n c vs xss) (hsm : ∀ x ∈ xss, x.length ≤ 10 ∧ ∀ e ∈ x, 0 ≤ e ∧ e ≤ 1000000000000) (g : RI w A' n' hs) (hp : Prf hs) (hb : Blk w b 51 us) (hus : us[0]? = some (.slice A' n' c')) (hbB : b < B) :
    Calls Try.prog 85 #[.slice A n c, .func (.func 86) #[] #[.pointer (some ⟨b, 0, none⟩)]] w fun e w' => ∃ m vs', e = .returned (.slice A m c) ∧ OwnS w' B A m c vs' (xss.filter (inW hs 0)) ∧ w.grownBy w' (A.map (·.block)) := by
  have hv := ho.vlen
  have hx := ho.len
  have ho' := ho.1
  obtain ⟨hlen, ⟨_, h⟩ | ⟨gb, cap, cur, hvv, hB, hbk, hnc, hcm, hcs, htk⟩⟩ := ho'
  · exact absurd h (by omega)
  injection hvv with e1 e2 e3
  subst e1
  subst e3
  have hc : ∀ i, i < n → w.cell? ⟨gb, i, none⟩ = some (encI vs i) := fun i hi => ho.cell hi
  have hd : (List.range n).toArray.size = n := by simp
  have hH : Holds (encI vs) w gb 0 (List.range n).toArray := fun j hj => by
    have hj' : j < n := by simpa using hj
    refine ⟨?_, ho.1.frozenAt _⟩
    rw [Nat.zero_add, hc j hj']
    congr 2
    rw [getElem!_pos _ j hj]
    simp
  have hrow : ∀ x, RI w (vs.getD x nilS).1 (vs.getD x nilS).2.1 (xss.getD x []) ∧ (vs.getD x nilS).2.1 ≤ 10 ∧ ∀ e ∈ xss.getD x [], 0 ≤ e ∧ e ≤ 1000000000000 := fun x => by
    rcases Nat.lt_or_ge x n with h | h
    · have h1 := hsm _ (getD_memS xss x (by omega))
      have h2 := (ho.row h).len
      exact ⟨(ho.row h).reads, by omega, h1.2⟩
    · have e1 : vs.getD x nilS = nilS := by simp [List.getD, List.getElem?_eq_none (show vs.length ≤ x by omega)]
      have e2 : xss.getD x [] = [] := by simp [List.getD, List.getElem?_eq_none (show xss.length ≤ x by omega)]
      rw [e1, e2]
      exact ⟨RI.nil, Nat.zero_le _, fun e he => by cases he⟩
  have hbne : b ≠ gb := by omega
  have hpa : PredAt Try.prog 86 #[.pointer (some ⟨b, 0, none⟩)] (encI vs) (delP hs xss) w := fun W x hW =>
    del_gives (c := (vs.getD x nilS).2.2) ((hrow x).1.below hW) (g.below hW) (hrow x).2.2 (hrow x).2.1 hp ((hb.below hW).cell 0 hus)
  have hpo : PredOver Try.prog 86 #[.pointer (some ⟨b, 0, none⟩)] (encI vs) (delP hs xss) gb 0 (List.range n).toArray.size w := fun m os dk x hs2 =>
    del_gives (c := (vs.getD x nilS).2.2) ((hrow x).1.sorted hc m dk (hs2.trans hd) os) (g.sorted hc m dk (hs2.trans hd) os) (hrow x).2.2 (hrow x).2.1 hp ((hb.grown (grown_sorted (encI vs) dk) (by simpa using fun e => hbne e.symm)).cell 0 hus)
  have hcon := AnyE.slices_DeleteFunc Try.delL (encI vs) (fun _ => rfl) (delP hs xss) 86 #[.pointer (some ⟨b, 0, none⟩)] Try.call86 n
    (fun w => by rw [show encI vs n = .slice none 0 0 by simp [encI, sv, nilS, List.getD, List.getElem?_eq_none (show vs.length ≤ n by omega)]]; exact Try.zeroValue51 w) gb 0 c (List.range n).toArray w hpa hpo hH (by rw [hd]; omega) (by rw [hd]; exact hnc)
  change Calls Try.prog 85 _ _ _ at hcon
  rw [hd] at hcon
  have hfe : (List.range n).toArray.toList.filter (fun x => !delP hs xss x) = (List.range n).filter (fun i => inW hs 0 (xss.getD i [])) := by
    simp [delP]
  rw [hfe] at hcon
  generalize hK : (List.range n).filter (fun i => inW hs 0 (xss.getD i [])) = K at hcon
  have hKn : K.length ≤ n := by rw [← hK]; have := List.length_filter_le (fun i => inW hs 0 (xss.getD i [])) (List.range n); simpa using this
  have hKm : ∀ i ∈ K, i < n := fun i hi => by rw [← hK] at hi; exact List.mem_range.1 (List.mem_filter.1 hi).1
  have hKp : K.Pairwise (· < ·) := by rw [← hK]; exact List.Pairwise.filter _ List.pairwise_lt_range
  have hKx : K.map (fun i => xss.getD i []) = xss.filter (inW hs 0) := by rw [← hK]; exact filter_range xss (inW hs 0) n hx
  refine hcon.mono ?_
  rintro e w' ⟨rfl, q, rfl⟩
  have hgr : w.grownBy (putRow (encI vs) (Go.Sort.ahead w q) gb 0 (K ++ List.replicate (n - K.length) n).toArray) (some gb) := by
    have := grown_sorted (w := w) (g := gb) (n := q) (os := #[]) (encI vs) (K ++ List.replicate (n - K.length) n).toArray
    unfold sortWorld at this
    rw [Go.Sort.grow_empty] at this
    exact this
  have hhp : (putRow (encI vs) (Go.Sort.ahead w q) gb 0 (K ++ List.replicate (n - K.length) n).toArray).heap[gb]? = some (.cells (putCells (encI vs) 0 (K ++ List.replicate (n - K.length) n).toArray cur) 51 (0, 0)) := by
    have := heap_sorted (w := w) (g := gb) (n := q) (os := #[]) (encI vs) (K ++ List.replicate (n - K.length) n).toArray hbk
    unfold sortWorld at this
    rw [Go.Sort.grow_empty] at this
    exact this
  have hge : ∀ i, i < K.length → (K.map (fun i => vs.getD i nilS)).getD i nilS = vs.getD (K.getD i 0) nilS := fun i hi => by simp [List.getD, hi]
  have hgx : ∀ i, i < K.length → (K.map (fun i => xss.getD i [])).getD i [] = xss.getD (K.getD i 0) [] := fun i hi => by simp [List.getD, hi]
  have hki : ∀ i, i < K.length → K.getD i 0 < n := fun i hi => hKm _ (by simp [List.getD, hi])
  refine ⟨K.length, K.map (fun i => vs.getD i nilS), rfl, ⟨⟨by simp, .inr ⟨gb, c, _, rfl, hB, hhp, by omega, hcm, by simp [putCells, hcs], ?_⟩⟩, by rw [← hKx]; simp, fun i hi => ?_, fun i j hij hj k hk => ?_⟩, hgr⟩
  · rw [Nat.mul_one, take_pre (encI vs) cur K (List.replicate (n - K.length) n) (by simp; omega)]
    simp [encI]
  · rw [hge i hi, ← hKx, hgx i hi]
    exact (ho.row (hki i hi)).kept_out ho hgr
  · rw [hge i (by omega)] at hk
    rw [hge j hj]
    have hlt : K.getD i 0 < K.getD j 0 := by
      have := List.pairwise_iff_getElem.1 hKp i j (by omega) hj hij
      simpa [List.getD, hj, show i < K.length by omega] using this
    exact ho.2.2.2 _ _ hlt (hki j hj) k hk

end Go.Proofs.Ytpgmggkpnefaeaa
