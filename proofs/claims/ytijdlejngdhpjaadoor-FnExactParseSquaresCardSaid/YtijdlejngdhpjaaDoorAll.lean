/- 'all' over a list of int64, and the library's ContainsFunc and IndexFunc under it: they return whether the condition holds for all elements, for every condition that is a function value with a contract. -/
import Derived.Test.YtijdlejngdhpjaaDoorLeaf
import Derived.Test.YtijdlejngdhpjaaDoorMem
namespace Go.Proofs.YtijdlejngdhpjaaDoor
open Go.ChangeShapes Go.WideShapes Go.ChangeAt Go.RowKit
set_option linter.unusedVariables false

/-- function K with the captured values cs answers p on each number, in every later world, and turns nothing that is there -/
structure PredI (K : FuncId) (cs : Array Value) (w0 : World) (p : Int → Bool) : Prop where
  enter : ∀ args w, (callFunc K args).run Tryd.prog w = .ok (.enter K args) w
  call : ∀ (x : Int) (w : World), I64 x → Below w0.heap.size w0 w → Calls Tryd.prog K (#[.int .i64 x] ++ cs) w fun e w' => e = .returned (.bool (p x)) ∧ Below w.heap.size w w'

theorem PredI.later {K cs w0 w1 p} (h : PredI K cs w0 p) (hb : Below w0.heap.size w0 w1) : PredI K cs w1 p :=
  ⟨h.enter, fun x w hx hw => h.call x w hx (hb.trans (hw.mono hb.size))⟩

theorem neg_any (K : FuncId) (cs : Array Value) (w0 : World) (p : Int → Bool) (h : PredI K cs w0 p) (x : Int) (hx : I64 x) (a : Addr) (w : World) (hb : Below w0.heap.size w0 w)
    (hc : w.cell? a = some (.func (.func K) #[] cs)) :
    Calls Tryd.prog 73 #[.int .i64 x, .pointer (some a)] w fun e w' => e = .returned (.bool (!p x)) ∧ Below w.heap.size w w' := by
  have he := h.enter
  have H := Lib.hid h
  have HB := Lib.hid hb
  clear h hb
  go_enter Tryd.func73, Tryd.ntmps73
  go_wp2_with fail
  refine (H.out.call x w hx HB.out).mono ?_
  rintro e w1 ⟨rfl, hb1⟩
  have HB1 := Lib.hid hb1
  clear hb1
  go_wp2
  go_ret
  exact ⟨rfl, HB1.out⟩

set_option maxHeartbeats 400000 in
theorem index_all (K : FuncId) (cs : Array Value) (w0 : World) (p : Int → Bool) (h : PredI K cs w0 p) (A : Option Addr) (n c : Nat) (xs : List Int) (a : Addr) (w : World) (hb : Below w0.heap.size w0 w)
    (hr : RI w A n xs) (ha : a.block < w.heap.size) (hc : w.cell? a = some (.func (.func K) #[] cs)) :
    Calls Tryd.prog 87 #[.slice A n c, .func (.func 73) #[] #[.pointer (some a)]] w
      fun e w' => (∃ j : Int, -1 ≤ j ∧ j ≤ 9223372036854775807 ∧ e = .returned (.int .i64 j) ∧ (xs.all p = true ↔ j = -1)) ∧ Below w.heap.size w w' := by
  have hs := hr.small
  have H := Lib.hid h
  have HB := Lib.hid hb
  have HR := Lib.hid hr
  have HC := Lib.hid hc
  clear h hb hr hc
  go_enter Tryd.func87, Tryd.ntmps87
  go_wp2
  go_loopw [8] (fun i wr => ∃ k : Nat, k ≤ n ∧ i = .int .i64 k ∧ (xs.take k).all p = true ∧ Below w.heap.size w wr) (fun i _ => n - (intOf i).toNat)
  case atStart => exact ⟨0, Nat.zero_le _, rfl, by simp, Below.refl _ _⟩
  case round =>
    obtain ⟨k, hk, rfl, hall, hbr⟩ := hrel
    have HA := Lib.hid hall
    clear hall
    by_cases hlt : k < n
    · obtain ⟨b, off, rfl, hbl, hcell⟩ := (HR.out.below hbr).at_ hlt
      have hx := HR.out.el hlt
      have hl := HR.out.len
      have hk2 : k < xs.length := by omega
      have htk : xs.take (k + 1) = xs.take k ++ [xs.getD k 0] := by
        rw [List.take_succ_eq_append_getElem hk2]; simp [List.getD, hk2]
      have hcw := (hbr.cell (p := a) ha).trans HC.out
      have con := neg_any K cs w0 p H.out (xs.getD k 0) hx a wr (HB.out.trans (hbr.mono HB.out.size)) hcw
      generalize hxe : xs.getD k 0 = x at *
      have HX := Lib.hid hxe
      have HT := Lib.hid htk
      have HBR := Lib.hid hbr
      have HCW := Lib.hid hcw
      clear hxe htk hbr hcw hl hk2
      have CON := Lib.hid con
      clear con
      by_cases hp : p x = true
      · go_wp2_with fail
        refine (CON.out).mono ?_
        rintro e w1 ⟨rfl, hb1⟩
        rw [hp]
        have HB1 := Lib.hid hb1
        clear hb1
        go_wp2
        go_roundw
        case rel => exact ⟨k + 1, by omega, by go_num, by rw [HT.out, List.all_append, HA.out]; simp [hp], HBR.out.trans (HB1.out.mono HBR.out.size)⟩
        case measure => simp [intOf]; omega
      · have hp' : p x = false := by simpa using hp
        go_wp2_with fail
        refine (CON.out).mono ?_
        rintro e w1 ⟨rfl, hb1⟩
        rw [hp']
        have HB1 := Lib.hid hb1
        clear hb1
        go_wp2
        go_ret
        refine ⟨⟨(k : Int), by omega, by omega, rfl, ?_⟩, HBR.out.trans (HB1.out.mono HBR.out.size)⟩
        have hx2 : x ∈ xs := by
          have hl := HR.out.len
          have h2 : k < xs.length := by omega
          rw [← HX.out]; simp [List.getD, h2]
        constructor
        · intro ha
          have := List.all_eq_true.1 ha x hx2
          rw [hp'] at this; cases this
        · intro ha; omega
    · obtain rfl : k = n := by omega
      have hl := HR.out.len
      have e1 : xs.take k = xs := by rw [← hl]; exact List.take_length
      have HBR := Lib.hid hbr
      clear hbr
      go_wp2
      go_ret
      refine ⟨⟨-1, by omega, by omega, rfl, ?_⟩, HBR.out⟩
      have := HA.out
      rw [e1] at this
      simp [this]

theorem all_any (K : FuncId) (cs : Array Value) (p : Int → Bool) (A : Option Addr) (n c : Nat) (xs : List Int) (w : World) (h : PredI K cs w p) (hr : RI w A n xs) :
    Calls Tryd.prog 56 #[.slice A n c, .func (.func K) #[] cs] w fun e w' => e = .returned (.bool (xs.all p)) ∧ Below w.heap.size w w' := by
  have hb0 : Below w.heap.size w (w.alloc (.cells #[.func (.func K) #[] cs] 74)) := (Below.refl _ _).alloc (Nat.le_refl _) _
  have hcl : (w.alloc (.cells #[.func (.func K) #[] cs] 74)).cell? ⟨w.heap.size, 0, none⟩ = some (.func (.func K) #[] cs) := by
    rw [World.cell?_alloc_at _ _ _ _ rfl]; rfl
  have con := index_all K cs w p h A n c xs ⟨w.heap.size, 0, none⟩ _ hb0 (hr.below hb0) (by simp) hcl
  have CON := Lib.hid con
  have HB0 := Lib.hid hb0
  clear con h hr hb0 hcl
  have hmf : ∀ (fn : Fn) (first cap : Array Value) (w : World), (Instr.makeFunc fn first cap).run Tryd.prog w = .ok (.func fn first cap) w := fun _ _ _ _ => rfl
  go_enter Tryd.func56, Tryd.ntmps56
  go_wp2_with (go_at_call 72; go_in)
  refine (CON.out).mono ?_
  rintro e w1 ⟨⟨j, hj1, hj2, rfl, hj⟩, hb1⟩
  have HB1 := Lib.hid hb1
  clear hb1
  have hfin : Below w.heap.size w w1 := HB0.out.trans (HB1.out.mono (HB0.out.size))
  have HF := Lib.hid hfin
  clear hfin
  cases hp : xs.all p with
  | true =>
    obtain rfl : j = -1 := hj.1 hp
    have HP := Lib.hid hp
    clear hj hp
    go_wp2
    go_ret
    exact ⟨by rw [HP.out]; rfl, HF.out⟩
  | false =>
    have hj3 : 0 ≤ j := by
      by_cases e : j = -1
      · rw [hj.2 e] at hp; cases hp
      · omega
    have HP := Lib.hid hp
    clear hj hp
    go_wp2
    go_ret
    exact ⟨by rw [HP.out]; rfl, HF.out⟩

end Go.Proofs.YtijdlejngdhpjaaDoor
