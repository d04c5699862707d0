/- 'all' over a list of lists, and the library's ContainsFunc and IndexFunc under it: they return whether the condition holds for all lists, for every condition that is a function value with a contract. -/
import Derived.Test.YtijdlejngdhpjaaDoorLeaf
import Derived.Test.YtijdlejngdhpjaaDoorMemS
namespace Go.Proofs.YtijdlejngdhpjaaDoor
open Go.ChangeShapes Go.WideShapes Go.ChangeAt Go.RowKit
set_option linter.unusedVariables false

/-- function K with the captured values cs answers p on each list in D, in every later world, and turns nothing that is there -/
structure PredL (K : FuncId) (cs : Array Value) (w0 : World) (D : List Int → Prop) (p : List Int → Bool) : Prop where
  enter : ∀ args w, (callFunc K args).run Tryd.prog w = .ok (.enter K args) w
  call : ∀ (A : Option Addr) (n c : Nat) (x : List Int) (w : World), RI w A n x → D x → Below w0.heap.size w0 w → Calls Tryd.prog K (#[.slice A n c] ++ cs) w fun e w' => e = .returned (.bool (p x)) ∧ Below w.heap.size w w'

theorem PredL.later {K cs w0 w1 D p} (h : PredL K cs w0 D p) (hb : Below w0.heap.size w0 w1) : PredL K cs w1 D p :=
  ⟨h.enter, fun A n c x w hx hd hw => h.call A n c x w hx hd (hb.trans (hw.mono hb.size))⟩

theorem negS_any (K : FuncId) (cs : Array Value) (w0 : World) (D : List Int → Prop) (p : List Int → Bool) (h : PredL K cs w0 D p) (A : Option Addr) (n c : Nat) (x : List Int) (w : World) (hr : RI w A n x) (hx : D x) (a : Addr) (hb : Below w0.heap.size w0 w)
    (hc : w.cell? a = some (.func (.func K) #[] cs)) :
    Calls Tryd.prog 55 #[.slice A n c, .pointer (some a)] w fun e w' => e = .returned (.bool (!p x)) ∧ Below w.heap.size w w' := by
  have he := h.enter
  have H := Lib.hid h
  have HB := Lib.hid hb
  have HR := Lib.hid hr
  clear h hb hr
  go_enter Tryd.func55, Tryd.ntmps55
  go_wp2_with fail
  refine (H.out.call A n c x w HR.out hx HB.out).mono ?_
  rintro e w1 ⟨rfl, hb1⟩
  have HB1 := Lib.hid hb1
  clear hb1
  go_wp2
  go_ret
  exact ⟨rfl, HB1.out⟩

theorem getD_memS (xss : List (List Int)) (k : Nat) (h : k < xss.length) : xss.getD k [] ∈ xss := by simp [List.getD, h]

set_option maxHeartbeats 400000 in
theorem indexS_all (K : FuncId) (cs : Array Value) (w0 : World) (D : List Int → Prop) (p : List Int → Bool) (h : PredL K cs w0 D p) (A : Option Addr) (n c : Nat) (vs : List Sl) (xss : List (List Int)) (hD : ∀ x ∈ xss, D x) (a : Addr) (w : World) (hb : Below w0.heap.size w0 w)
    (hr : RS w A n vs xss) (ha : a.block < w.heap.size) (hc : w.cell? a = some (.func (.func K) #[] cs)) :
    Calls Tryd.prog 71 #[.slice A n c, .func (.func 55) #[] #[.pointer (some a)]] w
      fun e w' => (∃ j : Int, -1 ≤ j ∧ j ≤ 9223372036854775807 ∧ e = .returned (.int .i64 j) ∧ (xss.all p = true ↔ j = -1)) ∧ Below w.heap.size w w' := by
  have hs := hr.small
  have H := Lib.hid h
  have HB := Lib.hid hb
  have HR := Lib.hid hr
  have HC := Lib.hid hc
  have HD := Lib.hid hD
  clear h hb hr hc hD
  go_enter Tryd.func71, Tryd.ntmps71
  go_wp2
  go_loopw [8] (fun i wr => ∃ k : Nat, k ≤ n ∧ i = .int .i64 k ∧ (xss.take k).all p = true ∧ Below w.heap.size w wr) (fun i _ => n - (intOf i).toNat)
  case atStart => exact ⟨0, Nat.zero_le _, rfl, by simp, Below.refl _ _⟩
  case round =>
    obtain ⟨k, hk, rfl, hall, hbr⟩ := hrel
    have HA := Lib.hid hall
    clear hall
    by_cases hlt : k < n
    · obtain ⟨b, off, rfl, hbl, hcell⟩ := (HR.out.below hbr).at_ hlt
      have hrow := (HR.out.below hbr).row hlt
      have hl := HR.out.len
      have hk2 : k < xss.length := by omega
      have htk := take_snocS xss k hk2
      have hcw := (hbr.cell (p := a) ha).trans HC.out
      have hmem := getD_memS xss k hk2
      have con := negS_any K cs w0 D p H.out _ _ (vs.getD k nilS).2.2 (xss.getD k []) wr hrow (HD.out _ hmem) a (HB.out.trans (hbr.mono HB.out.size)) hcw
      generalize hxe : xss.getD k [] = x at *
      generalize vs.getD k nilS = v at *
      obtain ⟨vA, vn, vc⟩ := v
      simp only [sv] at hcell
      have HM := Lib.hid hmem
      have HT := Lib.hid htk
      have HBR := Lib.hid hbr
      have HCW := Lib.hid hcw
      clear hxe htk hbr hcw hl hk2 hrow hmem
      have CON := Lib.hid con
      clear con
      by_cases hp : p x = true
      · go_wp2_with fail
        refine (CON.out).mono ?_
        rintro e w1 ⟨rfl, hb1⟩
        rw [hp]
        have HB1 := Lib.hid hb1
        clear hb1
        go_wp2
        go_roundw
        case rel => exact ⟨k + 1, by omega, by go_num, by rw [HT.out, List.all_append, HA.out]; simp [hp], HBR.out.trans (HB1.out.mono HBR.out.size)⟩
        case measure => simp [intOf]; omega
      · have hp' : p x = false := by simpa using hp
        go_wp2_with fail
        refine (CON.out).mono ?_
        rintro e w1 ⟨rfl, hb1⟩
        rw [hp']
        have HB1 := Lib.hid hb1
        clear hb1
        go_wp2
        go_ret
        refine ⟨⟨(k : Int), by omega, by omega, rfl, ?_⟩, HBR.out.trans (HB1.out.mono HBR.out.size)⟩
        constructor
        · intro ha
          have := List.all_eq_true.1 ha x HM.out
          rw [hp'] at this; cases this
        · intro ha; omega
    · obtain rfl : k = n := by omega
      have hl := HR.out.len
      have e1 : xss.take k = xss := by rw [← hl]; exact List.take_length
      have HBR := Lib.hid hbr
      clear hbr
      go_wp2
      go_ret
      refine ⟨⟨-1, by omega, by omega, rfl, ?_⟩, HBR.out⟩
      have := HA.out
      rw [e1] at this
      simp [this]

theorem allS_any (K : FuncId) (cs : Array Value) (D : List Int → Prop) (p : List Int → Bool) (A : Option Addr) (n c : Nat) (vs : List Sl) (xss : List (List Int)) (w : World) (h : PredL K cs w D p) (hr : RS w A n vs xss) (hD : ∀ x ∈ xss, D x) :
    Calls Tryd.prog 36 #[.slice A n c, .func (.func K) #[] cs] w fun e w' => e = .returned (.bool (xss.all p)) ∧ Below w.heap.size w w' := by
  have hb0 : Below w.heap.size w (w.alloc (.cells #[.func (.func K) #[] cs] 52)) := (Below.refl _ _).alloc (Nat.le_refl _) _
  have hcl : (w.alloc (.cells #[.func (.func K) #[] cs] 52)).cell? ⟨w.heap.size, 0, none⟩ = some (.func (.func K) #[] cs) := by
    rw [World.cell?_alloc_at _ _ _ _ rfl]; rfl
  have con := indexS_all K cs w D p h A n c vs xss hD ⟨w.heap.size, 0, none⟩ _ hb0 (hr.below hb0) (by simp) hcl
  have CON := Lib.hid con
  have HB0 := Lib.hid hb0
  clear con h hr hb0 hcl hD
  have hmf : ∀ (fn : Fn) (first cap : Array Value) (w : World), (Instr.makeFunc fn first cap).run Tryd.prog w = .ok (.func fn first cap) w := fun _ _ _ _ => rfl
  go_enter Tryd.func36, Tryd.ntmps36
  go_wp2_with (go_at_call 54; go_in)
  refine (CON.out).mono ?_
  rintro e w1 ⟨⟨j, hj1, hj2, rfl, hj⟩, hb1⟩
  have HB1 := Lib.hid hb1
  clear hb1
  have hfin : Below w.heap.size w w1 := HB0.out.trans (HB1.out.mono (HB0.out.size))
  have HF := Lib.hid hfin
  clear hfin
  cases hp : xss.all p with
  | true =>
    obtain rfl : j = -1 := hj.1 hp
    have HP := Lib.hid hp
    clear hj hp
    go_wp2
    go_ret
    exact ⟨by rw [HP.out]; rfl, HF.out⟩
  | false =>
    have hj3 : 0 ≤ j := by
      by_cases e : j = -1
      · rw [hj.2 e] at hp; cases hp
      · omega
    have HP := Lib.hid hp
    clear hj hp
    go_wp2
    go_ret
    exact ⟨by rw [HP.out]; rfl, HF.out⟩

end Go.Proofs.YtijdlejngdhpjaaDoor
