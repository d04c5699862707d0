/- sameDegree over a list of lists, for a function value with a contract. -/
import Derived.Test.YtijdlejngdhpjaaDoorAllS
import Derived.Test.YtijdlejngdhpjaaDoorRise
import Derived.Test.YtijdlejngdhpjaaDoorKit
import Derived.Test.YtijdlejngdhpjaaDoorBlk
namespace Go.Proofs.YtijdlejngdhpjaaDoor
open Go.ChangeShapes Go.WideShapes Go.ChangeAt Go.RowKit
set_option linter.unusedVariables false

/-- function K returns f x on each list x in D and turns nothing -/
structure FunL (K : FuncId) (D : List Int → Prop) (f : List Int → Int) : Prop where
  enter : ∀ args w, (callFunc K args).run Tryd.prog w = .ok (.enter K args) w
  call : ∀ (A : Option Addr) (n c : Nat) (x : List Int) (w : World), RI w A n x → D x → Calls Tryd.prog K #[.slice A n c] w fun e w' => e = .returned (.int .i64 (f x)) ∧ w = w'

def sameB (f : List Int → Int) (xss : List (List Int)) : Bool := xss.all (fun x => decide (f x = f (xss.getD 0 [])))

theorem quiet_lefts {P : Program} {f : FuncId} {args : Array Value} {w : World} {n : Nat} {v : Value} (h : Calls P f args (w.drewN n) fun e w' => e = .returned v ∧ w.drewN n = w') : Calls P f args (w.drewN n) fun e w'' => e = .returned v ∧ ∃ m, w'' = w.drewN m :=
  h.mono fun _ _ ⟨he, hm⟩ => ⟨he, n, hm.symm⟩

set_option maxRecDepth 100000 in
set_option maxHeartbeats 800000 in
theorem same_pred (K : FuncId) (f : List Int → Int) {A n c vs xss} (w0 : World) (bt bd : Nat) (h : FunL K (· ∈ xss) f) (hr : RS w0 A n vs xss) (hb1 : bt < w0.heap.size) (hb2 : bd < w0.heap.size) (hT : w0.cell? ⟨bt, 0, none⟩ = some (.slice A n c)) (hK : w0.cell? ⟨bd, 0, none⟩ = some (.func (.func K) #[] #[])) :
    PredL 59 #[.pointer (some ⟨bd, 0, none⟩), .pointer (some ⟨bt, 0, none⟩)] w0 (· ∈ xss) (fun x => decide (f x = f (xss.getD 0 []))) := by
  refine ⟨Tryd.call59, fun A1 n1 c1 x w1 hx hD hbw => ?_⟩
  show Calls Tryd.prog 59 #[.slice A1 n1 c1, .pointer (some ⟨bd, 0, none⟩), .pointer (some ⟨bt, 0, none⟩)] w1 _
  have hn : 0 < n := by
    rcases Nat.eq_zero_or_pos n with h0 | h0
    · have := hr.len; rw [h0] at this; rw [List.length_eq_zero_iff.1 this] at hD; cases hD
    · exact h0
  have hl := hr.len
  have hcT := (hbw.cell (p := ⟨bt, 0, none⟩) hb1).trans hT
  have hcK := (hbw.cell (p := ⟨bd, 0, none⟩) hb2).trans hK
  have hr1 := hr.below hbw
  obtain ⟨b, off, rfl, _, hc0⟩ := hr1.at_ hn
  have hrow := hr1.row hn
  have hm0 := getD_memS xss 0 (by omega)
  generalize xss.getD 0 [] = y at *
  generalize vs.getD 0 nilS = v at *
  obtain ⟨vA, vn, vc⟩ := v
  simp only [sv, Nat.add_zero] at hc0
  simp only at hrow
  have he := h.enter
  have hn' : (0 : Int) < (n : Int) := by omega
  have C1 := Lib.hid (fun q => h.call A1 n1 c1 x (w1.drewN q) (hx.below (below_drewN (Below.refl _ _) q)) hD)
  have C2 := Lib.hid (fun q => h.call vA vn vc y (w1.drewN q) (hrow.below (below_drewN (Below.refl _ _) q)) hm0)
  clear h hr hr1 hbw hrow hx hT hK hl
  by_cases hfe : f x = f y
  · rw [decide_eq_true hfe]
    rw [hfe] at C1
    generalize f y = r at *
    go_enter Tryd.func59, Tryd.ntmps59
    go_wp2_with fail
    go_quiet ((first | exact quiet_lefts (C1.out _) | exact quiet_lefts (C2.out _)))
    go_wp2
    go_ret
    exact ⟨rfl, below_drewN (Below.refl _ _) _⟩
  · rw [decide_eq_false hfe]
    have hne : (f x == f y) = false := by rw [beq_eq_false_iff_ne]; exact hfe
    generalize f x = s at *
    generalize f y = r at *
    go_enter Tryd.func59, Tryd.ntmps59
    go_wp2_with fail
    go_quiet ((first | exact quiet_lefts (C1.out _) | exact quiet_lefts (C2.out _)))
    go_wp2
    go_ret
    exact ⟨rfl, below_drewN (Below.refl _ _) _⟩

theorem impl_sameDegree (K : FuncId) (f : List Int → Int) {A n c vs xss w} (h : FunL K (· ∈ xss) f) (hr : RS w A n vs xss) :
    Calls Tryd.prog 38 #[.slice A n c, .func (.func K) #[] #[]] w fun e w' => e = .returned (.bool (sameB f xss)) ∧ Below w.heap.size w w' := by
  have hmf : ∀ (fn : Fn) (first cap : Array Value) (w : World), (Instr.makeFunc fn first cap).run Tryd.prog w = .ok (.func fn first cap) w := fun _ _ _ _ => rfl
  have hb1 := box_below w (.cells #[.slice A n c] 22)
  have hb2 := hb1.trans ((box_below (w.alloc (.cells #[.slice A n c] 22)) (.cells #[.func (.func K) #[] #[]] 53)).mono hb1.size)
  have k0 := Blk.new w #[.slice A n c] 22
  have k1 := Blk.new (w.alloc (.cells #[.slice A n c] 22)) #[.func (.func K) #[] #[]] 53
  have k0' := k0.alloc (.cells #[.func (.func K) #[] #[]] 53)
  have CON := Lib.hid (allS_any (c := c) _ _ _ _ A n vs xss _ (same_pred K f (c := c) _ w.heap.size (w.alloc (.cells #[.slice A n c] 22)).heap.size h (hr.below hb2) k0'.lt k1.lt (k0'.cell 0 rfl) (k1.cell 0 rfl)) (hr.below hb2) (fun _ hx => hx))
  have HB := Lib.hid hb2
  clear h hr k0 k1 k0' hb1 hb2
  rw [show (w.alloc (.cells #[.slice A n c] 22)).heap.size = w.heap.size + 1 by simp] at CON
  go_enter Tryd.func38, Tryd.ntmps38
  go_wp2_with fail
  refine CON.out.mono ?_
  rintro e w1 ⟨rfl, hb⟩
  have HB1 := Lib.hid (HB.out.trans (hb.mono HB.out.size))
  clear hb
  go_wp2
  go_ret
  exact ⟨rfl, HB1.out⟩

end Go.Proofs.YtijdlejngdhpjaaDoor
