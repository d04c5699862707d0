/- The reference's l01Value: the number that a decimal spells, or -1. -/
import Derived.Test.YtijdlejngdhpjaaDoorSplS
namespace Go.Proofs.YtijdlejngdhpjaaDoor
open Go.ChangeShapes Go.WideShapes Go.ChangeAt Go.RowKit Go.Proofs
set_option linter.unusedVariables false

theorem valGo_at (v : Nat) (l : List UInt8) (i : Nat) (c : UInt8) (hc : l[i]? = some c) : valGo v (l.drop i) = if c.toNat < 48 ∨ 57 < c.toNat then none else valGo (v * 10 + (c.toNat - 48)) (l.drop (i + 1)) := by
  have hi : i < l.length := (List.getElem?_eq_some_iff.1 hc).1
  rw [List.drop_eq_getElem_cons hi, (List.getElem?_eq_some_iff.1 hc).2, valGo]

set_option maxHeartbeats 1600000 in
theorem spec_l01Value (l : List UInt8) (w : World) (hl : l.length ≤ 1048576) :
    Calls Tryd.prog 28 #[.string (sB l)] w fun e w' => e = .returned (.int .i64 (valL l)) ∧ w' = w := by
  have hs : (sB l).size = l.length := sB_size l
  by_cases h0 : l.length = 0
  · have e : l = [] := List.eq_nil_of_length_eq_zero h0
    subst e
    clear h0
    go_enter Tryd.func28, Tryd.ntmps28
    go_wp2
    go_ret
    exact ⟨rfl, rfl⟩
  · have h0' : ((l.length : Int) == 0) = false := by rw [beq_eq_false_iff_ne]; omega
    by_cases h9 : 9 < l.length
    · have HF := Lib.hid (show valL l = -1 by unfold valL; rw [if_pos (.inr (.inl h9))])
      have h9' : (9 : Int) < (l.length : Int) := by omega
      go_enter Tryd.func28, Tryd.ntmps28
      go_wp2
      go_ret
      exact ⟨by first | (rw [HF.out]; rfl) | rw [HF.out], rfl⟩
    · have h9' : ¬ (9 : Int) < (l.length : Int) := by omega
      obtain ⟨c0, hc0⟩ : ∃ c0, l[0]? = some c0 := ⟨l[0], List.getElem?_eq_getElem (by omega)⟩
      have hhead : l.headD 0 = c0 := by
        cases l with
        | nil => simp at h0
        | cons a t => simpa using hc0
      have hget0 : ∀ (h : 0 < (sB l).size), (sB l)[0]'h = c0 := fun h => by
        have h1 : (sB l)[0]'h = l[0]'(by omega) := rfl
        rw [h1]
        exact (List.getElem?_eq_some_iff.1 hc0).2
      clear hc0
      by_cases h1 : 1 < l.length ∧ c0 = 48
      · have HF := Lib.hid (show valL l = -1 by unfold valL; rw [if_pos (.inr (.inr ⟨h1.1, hhead.trans h1.2⟩))])
        have h1' : (1 : Int) < (l.length : Int) := by omega
        have hq : ((c0.toNat : Int) == 48) = true := by rw [h1.2]; rfl
        have hlen := h1.1
        clear h1 hhead
        go_enter Tryd.func28, Tryd.ntmps28
        go_wp2
        go_ret
        exact ⟨by first | (rw [HF.out]; rfl) | rw [HF.out], rfl⟩
      · have HF := Lib.hid (show valL l = match valGo 0 l with | none => -1 | some n => (n : Int) by
          unfold valL
          rw [if_neg (fun e => e.elim h0 (fun e => e.elim h9 (fun e => h1 ⟨e.1, hhead ▸ e.2⟩)))]
          cases valGo 0 l <;> rfl)
        have hq' : 1 < l.length → ((c0.toNat : Int) == 48) = false := fun h2 => by
          rw [beq_eq_false_iff_ne]
          intro e
          exact h1 ⟨h2, UInt8.toNat_inj.1 (by have : (48 : UInt8).toNat = 48 := rfl; omega)⟩
        by_cases h2 : 1 < l.length
        all_goals (
          first | (have h1' : (1 : Int) < (l.length : Int) := by omega) | skip
          first | (have h1' : ¬ (1 : Int) < (l.length : Int) := by omega) | skip
          first | (have hq := hq' h2) | skip
          clear hq'
          go_enter Tryd.func28, Tryd.ntmps28
          go_wp2
          clear hget0
          go_loopw [3, 4] (fun nv iv wr => ∃ (i v : Nat), i ≤ l.length ∧ iv = .int .i64 (i : Int) ∧ nv = .int .i64 (v : Int) ∧ v < 10 ^ i ∧ valGo 0 l = valGo v (l.drop i) ∧ wr = w) (fun _ iv _ => l.length - (intOf iv).toNat)
          case atStart => exact ⟨0, 0, Nat.zero_le _, rfl, rfl, by simp, rfl, rfl⟩
          case round =>
            obtain ⟨i, v, hi, rfl, rfl, hv, hgo, rfl⟩ := hrel
            have HGO := Lib.hid hgo
            have hp : 10 ^ i ≤ 10 ^ 9 := Nat.pow_le_pow_right (by omega) (by omega)
            clear hgo
            by_cases hlt : i < l.length
            · have hlt' : (i : Int) < (l.length : Int) := by omega
              have hp8 : 10 ^ i ≤ 10 ^ 8 := Nat.pow_le_pow_right (by omega) (by omega)
              have HPS := Lib.hid (show 10 ^ (i + 1) = 10 ^ i * 10 from Nat.pow_succ ..)
              obtain ⟨c1, hc1⟩ : ∃ c1, l[i]? = some c1 := ⟨l[i], List.getElem?_eq_getElem hlt⟩
              have hget : ∀ (h : i < (sB l).size), (sB l)[i]'h = c1 := fun h => by
                have h3 : (sB l)[i]'h = l[i] := rfl
                rw [h3]
                exact (List.getElem?_eq_some_iff.1 hc1).2
              have HG := Lib.hid (valGo_at v l i c1 hc1)
              clear hc1
              have hv8 : v < 100000000 := by omega
              by_cases hd : c1.toNat < 48 ∨ 57 < c1.toNat
              · have HF2 := Lib.hid (show valL l = -1 by rw [HF.out, HGO.out, HG.out, if_pos hd])
                have hlow : (c1.toNat : Int) < 48 ∨ ¬ (c1.toNat : Int) < 48 := by omega
                rcases hlow with hlow | hlow
                · go_wp2
                  go_ret
                  exact ⟨by first | (rw [HF2.out]; rfl) | rw [HF2.out], rfl⟩
                · have hhi : (57 : Int) < (c1.toNat : Int) := by omega
                  go_wp2
                  go_ret
                  exact ⟨by first | (rw [HF2.out]; rfl) | rw [HF2.out], rfl⟩
              · have hlow : ¬ (c1.toNat : Int) < 48 := by omega
                have hhi : ¬ (57 : Int) < (c1.toNat : Int) := by omega
                have hN := HG.out
                rw [if_neg hd] at hN
                have HN := Lib.hid hN
                have e1 : IntKind.u8.wrap ((c1.toNat : Int) - 48) = (c1.toNat : Int) - 48 := by simp [IntKind.wrap, IntKind.bits, IntKind.signed]; omega
                have hvb : v * 10 + (c1.toNat - 48) < 10 ^ (i + 1) := by rw [HPS.out]; omega
                have hcast : ((v * 10 + (c1.toNat - 48) : Nat) : Int) = (v : Int) * 10 + ((c1.toNat : Int) - 48) := by omega
                clear hN
                go_wp2
                go_roundw
                case rel => exact ⟨i + 1, v * 10 + (c1.toNat - 48), by omega, by go_num, by rw [hcast], hvb, by rw [HGO.out, HN.out], trivial⟩
                case measure => simp [intOf]; omega
            · obtain rfl : i = l.length := by omega
              have HF2 := Lib.hid (show valL l = (v : Int) by rw [HF.out, HGO.out, List.drop_length]; rfl)
              go_wp2
              go_ret
              exact ⟨by first | (rw [HF2.out]; rfl) | rw [HF2.out], rfl⟩)

end Go.Proofs.YtijdlejngdhpjaaDoor
