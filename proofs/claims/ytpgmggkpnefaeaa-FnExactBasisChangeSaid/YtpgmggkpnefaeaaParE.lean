/- The program's partitions: what the closure does. -/
import Derived.Test.YtpgmggkpnefaeaaParI
import Derived.Test.YtpgmggkpnefaeaaTrim
namespace Go.Proofs.Ytpgmggkpnefaeaa
open Go.ChangeShapes Go.WideShapes Go.ChangeAt Go.RowKit
set_option linter.unusedVariables false

/-- what the closure leaves: the lists X in the variable bo -/
def ExtPost (w : World) (B bo : Nat) (A : Option Addr) (X : List (List Int)) (e : Ending) (w' : World) : Prop :=
  ∃ A' m' c' vs', e = .returned (.tuple #[]) ∧ Blk w' bo 22 #[.slice A' m' c'] ∧ OwnS w' B A' m' c' vs' X ∧ GrewB w bo (A.map (·.block)) w' ∧ (A'.map (·.block) = A.map (·.block) ∨ ∀ k, A'.map (·.block) = some k → w.heap.size ≤ k)

theorem OwnS.drew {w B A n c vs xss} (h : OwnS w B A n c vs xss) : OwnS w.drew B A n c vs xss := h

theorem Blk.drew1 {w b t vs} (h : Blk w b t vs) : Blk w.drew b t vs := h

def extV (bo be : Nat) : Value := .func (.func 99) #[] #[.pointer (some ⟨bo, 0, none⟩), .pointer (some ⟨be, 0, none⟩)]

set_option maxRecDepth 100000 in
set_option maxHeartbeats 4000000 in
theorem ext_par (f : Nat) : ∀ (left part : Nat) (R : Option Addr) (n c : Nat) (r : List Int) (A : Option Addr) (m ca : Nat) (vs : List Sl) (acc : List (List Int)) (B L bo be : Nat) (w : World), left ≤ 40 → f + n = 6 → part + 1 = 2 ^ (n + 1) →
    OwnI w L R n c r → Blk w bo 22 #[.slice A m ca] → Blk w be 85 #[extV bo be] → OwnS w B A m ca vs acc → InS A m vs L → bo ≠ be → bo < L → be < L → B ≤ L → L ≤ w.heap.size → acc.length + (prtF (f + 1) left part).length ≤ 1099511627776 →
    Calls Try.prog 99 #[.slice R n c, .int .i64 (left : Int), .int .i64 (part : Int), .pointer (some ⟨bo, 0, none⟩), .pointer (some ⟨be, 0, none⟩)] w (ExtPost w B bo A (acc ++ (prtF (f + 1) left part).map (fun x => r ++ x))) := by
  induction f using Nat.strongRecOn with
  | _ f ih =>
    intro left part R n c r A m ca vs acc B L bo be w hd hns hpt hr hbo hbe hacc hin hbb hboL hbeL hBL hLw hbd
    have IH := Lib.hid ih
    have HR := Lib.hid hr
    have HBO := Lib.hid hbo
    have HBE := Lib.hid hbe
    have HACC := Lib.hid hacc
    have HIN := Lib.hid hin
    have HBD := Lib.hid hbd
    have HPT := Lib.hid hpt
    have hm := hacc.len
    have hcap := hr.cap_ge
    have hp1 : 1 ≤ part := by have : 2 ^ 1 ≤ 2 ^ (n + 1) := Nat.pow_le_pow_right (by omega) (by omega); omega
    have hp127 : part ≤ 127 := by have : 2 ^ (n + 1) ≤ 2 ^ 7 := Nat.pow_le_pow_right (by omega) (by omega); omega
    clear ih hr hbo hbe hacc hin hbd hpt
    rcases Nat.eq_zero_or_pos left with rfl | hpos
    · have HF := Lib.hid (show acc ++ (prtF (f + 1) 0 part).map (fun x => r ++ x) = acc ++ [r] by rw [prtF_zero]; simp)
      have hn40 : m ≤ 1099511627776 := by have := HBD.out; omega
      have k0 := HBO.out.cell 0 (v := .slice A m ca) rfl
      have f0 := HBO.out.free 0
      have HAP := Lib.hid (blk_apartS HBO.out HACC.out (by decide))
      have hbl := HBO.out.lt
      have CC := Lib.hid (fun w1 (hb : Below w.heap.size w w1) => impl_copy R n c r w1 (HR.out.reads.below hb) (by omega))
      go_enter Try.func99, Try.ntmps99
      go_wp2_with fail
      go_region_law ((first | (refine step_app1D _ _ B A m ca vs acc (A1, n, c1) r _ w4.heap.size (by rfl) (by rfl) (by rfl) (by rfl) (HAC4.out.alloc _).drew (HO4.out.alloc _).drew (cell_new _ _ _) HDIS.out hn40 (size_new_le _ _ HB4S.out) ?_; intro g c9 w9 ho9 hg9 hat9; have HO9 := Lib.hid ho9; have HGB := Lib.hid (show GrewB w bo (A.map (·.block)) w9 from by first | exact (GrewB.of_below (HW4.out.alloc HW4.out.size _)).step (GrewB.of_grown hg9) (.inl rfl) | exact (GrewB.of_below ((HW4.out.alloc HW4.out.size _).drew)).step (GrewB.of_grown hg9) (.inl rfl)); have HAT9 := Lib.hid (show (some (⟨g, 0, none⟩ : Addr)).map (·.block) = A.map (·.block) ∨ ∀ k, (some (⟨g, 0, none⟩ : Addr)).map (·.block) = some k → w.heap.size ≤ k from hat9.elim (fun h => .inl h.symm) (fun h => .inr (fun k hk => by have e1 : g = k := (by simpa using hk); have h2 : w4.heap.size ≤ g := (by first | exact Nat.le_trans (Nat.le_of_lt (size_new w4 _)) h | exact Nat.le_trans (box_below w4 _).size h); have h3 := HW4.out.size; omega))); have HBO9 := Lib.hid (Blk.grewB (by exact (HBO4.out.alloc _).drew1) (GrewB.of_grown (bo := w4.heap.size + 1) hg9) (by omega) HAP.out); have k0 := HBO9.out.cell 0 (v := .slice A m ca) rfl; have f0 := HBO9.out.free 0; clear ho9 hg9 hat9) | (go_simp; go_at_call 100; refine (CC.out _ (by exact ⟨rfl, rfl, rfl, Nat.le_refl _, fun _ _ => rfl⟩)).mono ?_; rintro e w4 ⟨A1, c1, rfl, ho4, hb4⟩; have HW4 := Lib.hid (show Below w.heap.size w w4 from ⟨hb4.os, hb4.tape, hb4.output, hb4.size, hb4.block⟩); have HO4 := Lib.hid (show OwnI w4 B A1 n c1 r from (show OwnI w4 w.heap.size A1 n c1 r from ho4).mono (by omega)); have HDIS := Lib.hid (show ∀ i, i < m → ∀ k, (vs.getD i nilS).1.map (·.block) = some k → A1.map (·.block) ≠ some k from fun i hi k hk hk2 => by have h1 := HIN.out.2 i hi k hk; have h2 := (show OwnI w4 w.heap.size A1 n c1 r from ho4).row_ge hk2; omega); have HAC4 := Lib.hid (HACC.out.below HW4.out); have HB4S := Lib.hid (show B ≤ w4.heap.size by have := HW4.out.size; omega); have HBO4 := Lib.hid (HBO.out.below HW4.out); have k0 := HBO4.out.cell 0 (v := .slice A m ca) rfl; have f0 := HBO4.out.free 0; have hbl := HBO4.out.lt; clear ho4 hb4; dsimp only)))
      all_goals (
        have HO10 := Lib.hid (HO9.out.setBox HBO9.out (by decide) (by decide) 0 (.slice (some ⟨g, 0, none⟩) (m + 1) c9))
        have HBO10 := Lib.hid (HBO9.out.set 0 (.slice (some ⟨g, 0, none⟩) (m + 1) c9))
        have HGB10 := Lib.hid (HGB.out.set 0 (.slice (some ⟨g, 0, none⟩) (m + 1) c9))
        clear k0 f0
        go_wp2
        refine bodyPost_ret (v := .tuple #[]) (by simp [results, Try.results99, go_sem]) rfl ?_
        exact ⟨_, _, _, _, rfl, HBO10.out, by rw [HF.out]; exact HO10.out, HGB10.out, HAT9.out⟩)
    · have hz : ((left : Int) == 0) = false := by rw [beq_eq_false_iff_ne]; omega
      by_cases hlp : left < part
      · have HF := Lib.hid (show acc ++ (prtF (f + 1) left part).map (fun x => r ++ x) = acc by rw [prtF_stop f left part (by omega) hlp]; simp)
        have hlp' : (left : Int) < (part : Int) := by omega
        go_enter Try.func99, Try.ntmps99
        go_wp2
        refine bodyPost_ret (v := .tuple #[]) (by simp [results, Try.results99, go_sem]) rfl ?_
        exact ⟨_, _, _, _, rfl, HBO.out, by rw [HF.out]; exact HACC.out, GrewB.refl _ _ _, .inl rfl⟩
      · have hle : part ≤ left := by omega
        have hns4 := par_ns HPT.out hle hd
        obtain ⟨f', rfl⟩ : ∃ f', f = f' + 1 + 1 := ⟨f - 2, by omega⟩
        have HGO := Lib.hid (prtF_go (f' + 1 + 1) left part (by omega) hle)
        generalize hge : (fun n => (prtF (f' + 1 + 1) (left - n * part) (2 * part + 1)).map ((n : Int) :: ·)) = g at HGO
        have HGE := Lib.hid hge
        have hlpb : decide (left < part) = false := decide_eq_false hlp
        have hlpn : ¬ left < part := hlp
        have hnone : R = none → n = 0 := fun e => by
          rcases Nat.eq_zero_or_pos n with h | h
          · exact h
          · obtain ⟨g2, h2, _⟩ := HR.out.form h
            rw [e] at h2; cases h2
        have HN := Lib.hid hnone
        have he := Try.call99
        clear hge hlp hnone
        go_enter Try.func99, Try.ntmps99
        go_wp2
        go_loopw [8] (fun p wr => ∃ (q : Nat) (A2 : Option Addr) (m2 ca2 : Nat) (vs2 : List Sl) (acc2 : List (List Int)), q ≤ left / part + 1 ∧ p = .int .i64 (q : Int) ∧ Blk wr bo 22 #[.slice A2 m2 ca2] ∧ Blk wr be 85 #[extV bo be] ∧ OwnS wr B A2 m2 ca2 vs2 acc2 ∧ acc2 ++ (prtL g (left / part + 1) q).map (fun x => r ++ x) = acc ++ (prtF (f' + 1 + 1 + 1) left part).map (fun x => r ++ x) ∧ OwnI wr L R n c r ∧ GrewB w bo (A.map (·.block)) wr ∧ (A2.map (·.block) = A.map (·.block) ∨ ∀ k, A2.map (·.block) = some k → w.heap.size ≤ k)) (fun p _ => left + 2 - (intOf p).toNat)
        case atStart => exact ⟨0, _, _, _, _, _, Nat.zero_le _, rfl, HBO.out, HBE.out, HACC.out, by rw [HGO.out], HR.out, GrewB.refl _ _ _, .inl rfl⟩
        case round =>
          obtain ⟨q, A2, m2, ca2, vs2, acc2, hq, rfl, hbo, hbe, ho, ht, hr, hg, hat⟩ := hrel
          have HBO2 := Lib.hid hbo
          have HBE2 := Lib.hid hbe
          have HO := Lib.hid ho
          have HT := Lib.hid ht
          have HRR := Lib.hid hr
          have HG := Lib.hid hg
          have HAT := Lib.hid hat
          have hrb := par_bound hp1 hq
          have hrl := par_le hp1 hq
          have hlt := par_lt (r := q) (left := left) hp1
          have hmul : (q : Int) * (part : Int) = ((q * part : Nat) : Int) := by simp
          have HGR := Lib.hid (show g q = (prtF (f' + 1 + 1) (left - q * part) (2 * part + 1)).map ((q : Int) :: ·) by rw [← HGE.out])
          have HPM := Lib.hid (par_mapmap q r (prtF (f' + 1 + 1) (left - q * part) (2 * part + 1)))
          clear hbo hbe ho ht hr hg hat
          generalize left / part + 1 = N at *
          generalize q * part = P at *
          by_cases hgo : P ≤ left
          · have hrN := hlt.2 hgo
            have hgo' : (P : Int) ≤ (left : Int) := by omega
            have ht := HT.out
            rw [prtL_step g N q hrN, List.map_append, ← List.append_assoc, HGR.out, HPM.out] at ht
            have hlen : acc2.length + (prtF (f' + 1 + 1) (left - P) (2 * part + 1)).length ≤ 1099511627776 := by
              have h1 := congrArg List.length ht
              have h2 := HBD.out
              simp only [List.length_append, List.length_map] at h1
              omega
            have HT2 := Lib.hid ht
            have HLEN := Lib.hid hlen
            have hLr : L ≤ wr.heap.size := Nat.le_trans hLw HG.out.size
            have hm2 := HO.out.len
            have e1 : IntKind.i64.wrap ((q : Int) * (part : Int)) = (P : Int) := by rw [hmul, IntWalk.i64_left]; exact wrap64_id (by omega) (by omega)
            have e5 : IntKind.i64.wrap (P : Int) = (P : Int) := by rw [IntWalk.i64_left]; exact wrap64_id (by omega) (by omega)
            have e2 : IntKind.i64.wrap ((left : Int) - (P : Int)) = (left : Int) - (P : Int) := by rw [IntWalk.i64_left]; exact wrap64_id (by omega) (by omega)
            have e3 : IntKind.i64.wrap (2 * (part : Int)) = 2 * (part : Int) := by rw [IntWalk.i64_left]; exact wrap64_id (by omega) (by omega)
            have e4 : IntKind.i64.wrap (2 * (part : Int) + 1) = 2 * (part : Int) + 1 := by rw [IntWalk.i64_left]; exact wrap64_id (by omega) (by omega)
            have ke := HBE2.out.cell 0 (v := .func (.func 99) #[] #[.pointer (some ⟨bo, 0, none⟩), .pointer (some ⟨be, 0, none⟩)]) rfl
            have hbel := HBE2.out.lt
            have CI := fun (wx : World) (g9 c9 : Nat) (hb : Below wr.heap.size wr wx) (ho : OwnI wx wr.heap.size (some ⟨g9, 0, none⟩) (n + 1) c9 (r ++ [(q : Int)])) => IH.out (f' + 1) (by omega) (left - P) (2 * part + 1) (some ⟨g9, 0, none⟩) (n + 1) c9 (r ++ [(q : Int)]) A2 m2 ca2 vs2 acc2 B wr.heap.size bo be wx (by omega) (by omega) (by have := HPT.out; rw [Nat.pow_succ]; omega) ho (HBO2.out.below hb) (HBE2.out.below hb) (HO.out.below hb) HO.out.inS hbb (by have := HBO2.out.lt; omega) (by have := HBE2.out.lt; omega) (Nat.le_trans hBL hLr) hb.size HLEN.out
            rw [show ((left - P : Nat) : Int) = (left : Int) - (P : Int) by omega, show ((2 * part + 1 : Nat) : Int) = 2 * (part : Int) + 1 by omega] at CI
            have CI := Lib.hid CI
            clear ht hlt hlen
            go_wp2_with fail
            go_region_law ((first | (refine step_appG _ _ R n r (q : Int) _ wr.heap.size (by rfl) (by rfl) (by rfl) (by rfl) (by first | exact HRR.out.reads.below (box_below wr _).drew | exact HRR.out.reads.below (box_below wr _)) HN.out (cell_new _ _ _) (I64.mk (by omega) (by omega)) (by omega) ?_; intro g9 c9 w9 ho9 hb9; have HB9 := Lib.hid (show Below wr.heap.size wr w9 from (box_below wr _).trans ((show Below (wr.alloc _).heap.size (wr.alloc _) w9 from ⟨hb9.os, hb9.tape, hb9.output, hb9.size, hb9.block⟩).mono (box_below wr _).size)); have HO9 := Lib.hid (OwnI.mono (B' := wr.heap.size) ho9 (size_new_le _ _ (Nat.le_refl _))); have HBE9 := Lib.hid (HBE2.out.below HB9.out); have ke := HBE9.out.cell 0 (v := .func (.func 99) #[] #[.pointer (some ⟨bo, 0, none⟩), .pointer (some ⟨be, 0, none⟩)]) rfl; clear ho9 hb9) | (go_simp; go_at_call 99; refine (CI.out _ g9 c9 (by first | exact HB9.out | exact HB9.out.drew) (by exact HO9.out)).mono ?_; rintro e w5 ⟨A5, m5, c5, vs5, rfl, hbo5, ho5, hg5, hat5⟩; have HBO5 := Lib.hid hbo5; have HO5 := Lib.hid ho5; have HAT5 := Lib.hid hat5; have HG5 := Lib.hid (show GrewB w9 bo (A2.map (·.block)) w5 from ⟨hg5.os, hg5.tape, hg5.output, hg5.size, hg5.block⟩); clear hbo5 ho5 hg5 hat5; dsimp only)))
            all_goals (
              have HBE5 := Lib.hid (HBE9.out.grewB HG5.out (fun e => hbb e.symm) (blk_apartS HBE9.out (HO.out.below HB9.out) (by decide)))
              have HR5 := Lib.hid ((HRR.out.below HB9.out).kept_out2 (HO.out.below HB9.out) HG5.out (by omega))
              have HGT := Lib.hid ((HG.out.then_below HB9.out).step HG5.out HAT.out)
              have HATT := Lib.hid (show A5.map (·.block) = A.map (·.block) ∨ ∀ k, A5.map (·.block) = some k → w.heap.size ≤ k from by
                rcases HAT5.out with h | h
                · rcases HAT.out with h2 | h2
                  · exact .inl (h.trans h2)
                  · exact .inr (fun k hk => h2 k (h ▸ hk))
                · exact .inr (fun k hk => Nat.le_trans (Nat.le_trans HG.out.size HB9.out.size) (h k hk)))
              clear e1 e2 e3 e4 e5 ke
              go_wp2
              go_roundw
              case rel => exact ⟨q + 1, _, _, _, _, _, by omega, by go_num, HBO5.out, HBE5.out, HO5.out, HT2.out, HR5.out, HGT.out, HATT.out⟩
              case measure => simp [intOf]; omega)
          · have hend : N ≤ q := by
              rcases Nat.lt_or_ge q N with h | h
              · exact absurd (hlt.1 h) hgo
              · exact h
            have hgo' : (left : Int) < (P : Int) := by omega
            have ht := HT.out
            rw [prtL_end g N q hend, List.map_nil, List.append_nil] at ht
            have HO2 := Lib.hid (show OwnS wr B A2 m2 ca2 vs2 (acc ++ (prtF (f' + 1 + 1 + 1) left part).map (fun x => r ++ x)) by rw [← ht]; exact HO.out)
            clear ht HT HO hlt
            go_wp2
            refine bodyPost_ret (v := .tuple #[]) (by simp [results, Try.results99, go_sem]) rfl ?_
            exact ⟨_, _, _, _, rfl, HBO2.out, HO2.out, HG.out, HAT.out⟩

end Go.Proofs.Ytpgmggkpnefaeaa
