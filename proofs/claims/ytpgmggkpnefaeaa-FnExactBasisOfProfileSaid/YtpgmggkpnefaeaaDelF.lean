/- BasisOfProfile of the program: the function as a whole. -/
import Derived.Test.YtpgmggkpnefaeaaDel
namespace Go.Proofs.Ytpgmggkpnefaeaa
open Go.ChangeShapes Go.WideShapes Go.ChangeAt Go.RowKit
set_option linter.unusedVariables false

theorem par_pos' (d : Nat) (hd : d ≤ 40) : 0 < (parL d).length := of_decide_eq_true (List.all_eq_true.1 par_pos d (List.mem_range.2 (by omega)))

set_option maxHeartbeats 1000000 in
theorem impl_BasisOfProfile {A' n' c' hs} {d : Int} {w} (g : RI w A' n' hs) (gn : n' ≤ 1048576) (hd : I64 d) :
    Calls Try.prog 50 #[.slice A' n' c', .int .i64 d] w fun e w' => ∃ A n c vs, e = .returned (.tuple #[.slice A n c, .int .i64 (pBasisOfProfile hs d).2]) ∧ OwnS w' w.heap.size A n c vs (pBasisOfProfile hs d).1 ∧ Below w.heap.size w w' := by
  have hmf : ∀ (fn : Fn) (first cap : Array Value) (w : World), (Instr.makeFunc fn first cap).run Try.prog w = .ok (.func fn first cap) w := fun _ _ _ _ => rfl
  have hb0 := box_below w (.cells #[.slice A' n' c'] 51)
  have hbk := Blk.new w #[.slice A' n' c'] 51
  have hz : (w.alloc (.cells #[.slice A' n' c'] 51)).heap.size = w.heap.size + 1 := by simp
  have CI := Lib.hid (impl_IsProfile A' n' c' hs _ (g.below hb0) gn)
  have G := Lib.hid (g.below hb0)
  have HB0 := Lib.hid hb0
  have HBK := Lib.hid hbk
  have HZ := Lib.hid hz
  have c0 := hbk.cell 0 rfl
  clear g hd hb0 hbk hz
  cases hp : pIsProfile hs with
  | false =>
    have HF := Lib.hid (show pBasisOfProfile hs d = ([], 1) by unfold pBasisOfProfile; rw [hp]; rfl)
    rw [hp] at CI
    clear hp
    go_enter Try.func50, Try.ntmps50
    go_wp2_with fail
    refine CI.out.mono ?_
    rintro e w1 ⟨rfl, hb⟩
    have HB := Lib.hid (HB0.out.trans (hb.mono HB0.out.size))
    clear hb
    go_wp2
    go_ret2
    exact ⟨none, 0, 0, [], by first | (rw [HF.out]; rfl) | rw [HF.out], by rw [HF.out]; exact OwnS.nil _ _, HB.out⟩
  | true =>
    have HPT := Lib.hid (pIsProfile_true hp).2
    cases h1 : inB d 0 40 with
    | false =>
      have HF := Lib.hid (show pBasisOfProfile hs d = ([], 2) by unfold pBasisOfProfile; rw [hp, h1]; rfl)
      have HK := Lib.hid h1
      rw [hp] at CI
      clear hp h1
      go_enter Try.func50, Try.ntmps50
      go_wp2_with fail
      refine CI.out.mono ?_
      rintro e w1 ⟨rfl, hb⟩
      have HB := Lib.hid (HB0.out.trans (hb.mono HB0.out.size))
      clear hb
      go_wp2_with fail
      refine (isDegree_any _ _).mono ?_
      rintro e w1 ⟨rfl, rfl⟩
      rw [HK.out]
      go_wp2
      go_ret2
      exact ⟨none, 0, 0, [], by first | (rw [HF.out]; rfl) | rw [HF.out], by rw [HF.out]; exact OwnS.nil _ _, HB.out⟩
    | true =>
      have h1b := inB_true h1
      have HK := Lib.hid h1
      obtain ⟨k, rfl⟩ := Int.eq_ofNat_of_zero_le h1b.1
      have hk : k ≤ 40 := by omega
      have HF := Lib.hid (show pBasisOfProfile hs (k : Int) = ((parL k).filter (inW hs 0), 0) by unfold pBasisOfProfile; rw [hp, h1, Int.toNat_natCast]; rfl)
      have CP := Lib.hid (fun w1 => impl_partitions (d := k) (w := w1) hk)
      have HPF := Lib.hid (par_facts k hk).1
      have HPP := Lib.hid (par_pos' k hk)
      have HSM := Lib.hid (par_small k hk)
      rw [hp] at CI
      clear hp h1 h1b
      go_enter Try.func50, Try.ntmps50
      go_wp2_with fail
      generalize w.alloc (.cells #[.slice A' n' c'] 51) = W0 at *
      refine CI.out.mono ?_
      rintro e w1 ⟨rfl, hb1⟩
      have HB1 := Lib.hid hb1
      clear hb1 c0
      go_wp2_with fail
      refine (isDegree_any _ _).mono ?_
      rintro e w1 ⟨rfl, rfl⟩
      rw [HK.out]
      go_wp2_with fail
      refine (CP.out _).mono ?_
      rintro e w2 ⟨A, n, c, vs, rfl, ho, hb⟩
      have hol := ho.len
      have hw2 := HB1.out.trans (hb.mono HB1.out.size)
      have CD := Lib.hid (del_rows (c := c) (by have := HPP.out; omega) (by have := HPF.out; omega) ho HSM.out (G.out.below hw2) HPT.out (HBK.out.below hw2) rfl (by have := HZ.out; have := HB1.out.size; omega))
      have HO := Lib.hid ho
      have HB2 := Lib.hid hw2
      have HSZ := Lib.hid HB1.out.size
      clear ho hb hol hw2
      go_wp2_with fail
      refine CD.out.mono ?_
      rintro e w3 ⟨m, vs', rfl, ho3, hg3⟩
      have HO3 := Lib.hid (ho3.mono (by have := HZ.out; have := HSZ.out; omega : w.heap.size ≤ _))
      have HB3 := Lib.hid ((HB0.out.trans (HB2.out.mono HB0.out.size)).grown hg3 (HB0.out.trans (HB2.out.mono HB0.out.size)).size (fun k hk => by have := HO.out.out_ge hk; have := HZ.out; have := HSZ.out; omega))
      clear ho3 hg3
      go_wp2
      go_ret2
      exact ⟨A, m, c, vs', by first | (rw [HF.out]; rfl) | rw [HF.out], by rw [HF.out]; exact HO3.out, HB3.out⟩

end Go.Proofs.Ytpgmggkpnefaeaa
