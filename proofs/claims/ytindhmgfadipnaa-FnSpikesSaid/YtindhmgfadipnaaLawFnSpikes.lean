/- The statement on FnSpikes: for every input the call returns true, and each argument reads behind the call as it read before. No condition. The frame is written by a program of this repo after the kit's shell. -/
import Derived.Test.YtindhmgfadipnaaSpkF
import Derived.Test.YtindhmgfadipnaaLSpk
import Derived.Test.YtindhmgfadipnaaSpikes
import Derived.Test.YtindhmgfadipnaaCount
import Derived.Test.YtindhmgfadipnaaFrm
import Derived.Test.YtindhmgfadipnaaRows
import Derived.WalkKit
import Derived.ProofKit
import Derived.OpenShut
import Derived.ShutString
import Derived.ChangeOld
import Derived.Below
import Derived.Lib.SmallJoins
import Derived.Deep.RegionHeld3
import Derived.Deep.RegionWith
namespace Go.Proofs.Ytindhmgfadipnaa.fnSpikes
open Go.Joins Go.ChangeShapes Go.WideShapes Go.ChangeAt Go.RowKit
open Go.ChangeMaps (open_string shut_string)
set_option linter.unusedVariables false

theorem own : ownKnob Try.prog.godebug = none := by kernel_rfl
theorem laidOut : laidOutB Try.prog = true := by kernel_rfl

theorem getD_memS (xss : List (List Int)) (k : Nat) (h : k < xss.length) : xss.getD k [] ∈ xss := by simp [List.getD, h]

theorem getD_memI (xs : List Int) (k : Nat) (h : k < xs.length) : xs.getD k 0 ∈ xs := by simp [List.getD, h]

theorem inB_of {x a b : Int} (h1 : a ≤ x) (h2 : x ≤ b) : inB x a b = true := by simp [inB, h1, h2]

set_option maxRecDepth 100000 in
set_option maxHeartbeats 4000000 in
theorem walk (A : Option Addr) (n c : Nat) (w : World) (r0 : RB w A n) :
    Calls Try.prog 17 #[.slice A n c] w fun e w' => e = .returned (.bool true) ∧ Below w.heap.size w w' := by
  have hsn : n ≤ 9223372036854775807 := by have := r0.1; unfold maxLen at this; omega
  have HR := Lib.hid r0
  have CB := Lib.hid (big_any (A := A) (c := c) (w := w) hsn)
  clear r0 hsn
  by_cases hbig : 4096 < n
  · rw [decide_eq_true hbig] at CB
    clear hbig
    go_enter Try.func17, Try.ntmps17
    go_wp2_with fail
    refine CB.out.mono ?_
    rintro e w1 ⟨rfl, rfl⟩
    go_wp2
    go_ret
    exact ⟨rfl, Below.refl _ _⟩
  · rw [decide_eq_false hbig] at CB
    clear hbig
    go_enter Try.func17, Try.ntmps17
    go_wp2_with fail
    refine CB.out.mono ?_
    rintro e w1 ⟨rfl, rfl⟩
    go_wp2_with fail
    refine (spec_DrawSpikesOf HR.out).mono ?_
    rintro e w2 ⟨d, rfl, hd, hb⟩
    have HB2 := Lib.hid hb
    have HD := Lib.hid hd
    clear hb hd
    cases hin : inB d 0 40 with
    | false =>
      have HF := Lib.hid (show pSpikesOf d = ([], 2) by unfold pSpikesOf; rw [hin]; rfl)
      clear hin
      have CI := Lib.hid (fun w => impl_SpikesOf d w HD.out)
      have CS := Lib.hid (fun w => spec_SpikesOf d w HD.out)
      rw [HF.out] at CI CS
      go_wp2_with fail
      refine (CI.out _).mono ?_
      rintro e w3 ⟨A3, n3, c3, v3, rfl, ho, hb⟩
      have HB3 := Lib.hid (HB2.out.trans (hb.mono HB2.out.size))
      have HO3 := Lib.hid ho
      clear hb ho
      go_wp2_with fail
      refine (CS.out _).mono ?_
      rintro e w4 ⟨A4, n4, c4, v4, rfl, ho, hb⟩
      have HB4 := Lib.hid (HB3.out.trans (hb.mono HB3.out.size))
      have HO3b := Lib.hid (HO3.out.below hb)
      have HO4 := Lib.hid ho
      clear hb ho HO3
      obtain rfl : n3 = n4 := by rw [← HO3b.out.len, ← HO4.out.len]
      go_wp2_with fail
      refine (rows5_same _ _ _ _ _ _ _ _ _ HO3b.out.reads HO4.out.reads).mono ?_
      rintro e w5 ⟨rfl, hb⟩
      have HBZ := Lib.hid (HB4.out.trans (hb.mono HB4.out.size))
      clear hb
      go_wp2_with fail
      refine (spec_DrawLeastSpike (HR.out.below HBZ.out)).mono ?_
      rintro e w10 ⟨x, rfl, hx, hb⟩
      have HB10 := Lib.hid (HBZ.out.trans (hb.mono HBZ.out.size))
      have HX := Lib.hid hx
      clear hb hx
      generalize hpx : pLeastSpike x = px
      obtain ⟨p1, p2⟩ := px
      go_wp2_with fail
      refine (impl_LeastSpike x _ HX.out).mono ?_
      rw [hpx]
      rintro e w11 ⟨rfl, hb⟩
      have HB11 := Lib.hid (HB10.out.trans (hb.mono HB10.out.size))
      clear hb
      go_wp2_with fail
      refine (spec_LeastSpike x _ HX.out).mono ?_
      rw [hpx]
      rintro e w12 ⟨rfl, hb⟩
      have HB12 := Lib.hid (HB11.out.trans (hb.mono HB11.out.size))
      clear hb hpx
      go_wp2_with fail
      refine (spec_DrawCountPartitions (HR.out.below HB12.out)).mono ?_
      rintro e w13 ⟨y, rfl, hy, hb⟩
      have HB13 := Lib.hid (HB12.out.trans (hb.mono HB12.out.size))
      clear hb hy
      generalize hpy : cntR y = py
      obtain ⟨q1, q2⟩ := py
      go_wp2_with fail
      refine (impl_Cnt y _).mono ?_
      rw [hpy]
      rintro e w14 ⟨rfl, hb⟩
      have HB14 := Lib.hid (HB13.out.trans (hb.mono HB13.out.size))
      clear hb
      go_wp2_with fail
      refine (spec_Cnt y _).mono ?_
      rw [hpy]
      rintro e w15 ⟨rfl, hb⟩
      have HB15 := Lib.hid (HB14.out.trans (hb.mono HB14.out.size))
      clear hb hpy
      go_wp2
      go_ret
      exact ⟨rfl, HB15.out⟩
    | true =>
      have hdb := inB_true hin
      obtain ⟨D, rfl⟩ := Int.eq_ofNat_of_zero_le hdb.1
      have HF := Lib.hid (show pSpikesOf (D : Int) = (spk D D, 0) by unfold pSpikesOf; rw [if_pos hin, Int.toNat_natCast])
      have HL := Lib.hid (show pLeastSpike (D : Int) = ((lsF 41 D 0 : Int), 0) by unfold pLeastSpike; rw [if_pos (inB_of (by omega) (by omega)), Int.toNat_natCast])
      have hfa := spk_facts D (by omega)
      have hD40 : D ≤ 40 := by omega
      clear hin hdb
      have CI := Lib.hid (fun w => impl_SpikesOf (D : Int) w HD.out)
      have CS := Lib.hid (fun w => spec_SpikesOf (D : Int) w HD.out)
      have CL := Lib.hid (fun w => impl_LeastSpike (D : Int) w HD.out)
      rw [HF.out] at CI CS
      rw [HL.out] at CL
      clear HF HL
      generalize spk D D = X at *
      generalize lsF 41 D 0 = s at *
      have HFA := Lib.hid hfa.1
      have HANY := Lib.hid hfa.2
      clear hfa
      go_wp2_with fail
      refine (CI.out _).mono ?_
      rintro e w3 ⟨A3, n3, c3, v3, rfl, ho, hb⟩
      have HB3 := Lib.hid (HB2.out.trans (hb.mono HB2.out.size))
      have HO3 := Lib.hid ho
      clear hb ho
      go_wp2_with fail
      refine (CS.out _).mono ?_
      rintro e w4 ⟨A4, n4, c4, v4, rfl, ho, hb⟩
      have HB4 := Lib.hid (HB3.out.trans (hb.mono HB3.out.size))
      have HO3b := Lib.hid (HO3.out.below hb)
      have HO4 := Lib.hid ho
      clear hb ho HO3
      obtain rfl : n3 = n4 := by rw [← HO3b.out.len, ← HO4.out.len]
      go_wp2_with fail
      refine (rows5_same _ _ _ _ _ _ _ _ _ HO3b.out.reads HO4.out.reads).mono ?_
      rintro e w5 ⟨rfl, hb⟩
      have HB5 := Lib.hid (HB4.out.trans (hb.mono HB4.out.size))
      have HO5 := Lib.hid (HO3b.out.below hb)
      clear hb HO3b HO4
      go_wp2_with fail
      refine (CL.out _).mono ?_
      rintro e w6 ⟨rfl, hb⟩
      have HB6 := Lib.hid (HB5.out.trans (hb.mono HB5.out.size))
      have HRS := Lib.hid (HO5.out.below hb).reads
      clear hb HO5
      have hlen := HRS.out.len
      have hsm := HRS.out.small
      have HLN := Lib.hid hlen
      have hpos : 0 < n3 := by
        rcases Nat.eq_zero_or_pos n3 with h0 | h0
        · have hX : X = [] := List.eq_nil_of_length_eq_zero (by omega)
          have := HANY.out
          rw [hX] at this
          cases this
        · exact h0
      have hne0 : ((n3 : Int) == 0) = false := by rw [beq_eq_false_iff_ne]; omega
      clear hlen
      go_wp2
      go_loopw [10, 11] (fun mv iv wr => ∃ i : Nat, i ≤ n3 ∧ iv = .int .i64 (i : Int) ∧ mv = .bool ((X.take i).any (fun r => decide (r.length = s))) ∧ Below w6.heap.size w6 wr) (fun _ iv _ => n3 - (intOf iv).toNat)
      case atStart => exact ⟨0, by omega, rfl, rfl, Below.refl _ _⟩
      case round =>
        obtain ⟨wo, rfl⟩ : ∃ wo, wo = wr := ⟨wr, rfl⟩
        obtain ⟨i, hi, rfl, rfl, hb⟩ := hrel
        have HBI := Lib.hid hb
        clear hb
        by_cases hlt : i < n3
        · have hlt' : (i : Int) < (n3 : Int) := by omega
          obtain ⟨b, off, rfl, hbl, hc⟩ := (HRS.out.below HBI.out).at_ hlt
          have hrow := (HRS.out.below HBI.out).row hlt
          have hmem := HFA.out _ (getD_memS X i (by have := HLN.out; omega))
          have htk := take_snocS X i (by have := HLN.out; omega)
          generalize X.getD i [] = r at *
          generalize v3.getD i nilS = u at *
          obtain ⟨uA, un, uc⟩ := u
          simp only [sv] at hc
          simp only at hrow
          have hrl := hrow.len
          have hrs := hrow.small
          have h1 := hmem.1
          rw [hrl] at h1
          have h1' : (s : Int) ≤ (un : Int) := by omega
          have CU := Lib.hid (laws_sum uA un uc r wo hrow)
          rw [hmem.2.1] at CU
          have HSPK := Lib.hid hmem.2.2
          have HROW := Lib.hid hrow
          have HCI := Lib.hid (fun w7 (hb : Below wo.heap.size wo w7) => (hb.cell (p := ⟨b, off + i, none⟩) hbl).trans hc)
          have HTK := Lib.hid (show (X.take (i + 1)).any (fun r => decide (r.length = s)) = ((X.take i).any (fun r => decide (r.length = s)) || decide (un = s)) by rw [htk, List.any_append]; simp [hrl])
          clear hmem htk hrl hrow hbl h1
          generalize (X.take i).any (fun r => decide (r.length = s)) = met at *
          have hst : ∀ q : Bool, (X.take (i + 1)).any (fun r => decide (r.length = s)) = q → True := fun _ _ => trivial
          clear hst
          go_wp2_with fail
          refine CU.out.mono ?_
          rintro e w7 ⟨rfl, rfl⟩
          cases met with
          | true =>
            have HT2 := Lib.hid (show (X.take (i + 1)).any (fun r => decide (r.length = s)) = true by rw [HTK.out]; rfl)
            clear HTK
            go_wp2
            go_loopw [12] (fun kv wr => ∃ k : Nat, k ≤ un ∧ kv = .int .i64 (k : Int) ∧ Below wo.heap.size wo wr) (fun kv _ => un - (intOf kv).toNat)
            case atStart => exact ⟨0, by omega, rfl, Below.refl _ _⟩
            case round =>
              obtain ⟨k, hk, rfl, hb⟩ := hrel
              have HBK := Lib.hid hb
              clear hb
              have hci := HCI.out _ HBK.out
              by_cases hkl : k < un
              · have hkl' : (k : Int) < (un : Int) := by omega
                obtain ⟨b2, off2, rfl, _, hck⟩ := (HROW.out.below HBK.out).at_ hkl
                have hsp := HSPK.out (r.getD k 0) (getD_memI r k (by have := HROW.out.len; omega))
                generalize r.getD k 0 = x at *
                have hx := isSpike_true hsp
                have hx1 : 1 ≤ x := by omega
                have hx2 : x ≤ 31 := by omega
                have hand := spike_and hsp
                clear hsp hx
                go_wp2_with fail
                go_quiet (fail)
                go_wp2
                go_roundw
                case rel => exact ⟨k + 1, by omega, by go_num, below_drewN HBK.out _⟩
                case measure => simp [intOf]; omega
              · obtain rfl : k = un := by omega
                go_wp2
                go_roundw
                case rel => exact ⟨i + 1, by omega, by go_num, by rw [HT2.out], HBI.out.trans (HBK.out.mono HBI.out.size)⟩
                case measure => simp [intOf]; omega
          | false =>
            by_cases hus : un = s
            · have hue : ((un : Int) == (s : Int)) = true := by rw [beq_iff_eq]; omega
              have HT2 := Lib.hid (show (X.take (i + 1)).any (fun r => decide (r.length = s)) = true by rw [HTK.out, decide_eq_true hus]; rfl)
              clear HTK hus
              go_wp2
              go_loopw [12] (fun kv wr => ∃ k : Nat, k ≤ un ∧ kv = .int .i64 (k : Int) ∧ Below wo.heap.size wo wr) (fun kv _ => un - (intOf kv).toNat)
              case atStart => exact ⟨0, by omega, rfl, Below.refl _ _⟩
              case round =>
                obtain ⟨k, hk, rfl, hb⟩ := hrel
                have HBK := Lib.hid hb
                clear hb
                have hci := HCI.out _ HBK.out
                by_cases hkl : k < un
                · have hkl' : (k : Int) < (un : Int) := by omega
                  obtain ⟨b2, off2, rfl, _, hck⟩ := (HROW.out.below HBK.out).at_ hkl
                  have hsp := HSPK.out (r.getD k 0) (getD_memI r k (by have := HROW.out.len; omega))
                  generalize r.getD k 0 = x at *
                  have hx := isSpike_true hsp
                  have hx1 : 1 ≤ x := by omega
                  have hx2 : x ≤ 31 := by omega
                  have hand := spike_and hsp
                  clear hsp hx
                  go_wp2_with fail
                  go_quiet (fail)
                  go_wp2
                  go_roundw
                  case rel => exact ⟨k + 1, by omega, by go_num, below_drewN HBK.out _⟩
                  case measure => simp [intOf]; omega
                · obtain rfl : k = un := by omega
                  go_wp2
                  go_roundw
                  case rel => exact ⟨i + 1, by omega, by go_num, by rw [HT2.out], HBI.out.trans (HBK.out.mono HBI.out.size)⟩
                  case measure => simp [intOf]; omega
            · have hue : ((un : Int) == (s : Int)) = false := by rw [beq_eq_false_iff_ne]; omega
              have HT2 := Lib.hid (show (X.take (i + 1)).any (fun r => decide (r.length = s)) = false by rw [HTK.out, decide_eq_false hus]; rfl)
              clear HTK hus
              go_wp2
              go_loopw [12] (fun kv wr => ∃ k : Nat, k ≤ un ∧ kv = .int .i64 (k : Int) ∧ Below wo.heap.size wo wr) (fun kv _ => un - (intOf kv).toNat)
              case atStart => exact ⟨0, by omega, rfl, Below.refl _ _⟩
              case round =>
                obtain ⟨k, hk, rfl, hb⟩ := hrel
                have HBK := Lib.hid hb
                clear hb
                have hci := HCI.out _ HBK.out
                by_cases hkl : k < un
                · have hkl' : (k : Int) < (un : Int) := by omega
                  obtain ⟨b2, off2, rfl, _, hck⟩ := (HROW.out.below HBK.out).at_ hkl
                  have hsp := HSPK.out (r.getD k 0) (getD_memI r k (by have := HROW.out.len; omega))
                  generalize r.getD k 0 = x at *
                  have hx := isSpike_true hsp
                  have hx1 : 1 ≤ x := by omega
                  have hx2 : x ≤ 31 := by omega
                  have hand := spike_and hsp
                  clear hsp hx
                  go_wp2_with fail
                  go_quiet (fail)
                  go_wp2
                  go_roundw
                  case rel => exact ⟨k + 1, by omega, by go_num, below_drewN HBK.out _⟩
                  case measure => simp [intOf]; omega
                · obtain rfl : k = un := by omega
                  go_wp2
                  go_roundw
                  case rel => exact ⟨i + 1, by omega, by go_num, by rw [HT2.out], HBI.out.trans (HBK.out.mono HBI.out.size)⟩
                  case measure => simp [intOf]; omega
        · obtain rfl : i = n3 := by omega
          have he : X.take i = X := by rw [← HLN.out]; exact List.take_length
          rw [he, HANY.out]
          have HBZ := Lib.hid (HB6.out.trans (HBI.out.mono HB6.out.size))
          clear he
          go_wp2_with fail
          refine (spec_DrawLeastSpike (HR.out.below HBZ.out)).mono ?_
          rintro e w10 ⟨x, rfl, hx, hb⟩
          have HB10 := Lib.hid (HBZ.out.trans (hb.mono HBZ.out.size))
          have HX := Lib.hid hx
          clear hb hx
          generalize hpx : pLeastSpike x = px
          obtain ⟨p1, p2⟩ := px
          go_wp2_with fail
          refine (impl_LeastSpike x _ HX.out).mono ?_
          rw [hpx]
          rintro e w11 ⟨rfl, hb⟩
          have HB11 := Lib.hid (HB10.out.trans (hb.mono HB10.out.size))
          clear hb
          go_wp2_with fail
          refine (spec_LeastSpike x _ HX.out).mono ?_
          rw [hpx]
          rintro e w12 ⟨rfl, hb⟩
          have HB12 := Lib.hid (HB11.out.trans (hb.mono HB11.out.size))
          clear hb hpx
          go_wp2_with fail
          refine (spec_DrawCountPartitions (HR.out.below HB12.out)).mono ?_
          rintro e w13 ⟨y, rfl, hy, hb⟩
          have HB13 := Lib.hid (HB12.out.trans (hb.mono HB12.out.size))
          clear hb hy
          generalize hpy : cntR y = py
          obtain ⟨q1, q2⟩ := py
          go_wp2_with fail
          refine (impl_Cnt y _).mono ?_
          rw [hpy]
          rintro e w14 ⟨rfl, hb⟩
          have HB14 := Lib.hid (HB13.out.trans (hb.mono HB13.out.size))
          clear hb
          go_wp2_with fail
          refine (spec_Cnt y _).mono ?_
          rw [hpy]
          rintro e w15 ⟨rfl, hb⟩
          have HB15 := Lib.hid (HB14.out.trans (hb.mono HB14.out.size))
          clear hb hpy
          go_wp2
          go_ret
          exact ⟨rfl, HB15.out⟩

set_option maxRecDepth 100000 in
theorem lifted (os : Os) (started : os.Started) (H : Type) (enc : TypeId × Value → H) :
    ReturnsInHanded {} Try.checked os 17 .any (Rows.fnSpikesSpec.pre6 enc Try.prog Try.f17 Rows.fnSpikesRow.domain false) (Rows.fnSpikesSpec.post enc Try.prog Try.f17 false true false false) := by
  refine returnsInHanded_of_change (C := Try.checked) own started (by kernel_rfl) Try.func17
    (ChangeSpec.witness6 (enc := enc) (C := Try.checked) false ⟨#[], #[.slice none 0 0], []⟩ 8 (by kernel_rfl) (by kernel_rfl) (by kernel_rfl) (by kernel_rfl)) ?_
  intro W base args ds gs before hval0 hW hcnd _
  have hval : ∀ (j : Nat) t v, Try.f17.params[j]? = some t → args[j]? = some v → Value.okWide Try.prog W .any base t v := hval0
  have hW' := hW
  obtain ⟨p, q, hA0, hV, rfl, hfz, hnd⟩ := hW
  have hA : DataW.TrodAll enc Try.prog W 0 (fun _ => true) true Try.f17.params.toList args.toList ds p := hA0
  rw [Try.params17] at hA hval
  obtain ⟨v0, vs0, d0, ds0, p0, q0, hargs, rfl, rfl, h0, r0⟩ := trodAll_cons hA
  obtain ⟨rfl, rfl, rfl⟩ := trodAll_nil r0
  obtain rfl : args = #[v0] := by cases args; simp_all
  obtain ⟨rfl, rfl⟩ := trodVars_none hV
  have t0 := h0
  have lt0 : ∀ x ∈ p0, x.block < W.heap.size := by obtain ⟨m, hm⟩ := t0; exact DataW.trod_lt m _ _ _ hm
  obtain ⟨a0, l0, k0, rfl⟩ := okWide_slice Try.underlying87 (hval 0 87 v0 rfl rfl)
  obtain ⟨fuel0, hf0⟩ := h0
  obtain ⟨A0, n0, c0, g0, rr0⟩ := open_BB hf0
  simp [Value.cells] at g0
  obtain ⟨rfl, rfl, rfl⟩ := g0
  clear hA0 hval0
  refine (walk a0 l0 k0 W rr0).mono fun e W' ⟨he, bel⟩ => ?_
  subst he
  exact ⟨_, rfl, _, _, _, [], _, [], hW', trodAll_mk1 (shut_bool Try.underlying4 _), (trodAll_cons_mk (Below.trod laidOut (by kernel_rfl) (of_decide_eq_true (by kernel_rfl)) t0 bel lt0) trodAll_mk0), rfl, bel.frame _, fun h => by cases h⟩

theorem closed : joinedFacts Try.prog 17 Try.f17 Rows.fnSpikesSpec Rows.fnSpikesRow = true := by
  unfold joinedFacts
  rw [mayEnter_eq, liftsFinal_eq, make_eq]
  kernel_rfl


theorem over : Rows.fnSpikesRow.holds Try.pinned (OpenSpec.ofChange Rows.fnSpikesSpec) :=
  OpenClaim.holds_of_wide 17 Try.f17 rfl rfl rfl rfl rfl rfl rfl ⟨rfl, rfl, rfl, rfl, rfl⟩ rfl rfl rfl rfl rfl (by kernel_rfl) Try.func17 closed
    (of_decide_eq_true (by kernel_rfl)) (by unfold Func.isWrapper; first | (rw [if_pos (by decide +kernel)]; kernel_rfl) | (rw [if_neg (by decide +kernel)]; exact ⟨rfl, rfl⟩))
    (fun os started H enc _ => lifted os started H enc)

theorem proved : Rows.FnSpikesSaid := over
#print axioms proved
end Go.Proofs.Ytindhmgfadipnaa.fnSpikes
