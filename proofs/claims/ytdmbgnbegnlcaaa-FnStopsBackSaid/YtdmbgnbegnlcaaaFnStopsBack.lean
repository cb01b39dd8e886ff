/-
  For every input laws.FnStopsBack returns true and leaves its arguments as they were (Rows.FnStopsBackSaid). Condition: none beyond the given row.
-/
import Derived.Test.YtdmbgnbegnlcaaaRows
import Derived.WalkKit
import Derived.ProofKit
import Derived.OpenShut
import Derived.ShutString
import Derived.ChangeOld
import Derived.Below
import Derived.Lib.SmallJoins
import Derived.Test.YtdmbgnbegnlcaaaEnter
import Derived.Test.YtdmbgnbegnlcaaaOpenB
import Derived.Test.YtdmbgnbegnlcaaaDrawW
import Derived.Test.YtdmbgnbegnlcaaaStopsF
import Derived.Test.YtdmbgnbegnlcaaaStopsL
import Derived.Test.YtdmbgnbegnlcaaaStopsQ
import Derived.Test.YtdmbgnbegnlcaaaStopsT
namespace Go.Proofs.Ytdmbgnbegnlcaaa.fnStopsBack
open Go.ChangeShapes Go.WideShapes Go.ChangeAt Go.RowKit Go.Joins
open Go.ChangeMaps (open_string shut_string)
set_option linter.unusedVariables false

theorem own : ownKnob Try.prog.godebug = none := by kernel_rfl
theorem laidOut : laidOutB Try.prog = true := by kernel_rfl

set_option maxRecDepth 100000 in
set_option maxHeartbeats 2000000 in
theorem walk (A0 : Option Addr) (len0 cap0 : Nat) (w : World) (s0 : Bytes w A0 len0) (m0 : len0 ≤ cap0) (q0 : cap0 ≤ maxLen) :
    Calls Try.prog 21 #[.slice A0 len0 cap0] w fun e w' => e = .returned (.bool true) ∧ Below w.heap.size w w' := by
  by_cases hl : 1048576 < len0
  · go_enter Try.func21, Try.ntmps21
    go_wp2_with fail
    go_ret
    exact ⟨rfl, Below.refl _ _⟩
  · go_enter Try.func21, Try.ntmps21
    go_wp2_with fail
    refine (drawBack A0 len0 cap0 w s0 m0 q0).mono ?_
    rintro e w1 ⟨n, A, c, xs, k, rfl, n1, n2, l5, c1, c2, hcl, b1⟩
    have hl' : xs.length ≤ 1048576 := by omega
    have B1 := Lib.hid b1
    have CL1 := Lib.hid hcl
    clear b1 hcl s0 m0 q0
    obtain ⟨ys, hy⟩ : ∃ ys, ys = xs.reverse.map (bk k) := ⟨_, rfl⟩
    have hly : ys.length ≤ 1048576 := by rw [hy]; simpa using hl'
    have HY := Lib.hid hy
    clear hy
    by_cases hv : Valid n xs ∧ 0 ≤ k ∧ k ≤ 20000 ∧ Valid n ys
    · have HV := Lib.hid hv
      have k1 := hv.2.1
      have k2 := hv.2.2.1
      have HX := Lib.hid (show xs = ys.reverse.map (bk k) by rw [HY.out]; exact (bk_bk xs k).symm)
      have ER := Lib.hid (back_run xs k hv.1.2.2.1)
      have EW := Lib.hid (back_wait xs k hv.1.2.2.1)
      have MS := Lib.hid (mF_spec hv.1 hv.2.2.2)
      have HC := Lib.hid (half_com xs k (fun i hi => (hv.1.times hi).2.1))
      rw [← HY.out] at ER EW HC
      obtain ⟨v, hv'⟩ : ∃ v, mF xs ys xs.length = v := ⟨_, rfl⟩
      rw [hv'] at MS
      have E1 := Lib.hid hv'
      clear hv hv'
      go_wp2_with fail
      refine (iBack_yes _ _ _ _ xs ys _ CL1.out hl' HV.out.1 k1 k2 HY.out HV.out.2.2.2).mono ?_
      rintro e w2 ⟨Ag, cg, rfl, og, bb2⟩
      have B2 := Lib.hid (B1.out.trans (bb2.mono B1.out.size))
      have CL2 := Lib.hid (CL1.out.below bb2)
      have OG2 := Lib.hid og
      clear bb2 B1 CL1 og
      go_wp2_with fail
      refine (sBack_yes _ _ _ _ xs ys _ CL2.out hl' HV.out.1 k1 k2 HY.out HV.out.2.2.2).mono ?_
      rintro e w3 ⟨Aw, cw, rfl, ow, bb3⟩
      have B3 := Lib.hid (B2.out.trans (bb3.mono B2.out.size))
      have CL3 := Lib.hid (CL2.out.below bb3)
      have OG3 := Lib.hid (OG2.out.below bb3)
      have OW3 := Lib.hid ow
      clear bb3 B2 CL2 OG2 ow
      go_wp2_with fail
      refine (sameStops_yes _ _ _ _ ys _ OG3.out.cells OW3.out.cells hly).mono ?_
      rintro e w4 ⟨rfl, bb4⟩
      have B4 := Lib.hid (B3.out.trans (bb4.mono B3.out.size))
      have CL4 := Lib.hid (CL3.out.below bb4)
      have OG4 := Lib.hid (OG3.out.below bb4)
      clear bb4 B3 CL3 OG3 OW3
      go_wp2_with fail
      refine (iBack_yes _ _ _ _ ys xs _ OG4.out.cells hly HV.out.2.2.2 k1 k2 HX.out HV.out.1).mono ?_
      rintro e w5 ⟨Ax, cx, rfl, ox, bb5⟩
      have B5 := Lib.hid (B4.out.trans (bb5.mono B4.out.size))
      have CL5 := Lib.hid (CL4.out.below bb5)
      have OG5 := Lib.hid (OG4.out.below bb5)
      have OX5 := Lib.hid ox
      clear bb5 B4 CL4 OG4 ox
      go_wp2_with fail
      refine (iMeet_yes _ _ _ _ _ xs ys _ CL5.out OG5.out.cells hl' hly HV.out.1 HV.out.2.2.2).mono ?_
      rintro e w6 ⟨rfl, bb6⟩
      have B6 := Lib.hid (B5.out.trans (bb6.mono B5.out.size))
      have CL6 := Lib.hid (CL5.out.below bb6)
      have OG6 := Lib.hid (OG5.out.below bb6)
      have OX6 := Lib.hid (OX5.out.below bb6)
      clear bb6 B5 CL5 OG5 OX5
      rw [E1.out]
      go_wp2_with fail
      go_loop [14, 15] (fun q i => ∃ j : Nat, j ≤ xs.length ∧ q = .bool (halfTo xs k j) ∧ i = .int .i64 j) (fun _ i => xs.length - (intOf i).toNat)
      case atStart => exact ⟨0, Nat.zero_le _, rfl, rfl⟩
      case round =>
        obtain ⟨j, hj, rfl, rfl⟩ := hrel
        by_cases hlt : j < xs.length
        · have tj := HV.out.1.times hlt
          obtain ⟨tj1, tj2, tj3⟩ := tj
          obtain ⟨gb, go, hA, hgb, -, d1, d2⟩ := CL6.out.at3 hlt
          subst hA
          have i1 : (j : Int) < (xs.length : Int) := by omega
          have e1 : IntKind.i64.wrap (2 * ar xs j) = 2 * ar xs j := IntWalk.i64_in _ (by omega)
          have e2 : IntKind.i64.wrap (2 * lv xs j) = 2 * lv xs j := IntWalk.i64_in _ (by omega)
          have HS := Lib.hid (show halfTo xs k (j + 1) = (halfTo xs k j || halfAt xs k j) from rfl)
          cases hb : halfTo xs k j with
          | true =>
            go_wp2_with fail
            exact ⟨⟨j + 1, hlt, by rw [HS.out, hb]; rfl, by go_num⟩, by simp [intOf]; omega⟩
          | false =>
            by_cases c1 : 2 * ar xs j ≤ k
            · by_cases c2 : k ≤ 2 * lv xs j
              · have HH := Lib.hid (show halfAt xs k j = true by unfold halfAt; rw [decide_eq_true c1, decide_eq_true c2]; rfl)
                go_wp2_with fail
                exact ⟨⟨j + 1, hlt, by rw [HS.out, HH.out, hb]; rfl, by go_num⟩, by simp [intOf]; omega⟩
              · have HH := Lib.hid (show halfAt xs k j = false by unfold halfAt; rw [decide_eq_false c2]; simp)
                have f2 : decide (k ≤ 2 * lv xs j) = false := decide_eq_false c2
                go_wp2_with fail
                exact ⟨⟨j + 1, hlt, by rw [HS.out, HH.out, hb]; rfl, by go_num⟩, by simp [intOf]; omega⟩
            · have HH := Lib.hid (show halfAt xs k j = false by unfold halfAt; rw [decide_eq_false c1]; simp)
              have f1 : decide (2 * ar xs j ≤ k) = false := decide_eq_false c1
              go_wp2_with fail
              exact ⟨⟨j + 1, hlt, by rw [HS.out, HH.out, hb]; rfl, by go_num⟩, by simp [intOf]; omega⟩
        · obtain rfl : j = xs.length := by omega
          go_wp2_with fail
          refine (sameStops_yes _ _ _ _ xs _ OX6.out.cells CL6.out hl').mono ?_
          rintro e w7 ⟨rfl, bb7⟩
          have B7 := Lib.hid (B6.out.trans (bb7.mono B6.out.size))
          have CL7 := Lib.hid (CL6.out.below bb7)
          have OG7 := Lib.hid (OG6.out.below bb7)
          clear bb7 B6 CL6 OG6 OX6
          go_wp2_with fail
          refine (iRun_yes _ _ _ ys _ OG7.out.cells hly HV.out.2.2.2).mono ?_
          rintro e w8 ⟨rfl, bb8⟩
          have B8 := Lib.hid (B7.out.trans (bb8.mono B7.out.size))
          have CL8 := Lib.hid (CL7.out.below bb8)
          have OG8 := Lib.hid (OG7.out.below bb8)
          clear bb8 B7 CL7 OG7
          rw [ER.out]
          go_wp2_with fail
          refine (iRun_yes _ _ _ xs _ CL8.out hl' HV.out.1).mono ?_
          rintro e w9 ⟨rfl, bb9⟩
          have B9 := Lib.hid (B8.out.trans (bb9.mono B8.out.size))
          have CL9 := Lib.hid (CL8.out.below bb9)
          have OG9 := Lib.hid (OG8.out.below bb9)
          clear bb9 B8 CL8 OG8
          go_wp2_with fail
          refine (iWait_yes _ _ _ ys _ OG9.out.cells hly HV.out.2.2.2).mono ?_
          rintro e w10 ⟨rfl, bb10⟩
          have B10 := Lib.hid (B9.out.trans (bb10.mono B9.out.size))
          have CL10 := Lib.hid (CL9.out.below bb10)
          have OG10 := Lib.hid (OG9.out.below bb10)
          clear bb10 B9 CL9 OG9
          rw [EW.out]
          go_wp2_with fail
          refine (iWait_yes _ _ _ xs _ CL10.out hl' HV.out.1).mono ?_
          rintro e w11 ⟨rfl, bb11⟩
          have B11 := Lib.hid (B10.out.trans (bb11.mono B10.out.size))
          have CL11 := Lib.hid (CL10.out.below bb11)
          have OG11 := Lib.hid (OG10.out.below bb11)
          clear bb11 B10 CL10 OG10
          cases hb : halfTo xs k xs.length with
          | true =>
            obtain ⟨i, j, T, hc⟩ := HC.out xs.length (Nat.le_refl _) hb
            have hp := MS.out.met hc
            have hp' : 0 ≤ v := by omega
            rw [bv_pos hp, mt_pos hp]
            go_wp2_with fail
            go_ret
            exact ⟨rfl, B11.out⟩
          | false =>
            go_wp2_with fail
            go_ret
            exact ⟨rfl, B11.out⟩
    · have HV := Lib.hid hv
      clear hv
      go_wp2_with fail
      refine (iBack_no _ _ _ _ xs ys _ CL1.out hl' HY.out HV.out).mono ?_
      rintro e w2 ⟨Ag, cg, rfl, og, bb2⟩
      have B2 := Lib.hid (B1.out.trans (bb2.mono B1.out.size))
      have CL2 := Lib.hid (CL1.out.below bb2)
      have OG2 := Lib.hid og
      clear bb2 B1 CL1 og
      go_wp2_with fail
      refine (sBack_no _ _ _ _ xs ys _ CL2.out hl' HY.out HV.out).mono ?_
      rintro e w3 ⟨Aw, cw, rfl, ow, bb3⟩
      have B3 := Lib.hid (B2.out.trans (bb3.mono B2.out.size))
      have CL3 := Lib.hid (CL2.out.below bb3)
      have OG3 := Lib.hid (OG2.out.below bb3)
      have OW3 := Lib.hid ow
      clear bb3 B2 CL2 OG2 ow
      go_wp2_with fail
      refine (sameStops_yes _ _ _ _ [] _ OG3.out.cells OW3.out.cells (by simp)).mono ?_
      rintro e w4 ⟨rfl, bb4⟩
      have B4 := Lib.hid (B3.out.trans (bb4.mono B3.out.size))
      have CL4 := Lib.hid (CL3.out.below bb4)
      have OG4 := Lib.hid (OG3.out.below bb4)
      have OW4 := Lib.hid (OW3.out.below bb4)
      clear bb4 B3 CL3 OG3 OW3
      go_wp2_with fail
      refine (sameStops_yes _ _ _ _ [] _ OG4.out.cells OW4.out.cells (by simp)).mono ?_
      rintro e w5 ⟨rfl, bb5⟩
      have B5 := Lib.hid (B4.out.trans (bb5.mono B4.out.size))
      have CL5 := Lib.hid (CL4.out.below bb5)
      have OG5 := Lib.hid (OG4.out.below bb5)
      have OW5 := Lib.hid (OW4.out.below bb5)
      clear bb5 B4 CL4 OG4 OW4
      go_wp2_with fail
      go_ret
      exact ⟨rfl, B5.out⟩

set_option maxRecDepth 100000 in
theorem lifted (os : Os) (started : os.Started) (H : Type) (enc : TypeId × Value → H) :
    ReturnsInHanded {} Try.checked os 21 .any (Rows.fnStopsBackSpec.pre6 enc Try.prog Try.f21 Rows.fnStopsBackRow.domain false) (Rows.fnStopsBackSpec.post enc Try.prog Try.f21 false true false false) := by
  refine returnsInHanded_of_change (C := Try.checked) own started (by kernel_rfl) Try.func21
    (ChangeSpec.witness6 (enc := enc) (C := Try.checked) false ⟨#[], #[.slice none 0 0], []⟩ 8 (by kernel_rfl) (by kernel_rfl) (by kernel_rfl) (by kernel_rfl)) ?_
  intro W base args ds gs before hval0 hW hcnd _
  have hval : ∀ (j : Nat) t v, Try.f21.params[j]? = some t → args[j]? = some v → Value.okWide Try.prog W .any base t v := hval0
  have hW' := hW
  obtain ⟨p, q, hA0, hV, rfl, hfz, hnd⟩ := hW
  have hA : DataW.TrodAll enc Try.prog W 0 (fun _ => true) true Try.f21.params.toList args.toList ds p := hA0
  rw [Try.params21] at hA hval
  obtain ⟨v0, vs0, d0, ds0, p0, q0, hargs, rfl, rfl, h0, r0⟩ := trodAll_cons hA
  obtain ⟨rfl, rfl, rfl⟩ := trodAll_nil r0
  obtain rfl : args = #[v0] := by cases args; simp_all
  obtain ⟨rfl, rfl⟩ := trodVars_none hV
  obtain ⟨A0, len0, cap0, rfl⟩ := okWide_slice Try.underlying33 (hval 0 33 v0 rfl rfl)
  have k0 := h0
  have lt0 : ∀ x ∈ p0, x.block < W.heap.size := by obtain ⟨m, hm⟩ := k0; exact DataW.trod_lt m _ _ _ hm
  obtain ⟨s0, m0, g0⟩ : Bytes W A0 len0 ∧ len0 ≤ cap0 ∧ cap0 ≤ maxLen := by
    obtain ⟨fuel, hf⟩ := h0
    exact arg_bytes hf
  clear hA0 hval0
  simp only [List.append_nil] at hW'
  refine (walk A0 len0 cap0 W s0 m0 g0).mono fun e W' ⟨he, bel⟩ => ?_
  subst he
  exact ⟨_, rfl, _, _, _, [], _, [], hW', (trodAll_cons_mk (shut_bool Try.underlying4 _) trodAll_mk0), (trodAll_cons_mk (Below.trod laidOut (by kernel_rfl) (of_decide_eq_true (by kernel_rfl)) k0 bel lt0) trodAll_mk0), rfl, bel.frame _, fun h => by cases h⟩

set_option maxRecDepth 100000 in
theorem closed : joinedFacts Try.prog 21 Try.f21 Rows.fnStopsBackSpec Rows.fnStopsBackRow = true := by
  unfold joinedFacts
  rw [enter_ok, lifts_ok, make_ok]
  kernel_rfl

theorem over : Rows.fnStopsBackRow.holds Try.pinned (OpenSpec.ofChange Rows.fnStopsBackSpec) :=
  OpenClaim.holds_of_wide 21 Try.f21 rfl rfl rfl rfl rfl rfl rfl ⟨rfl, rfl, rfl, rfl, rfl⟩ rfl rfl rfl rfl rfl (by kernel_rfl) Try.func21 closed
    (of_decide_eq_true (by kernel_rfl)) (by unfold Func.isWrapper; first | (rw [if_pos (by decide +kernel)]; kernel_rfl) | (rw [if_neg (by decide +kernel)]; exact ⟨rfl, rfl⟩))
    (fun os started H enc _ => lifted os started H enc)

theorem proved : Rows.FnStopsBackSaid :=
  over
#print axioms proved
end Go.Proofs.Ytdmbgnbegnlcaaa.fnStopsBack
