/-
  For every input laws.FnStopsAt returns true and leaves its arguments as they were (Rows.FnStopsAtSaid). Condition: none beyond the given row.
-/
import Derived.Test.YtdmbgnbegnlcaaaRows
import Derived.WalkKit
import Derived.ProofKit
import Derived.OpenShut
import Derived.ShutString
import Derived.ChangeOld
import Derived.Below
import Derived.Lib.SmallJoins
import Derived.Test.YtdmbgnbegnlcaaaEnter
import Derived.Test.YtdmbgnbegnlcaaaOpenB
import Derived.Test.YtdmbgnbegnlcaaaDrawW
import Derived.Test.YtdmbgnbegnlcaaaStopsF
import Derived.Test.YtdmbgnbegnlcaaaStopsH
import Derived.Test.YtdmbgnbegnlcaaaStopsT
namespace Go.Proofs.Ytdmbgnbegnlcaaa.fnStopsAt
open Go.ChangeShapes Go.WideShapes Go.ChangeAt Go.RowKit Go.Joins
open Go.ChangeMaps (open_string shut_string)
set_option linter.unusedVariables false

theorem own : ownKnob Try.prog.godebug = none := by kernel_rfl
theorem laidOut : laidOutB Try.prog = true := by kernel_rfl

set_option maxRecDepth 100000 in
set_option maxHeartbeats 2000000 in
theorem walk (A0 : Option Addr) (len0 cap0 : Nat) (w : World) (s0 : Bytes w A0 len0) (m0 : len0 ≤ cap0) (q0 : cap0 ≤ maxLen) :
    Calls Try.prog 19 #[.slice A0 len0 cap0] w fun e w' => e = .returned (.bool true) ∧ Below w.heap.size w w' := by
  by_cases hl : 1048576 < len0
  · go_enter Try.func19, Try.ntmps19
    go_wp2_with fail
    go_ret
    exact ⟨rfl, Below.refl _ _⟩
  · go_enter Try.func19, Try.ntmps19
    go_wp2_with fail
    refine (drawAt A0 len0 cap0 w s0 m0 q0).mono ?_
    rintro e w1 ⟨n, A, c, xs, t, rfl, n1, n2, l5, c1, c2, hcl, b1⟩
    have hl' : xs.length ≤ 1048576 := by omega
    have B1 := Lib.hid b1
    have CL1 := Lib.hid hcl
    clear b1 hcl s0 m0 q0
    by_cases hv : Valid n xs
    · have l2 := hv.2.2.1
      have HV := Lib.hid hv
      clear hv
      rcases atV_cases xs t with ⟨i, hi, hat, htw, -⟩ | ⟨hat, -⟩
      · have HAT := Lib.hid hat
        have HTW := Lib.hid htw
        clear hat htw
        have t0 := HV.out.times (i := 0) (by omega)
        have ti := HV.out.times hi
        obtain ⟨t01, t02, t03⟩ := t0
        obtain ⟨ti1, ti2, ti3⟩ := ti
        have WA := Lib.hid (wh_at HV.out hi (T := ar xs i) (by omega) ti2)
        have dla : decide (ar xs i ≤ lv xs i) = true := decide_eq_true ti2
        have e1 : IntKind.i64.wrap (20000 - ar xs 0) = 20000 - ar xs 0 := IntWalk.i64_in _ (by omega)
        obtain ⟨k, hk⟩ : ∃ k, k = 20000 - ar xs 0 := ⟨_, rfl⟩
        obtain ⟨ys, hy⟩ : ∃ ys, ys = xs.reverse.map (bk k) := ⟨_, rfl⟩
        have hly : ys.length ≤ 1048576 := by rw [hy]; simpa using hl'
        have HY := Lib.hid hy
        clear hy
        obtain ⟨gb, go, hA, hgb, d0, d1, -⟩ := CL1.out.at3 hi
        subst hA
        obtain ⟨gb', go', hA, -, -, d3, -⟩ := CL1.out.at3 (i := 0) (by omega)
        injection hA with hA
        injection hA with hA1 hA2
        subst hA1 hA2
        rw [HTW.out] at d0
        simp only [Nat.zero_mul, Nat.add_zero] at d3
        have i1 : (i : Int) < (xs.length : Int) := by omega
        have i0 : (0 : Int) < (xs.length : Int) := by omega
        clear d0 d1 d3
        go_wp2_with fail
        refine (iAt_yes _ _ _ _ xs _ CL1.out hl' HV.out).mono ?_
        rintro e w2 ⟨rfl, bb2⟩
        have B2 := Lib.hid (B1.out.trans (bb2.mono B1.out.size))
        have CL2 := Lib.hid (CL1.out.below bb2)
        clear bb2 B1 CL1
        rw [HAT.out]
        go_wp2_with fail
        refine (sAt_yes _ _ _ _ xs _ CL2.out hl' HV.out).mono ?_
        rintro e w3 ⟨rfl, bb3⟩
        have B3 := Lib.hid (B2.out.trans (bb3.mono B2.out.size))
        have CL3 := Lib.hid (CL2.out.below bb3)
        clear bb3 B2 CL2
        rw [HAT.out]
        obtain ⟨gb2, go2, hA, -, d0, d1, -⟩ := CL3.out.at3 hi
        injection hA with hA
        injection hA with hA1 hA2
        subst hA1 hA2
        rw [HTW.out] at d0
        go_wp2_with fail
        clear d0 d1
        refine (iWhere_yes _ _ _ _ xs _ CL3.out hl' HV.out WA.out.2.1 WA.out.2.2).mono ?_
        rintro e w4 ⟨rfl, bb4⟩
        have B4 := Lib.hid (B3.out.trans (bb4.mono B3.out.size))
        have CL4 := Lib.hid (CL3.out.below bb4)
        clear bb4 B3 CL3
        rw [WA.out.1, dla]
        obtain ⟨gb2, go2, hA, -, -, d3, -⟩ := CL4.out.at3 (i := 0) (by omega)
        injection hA with hA
        injection hA with hA1 hA2
        subst hA1 hA2
        simp only [Nat.zero_mul, Nat.add_zero] at d3
        go_wp2_with fail
        clear d3
        by_cases hvy : Valid n ys
        · have HVY := Lib.hid hvy
          clear hvy
          have EA := Lib.hid (show atV ys t = (xs.length : Int) - 1 - i by rw [HY.out] at HVY ⊢; exact back_at_town HV.out hi HTW.out HVY.out)
          rw [← hk]
          refine (iBack_yes _ _ _ _ xs ys _ CL4.out hl' HV.out (by omega) (by omega) HY.out HVY.out).mono ?_
          rintro e w5 ⟨Ag, cg, rfl, og, bb5⟩
          have B5 := Lib.hid (B4.out.trans (bb5.mono B4.out.size))
          have CL5 := Lib.hid (CL4.out.below bb5)
          have OG5 := Lib.hid og
          clear bb5 B4 CL4 og
          obtain ⟨gb2, go2, hA, -, d0, d1, -⟩ := CL5.out.at3 hi
          injection hA with hA
          injection hA with hA1 hA2
          subst hA1 hA2
          rw [HTW.out] at d0
          go_wp2_with fail
          refine (iAt_yes _ _ _ _ ys _ OG5.out.cells hly HVY.out).mono ?_
          rintro e w6 ⟨rfl, bb6⟩
          have B6 := Lib.hid (B5.out.trans (bb6.mono B5.out.size))
          have CL6 := Lib.hid (CL5.out.below bb6)
          have OG6 := Lib.hid (OG5.out.below bb6)
          clear bb6 B5 CL5 OG5
          rw [EA.out]
          go_wp2_with fail
          go_ret
          exact ⟨rfl, B6.out⟩
        · have HVY := Lib.hid hvy
          clear hvy
          rw [← hk]
          refine (iBack_no _ _ _ _ xs ys _ CL4.out hl' HY.out (fun g => HVY.out g.2.2.2)).mono ?_
          rintro e w5 ⟨Ag, cg, rfl, og, bb5⟩
          have B5 := Lib.hid (B4.out.trans (bb5.mono B4.out.size))
          have CL5 := Lib.hid (CL4.out.below bb5)
          have OG5 := Lib.hid og
          clear bb5 B4 CL4 og
          obtain ⟨gb2, go2, hA, -, d0, d1, -⟩ := CL5.out.at3 hi
          injection hA with hA
          injection hA with hA1 hA2
          subst hA1 hA2
          rw [HTW.out] at d0
          go_wp2_with fail
          go_ret
          exact ⟨rfl, B5.out⟩
      · have HAT := Lib.hid hat
        clear hat
        go_wp2_with fail
        refine (iAt_yes _ _ _ _ xs _ CL1.out hl' HV.out).mono ?_
        rintro e w2 ⟨rfl, bb2⟩
        have B2 := Lib.hid (B1.out.trans (bb2.mono B1.out.size))
        have CL2 := Lib.hid (CL1.out.below bb2)
        clear bb2 B1 CL1
        rw [HAT.out]
        go_wp2_with fail
        refine (sAt_yes _ _ _ _ xs _ CL2.out hl' HV.out).mono ?_
        rintro e w3 ⟨rfl, bb3⟩
        have B3 := Lib.hid (B2.out.trans (bb3.mono B2.out.size))
        have CL3 := Lib.hid (CL2.out.below bb3)
        clear bb3 B2 CL2
        rw [HAT.out]
        go_wp2_with fail
        go_ret
        exact ⟨rfl, B3.out⟩
    · have HV := Lib.hid hv
      clear hv
      go_wp2_with fail
      refine (iAt_no _ _ _ _ xs _ CL1.out hl' HV.out).mono ?_
      rintro e w2 ⟨rfl, bb2⟩
      have B2 := Lib.hid (B1.out.trans (bb2.mono B1.out.size))
      have CL2 := Lib.hid (CL1.out.below bb2)
      clear bb2 B1 CL1
      go_wp2_with fail
      refine (sAt_no _ _ _ _ xs _ CL2.out hl' HV.out).mono ?_
      rintro e w3 ⟨rfl, bb3⟩
      have B3 := Lib.hid (B2.out.trans (bb3.mono B2.out.size))
      have CL3 := Lib.hid (CL2.out.below bb3)
      clear bb3 B2 CL2
      go_wp2_with fail
      go_ret
      exact ⟨rfl, B3.out⟩

set_option maxRecDepth 100000 in
theorem lifted (os : Os) (started : os.Started) (H : Type) (enc : TypeId × Value → H) :
    ReturnsInHanded {} Try.checked os 19 .any (Rows.fnStopsAtSpec.pre6 enc Try.prog Try.f19 Rows.fnStopsAtRow.domain false) (Rows.fnStopsAtSpec.post enc Try.prog Try.f19 false true false false) := by
  refine returnsInHanded_of_change (C := Try.checked) own started (by kernel_rfl) Try.func19
    (ChangeSpec.witness6 (enc := enc) (C := Try.checked) false ⟨#[], #[.slice none 0 0], []⟩ 8 (by kernel_rfl) (by kernel_rfl) (by kernel_rfl) (by kernel_rfl)) ?_
  intro W base args ds gs before hval0 hW hcnd _
  have hval : ∀ (j : Nat) t v, Try.f19.params[j]? = some t → args[j]? = some v → Value.okWide Try.prog W .any base t v := hval0
  have hW' := hW
  obtain ⟨p, q, hA0, hV, rfl, hfz, hnd⟩ := hW
  have hA : DataW.TrodAll enc Try.prog W 0 (fun _ => true) true Try.f19.params.toList args.toList ds p := hA0
  rw [Try.params19] at hA hval
  obtain ⟨v0, vs0, d0, ds0, p0, q0, hargs, rfl, rfl, h0, r0⟩ := trodAll_cons hA
  obtain ⟨rfl, rfl, rfl⟩ := trodAll_nil r0
  obtain rfl : args = #[v0] := by cases args; simp_all
  obtain ⟨rfl, rfl⟩ := trodVars_none hV
  obtain ⟨A0, len0, cap0, rfl⟩ := okWide_slice Try.underlying33 (hval 0 33 v0 rfl rfl)
  have k0 := h0
  have lt0 : ∀ x ∈ p0, x.block < W.heap.size := by obtain ⟨m, hm⟩ := k0; exact DataW.trod_lt m _ _ _ hm
  obtain ⟨s0, m0, g0⟩ : Bytes W A0 len0 ∧ len0 ≤ cap0 ∧ cap0 ≤ maxLen := by
    obtain ⟨fuel, hf⟩ := h0
    exact arg_bytes hf
  clear hA0 hval0
  simp only [List.append_nil] at hW'
  refine (walk A0 len0 cap0 W s0 m0 g0).mono fun e W' ⟨he, bel⟩ => ?_
  subst he
  exact ⟨_, rfl, _, _, _, [], _, [], hW', (trodAll_cons_mk (shut_bool Try.underlying4 _) trodAll_mk0), (trodAll_cons_mk (Below.trod laidOut (by kernel_rfl) (of_decide_eq_true (by kernel_rfl)) k0 bel lt0) trodAll_mk0), rfl, bel.frame _, fun h => by cases h⟩

set_option maxRecDepth 100000 in
theorem closed : joinedFacts Try.prog 19 Try.f19 Rows.fnStopsAtSpec Rows.fnStopsAtRow = true := by
  unfold joinedFacts
  rw [enter_ok, lifts_ok, make_ok]
  kernel_rfl

theorem over : Rows.fnStopsAtRow.holds Try.pinned (OpenSpec.ofChange Rows.fnStopsAtSpec) :=
  OpenClaim.holds_of_wide 19 Try.f19 rfl rfl rfl rfl rfl rfl rfl ⟨rfl, rfl, rfl, rfl, rfl⟩ rfl rfl rfl rfl rfl (by kernel_rfl) Try.func19 closed
    (of_decide_eq_true (by kernel_rfl)) (by unfold Func.isWrapper; first | (rw [if_pos (by decide +kernel)]; kernel_rfl) | (rw [if_neg (by decide +kernel)]; exact ⟨rfl, rfl⟩))
    (fun os started H enc _ => lifted os started H enc)

theorem proved : Rows.FnStopsAtSaid :=
  over
#print axioms proved
end Go.Proofs.Ytdmbgnbegnlcaaa.fnStopsAt
