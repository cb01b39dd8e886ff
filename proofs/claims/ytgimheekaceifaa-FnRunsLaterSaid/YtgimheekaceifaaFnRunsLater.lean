/-
  For every input laws.FnRunsLater returns true and leaves its arguments as they were (Rows.FnRunsLaterSaid). Condition: none beyond the given row.
-/
import Derived.Test.YtgimheekaceifaaRows
import Derived.WalkKit
import Derived.ProofKit
import Derived.OpenShut
import Derived.ShutString
import Derived.ChangeOld
import Derived.Below
import Derived.Lib.SmallJoins
import Derived.Test.YtgimheekaceifaaEnter
import Derived.Test.YtgimheekaceifaaOpenB
import Derived.Test.YtgimheekaceifaaDrawR3
import Derived.Test.YtgimheekaceifaaRunsY
namespace Go.Proofs.Ytgimheekaceifaa.fnRunsLater
open Go.ChangeShapes Go.WideShapes Go.ChangeAt Go.RowKit Go.Joins
open Go.ChangeMaps (open_string shut_string)
set_option linter.unusedVariables false

theorem own : ownKnob Try.prog.godebug = none := by kernel_rfl
theorem laidOut : laidOutB Try.prog = true := by kernel_rfl

set_option maxRecDepth 100000 in
set_option maxHeartbeats 2000000 in
theorem walk (A0 : Option Addr) (len0 cap0 : Nat) (A1 : Option Addr) (len1 cap1 : Nat) (w : World) (s0 : Bytes w A0 len0) (m0 : len0 ≤ cap0) (q0 : cap0 ≤ maxLen) (s1 : Bytes w A1 len1) (m1 : len1 ≤ cap1) (q1 : cap1 ≤ maxLen) :
    Calls Try.prog 14 #[.slice A0 len0 cap0, .slice A1 len1 cap1] w fun e w' => e = .returned (.bool true) ∧ Below w.heap.size w w' := by
  by_cases hl : 1048576 < len0
  · go_enter Try.func14, Try.ntmps14
    go_wp2_with fail
    go_ret
    exact ⟨rfl, Below.refl _ _⟩
  · by_cases hl1 : 1048576 < len1
    · go_enter Try.func14, Try.ntmps14
      go_wp2_with fail
      go_ret
      exact ⟨rfl, Below.refl _ _⟩
    · have hl1' : len1 ≤ 1048576 := by omega
      clear hl1
      go_enter Try.func14, Try.ntmps14
      go_wp2_with fail
      refine (drawLater A0 len0 cap0 w s0 m0 q0).mono ?_
      rintro e w1 ⟨g, c, xs, k, rfl, hwf, l7, c1, c2, hcl, b1⟩
      have hl' : xs.length ≤ 1048576 := by omega
      have B1 := Lib.hid b1
      have CL1 := Lib.hid hcl
      clear b1 hcl s0 m0 q0 s1 m1 q1
      by_cases hv : RLc xs k
      · have HV := Lib.hid hv
        obtain ⟨ys, hy⟩ : ∃ ys, ys = shR xs k := ⟨_, rfl⟩
        have HY := Lib.hid hy
        have HYL := Lib.hid (show ys.length = xs.length by rw [hy, shR_len])
        have yl : ys.length ≤ 1048576 := by have := HYL.out; omega
        obtain ⟨K, hK⟩ : ∃ K, K = wrap64 (-k) := ⟨_, rfl⟩
        have hback : xs = shR ys K ∧ RLc ys K := by
          rcases Nat.eq_zero_or_pos xs.length with z | z
          · have hx : xs = [] := List.eq_nil_of_length_eq_zero z
            subst hx
            have hy0 : ys = [] := hy
            subst hy0
            exact ⟨rfl, hv.1, fun h => absurd h (by simp), hv.1⟩
          · obtain ⟨k0, k1⟩ := hv.2.1 z
            have hK2 : K = 0 - k := by rw [hK]; unfold wrap64; omega
            have hb : shR ys K = xs := by rw [hy, hK2]; exact shR_back xs k
            exact ⟨hb.symm, by rw [hy]; exact hv.2.2, fun _ => by omega, by rw [hb]; exact hv.1⟩
        have HBK := Lib.hid hback
        have HKW := Lib.hid hK.symm
        have HX := Lib.hid hv.1
        have HXY := Lib.hid (show RValid ys by rw [hy]; exact hv.2.2)
        obtain ⟨rr, hrr⟩ : ∃ rr : Nat, rr = len1 % 60 := ⟨_, rfl⟩
        have r6 : rr < 60 := by omega
        have em : (len1 : Int) % 60 = (rr : Int) := by omega
        have em' : Int.tmod (len1 : Int) 60 = (rr : Int) := by rw [Int.tmod_eq_emod_of_nonneg (by omega)]; omega
        obtain ⟨ro, hro⟩ : ∃ ro, ro = gRo xs (rr : Int) := ⟨_, rfl⟩
        have HRO := Lib.hid hro
        have HRO2 := Lib.hid (show ro = gRo ys (rr : Int) by rw [hro, hy, gRo_shift])
        have rl7 : ro.length ≤ 1048576 := by rw [hro, gRo_len]; exact hl'
        clear hv hy hback hK hrr hro
        go_wp2_with fail
        refine (iRL_yes _ _ _ xs ys _ CL1.out hl' HV.out HY.out).mono ?_
        rintro e w2 ⟨R, rc, rfl, hcR, b2⟩
        have B2 := Lib.hid (B1.out.trans (b2.mono B1.out.size))
        have CL2 := Lib.hid (CL1.out.below b2)
        have CR2 := Lib.hid hcR
        clear hcR b2 B1 CL1
        go_wp2_with fail
        refine (sRL_yes _ _ _ xs ys _ CL2.out hl' HV.out HY.out).mono ?_
        rintro e w3 ⟨S, sc, rfl, hcS, b3⟩
        have B3 := Lib.hid (B2.out.trans (b3.mono B2.out.size))
        have CL3 := Lib.hid (CL2.out.below b3)
        have CR3 := Lib.hid (CR2.out.below b3)
        have CS3 := Lib.hid hcS
        clear hcS b3 B2 CL2 CR2
        go_wp2_with fail
        refine (sameRuns_yes _ _ _ _ ys _ CR3.out CS3.out yl).mono ?_
        rintro e w4 ⟨rfl, b4⟩
        have B4 := Lib.hid (B3.out.trans (b4.mono B3.out.size))
        have CL4 := Lib.hid (CL3.out.below b4)
        have CR4 := Lib.hid (CR3.out.below b4)
        clear b4 B3 CL3 CR3 CS3
        go_wp2_with fail
        rw [HKW.out]
        refine (iRL_yes _ _ _ ys xs _ CR4.out yl HBK.out.2 HBK.out.1).mono ?_
        rintro e w5 ⟨X, xc, rfl, hcX, b5⟩
        have B5 := Lib.hid (B4.out.trans (b5.mono B4.out.size))
        have CL5 := Lib.hid (CL4.out.below b5)
        have CR5 := Lib.hid (CR4.out.below b5)
        have CX5 := Lib.hid hcX
        clear hcX b5 B4 CL4 CR4
        go_wp2_with fail
        refine (iRM_ro _ _ xs _ ro _ CL5.out hl' ⟨HX.out, by omega, by omega⟩ HRO.out).mono ?_
        rintro e w6 ⟨P, pc, rfl, hcP, -, b6⟩
        have B6 := Lib.hid (B5.out.trans (b6.mono B5.out.size))
        have CL6 := Lib.hid (CL5.out.below b6)
        have CR6 := Lib.hid (CR5.out.below b6)
        have CX6 := Lib.hid (CX5.out.below b6)
        have CP6 := Lib.hid hcP
        clear hcP b6 B5 CL5 CR5 CX5
        go_wp2_with fail
        refine (iRM_ro _ _ ys _ ro _ CR6.out yl ⟨HXY.out, by omega, by omega⟩ HRO2.out).mono ?_
        rintro e w7 ⟨Q, qc, rfl, hcQ, -, b7⟩
        have B7 := Lib.hid (B6.out.trans (b7.mono B6.out.size))
        have CL7 := Lib.hid (CL6.out.below b7)
        have CX7 := Lib.hid (CX6.out.below b7)
        have CP7 := Lib.hid (CP6.out.below b7)
        have CQ7 := Lib.hid hcQ
        clear hcQ b7 B6 CL6 CR6 CX6 CP6
        go_wp2_with fail
        refine (sameRuns_yes _ _ _ _ xs _ CX7.out CL7.out hl').mono ?_
        rintro e w8 ⟨rfl, b8⟩
        have B8 := Lib.hid (B7.out.trans (b8.mono B7.out.size))
        have CP8 := Lib.hid (CP7.out.below b8)
        have CQ8 := Lib.hid (CQ7.out.below b8)
        clear b8 B7 CL7 CX7 CP7 CQ7
        go_wp2_with fail
        refine (sameInts_yes _ _ _ _ ro _ CP8.out CQ8.out rl7).mono ?_
        rintro e w9 ⟨rfl, b9⟩
        have B9 := Lib.hid (B8.out.trans (b9.mono B8.out.size))
        clear b9 B8 CP8 CQ8
        go_wp2_with fail
        go_ret
        exact ⟨rfl, B9.out⟩
      · have HL := Lib.hid (rlL_no hv)
        have HBB := Lib.hid (rlB_no hv)
        clear hv
        go_wp2_with fail
        refine (iRL_any _ _ _ xs _ CL1.out hl').mono ?_
        rintro e w2 ⟨R, rc, rfl, hoR, b2⟩
        rw [HL.out, HBB.out]
        have B2 := Lib.hid (B1.out.trans (b2.mono B1.out.size))
        have CL2 := Lib.hid (CL1.out.below b2)
        clear hoR b2 B1 CL1
        go_wp2_with fail
        refine (sRL_any _ _ _ xs _ CL2.out hl').mono ?_
        rintro e w3 ⟨S, sc, rfl, hoS, b3⟩
        rw [HL.out, HBB.out]
        have B3 := Lib.hid (B2.out.trans (b3.mono B2.out.size))
        clear hoS b3 B2 CL2
        go_wp2_with fail
        refine (sameRuns_yes _ _ _ _ [] _ Cells.nil Cells.nil (by simp)).mono ?_
        rintro e w4 ⟨rfl, b4⟩
        have B4 := Lib.hid (B3.out.trans (b4.mono B3.out.size))
        clear b4 B3
        go_wp2_with fail
        refine (sameRuns_yes _ _ _ _ [] _ Cells.nil Cells.nil (by simp)).mono ?_
        rintro e w5 ⟨rfl, b5⟩
        have B5 := Lib.hid (B4.out.trans (b5.mono B4.out.size))
        clear b5 B4
        go_wp2_with fail
        go_ret
        exact ⟨rfl, B5.out⟩

set_option maxRecDepth 100000 in
theorem lifted (os : Os) (started : os.Started) (H : Type) (enc : TypeId × Value → H) :
    ReturnsInHanded {} Try.checked os 14 .any (Rows.fnRunsLaterSpec.pre6 enc Try.prog Try.f14 Rows.fnRunsLaterRow.domain false) (Rows.fnRunsLaterSpec.post enc Try.prog Try.f14 false true false false) := by
  refine returnsInHanded_of_change (C := Try.checked) own started (by kernel_rfl) Try.func14
    (ChangeSpec.witness6 (enc := enc) (C := Try.checked) false ⟨#[], #[.slice none 0 0, .slice none 0 0], []⟩ 8 (by kernel_rfl) (by kernel_rfl) (by kernel_rfl) (by kernel_rfl)) ?_
  intro W base args ds gs before hval0 hW hcnd _
  have hval : ∀ (j : Nat) t v, Try.f14.params[j]? = some t → args[j]? = some v → Value.okWide Try.prog W .any base t v := hval0
  have hW' := hW
  obtain ⟨p, q, hA0, hV, rfl, hfz, hnd⟩ := hW
  have hA : DataW.TrodAll enc Try.prog W 0 (fun _ => true) true Try.f14.params.toList args.toList ds p := hA0
  rw [Try.params14] at hA hval
  obtain ⟨v0, vs0, d0, ds0, p0, q0, hargs, rfl, rfl, h0, r0⟩ := trodAll_cons hA
  obtain ⟨v1, vs1, d1, ds1, p1, q1, rfl, rfl, rfl, h1, r1⟩ := trodAll_cons r0
  obtain ⟨rfl, rfl, rfl⟩ := trodAll_nil r1
  obtain rfl : args = #[v0, v1] := by cases args; simp_all
  obtain ⟨rfl, rfl⟩ := trodVars_none hV
  obtain ⟨A0, len0, cap0, rfl⟩ := okWide_slice Try.underlying31 (hval 0 31 v0 rfl rfl)
  have k0 := h0
  have lt0 : ∀ x ∈ p0, x.block < W.heap.size := by obtain ⟨m, hm⟩ := k0; exact DataW.trod_lt m _ _ _ hm
  obtain ⟨s0, m0, g0⟩ : Bytes W A0 len0 ∧ len0 ≤ cap0 ∧ cap0 ≤ maxLen := by
    obtain ⟨fuel, hf⟩ := h0
    exact arg_bytes hf
  obtain ⟨A1, len1, cap1, rfl⟩ := okWide_slice Try.underlying31 (hval 1 31 v1 rfl rfl)
  have k1 := h1
  have lt1 : ∀ x ∈ p1, x.block < W.heap.size := by obtain ⟨m, hm⟩ := k1; exact DataW.trod_lt m _ _ _ hm
  obtain ⟨s1, m1, g1⟩ : Bytes W A1 len1 ∧ len1 ≤ cap1 ∧ cap1 ≤ maxLen := by
    obtain ⟨fuel, hf⟩ := h1
    exact arg_bytes hf
  clear hA0 hval0
  simp only [List.append_nil] at hW'
  refine (walk A0 len0 cap0 A1 len1 cap1 W s0 m0 g0 s1 m1 g1).mono fun e W' ⟨he, bel⟩ => ?_
  subst he
  exact ⟨_, rfl, _, _, _, [], _, [], hW', (trodAll_cons_mk (shut_bool Try.underlying4 _) trodAll_mk0), (trodAll_cons_mk (Below.trod laidOut (by kernel_rfl) (of_decide_eq_true (by kernel_rfl)) k0 bel lt0) (trodAll_cons_mk (Below.trod laidOut (by kernel_rfl) (of_decide_eq_true (by kernel_rfl)) k1 bel lt1) trodAll_mk0)), rfl, bel.frame _, fun h => by cases h⟩

set_option maxRecDepth 100000 in
theorem closed : joinedFacts Try.prog 14 Try.f14 Rows.fnRunsLaterSpec Rows.fnRunsLaterRow = true := by
  unfold joinedFacts
  rw [enter_ok, lifts_ok, make_ok]
  kernel_rfl

theorem over : Rows.fnRunsLaterRow.holds Try.pinned (OpenSpec.ofChange Rows.fnRunsLaterSpec) :=
  OpenClaim.holds_of_wide 14 Try.f14 rfl rfl rfl rfl rfl rfl rfl ⟨rfl, rfl, rfl, rfl, rfl⟩ rfl rfl rfl rfl rfl (by kernel_rfl) Try.func14 closed
    (of_decide_eq_true (by kernel_rfl)) (by unfold Func.isWrapper; first | (rw [if_pos (by decide +kernel)]; kernel_rfl) | (rw [if_neg (by decide +kernel)]; exact ⟨rfl, rfl⟩))
    (fun os started H enc _ => lifted os started H enc)

theorem proved : Rows.FnRunsLaterSaid :=
  over
#print axioms proved
end Go.Proofs.Ytgimheekaceifaa.fnRunsLater
