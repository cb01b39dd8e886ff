/-
  For every input laws.FnExactRestMost returns true and leaves its arguments as they were (Rows.FnExactRestMostSaid). Condition: none beyond the given row.
-/
import Derived.Test.YtgimheekaceifaaRows
import Derived.WalkKit
import Derived.ProofKit
import Derived.OpenShut
import Derived.ShutString
import Derived.ChangeOld
import Derived.Below
import Derived.Lib.SmallJoins
import Derived.Test.YtgimheekaceifaaEnter
import Derived.Test.YtgimheekaceifaaRunsArg
import Derived.Test.YtgimheekaceifaaRunsX
namespace Go.Proofs.Ytgimheekaceifaa.fnExactRestMost
open Go.ChangeShapes Go.WideShapes Go.ChangeAt Go.RowKit Go.Joins
open Go.ChangeMaps (open_string shut_string)
set_option linter.unusedVariables false

theorem own : ownKnob Try.prog.godebug = none := by kernel_rfl
theorem laidOut : laidOutB Try.prog = true := by kernel_rfl

set_option maxRecDepth 100000 in
set_option maxHeartbeats 2000000 in
theorem walk (A0 : Option Addr) (c0 : Nat) (xs0 : List Rn) (n1 : Int) (w : World) (s0 : Cells w A0 (fr xs0)) (m0 : xs0.length ≤ 9223372036854775807) (w1 : (Lit.int .i64 n1).wf = true) :
    Calls Try.prog 16 #[.slice A0 xs0.length c0, .int .i64 n1] w fun e w' => e = .returned (.bool true) ∧ Below w.heap.size w w' := by
  by_cases hl : 1048576 < xs0.length
  · go_enter Try.func16, Try.ntmps16
    go_wp2_with fail
    refine (szRunS_over A0 xs0.length c0 w hl m0).mono ?_
    rintro e w1 ⟨rfl, rfl⟩
    go_wp2_with fail
    go_ret
    exact ⟨rfl, Below.refl _ _⟩
  · have hl' : xs0.length ≤ 1048576 := by omega
    have S0 := Lib.hid s0
    clear hl m0 s0
    go_enter Try.func16, Try.ntmps16
    go_wp2_with fail
    refine (szRunS_any A0 xs0.length c0 w hl').mono ?_
    rintro e _ ⟨rfl, rfl⟩
    have B0 := Lib.hid (Below.refl w.heap.size w)
    go_wp2_with fail
    refine (toRunS_own A0 c0 xs0 _ (S0.out.below B0.out) hl').mono ?_
    rintro e w1 ⟨rfl, oo, bb1⟩
    have B1 := Lib.hid (B0.out.trans (bb1.mono B0.out.size))
    have P1 := Lib.hid oo
    clear bb1 B0 oo
    go_wp2_with fail
    refine (sRest_any _ _ xs0 _ _ P1.out.cells hl').mono ?_
    rintro e w2 ⟨rfl, bb2⟩
    have B2 := Lib.hid (B1.out.trans (bb2.mono B1.out.size))
    clear bb2 B1 P1
    go_wp2_with fail
    refine (toRunS_own A0 c0 xs0 _ (S0.out.below B2.out) hl').mono ?_
    rintro e w3 ⟨rfl, oo, bb3⟩
    have B3 := Lib.hid (B2.out.trans (bb3.mono B2.out.size))
    have X3 := Lib.hid oo
    clear bb3 B2 oo
    go_wp2_with fail
    refine (iRest_any _ _ xs0 _ _ X3.out.cells hl').mono ?_
    rintro e w4 ⟨rfl, bb4⟩
    have B4 := Lib.hid (B3.out.trans (bb4.mono B3.out.size))
    have X4 := Lib.hid (X3.out.below bb4)
    clear bb4 B3 X3
    go_wp2_with fail
    refine (toRunS_own A0 c0 xs0 _ (S0.out.below B4.out) hl').mono ?_
    rintro e w5 ⟨rfl, oo, bb5⟩
    have B5 := Lib.hid (B4.out.trans (bb5.mono B4.out.size))
    have X5 := Lib.hid (X4.out.below bb5)
    have Y5 := Lib.hid oo
    clear bb5 B4 X4 oo
    go_wp2_with fail
    refine (eqRunS_yes _ _ _ _ xs0 _ X5.out.cells Y5.out.cells hl').mono ?_
    rintro e w6 ⟨rfl, bb6⟩
    have B6 := Lib.hid (B5.out.trans (bb6.mono B5.out.size))
    clear bb6 B5 X5 Y5
    go_wp2_with fail
    go_ret
    exact ⟨rfl, B6.out⟩

set_option maxRecDepth 100000 in
theorem lifted (os : Os) (started : os.Started) (H : Type) (enc : TypeId × Value → H) :
    ReturnsInHanded {} Try.checked os 16 .any (Rows.fnExactRestMostSpec.pre6 enc Try.prog Try.f16 Rows.fnExactRestMostRow.domain false) (Rows.fnExactRestMostSpec.post enc Try.prog Try.f16 false true false false) := by
  refine returnsInHanded_of_change (C := Try.checked) own started (by kernel_rfl) Try.func16
    (ChangeSpec.witness6 (enc := enc) (C := Try.checked) false ⟨#[], #[.slice none 0 0, .int .i64 0], []⟩ 8 (by kernel_rfl) (by kernel_rfl) (by kernel_rfl) (by kernel_rfl)) ?_
  intro W base args ds gs before hval0 hW hcnd _
  have hval : ∀ (j : Nat) t v, Try.f16.params[j]? = some t → args[j]? = some v → Value.okWide Try.prog W .any base t v := hval0
  have hW' := hW
  obtain ⟨p, q, hA0, hV, rfl, hfz, hnd⟩ := hW
  have hA : DataW.TrodAll enc Try.prog W 0 (fun _ => true) true Try.f16.params.toList args.toList ds p := hA0
  rw [Try.params16] at hA hval
  obtain ⟨v0, vs0, d0, ds0, p0, q0, hargs, rfl, rfl, h0, r0⟩ := trodAll_cons hA
  obtain ⟨v1, vs1, d1, ds1, p1, q1, rfl, rfl, rfl, h1, r1⟩ := trodAll_cons r0
  obtain ⟨rfl, rfl, rfl⟩ := trodAll_nil r1
  obtain rfl : args = #[v0, v1] := by cases args; simp_all
  obtain ⟨rfl, rfl⟩ := trodVars_none hV
  obtain ⟨A0, len0, c0, rfl⟩ := okWide_slice Try.underlying22 (hval 0 22 v0 rfl rfl)
  have k0 := h0
  have lt0 : ∀ x ∈ p0, x.block < W.heap.size := by obtain ⟨m, hm⟩ := k0; exact DataW.trod_lt m _ _ _ hm
  obtain ⟨xs0, e0, s0, m0⟩ : ∃ xs : List Rn, xs.length = len0 ∧ Cells W A0 (fr xs) ∧ len0 ≤ 9223372036854775807 := by
    obtain ⟨fuel, hf⟩ := h0
    exact arg_runs hf
  subst e0
  obtain ⟨n1, rfl, rfl, rfl, w1⟩ := open_int Try.underlying3 (hval 1 3 v1 rfl rfl) h1
  clear hA0 hval0
  simp only [List.append_nil] at hW'
  refine (walk A0 c0 xs0 n1 W s0 m0 w1).mono fun e W' ⟨he, bel⟩ => ?_
  subst he
  exact ⟨_, rfl, _, _, _, [], _, [], hW', (trodAll_cons_mk (shut_bool Try.underlying4 _) trodAll_mk0), (trodAll_cons_mk (Below.trod laidOut (by kernel_rfl) (of_decide_eq_true (by kernel_rfl)) k0 bel lt0) (trodAll_cons_mk (shut_int Try.underlying3 w1) trodAll_mk0)), rfl, bel.frame _, fun h => by cases h⟩

set_option maxRecDepth 100000 in
theorem closed : joinedFacts Try.prog 16 Try.f16 Rows.fnExactRestMostSpec Rows.fnExactRestMostRow = true := by
  unfold joinedFacts
  rw [enter_ok, lifts_ok, make_ok]
  kernel_rfl

theorem over : Rows.fnExactRestMostRow.holds Try.pinned (OpenSpec.ofChange Rows.fnExactRestMostSpec) :=
  OpenClaim.holds_of_wide 16 Try.f16 rfl rfl rfl rfl rfl rfl rfl ⟨rfl, rfl, rfl, rfl, rfl⟩ rfl rfl rfl rfl rfl (by kernel_rfl) Try.func16 closed
    (of_decide_eq_true (by kernel_rfl)) (by unfold Func.isWrapper; first | (rw [if_pos (by decide +kernel)]; kernel_rfl) | (rw [if_neg (by decide +kernel)]; exact ⟨rfl, rfl⟩))
    (fun os started H enc _ => lifted os started H enc)

theorem proved : Rows.FnExactRestMostSaid :=
  over
#print axioms proved
end Go.Proofs.Ytgimheekaceifaa.fnExactRestMost
