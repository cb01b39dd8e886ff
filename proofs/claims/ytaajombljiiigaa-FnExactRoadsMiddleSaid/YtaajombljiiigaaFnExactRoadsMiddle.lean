/-
  For every input laws.FnExactRoadsMiddle returns true and leaves its arguments as they were (Rows.FnExactRoadsMiddleSaid). Condition: none beyond the given row.
-/
import Derived.Test.YtaajombljiiigaaRows
import Derived.WalkKit
import Derived.ProofKit
import Derived.OpenShut
import Derived.ShutString
import Derived.ChangeOld
import Derived.Below
import Derived.Lib.SmallJoins
import Derived.Test.YtaajombljiiigaaEnter
import Derived.Test.YtaajombljiiigaaRoadsA
import Derived.Test.YtaajombljiiigaaRoadsArg
import Derived.Test.YtaajombljiiigaaRoadsV
namespace Go.Proofs.Ytaajombljiiigaa.fnExactRoadsMiddle
open Go.ChangeShapes Go.WideShapes Go.ChangeAt Go.RowKit Go.Joins
open Go.ChangeMaps (open_string shut_string)
set_option linter.unusedVariables false

theorem own : ownKnob Try.prog.godebug = none := by kernel_rfl
theorem laidOut : laidOutB Try.prog = true := by kernel_rfl

set_option maxRecDepth 100000 in
set_option maxHeartbeats 1000000 in
theorem walk (n0 : Int) (A1 : Option Addr) (c1 : Nat) (xs1 : List Rd3) (w : World) (w0 : (Lit.int .i64 n0).wf = true) (s1 : Cells w A1 (fd xs1)) (m1 : xs1.length ≤ 9223372036854775807) :
    Calls Try.prog 9 #[.int .i64 n0, .slice A1 xs1.length c1] w fun e w' => e = .returned (.bool true) ∧ Below w.heap.size w w' := by
  by_cases hl : 1048576 < xs1.length
  · go_enter Try.func9, Try.ntmps9
    go_wp2_with fail
    refine (szRoadS_over A1 xs1.length c1 w hl m1).mono ?_
    rintro e w1 ⟨rfl, rfl⟩
    go_wp2_with fail
    go_ret
    exact ⟨rfl, Below.refl _ _⟩
  · have hl' : xs1.length ≤ 1048576 := by omega
    clear hl m1
    by_cases hw : whB n0 xs1 = true
    · skip
      have HW := Lib.hid hw
      clear hw
      go_enter Try.func9, Try.ntmps9
      go_wp2_with fail
      refine (szRoadS_any A1 xs1.length c1 w hl').mono ?_
      rintro e w1 ⟨rfl, rfl⟩
      go_wp2_with fail
      refine (toRoadS_any A1 c1 xs1 w s1 hl').mono ?_
      rintro e w1 ⟨rfl, own1, b1⟩
      have s1' := s1.below b1
      have cl1 := Cells.of_own own1
      go_wp2_with fail
      refine (sMi_yes _ _ _ xs1 _ cl1 hl' HW.out).mono ?_
      rintro e w2 ⟨rfl, b2⟩
      have s2' := s1'.below b2
      have B2 := b1.trans (b2.mono b1.size)
      clear own1 b1 b2 s1' cl1
      go_wp2_with fail
      refine (toRoadS_any A1 c1 xs1 w2 s2' hl').mono ?_
      rintro e w3 ⟨rfl, own3, b3⟩
      have s3' := s2'.below b3
      have cl3 := Cells.of_own own3
      have B3 := B2.trans (b3.mono B2.size)
      clear b3 s2' B2
      go_wp2_with fail
      refine (iMi_yes _ _ _ xs1 _ cl3 hl' HW.out).mono ?_
      rintro e w4 ⟨rfl, b4⟩
      have s4' := s3'.below b4
      have own4 := own_below own3 b4
      have B4 := B3.trans (b4.mono B3.size)
      clear b4 s3' own3 B3 cl3
      go_wp2_with fail
      refine (toRoadS_any A1 c1 xs1 w4 s4' hl').mono ?_
      rintro e w5 ⟨rfl, own5, b5⟩
      have own6 := own_below own4 b5
      have B5 := B4.trans (b5.mono B4.size)
      clear b5 s4' own4 B4
      go_wp2_with fail
      refine (eqRoadS_yes _ _ _ _ xs1 _ (Cells.of_own own6) (Cells.of_own own5) hl').mono ?_
      rintro e w6 ⟨rfl, b6⟩
      have B6 := B5.trans (b6.mono B5.size)
      go_wp2_with fail
      go_ret
      exact ⟨rfl, B6⟩
    · skip
      have HW := Lib.hid hw
      clear hw
      go_enter Try.func9, Try.ntmps9
      go_wp2_with fail
      refine (szRoadS_any A1 xs1.length c1 w hl').mono ?_
      rintro e w1 ⟨rfl, rfl⟩
      go_wp2_with fail
      refine (toRoadS_any A1 c1 xs1 w s1 hl').mono ?_
      rintro e w1 ⟨rfl, own1, b1⟩
      have s1' := s1.below b1
      have cl1 := Cells.of_own own1
      go_wp2_with fail
      refine (sMi_no _ _ _ xs1 _ cl1 hl' HW.out).mono ?_
      rintro e w2 ⟨rfl, b2⟩
      have s2' := s1'.below b2
      have B2 := b1.trans (b2.mono b1.size)
      clear own1 b1 b2 s1' cl1
      go_wp2_with fail
      refine (toRoadS_any A1 c1 xs1 w2 s2' hl').mono ?_
      rintro e w3 ⟨rfl, own3, b3⟩
      have s3' := s2'.below b3
      have cl3 := Cells.of_own own3
      have B3 := B2.trans (b3.mono B2.size)
      clear b3 s2' B2
      go_wp2_with fail
      refine (iMi_no _ _ _ xs1 _ cl3 hl' HW.out).mono ?_
      rintro e w4 ⟨rfl, b4⟩
      have s4' := s3'.below b4
      have own4 := own_below own3 b4
      have B4 := B3.trans (b4.mono B3.size)
      clear b4 s3' own3 B3 cl3
      go_wp2_with fail
      refine (toRoadS_any A1 c1 xs1 w4 s4' hl').mono ?_
      rintro e w5 ⟨rfl, own5, b5⟩
      have own6 := own_below own4 b5
      have B5 := B4.trans (b5.mono B4.size)
      clear b5 s4' own4 B4
      go_wp2_with fail
      refine (eqRoadS_yes _ _ _ _ xs1 _ (Cells.of_own own6) (Cells.of_own own5) hl').mono ?_
      rintro e w6 ⟨rfl, b6⟩
      have B6 := B5.trans (b6.mono B5.size)
      go_wp2_with fail
      go_ret
      exact ⟨rfl, B6⟩

set_option maxRecDepth 100000 in
theorem lifted (os : Os) (started : os.Started) (H : Type) (enc : TypeId × Value → H) :
    ReturnsInHanded {} Try.checked os 9 .any (Rows.fnExactRoadsMiddleSpec.pre6 enc Try.prog Try.f9 Rows.fnExactRoadsMiddleRow.domain false) (Rows.fnExactRoadsMiddleSpec.post enc Try.prog Try.f9 false true false false) := by
  refine returnsInHanded_of_change (C := Try.checked) own started (by kernel_rfl) Try.func9
    (ChangeSpec.witness6 (enc := enc) (C := Try.checked) false ⟨#[], #[.int .i64 0, .slice none 0 0], []⟩ 8 (by kernel_rfl) (by kernel_rfl) (by kernel_rfl) (by kernel_rfl)) ?_
  intro W base args ds gs before hval0 hW hcnd _
  have hval : ∀ (j : Nat) t v, Try.f9.params[j]? = some t → args[j]? = some v → Value.okWide Try.prog W .any base t v := hval0
  have hW' := hW
  obtain ⟨p, q, hA0, hV, rfl, hfz, hnd⟩ := hW
  have hA : DataW.TrodAll enc Try.prog W 0 (fun _ => true) true Try.f9.params.toList args.toList ds p := hA0
  rw [Try.params9] at hA hval
  obtain ⟨v0, vs0, d0, ds0, p0, q0, hargs, rfl, rfl, h0, r0⟩ := trodAll_cons hA
  obtain ⟨v1, vs1, d1, ds1, p1, q1, rfl, rfl, rfl, h1, r1⟩ := trodAll_cons r0
  obtain ⟨rfl, rfl, rfl⟩ := trodAll_nil r1
  obtain rfl : args = #[v0, v1] := by cases args; simp_all
  obtain ⟨rfl, rfl⟩ := trodVars_none hV
  obtain ⟨n0, rfl, rfl, rfl, w0⟩ := open_int Try.underlying3 (hval 0 3 v0 rfl rfl) h0
  obtain ⟨A1, len1, c1, rfl⟩ := okWide_slice Try.underlying22 (hval 1 22 v1 rfl rfl)
  have k1 := h1
  have lt1 : ∀ x ∈ p1, x.block < W.heap.size := by obtain ⟨m, hm⟩ := k1; exact DataW.trod_lt m _ _ _ hm
  obtain ⟨xs1, e1, s1, m1⟩ : ∃ xs : List Rd3, xs.length = len1 ∧ Cells W A1 (fd xs) ∧ len1 ≤ 9223372036854775807 := by
    obtain ⟨fuel, hf⟩ := h1
    exact arg_roads hf
  subst e1
  clear hA0 hval0
  simp only [List.append_nil] at hW'
  refine (walk n0 A1 c1 xs1 W w0 s1 m1).mono fun e W' ⟨he, bel⟩ => ?_
  subst he
  exact ⟨_, rfl, _, _, _, [], _, [], hW', (trodAll_cons_mk (shut_bool Try.underlying4 _) trodAll_mk0), (trodAll_cons_mk (shut_int Try.underlying3 w0) (trodAll_cons_mk (Below.trod laidOut (by kernel_rfl) (of_decide_eq_true (by kernel_rfl)) k1 bel lt1) trodAll_mk0)), rfl, bel.frame _, fun h => by cases h⟩

set_option maxRecDepth 100000 in
theorem closed : joinedFacts Try.prog 9 Try.f9 Rows.fnExactRoadsMiddleSpec Rows.fnExactRoadsMiddleRow = true := by
  unfold joinedFacts
  rw [enter_ok, lifts_ok, make_ok]
  kernel_rfl

theorem over : Rows.fnExactRoadsMiddleRow.holds Try.pinned (OpenSpec.ofChange Rows.fnExactRoadsMiddleSpec) :=
  OpenClaim.holds_of_wide 9 Try.f9 rfl rfl rfl rfl rfl rfl rfl ⟨rfl, rfl, rfl, rfl, rfl⟩ rfl rfl rfl rfl rfl (by kernel_rfl) Try.func9 closed
    (of_decide_eq_true (by kernel_rfl)) (by unfold Func.isWrapper; first | (rw [if_pos (by decide +kernel)]; kernel_rfl) | (rw [if_neg (by decide +kernel)]; exact ⟨rfl, rfl⟩))
    (fun os started H enc _ => lifted os started H enc)

theorem proved : Rows.FnExactRoadsMiddleSaid :=
  over
#print axioms proved
end Go.Proofs.Ytaajombljiiigaa.fnExactRoadsMiddle
