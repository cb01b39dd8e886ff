/-
  For every input laws.FnExactStopsMeet returns true and leaves its arguments as they were (Rows.FnExactStopsMeetSaid). Condition: none beyond the given row.
-/
import Derived.Test.YtdmbgnbegnlcaaaRows
import Derived.WalkKit
import Derived.ProofKit
import Derived.OpenShut
import Derived.ShutString
import Derived.ChangeOld
import Derived.Below
import Derived.Lib.SmallJoins
import Derived.Test.YtdmbgnbegnlcaaaEnter
import Derived.Test.YtdmbgnbegnlcaaaStopsA
import Derived.Test.YtdmbgnbegnlcaaaStopsArg
import Derived.Test.YtdmbgnbegnlcaaaStopsS
namespace Go.Proofs.Ytdmbgnbegnlcaaa.fnExactStopsMeet
open Go.ChangeShapes Go.WideShapes Go.ChangeAt Go.RowKit Go.Joins
open Go.ChangeMaps (open_string shut_string)
set_option linter.unusedVariables false

theorem own : ownKnob Try.prog.godebug = none := by kernel_rfl
theorem laidOut : laidOutB Try.prog = true := by kernel_rfl

theorem szStopS_gen (A : Option Addr) (n c : Nat) (l : Int) (w : World) (hl : l ≤ 1048576) (hn : (n : Int) ≤ l) :
    Calls Try.prog 22 #[.slice A n c, .int .i64 l] w fun e w' => e = .returned (.int .i64 (l - n)) ∧ w = w' := by
  go_enter Try.func22, Try.ntmps22
  go_wp2
  go_ret
  exact ⟨rfl, rfl⟩
theorem szStopS_past (A : Option Addr) (n c : Nat) (l : Int) (w : World) (h0 : 0 ≤ l) (hl : l ≤ 1048576) (hn : l < (n : Int)) (hm : n ≤ 9223372036854775807) :
    Calls Try.prog 22 #[.slice A n c, .int .i64 l] w fun e w' => e = .returned (.int .i64 (-1)) ∧ w = w' := by
  go_enter Try.func22, Try.ntmps22
  go_wp2
  go_ret
  exact ⟨rfl, rfl⟩
theorem sMeet_yesB (n : Int) (A A' : Option Addr) (c c' : Nat) (a b : List St) (w : World) (h : Cells w A (fl a)) (h' : Cells w A' (fl b)) (hl : a.length ≤ 1048576) (hl' : b.length ≤ 1048576) (ha : Valid n a) (hb : Valid n b) :
    Calls Try.prog 42 #[.int .i64 n, .slice A a.length c, .slice A' b.length c'] w fun e w' => e = .returned (.tuple #[.int .i64 (bv (mF a b a.length)), .bool (mt (mF a b a.length))]) ∧ Below w.heap.size w w' := sMeet_yes n A A' c c' a b w h h' hl hl' ha hb

set_option maxRecDepth 100000 in
set_option maxHeartbeats 4000000 in
theorem walk (n0 : Int) (A1 : Option Addr) (c1 : Nat) (xs1 : List St) (A2 : Option Addr) (c2 : Nat) (xs2 : List St) (w : World) (w0 : (Lit.int .i64 n0).wf = true) (s1 : Cells w A1 (fl xs1)) (m1 : xs1.length ≤ 9223372036854775807) (s2 : Cells w A2 (fl xs2)) (m2 : xs2.length ≤ 9223372036854775807) :
    Calls Try.prog 12 #[.int .i64 n0, .slice A1 xs1.length c1, .slice A2 xs2.length c2] w fun e w' => e = .returned (.bool true) ∧ Below w.heap.size w w' := by
  by_cases hl : 1048576 < xs1.length
  · go_enter Try.func12, Try.ntmps12
    go_wp2_with fail
    refine (szStopS_over A1 xs1.length c1 w hl m1).mono ?_
    rintro e w1 ⟨rfl, rfl⟩
    go_wp2_with fail
    go_ret
    exact ⟨rfl, Below.refl _ _⟩
  · have hl' : xs1.length ≤ 1048576 := by omega
    clear hl m1
    by_cases hk : 1048576 - (xs1.length : Int) < xs2.length
    · go_enter Try.func12, Try.ntmps12
      go_wp2_with fail
      refine (szStopS_any A1 xs1.length c1 w hl').mono ?_
      rintro e w1 ⟨rfl, rfl⟩
      go_wp2_with fail
      refine (szStopS_past A2 xs2.length c2 _ w (by omega) (by omega) hk m2).mono ?_
      rintro e w1 ⟨rfl, rfl⟩
      go_wp2_with fail
      go_ret
      exact ⟨rfl, Below.refl _ _⟩
    · have hk' : xs2.length ≤ 1048576 := by omega
      have hk2 : (xs2.length : Int) ≤ 1048576 - (xs1.length : Int) := by omega
      clear hk m2
      by_cases hv : Valid n0 xs1 ∧ Valid n0 xs2
      · have HV := Lib.hid hv
        clear hv
        go_enter Try.func12, Try.ntmps12
        go_wp2_with fail
        refine (szStopS_any A1 xs1.length c1 w hl').mono ?_
        rintro e w1 ⟨rfl, rfl⟩
        go_wp2_with fail
        refine (szStopS_gen A2 xs2.length c2 _ w (by omega) hk2).mono ?_
        rintro e w1 ⟨rfl, rfl⟩
        go_wp2_with fail
        refine (toStopS_any A1 c1 xs1 w s1 hl').mono ?_
        rintro e w1 ⟨rfl, own1, b1⟩
        have u1 := s1.below b1
        have v1 := s2.below b1
        have cl1 := Cells.of_own own1
        clear own1
        go_wp2_with fail
        refine (toStopS_any A2 c2 xs2 w1 v1 hk').mono ?_
        rintro e w2 ⟨rfl, own2, b2⟩
        have u2 := u1.below b2
        have v2 := v1.below b2
        have cl1 := cl1.below b2
        have cl2 := Cells.of_own own2
        have B2 := b1.trans (b2.mono b1.size)
        clear own2 b1 b2 u1 v1
        go_wp2_with fail
        refine (sMeet_yesB _ _ _ _ _ xs1 xs2 _ cl1 cl2 hl' hk' HV.out.1 HV.out.2).mono ?_
        rintro e w3 ⟨rfl, b3⟩
        have u3 := u2.below b3
        have v3 := v2.below b3
        have B3 := B2.trans (b3.mono B2.size)
        clear cl1 cl2 b3 u2 v2 B2
        go_wp2_with fail
        refine (toStopS_any A1 c1 xs1 w3 u3 hl').mono ?_
        rintro e w4 ⟨rfl, own4, b4⟩
        have u4 := u3.below b4
        have v4 := v3.below b4
        have B4 := B3.trans (b4.mono B3.size)
        clear b4 u3 v3 B3
        go_wp2_with fail
        refine (toStopS_any A2 c2 xs2 w4 v4 hk').mono ?_
        rintro e w5 ⟨rfl, own5, b5⟩
        have u5 := u4.below b5
        have v5 := v4.below b5
        have own4 := own_below own4 b5
        have cl4 := Cells.of_own own4
        have cl5 := Cells.of_own own5
        have B5 := B4.trans (b5.mono B4.size)
        clear b5 u4 v4 B4
        go_wp2_with fail
        refine (iMeet_yes _ _ _ _ _ xs1 xs2 _ cl4 cl5 hl' hk' HV.out.1 HV.out.2).mono ?_
        rintro e w6 ⟨rfl, b6⟩
        have u6 := u5.below b6
        have v6 := v5.below b6
        have own4 := own_below own4 b6
        have own5 := own_below own5 b6
        have B6 := B5.trans (b6.mono B5.size)
        clear b6 u5 v5 cl4 cl5 B5
        go_wp2_with fail
        refine (toStopS_any A1 c1 xs1 w6 u6 hl').mono ?_
        rintro e w7 ⟨rfl, own7, b7⟩
        have v7 := v6.below b7
        have own4 := own_below own4 b7
        have own5 := own_below own5 b7
        have B7 := B6.trans (b7.mono B6.size)
        clear b7 u6 v6 B6
        go_wp2_with fail
        refine (eqStopS_yes _ _ _ _ xs1 _ (Cells.of_own own4) (Cells.of_own own7) hl').mono ?_
        rintro e w8 ⟨rfl, b8⟩
        have v8 := v7.below b8
        have own5 := own_below own5 b8
        have B8 := B7.trans (b8.mono B7.size)
        clear b8 v7 own4 own7 B7
        go_wp2_with fail
        refine (toStopS_any A2 c2 xs2 w8 v8 hk').mono ?_
        rintro e w9 ⟨rfl, own9, b9⟩
        have own5 := own_below own5 b9
        have B9 := B8.trans (b9.mono B8.size)
        clear b9 v8 B8
        go_wp2_with fail
        refine (eqStopS_yes _ _ _ _ xs2 _ (Cells.of_own own5) (Cells.of_own own9) hk').mono ?_
        rintro e w10 ⟨rfl, b10⟩
        have B10 := B9.trans (b10.mono B9.size)
        go_wp2_with fail
        go_ret
        exact ⟨rfl, B10⟩
      · have HV := Lib.hid hv
        clear hv
        go_enter Try.func12, Try.ntmps12
        go_wp2_with fail
        refine (szStopS_any A1 xs1.length c1 w hl').mono ?_
        rintro e w1 ⟨rfl, rfl⟩
        go_wp2_with fail
        refine (szStopS_gen A2 xs2.length c2 _ w (by omega) hk2).mono ?_
        rintro e w1 ⟨rfl, rfl⟩
        go_wp2_with fail
        refine (toStopS_any A1 c1 xs1 w s1 hl').mono ?_
        rintro e w1 ⟨rfl, own1, b1⟩
        have u1 := s1.below b1
        have v1 := s2.below b1
        have cl1 := Cells.of_own own1
        clear own1
        go_wp2_with fail
        refine (toStopS_any A2 c2 xs2 w1 v1 hk').mono ?_
        rintro e w2 ⟨rfl, own2, b2⟩
        have u2 := u1.below b2
        have v2 := v1.below b2
        have cl1 := cl1.below b2
        have cl2 := Cells.of_own own2
        have B2 := b1.trans (b2.mono b1.size)
        clear own2 b1 b2 u1 v1
        go_wp2_with fail
        refine (sMeet_no _ _ _ _ _ xs1 xs2 _ cl1 cl2 hl' hk' HV.out).mono ?_
        rintro e w3 ⟨rfl, b3⟩
        have u3 := u2.below b3
        have v3 := v2.below b3
        have B3 := B2.trans (b3.mono B2.size)
        clear cl1 cl2 b3 u2 v2 B2
        go_wp2_with fail
        refine (toStopS_any A1 c1 xs1 w3 u3 hl').mono ?_
        rintro e w4 ⟨rfl, own4, b4⟩
        have u4 := u3.below b4
        have v4 := v3.below b4
        have B4 := B3.trans (b4.mono B3.size)
        clear b4 u3 v3 B3
        go_wp2_with fail
        refine (toStopS_any A2 c2 xs2 w4 v4 hk').mono ?_
        rintro e w5 ⟨rfl, own5, b5⟩
        have u5 := u4.below b5
        have v5 := v4.below b5
        have own4 := own_below own4 b5
        have cl4 := Cells.of_own own4
        have cl5 := Cells.of_own own5
        have B5 := B4.trans (b5.mono B4.size)
        clear b5 u4 v4 B4
        go_wp2_with fail
        refine (iMeet_no _ _ _ _ _ xs1 xs2 _ cl4 cl5 hl' hk' HV.out).mono ?_
        rintro e w6 ⟨rfl, b6⟩
        have u6 := u5.below b6
        have v6 := v5.below b6
        have own4 := own_below own4 b6
        have own5 := own_below own5 b6
        have B6 := B5.trans (b6.mono B5.size)
        clear b6 u5 v5 cl4 cl5 B5
        go_wp2_with fail
        refine (toStopS_any A1 c1 xs1 w6 u6 hl').mono ?_
        rintro e w7 ⟨rfl, own7, b7⟩
        have v7 := v6.below b7
        have own4 := own_below own4 b7
        have own5 := own_below own5 b7
        have B7 := B6.trans (b7.mono B6.size)
        clear b7 u6 v6 B6
        go_wp2_with fail
        refine (eqStopS_yes _ _ _ _ xs1 _ (Cells.of_own own4) (Cells.of_own own7) hl').mono ?_
        rintro e w8 ⟨rfl, b8⟩
        have v8 := v7.below b8
        have own5 := own_below own5 b8
        have B8 := B7.trans (b8.mono B7.size)
        clear b8 v7 own4 own7 B7
        go_wp2_with fail
        refine (toStopS_any A2 c2 xs2 w8 v8 hk').mono ?_
        rintro e w9 ⟨rfl, own9, b9⟩
        have own5 := own_below own5 b9
        have B9 := B8.trans (b9.mono B8.size)
        clear b9 v8 B8
        go_wp2_with fail
        refine (eqStopS_yes _ _ _ _ xs2 _ (Cells.of_own own5) (Cells.of_own own9) hk').mono ?_
        rintro e w10 ⟨rfl, b10⟩
        have B10 := B9.trans (b10.mono B9.size)
        go_wp2_with fail
        go_ret
        exact ⟨rfl, B10⟩

set_option maxRecDepth 100000 in
theorem lifted (os : Os) (started : os.Started) (H : Type) (enc : TypeId × Value → H) :
    ReturnsInHanded {} Try.checked os 12 .any (Rows.fnExactStopsMeetSpec.pre6 enc Try.prog Try.f12 Rows.fnExactStopsMeetRow.domain false) (Rows.fnExactStopsMeetSpec.post enc Try.prog Try.f12 false true false false) := by
  refine returnsInHanded_of_change (C := Try.checked) own started (by kernel_rfl) Try.func12
    (ChangeSpec.witness6 (enc := enc) (C := Try.checked) false ⟨#[], #[.int .i64 0, .slice none 0 0, .slice none 0 0], []⟩ 8 (by kernel_rfl) (by kernel_rfl) (by kernel_rfl) (by kernel_rfl)) ?_
  intro W base args ds gs before hval0 hW hcnd _
  have hval : ∀ (j : Nat) t v, Try.f12.params[j]? = some t → args[j]? = some v → Value.okWide Try.prog W .any base t v := hval0
  have hW' := hW
  obtain ⟨p, q, hA0, hV, rfl, hfz, hnd⟩ := hW
  have hA : DataW.TrodAll enc Try.prog W 0 (fun _ => true) true Try.f12.params.toList args.toList ds p := hA0
  rw [Try.params12] at hA hval
  obtain ⟨v0, vs0, d0, ds0, p0, q0, hargs, rfl, rfl, h0, r0⟩ := trodAll_cons hA
  obtain ⟨v1, vs1, d1, ds1, p1, q1, rfl, rfl, rfl, h1, r1⟩ := trodAll_cons r0
  obtain ⟨v2, vs2, d2, ds2, p2, q2, rfl, rfl, rfl, h2, r2⟩ := trodAll_cons r1
  obtain ⟨rfl, rfl, rfl⟩ := trodAll_nil r2
  obtain rfl : args = #[v0, v1, v2] := by cases args; simp_all
  obtain ⟨rfl, rfl⟩ := trodVars_none hV
  obtain ⟨n0, rfl, rfl, rfl, w0⟩ := open_int Try.underlying3 (hval 0 3 v0 rfl rfl) h0
  obtain ⟨A1, len1, c1, rfl⟩ := okWide_slice Try.underlying22 (hval 1 22 v1 rfl rfl)
  have k1 := h1
  have lt1 : ∀ x ∈ p1, x.block < W.heap.size := by obtain ⟨m, hm⟩ := k1; exact DataW.trod_lt m _ _ _ hm
  obtain ⟨xs1, e1, s1, m1⟩ : ∃ xs : List St, xs.length = len1 ∧ Cells W A1 (fl xs) ∧ len1 ≤ 9223372036854775807 := by
    obtain ⟨fuel, hf⟩ := h1
    exact arg_stops hf
  subst e1
  obtain ⟨A2, len2, c2, rfl⟩ := okWide_slice Try.underlying22 (hval 2 22 v2 rfl rfl)
  have k2 := h2
  have lt2 : ∀ x ∈ p2, x.block < W.heap.size := by obtain ⟨m, hm⟩ := k2; exact DataW.trod_lt m _ _ _ hm
  obtain ⟨xs2, e2, s2, m2⟩ : ∃ xs : List St, xs.length = len2 ∧ Cells W A2 (fl xs) ∧ len2 ≤ 9223372036854775807 := by
    obtain ⟨fuel, hf⟩ := h2
    exact arg_stops hf
  subst e2
  clear hA0 hval0
  simp only [List.append_nil] at hW'
  refine (walk n0 A1 c1 xs1 A2 c2 xs2 W w0 s1 m1 s2 m2).mono fun e W' ⟨he, bel⟩ => ?_
  subst he
  exact ⟨_, rfl, _, _, _, [], _, [], hW', (trodAll_cons_mk (shut_bool Try.underlying4 _) trodAll_mk0), (trodAll_cons_mk (shut_int Try.underlying3 w0) (trodAll_cons_mk (Below.trod laidOut (by kernel_rfl) (of_decide_eq_true (by kernel_rfl)) k1 bel lt1) (trodAll_cons_mk (Below.trod laidOut (by kernel_rfl) (of_decide_eq_true (by kernel_rfl)) k2 bel lt2) trodAll_mk0))), rfl, bel.frame _, fun h => by cases h⟩

set_option maxRecDepth 100000 in
theorem closed : joinedFacts Try.prog 12 Try.f12 Rows.fnExactStopsMeetSpec Rows.fnExactStopsMeetRow = true := by
  unfold joinedFacts
  rw [enter_ok, lifts_ok, make_ok]
  kernel_rfl

theorem over : Rows.fnExactStopsMeetRow.holds Try.pinned (OpenSpec.ofChange Rows.fnExactStopsMeetSpec) :=
  OpenClaim.holds_of_wide 12 Try.f12 rfl rfl rfl rfl rfl rfl rfl ⟨rfl, rfl, rfl, rfl, rfl⟩ rfl rfl rfl rfl rfl (by kernel_rfl) Try.func12 closed
    (of_decide_eq_true (by kernel_rfl)) (by unfold Func.isWrapper; first | (rw [if_pos (by decide +kernel)]; kernel_rfl) | (rw [if_neg (by decide +kernel)]; exact ⟨rfl, rfl⟩))
    (fun os started H enc _ => lifted os started H enc)

theorem proved : Rows.FnExactStopsMeetSaid :=
  over
#print axioms proved
end Go.Proofs.Ytdmbgnbegnlcaaa.fnExactStopsMeet
