/-
  For every input laws.FnStopsLater returns true and leaves its arguments as they were (Rows.FnStopsLaterSaid). Condition: none beyond the given row.
-/
import Derived.Test.YtdmbgnbegnlcaaaRows
import Derived.WalkKit
import Derived.ProofKit
import Derived.OpenShut
import Derived.ShutString
import Derived.ChangeOld
import Derived.Below
import Derived.Lib.SmallJoins
import Derived.Test.YtdmbgnbegnlcaaaEnter
import Derived.Test.YtdmbgnbegnlcaaaOpenB
import Derived.Test.YtdmbgnbegnlcaaaDrawW
import Derived.Test.YtdmbgnbegnlcaaaStopsF
import Derived.Test.YtdmbgnbegnlcaaaStopsL
import Derived.Test.YtdmbgnbegnlcaaaStopsQ
namespace Go.Proofs.Ytdmbgnbegnlcaaa.fnStopsLater
open Go.ChangeShapes Go.WideShapes Go.ChangeAt Go.RowKit Go.Joins
open Go.ChangeMaps (open_string shut_string)
set_option linter.unusedVariables false

theorem own : ownKnob Try.prog.godebug = none := by kernel_rfl
theorem laidOut : laidOutB Try.prog = true := by kernel_rfl

theorem sh_back (xs : List St) (k : Int) : (xs.map (sh k)).map (sh (-k)) = xs := by
  rw [List.map_map]
  conv => rhs; rw [← List.map_id xs]
  apply List.map_congr_left
  intro s _
  simp only [Function.comp, sh, id]
  obtain ⟨a, b, c⟩ := s
  simp only [St.mk.injEq, true_and]
  exact ⟨by omega, by omega⟩
theorem sh_at (xs : List St) (k : Int) (j : Nat) (hj : j < xs.length) : tw (xs.map (sh k)) j = tw xs j ∧ ar (xs.map (sh k)) j = ar xs j + k ∧ lv (xs.map (sh k)) j = lv xs j + k := by
  have e : (xs.map (sh k)).getD j stz = sh k (xs.getD j stz) := by simp [List.getElem?_eq_getElem hj]
  unfold tw ar lv
  rw [e]
  exact ⟨rfl, rfl, rfl⟩
theorem later_run (xs : List St) (k : Int) : ar (xs.map (sh k)) ((xs.map (sh k)).length - 1) - lv (xs.map (sh k)) 0 = ar xs (xs.length - 1) - lv xs 0 := by
  rw [List.length_map]
  rcases Nat.eq_zero_or_pos xs.length with h | h
  · obtain rfl := List.eq_nil_of_length_eq_zero h; rfl
  · rw [(sh_at xs k (xs.length - 1) (by omega)).2.1, (sh_at xs k 0 h).2.2]; omega
theorem later_wait (xs : List St) (k : Int) : waitTo (xs.map (sh k)) ((xs.map (sh k)).length - 2) = waitTo xs (xs.length - 2) := by
  rw [List.length_map]
  have : ∀ m, m < xs.length ∨ m = 0 → waitTo (xs.map (sh k)) m = waitTo xs m := by
    intro m
    induction m with
    | zero => intro _; rfl
    | succ m ih =>
      intro h
      have hm : m + 1 < xs.length := by omega
      simp only [waitTo]
      rw [ih (by omega), (sh_at xs k (m + 1) hm).2.1, (sh_at xs k (m + 1) hm).2.2]
      omega
  apply this
  omega
set_option maxRecDepth 100000 in
set_option maxHeartbeats 2000000 in
theorem walk (A0 : Option Addr) (len0 cap0 : Nat) (w : World) (s0 : Bytes w A0 len0) (m0 : len0 ≤ cap0) (q0 : cap0 ≤ maxLen) :
    Calls Try.prog 18 #[.slice A0 len0 cap0] w fun e w' => e = .returned (.bool true) ∧ Below w.heap.size w w' := by
  by_cases hl : 1048576 < len0
  · go_enter Try.func18, Try.ntmps18
    go_wp2_with fail
    go_ret
    exact ⟨rfl, Below.refl _ _⟩
  · go_enter Try.func18, Try.ntmps18
    go_wp2_with fail
    refine (drawLater A0 len0 cap0 w s0 m0 q0).mono ?_
    rintro e w1 ⟨n, A, c, xs, k, rfl, n1, n2, l5, c1, c2, hcl, b1⟩
    have hl' : xs.length ≤ 1048576 := by omega
    have B1 := Lib.hid b1
    have CL1 := Lib.hid hcl
    clear b1 hcl s0 m0 q0
    obtain ⟨ys, hy⟩ : ∃ ys, ys = xs.map (sh k) := ⟨_, rfl⟩
    have hly : ys.length ≤ 1048576 := by rw [hy]; simpa using hl'
    have HY := Lib.hid hy
    clear hy
    by_cases hv : Valid n xs ∧ -10000 ≤ k ∧ k ≤ 10000 ∧ Valid n ys
    · have HV := Lib.hid hv
      have k1 := hv.2.1
      have k2 := hv.2.2.1
      have HX := Lib.hid (show xs = ys.map (sh (-k)) by rw [HY.out]; exact (sh_back xs k).symm)
      have ER := Lib.hid (later_run xs k)
      have EW := Lib.hid (later_wait xs k)
      rw [← HY.out] at ER EW
      clear hv
      go_wp2_with fail
      refine (iLater_yes _ _ _ _ xs ys _ CL1.out hl' HV.out.1 k1 k2 HY.out HV.out.2.2.2).mono ?_
      rintro e w2 ⟨Ag, cg, rfl, og, bb2⟩
      have B2 := Lib.hid (B1.out.trans (bb2.mono B1.out.size))
      have CL2 := Lib.hid (CL1.out.below bb2)
      have OG2 := Lib.hid og
      clear bb2 B1 CL1 og
      go_wp2_with fail
      refine (sLater_yes _ _ _ _ xs ys _ CL2.out hl' HV.out.1 k1 k2 HY.out HV.out.2.2.2).mono ?_
      rintro e w3 ⟨Aw, cw, rfl, ow, bb3⟩
      have B3 := Lib.hid (B2.out.trans (bb3.mono B2.out.size))
      have CL3 := Lib.hid (CL2.out.below bb3)
      have OG3 := Lib.hid (OG2.out.below bb3)
      have OW3 := Lib.hid ow
      clear bb3 B2 CL2 OG2 ow
      go_wp2_with fail
      refine (sameStops_yes _ _ _ _ ys _ OG3.out.cells OW3.out.cells hly).mono ?_
      rintro e w4 ⟨rfl, bb4⟩
      have B4 := Lib.hid (B3.out.trans (bb4.mono B3.out.size))
      have CL4 := Lib.hid (CL3.out.below bb4)
      have OG4 := Lib.hid (OG3.out.below bb4)
      clear bb4 B3 CL3 OG3 OW3
      go_wp2_with fail
      refine (iLater_yes _ _ _ _ ys xs _ OG4.out.cells hly HV.out.2.2.2 (by omega) (by omega) HX.out HV.out.1).mono ?_
      rintro e w5 ⟨Ax, cx, rfl, ox, bb5⟩
      have B5 := Lib.hid (B4.out.trans (bb5.mono B4.out.size))
      have CL5 := Lib.hid (CL4.out.below bb5)
      have OG5 := Lib.hid (OG4.out.below bb5)
      have OX5 := Lib.hid ox
      clear bb5 B4 CL4 OG4 ox
      go_wp2_with fail
      refine (sameStops_yes _ _ _ _ xs _ OX5.out.cells CL5.out hl').mono ?_
      rintro e w6 ⟨rfl, bb6⟩
      have B6 := Lib.hid (B5.out.trans (bb6.mono B5.out.size))
      have CL6 := Lib.hid (CL5.out.below bb6)
      have OG6 := Lib.hid (OG5.out.below bb6)
      clear bb6 B5 CL5 OG5 OX5
      go_wp2_with fail
      refine (iRun_yes _ _ _ ys _ OG6.out.cells hly HV.out.2.2.2).mono ?_
      rintro e w7 ⟨rfl, bb7⟩
      have B7 := Lib.hid (B6.out.trans (bb7.mono B6.out.size))
      have CL7 := Lib.hid (CL6.out.below bb7)
      have OG7 := Lib.hid (OG6.out.below bb7)
      clear bb7 B6 CL6 OG6
      rw [ER.out]
      go_wp2_with fail
      refine (iRun_yes _ _ _ xs _ CL7.out hl' HV.out.1).mono ?_
      rintro e w8 ⟨rfl, bb8⟩
      have B8 := Lib.hid (B7.out.trans (bb8.mono B7.out.size))
      have CL8 := Lib.hid (CL7.out.below bb8)
      have OG8 := Lib.hid (OG7.out.below bb8)
      clear bb8 B7 CL7 OG7
      go_wp2_with fail
      refine (iWait_yes _ _ _ ys _ OG8.out.cells hly HV.out.2.2.2).mono ?_
      rintro e w9 ⟨rfl, bb9⟩
      have B9 := Lib.hid (B8.out.trans (bb9.mono B8.out.size))
      have CL9 := Lib.hid (CL8.out.below bb9)
      have OG9 := Lib.hid (OG8.out.below bb9)
      clear bb9 B8 CL8 OG8
      rw [EW.out]
      go_wp2_with fail
      refine (iWait_yes _ _ _ xs _ CL9.out hl' HV.out.1).mono ?_
      rintro e w10 ⟨rfl, bb10⟩
      have B10 := Lib.hid (B9.out.trans (bb10.mono B9.out.size))
      have CL10 := Lib.hid (CL9.out.below bb10)
      have OG10 := Lib.hid (OG9.out.below bb10)
      clear bb10 B9 CL9 OG9
      go_wp2_with fail
      go_ret
      exact ⟨rfl, B10.out⟩
    · have HV := Lib.hid hv
      clear hv
      go_wp2_with fail
      refine (iLater_no _ _ _ _ xs ys _ CL1.out hl' HY.out HV.out).mono ?_
      rintro e w2 ⟨Ag, cg, rfl, og, bb2⟩
      have B2 := Lib.hid (B1.out.trans (bb2.mono B1.out.size))
      have CL2 := Lib.hid (CL1.out.below bb2)
      have OG2 := Lib.hid og
      clear bb2 B1 CL1 og
      go_wp2_with fail
      refine (sLater_no _ _ _ _ xs ys _ CL2.out hl' HY.out HV.out).mono ?_
      rintro e w3 ⟨Aw, cw, rfl, ow, bb3⟩
      have B3 := Lib.hid (B2.out.trans (bb3.mono B2.out.size))
      have CL3 := Lib.hid (CL2.out.below bb3)
      have OG3 := Lib.hid (OG2.out.below bb3)
      have OW3 := Lib.hid ow
      clear bb3 B2 CL2 OG2 ow
      go_wp2_with fail
      refine (sameStops_yes _ _ _ _ [] _ OG3.out.cells OW3.out.cells (by simp)).mono ?_
      rintro e w4 ⟨rfl, bb4⟩
      have B4 := Lib.hid (B3.out.trans (bb4.mono B3.out.size))
      have CL4 := Lib.hid (CL3.out.below bb4)
      have OG4 := Lib.hid (OG3.out.below bb4)
      have OW4 := Lib.hid (OW3.out.below bb4)
      clear bb4 B3 CL3 OG3 OW3
      go_wp2_with fail
      refine (sameStops_yes _ _ _ _ [] _ OG4.out.cells OW4.out.cells (by simp)).mono ?_
      rintro e w5 ⟨rfl, bb5⟩
      have B5 := Lib.hid (B4.out.trans (bb5.mono B4.out.size))
      have CL5 := Lib.hid (CL4.out.below bb5)
      have OG5 := Lib.hid (OG4.out.below bb5)
      have OW5 := Lib.hid (OW4.out.below bb5)
      clear bb5 B4 CL4 OG4 OW4
      go_wp2_with fail
      go_ret
      exact ⟨rfl, B5.out⟩

set_option maxRecDepth 100000 in
theorem lifted (os : Os) (started : os.Started) (H : Type) (enc : TypeId × Value → H) :
    ReturnsInHanded {} Try.checked os 18 .any (Rows.fnStopsLaterSpec.pre6 enc Try.prog Try.f18 Rows.fnStopsLaterRow.domain false) (Rows.fnStopsLaterSpec.post enc Try.prog Try.f18 false true false false) := by
  refine returnsInHanded_of_change (C := Try.checked) own started (by kernel_rfl) Try.func18
    (ChangeSpec.witness6 (enc := enc) (C := Try.checked) false ⟨#[], #[.slice none 0 0], []⟩ 8 (by kernel_rfl) (by kernel_rfl) (by kernel_rfl) (by kernel_rfl)) ?_
  intro W base args ds gs before hval0 hW hcnd _
  have hval : ∀ (j : Nat) t v, Try.f18.params[j]? = some t → args[j]? = some v → Value.okWide Try.prog W .any base t v := hval0
  have hW' := hW
  obtain ⟨p, q, hA0, hV, rfl, hfz, hnd⟩ := hW
  have hA : DataW.TrodAll enc Try.prog W 0 (fun _ => true) true Try.f18.params.toList args.toList ds p := hA0
  rw [Try.params18] at hA hval
  obtain ⟨v0, vs0, d0, ds0, p0, q0, hargs, rfl, rfl, h0, r0⟩ := trodAll_cons hA
  obtain ⟨rfl, rfl, rfl⟩ := trodAll_nil r0
  obtain rfl : args = #[v0] := by cases args; simp_all
  obtain ⟨rfl, rfl⟩ := trodVars_none hV
  obtain ⟨A0, len0, cap0, rfl⟩ := okWide_slice Try.underlying33 (hval 0 33 v0 rfl rfl)
  have k0 := h0
  have lt0 : ∀ x ∈ p0, x.block < W.heap.size := by obtain ⟨m, hm⟩ := k0; exact DataW.trod_lt m _ _ _ hm
  obtain ⟨s0, m0, g0⟩ : Bytes W A0 len0 ∧ len0 ≤ cap0 ∧ cap0 ≤ maxLen := by
    obtain ⟨fuel, hf⟩ := h0
    exact arg_bytes hf
  clear hA0 hval0
  simp only [List.append_nil] at hW'
  refine (walk A0 len0 cap0 W s0 m0 g0).mono fun e W' ⟨he, bel⟩ => ?_
  subst he
  exact ⟨_, rfl, _, _, _, [], _, [], hW', (trodAll_cons_mk (shut_bool Try.underlying4 _) trodAll_mk0), (trodAll_cons_mk (Below.trod laidOut (by kernel_rfl) (of_decide_eq_true (by kernel_rfl)) k0 bel lt0) trodAll_mk0), rfl, bel.frame _, fun h => by cases h⟩

set_option maxRecDepth 100000 in
theorem closed : joinedFacts Try.prog 18 Try.f18 Rows.fnStopsLaterSpec Rows.fnStopsLaterRow = true := by
  unfold joinedFacts
  rw [enter_ok, lifts_ok, make_ok]
  kernel_rfl

theorem over : Rows.fnStopsLaterRow.holds Try.pinned (OpenSpec.ofChange Rows.fnStopsLaterSpec) :=
  OpenClaim.holds_of_wide 18 Try.f18 rfl rfl rfl rfl rfl rfl rfl ⟨rfl, rfl, rfl, rfl, rfl⟩ rfl rfl rfl rfl rfl (by kernel_rfl) Try.func18 closed
    (of_decide_eq_true (by kernel_rfl)) (by unfold Func.isWrapper; first | (rw [if_pos (by decide +kernel)]; kernel_rfl) | (rw [if_neg (by decide +kernel)]; exact ⟨rfl, rfl⟩))
    (fun os started H enc _ => lifted os started H enc)

theorem proved : Rows.FnStopsLaterSaid :=
  over
#print axioms proved
end Go.Proofs.Ytdmbgnbegnlcaaa.fnStopsLater
