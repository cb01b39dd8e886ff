/-
  For every input laws.FnStopsText returns true and leaves its arguments as they were (Rows.FnStopsTextSaid). Condition: none beyond the given row.
-/
import Derived.Test.YtmpkdnikkganlaaRows
import Derived.WalkKit
import Derived.ProofKit
import Derived.OpenShut
import Derived.ShutString
import Derived.ChangeOld
import Derived.Below
import Derived.Lib.SmallJoins
import Derived.Test.YtmpkdnikkganlaaEnter
import Derived.Test.YtmpkdnikkganlaaOpenB
import Derived.Test.YtmpkdnikkganlaaDrawT
import Derived.Test.YtmpkdnikkganlaaTextV
namespace Go.Proofs.Ytmpkdnikkganlaa.fnStopsText
open Go.ChangeShapes Go.WideShapes Go.ChangeAt Go.RowKit Go.Joins
open Go.ChangeMaps (open_string shut_string)
set_option linter.unusedVariables false

theorem own : ownKnob Try.prog.godebug = none := by kernel_rfl
theorem laidOut : laidOutB Try.prog = true := by kernel_rfl

set_option maxRecDepth 100000 in
set_option maxHeartbeats 2000000 in
theorem walk (A0 : Option Addr) (len0 cap0 : Nat) (w : World) (s0 : Bytes w A0 len0) (m0 : len0 ≤ cap0) (q0 : cap0 ≤ maxLen) :
    Calls Try.prog 4 #[.slice A0 len0 cap0] w fun e w' => e = .returned (.bool true) ∧ Below w.heap.size w w' := by
  by_cases hl : 1048576 < len0
  · go_enter Try.func4, Try.ntmps4
    go_wp2_with fail
    go_ret
    exact ⟨rfl, Below.refl _ _⟩
  · go_enter Try.func4, Try.ntmps4
    go_wp2_with fail
    refine (drawText A0 len0 cap0 w s0 m0 q0).mono ?_
    rintro e w1 ⟨n, A, c, xs, rfl, n1, n2, l5, c1, c2, hcl, b1⟩
    have hl' : xs.length ≤ 1048576 := by omega
    have B1 := Lib.hid b1
    have CL1 := Lib.hid hcl
    clear b1 hcl s0 m0 q0
    by_cases hv : Valid n xs
    · have HV := Lib.hid hv
      have x2 := hv.2.2.1
      obtain ⟨zs, hzs⟩ : ∃ zs, zs = tl xs xs.length := ⟨_, rfl⟩
      have TX := Lib.hid (show txS n xs = strOfNums zs by rw [hzs]; exact txS_yes hv)
      have zr := tl_range hv xs.length (Nat.le_refl _)
      have zl := tl_len xs xs.length
      have SP := Lib.hid (show spc zs zs.length = xs.length - 1 by rw [hzs]; exact tl_spaces hv xs.length (Nat.le_refl _))
      have ZR := Lib.hid (show ∀ z ∈ zs, 0 ≤ z ∧ z < 256 from fun z hz => by have := zr z (hzs ▸ hz); omega)
      have zl2 : zs.length ≤ 1000 := by rw [hzs]; omega
      have zp : 0 < zs.length := by rw [hzs]; exact tl_pos _ _ (by omega)
      have HZ := Lib.hid hzs
      obtain ⟨ys, hy⟩ : ∃ ys, ys = xs.map (sh 1440) := ⟨_, rfl⟩
      have hly : ys.length ≤ 1048576 := by rw [hy]; simpa using hl'
      have HY := Lib.hid hy
      have en : (strOfNums zs).toList.isEmpty = false := by
        rw [ByteArray.toList_eq, strOfNums_data]
        cases zs with
        | nil => simp at zp
        | cons z r => rfl
      have e5 : IntKind.i64.wrap ((xs.length : Int) - 1) = ((xs.length - 1 : Nat) : Int) := by rw [show (xs.length : Int) - 1 = ((xs.length - 1 : Nat) : Int) by omega]; exact IntWalk.i64_in _ (by omega)
      clear hzs zr zl hy
      by_cases hp : Valid n ys
      · have HP := Lib.hid hp
        have TY := Lib.hid (show txS n ys = strOfNums zs by rw [txS_yes hp, HZ.out, HY.out, List.length_map, tl_day xs xs.length (Nat.le_refl _)])
        clear hv hp
        go_wp2_with fail
        refine (iText_any _ _ _ xs _ CL1.out hl').mono ?_
        rintro e w2 ⟨rfl, bb2⟩
        have B2 := Lib.hid (B1.out.trans (bb2.mono B1.out.size))
        have CL2 := Lib.hid (CL1.out.below bb2)
        clear bb2 B1 CL1
        rw [TX.out]
        go_wp2_with fail
        refine (sText_any _ _ _ xs _ CL2.out hl').mono ?_
        rintro e w3 ⟨rfl, bb3⟩
        have B3 := Lib.hid (B2.out.trans (bb3.mono B2.out.size))
        have CL3 := Lib.hid (CL2.out.below bb3)
        clear bb3 B2 CL2
        rw [TX.out]
        go_wp2_with fail
        refine (iLater_yes _ _ _ _ xs ys _ CL3.out hl' HV.out (by decide) (by decide) HY.out HP.out).mono ?_
        rintro e w4 ⟨Ag, cg, rfl, og, bb4⟩
        have B4 := Lib.hid (B3.out.trans (bb4.mono B3.out.size))
        have CL4 := Lib.hid (CL3.out.below bb4)
        have OG4 := Lib.hid og
        clear bb4 B3 CL3 og
        go_wp2_with fail
        refine (spaces_any zs _ ZR.out zl2).mono ?_
        rintro e _ ⟨rfl, rfl⟩
        rw [SP.out]
        go_wp2_with fail
        refine (iText_any _ _ _ ys _ OG4.out.cells hly).mono ?_
        rintro e w5 ⟨rfl, bb5⟩
        have B5 := Lib.hid (B4.out.trans (bb5.mono B4.out.size))
        have CL5 := Lib.hid (CL4.out.below bb5)
        have OG5 := Lib.hid (OG4.out.below bb5)
        clear bb5 B4 CL4 OG4
        rw [TY.out]
        go_wp2_with fail
        go_ret
        exact ⟨rfl, B5.out⟩
      · have HP := Lib.hid hp
        clear hv hp
        go_wp2_with fail
        refine (iText_any _ _ _ xs _ CL1.out hl').mono ?_
        rintro e w2 ⟨rfl, bb2⟩
        have B2 := Lib.hid (B1.out.trans (bb2.mono B1.out.size))
        have CL2 := Lib.hid (CL1.out.below bb2)
        clear bb2 B1 CL1
        rw [TX.out]
        go_wp2_with fail
        refine (sText_any _ _ _ xs _ CL2.out hl').mono ?_
        rintro e w3 ⟨rfl, bb3⟩
        have B3 := Lib.hid (B2.out.trans (bb3.mono B2.out.size))
        have CL3 := Lib.hid (CL2.out.below bb3)
        clear bb3 B2 CL2
        rw [TX.out]
        go_wp2_with fail
        refine (iLater_no _ _ _ _ xs ys _ CL3.out hl' HY.out (fun g => HP.out g.2.2.2)).mono ?_
        rintro e w4 ⟨Ag, cg, rfl, og, bb4⟩
        have B4 := Lib.hid (B3.out.trans (bb4.mono B3.out.size))
        have CL4 := Lib.hid (CL3.out.below bb4)
        clear bb4 B3 CL3
        go_wp2_with fail
        refine (spaces_any zs _ ZR.out zl2).mono ?_
        rintro e _ ⟨rfl, rfl⟩
        rw [SP.out]
        go_wp2_with fail
        go_ret
        exact ⟨rfl, B4.out⟩
    · have TX := Lib.hid (txS_no hv)
      have en : (strOfNums []).toList.isEmpty = true := by rw [ByteArray.toList_eq, strOfNums_data]; rfl
      clear hv
      go_wp2_with fail
      refine (iText_any _ _ _ xs _ CL1.out hl').mono ?_
      rintro e w2 ⟨rfl, bb2⟩
      have B2 := Lib.hid (B1.out.trans (bb2.mono B1.out.size))
      have CL2 := Lib.hid (CL1.out.below bb2)
      clear bb2 B1 CL1
      rw [TX.out]
      go_wp2_with fail
      refine (sText_any _ _ _ xs _ CL2.out hl').mono ?_
      rintro e w3 ⟨rfl, bb3⟩
      have B3 := Lib.hid (B2.out.trans (bb3.mono B2.out.size))
      have CL3 := Lib.hid (CL2.out.below bb3)
      clear bb3 B2 CL2
      rw [TX.out]
      go_wp2_with fail
      go_ret
      exact ⟨rfl, B3.out⟩

set_option maxRecDepth 100000 in
theorem lifted (os : Os) (started : os.Started) (H : Type) (enc : TypeId × Value → H) :
    ReturnsInHanded {} Try.checked os 4 .any (Rows.fnStopsTextSpec.pre6 enc Try.prog Try.f4 Rows.fnStopsTextRow.domain false) (Rows.fnStopsTextSpec.post enc Try.prog Try.f4 false true false false) := by
  refine returnsInHanded_of_change (C := Try.checked) own started (by kernel_rfl) Try.func4
    (ChangeSpec.witness6 (enc := enc) (C := Try.checked) false ⟨#[], #[.slice none 0 0], []⟩ 8 (by kernel_rfl) (by kernel_rfl) (by kernel_rfl) (by kernel_rfl)) ?_
  intro W base args ds gs before hval0 hW hcnd _
  have hval : ∀ (j : Nat) t v, Try.f4.params[j]? = some t → args[j]? = some v → Value.okWide Try.prog W .any base t v := hval0
  have hW' := hW
  obtain ⟨p, q, hA0, hV, rfl, hfz, hnd⟩ := hW
  have hA : DataW.TrodAll enc Try.prog W 0 (fun _ => true) true Try.f4.params.toList args.toList ds p := hA0
  rw [Try.params4] at hA hval
  obtain ⟨v0, vs0, d0, ds0, p0, q0, hargs, rfl, rfl, h0, r0⟩ := trodAll_cons hA
  obtain ⟨rfl, rfl, rfl⟩ := trodAll_nil r0
  obtain rfl : args = #[v0] := by cases args; simp_all
  obtain ⟨rfl, rfl⟩ := trodVars_none hV
  obtain ⟨A0, len0, cap0, rfl⟩ := okWide_slice Try.underlying29 (hval 0 29 v0 rfl rfl)
  have k0 := h0
  have lt0 : ∀ x ∈ p0, x.block < W.heap.size := by obtain ⟨m, hm⟩ := k0; exact DataW.trod_lt m _ _ _ hm
  obtain ⟨s0, m0, g0⟩ : Bytes W A0 len0 ∧ len0 ≤ cap0 ∧ cap0 ≤ maxLen := by
    obtain ⟨fuel, hf⟩ := h0
    exact arg_bytes hf
  clear hA0 hval0
  simp only [List.append_nil] at hW'
  refine (walk A0 len0 cap0 W s0 m0 g0).mono fun e W' ⟨he, bel⟩ => ?_
  subst he
  exact ⟨_, rfl, _, _, _, [], _, [], hW', (trodAll_cons_mk (shut_bool Try.underlying4 _) trodAll_mk0), (trodAll_cons_mk (Below.trod laidOut (by kernel_rfl) (of_decide_eq_true (by kernel_rfl)) k0 bel lt0) trodAll_mk0), rfl, bel.frame _, fun h => by cases h⟩

set_option maxRecDepth 100000 in
theorem closed : joinedFacts Try.prog 4 Try.f4 Rows.fnStopsTextSpec Rows.fnStopsTextRow = true := by
  unfold joinedFacts
  rw [enter_ok, lifts_ok, make_ok]
  kernel_rfl

theorem over : Rows.fnStopsTextRow.holds Try.pinned (OpenSpec.ofChange Rows.fnStopsTextSpec) :=
  OpenClaim.holds_of_wide 4 Try.f4 rfl rfl rfl rfl rfl rfl rfl ⟨rfl, rfl, rfl, rfl, rfl⟩ rfl rfl rfl rfl rfl (by kernel_rfl) Try.func4 closed
    (of_decide_eq_true (by kernel_rfl)) (by unfold Func.isWrapper; first | (rw [if_pos (by decide +kernel)]; kernel_rfl) | (rw [if_neg (by decide +kernel)]; exact ⟨rfl, rfl⟩))
    (fun os started H enc _ => lifted os started H enc)

theorem proved : Rows.FnStopsTextSaid :=
  over
#print axioms proved
end Go.Proofs.Ytmpkdnikkganlaa.fnStopsText
