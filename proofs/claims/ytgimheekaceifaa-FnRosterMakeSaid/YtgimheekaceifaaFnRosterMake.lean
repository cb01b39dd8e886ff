/-
  For every input laws.FnRosterMake returns true and leaves its arguments as they were (Rows.FnRosterMakeSaid). Condition: none beyond the given row.
-/
import Derived.Test.YtgimheekaceifaaRows
import Derived.WalkKit
import Derived.ProofKit
import Derived.OpenShut
import Derived.ShutString
import Derived.ChangeOld
import Derived.Below
import Derived.Lib.SmallJoins
import Derived.Test.YtgimheekaceifaaEnter
import Derived.Test.YtgimheekaceifaaOpenB
import Derived.Test.YtgimheekaceifaaDrawR2
import Derived.Test.YtgimheekaceifaaRunsY
import Derived.Test.YtgimheekaceifaaRunsP
namespace Go.Proofs.Ytgimheekaceifaa.fnRosterMake
open Go.ChangeShapes Go.WideShapes Go.ChangeAt Go.RowKit Go.Joins
open Go.ChangeMaps (open_string shut_string)
set_option linter.unusedVariables false

theorem own : ownKnob Try.prog.godebug = none := by kernel_rfl
theorem laidOut : laidOutB Try.prog = true := by kernel_rfl

set_option maxRecDepth 100000 in
set_option maxHeartbeats 2000000 in
theorem walk (A0 : Option Addr) (len0 cap0 : Nat) (A1 : Option Addr) (len1 cap1 : Nat) (w : World) (s0 : Bytes w A0 len0) (m0 : len0 ≤ cap0) (q0 : cap0 ≤ maxLen) (s1 : Bytes w A1 len1) (m1 : len1 ≤ cap1) (q1 : cap1 ≤ maxLen) :
    Calls Try.prog 20 #[.slice A0 len0 cap0, .slice A1 len1 cap1] w fun e w' => e = .returned (.bool true) ∧ Below w.heap.size w w' := by
  by_cases hl : 1048576 < len0
  · go_enter Try.func20, Try.ntmps20
    go_wp2_with fail
    go_ret
    exact ⟨rfl, Below.refl _ _⟩
  · by_cases hl1 : 1048576 < len1
    · go_enter Try.func20, Try.ntmps20
      go_wp2_with fail
      go_ret
      exact ⟨rfl, Below.refl _ _⟩
    · have hl1' : len1 ≤ 1048576 := by omega
      clear hl1
      go_enter Try.func20, Try.ntmps20
      go_wp2_with fail
      refine (drawMake A0 len0 cap0 w s0 m0 q0).mono ?_
      rintro e w1 ⟨g, c, xs, rest, rfl, hwf, l7, c1, c2, hcl, b1⟩
      have hl' : xs.length ≤ 1048576 := by omega
      have B1 := Lib.hid b1
      have CL1 := Lib.hid hcl
      clear b1 hcl s0 m0 q0 s1 m1 q1
      by_cases hv : ROk xs rest
      · have HV := Lib.hid hv
        obtain ⟨-, r0, r1⟩ := hv
        obtain ⟨ro, hro⟩ : ∃ ro, ro = gRo xs rest := ⟨_, rfl⟩
        have HRO := Lib.hid hro
        have HRL := Lib.hid (show ro.length = xs.length by rw [hro, gRo_len])
        have rl7 : ro.length ≤ 1048576 := by have := HRL.out; omega
        obtain ⟨q, hq⟩ : ∃ q, q = most xs rest := ⟨_, rfl⟩
        have HT := Lib.hid (show tlV xs rest = (q : Int) by rw [hq]; exact tlV_yes HV.out)
        have HLT := Lib.hid (show ∀ j, j < ro.length → ri ro j < (q : Int) from fun j hj => by rw [hro, hq]; exact (gRo_lt HV.out.1 HV.out.2.1 (by have := HRL.out; omega)).2.1)
        have HRV := Lib.hid (show RoValid xs rest ro by rw [hro]; exact roValid_gRo HV.out)
        have HRT := Lib.hid (show rtV xs rest ro = (q : Int) by rw [hro, rtV_gRo HV.out]; exact HT.out)
        have hq7 : q ≤ xs.length := by rw [hq]; exact most_le_len _ _
        have q7 : q ≤ 7 := by omega
        clear hro hq
        go_wp2_with fail
        refine (iRM_ro _ _ xs _ ro _ CL1.out hl' HV.out HRO.out).mono ?_
        rintro e w2 ⟨R, rc, rfl, hcR, hRR, b2⟩
        have B2 := Lib.hid (B1.out.trans (b2.mono B1.out.size))
        have CL2 := Lib.hid (CL1.out.below b2)
        have CR2 := Lib.hid hcR
        have HRR := Lib.hid hRR
        clear hcR hRR b2 B1 CL1
        go_wp2_with fail
        refine (sRM_ro _ _ xs _ ro _ CL2.out hl' HV.out HRO.out).mono ?_
        rintro e w3 ⟨S, sc, rfl, hcS, -, b3⟩
        have B3 := Lib.hid (B2.out.trans (b3.mono B2.out.size))
        have CL3 := Lib.hid (CL2.out.below b3)
        have CR3 := Lib.hid (CR2.out.below b3)
        have CS3 := Lib.hid hcS
        clear hcS b3 B2 CL2 CR2
        go_wp2_with fail
        refine (sameInts_yes _ _ _ _ ro _ CR3.out CS3.out rl7).mono ?_
        rintro e w4 ⟨rfl, b4⟩
        have B4 := Lib.hid (B3.out.trans (b4.mono B3.out.size))
        have CL4 := Lib.hid (CL3.out.below b4)
        have CR4 := Lib.hid (CR3.out.below b4)
        clear b4 B3 CL3 CR3 CS3
        obtain ⟨m, hm⟩ : ∃ m : Nat, m = len1 % (xs.length + 1) := ⟨_, rfl⟩
        have hmle : m ≤ xs.length := by have := Nat.mod_lt len1 (show 0 < xs.length + 1 by omega); omega
        have em : (len1 : Int) % ((xs.length : Int) + 1) = (m : Int) := by rw [hm]; rfl
        have em' : Int.tmod (len1 : Int) ((xs.length : Int) + 1) = (m : Int) := by rw [hm]; rfl
        have ez : ¬ ((xs.length : Int) + 1 = 0) := by omega
        have ez' : ((xs.length : Int) + 1 == 0) = false := by rw [beq_eq_false_iff_ne]; omega
        clear hm
        obtain ⟨ys, hy⟩ : ∃ ys, ys = xs.take m := ⟨_, rfl⟩
        have hyl : m = ys.length := by rw [hy, List.length_take]; omega
        subst hyl
        obtain ⟨zs, hz⟩ : ∃ zs, zs = ro.take ys.length := ⟨_, rfl⟩
        have HY := Lib.hid hy
        have HZ := Lib.hid hz
        have HZG := Lib.hid (show zs = gRo ys rest by have hg := gRo_take xs rest ys.length hmle; rw [← hy] at hg; rw [hz, HRO.out]; exact hg.symm)
        have HYV := Lib.hid (show ROk ys rest from ⟨by rw [hy]; exact HV.out.1.take _, r0, r1⟩)
        have HZL := Lib.hid (show ys.length = zs.length by rw [hz, List.length_take]; have := HRL.out; omega)
        have hmle' : (ys.length : Int) ≤ (xs.length : Int) := by omega
        have hmc : ys.length ≤ c := by omega
        clear hy hz
        go_wp2_with fail
        refine (iRM_ro _ _ ys _ zs _ (by rw [HY.out]; exact CL4.out.takeR _) (by omega) HYV.out HZG.out).mono ?_
        rintro e w5 ⟨X, xc, rfl, hcX, -, b5⟩
        have B5 := Lib.hid (B4.out.trans (b5.mono B4.out.size))
        have CL5 := Lib.hid (CL4.out.below b5)
        have CR5 := Lib.hid (CR4.out.below b5)
        have CX5 := Lib.hid hcX
        clear hcX b5 B4 CL4 CR4
        go_wp2_with fail
        refine (iTL_any _ _ xs _ _ CL5.out hl').mono ?_
        rintro e w6 ⟨rfl, b6⟩
        rw [HT.out]
        have B6 := Lib.hid (B5.out.trans (b6.mono B5.out.size))
        have CL6 := Lib.hid (CL5.out.below b6)
        have CR6 := Lib.hid (CR5.out.below b6)
        have CX6 := Lib.hid (CX5.out.below b6)
        clear b6 B5 CL5 CR5 CX5
        go_wp2_with fail
        go_loopw [15] (fun i wr => ∃ k : Nat, k ≤ ro.length ∧ i = .int .i64 k ∧ Below w6.heap.size w6 wr) (fun i _ => ro.length - (intOf i).toNat)
        case atStart => exact ⟨0, Nat.zero_le _, rfl, Below.refl _ _⟩
        case round =>
          obtain ⟨k, hk, rfl, hbel⟩ := hrel
          have HB := Lib.hid hbel
          clear hbel
          by_cases hlt : k < ro.length
          · obtain ⟨b, o, hA, hb, c0⟩ := (CR6.out.below HB.out).at1 hlt
            have hlq := HLT.out k hlt
            have i1 : (k : Int) < (ro.length : Int) := by omega
            subst hA
            go_wp2_with fail
            exact ⟨⟨k + 1, by omega, by go_num, HB.out⟩, by simp [intOf]; omega⟩
          · have B7 := Lib.hid (B6.out.trans (HB.out.mono B6.out.size))
            have CL7 := Lib.hid (CL6.out.below HB.out)
            have CR7 := Lib.hid (CR6.out.below HB.out)
            have CX7 := Lib.hid (CX6.out.below HB.out)
            clear HB B6 CL6 CR6 CX6
            generalize wr = w7 at B7 CL7 CR7 CX7 ⊢
            rcases HRR.out with ⟨hR, hR0, hRc⟩ | ⟨g', hR, hR0, hRc⟩
            focus
              subst hR hRc
              have hz0 : ys.length = 0 := by have := HRL.out; omega
              have hzs : zs = [] := List.eq_nil_of_length_eq_zero (by rw [← HZL.out]; exact hz0)
              have HR0 := Lib.hid hR0
              rw [hz0]
              clear hz0 hR0
              subst hzs
              go_wp2_with fail
              refine (sameInts_yes _ _ _ _ [] _ Cells.nil Cells.nil (by simp)).mono ?_
              rintro e w8 ⟨rfl, b8⟩
              have B8 := Lib.hid (B7.out.trans (b8.mono B7.out.size))
              have CL8 := Lib.hid (CL7.out.below b8)
              have CR8 := Lib.hid (CR7.out.below b8)
              clear b8 B7 CL7 CR7 CX7
              go_wp2_with fail
            rotate_left
            focus
              subst hR
              rw [HZL.out]
              have hzl : (zs.length : Int) ≤ (ro.length : Int) := by have := HRL.out; have := HZL.out; omega
              have hzc : zs.length ≤ rc := by omega
              have z7 : zs.length ≤ 1048576 := by omega
              clear hmc hmle hmle'
              go_wp2_with fail
              refine (sameInts_yes _ _ _ _ zs _ CX7.out (by rw [HZ.out]; exact CR7.out.takeI _) z7).mono ?_
              rintro e w8 ⟨rfl, b8⟩
              have B8 := Lib.hid (B7.out.trans (b8.mono B7.out.size))
              have CL8 := Lib.hid (CL7.out.below b8)
              have CR8 := Lib.hid (CR7.out.below b8)
              clear b8 B7 CL7 CR7 CX7
              go_wp2_with fail
            all_goals
              refine (iRoV_yes CL8.out CR8.out hl' rl7 HRV.out).mono ?_
              rintro e w9 ⟨rfl, b9⟩
              have B9 := Lib.hid (B8.out.trans (b9.mono B8.out.size))
              have CL9 := Lib.hid (CL8.out.below b9)
              have CR9 := Lib.hid (CR8.out.below b9)
              clear b9 B8 CL8 CR8
              go_wp2_with fail
              refine (iRT_any _ _ _ _ xs _ ro _ CL9.out CR9.out hl' rl7).mono ?_
              rintro e w10 ⟨rfl, b10⟩
              rw [HRT.out]
              have B10 := Lib.hid (B9.out.trans (b10.mono B9.out.size))
              clear b10 B9 CL9 CR9
              go_wp2_with fail
              go_ret
              exact ⟨rfl, B10.out⟩
      · have HV := Lib.hid hv
        clear hv
        go_wp2_with fail
        refine (iRM_no _ _ xs _ _ CL1.out hl' HV.out).mono ?_
        rintro e w2 ⟨R, rc, rfl, hoR, b2⟩
        have B2 := Lib.hid (B1.out.trans (b2.mono B1.out.size))
        have CL2 := Lib.hid (CL1.out.below b2)
        clear hoR b2 B1 CL1
        go_wp2_with fail
        refine (sRM_no _ _ xs _ _ CL2.out hl' HV.out).mono ?_
        rintro e w3 ⟨S, sc, rfl, hoS, b3⟩
        have B3 := Lib.hid (B2.out.trans (b3.mono B2.out.size))
        clear hoS b3 B2 CL2
        go_wp2_with fail
        refine (sameInts_yes _ _ _ _ [] _ Cells.nil Cells.nil (by simp)).mono ?_
        rintro e w4 ⟨rfl, b4⟩
        have B4 := Lib.hid (B3.out.trans (b4.mono B3.out.size))
        clear b4 B3
        go_wp2_with fail
        refine (sameInts_yes _ _ _ _ [] _ Cells.nil Cells.nil (by simp)).mono ?_
        rintro e w5 ⟨rfl, b5⟩
        have B5 := Lib.hid (B4.out.trans (b5.mono B4.out.size))
        clear b5 B4
        go_wp2_with fail
        go_ret
        exact ⟨rfl, B5.out⟩

set_option maxRecDepth 100000 in
theorem lifted (os : Os) (started : os.Started) (H : Type) (enc : TypeId × Value → H) :
    ReturnsInHanded {} Try.checked os 20 .any (Rows.fnRosterMakeSpec.pre6 enc Try.prog Try.f20 Rows.fnRosterMakeRow.domain false) (Rows.fnRosterMakeSpec.post enc Try.prog Try.f20 false true false false) := by
  refine returnsInHanded_of_change (C := Try.checked) own started (by kernel_rfl) Try.func20
    (ChangeSpec.witness6 (enc := enc) (C := Try.checked) false ⟨#[], #[.slice none 0 0, .slice none 0 0], []⟩ 8 (by kernel_rfl) (by kernel_rfl) (by kernel_rfl) (by kernel_rfl)) ?_
  intro W base args ds gs before hval0 hW hcnd _
  have hval : ∀ (j : Nat) t v, Try.f20.params[j]? = some t → args[j]? = some v → Value.okWide Try.prog W .any base t v := hval0
  have hW' := hW
  obtain ⟨p, q, hA0, hV, rfl, hfz, hnd⟩ := hW
  have hA : DataW.TrodAll enc Try.prog W 0 (fun _ => true) true Try.f20.params.toList args.toList ds p := hA0
  rw [Try.params20] at hA hval
  obtain ⟨v0, vs0, d0, ds0, p0, q0, hargs, rfl, rfl, h0, r0⟩ := trodAll_cons hA
  obtain ⟨v1, vs1, d1, ds1, p1, q1, rfl, rfl, rfl, h1, r1⟩ := trodAll_cons r0
  obtain ⟨rfl, rfl, rfl⟩ := trodAll_nil r1
  obtain rfl : args = #[v0, v1] := by cases args; simp_all
  obtain ⟨rfl, rfl⟩ := trodVars_none hV
  obtain ⟨A0, len0, cap0, rfl⟩ := okWide_slice Try.underlying31 (hval 0 31 v0 rfl rfl)
  have k0 := h0
  have lt0 : ∀ x ∈ p0, x.block < W.heap.size := by obtain ⟨m, hm⟩ := k0; exact DataW.trod_lt m _ _ _ hm
  obtain ⟨s0, m0, g0⟩ : Bytes W A0 len0 ∧ len0 ≤ cap0 ∧ cap0 ≤ maxLen := by
    obtain ⟨fuel, hf⟩ := h0
    exact arg_bytes hf
  obtain ⟨A1, len1, cap1, rfl⟩ := okWide_slice Try.underlying31 (hval 1 31 v1 rfl rfl)
  have k1 := h1
  have lt1 : ∀ x ∈ p1, x.block < W.heap.size := by obtain ⟨m, hm⟩ := k1; exact DataW.trod_lt m _ _ _ hm
  obtain ⟨s1, m1, g1⟩ : Bytes W A1 len1 ∧ len1 ≤ cap1 ∧ cap1 ≤ maxLen := by
    obtain ⟨fuel, hf⟩ := h1
    exact arg_bytes hf
  clear hA0 hval0
  simp only [List.append_nil] at hW'
  refine (walk A0 len0 cap0 A1 len1 cap1 W s0 m0 g0 s1 m1 g1).mono fun e W' ⟨he, bel⟩ => ?_
  subst he
  exact ⟨_, rfl, _, _, _, [], _, [], hW', (trodAll_cons_mk (shut_bool Try.underlying4 _) trodAll_mk0), (trodAll_cons_mk (Below.trod laidOut (by kernel_rfl) (of_decide_eq_true (by kernel_rfl)) k0 bel lt0) (trodAll_cons_mk (Below.trod laidOut (by kernel_rfl) (of_decide_eq_true (by kernel_rfl)) k1 bel lt1) trodAll_mk0)), rfl, bel.frame _, fun h => by cases h⟩

set_option maxRecDepth 100000 in
theorem closed : joinedFacts Try.prog 20 Try.f20 Rows.fnRosterMakeSpec Rows.fnRosterMakeRow = true := by
  unfold joinedFacts
  rw [enter_ok, lifts_ok, make_ok]
  kernel_rfl

theorem over : Rows.fnRosterMakeRow.holds Try.pinned (OpenSpec.ofChange Rows.fnRosterMakeSpec) :=
  OpenClaim.holds_of_wide 20 Try.f20 rfl rfl rfl rfl rfl rfl rfl ⟨rfl, rfl, rfl, rfl, rfl⟩ rfl rfl rfl rfl rfl (by kernel_rfl) Try.func20 closed
    (of_decide_eq_true (by kernel_rfl)) (by unfold Func.isWrapper; first | (rw [if_pos (by decide +kernel)]; kernel_rfl) | (rw [if_neg (by decide +kernel)]; exact ⟨rfl, rfl⟩))
    (fun os started H enc _ => lifted os started H enc)

theorem proved : Rows.FnRosterMakeSaid :=
  over
#print axioms proved
end Go.Proofs.Ytgimheekaceifaa.fnRosterMake
