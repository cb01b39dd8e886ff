/-
  For every input laws.FnTeamsLeast returns true and leaves its arguments as they were (Rows.FnTeamsLeastSaid). Condition: none beyond the given row.
-/
import Derived.Test.YtgimheekaceifaaRows
import Derived.WalkKit
import Derived.ProofKit
import Derived.OpenShut
import Derived.ShutString
import Derived.ChangeOld
import Derived.Below
import Derived.Lib.SmallJoins
import Derived.Test.YtgimheekaceifaaEnter
import Derived.Test.YtgimheekaceifaaOpenB
import Derived.Test.YtgimheekaceifaaDrawR2
import Derived.Test.YtgimheekaceifaaRunsX
namespace Go.Proofs.Ytgimheekaceifaa.fnTeamsLeast
open Go.ChangeShapes Go.WideShapes Go.ChangeAt Go.RowKit Go.Joins
open Go.ChangeMaps (open_string shut_string)
set_option linter.unusedVariables false

theorem own : ownKnob Try.prog.godebug = none := by kernel_rfl
theorem laidOut : laidOutB Try.prog = true := by kernel_rfl

set_option maxRecDepth 100000 in
set_option maxHeartbeats 2000000 in
theorem walk (A0 : Option Addr) (len0 cap0 : Nat) (w : World) (s0 : Bytes w A0 len0) (m0 : len0 ≤ cap0) (q0 : cap0 ≤ maxLen) :
    Calls Try.prog 22 #[.slice A0 len0 cap0] w fun e w' => e = .returned (.bool true) ∧ Below w.heap.size w w' := by
  by_cases hl : 1048576 < len0
  · go_enter Try.func22, Try.ntmps22
    go_wp2_with fail
    go_ret
    exact ⟨rfl, Below.refl _ _⟩
  · go_enter Try.func22, Try.ntmps22
    go_wp2_with fail
    refine (drawLeast A0 len0 cap0 w s0 m0 q0).mono ?_
    rintro e w1 ⟨g, c, xs, rest, rfl, hwf, l7, c1, c2, hcl, b1⟩
    have hl' : xs.length ≤ 1048576 := by omega
    have B1 := Lib.hid b1
    have CL1 := Lib.hid hcl
    clear b1 hcl s0 m0 q0
    by_cases hv : ROk xs rest
    · have HV := Lib.hid hv
      obtain ⟨-, r0, r1⟩ := hv
      obtain ⟨q, hq⟩ : ∃ q, q = most xs rest := ⟨_, rfl⟩
      have HT := Lib.hid (show tlV xs rest = (q : Int) by rw [hq]; exact tlV_yes HV.out)
      have hq7 : q ≤ xs.length := by rw [hq]; exact most_le_len _ _
      have HQ := Lib.hid hq
      clear hq
      have q7 : q ≤ 7 := by omega
      go_wp2_with fail
      refine (iTL_any _ _ xs _ _ CL1.out hl').mono ?_
      rintro e w2 ⟨rfl, bb2⟩
      have B2 := Lib.hid (B1.out.trans (bb2.mono B1.out.size))
      have CL2 := Lib.hid (CL1.out.below bb2)
      clear bb2 B1 CL1
      rw [HT.out]
      go_wp2_with fail
      refine (sTL_any _ _ xs _ _ CL2.out hl').mono ?_
      rintro e w3 ⟨rfl, bb3⟩
      have B3 := Lib.hid (B2.out.trans (bb3.mono B2.out.size))
      have CL3 := Lib.hid (CL2.out.below bb3)
      clear bb3 B2 CL2
      rw [HT.out]
      go_wp2_with fail
      go_loopw [7] (fun i wr => ∃ k : Nat, k ≤ xs.length ∧ i = .int .i64 k ∧ Below w3.heap.size w3 wr) (fun i _ => xs.length - (intOf i).toNat)
      case atStart => exact ⟨0, Nat.zero_le _, rfl, Below.refl _ _⟩
      case round =>
        obtain ⟨k, hk, rfl, hbel⟩ := hrel
        have HB := Lib.hid hbel
        clear hbel
        by_cases hlt : k < xs.length
        · have s4 := CL3.out.below HB.out
          obtain ⟨b, o, hA, hb, d0, -⟩ := s4.at2 hlt
          obtain ⟨u0, u1, u2⟩ := HV.out.1.times hlt
          have i1 : (k : Int) < (xs.length : Int) := by omega
          obtain ⟨p, hp⟩ : ∃ p, p = busyTo xs rest (rs xs k) xs.length := ⟨_, rfl⟩
          have hpq : p ≤ q := by rw [hp, HQ.out]; exact most_ge xs rest hlt
          injection hA with hA
          injection hA with hA1 hA2
          subst hA1 hA2
          rw [Nat.zero_add] at d0
          have S4 := Lib.hid s4
          clear s4
          go_wp2_with fail
          refine (iTeamsBusy_yes _ _ xs _ _ _ S4.out hl' HV.out u0 (by omega)).mono ?_
          rintro e w4 ⟨rfl, b4⟩
          rw [← hp]
          have B4 := Lib.hid (HB.out.trans (b4.mono HB.out.size))
          clear b4 hp S4 HB d0
          go_wp2_with fail
          exact ⟨⟨k + 1, by omega, by go_num, B4.out⟩, by simp [intOf]; omega⟩
        · have B4 := Lib.hid (B3.out.trans (HB.out.mono B3.out.size))
          have CL4 := Lib.hid (CL3.out.below HB.out)
          obtain ⟨P, hP⟩ : ∃ P, P = (pkTo xs rest xs.length).1 := ⟨_, rfl⟩
          have HPV := Lib.hid (show pkV xs rest = P by rw [hP]; exact pkV_yes HV.out)
          have hLL : rest = 600 ∨ ((q : Int) ≤ tlV xs (rest + 1)) := by
            by_cases h6 : rest = 600
            · exact .inl h6
            · refine .inr ?_
              rw [tlV_yes (rest := rest + 1) ⟨HV.out.1, by omega, by omega⟩, HQ.out]
              have := most_rest (xs := xs) (rest := rest) (rest' := rest + 1) (by omega)
              omega
          obtain ⟨L, hL⟩ : ∃ L, L = tlV xs (rest + 1) := ⟨_, rfl⟩
          rw [← hL] at hLL
          have HLV := Lib.hid hL
          clear hL HB CL3 B3
          rcases Nat.eq_zero_or_pos xs.length with hz | hz
          · have HPB := Lib.hid (show pkB xs rest = false by rw [pkB_yes HV.out, hz]; rfl)
            have hq0 : q = 0 := by omega
            have hx : (xs.length : Int) = 0 := by omega
            subst hq0
            clear hP hz
            go_wp2_with fail
            refine (iPk_any _ _ xs _ _ CL4.out hl').mono ?_
            rintro e w5 ⟨rfl, b5⟩
            rw [HPV.out, HPB.out]
            have B5 := Lib.hid (B4.out.trans (b5.mono B4.out.size))
            have CL5 := Lib.hid (CL4.out.below b5)
            clear b5 B4 CL4
            go_wp2_with fail
            refine (iTL_any _ _ xs _ _ CL5.out hl').mono ?_
            rintro e w6 ⟨rfl, b6⟩
            rw [← HLV.out]
            have B6 := Lib.hid (B5.out.trans (b6.mono B5.out.size))
            clear b6 B5 CL5
            by_cases h6 : rest = 600
            · clear hLL
              subst h6
              go_wp2_with fail
              go_ret
              exact ⟨rfl, B6.out⟩
            · have hl6 : (0 : Int) ≤ L := by omega
              have h6' : (rest == 600) = false := by simp [h6]
              clear hLL h6
              go_wp2_with fail
              go_ret
              exact ⟨rfl, B6.out⟩
          · have HPB := Lib.hid (show pkB xs rest = true by rw [pkB_yes HV.out]; simp; omega)
            have hx : ¬ (xs.length : Int) = 0 := by omega
            have hx2 : ((xs.length : Int) == 0) = false := by rw [beq_eq_false_iff_ne]; omega
            have hpk := pkTo_at xs rest xs.length ((pk_num HV.out).mpr hz)
            have hnum := pkTo_num xs rest xs.length
            have hPB : 0 ≤ P ∧ P ≤ 10000 ∧ busyTo xs rest P xs.length = q := by
              obtain ⟨j, hj, e1, e2, -⟩ := hpk
              obtain ⟨u0, u1, u2⟩ := HV.out.1.times hj
              rw [hP, e1]
              refine ⟨u0, by omega, ?_⟩
              rw [← e2, hnum, HQ.out]
              rfl
            obtain ⟨P0, P1, P2⟩ := hPB
            have HP2 := Lib.hid P2
            clear hP hz P2 hpk hnum
            go_wp2_with fail
            refine (iPk_any _ _ xs _ _ CL4.out hl').mono ?_
            rintro e w5 ⟨rfl, b5⟩
            rw [HPV.out, HPB.out]
            have B5 := Lib.hid (B4.out.trans (b5.mono B4.out.size))
            have CL5 := Lib.hid (CL4.out.below b5)
            clear b5 B4 CL4
            go_wp2_with fail
            refine (iTL_any _ _ xs _ _ CL5.out hl').mono ?_
            rintro e w6 ⟨rfl, b6⟩
            rw [← HLV.out]
            have B6 := Lib.hid (B5.out.trans (b6.mono B5.out.size))
            have CL6 := Lib.hid (CL5.out.below b6)
            clear b6 B5 CL5
            by_cases h6 : rest = 600
            · clear hLL
              subst h6
              go_wp2_with fail
              refine (iTeamsBusy_yes _ _ xs _ _ _ CL6.out hl' HV.out P0 P1).mono ?_
              rintro e w7 ⟨rfl, b7⟩
              rw [HP2.out]
              have B7 := Lib.hid (B6.out.trans (b7.mono B6.out.size))
              clear b7
              go_wp2_with fail
              go_ret
              exact ⟨rfl, B7.out⟩
            · have hl6 : (q : Int) ≤ L := by omega
              have h6' : (rest == 600) = false := by simp [h6]
              clear hLL h6
              go_wp2_with fail
              refine (iTeamsBusy_yes _ _ xs _ _ _ CL6.out hl' HV.out P0 P1).mono ?_
              rintro e w7 ⟨rfl, b7⟩
              rw [HP2.out]
              have B7 := Lib.hid (B6.out.trans (b7.mono B6.out.size))
              clear b7
              go_wp2_with fail
              go_ret
              exact ⟨rfl, B7.out⟩
    · have HT := Lib.hid (tlV_no hv)
      clear hv
      go_wp2_with fail
      refine (iTL_any _ _ xs _ _ CL1.out hl').mono ?_
      rintro e w2 ⟨rfl, bb2⟩
      have B2 := Lib.hid (B1.out.trans (bb2.mono B1.out.size))
      have CL2 := Lib.hid (CL1.out.below bb2)
      clear bb2 B1 CL1
      rw [HT.out]
      go_wp2_with fail
      refine (sTL_any _ _ xs _ _ CL2.out hl').mono ?_
      rintro e w3 ⟨rfl, bb3⟩
      have B3 := Lib.hid (B2.out.trans (bb3.mono B2.out.size))
      have CL3 := Lib.hid (CL2.out.below bb3)
      clear bb3 B2 CL2
      rw [HT.out]
      go_wp2_with fail
      go_ret
      exact ⟨rfl, B3.out⟩

set_option maxRecDepth 100000 in
theorem lifted (os : Os) (started : os.Started) (H : Type) (enc : TypeId × Value → H) :
    ReturnsInHanded {} Try.checked os 22 .any (Rows.fnTeamsLeastSpec.pre6 enc Try.prog Try.f22 Rows.fnTeamsLeastRow.domain false) (Rows.fnTeamsLeastSpec.post enc Try.prog Try.f22 false true false false) := by
  refine returnsInHanded_of_change (C := Try.checked) own started (by kernel_rfl) Try.func22
    (ChangeSpec.witness6 (enc := enc) (C := Try.checked) false ⟨#[], #[.slice none 0 0], []⟩ 8 (by kernel_rfl) (by kernel_rfl) (by kernel_rfl) (by kernel_rfl)) ?_
  intro W base args ds gs before hval0 hW hcnd _
  have hval : ∀ (j : Nat) t v, Try.f22.params[j]? = some t → args[j]? = some v → Value.okWide Try.prog W .any base t v := hval0
  have hW' := hW
  obtain ⟨p, q, hA0, hV, rfl, hfz, hnd⟩ := hW
  have hA : DataW.TrodAll enc Try.prog W 0 (fun _ => true) true Try.f22.params.toList args.toList ds p := hA0
  rw [Try.params22] at hA hval
  obtain ⟨v0, vs0, d0, ds0, p0, q0, hargs, rfl, rfl, h0, r0⟩ := trodAll_cons hA
  obtain ⟨rfl, rfl, rfl⟩ := trodAll_nil r0
  obtain rfl : args = #[v0] := by cases args; simp_all
  obtain ⟨rfl, rfl⟩ := trodVars_none hV
  obtain ⟨A0, len0, cap0, rfl⟩ := okWide_slice Try.underlying31 (hval 0 31 v0 rfl rfl)
  have k0 := h0
  have lt0 : ∀ x ∈ p0, x.block < W.heap.size := by obtain ⟨m, hm⟩ := k0; exact DataW.trod_lt m _ _ _ hm
  obtain ⟨s0, m0, g0⟩ : Bytes W A0 len0 ∧ len0 ≤ cap0 ∧ cap0 ≤ maxLen := by
    obtain ⟨fuel, hf⟩ := h0
    exact arg_bytes hf
  clear hA0 hval0
  simp only [List.append_nil] at hW'
  refine (walk A0 len0 cap0 W s0 m0 g0).mono fun e W' ⟨he, bel⟩ => ?_
  subst he
  exact ⟨_, rfl, _, _, _, [], _, [], hW', (trodAll_cons_mk (shut_bool Try.underlying4 _) trodAll_mk0), (trodAll_cons_mk (Below.trod laidOut (by kernel_rfl) (of_decide_eq_true (by kernel_rfl)) k0 bel lt0) trodAll_mk0), rfl, bel.frame _, fun h => by cases h⟩

set_option maxRecDepth 100000 in
theorem closed : joinedFacts Try.prog 22 Try.f22 Rows.fnTeamsLeastSpec Rows.fnTeamsLeastRow = true := by
  unfold joinedFacts
  rw [enter_ok, lifts_ok, make_ok]
  kernel_rfl

theorem over : Rows.fnTeamsLeastRow.holds Try.pinned (OpenSpec.ofChange Rows.fnTeamsLeastSpec) :=
  OpenClaim.holds_of_wide 22 Try.f22 rfl rfl rfl rfl rfl rfl rfl ⟨rfl, rfl, rfl, rfl, rfl⟩ rfl rfl rfl rfl rfl (by kernel_rfl) Try.func22 closed
    (of_decide_eq_true (by kernel_rfl)) (by unfold Func.isWrapper; first | (rw [if_pos (by decide +kernel)]; kernel_rfl) | (rw [if_neg (by decide +kernel)]; exact ⟨rfl, rfl⟩))
    (fun os started H enc _ => lifted os started H enc)

theorem proved : Rows.FnTeamsLeastSaid :=
  over
#print axioms proved
end Go.Proofs.Ytgimheekaceifaa.fnTeamsLeast
