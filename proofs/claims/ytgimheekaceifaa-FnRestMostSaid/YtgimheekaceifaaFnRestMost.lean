/-
  For every input laws.FnRestMost returns true and leaves its arguments as they were (Rows.FnRestMostSaid). Condition: none beyond the given row.
-/
import Derived.Test.YtgimheekaceifaaRows
import Derived.WalkKit
import Derived.ProofKit
import Derived.OpenShut
import Derived.ShutString
import Derived.ChangeOld
import Derived.Below
import Derived.Lib.SmallJoins
import Derived.Test.YtgimheekaceifaaEnter
import Derived.Test.YtgimheekaceifaaOpenB
import Derived.Test.YtgimheekaceifaaDrawR3
import Derived.Test.YtgimheekaceifaaRunsX
namespace Go.Proofs.Ytgimheekaceifaa.fnRestMost
open Go.ChangeShapes Go.WideShapes Go.ChangeAt Go.RowKit Go.Joins
open Go.ChangeMaps (open_string shut_string)
set_option linter.unusedVariables false

theorem own : ownKnob Try.prog.godebug = none := by kernel_rfl
theorem laidOut : laidOutB Try.prog = true := by kernel_rfl

theorem rm_cases (xs : List Rn) (teams : Int) : rmV xs teams = -1 ∨ ∃ v : Nat, rmV xs teams = (v : Int) ∧ v < 601 ∧ tlV xs (v : Int) ≤ teams ∧ (v = 600 ∨ teams < tlV xs ((v : Int) + 1)) ∧ (teams = 12 ∨ (v : Int) ≤ rmV xs (teams + 1)) ∧ 1 ≤ teams ∧ teams ≤ 12 := by
  by_cases hc : RMc xs teams
  · rw [rmV_yes hc]
    obtain ⟨hv, t1, t2⟩ := hc
    rcases rmFrom_cases xs teams 601 with ⟨h1, -⟩ | ⟨v, h1, h2, h3, h4⟩
    · exact .inl h1
    · refine .inr ⟨v, h1, h2, ?_, ?_, ?_, t1, t2⟩
      · rw [tlV_yes ⟨hv, by omega, by omega⟩]; exact h3
      · by_cases h6 : v = 600
        · exact .inl h6
        · refine .inr ?_
          have := h4 (v + 1) (by omega) (by omega)
          rw [show (v : Int) + 1 = ((v + 1 : Nat) : Int) by omega, tlV_yes ⟨hv, by omega, by omega⟩]
          exact this
      · by_cases h12 : teams = 12
        · exact .inl h12
        · refine .inr ?_
          rw [rmV_yes ⟨hv, by omega, by omega⟩]
          rcases rmFrom_cases xs (teams + 1) 601 with ⟨g1, g2⟩ | ⟨u, g1, g2, g3, g4⟩
          · have := g2 v h2; omega
          · rw [g1]
            rcases Nat.lt_or_ge u v with k | k
            · have := g4 v k h2; omega
            · omega
  · exact .inl (rmV_no hc)
set_option maxRecDepth 100000 in
set_option maxHeartbeats 2000000 in
theorem walk (A0 : Option Addr) (len0 cap0 : Nat) (w : World) (s0 : Bytes w A0 len0) (m0 : len0 ≤ cap0) (q0 : cap0 ≤ maxLen) :
    Calls Try.prog 19 #[.slice A0 len0 cap0] w fun e w' => e = .returned (.bool true) ∧ Below w.heap.size w w' := by
  by_cases hl : 1048576 < len0
  · go_enter Try.func19, Try.ntmps19
    go_wp2_with fail
    go_ret
    exact ⟨rfl, Below.refl _ _⟩
  · go_enter Try.func19, Try.ntmps19
    go_wp2_with fail
    refine (drawRest A0 len0 cap0 w s0 m0 q0).mono ?_
    rintro e w1 ⟨g, c, xs, teams, rfl, hwf, l7, c1, c2, hcl, b1⟩
    have hl' : xs.length ≤ 1048576 := by omega
    have B1 := Lib.hid b1
    have CL1 := Lib.hid hcl
    clear b1 hcl s0 m0 q0
    rcases rm_cases xs teams with hm | ⟨v, hm, v6, ht1, ht2, ht3, t1, t12⟩
    · have HM := Lib.hid hm
      clear hm
      go_wp2_with fail
      refine (iRest_any _ _ xs _ _ CL1.out hl').mono ?_
      rintro e w2 ⟨rfl, bb2⟩
      have B2 := Lib.hid (B1.out.trans (bb2.mono B1.out.size))
      have CL2 := Lib.hid (CL1.out.below bb2)
      clear bb2 B1 CL1
      rw [HM.out]
      go_wp2_with fail
      refine (sRest_any _ _ xs _ _ CL2.out hl').mono ?_
      rintro e w3 ⟨rfl, bb3⟩
      have B3 := Lib.hid (B2.out.trans (bb3.mono B2.out.size))
      have CL3 := Lib.hid (CL2.out.below bb3)
      clear bb3 B2 CL2
      rw [HM.out]
      go_wp2_with fail
      go_ret
      exact ⟨rfl, B3.out⟩
    · obtain ⟨p, hp⟩ : ∃ p, p = tlV xs (v : Int) := ⟨_, rfl⟩
      obtain ⟨p2, hp2⟩ : ∃ p2, p2 = tlV xs ((v : Int) + 1) := ⟨_, rfl⟩
      obtain ⟨f, hf⟩ : ∃ f, f = rmV xs (teams + 1) := ⟨_, rfl⟩
      rw [← hp] at ht1
      rw [← hp2] at ht2
      rw [← hf] at ht3
      have HM := Lib.hid hm
      have HP := Lib.hid hp
      have HP2 := Lib.hid hp2
      have HF := Lib.hid hf
      have HT2 := Lib.hid ht2
      have HT3 := Lib.hid ht3
      clear hm hp hp2 hf ht2 ht3
      go_wp2_with fail
      refine (iRest_any _ _ xs _ _ CL1.out hl').mono ?_
      rintro e w2 ⟨rfl, bb2⟩
      have B2 := Lib.hid (B1.out.trans (bb2.mono B1.out.size))
      have CL2 := Lib.hid (CL1.out.below bb2)
      clear bb2 B1 CL1
      rw [HM.out]
      go_wp2_with fail
      refine (sRest_any _ _ xs _ _ CL2.out hl').mono ?_
      rintro e w3 ⟨rfl, bb3⟩
      have B3 := Lib.hid (B2.out.trans (bb3.mono B2.out.size))
      have CL3 := Lib.hid (CL2.out.below bb3)
      clear bb3 B2 CL2
      rw [HM.out]
      go_wp2_with fail
      refine (iRest_any _ _ xs _ _ CL3.out hl').mono ?_
      rintro e w4 ⟨rfl, bb4⟩
      have B4 := Lib.hid (B3.out.trans (bb4.mono B3.out.size))
      have CL4 := Lib.hid (CL3.out.below bb4)
      clear bb4 B3 CL3
      rw [← HF.out]
      go_wp2_with fail
      refine (iTL_any _ _ xs _ _ CL4.out hl').mono ?_
      rintro e w5 ⟨rfl, bb5⟩
      have B5 := Lib.hid (B4.out.trans (bb5.mono B4.out.size))
      have CL5 := Lib.hid (CL4.out.below bb5)
      clear bb5 B4 CL4
      rw [← HP.out]
      by_cases h6 : v = 600
      · subst h6
        have q6 : ((600 : Nat) : Int) = 600 := rfl
        have ht3 := HT3.out
        by_cases h12 : teams = 12
        · subst h12
          go_wp2_with fail
          go_ret
          exact ⟨rfl, B5.out⟩
        · have h12' : (teams == 12) = false := by simp [h12]
          have hle : (600 : Int) ≤ f := by omega
          clear ht3 h12
          go_wp2_with fail
          go_ret
          exact ⟨rfl, B5.out⟩
      · have h6' : ((v : Int) == 600) = false := by rw [beq_eq_false_iff_ne]; omega
        have hp3 : teams < p2 := by have := HT2.out; omega
        go_wp2_with fail
        refine (iTL_any _ _ xs _ _ CL5.out hl').mono ?_
        rintro e w6 ⟨rfl, bb6⟩
        have B6 := Lib.hid (B5.out.trans (bb6.mono B5.out.size))
        have CL6 := Lib.hid (CL5.out.below bb6)
        clear bb6 B5 CL5
        rw [← HP2.out]
        have ht3 := HT3.out
        by_cases h12 : teams = 12
        · subst h12
          go_wp2_with fail
          go_ret
          exact ⟨rfl, B6.out⟩
        · have h12' : (teams == 12) = false := by simp [h12]
          have hle : (v : Int) ≤ f := by omega
          clear ht3 h12
          go_wp2_with fail
          go_ret
          exact ⟨rfl, B6.out⟩

set_option maxRecDepth 100000 in
theorem lifted (os : Os) (started : os.Started) (H : Type) (enc : TypeId × Value → H) :
    ReturnsInHanded {} Try.checked os 19 .any (Rows.fnRestMostSpec.pre6 enc Try.prog Try.f19 Rows.fnRestMostRow.domain false) (Rows.fnRestMostSpec.post enc Try.prog Try.f19 false true false false) := by
  refine returnsInHanded_of_change (C := Try.checked) own started (by kernel_rfl) Try.func19
    (ChangeSpec.witness6 (enc := enc) (C := Try.checked) false ⟨#[], #[.slice none 0 0], []⟩ 8 (by kernel_rfl) (by kernel_rfl) (by kernel_rfl) (by kernel_rfl)) ?_
  intro W base args ds gs before hval0 hW hcnd _
  have hval : ∀ (j : Nat) t v, Try.f19.params[j]? = some t → args[j]? = some v → Value.okWide Try.prog W .any base t v := hval0
  have hW' := hW
  obtain ⟨p, q, hA0, hV, rfl, hfz, hnd⟩ := hW
  have hA : DataW.TrodAll enc Try.prog W 0 (fun _ => true) true Try.f19.params.toList args.toList ds p := hA0
  rw [Try.params19] at hA hval
  obtain ⟨v0, vs0, d0, ds0, p0, q0, hargs, rfl, rfl, h0, r0⟩ := trodAll_cons hA
  obtain ⟨rfl, rfl, rfl⟩ := trodAll_nil r0
  obtain rfl : args = #[v0] := by cases args; simp_all
  obtain ⟨rfl, rfl⟩ := trodVars_none hV
  obtain ⟨A0, len0, cap0, rfl⟩ := okWide_slice Try.underlying31 (hval 0 31 v0 rfl rfl)
  have k0 := h0
  have lt0 : ∀ x ∈ p0, x.block < W.heap.size := by obtain ⟨m, hm⟩ := k0; exact DataW.trod_lt m _ _ _ hm
  obtain ⟨s0, m0, g0⟩ : Bytes W A0 len0 ∧ len0 ≤ cap0 ∧ cap0 ≤ maxLen := by
    obtain ⟨fuel, hf⟩ := h0
    exact arg_bytes hf
  clear hA0 hval0
  simp only [List.append_nil] at hW'
  refine (walk A0 len0 cap0 W s0 m0 g0).mono fun e W' ⟨he, bel⟩ => ?_
  subst he
  exact ⟨_, rfl, _, _, _, [], _, [], hW', (trodAll_cons_mk (shut_bool Try.underlying4 _) trodAll_mk0), (trodAll_cons_mk (Below.trod laidOut (by kernel_rfl) (of_decide_eq_true (by kernel_rfl)) k0 bel lt0) trodAll_mk0), rfl, bel.frame _, fun h => by cases h⟩

set_option maxRecDepth 100000 in
theorem closed : joinedFacts Try.prog 19 Try.f19 Rows.fnRestMostSpec Rows.fnRestMostRow = true := by
  unfold joinedFacts
  rw [enter_ok, lifts_ok, make_ok]
  kernel_rfl

theorem over : Rows.fnRestMostRow.holds Try.pinned (OpenSpec.ofChange Rows.fnRestMostSpec) :=
  OpenClaim.holds_of_wide 19 Try.f19 rfl rfl rfl rfl rfl rfl rfl ⟨rfl, rfl, rfl, rfl, rfl⟩ rfl rfl rfl rfl rfl (by kernel_rfl) Try.func19 closed
    (of_decide_eq_true (by kernel_rfl)) (by unfold Func.isWrapper; first | (rw [if_pos (by decide +kernel)]; kernel_rfl) | (rw [if_neg (by decide +kernel)]; exact ⟨rfl, rfl⟩))
    (fun os started H enc _ => lifted os started H enc)

theorem proved : Rows.FnRestMostSaid :=
  over
#print axioms proved
end Go.Proofs.Ytgimheekaceifaa.fnRestMost
