/-
  For every input laws.FnTeamsPeak returns true and leaves its arguments as they were (Rows.FnTeamsPeakSaid). Condition: none beyond the given row.
-/
import Derived.Test.YtgimheekaceifaaRows
import Derived.WalkKit
import Derived.ProofKit
import Derived.OpenShut
import Derived.ShutString
import Derived.ChangeOld
import Derived.Below
import Derived.Lib.SmallJoins
import Derived.Test.YtgimheekaceifaaEnter
import Derived.Test.YtgimheekaceifaaOpenB
import Derived.Test.YtgimheekaceifaaDrawR2
import Derived.Test.YtgimheekaceifaaRunsX
namespace Go.Proofs.Ytgimheekaceifaa.fnTeamsPeak
open Go.ChangeShapes Go.WideShapes Go.ChangeAt Go.RowKit Go.Joins
open Go.ChangeMaps (open_string shut_string)
set_option linter.unusedVariables false

theorem own : ownKnob Try.prog.godebug = none := by kernel_rfl
theorem laidOut : laidOutB Try.prog = true := by kernel_rfl

/-- One of the first k runs starts at P. -/
def fdB (xs : List Rn) (P : Int) : Nat → Bool
  | 0 => false
  | k + 1 => fdB xs P k || (rs xs k == P)
theorem fdB_true {xs : List Rn} {P : Int} {j : Nat} : ∀ {n : Nat}, j < n → rs xs j = P → fdB xs P n = true := by
  intro n
  induction n with
  | zero => intro h; omega
  | succ n ih =>
    intro h e
    simp only [fdB, Bool.or_eq_true, beq_iff_eq]
    rcases Nat.lt_or_ge j n with g | g
    · exact .inl (ih g e)
    · exact .inr (by rw [show n = j by omega]; exact e)
set_option maxRecDepth 100000 in
set_option maxHeartbeats 2000000 in
theorem walk (A0 : Option Addr) (len0 cap0 : Nat) (w : World) (s0 : Bytes w A0 len0) (m0 : len0 ≤ cap0) (q0 : cap0 ≤ maxLen) :
    Calls Try.prog 23 #[.slice A0 len0 cap0] w fun e w' => e = .returned (.bool true) ∧ Below w.heap.size w w' := by
  by_cases hl : 1048576 < len0
  · go_enter Try.func23, Try.ntmps23
    go_wp2_with fail
    go_ret
    exact ⟨rfl, Below.refl _ _⟩
  · go_enter Try.func23, Try.ntmps23
    go_wp2_with fail
    refine (drawPeak A0 len0 cap0 w s0 m0 q0).mono ?_
    rintro e w1 ⟨g, c, xs, rest, rfl, hwf, l7, c1, c2, hcl, b1⟩
    have hl' : xs.length ≤ 1048576 := by omega
    have B1 := Lib.hid b1
    have CL1 := Lib.hid hcl
    clear b1 hcl s0 m0 q0
    by_cases hv : ROk xs rest ∧ 0 < xs.length
    · obtain ⟨hv, hz⟩ := hv
      have HV := Lib.hid hv
      obtain ⟨-, r0, r1⟩ := hv
      obtain ⟨P, hP⟩ : ∃ P, P = (pkTo xs rest xs.length).1 := ⟨_, rfl⟩
      obtain ⟨q, hq⟩ : ∃ q, q = most xs rest := ⟨_, rfl⟩
      have HPV := Lib.hid (show pkV xs rest = P by rw [hP]; exact pkV_yes HV.out)
      have HPB := Lib.hid (show pkB xs rest = true by rw [pkB_yes HV.out]; simp; omega)
      have hpk := pkTo_at xs rest xs.length ((pk_num HV.out).mpr hz)
      have hnum := pkTo_num xs rest xs.length
      have hPB : 0 ≤ P ∧ P ≤ 10000 ∧ busyTo xs rest P xs.length = q ∧ fdB xs P xs.length = true := by
        obtain ⟨j, hj, e1, e2, -⟩ := hpk
        obtain ⟨u0, u1, u2⟩ := HV.out.1.times hj
        rw [hP, e1]
        refine ⟨u0, by omega, ?_, fdB_true hj rfl⟩
        rw [← e2, hnum, hq]
        rfl
      obtain ⟨P0, P1, P2, P3⟩ := hPB
      have HP2 := Lib.hid P2
      have HP3 := Lib.hid P3
      have HFI := Lib.hid (show ∀ t, t < P → busyTo xs rest t xs.length < q from fun t ht => by rw [hq]; exact pk_first HV.out.1 ((pk_num HV.out).mpr hz) (by rw [← hP]; exact ht))
      have HT := Lib.hid (show tlV xs rest = (q : Int) by rw [hq]; exact tlV_yes HV.out)
      have hq7 : q ≤ xs.length := by rw [hq]; exact most_le_len _ _
      have q7 : q ≤ 7 := by omega
      clear hP hq P2 P3 hpk hnum
      go_wp2_with fail
      refine (iPk_any _ _ xs _ _ CL1.out hl').mono ?_
      rintro e w2 ⟨rfl, bb2⟩
      have B2 := Lib.hid (B1.out.trans (bb2.mono B1.out.size))
      have CL2 := Lib.hid (CL1.out.below bb2)
      clear bb2 B1 CL1
      rw [HPV.out, HPB.out]
      go_wp2_with fail
      refine (sPk_any _ _ xs _ _ CL2.out hl').mono ?_
      rintro e w3 ⟨rfl, bb3⟩
      have B3 := Lib.hid (B2.out.trans (bb3.mono B2.out.size))
      have CL3 := Lib.hid (CL2.out.below bb3)
      clear bb3 B2 CL2
      rw [HPV.out, HPB.out]
      go_wp2_with fail
      refine (iTeamsBusy_yes _ _ xs _ _ _ CL3.out hl' HV.out P0 P1).mono ?_
      rintro e w4 ⟨rfl, bb4⟩
      have B4 := Lib.hid (B3.out.trans (bb4.mono B3.out.size))
      have CL4 := Lib.hid (CL3.out.below bb4)
      clear bb4 B3 CL3
      rw [HP2.out]
      go_wp2_with fail
      go_loopw [10, 11] (fun f i wr => ∃ k : Nat, k ≤ xs.length ∧ f = .bool (fdB xs P k) ∧ i = .int .i64 k ∧ Below w4.heap.size w4 wr) (fun _ i _ => xs.length - (intOf i).toNat)
      case atStart => exact ⟨0, Nat.zero_le _, rfl, rfl, Below.refl _ _⟩
      case round =>
        obtain ⟨k, hk, rfl, rfl, hbel⟩ := hrel
        have HB := Lib.hid hbel
        clear hbel
        by_cases hlt : k < xs.length
        · have s4 := CL4.out.below HB.out
          obtain ⟨b, o, hA, hb, d0, -⟩ := s4.at2 hlt
          have i1 : (k : Int) < (xs.length : Int) := by omega
          injection hA with hA
          injection hA with hA1 hA2
          subst hA1 hA2
          rw [Nat.zero_add] at d0
          clear s4
          have hn : fdB xs P (k + 1) = (fdB xs P k || (rs xs k == P)) := rfl
          have HN := Lib.hid hn
          clear hn
          cases hf : fdB xs P k
          · have HF := Lib.hid hf
            clear hf
            go_wp2_with fail
            exact ⟨⟨k + 1, by omega, by rw [HN.out, HF.out, Bool.false_or], by go_num, HB.out⟩, by simp [intOf]; omega⟩
          · have HF := Lib.hid hf
            clear hf
            go_wp2_with fail
            exact ⟨⟨k + 1, by omega, by rw [HN.out, HF.out]; rfl, by go_num, HB.out⟩, by simp [intOf]; omega⟩
        · obtain rfl : k = xs.length := by omega
          rw [HP3.out]
          have CL5 := Lib.hid (CL4.out.below HB.out)
          have B5 := Lib.hid (B4.out.trans (HB.out.mono B4.out.size))
          clear HB CL4 B4
          generalize wr = w5 at CL5 B5 ⊢
          have e1 : IntKind.i64.wrap (P - 100) = P - 100 := IntWalk.i64_in _ (by omega)
          go_wp2_with fail
          all_goals
            go_loopw [12] (fun i wr => ∃ t : Int, 0 ≤ t ∧ t ≤ P ∧ i = .int .i64 t ∧ Below w5.heap.size w5 wr) (fun i _ => (P - intOf i).toNat)
            case atStart => exact ⟨_, by omega, by omega, rfl, Below.refl _ _⟩
            case round =>
              obtain ⟨t, t0, t1, rfl, hbel⟩ := hrel
              have HB := Lib.hid hbel
              have s6 := CL5.out.below HB.out
              clear hbel
              by_cases hlt : t < P
              · obtain ⟨p, hp⟩ : ∃ p, p = busyTo xs rest t xs.length := ⟨_, rfl⟩
                have hpq : p < q := by rw [hp]; exact HFI.out t hlt
                go_wp2_with fail
                refine (iTeamsBusy_yes _ _ xs _ _ _ s6 hl' HV.out t0 (by omega)).mono ?_
                rintro e w7 ⟨rfl, b7⟩
                rw [← hp]
                have B7 := Lib.hid (HB.out.trans (b7.mono HB.out.size))
                clear b7 hp s6 HB
                go_wp2_with fail
                exact ⟨⟨t + 1, by omega, by omega, by go_num, B7.out⟩, by simp [intOf]; omega⟩
              · have B6 := Lib.hid (B5.out.trans (HB.out.mono B5.out.size))
                clear HB
                go_wp2_with fail
                refine (iTL_any _ _ xs _ _ s6 hl').mono ?_
                rintro e w7 ⟨rfl, b7⟩
                rw [HT.out]
                have B7 := Lib.hid (B6.out.trans (b7.mono B6.out.size))
                clear b7
                go_wp2_with fail
                go_ret
                exact ⟨rfl, B7.out⟩
    · have HPB := Lib.hid (show pkB xs rest = false by
        by_cases h : ROk xs rest
        · rw [pkB_yes h]; exact decide_eq_false (fun z => hv ⟨h, z⟩)
        · exact pkB_no h)
      obtain ⟨v, hv2⟩ : ∃ v, v = pkV xs rest := ⟨_, rfl⟩
      have HPV := Lib.hid hv2
      clear hv hv2
      go_wp2_with fail
      refine (iPk_any _ _ xs _ _ CL1.out hl').mono ?_
      rintro e w2 ⟨rfl, bb2⟩
      have B2 := Lib.hid (B1.out.trans (bb2.mono B1.out.size))
      have CL2 := Lib.hid (CL1.out.below bb2)
      clear bb2 B1 CL1
      rw [← HPV.out, HPB.out]
      go_wp2_with fail
      refine (sPk_any _ _ xs _ _ CL2.out hl').mono ?_
      rintro e w3 ⟨rfl, bb3⟩
      have B3 := Lib.hid (B2.out.trans (bb3.mono B2.out.size))
      have CL3 := Lib.hid (CL2.out.below bb3)
      clear bb3 B2 CL2
      rw [← HPV.out, HPB.out]
      go_wp2_with fail
      go_ret
      exact ⟨rfl, B3.out⟩

set_option maxRecDepth 100000 in
theorem lifted (os : Os) (started : os.Started) (H : Type) (enc : TypeId × Value → H) :
    ReturnsInHanded {} Try.checked os 23 .any (Rows.fnTeamsPeakSpec.pre6 enc Try.prog Try.f23 Rows.fnTeamsPeakRow.domain false) (Rows.fnTeamsPeakSpec.post enc Try.prog Try.f23 false true false false) := by
  refine returnsInHanded_of_change (C := Try.checked) own started (by kernel_rfl) Try.func23
    (ChangeSpec.witness6 (enc := enc) (C := Try.checked) false ⟨#[], #[.slice none 0 0], []⟩ 8 (by kernel_rfl) (by kernel_rfl) (by kernel_rfl) (by kernel_rfl)) ?_
  intro W base args ds gs before hval0 hW hcnd _
  have hval : ∀ (j : Nat) t v, Try.f23.params[j]? = some t → args[j]? = some v → Value.okWide Try.prog W .any base t v := hval0
  have hW' := hW
  obtain ⟨p, q, hA0, hV, rfl, hfz, hnd⟩ := hW
  have hA : DataW.TrodAll enc Try.prog W 0 (fun _ => true) true Try.f23.params.toList args.toList ds p := hA0
  rw [Try.params23] at hA hval
  obtain ⟨v0, vs0, d0, ds0, p0, q0, hargs, rfl, rfl, h0, r0⟩ := trodAll_cons hA
  obtain ⟨rfl, rfl, rfl⟩ := trodAll_nil r0
  obtain rfl : args = #[v0] := by cases args; simp_all
  obtain ⟨rfl, rfl⟩ := trodVars_none hV
  obtain ⟨A0, len0, cap0, rfl⟩ := okWide_slice Try.underlying31 (hval 0 31 v0 rfl rfl)
  have k0 := h0
  have lt0 : ∀ x ∈ p0, x.block < W.heap.size := by obtain ⟨m, hm⟩ := k0; exact DataW.trod_lt m _ _ _ hm
  obtain ⟨s0, m0, g0⟩ : Bytes W A0 len0 ∧ len0 ≤ cap0 ∧ cap0 ≤ maxLen := by
    obtain ⟨fuel, hf⟩ := h0
    exact arg_bytes hf
  clear hA0 hval0
  simp only [List.append_nil] at hW'
  refine (walk A0 len0 cap0 W s0 m0 g0).mono fun e W' ⟨he, bel⟩ => ?_
  subst he
  exact ⟨_, rfl, _, _, _, [], _, [], hW', (trodAll_cons_mk (shut_bool Try.underlying4 _) trodAll_mk0), (trodAll_cons_mk (Below.trod laidOut (by kernel_rfl) (of_decide_eq_true (by kernel_rfl)) k0 bel lt0) trodAll_mk0), rfl, bel.frame _, fun h => by cases h⟩

set_option maxRecDepth 100000 in
theorem closed : joinedFacts Try.prog 23 Try.f23 Rows.fnTeamsPeakSpec Rows.fnTeamsPeakRow = true := by
  unfold joinedFacts
  rw [enter_ok, lifts_ok, make_ok]
  kernel_rfl

theorem over : Rows.fnTeamsPeakRow.holds Try.pinned (OpenSpec.ofChange Rows.fnTeamsPeakSpec) :=
  OpenClaim.holds_of_wide 23 Try.f23 rfl rfl rfl rfl rfl rfl rfl ⟨rfl, rfl, rfl, rfl, rfl⟩ rfl rfl rfl rfl rfl (by kernel_rfl) Try.func23 closed
    (of_decide_eq_true (by kernel_rfl)) (by unfold Func.isWrapper; first | (rw [if_pos (by decide +kernel)]; kernel_rfl) | (rw [if_neg (by decide +kernel)]; exact ⟨rfl, rfl⟩))
    (fun os started H enc _ => lifted os started H enc)

theorem proved : Rows.FnTeamsPeakSaid :=
  over
#print axioms proved
end Go.Proofs.Ytgimheekaceifaa.fnTeamsPeak
