/-
  For every input laws.FnRosterMinutes returns true and leaves its arguments as they were (Rows.FnRosterMinutesSaid). Condition: none beyond the given row.
-/
import Derived.Test.YtgimheekaceifaaRows
import Derived.WalkKit
import Derived.ProofKit
import Derived.OpenShut
import Derived.ShutString
import Derived.ChangeOld
import Derived.Below
import Derived.Lib.SmallJoins
import Derived.Test.YtgimheekaceifaaEnter
import Derived.Test.YtgimheekaceifaaOpenB
import Derived.Test.YtgimheekaceifaaDrawR5
import Derived.Test.YtgimheekaceifaaRunsZ
import Derived.Test.YtgimheekaceifaaRunsP
import Derived.Deep.RegionHeld3
namespace Go.Proofs.Ytgimheekaceifaa.fnRosterMinutes
open Go.ChangeShapes Go.WideShapes Go.ChangeAt Go.RowKit Go.Joins
open Go.ChangeMaps (open_string shut_string)
set_option linter.unusedVariables false

theorem own : ownKnob Try.prog.godebug = none := by kernel_rfl
theorem laidOut : laidOutB Try.prog = true := by kernel_rfl

open Classical in
/-- How many of the first k numbers are positive. -/
noncomputable def cnP (zs : List Int) : Nat → Nat
  | 0 => 0
  | k + 1 => cnP zs k + if 0 < ri zs k then 1 else 0
theorem cnP_le (zs : List Int) (k : Nat) : cnP zs k ≤ k := by
  induction k with
  | zero => exact Nat.le_refl _
  | succ k ih => simp only [cnP]; split <;> omega
open Classical in
theorem cnP_diff {xs : List Rn} {rest : Int} {ro zs : List Int} (hv : RoValid xs rest ro) (h : ∀ t : Nat, t < 12 → (0 < ri zs t ↔ ∃ j, j < ro.length ∧ ri ro j = (t : Int))) : cnP zs 12 = diffTo ro ro.length := by
  have hr : ∀ k, k < ro.length → 0 ≤ ri ro k ∧ ri ro k < ((12 : Nat) : Int) := fun k hk => by
    rw [hv.2.1] at hk
    have := hv.2.2 k hk
    exact ⟨this.1, by have := this.2.1; omega⟩
  rw [← count_diff ro 12 ro.length hr]
  have key : ∀ c, c ≤ 12 → cnP zs c = sumTo (fun t => if ∃ j, j < ro.length ∧ ri ro j = (t : Int) then 1 else 0) c := by
    intro c
    induction c with
    | zero => intro _; rfl
    | succ c ih =>
      intro hc
      simp only [cnP, sumTo]
      rw [ih (by omega)]
      congr 1
      by_cases hp : ∃ j, j < ro.length ∧ ri ro j = (c : Int)
      · rw [if_pos hp, if_pos ((h c (by omega)).mpr hp)]
      · rw [if_neg hp, if_neg (fun g => hp ((h c (by omega)).mp g))]
  exact key 12 (Nat.le_refl _)
set_option maxRecDepth 100000 in
set_option maxHeartbeats 2000000 in
theorem walk (A0 : Option Addr) (len0 cap0 : Nat) (w : World) (s0 : Bytes w A0 len0) (m0 : len0 ≤ cap0) (q0 : cap0 ≤ maxLen) :
    Calls Try.prog 21 #[.slice A0 len0 cap0] w fun e w' => e = .returned (.bool true) ∧ Below w.heap.size w w' := by
  by_cases hl : 1048576 < len0
  · go_enter Try.func21, Try.ntmps21
    go_wp2_with fail
    go_ret
    exact ⟨rfl, Below.refl _ _⟩
  · go_enter Try.func21, Try.ntmps21
    go_wp2_with fail
    refine (drawMinutes A0 len0 cap0 w s0 m0 q0).mono ?_
    rintro e w1 ⟨g, c, xs, rest, R, rc, ro, rfl, hwf, l7, c1, c2, r8, hRf, hcl, hcr, b1⟩
    have hl' : xs.length ≤ 1048576 := by omega
    have B1 := Lib.hid b1
    have CL1 := Lib.hid hcl
    clear b1 hcl s0 m0 q0
    have CR1 := Lib.hid hcr
    have rl' : ro.length ≤ 1048576 := by omega
    clear hcr hRf
    by_cases hv : RoValid xs rest ro
    · have HV := Lib.hid hv
      obtain ⟨zs, hz⟩ : ∃ zs, zs = mnL xs ro xs.length := ⟨_, rfl⟩
      have HZ := Lib.hid hz
      have hz12 : zs.length = 12 := by rw [hz, mnL_len]
      have HZ12 := Lib.hid hz12
      have HAT := Lib.hid (show ∀ t : Nat, t < 12 → ri zs t = mnTo xs ro (t : Int) xs.length from fun t ht => by rw [hz]; exact mnL_at xs ro xs.length ht)
      have HBD := Lib.hid (show ∀ j, j < zs.length → 0 ≤ ri zs j ∧ ri zs j ≤ 200000 from fun j hj => by
        rw [HAT.out j (by omega)]
        have := mnTo_bounds (ro := ro) (t := (j : Int)) hv.1.1 xs.length (Nat.le_refl _)
        omega)
      have HPO := Lib.hid (show ∀ t : Nat, t < 12 → (0 < ri zs t ↔ haB ro (t : Int) ro.length = true) from fun t ht => by
        rw [HAT.out t ht, mnTo_pos hv.1.1 xs.length (Nat.le_refl _), haB_iff, hv.2.1])
      have HSUM := Lib.hid (show isum (ri zs) zs.length = allTo xs xs.length from by
        rw [hz12, ← minutes_sum xs ro xs.length (fun k hk => ⟨(hv.2.2 k hk).1, by have := (hv.2.2 k hk).2.1; omega⟩)]
        exact isum_congr fun j hj => HAT.out j hj)
      have HRT := Lib.hid (rtV_yes hv)
      have HCNT := Lib.hid (show cnP zs 12 = diffTo ro ro.length from cnP_diff hv fun t ht => by rw [HPO.out t ht, haB_iff])
      have HAB := Lib.hid (allTo_bounds hv.1.1)
      have HTM := Lib.hid (show ∀ k, k < xs.length → 0 ≤ rs xs k ∧ rs xs k < re xs k ∧ re xs k ≤ 10000 from fun k hk => hv.1.1.times hk)
      have zl : zs.length ≤ 1048576 := by omega
      clear hv hz hz12
      go_wp2_with fail
      refine (iMin_yes _ _ _ _ xs _ ro zs _ CL1.out CR1.out hl' rl' HV.out HZ.out).mono ?_
      rintro e w2 ⟨Z, zc, rfl, hcZ, -, b2⟩
      have B2 := Lib.hid (B1.out.trans (b2.mono B1.out.size))
      have CL2 := Lib.hid (CL1.out.below b2)
      have CR2 := Lib.hid (CR1.out.below b2)
      have CZ2 := Lib.hid hcZ
      clear hcZ b2 B1 CL1 CR1
      go_wp2_with fail
      refine (sMin_yes _ _ _ _ xs _ ro zs _ CL2.out CR2.out hl' rl' HV.out HZ.out).mono ?_
      rintro e w3 ⟨S, sc, rfl, hcS, -, b3⟩
      have B3 := Lib.hid (B2.out.trans (b3.mono B2.out.size))
      have CL3 := Lib.hid (CL2.out.below b3)
      have CR3 := Lib.hid (CR2.out.below b3)
      have CZ3 := Lib.hid (CZ2.out.below b3)
      have CS3 := Lib.hid hcS
      clear hcS b3 B2 CL2 CR2 CZ2
      go_wp2_with fail
      refine (sameInts_yes _ _ _ _ zs _ CZ3.out CS3.out zl).mono ?_
      rintro e w4 ⟨rfl, b4⟩
      have B4 := Lib.hid (B3.out.trans (b4.mono B3.out.size))
      have CL4 := Lib.hid (CL3.out.below b4)
      have CR4 := Lib.hid (CR3.out.below b4)
      have CZ4 := Lib.hid (CZ3.out.below b4)
      clear b4 B3 CL3 CR3 CZ3 CS3
      go_wp2_with fail
      go_loopw [10, 11] (fun s i wr => ∃ k : Nat, k ≤ xs.length ∧ s = .int .i64 (allTo xs k) ∧ i = .int .i64 k ∧ Below w4.heap.size w4 wr) (fun _ i _ => xs.length - (intOf i).toNat)
      case atStart => exact ⟨0, Nat.zero_le _, rfl, rfl, Below.refl _ _⟩
      case round =>
        obtain ⟨k, hk, rfl, rfl, hbel⟩ := hrel
        have HB := Lib.hid hbel
        clear hbel
        by_cases hlt : k < xs.length
        · obtain ⟨b, o, hA, hb, d0, d1⟩ := (CL4.out.below HB.out).at2 hlt
          obtain ⟨u0, u1, u2⟩ := HTM.out k hlt
          obtain ⟨s0, s1⟩ := HAB.out k hk
          have i1 : (k : Int) < (xs.length : Int) := by omega
          injection hA with hA
          injection hA with hA1 hA2
          subst hA1 hA2
          rw [Nat.zero_add] at d0 d1
          have E := Lib.hid (show allTo xs (k + 1) = allTo xs k + (re xs k - rs xs k) from rfl)
          obtain ⟨s, hs⟩ : ∃ s, s = allTo xs k := ⟨_, rfl⟩
          rw [← hs] at s0 s1 E ⊢
          have ek : allTo xs (k + 1) = s + re xs k - rs xs k := by rw [E.out]; omega
          have EK := Lib.hid ek
          have e1 : IntKind.i64.wrap (s + re xs k) = s + re xs k := IntWalk.i64_in _ (by omega)
          have e2 : IntKind.i64.wrap (s + re xs k - rs xs k) = s + re xs k - rs xs k := IntWalk.i64_in _ (by omega)
          clear hs ek
          go_wp2_with fail
          go_quiet (fail)
          clear e1 e2
          go_wp2_with fail
          exact ⟨⟨k + 1, by omega, by rw [EK.out], by go_num, below_drewN' HB.out _⟩, by simp [intOf]; omega⟩
        · obtain rfl : k = xs.length := by omega
          have B5 := Lib.hid (B4.out.trans (HB.out.mono B4.out.size))
          have CL5 := Lib.hid (CL4.out.below HB.out)
          have CR5 := Lib.hid (CR4.out.below HB.out)
          have CZ5 := Lib.hid (CZ4.out.below HB.out)
          clear HB B4 CL4 CR4 CZ4
          generalize wr = w5 at B5 CL5 CR5 CZ5 ⊢
          obtain ⟨SM, hSM⟩ : ∃ SM, SM = allTo xs xs.length := ⟨_, rfl⟩
          rw [← hSM] at HSUM ⊢
          clear hSM
          go_wp2_with fail
          go_loopw [12, 13] (fun n i wr => ∃ k : Nat, k ≤ 12 ∧ n = .int .i64 (cnP zs k : Nat) ∧ i = .int .i64 k ∧ Below w5.heap.size w5 wr) (fun _ i _ => 12 - (intOf i).toNat)
          case atStart => exact ⟨0, Nat.zero_le _, rfl, rfl, Below.refl _ _⟩
          case round =>
            obtain ⟨k, hk, rfl, rfl, hbel⟩ := hrel
            have HB := Lib.hid hbel
            clear hbel
            have z12 := HZ12.out
            by_cases hlt : k < 12
            · have hlz : k < zs.length := by omega
              obtain ⟨b, o, hA, hb, d0⟩ := (CZ5.out.below HB.out).at1 hlz
              have i1 : (k : Int) < (zs.length : Int) := by omega
              have hn := cnP_le zs k
              have E := Lib.hid (show cnP zs (k + 1) = cnP zs k + (if 0 < ri zs k then 1 else 0) from rfl)
              obtain ⟨n, hn'⟩ : ∃ n, n = cnP zs k := ⟨_, rfl⟩
              rw [← hn'] at hn E ⊢
              subst hA
              clear hn'
              have K0 : wr.drew.cell? ⟨b, o + k, none⟩ = some (.int .i64 (ri zs k)) := d0
              have CR0 := Lib.hid (show Cells wr.drew R ro from (CR5.out.below HB.out).below (w' := wr.drew) ⟨rfl, rfl, rfl, Nat.le_refl _, fun _ _ => rfl⟩)
              have C0 := Lib.hid (HB.out.drew)
              have hb0 : b < wr.drew.heap.size := hb
              have hpo := HPO.out k hlt
              obtain ⟨z, hz⟩ : ∃ z, z = ri zs k := ⟨_, rfl⟩
              rw [← hz] at K0 E hpo
              have K0 := Lib.hid K0
              clear hz HB hb
              cases hf : haB ro (k : Int) ro.length
              · have hz0 : ¬ 0 < z := fun g => by rw [hpo.mp g] at hf; cases hf
                have dz : decide (0 < z) = false := by simp; omega
                have EN := Lib.hid (show cnP zs (k + 1) = n by rw [E.out, if_neg hz0]; rfl)
                have HF := Lib.hid hf
                clear hf hpo d0 z12
                go_wp2_with fail
                go_region_held3 (fun W => W.cell? ⟨b, o + k, none⟩ = some (.int .i64 z)) (first | exact K1.out | exact K0.out) (first | (go_at_call 67; refine (hasInt_any _ _ ro _ _ CR0.out rl').mono ?_; rintro e v1 ⟨rfl, x1⟩; rw [HF.out]; have K1 := Lib.hid ((x1.cell (p := ⟨b, o + k, none⟩) hb0).trans K0.out); have C1 := Lib.hid (C0.out.trans (x1.mono C0.out.size)); clear x1))
                all_goals
                  have y1 := K1.out
                  go_wp2_with fail
                  exact ⟨⟨k + 1, by omega, (by first | (rw [EN.out]; done) | (rw [EN.out]; go_num)), by go_num, C1.out⟩, by simp [intOf]; omega⟩
              · have hz0 : 0 < z := hpo.mpr hf
                have dz : decide (0 < z) = true := by simp; omega
                have EN := Lib.hid (show cnP zs (k + 1) = n + 1 by rw [E.out, if_pos hz0])
                have HF := Lib.hid hf
                clear hf hpo d0 z12
                go_wp2_with fail
                go_region_held3 (fun W => W.cell? ⟨b, o + k, none⟩ = some (.int .i64 z)) (first | exact K1.out | exact K0.out) (first | (go_at_call 67; refine (hasInt_any _ _ ro _ _ CR0.out rl').mono ?_; rintro e v1 ⟨rfl, x1⟩; rw [HF.out]; have K1 := Lib.hid ((x1.cell (p := ⟨b, o + k, none⟩) hb0).trans K0.out); have C1 := Lib.hid (C0.out.trans (x1.mono C0.out.size)); clear x1))
                all_goals
                  have y1 := K1.out
                  go_wp2_with fail
                  exact ⟨⟨k + 1, by omega, (by first | (rw [EN.out]; done) | (rw [EN.out]; go_num)), by go_num, C1.out⟩, by simp [intOf]; omega⟩
            · obtain rfl : k = 12 := by omega
              have B6 := Lib.hid (B5.out.trans (HB.out.mono B5.out.size))
              have CL6 := Lib.hid (CL5.out.below HB.out)
              have CR6 := Lib.hid (CR5.out.below HB.out)
              have CZ6 := Lib.hid (CZ5.out.below HB.out)
              clear HB B5 CL5 CR5 CZ5
              generalize wr = w6 at B6 CL6 CR6 CZ6 ⊢
              obtain ⟨q, hq⟩ : ∃ q, q = cnP zs 12 := ⟨_, rfl⟩
              have HQ := Lib.hid (show rtV xs rest ro = (q : Int) by rw [HRT.out, hq, HCNT.out])
              have hz12i : ((zs.length : Int) == 12) = true := by rw [beq_iff_eq]; omega
              have hz12n : ¬ (12 : Int) < (zs.length : Int) := by omega
              rw [← hq]
              clear hq z12
              go_wp2_with fail
              refine (sumOf_any _ _ zs _ CZ6.out (by have := HZ12.out; omega) HBD.out).mono ?_
              rintro e w7 ⟨rfl, b7⟩
              rw [HSUM.out]
              have B7 := Lib.hid (B6.out.trans (b7.mono B6.out.size))
              have CL7 := Lib.hid (CL6.out.below b7)
              have CR7 := Lib.hid (CR6.out.below b7)
              clear b7 B6 CL6 CR6 CZ6
              go_wp2_with fail
              refine (iRT_any _ _ _ _ xs _ ro _ CL7.out CR7.out hl' rl').mono ?_
              rintro e w8 ⟨rfl, b8⟩
              rw [HQ.out]
              have B8 := Lib.hid (B7.out.trans (b8.mono B7.out.size))
              clear b8 B7 CL7 CR7
              go_wp2_with fail
              go_ret
              exact ⟨rfl, B8.out⟩
    · have HL := Lib.hid (mrL_no hv)
      have HBB := Lib.hid (roB_no hv)
      clear hv
      go_wp2_with fail
      refine (iMin_any _ _ _ _ xs _ ro _ CL1.out CR1.out hl' rl').mono ?_
      rintro e w2 ⟨Z, zc, rfl, hoZ, b2⟩
      rw [HL.out, HBB.out]
      have B2 := Lib.hid (B1.out.trans (b2.mono B1.out.size))
      have CL2 := Lib.hid (CL1.out.below b2)
      have CR2 := Lib.hid (CR1.out.below b2)
      clear hoZ b2 B1 CL1 CR1
      go_wp2_with fail
      refine (sMin_any _ _ _ _ xs _ ro _ CL2.out CR2.out hl' rl').mono ?_
      rintro e w3 ⟨S, sc, rfl, hoS, b3⟩
      rw [HL.out, HBB.out]
      have B3 := Lib.hid (B2.out.trans (b3.mono B2.out.size))
      clear hoS b3 B2 CL2 CR2
      go_wp2_with fail
      refine (sameInts_yes _ _ _ _ [] _ Cells.nil Cells.nil (by simp)).mono ?_
      rintro e w4 ⟨rfl, b4⟩
      have B4 := Lib.hid (B3.out.trans (b4.mono B3.out.size))
      clear b4 B3
      go_wp2_with fail
      refine (sameInts_yes _ _ _ _ [] _ Cells.nil Cells.nil (by simp)).mono ?_
      rintro e w5 ⟨rfl, b5⟩
      have B5 := Lib.hid (B4.out.trans (b5.mono B4.out.size))
      clear b5 B4
      go_wp2_with fail
      go_ret
      exact ⟨rfl, B5.out⟩

set_option maxRecDepth 100000 in
theorem lifted (os : Os) (started : os.Started) (H : Type) (enc : TypeId × Value → H) :
    ReturnsInHanded {} Try.checked os 21 .any (Rows.fnRosterMinutesSpec.pre6 enc Try.prog Try.f21 Rows.fnRosterMinutesRow.domain false) (Rows.fnRosterMinutesSpec.post enc Try.prog Try.f21 false true false false) := by
  refine returnsInHanded_of_change (C := Try.checked) own started (by kernel_rfl) Try.func21
    (ChangeSpec.witness6 (enc := enc) (C := Try.checked) false ⟨#[], #[.slice none 0 0], []⟩ 8 (by kernel_rfl) (by kernel_rfl) (by kernel_rfl) (by kernel_rfl)) ?_
  intro W base args ds gs before hval0 hW hcnd _
  have hval : ∀ (j : Nat) t v, Try.f21.params[j]? = some t → args[j]? = some v → Value.okWide Try.prog W .any base t v := hval0
  have hW' := hW
  obtain ⟨p, q, hA0, hV, rfl, hfz, hnd⟩ := hW
  have hA : DataW.TrodAll enc Try.prog W 0 (fun _ => true) true Try.f21.params.toList args.toList ds p := hA0
  rw [Try.params21] at hA hval
  obtain ⟨v0, vs0, d0, ds0, p0, q0, hargs, rfl, rfl, h0, r0⟩ := trodAll_cons hA
  obtain ⟨rfl, rfl, rfl⟩ := trodAll_nil r0
  obtain rfl : args = #[v0] := by cases args; simp_all
  obtain ⟨rfl, rfl⟩ := trodVars_none hV
  obtain ⟨A0, len0, cap0, rfl⟩ := okWide_slice Try.underlying31 (hval 0 31 v0 rfl rfl)
  have k0 := h0
  have lt0 : ∀ x ∈ p0, x.block < W.heap.size := by obtain ⟨m, hm⟩ := k0; exact DataW.trod_lt m _ _ _ hm
  obtain ⟨s0, m0, g0⟩ : Bytes W A0 len0 ∧ len0 ≤ cap0 ∧ cap0 ≤ maxLen := by
    obtain ⟨fuel, hf⟩ := h0
    exact arg_bytes hf
  clear hA0 hval0
  simp only [List.append_nil] at hW'
  refine (walk A0 len0 cap0 W s0 m0 g0).mono fun e W' ⟨he, bel⟩ => ?_
  subst he
  exact ⟨_, rfl, _, _, _, [], _, [], hW', (trodAll_cons_mk (shut_bool Try.underlying4 _) trodAll_mk0), (trodAll_cons_mk (Below.trod laidOut (by kernel_rfl) (of_decide_eq_true (by kernel_rfl)) k0 bel lt0) trodAll_mk0), rfl, bel.frame _, fun h => by cases h⟩

set_option maxRecDepth 100000 in
theorem closed : joinedFacts Try.prog 21 Try.f21 Rows.fnRosterMinutesSpec Rows.fnRosterMinutesRow = true := by
  unfold joinedFacts
  rw [enter_ok, lifts_ok, make_ok]
  kernel_rfl

theorem over : Rows.fnRosterMinutesRow.holds Try.pinned (OpenSpec.ofChange Rows.fnRosterMinutesSpec) :=
  OpenClaim.holds_of_wide 21 Try.f21 rfl rfl rfl rfl rfl rfl rfl ⟨rfl, rfl, rfl, rfl, rfl⟩ rfl rfl rfl rfl rfl (by kernel_rfl) Try.func21 closed
    (of_decide_eq_true (by kernel_rfl)) (by unfold Func.isWrapper; first | (rw [if_pos (by decide +kernel)]; kernel_rfl) | (rw [if_neg (by decide +kernel)]; exact ⟨rfl, rfl⟩))
    (fun os started H enc _ => lifted os started H enc)

theorem proved : Rows.FnRosterMinutesSaid :=
  over
#print axioms proved
end Go.Proofs.Ytgimheekaceifaa.fnRosterMinutes
