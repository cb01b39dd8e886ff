/-
  For every input laws.FnStopsRun returns true and leaves its arguments as they were (Rows.FnStopsRunSaid). Condition: none beyond the given row.
-/
import Derived.Test.YtdmbgnbegnlcaaaRows
import Derived.WalkKit
import Derived.ProofKit
import Derived.OpenShut
import Derived.ShutString
import Derived.ChangeOld
import Derived.Below
import Derived.Lib.SmallJoins
import Derived.Test.YtdmbgnbegnlcaaaEnter
import Derived.Test.YtdmbgnbegnlcaaaOpenB
import Derived.Test.YtdmbgnbegnlcaaaDrawT
import Derived.Test.YtdmbgnbegnlcaaaStopsF
namespace Go.Proofs.Ytdmbgnbegnlcaaa.fnStopsRun
open Go.ChangeShapes Go.WideShapes Go.ChangeAt Go.RowKit Go.Joins
open Go.ChangeMaps (open_string shut_string)
set_option linter.unusedVariables false

theorem own : ownKnob Try.prog.godebug = none := by kernel_rfl
theorem laidOut : laidOutB Try.prog = true := by kernel_rfl

/-- The gaps between the first k + 1 stops. -/
def gapTo (xs : List St) : Nat → Int
  | 0 => 0
  | k + 1 => gapTo xs k + (ar xs (k + 1) - lv xs k)
theorem gap_wait (xs : List St) : ∀ k, gapTo xs (k + 1) + waitTo xs k = ar xs (k + 1) - lv xs 0 := by
  intro k
  induction k with
  | zero => simp [gapTo, waitTo]
  | succ k ih => simp only [gapTo, waitTo] at ih ⊢; omega
theorem gap_ge {n : Int} {xs : List St} (h : Valid n xs) : ∀ k, k + 1 < xs.length → (k : Int) + 1 ≤ ar xs (k + 1) - lv xs 0 := by
  intro k
  induction k with
  | zero => intro hk; have := ok_up h.2.2.2.2 0 (0 + 1) (by omega) hk; omega
  | succ k ih =>
    intro hk
    have h1 := ih (by omega)
    have h2 := ar_up h (i := k + 1) (j := k + 1 + 1) (by omega) hk
    omega
theorem gap_bd {n : Int} {xs : List St} (h : Valid n xs) : ∀ k, k < xs.length → 0 ≤ gapTo xs k ∧ gapTo xs k ≤ 10000 * k := by
  intro k
  induction k with
  | zero => intro _; simp [gapTo]
  | succ k ih =>
    intro hk
    have h1 := ih (by omega)
    have h2 := ok_up h.2.2.2.2 k (k + 1) (by omega) hk
    have h3 := h.times (i := k) (by omega)
    have h4 := h.times (i := k + 1) hk
    simp only [gapTo]
    omega
set_option maxRecDepth 100000 in
set_option maxHeartbeats 1000000 in
theorem walk (A0 : Option Addr) (len0 cap0 : Nat) (w : World) (s0 : Bytes w A0 len0) (m0 : len0 ≤ cap0) (q0 : cap0 ≤ maxLen) :
    Calls Try.prog 11 #[.slice A0 len0 cap0] w fun e w' => e = .returned (.bool true) ∧ Below w.heap.size w w' := by
  by_cases hl : 1048576 < len0
  · go_enter Try.func11, Try.ntmps11
    go_wp2_with fail
    go_ret
    exact ⟨rfl, Below.refl _ _⟩
  · go_enter Try.func11, Try.ntmps11
    go_wp2_with fail
    refine (drawRun A0 len0 cap0 w s0 m0 q0).mono ?_
    rintro e w1 ⟨n, A, c, xs, rfl, n1, n2, l5, c1, c2, hcl, b1⟩
    have hl' : xs.length ≤ 1048576 := by omega
    by_cases hv : Valid n xs
    · have HV := Lib.hid hv
      have l2 := hv.2.2.1
      have gg := gap_ge hv (xs.length - 2) (by omega)
      rw [show xs.length - 2 + 1 = xs.length - 1 by omega] at gg
      have t0 := hv.times (i := 0) (by omega)
      have t1 := hv.times (i := xs.length - 1) (by omega)
      have wb := waitTo_bd hv (xs.length - 2) (by omega)
      have gw := gap_wait xs (xs.length - 2)
      rw [show xs.length - 2 + 1 = xs.length - 1 by omega] at gw
      have GW := Lib.hid gw
      clear hv gw
      have o1 : 0 ≤ ar xs (xs.length - 1) - lv xs 0 := by omega
      go_wp2_with fail
      refine (iRun_yes _ _ _ xs _ hcl hl' HV.out).mono ?_
      rintro e w2 ⟨rfl, b2⟩
      have B2 := b1.trans (b2.mono b1.size)
      have cl2 := hcl.below b2
      clear b1 b2 hcl
      go_wp2_with fail
      refine (sRun_yes _ _ _ xs _ cl2 hl' HV.out).mono ?_
      rintro e w3 ⟨rfl, b3⟩
      have B3 := B2.trans (b3.mono B2.size)
      have cl3 := cl2.below b3
      clear B2 b3 cl2
      go_wp2_with fail
      refine (iWait_yes _ _ _ xs _ cl3 hl' HV.out).mono ?_
      rintro e w4 ⟨rfl, b4⟩
      have B4 := B3.trans (b4.mono B3.size)
      have cl4 := cl3.below b4
      clear B3 b4 cl3
      go_wp2_with fail
      go_loopw [7, 8] (fun s i wr => ∃ k : Nat, k + 1 ≤ xs.length ∧ s = .int .i64 (waitTo xs (xs.length - 2) + gapTo xs k) ∧ i = .int .i64 ((k : Int) + 1) ∧ Below w4.heap.size w4 wr) (fun _ i _ => xs.length - (intOf i).toNat)
      case atStart => exact ⟨0, by omega, by simp [gapTo], rfl, Below.refl _ _⟩
      case round =>
        obtain ⟨k, hk, rfl, rfl, hbel⟩ := hrel
        have gb := gap_bd HV.out k (by omega)
        by_cases hlt : k + 1 < xs.length
        · have u0 := HV.out.times (i := k) (by omega)
          have u1 := HV.out.times (i := k + 1) (by omega)
          obtain ⟨b, o, rfl, hb, -, -, f2⟩ := cl4.at3 (i := k) (by omega)
          obtain ⟨b', o', hA, -, -, f1, -⟩ := cl4.at3 (i := k + 1) (by omega)
          injection hA with hA
          injection hA with hA1 hA2
          subst hA1 hA2
          have d1 := (hbel.cell (p := ⟨b, o + (k + 1) * 3 + 1, none⟩) hb).trans f1
          have d2 := (hbel.cell (p := ⟨b, o + k * 3 + 2, none⟩) hb).trans f2
          clear f1 f2
          have e0 : (k : Int) + 1 < (xs.length : Int) := by omega
          have e0' : (k : Int) < (xs.length : Int) := by omega
          have e0n : k < xs.length := by omega
          have e1 : 0 ≤ (k : Int) + 1 := by omega
          have e2 : ((k : Int) + 1).toNat = k + 1 := by omega
          have e3 : IntKind.i64.wrap ((k : Int) + 1 - 1) = (k : Int) := by rw [show (k : Int) + 1 - 1 = (k : Int) by omega]; exact IntWalk.i64_in _ (by omega)
          have e4 : IntKind.i64.wrap (waitTo xs (xs.length - 2) + gapTo xs k + ar xs (k + 1)) = waitTo xs (xs.length - 2) + gapTo xs k + ar xs (k + 1) := IntWalk.i64_in _ (by omega)
          have e5 : IntKind.i64.wrap (waitTo xs (xs.length - 2) + gapTo xs k + ar xs (k + 1) - lv xs k) = waitTo xs (xs.length - 2) + gapTo xs k + ar xs (k + 1) - lv xs k := IntWalk.i64_in _ (by omega)
          go_wp2_with fail
          go_quiet (fail)
          clear e2 e3 e4 e5
          go_wp2_with fail
          exact ⟨⟨k + 1, by omega, by show _ = Value.int .i64 (waitTo xs (xs.length - 2) + (gapTo xs k + (ar xs (k + 1) - lv xs k))); go_num, by go_num, below_drewN' hbel _⟩, by simp [intOf]; omega⟩
        · obtain rfl : k = xs.length - 1 := by omega
          have gw := GW.out
          have z1 : (waitTo xs (xs.length - 2) + gapTo xs (xs.length - 1) == ar xs (xs.length - 1) - lv xs 0) = true := by simp; omega
          clear gw
          have BB := B4.trans (hbel.mono B4.size)
          go_wp2_with fail
          go_ret
          exact ⟨ret_bool (decide_eq_true (by omega)), BB⟩
    · have HV := Lib.hid hv
      clear hv
      go_wp2_with fail
      refine (iRun_no _ _ _ xs _ hcl hl' HV.out).mono ?_
      rintro e w2 ⟨rfl, b2⟩
      have B2 := b1.trans (b2.mono b1.size)
      have cl2 := hcl.below b2
      clear b1 b2 hcl
      go_wp2_with fail
      refine (sRun_no _ _ _ xs _ cl2 hl' HV.out).mono ?_
      rintro e w3 ⟨rfl, b3⟩
      have B3 := B2.trans (b3.mono B2.size)
      clear B2 b3 cl2
      go_wp2_with fail
      go_ret
      exact ⟨rfl, B3⟩

set_option maxRecDepth 100000 in
theorem lifted (os : Os) (started : os.Started) (H : Type) (enc : TypeId × Value → H) :
    ReturnsInHanded {} Try.checked os 11 .any (Rows.fnStopsRunSpec.pre6 enc Try.prog Try.f11 Rows.fnStopsRunRow.domain false) (Rows.fnStopsRunSpec.post enc Try.prog Try.f11 false true false false) := by
  refine returnsInHanded_of_change (C := Try.checked) own started (by kernel_rfl) Try.func11
    (ChangeSpec.witness6 (enc := enc) (C := Try.checked) false ⟨#[], #[.slice none 0 0], []⟩ 8 (by kernel_rfl) (by kernel_rfl) (by kernel_rfl) (by kernel_rfl)) ?_
  intro W base args ds gs before hval0 hW hcnd _
  have hval : ∀ (j : Nat) t v, Try.f11.params[j]? = some t → args[j]? = some v → Value.okWide Try.prog W .any base t v := hval0
  have hW' := hW
  obtain ⟨p, q, hA0, hV, rfl, hfz, hnd⟩ := hW
  have hA : DataW.TrodAll enc Try.prog W 0 (fun _ => true) true Try.f11.params.toList args.toList ds p := hA0
  rw [Try.params11] at hA hval
  obtain ⟨v0, vs0, d0, ds0, p0, q0, hargs, rfl, rfl, h0, r0⟩ := trodAll_cons hA
  obtain ⟨rfl, rfl, rfl⟩ := trodAll_nil r0
  obtain rfl : args = #[v0] := by cases args; simp_all
  obtain ⟨rfl, rfl⟩ := trodVars_none hV
  obtain ⟨A0, len0, cap0, rfl⟩ := okWide_slice Try.underlying33 (hval 0 33 v0 rfl rfl)
  have k0 := h0
  have lt0 : ∀ x ∈ p0, x.block < W.heap.size := by obtain ⟨m, hm⟩ := k0; exact DataW.trod_lt m _ _ _ hm
  obtain ⟨s0, m0, g0⟩ : Bytes W A0 len0 ∧ len0 ≤ cap0 ∧ cap0 ≤ maxLen := by
    obtain ⟨fuel, hf⟩ := h0
    exact arg_bytes hf
  clear hA0 hval0
  simp only [List.append_nil] at hW'
  refine (walk A0 len0 cap0 W s0 m0 g0).mono fun e W' ⟨he, bel⟩ => ?_
  subst he
  exact ⟨_, rfl, _, _, _, [], _, [], hW', (trodAll_cons_mk (shut_bool Try.underlying4 _) trodAll_mk0), (trodAll_cons_mk (Below.trod laidOut (by kernel_rfl) (of_decide_eq_true (by kernel_rfl)) k0 bel lt0) trodAll_mk0), rfl, bel.frame _, fun h => by cases h⟩

set_option maxRecDepth 100000 in
theorem closed : joinedFacts Try.prog 11 Try.f11 Rows.fnStopsRunSpec Rows.fnStopsRunRow = true := by
  unfold joinedFacts
  rw [enter_ok, lifts_ok, make_ok]
  kernel_rfl

theorem over : Rows.fnStopsRunRow.holds Try.pinned (OpenSpec.ofChange Rows.fnStopsRunSpec) :=
  OpenClaim.holds_of_wide 11 Try.f11 rfl rfl rfl rfl rfl rfl rfl ⟨rfl, rfl, rfl, rfl, rfl⟩ rfl rfl rfl rfl rfl (by kernel_rfl) Try.func11 closed
    (of_decide_eq_true (by kernel_rfl)) (by unfold Func.isWrapper; first | (rw [if_pos (by decide +kernel)]; kernel_rfl) | (rw [if_neg (by decide +kernel)]; exact ⟨rfl, rfl⟩))
    (fun os started H enc _ => lifted os started H enc)

theorem proved : Rows.FnStopsRunSaid :=
  over
#print axioms proved
end Go.Proofs.Ytdmbgnbegnlcaaa.fnStopsRun
