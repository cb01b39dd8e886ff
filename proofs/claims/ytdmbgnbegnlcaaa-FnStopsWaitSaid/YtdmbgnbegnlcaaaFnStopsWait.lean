/-
  For every input laws.FnStopsWait returns true and leaves its arguments as they were (Rows.FnStopsWaitSaid). Condition: none beyond the given row.
-/
import Derived.Test.YtdmbgnbegnlcaaaRows
import Derived.WalkKit
import Derived.ProofKit
import Derived.OpenShut
import Derived.ShutString
import Derived.ChangeOld
import Derived.Below
import Derived.Lib.SmallJoins
import Derived.Test.YtdmbgnbegnlcaaaEnter
import Derived.Test.YtdmbgnbegnlcaaaOpenB
import Derived.Test.YtdmbgnbegnlcaaaDrawT
import Derived.Test.YtdmbgnbegnlcaaaStopsP
namespace Go.Proofs.Ytdmbgnbegnlcaaa.fnStopsWait
open Go.ChangeShapes Go.WideShapes Go.ChangeAt Go.RowKit Go.Joins
open Go.ChangeMaps (open_string shut_string)
set_option linter.unusedVariables false

theorem own : ownKnob Try.prog.godebug = none := by kernel_rfl
theorem laidOut : laidOutB Try.prog = true := by kernel_rfl

theorem wait_front (xs : List St) (j : Nat) : ∀ k, k ≤ j → waitTo (sub xs 0 j) k = waitTo xs k := by
  intro k
  induction k with
  | zero => intro _; rfl
  | succ k ih =>
    intro hk
    obtain ⟨_, e2, e3⟩ := sub_at xs 0 j (k + 1) (by omega)
    rw [Nat.zero_add] at e2 e3
    simp only [waitTo]
    rw [ih (by omega), e2, e3]
theorem wait_rest (xs : List St) (i j : Nat) : ∀ k, i + k ≤ j → waitTo (sub xs i j) k = waitTo xs (i + k) - waitTo xs i := by
  intro k
  induction k with
  | zero => intro _; simp [waitTo]
  | succ k ih =>
    intro hk
    obtain ⟨_, e2, e3⟩ := sub_at xs i j (k + 1) (by omega)
    have h1 := ih (by omega)
    have h2 : waitTo xs (i + (k + 1)) = waitTo xs (i + k) + (lv xs (i + (k + 1)) - ar xs (i + (k + 1))) := rfl
    have h3 : waitTo (sub xs i j) (k + 1) = waitTo (sub xs i j) k + (lv (sub xs i j) (k + 1) - ar (sub xs i j) (k + 1)) := rfl
    rw [h2, h3, e2, e3]
    omega
theorem wait_all (xs : List St) (k : Nat) (h1 : 1 ≤ k) (h2 : k + 2 ≤ xs.length) :
    waitTo (sub xs 0 k) (k + 1 - 2) + waitTo (sub xs k (xs.length - 1)) (xs.length - k - 2) + lv xs k - ar xs k = waitTo xs (xs.length - 2) := by
  rw [wait_front xs k _ (by omega), wait_rest xs k (xs.length - 1) _ (by omega), show k + (xs.length - k - 2) = xs.length - 2 by omega]
  obtain ⟨q, rfl⟩ : ∃ q, k = q + 1 := ⟨k - 1, by omega⟩
  rw [show q + 1 + 1 - 2 = q by omega]
  simp only [waitTo]
  omega
set_option maxRecDepth 100000 in
set_option maxHeartbeats 1000000 in
theorem walk (A0 : Option Addr) (len0 cap0 : Nat) (A1 : Option Addr) (len1 cap1 : Nat) (w : World) (s0 : Bytes w A0 len0) (m0 : len0 ≤ cap0) (q0 : cap0 ≤ maxLen) (s1 : Bytes w A1 len1) (m1 : len1 ≤ cap1) (q1 : cap1 ≤ maxLen) :
    Calls Try.prog 10 #[.slice A0 len0 cap0, .slice A1 len1 cap1] w fun e w' => e = .returned (.bool true) ∧ Below w.heap.size w w' := by
  by_cases hl : 1048576 < len0
  · go_enter Try.func10, Try.ntmps10
    go_wp2_with fail
    go_ret
    exact ⟨rfl, Below.refl _ _⟩
  · by_cases hl1 : 1048576 < len1
    · go_enter Try.func10, Try.ntmps10
      go_wp2_with fail
      go_ret
      exact ⟨rfl, Below.refl _ _⟩
    · have hl1' : len1 ≤ 1048576 := by omega
      clear hl1
      go_enter Try.func10, Try.ntmps10
      go_wp2_with fail
      refine (drawWait A0 len0 cap0 w s0 m0 q0).mono ?_
      rintro e w1 ⟨n, A, c, xs, rfl, n1, n2, l5, c1, c2, hcl, b1⟩
      have hl' : xs.length ≤ 1048576 := by omega
      clear s1 m1 q1 s0 m0 q0
      by_cases hv : Valid n xs
      · have HV := Lib.hid hv
        have l2 := hv.2.2.1
        have wb := waitTo_bd hv (xs.length - 2) (by omega)
        clear hv
        go_wp2_with fail
        refine (iWait_yes _ _ _ xs _ hcl hl' HV.out).mono ?_
        rintro e w2 ⟨rfl, b2⟩
        have B2 := b1.trans (b2.mono b1.size)
        have cl2 := hcl.below b2
        clear b1 b2 hcl
        go_wp2_with fail
        refine (sWait_yes _ _ _ xs _ cl2 hl' HV.out).mono ?_
        rintro e w3 ⟨rfl, b3⟩
        have B3 := B2.trans (b3.mono B2.size)
        have cl3 := cl2.below b3
        clear B2 b3 cl2
        by_cases h3 : xs.length < 3
        · have hz : waitTo xs (xs.length - 2) = 0 := by rw [show xs.length - 2 = 0 by omega]; rfl
          have z1 : (waitTo xs (xs.length - 2) == 0) = true := by simp [hz]
          clear hz
          go_wp2_with fail
          go_ret
          exact ⟨rfl, B3⟩
        · have l3 : 3 ≤ xs.length := by omega
          clear h3
          obtain ⟨m, hm⟩ : ∃ m : Nat, m = len1 % (xs.length - 2) := ⟨_, rfl⟩
          have hmlt : m < xs.length - 2 := by rw [hm]; exact Nat.mod_lt _ (by omega)
          have em : (len1 : Int) % ((xs.length : Int) - 2) = (m : Int) := by rw [hm, show (xs.length : Int) - 2 = ((xs.length - 2 : Nat) : Int) by omega]; rfl
          have em' : Int.tmod (len1 : Int) ((xs.length : Int) - 2) = (m : Int) := by rw [hm, show (xs.length : Int) - 2 = ((xs.length - 2 : Nat) : Int) by omega]; rfl
          have ez : ¬ ((xs.length : Int) - 2 = 0) := by omega
          have ez' : ((xs.length : Int) - 2 == 0) = false := by simp; omega
          clear hm
          obtain ⟨b, o, rfl, hb, -, -, -⟩ := cl3.at3 (i := 0) (by omega)
          have hK : 1 + m < xs.length - 1 := by omega
          have cs1 := cl3.sub (i := 0) (j := 1 + m) (by omega)
          rw [Nat.zero_mul, Nat.add_zero] at cs1
          have v1 := HV.out.sub (i := 0) (j := 1 + m) (by omega) (by omega)
          have v2 := HV.out.sub (i := 1 + m) (j := xs.length - 1) (by omega) (by omega)
          have WA := Lib.hid (wait_all xs (1 + m) (by omega) (by omega))
          have t1 := HV.out.times (i := 1 + m) (by omega)
          obtain ⟨ys1, hy1⟩ : ∃ ys, ys = sub xs 0 (1 + m) := ⟨_, rfl⟩
          obtain ⟨ys2, hy2⟩ : ∃ ys, ys = sub xs (1 + m) (xs.length - 1) := ⟨_, rfl⟩
          have L1 := Lib.hid (show 1 + m + 1 = ys1.length by rw [hy1, sub_len xs 0 (1 + m) (by omega)]; omega)
          have L2 := Lib.hid (show xs.length - (1 + m) = ys2.length by rw [hy2, sub_len xs (1 + m) (xs.length - 1) (by omega)]; omega)
          rw [← hy1] at cs1 v1
          rw [← hy2] at v2
          rw [← hy1, ← hy2] at WA
          have HY2 := Lib.hid hy2
          have V1 := Lib.hid v1
          have V2 := Lib.hid v2
          clear hy1 hy2 v1 v2
          have w1b := waitTo_bd V1.out (ys1.length - 2) (by have := L1.out; omega)
          have w2b := waitTo_bd V2.out (ys2.length - 2) (by have := L2.out; omega)
          have wz : waitTo ys1 (ys1.length - 2) + waitTo ys2 (ys2.length - 2) + lv xs (1 + m) - ar xs (1 + m) = waitTo xs (xs.length - 2) := by
            rw [← WA.out, ← L1.out, ← L2.out]
          have WZ := Lib.hid wz
          clear wz WA
          have l1a : ys1.length ≤ 5 := by have := L1.out; omega
          have l2a : ys2.length ≤ 5 := by have := L2.out; omega
          go_wp2_with fail
          rw [L1.out]
          refine (iWait_yes _ _ _ ys1 _ cs1 (by omega) V1.out).mono ?_
          rintro e w4 ⟨rfl, b4⟩
          have B4 := B3.trans (b4.mono B3.size)
          have cl4 := cl3.below b4
          have cs2 := cl4.sub (i := 1 + m) (j := xs.length - 1) (by omega)
          rw [← HY2.out] at cs2
          clear B3 b4 cl3 cs1
          go_wp2_with fail
          rw [L2.out]
          refine (iWait_yes _ _ _ ys2 _ cs2 (by omega) V2.out).mono ?_
          rintro e w5 ⟨rfl, b5⟩
          have B5 := B4.trans (b5.mono B4.size)
          have cl5 := cl4.below b5
          clear B4 b5 cl4 cs2
          obtain ⟨b', o', hA, -, -, d1, d2⟩ := cl5.at3 (i := 1 + m) (by omega)
          injection hA with hA
          injection hA with hA1 hA2
          subst hA1 hA2
          obtain ⟨p, hp⟩ : ∃ p, waitTo ys1 (ys1.length - 2) = p := ⟨_, rfl⟩
          obtain ⟨q, hq⟩ : ∃ q, waitTo ys2 (ys2.length - 2) = q := ⟨_, rfl⟩
          have wz := WZ.out
          rw [hp] at w1b wz ⊢
          rw [hq] at w2b wz ⊢
          clear hp hq WZ
          have i1 : (1 : Int) + (m : Int) < (xs.length : Int) := by omega
          have i2 : 0 ≤ (1 : Int) + (m : Int) := by omega
          have i3 : ((1 : Int) + (m : Int)).toNat = 1 + m := by omega
          have pb1 : p ≤ 50000 := by omega
          have qb1 : q ≤ 50000 := by omega
          have z1 : (p + q + lv xs (1 + m) - ar xs (1 + m) == waitTo xs (xs.length - 2)) = true := by simp [wz]
          clear wz
          have e1 : IntKind.i64.wrap (p + q) = p + q := IntWalk.i64_in _ (by omega)
          have e2 : IntKind.i64.wrap (p + q + lv xs (1 + m)) = p + q + lv xs (1 + m) := IntWalk.i64_in _ (by omega)
          have e3 : IntKind.i64.wrap (p + q + lv xs (1 + m) - ar xs (1 + m)) = p + q + lv xs (1 + m) - ar xs (1 + m) := IntWalk.i64_in _ (by omega)
          have g1 : decide (0 ≤ p) = true := by simp; omega
          have g2 : decide (0 ≤ q) = true := by simp; omega
          go_wp2_with fail
          go_quiet (fail)
          go_wp2_with fail
          go_ret
          exact ⟨rfl, below_drewN' B5 _⟩
      · have HV := Lib.hid hv
        clear hv
        go_wp2_with fail
        refine (iWait_no _ _ _ xs _ hcl hl' HV.out).mono ?_
        rintro e w2 ⟨rfl, b2⟩
        have B2 := b1.trans (b2.mono b1.size)
        have cl2 := hcl.below b2
        clear b1 b2 hcl
        go_wp2_with fail
        refine (sWait_no _ _ _ xs _ cl2 hl' HV.out).mono ?_
        rintro e w3 ⟨rfl, b3⟩
        have B3 := B2.trans (b3.mono B2.size)
        clear B2 b3 cl2
        go_wp2_with fail
        go_ret
        exact ⟨rfl, B3⟩

set_option maxRecDepth 100000 in
theorem lifted (os : Os) (started : os.Started) (H : Type) (enc : TypeId × Value → H) :
    ReturnsInHanded {} Try.checked os 10 .any (Rows.fnStopsWaitSpec.pre6 enc Try.prog Try.f10 Rows.fnStopsWaitRow.domain false) (Rows.fnStopsWaitSpec.post enc Try.prog Try.f10 false true false false) := by
  refine returnsInHanded_of_change (C := Try.checked) own started (by kernel_rfl) Try.func10
    (ChangeSpec.witness6 (enc := enc) (C := Try.checked) false ⟨#[], #[.slice none 0 0, .slice none 0 0], []⟩ 8 (by kernel_rfl) (by kernel_rfl) (by kernel_rfl) (by kernel_rfl)) ?_
  intro W base args ds gs before hval0 hW hcnd _
  have hval : ∀ (j : Nat) t v, Try.f10.params[j]? = some t → args[j]? = some v → Value.okWide Try.prog W .any base t v := hval0
  have hW' := hW
  obtain ⟨p, q, hA0, hV, rfl, hfz, hnd⟩ := hW
  have hA : DataW.TrodAll enc Try.prog W 0 (fun _ => true) true Try.f10.params.toList args.toList ds p := hA0
  rw [Try.params10] at hA hval
  obtain ⟨v0, vs0, d0, ds0, p0, q0, hargs, rfl, rfl, h0, r0⟩ := trodAll_cons hA
  obtain ⟨v1, vs1, d1, ds1, p1, q1, rfl, rfl, rfl, h1, r1⟩ := trodAll_cons r0
  obtain ⟨rfl, rfl, rfl⟩ := trodAll_nil r1
  obtain rfl : args = #[v0, v1] := by cases args; simp_all
  obtain ⟨rfl, rfl⟩ := trodVars_none hV
  obtain ⟨A0, len0, cap0, rfl⟩ := okWide_slice Try.underlying33 (hval 0 33 v0 rfl rfl)
  have k0 := h0
  have lt0 : ∀ x ∈ p0, x.block < W.heap.size := by obtain ⟨m, hm⟩ := k0; exact DataW.trod_lt m _ _ _ hm
  obtain ⟨s0, m0, g0⟩ : Bytes W A0 len0 ∧ len0 ≤ cap0 ∧ cap0 ≤ maxLen := by
    obtain ⟨fuel, hf⟩ := h0
    exact arg_bytes hf
  obtain ⟨A1, len1, cap1, rfl⟩ := okWide_slice Try.underlying33 (hval 1 33 v1 rfl rfl)
  have k1 := h1
  have lt1 : ∀ x ∈ p1, x.block < W.heap.size := by obtain ⟨m, hm⟩ := k1; exact DataW.trod_lt m _ _ _ hm
  obtain ⟨s1, m1, g1⟩ : Bytes W A1 len1 ∧ len1 ≤ cap1 ∧ cap1 ≤ maxLen := by
    obtain ⟨fuel, hf⟩ := h1
    exact arg_bytes hf
  clear hA0 hval0
  simp only [List.append_nil] at hW'
  refine (walk A0 len0 cap0 A1 len1 cap1 W s0 m0 g0 s1 m1 g1).mono fun e W' ⟨he, bel⟩ => ?_
  subst he
  exact ⟨_, rfl, _, _, _, [], _, [], hW', (trodAll_cons_mk (shut_bool Try.underlying4 _) trodAll_mk0), (trodAll_cons_mk (Below.trod laidOut (by kernel_rfl) (of_decide_eq_true (by kernel_rfl)) k0 bel lt0) (trodAll_cons_mk (Below.trod laidOut (by kernel_rfl) (of_decide_eq_true (by kernel_rfl)) k1 bel lt1) trodAll_mk0)), rfl, bel.frame _, fun h => by cases h⟩

set_option maxRecDepth 100000 in
theorem closed : joinedFacts Try.prog 10 Try.f10 Rows.fnStopsWaitSpec Rows.fnStopsWaitRow = true := by
  unfold joinedFacts
  rw [enter_ok, lifts_ok, make_ok]
  kernel_rfl

theorem over : Rows.fnStopsWaitRow.holds Try.pinned (OpenSpec.ofChange Rows.fnStopsWaitSpec) :=
  OpenClaim.holds_of_wide 10 Try.f10 rfl rfl rfl rfl rfl rfl rfl ⟨rfl, rfl, rfl, rfl, rfl⟩ rfl rfl rfl rfl rfl (by kernel_rfl) Try.func10 closed
    (of_decide_eq_true (by kernel_rfl)) (by unfold Func.isWrapper; first | (rw [if_pos (by decide +kernel)]; kernel_rfl) | (rw [if_neg (by decide +kernel)]; exact ⟨rfl, rfl⟩))
    (fun os started H enc _ => lifted os started H enc)

theorem proved : Rows.FnStopsWaitSaid :=
  over
#print axioms proved
end Go.Proofs.Ytdmbgnbegnlcaaa.fnStopsWait
