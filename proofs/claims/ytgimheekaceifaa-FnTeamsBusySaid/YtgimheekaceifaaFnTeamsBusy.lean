/-
  For every input laws.FnTeamsBusy returns true and leaves its arguments as they were (Rows.FnTeamsBusySaid). Condition: none beyond the given row.
-/
import Derived.Test.YtgimheekaceifaaRows
import Derived.WalkKit
import Derived.ProofKit
import Derived.OpenShut
import Derived.ShutString
import Derived.ChangeOld
import Derived.Below
import Derived.Lib.SmallJoins
import Derived.Test.YtgimheekaceifaaEnter
import Derived.Test.YtgimheekaceifaaOpenB
import Derived.Test.YtgimheekaceifaaDrawR3
import Derived.Test.YtgimheekaceifaaRunsY
import Derived.Deep.RegionHeld3
namespace Go.Proofs.Ytgimheekaceifaa.fnTeamsBusy
open Go.ChangeShapes Go.WideShapes Go.ChangeAt Go.RowKit Go.Joins
open Go.ChangeMaps (open_string shut_string)
set_option linter.unusedVariables false

theorem own : ownKnob Try.prog.godebug = none := by kernel_rfl
theorem laidOut : laidOutB Try.prog = true := by kernel_rfl

set_option maxRecDepth 100000 in
set_option maxHeartbeats 2000000 in
theorem walk (A0 : Option Addr) (len0 cap0 : Nat) (A1 : Option Addr) (len1 cap1 : Nat) (w : World) (s0 : Bytes w A0 len0) (m0 : len0 ≤ cap0) (q0 : cap0 ≤ maxLen) (s1 : Bytes w A1 len1) (m1 : len1 ≤ cap1) (q1 : cap1 ≤ maxLen) :
    Calls Try.prog 17 #[.slice A0 len0 cap0, .slice A1 len1 cap1] w fun e w' => e = .returned (.bool true) ∧ Below w.heap.size w w' := by
  by_cases hl : 1048576 < len0
  · go_enter Try.func17, Try.ntmps17
    go_wp2_with fail
    go_ret
    exact ⟨rfl, Below.refl _ _⟩
  · by_cases hl1 : 1048576 < len1
    · go_enter Try.func17, Try.ntmps17
      go_wp2_with fail
      go_ret
      exact ⟨rfl, Below.refl _ _⟩
    · have hl1' : len1 ≤ 1048576 := by omega
      clear hl1
      go_enter Try.func17, Try.ntmps17
      go_wp2_with fail
      refine (drawBusy A0 len0 cap0 w s0 m0 q0).mono ?_
      rintro e w1 ⟨g, c, xs, rest, t, rfl, hwf, hwf2, l7, c1, c2, hcl, b1⟩
      have hl' : xs.length ≤ 1048576 := by omega
      have B1 := Lib.hid b1
      have CL1 := Lib.hid hcl
      clear b1 hcl s0 m0 q0 s1 m1 q1
      by_cases hv : ROk xs rest ∧ 0 ≤ t ∧ t ≤ 10000
      · obtain ⟨hv, t0, t1⟩ := hv
        have HV := Lib.hid hv
        obtain ⟨-, r0, r1⟩ := hv
        obtain ⟨p, hp⟩ : ∃ p, p = busyTo xs rest t xs.length := ⟨_, rfl⟩
        obtain ⟨q, hq⟩ : ∃ q, q = most xs rest := ⟨_, rfl⟩
        have HT := Lib.hid (show tlV xs rest = (q : Int) by rw [hq]; exact tlV_yes HV.out)
        have HP := Lib.hid hp
        have hpq : p ≤ q := by rw [hp, hq]; exact busy_le_most HV.out.1 HV.out.2.1 t
        have hq7 : q ≤ xs.length := by rw [hq]; exact most_le_len _ _
        have q7 : q ≤ 7 := by omega
        have dpq : decide ((p : Int) ≤ (q : Int)) = true := by simp; omega
        clear hp hq
        go_wp2_with fail
        refine (iTeamsBusy_yes _ _ xs _ _ _ CL1.out hl' HV.out t0 t1).mono ?_
        rintro e w2 ⟨rfl, bb2⟩
        have B2 := Lib.hid (B1.out.trans (bb2.mono B1.out.size))
        have CL2 := Lib.hid (CL1.out.below bb2)
        clear bb2 B1 CL1
        rw [← HP.out]
        go_wp2_with fail
        refine (sTeamsBusy_yes _ _ xs _ _ _ CL2.out hl' HV.out t0 t1).mono ?_
        rintro e w3 ⟨rfl, bb3⟩
        have B3 := Lib.hid (B2.out.trans (bb3.mono B2.out.size))
        have CL3 := Lib.hid (CL2.out.below bb3)
        clear bb3 B2 CL2
        rw [← HP.out]
        obtain ⟨m, hm⟩ : ∃ m : Nat, m = len1 % (xs.length + 1) := ⟨_, rfl⟩
        have hmle : m ≤ xs.length := by have := Nat.mod_lt len1 (show 0 < xs.length + 1 by omega); omega
        have em : (len1 : Int) % ((xs.length : Int) + 1) = (m : Int) := by rw [hm]; rfl
        have em' : Int.tmod (len1 : Int) ((xs.length : Int) + 1) = (m : Int) := by rw [hm]; rfl
        have ez : ¬ ((xs.length : Int) + 1 = 0) := by omega
        have ez' : ((xs.length : Int) + 1 == 0) = false := by rw [beq_eq_false_iff_ne]; omega
        clear hm
        by_cases hkc : m = c
        · have hxc : c = xs.length := by omega
          subst hxc
          subst hkc
          have HZV := Lib.hid (show ROk ([] : List Rn) rest from ⟨⟨by simp, fun i hi => by simp at hi⟩, r0, r1⟩)
          have V0 := Lib.hid (show Cells w3.drew (some ⟨g, 0, none⟩) (fr xs) from CL3.out.below (w' := w3.drew) ⟨rfl, rfl, rfl, Nat.le_refl _, fun _ _ => rfl⟩)
          have C0 := Lib.hid (show Below w.heap.size w w3.drew from B3.out.drew)
          have HZ0 := Lib.hid (show busyTo ([] : List Rn) rest t ([] : List Rn).length = 0 from rfl)
          have e5 : IntKind.i64.wrap (p : Int) = (p : Int) := IntWalk.i64_in _ (by omega)
          clear CL3 B3 c1
          go_wp2_with fail
          go_region_held3 (fun _ => True) (exact trivial) (first
            | (go_at_call 35; refine (iTL_any _ _ xs _ _ V0.out hl').mono ?_; rintro e v1 ⟨rfl, x1⟩; rw [HT.out]; have V1 := Lib.hid (V0.out.below x1); have C1 := Lib.hid (C0.out.trans (x1.mono C0.out.size)); clear x1)
            | (have hh := V2.out; clear hh; go_at_call 30; refine (iTeamsBusy_yes _ _ [] _ _ _ Cells.nil (by simp) HZV.out t0 t1).mono ?_; rintro e v3 ⟨rfl, x3⟩; rw [HZ0.out]; have C3 := Lib.hid (C2.out.trans (x3.mono C2.out.size)); clear x3)
            | (go_at_call 30; refine (iTeamsBusy_yes _ _ xs _ _ _ V1.out hl' HV.out t0 t1).mono ?_; rintro e v2 ⟨rfl, x2⟩; rw [← HP.out]; have V2 := Lib.hid (V1.out.below x2); have C2 := Lib.hid (C1.out.trans (x2.mono C1.out.size)); clear x2))
          all_goals
            go_wp2_with fail
            go_ret
            exact ⟨rfl, C3.out⟩
        obtain ⟨ys, hy⟩ : ∃ ys, ys = xs.take m := ⟨_, rfl⟩
        obtain ⟨zs, hz⟩ : ∃ zs, zs = xs.drop m := ⟨_, rfl⟩
        have hyl : m = ys.length := by rw [hy, List.length_take]; omega
        have hzl : xs.length - m = zs.length := by rw [hz, List.length_drop]
        subst hyl
        have HY := Lib.hid hy
        have HZ := Lib.hid hz
        have HYV := Lib.hid (show ROk ys rest from ⟨by rw [hy]; exact HV.out.1.take _, r0, r1⟩)
        have HZV := Lib.hid (show ROk zs rest from ⟨by rw [hz]; exact HV.out.1.drop _, r0, r1⟩)
        obtain ⟨p1, hp1⟩ : ∃ p1, p1 = busyTo ys rest t ys.length := ⟨_, rfl⟩
        obtain ⟨p2, hp2⟩ : ∃ p2, p2 = busyTo zs rest t zs.length := ⟨_, rfl⟩
        have hsum : p1 + p2 = p := by
          have h := busy_parts xs rest t ys.length hmle
          rw [← hy, ← hz] at h
          rw [hp1, hp2, HP.out, h]
        have HP1 := Lib.hid hp1
        have HP2 := Lib.hid hp2
        have hsumI : (p1 : Int) + (p2 : Int) = (p : Int) := by omega
        have yl : ys.length ≤ 1048576 := by omega
        have zl : zs.length ≤ 1048576 := by omega
        have V0 := Lib.hid (show Cells w3.drew (some ⟨g, 0, none⟩) (fr xs) from CL3.out.below (w' := w3.drew) ⟨rfl, rfl, rfl, Nat.le_refl _, fun _ _ => rfl⟩)
        have C0 := Lib.hid (show Below w.heap.size w w3.drew from B3.out.drew)
        have hmle' : (ys.length : Int) ≤ (xs.length : Int) := by omega
        have hmc : ys.length ≤ c := by omega
        have e5 : IntKind.i64.wrap ((p1 : Int) + (p2 : Int)) = (p : Int) := by rw [hsumI]; exact IntWalk.i64_in _ (by omega)
        clear hy hz hp1 hp2 CL3 B3 hsum hsumI
        have hkc' : ys.length < c := by omega
        have hkcI : (ys.length : Int) < (c : Int) := by omega
        have hxcI : (xs.length : Int) ≤ (c : Int) := by omega
        have HDR := Lib.hid (show ∀ W, Cells W (some ⟨g, 0, none⟩) (fr xs) → Cells W (some ⟨g, ys.length * 2, none⟩) (fr zs) from fun W h => by have := h.dropR ys.length; rw [Nat.zero_add, ← HZ.out] at this; exact this)
        clear hkc
        go_wp2_with fail
        go_region_held3 (fun _ => True) (exact trivial) (first
          | (go_at_call 35; refine (iTL_any _ _ xs _ _ V0.out hl').mono ?_; rintro e v1 ⟨rfl, x1⟩; rw [HT.out]; have V1 := Lib.hid (V0.out.below x1); have C1 := Lib.hid (C0.out.trans (x1.mono C0.out.size)); clear x1)
          | (go_at_call 30; refine (iTeamsBusy_yes _ _ zs _ _ _ (HDR.out _ V2.out) zl HZV.out t0 t1).mono ?_; rintro e v3 ⟨rfl, x3⟩; rw [← HP2.out]; have C3 := Lib.hid (C2.out.trans (x3.mono C2.out.size)); clear x3)
          | (go_at_call 30; refine (iTeamsBusy_yes _ _ ys _ _ _ (by rw [HY.out]; exact V1.out.takeR _) yl HYV.out t0 t1).mono ?_; rintro e v2 ⟨rfl, x2⟩; rw [← HP1.out]; have V2 := Lib.hid (V1.out.below x2); have C2 := Lib.hid (C1.out.trans (x2.mono C1.out.size)); clear x2))
        all_goals
          go_wp2_with fail
          go_ret
          exact ⟨rfl, C3.out⟩
      · have HV := Lib.hid hv
        clear hv
        go_wp2_with fail
        refine (iTeamsBusy_no _ _ xs _ _ _ CL1.out hl' HV.out).mono ?_
        rintro e w2 ⟨rfl, bb2⟩
        have B2 := Lib.hid (B1.out.trans (bb2.mono B1.out.size))
        have CL2 := Lib.hid (CL1.out.below bb2)
        clear bb2 B1 CL1
        go_wp2_with fail
        refine (sTeamsBusy_no _ _ xs _ _ _ CL2.out hl' HV.out).mono ?_
        rintro e w3 ⟨rfl, bb3⟩
        have B3 := Lib.hid (B2.out.trans (bb3.mono B2.out.size))
        have CL3 := Lib.hid (CL2.out.below bb3)
        clear bb3 B2 CL2
        go_wp2_with fail
        go_ret
        exact ⟨rfl, B3.out⟩

set_option maxRecDepth 100000 in
theorem lifted (os : Os) (started : os.Started) (H : Type) (enc : TypeId × Value → H) :
    ReturnsInHanded {} Try.checked os 17 .any (Rows.fnTeamsBusySpec.pre6 enc Try.prog Try.f17 Rows.fnTeamsBusyRow.domain false) (Rows.fnTeamsBusySpec.post enc Try.prog Try.f17 false true false false) := by
  refine returnsInHanded_of_change (C := Try.checked) own started (by kernel_rfl) Try.func17
    (ChangeSpec.witness6 (enc := enc) (C := Try.checked) false ⟨#[], #[.slice none 0 0, .slice none 0 0], []⟩ 8 (by kernel_rfl) (by kernel_rfl) (by kernel_rfl) (by kernel_rfl)) ?_
  intro W base args ds gs before hval0 hW hcnd _
  have hval : ∀ (j : Nat) t v, Try.f17.params[j]? = some t → args[j]? = some v → Value.okWide Try.prog W .any base t v := hval0
  have hW' := hW
  obtain ⟨p, q, hA0, hV, rfl, hfz, hnd⟩ := hW
  have hA : DataW.TrodAll enc Try.prog W 0 (fun _ => true) true Try.f17.params.toList args.toList ds p := hA0
  rw [Try.params17] at hA hval
  obtain ⟨v0, vs0, d0, ds0, p0, q0, hargs, rfl, rfl, h0, r0⟩ := trodAll_cons hA
  obtain ⟨v1, vs1, d1, ds1, p1, q1, rfl, rfl, rfl, h1, r1⟩ := trodAll_cons r0
  obtain ⟨rfl, rfl, rfl⟩ := trodAll_nil r1
  obtain rfl : args = #[v0, v1] := by cases args; simp_all
  obtain ⟨rfl, rfl⟩ := trodVars_none hV
  obtain ⟨A0, len0, cap0, rfl⟩ := okWide_slice Try.underlying31 (hval 0 31 v0 rfl rfl)
  have k0 := h0
  have lt0 : ∀ x ∈ p0, x.block < W.heap.size := by obtain ⟨m, hm⟩ := k0; exact DataW.trod_lt m _ _ _ hm
  obtain ⟨s0, m0, g0⟩ : Bytes W A0 len0 ∧ len0 ≤ cap0 ∧ cap0 ≤ maxLen := by
    obtain ⟨fuel, hf⟩ := h0
    exact arg_bytes hf
  obtain ⟨A1, len1, cap1, rfl⟩ := okWide_slice Try.underlying31 (hval 1 31 v1 rfl rfl)
  have k1 := h1
  have lt1 : ∀ x ∈ p1, x.block < W.heap.size := by obtain ⟨m, hm⟩ := k1; exact DataW.trod_lt m _ _ _ hm
  obtain ⟨s1, m1, g1⟩ : Bytes W A1 len1 ∧ len1 ≤ cap1 ∧ cap1 ≤ maxLen := by
    obtain ⟨fuel, hf⟩ := h1
    exact arg_bytes hf
  clear hA0 hval0
  simp only [List.append_nil] at hW'
  refine (walk A0 len0 cap0 A1 len1 cap1 W s0 m0 g0 s1 m1 g1).mono fun e W' ⟨he, bel⟩ => ?_
  subst he
  exact ⟨_, rfl, _, _, _, [], _, [], hW', (trodAll_cons_mk (shut_bool Try.underlying4 _) trodAll_mk0), (trodAll_cons_mk (Below.trod laidOut (by kernel_rfl) (of_decide_eq_true (by kernel_rfl)) k0 bel lt0) (trodAll_cons_mk (Below.trod laidOut (by kernel_rfl) (of_decide_eq_true (by kernel_rfl)) k1 bel lt1) trodAll_mk0)), rfl, bel.frame _, fun h => by cases h⟩

set_option maxRecDepth 100000 in
theorem closed : joinedFacts Try.prog 17 Try.f17 Rows.fnTeamsBusySpec Rows.fnTeamsBusyRow = true := by
  unfold joinedFacts
  rw [enter_ok, lifts_ok, make_ok]
  kernel_rfl

theorem over : Rows.fnTeamsBusyRow.holds Try.pinned (OpenSpec.ofChange Rows.fnTeamsBusySpec) :=
  OpenClaim.holds_of_wide 17 Try.f17 rfl rfl rfl rfl rfl rfl rfl ⟨rfl, rfl, rfl, rfl, rfl⟩ rfl rfl rfl rfl rfl (by kernel_rfl) Try.func17 closed
    (of_decide_eq_true (by kernel_rfl)) (by unfold Func.isWrapper; first | (rw [if_pos (by decide +kernel)]; kernel_rfl) | (rw [if_neg (by decide +kernel)]; exact ⟨rfl, rfl⟩))
    (fun os started H enc _ => lifted os started H enc)

theorem proved : Rows.FnTeamsBusySaid :=
  over
#print axioms proved
end Go.Proofs.Ytgimheekaceifaa.fnTeamsBusy
