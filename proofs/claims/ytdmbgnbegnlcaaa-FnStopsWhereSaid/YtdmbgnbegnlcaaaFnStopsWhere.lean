/-
  For every input laws.FnStopsWhere returns true and leaves its arguments as they were (Rows.FnStopsWhereSaid). Condition: none beyond the given row.
-/
import Derived.Test.YtdmbgnbegnlcaaaRows
import Derived.WalkKit
import Derived.ProofKit
import Derived.OpenShut
import Derived.ShutString
import Derived.ChangeOld
import Derived.Below
import Derived.Lib.SmallJoins
import Derived.Test.YtdmbgnbegnlcaaaEnter
import Derived.Test.YtdmbgnbegnlcaaaOpenB
import Derived.Test.YtdmbgnbegnlcaaaDrawW
import Derived.Test.YtdmbgnbegnlcaaaStopsF
namespace Go.Proofs.Ytdmbgnbegnlcaaa.fnStopsWhere
open Go.ChangeShapes Go.WideShapes Go.ChangeAt Go.RowKit Go.Joins
open Go.ChangeMaps (open_string shut_string)
set_option linter.unusedVariables false

theorem own : ownKnob Try.prog.godebug = none := by kernel_rfl
theorem laidOut : laidOutB Try.prog = true := by kernel_rfl

theorem wh_spec {n : Int} {xs : List St} (h : Valid n xs) {t : Int} (h0 : ar xs 0 ≤ t) : ar xs (whTo xs t xs.length) ≤ t ∧ (whTo xs t xs.length + 1 < xs.length → t < ar xs (whTo xs t xs.length + 1)) := by
  have key : ∀ m, 0 < m → m ≤ xs.length → ar xs (whTo xs t m) ≤ t ∧ ∀ j, whTo xs t m < j → j < m → t < ar xs j := by
    intro m
    induction m with
    | zero => intro h; omega
    | succ m ih =>
      intro _ hm
      simp only [whTo]
      by_cases hc : ar xs m ≤ t
      · rw [if_pos hc]; exact ⟨hc, fun j h1 h2 => by omega⟩
      · rw [if_neg hc]
        rcases Nat.eq_zero_or_pos m with hz | hz
        · subst hz; exact absurd h0 hc
        · obtain ⟨a, b⟩ := ih hz (by omega)
          refine ⟨a, fun j h1 h2 => ?_⟩
          rcases Nat.lt_or_ge j m with h3 | h3
          · exact b j h1 h3
          · obtain rfl : j = m := by omega
            omega
  have l2 := h.2.2.1
  obtain ⟨a, b⟩ := key xs.length (by omega) (Nat.le_refl _)
  exact ⟨a, fun hk => b _ (by omega) hk⟩
set_option maxRecDepth 100000 in
set_option maxHeartbeats 2000000 in
theorem walk (A0 : Option Addr) (len0 cap0 : Nat) (w : World) (s0 : Bytes w A0 len0) (m0 : len0 ≤ cap0) (q0 : cap0 ≤ maxLen) :
    Calls Try.prog 13 #[.slice A0 len0 cap0] w fun e w' => e = .returned (.bool true) ∧ Below w.heap.size w w' := by
  by_cases hl : 1048576 < len0
  · go_enter Try.func13, Try.ntmps13
    go_wp2_with fail
    go_ret
    exact ⟨rfl, Below.refl _ _⟩
  · go_enter Try.func13, Try.ntmps13
    go_wp2_with fail
    refine (drawWhere A0 len0 cap0 w s0 m0 q0).mono ?_
    rintro e w1 ⟨n, A, c, xs, t, rfl, n1, n2, l5, c1, c2, hcl, b1⟩
    have hl' : xs.length ≤ 1048576 := by omega
    have B1 := Lib.hid b1
    have CL1 := Lib.hid hcl
    clear b1 hcl s0 m0 q0
    by_cases hv : Valid n xs
    · by_cases ho : t < ar xs 0 ∨ lv xs (xs.length - 1) < t
      · have HV := Lib.hid hv
        have HO := Lib.hid ho
        clear hv ho
        go_wp2_with fail
        refine (iWhere_out _ _ _ _ xs _ CL1.out hl' HV.out HO.out).mono ?_
        rintro e w2 ⟨rfl, bb2⟩
        have B2 := Lib.hid (B1.out.trans (bb2.mono B1.out.size))
        have CL2 := Lib.hid (CL1.out.below bb2)
        clear bb2 B1 CL1
        go_wp2_with fail
        refine (sWhere_out _ _ _ _ xs _ CL2.out hl' HV.out HO.out).mono ?_
        rintro e w3 ⟨rfl, bb3⟩
        have B3 := Lib.hid (B2.out.trans (bb3.mono B2.out.size))
        have CL3 := Lib.hid (CL2.out.below bb3)
        clear bb3 B2 CL2
        go_wp2_with fail
        go_ret
        exact ⟨rfl, B3.out⟩
      · have l2 := hv.2.2.1
        have HV := Lib.hid hv
        have HO := Lib.hid (show ar xs 0 ≤ t ∧ t ≤ lv xs (xs.length - 1) by omega)
        have kl := whTo_lt xs t xs.length (by omega)
        have WS := Lib.hid (wh_spec hv HO.out.1)
        obtain ⟨K, hK⟩ : ∃ K, whTo xs t xs.length = K := ⟨_, rfl⟩
        rw [hK] at kl
        have HK := Lib.hid hK
        clear hv ho hK
        go_wp2_with fail
        refine (iWhere_yes _ _ _ _ xs _ CL1.out hl' HV.out HO.out.1 HO.out.2).mono ?_
        rintro e w2 ⟨rfl, bb2⟩
        have B2 := Lib.hid (B1.out.trans (bb2.mono B1.out.size))
        have CL2 := Lib.hid (CL1.out.below bb2)
        clear bb2 B1 CL1
        go_wp2_with fail
        refine (sWhere_yes _ _ _ _ xs _ CL2.out hl' HV.out HO.out.1 HO.out.2).mono ?_
        rintro e w3 ⟨rfl, bb3⟩
        have B3 := Lib.hid (B2.out.trans (bb3.mono B2.out.size))
        have CL3 := Lib.hid (CL2.out.below bb3)
        clear bb3 B2 CL2
        rw [HK.out]
        have ws := WS.out
        rw [HK.out] at ws
        obtain ⟨w1a, w1b⟩ := ws
        obtain ⟨gb, go, hA, hgb, -, d1, d2⟩ := CL3.out.at3 kl
        subst hA
        by_cases hlast : K + 1 = xs.length
        · have z1 : (((K : Int) + 1) == (xs.length : Int)) = true := by simp; omega
          have HL := Lib.hid hlast
          clear hlast
          by_cases hin : t ≤ lv xs K
          · go_wp2_with fail
            go_ret
            exact ⟨rfl, B3.out⟩
          · have hin' : decide (t ≤ lv xs K) = false := by simp; omega
            go_wp2_with fail
            go_ret
            exact ⟨rfl, B3.out⟩
        · have hk1 : K + 1 < xs.length := by omega
          have hn := w1b hk1
          have z1 : (((K : Int) + 1) == (xs.length : Int)) = false := by simp; omega
          obtain ⟨gb', go', hA, -, -, d3, -⟩ := CL3.out.at3 hk1
          injection hA with hA
          injection hA with hA1 hA2
          subst hA1 hA2
          clear hlast w1b
          by_cases hin : t ≤ lv xs K
          · go_wp2_with fail
            go_ret
            exact ⟨rfl, B3.out⟩
          · have hin' : decide (t ≤ lv xs K) = false := by simp; omega
            go_wp2_with fail
            go_ret
            exact ⟨rfl, B3.out⟩
    · have HV := Lib.hid hv
      clear hv
      go_wp2_with fail
      refine (iWhere_bad _ _ _ _ xs _ CL1.out hl' HV.out).mono ?_
      rintro e w2 ⟨rfl, bb2⟩
      have B2 := Lib.hid (B1.out.trans (bb2.mono B1.out.size))
      have CL2 := Lib.hid (CL1.out.below bb2)
      clear bb2 B1 CL1
      go_wp2_with fail
      refine (sWhere_bad _ _ _ _ xs _ CL2.out hl' HV.out).mono ?_
      rintro e w3 ⟨rfl, bb3⟩
      have B3 := Lib.hid (B2.out.trans (bb3.mono B2.out.size))
      have CL3 := Lib.hid (CL2.out.below bb3)
      clear bb3 B2 CL2
      go_wp2_with fail
      go_ret
      exact ⟨rfl, B3.out⟩

set_option maxRecDepth 100000 in
theorem lifted (os : Os) (started : os.Started) (H : Type) (enc : TypeId × Value → H) :
    ReturnsInHanded {} Try.checked os 13 .any (Rows.fnStopsWhereSpec.pre6 enc Try.prog Try.f13 Rows.fnStopsWhereRow.domain false) (Rows.fnStopsWhereSpec.post enc Try.prog Try.f13 false true false false) := by
  refine returnsInHanded_of_change (C := Try.checked) own started (by kernel_rfl) Try.func13
    (ChangeSpec.witness6 (enc := enc) (C := Try.checked) false ⟨#[], #[.slice none 0 0], []⟩ 8 (by kernel_rfl) (by kernel_rfl) (by kernel_rfl) (by kernel_rfl)) ?_
  intro W base args ds gs before hval0 hW hcnd _
  have hval : ∀ (j : Nat) t v, Try.f13.params[j]? = some t → args[j]? = some v → Value.okWide Try.prog W .any base t v := hval0
  have hW' := hW
  obtain ⟨p, q, hA0, hV, rfl, hfz, hnd⟩ := hW
  have hA : DataW.TrodAll enc Try.prog W 0 (fun _ => true) true Try.f13.params.toList args.toList ds p := hA0
  rw [Try.params13] at hA hval
  obtain ⟨v0, vs0, d0, ds0, p0, q0, hargs, rfl, rfl, h0, r0⟩ := trodAll_cons hA
  obtain ⟨rfl, rfl, rfl⟩ := trodAll_nil r0
  obtain rfl : args = #[v0] := by cases args; simp_all
  obtain ⟨rfl, rfl⟩ := trodVars_none hV
  obtain ⟨A0, len0, cap0, rfl⟩ := okWide_slice Try.underlying33 (hval 0 33 v0 rfl rfl)
  have k0 := h0
  have lt0 : ∀ x ∈ p0, x.block < W.heap.size := by obtain ⟨m, hm⟩ := k0; exact DataW.trod_lt m _ _ _ hm
  obtain ⟨s0, m0, g0⟩ : Bytes W A0 len0 ∧ len0 ≤ cap0 ∧ cap0 ≤ maxLen := by
    obtain ⟨fuel, hf⟩ := h0
    exact arg_bytes hf
  clear hA0 hval0
  simp only [List.append_nil] at hW'
  refine (walk A0 len0 cap0 W s0 m0 g0).mono fun e W' ⟨he, bel⟩ => ?_
  subst he
  exact ⟨_, rfl, _, _, _, [], _, [], hW', (trodAll_cons_mk (shut_bool Try.underlying4 _) trodAll_mk0), (trodAll_cons_mk (Below.trod laidOut (by kernel_rfl) (of_decide_eq_true (by kernel_rfl)) k0 bel lt0) trodAll_mk0), rfl, bel.frame _, fun h => by cases h⟩

set_option maxRecDepth 100000 in
theorem closed : joinedFacts Try.prog 13 Try.f13 Rows.fnStopsWhereSpec Rows.fnStopsWhereRow = true := by
  unfold joinedFacts
  rw [enter_ok, lifts_ok, make_ok]
  kernel_rfl

theorem over : Rows.fnStopsWhereRow.holds Try.pinned (OpenSpec.ofChange Rows.fnStopsWhereSpec) :=
  OpenClaim.holds_of_wide 13 Try.f13 rfl rfl rfl rfl rfl rfl rfl ⟨rfl, rfl, rfl, rfl, rfl⟩ rfl rfl rfl rfl rfl (by kernel_rfl) Try.func13 closed
    (of_decide_eq_true (by kernel_rfl)) (by unfold Func.isWrapper; first | (rw [if_pos (by decide +kernel)]; kernel_rfl) | (rw [if_neg (by decide +kernel)]; exact ⟨rfl, rfl⟩))
    (fun os started H enc _ => lifted os started H enc)

theorem proved : Rows.FnStopsWhereSaid :=
  over
#print axioms proved
end Go.Proofs.Ytdmbgnbegnlcaaa.fnStopsWhere
