/-
  For every input laws.FnExactRosterSwap returns true and leaves its arguments as they were (Rows.FnExactRosterSwapSaid). Condition: none beyond the given row.
-/
import Derived.Test.YtgimheekaceifaaRows
import Derived.WalkKit
import Derived.ProofKit
import Derived.OpenShut
import Derived.ShutString
import Derived.ChangeOld
import Derived.Below
import Derived.Lib.SmallJoins
import Derived.Test.YtgimheekaceifaaEnter
import Derived.Test.YtgimheekaceifaaRunsArg
import Derived.Test.YtgimheekaceifaaRunsT
import Derived.Test.YtgimheekaceifaaRunsM
namespace Go.Proofs.Ytgimheekaceifaa.fnExactRosterSwap
open Go.ChangeShapes Go.WideShapes Go.ChangeAt Go.RowKit Go.Joins
open Go.ChangeMaps (open_string shut_string)
set_option linter.unusedVariables false

theorem own : ownKnob Try.prog.godebug = none := by kernel_rfl
theorem laidOut : laidOutB Try.prog = true := by kernel_rfl

set_option maxRecDepth 100000 in
set_option maxHeartbeats 2000000 in
theorem walk (A0 : Option Addr) (c0 : Nat) (xs0 : List Rn) (n1 : Int) (A2 : Option Addr) (c2 : Nat) (xs2 : List Int) (n3 : Int) (n4 : Int) (n5 : Int) (w : World) (s0 : Cells w A0 (fr xs0)) (m0 : xs0.length ≤ 9223372036854775807) (w1 : (Lit.int .i64 n1).wf = true) (s2 : Cells w A2 xs2) (m2 : xs2.length ≤ 9223372036854775807) (w3 : (Lit.int .i64 n3).wf = true) (w4 : (Lit.int .i64 n4).wf = true) (w5 : (Lit.int .i64 n5).wf = true) :
    Calls Try.prog 18 #[.slice A0 xs0.length c0, .int .i64 n1, .slice A2 xs2.length c2, .int .i64 n3, .int .i64 n4, .int .i64 n5] w fun e w' => e = .returned (.bool true) ∧ Below w.heap.size w w' := by
  by_cases hm : 1048576 < xs2.length
  · go_enter Try.func18, Try.ntmps18
    go_wp2_with fail
    go_ret
    exact ⟨rfl, Below.refl _ _⟩
  · have hm' : xs2.length ≤ 1048576 := by omega
    clear hm m2
    by_cases hl : 1048576 < xs0.length
    · go_enter Try.func18, Try.ntmps18
      go_wp2_with fail
      refine (szRunS_over A0 xs0.length c0 w hl m0).mono ?_
      rintro e w1 ⟨rfl, rfl⟩
      go_wp2_with fail
      go_ret
      exact ⟨rfl, Below.refl _ _⟩
    · have hl' : xs0.length ≤ 1048576 := by omega
      have S0 := Lib.hid s0
      clear hl m0 s0
      have S2 := Lib.hid s2
      clear s2
      go_enter Try.func18, Try.ntmps18
      go_wp2_with fail
      refine (szRunS_any A0 xs0.length c0 w hl').mono ?_
      rintro e _ ⟨rfl, rfl⟩
      have B0 := Lib.hid (Below.refl w.heap.size w)
      go_wp2_with fail
      refine (toRunS_own A0 c0 xs0 _ (S0.out.below B0.out) hl').mono ?_
      rintro e w1 ⟨rfl, oo, bb1⟩
      have B1 := Lib.hid (B0.out.trans (bb1.mono B0.out.size))
      have P1 := Lib.hid oo
      clear bb1 B0 oo
      go_wp2_with fail
      refine (toIntS_own A2 c2 xs2 _ (S2.out.below B1.out) hm').mono ?_
      rintro e w2 ⟨rfl, oo, bb2⟩
      have B2 := Lib.hid (B1.out.trans (bb2.mono B1.out.size))
      have P2 := Lib.hid (P1.out.below bb2)
      have Q2 := Lib.hid oo
      clear bb2 B1 P1 oo
      go_wp2_with fail
      refine (sSw_any _ _ _ _ xs0 _ xs2 _ _ _ _ P2.out.cells Q2.out.cells hl' hm').mono ?_
      rintro e w3 ⟨Aw, cw, rfl, ow, bb3⟩
      have B3 := Lib.hid (B2.out.trans (bb3.mono B2.out.size))
      have WT3 := Lib.hid ow
      clear bb3 B2 P2 Q2 ow
      have LW := Lib.hid (show ∀ q, (Value.slice Aw (rsL xs0 n1 xs2 n3 n4 n5).length cw).ownBlock = some q → q < w3.heap.size from fun q hq => (World.ownsRow.lt WT3.out q hq).2)
      have bx := B3.out.size
      go_wp2_with fail
      refine (toRunS_own A0 c0 xs0 _ (S0.out.below B3.out) hl').mono ?_
      rintro e w4 ⟨rfl, oo, bb4⟩
      have B4 := Lib.hid (B3.out.trans (bb4.mono B3.out.size))
      have WT4 := Lib.hid (WT3.out.below bb4)
      have X4 := Lib.hid oo
      clear bb4 B3 WT3 oo
      have hsx : w3.heap.size < w4.heap.size := (World.ownsRow.lt X4.out w3.heap.size rfl).2
      go_wp2_with fail
      refine (toIntS_own A2 c2 xs2 _ (S2.out.below B4.out) hm').mono ?_
      rintro e w5 ⟨rfl, oo, bb5⟩
      have B5 := Lib.hid (B4.out.trans (bb5.mono B4.out.size))
      have WT5 := Lib.hid (WT4.out.below bb5)
      have X5 := Lib.hid (X4.out.below bb5)
      have Z5 := Lib.hid oo
      clear bb5 B4 WT4 X4 oo
      have hsz : w4.heap.size < w5.heap.size := (World.ownsRow.lt Z5.out w4.heap.size rfl).2
      go_wp2_with fail
      refine (iSw_any _ _ _ _ xs0 _ xs2 _ _ _ _ X5.out.cells Z5.out.cells hl' hm').mono ?_
      rintro e w6 ⟨Ag, cg, rfl, og, bb6⟩
      have B6 := Lib.hid (B5.out.trans (bb6.mono B5.out.size))
      have WT6 := Lib.hid (WT5.out.below bb6)
      have X6 := Lib.hid (X5.out.below bb6)
      have Z6 := Lib.hid (Z5.out.below bb6)
      have G6 := Lib.hid og
      clear bb6 B5 WT5 X5 Z5 og
      have LG := Lib.hid (show ∀ q, (Value.slice Ag (rsL xs0 n1 xs2 n3 n4 n5).length cg).ownBlock = some q → w5.heap.size ≤ q from fun q hq => (World.ownsRow.lt G6.out q hq).1)
      go_wp2_with fail
      refine (eqIntS_yes _ _ _ _ (rsL xs0 n1 xs2 n3 n4 n5) _ G6.out.cells WT6.out.cells (rsL_len hm')).mono ?_
      rintro e w7 ⟨rfl, bb7⟩
      have B7 := Lib.hid (B6.out.trans (bb7.mono B6.out.size))
      have WT7 := Lib.hid (WT6.out.below bb7)
      have X7 := Lib.hid (X6.out.below bb7)
      have Z7 := Lib.hid (Z6.out.below bb7)
      have G7 := Lib.hid (G6.out.below bb7)
      clear bb7 B6 WT6 X6 Z6 G6
      go_wp2_with fail
      refine (toRunS_own A0 c0 xs0 _ (S0.out.below B7.out) hl').mono ?_
      rintro e w8 ⟨rfl, oo, bb8⟩
      have B8 := Lib.hid (B7.out.trans (bb8.mono B7.out.size))
      have WT8 := Lib.hid (WT7.out.below bb8)
      have X8 := Lib.hid (X7.out.below bb8)
      have Z8 := Lib.hid (Z7.out.below bb8)
      have G8 := Lib.hid (G7.out.below bb8)
      have Y8 := Lib.hid oo
      clear bb8 B7 WT7 X7 Z7 G7 oo
      go_wp2_with fail
      refine (eqRunS_yes _ _ _ _ xs0 _ X8.out.cells Y8.out.cells hl').mono ?_
      rintro e w9 ⟨rfl, bb9⟩
      have B9 := Lib.hid (B8.out.trans (bb9.mono B8.out.size))
      have WT9 := Lib.hid (WT8.out.below bb9)
      have X9 := Lib.hid (X8.out.below bb9)
      have Z9 := Lib.hid (Z8.out.below bb9)
      have G9 := Lib.hid (G8.out.below bb9)
      clear bb9 B8 WT8 X8 Z8 G8 Y8
      go_wp2_with fail
      refine (toIntS_own A2 c2 xs2 _ (S2.out.below B9.out) hm').mono ?_
      rintro e w10 ⟨rfl, oo, bb10⟩
      have B10 := Lib.hid (B9.out.trans (bb10.mono B9.out.size))
      have WT10 := Lib.hid (WT9.out.below bb10)
      have X10 := Lib.hid (X9.out.below bb10)
      have Z10 := Lib.hid (Z9.out.below bb10)
      have G10 := Lib.hid (G9.out.below bb10)
      have V10 := Lib.hid oo
      clear bb10 B9 WT9 X9 Z9 G9 oo
      go_wp2_with fail
      refine (eqIntS_yes _ _ _ _ xs2 _ Z10.out.cells V10.out.cells hm').mono ?_
      rintro e w11 ⟨rfl, bb11⟩
      have B11 := Lib.hid (B10.out.trans (bb11.mono B10.out.size))
      have WT11 := Lib.hid (WT10.out.below bb11)
      have X11 := Lib.hid (X10.out.below bb11)
      have Z11 := Lib.hid (Z10.out.below bb11)
      have G11 := Lib.hid (G10.out.below bb11)
      clear bb11 B10 WT10 X10 Z10 G10 V10
      go_wp2_with fail
      refine (markR _ _ _ xs0 _ X11.out hl').mono ?_
      rintro e w12 ⟨rfl, -, gg⟩
      have B12 := Lib.hid (B11.out.grown gg B11.out.size (fun q hq => by have h8 : some w3.heap.size = some q := hq; injection h8 with h8; have := bx; omega))
      have WT12 := Lib.hid (WT11.out.kept gg (fun q hq he => by have h8 : some q = some w3.heap.size := he; injection h8 with h8; have h9 := LW.out _ hq; have := hsx; have := hsz; omega))
      have G12 := Lib.hid (G11.out.kept gg (fun q hq he => by have h8 : some q = some w3.heap.size := he; injection h8 with h8; have h9 := LG.out _ hq; have := hsx; have := hsz; omega))
      have Z12 := Lib.hid (Z11.out.kept gg (fun q hq he => by have h7 : some w4.heap.size = some q := hq; injection h7 with h7; have h8 : some q = some w3.heap.size := he; injection h8 with h8; have := hsx; have := hsz; omega))
      clear gg B11 WT11 G11 Z11 X11
      go_wp2_with fail
      refine (markI _ _ _ _ xs2 _ Z12.out hm' (by omega) (by omega)).mono ?_
      rintro e w13 ⟨rfl, -, gg⟩
      have B13 := Lib.hid (B12.out.grown gg B12.out.size (fun q hq => by have h8 : some w4.heap.size = some q := hq; injection h8 with h8; have := bx; have := hsx; have := hsz; omega))
      have WT13 := Lib.hid (WT12.out.kept gg (fun q hq he => by have h8 : some q = some w4.heap.size := he; injection h8 with h8; have h9 := LW.out _ hq; have := hsx; have := hsz; omega))
      have G13 := Lib.hid (G12.out.kept gg (fun q hq he => by have h8 : some q = some w4.heap.size := he; injection h8 with h8; have h9 := LG.out _ hq; have := hsx; have := hsz; omega))
      clear gg B12 WT12 G12 Z12
      go_wp2_with fail
      refine (eqIntS_yes _ _ _ _ (rsL xs0 n1 xs2 n3 n4 n5) _ G13.out.cells WT13.out.cells (rsL_len hm')).mono ?_
      rintro e w14 ⟨rfl, bb14⟩
      have B14 := Lib.hid (B13.out.trans (bb14.mono B13.out.size))
      have WT14 := Lib.hid (WT13.out.below bb14)
      have G14 := Lib.hid (G13.out.below bb14)
      clear bb14 B13 WT13 G13
      go_wp2_with fail
      refine (markI _ _ _ _ (rsL xs0 n1 xs2 n3 n4 n5) _ G14.out (rsL_len hm') (by omega) (by omega)).mono ?_
      rintro e w15 ⟨rfl, og, gg⟩
      have B15 := Lib.hid (B14.out.grown gg B14.out.size (fun q hq => by have h9 := LG.out q hq; have := bx; have := hsx; have := hsz; omega))
      have WT15 := Lib.hid (WT14.out.kept gg (fun q hq he => by have h1 := LW.out _ hq; have h2 := LG.out q he.symm; have := hsx; have := hsz; omega))
      have M15 := Lib.hid (show Marked _ _ _ _ _ _ _ from og)
      clear gg og B14 WT14 G14
      go_wp2_with fail
      refine (heldI _ _ _ _ _ M15.out (rsL_len hm')).mono ?_
      rintro e _ ⟨rfl, rfl⟩
      go_wp2_with fail
      refine (toRunS_own A0 c0 xs0 _ (S0.out.below B15.out) hl').mono ?_
      rintro e w16 ⟨rfl, oo, bb16⟩
      have B16 := Lib.hid (B15.out.trans (bb16.mono B15.out.size))
      have WT16 := Lib.hid (WT15.out.below bb16)
      have M16 := Lib.hid (M15.out.below bb16)
      have P16 := Lib.hid oo
      clear bb16 B15 WT15 M15 oo
      go_wp2_with fail
      refine (toIntS_own A2 c2 xs2 _ (S2.out.below B16.out) hm').mono ?_
      rintro e w17 ⟨rfl, oo, bb17⟩
      have B17 := Lib.hid (B16.out.trans (bb17.mono B16.out.size))
      have WT17 := Lib.hid (WT16.out.below bb17)
      have M17 := Lib.hid (M16.out.below bb17)
      have P17 := Lib.hid (P16.out.below bb17)
      have Q17 := Lib.hid oo
      clear bb17 B16 WT16 M16 P16 oo
      go_wp2_with fail
      refine (iSw_any _ _ _ _ xs0 _ xs2 _ _ _ _ P17.out.cells Q17.out.cells hl' hm').mono ?_
      rintro e w18 ⟨Ah, ch, rfl, oh, bb18⟩
      have B18 := Lib.hid (B17.out.trans (bb18.mono B17.out.size))
      have WT18 := Lib.hid (WT17.out.below bb18)
      have M18 := Lib.hid (M17.out.below bb18)
      have H18 := Lib.hid oh
      clear bb18 B17 WT17 M17 P17 Q17 oh
      go_wp2_with fail
      refine (eqIntS_yes _ _ _ _ (rsL xs0 n1 xs2 n3 n4 n5) _ H18.out.cells WT18.out.cells (rsL_len hm')).mono ?_
      rintro e w19 ⟨rfl, bb19⟩
      have B19 := Lib.hid (B18.out.trans (bb19.mono B18.out.size))
      have WT19 := Lib.hid (WT18.out.below bb19)
      have M19 := Lib.hid (M18.out.below bb19)
      have H19 := Lib.hid (H18.out.below bb19)
      clear bb19 B18 WT18 M18 H18
      go_wp2_with fail
      refine (heldI _ _ _ _ _ M19.out (rsL_len hm')).mono ?_
      rintro e _ ⟨rfl, rfl⟩
      go_wp2_with fail
      go_ret
      exact ⟨rfl, B19.out⟩

set_option maxRecDepth 100000 in
theorem lifted (os : Os) (started : os.Started) (H : Type) (enc : TypeId × Value → H) :
    ReturnsInHanded {} Try.checked os 18 .any (Rows.fnExactRosterSwapSpec.pre6 enc Try.prog Try.f18 Rows.fnExactRosterSwapRow.domain false) (Rows.fnExactRosterSwapSpec.post enc Try.prog Try.f18 false true false false) := by
  refine returnsInHanded_of_change (C := Try.checked) own started (by kernel_rfl) Try.func18
    (ChangeSpec.witness6 (enc := enc) (C := Try.checked) false ⟨#[], #[.slice none 0 0, .int .i64 0, .slice none 0 0, .int .i64 0, .int .i64 0, .int .i64 0], []⟩ 8 (by kernel_rfl) (by kernel_rfl) (by kernel_rfl) (by kernel_rfl)) ?_
  intro W base args ds gs before hval0 hW hcnd _
  have hval : ∀ (j : Nat) t v, Try.f18.params[j]? = some t → args[j]? = some v → Value.okWide Try.prog W .any base t v := hval0
  have hW' := hW
  obtain ⟨p, q, hA0, hV, rfl, hfz, hnd⟩ := hW
  have hA : DataW.TrodAll enc Try.prog W 0 (fun _ => true) true Try.f18.params.toList args.toList ds p := hA0
  rw [Try.params18] at hA hval
  obtain ⟨v0, vs0, d0, ds0, p0, q0, hargs, rfl, rfl, h0, r0⟩ := trodAll_cons hA
  obtain ⟨v1, vs1, d1, ds1, p1, q1, rfl, rfl, rfl, h1, r1⟩ := trodAll_cons r0
  obtain ⟨v2, vs2, d2, ds2, p2, q2, rfl, rfl, rfl, h2, r2⟩ := trodAll_cons r1
  obtain ⟨v3, vs3, d3, ds3, p3, q3, rfl, rfl, rfl, h3, r3⟩ := trodAll_cons r2
  obtain ⟨v4, vs4, d4, ds4, p4, q4, rfl, rfl, rfl, h4, r4⟩ := trodAll_cons r3
  obtain ⟨v5, vs5, d5, ds5, p5, q5, rfl, rfl, rfl, h5, r5⟩ := trodAll_cons r4
  obtain ⟨rfl, rfl, rfl⟩ := trodAll_nil r5
  obtain rfl : args = #[v0, v1, v2, v3, v4, v5] := by cases args; simp_all
  obtain ⟨rfl, rfl⟩ := trodVars_none hV
  obtain ⟨A0, len0, c0, rfl⟩ := okWide_slice Try.underlying22 (hval 0 22 v0 rfl rfl)
  have k0 := h0
  have lt0 : ∀ x ∈ p0, x.block < W.heap.size := by obtain ⟨m, hm⟩ := k0; exact DataW.trod_lt m _ _ _ hm
  obtain ⟨xs0, e0, s0, m0⟩ : ∃ xs : List Rn, xs.length = len0 ∧ Cells W A0 (fr xs) ∧ len0 ≤ 9223372036854775807 := by
    obtain ⟨fuel, hf⟩ := h0
    exact arg_runs hf
  subst e0
  obtain ⟨n1, rfl, rfl, rfl, w1⟩ := open_int Try.underlying3 (hval 1 3 v1 rfl rfl) h1
  obtain ⟨A2, len2, c2, rfl⟩ := okWide_slice Try.underlying44 (hval 2 44 v2 rfl rfl)
  have k2 := h2
  have lt2 : ∀ x ∈ p2, x.block < W.heap.size := by obtain ⟨m, hm⟩ := k2; exact DataW.trod_lt m _ _ _ hm
  obtain ⟨xs2, e2, s2, m2⟩ : ∃ xs : List Int, xs.length = len2 ∧ Cells W A2 xs ∧ len2 ≤ 9223372036854775807 := by
    obtain ⟨fuel, hf⟩ := h2
    exact arg_intS hf
  subst e2
  obtain ⟨n3, rfl, rfl, rfl, w3⟩ := open_int Try.underlying3 (hval 3 3 v3 rfl rfl) h3
  obtain ⟨n4, rfl, rfl, rfl, w4⟩ := open_int Try.underlying3 (hval 4 3 v4 rfl rfl) h4
  obtain ⟨n5, rfl, rfl, rfl, w5⟩ := open_int Try.underlying3 (hval 5 3 v5 rfl rfl) h5
  clear hA0 hval0
  simp only [List.append_nil] at hW'
  refine (walk A0 c0 xs0 n1 A2 c2 xs2 n3 n4 n5 W s0 m0 w1 s2 m2 w3 w4 w5).mono fun e W' ⟨he, bel⟩ => ?_
  subst he
  exact ⟨_, rfl, _, _, _, [], _, [], hW', (trodAll_cons_mk (shut_bool Try.underlying4 _) trodAll_mk0), (trodAll_cons_mk (Below.trod laidOut (by kernel_rfl) (of_decide_eq_true (by kernel_rfl)) k0 bel lt0) (trodAll_cons_mk (shut_int Try.underlying3 w1) (trodAll_cons_mk (Below.trod laidOut (by kernel_rfl) (of_decide_eq_true (by kernel_rfl)) k2 bel lt2) (trodAll_cons_mk (shut_int Try.underlying3 w3) (trodAll_cons_mk (shut_int Try.underlying3 w4) (trodAll_cons_mk (shut_int Try.underlying3 w5) trodAll_mk0)))))), rfl, bel.frame _, fun h => by cases h⟩

set_option maxRecDepth 100000 in
theorem closed : joinedFacts Try.prog 18 Try.f18 Rows.fnExactRosterSwapSpec Rows.fnExactRosterSwapRow = true := by
  unfold joinedFacts
  rw [enter_ok, lifts_ok, make_ok]
  kernel_rfl

theorem over : Rows.fnExactRosterSwapRow.holds Try.pinned (OpenSpec.ofChange Rows.fnExactRosterSwapSpec) :=
  OpenClaim.holds_of_wide 18 Try.f18 rfl rfl rfl rfl rfl rfl rfl ⟨rfl, rfl, rfl, rfl, rfl⟩ rfl rfl rfl rfl rfl (by kernel_rfl) Try.func18 closed
    (of_decide_eq_true (by kernel_rfl)) (by unfold Func.isWrapper; first | (rw [if_pos (by decide +kernel)]; kernel_rfl) | (rw [if_neg (by decide +kernel)]; exact ⟨rfl, rfl⟩))
    (fun os started H enc _ => lifted os started H enc)

theorem proved : Rows.FnExactRosterSwapSaid :=
  over
#print axioms proved
end Go.Proofs.Ytgimheekaceifaa.fnExactRosterSwap
