/-
  For every input laws.FnExactRunsAdd returns true and leaves its arguments as they were (Rows.FnExactRunsAddSaid). Condition: none beyond the given row.
-/
import Derived.Test.YtmnoidgfcpbmgaaRows
import Derived.WalkKit
import Derived.ProofKit
import Derived.OpenShut
import Derived.ShutString
import Derived.ChangeOld
import Derived.Below
import Derived.Lib.SmallJoins
import Derived.Test.YtmnoidgfcpbmgaaEnter
import Derived.Test.YtmnoidgfcpbmgaaRunsArg
import Derived.Test.YtmnoidgfcpbmgaaRunsU3
import Derived.Test.YtmnoidgfcpbmgaaRunsM
import Derived.Test.YtmnoidgfcpbmgaaBoxI
import Derived.Deep.RegionHeld3
namespace Go.Proofs.Ytmnoidgfcpbmgaa.fnExactRunsAdd
open Go.ChangeShapes Go.WideShapes Go.ChangeAt Go.RowKit Go.Joins
open Go.ChangeMaps (open_string shut_string)
set_option linter.unusedVariables false

theorem own : ownKnob Try.prog.godebug = none := by kernel_rfl
theorem laidOut : laidOutB Try.prog = true := by kernel_rfl

set_option maxRecDepth 100000 in
set_option maxHeartbeats 2000000 in
theorem walk (A0 : Option Addr) (c0 : Nat) (xs0 : List Rn) (r1_0 : Int) (r1_1 : Int) (w : World) (s0 : Cells w A0 (fr xs0)) (m0 : xs0.length ≤ 9223372036854775807) (w1_0 : (Lit.int .i64 r1_0).wf = true) (w1_1 : (Lit.int .i64 r1_1).wf = true) :
    Calls Try.prog 4 #[.slice A0 xs0.length c0, .agg #[.int .i64 r1_0, .int .i64 r1_1]] w fun e w' => e = .returned (.bool true) ∧ Below w.heap.size w w' := by
  by_cases hl : 1048576 < xs0.length
  · go_enter Try.func4, Try.ntmps4
    go_wp2_with fail
    refine (szRunS_over A0 xs0.length c0 _ hl m0).mono ?_
    rintro e w1 ⟨rfl, rfl⟩
    go_wp2_with fail
    go_ret
    exact ⟨rfl, (Below.refl _ _).alloc (Nat.le_refl _) _⟩
  · have hl' : xs0.length ≤ 1048576 := by omega
    have S0 := Lib.hid s0
    clear hl m0 s0
    go_enter Try.func4, Try.ntmps4
    go_wp2_with fail
    refine (szRunS_any A0 xs0.length c0 _ hl').mono ?_
    rintro e _ ⟨rfl, rfl⟩
    have B0 := Lib.hid ((Below.refl w.heap.size w).alloc (Nat.le_refl _) (.cells #[.int .i64 r1_0, .int .i64 r1_1] 34))
    have BX0 := Lib.hid (BoxI.new2 w r1_0 r1_1 34)
    go_wp2_with fail
    generalize w.alloc (.cells #[.int .i64 r1_0, .int .i64 r1_1] 34) = w0 at B0 BX0 ⊢
    have D0 := Lib.hid ((Below.refl w0.heap.size w0).drew)
    have Z0 := Lib.hid (BX0.out.below D0.out)
    go_region_held3 (fun W => W.cell? ⟨w.heap.size, 0, none⟩ = some (.int .i64 r1_0) ∧ W.cell? ⟨w.heap.size, 1, none⟩ = some (.int .i64 r1_1)) (first | exact Z3.out.two | exact Z2.out.two | exact Z1.out.two | exact Z0.out.two) (first
      | (have hh := P2.out; clear hh; go_at_call 7; refine (sRA_any _ _ xs0 ⟨r1_0, r1_1⟩ _ P2.out.1.cells hl' (Nat.le_refl _) (by omega)).mono ?_; rintro e w1 ⟨Aw, cw, rfl, ow, y3⟩; have Z3 := Lib.hid (Z2.out.below y3); have E3 := Lib.hid (P2.out.2.trans (y3.mono P2.out.2.size)); clear y3)
      | (have hh := P1.out; clear hh; go_at_call 12; refine (toRun_any _ _ _).mono ?_; rintro e v2 ⟨rfl, y2⟩; have P2 := Lib.hid (And.intro (P1.out.1.below y2) (P1.out.2.trans (y2.mono P1.out.2.size))); have Z2 := Lib.hid (Z1.out.below y2); clear y2)
      | (have hh := T1.out; clear hh; go_at_call 11; refine (toRunS_own A0 c0 xs0 _ (S0.out.below (B0.out.trans (T1.out.mono B0.out.size))) hl').mono ?_; rintro e v2 ⟨rfl, oo, y2⟩; have P2 := Lib.hid (And.intro oo (T1.out.trans (y2.mono T1.out.size))); have Z2 := Lib.hid (Z1.out.below y2); clear oo y2)
      | (go_at_call 11; refine (toRunS_own A0 c0 xs0 _ (S0.out.below (B0.out.trans (D0.out.mono B0.out.size))) hl').mono ?_; rintro e v1 ⟨rfl, oo, y1⟩; have P1 := Lib.hid (And.intro oo (D0.out.trans (y1.mono D0.out.size))); have Z1 := Lib.hid (Z0.out.below y1); clear oo y1)
      | (go_at_call 12; refine (toRun_any _ _ _).mono ?_; rintro e v1 ⟨rfl, y1⟩; have T1 := Lib.hid (D0.out.trans (y1.mono D0.out.size)); have Z1 := Lib.hid (Z0.out.below y1); clear y1))
    all_goals
      have B1 := Lib.hid (B0.out.trans (E3.out.mono B0.out.size))
      have BX1 := Lib.hid (BX0.out.below E3.out)
      have WT1 := Lib.hid ow
      clear ow E3 Z3 Z2 Z1 Z0 D0 P2 B0 BX0
      try clear P1
      try clear T1
      have LW := Lib.hid (show ∀ q, (Value.slice Aw (raL xs0 ⟨r1_0, r1_1⟩).length cw).ownBlock = some q → q < w1.heap.size from fun q hq => (World.ownsRow.lt WT1.out q hq).2)
      have bx := B1.out.size
      have hbx := BX1.out.1
      go_wp2_with fail
      refine (toRunS_own A0 c0 xs0 _ (S0.out.below B1.out) hl').mono ?_
      rintro e w2 ⟨rfl, oo, bb2⟩
      have B2 := Lib.hid (B1.out.trans (bb2.mono B1.out.size))
      have BX2 := Lib.hid (BX1.out.below bb2)
      have WT2 := Lib.hid (WT1.out.below bb2)
      have X2 := Lib.hid oo
      clear bb2 B1 BX1 WT1 oo
      have hsx : w1.heap.size < w2.heap.size := (World.ownsRow.lt X2.out w1.heap.size rfl).2
      obtain ⟨x0, x1⟩ := BX2.out.two
      go_wp2_with fail
      clear x0 x1
      refine (toRun_any _ _ _).mono ?_
      rintro e w3 ⟨rfl, bb3⟩
      have B3 := Lib.hid (B2.out.trans (bb3.mono B2.out.size))
      have hsr := bb3.size
      have BX3 := Lib.hid (BX2.out.below bb3)
      have WT3 := Lib.hid (WT2.out.below bb3)
      have X3 := Lib.hid (X2.out.below bb3)
      clear bb3 B2 BX2 WT2 X2
      go_wp2_with fail
      refine (iRA_any _ _ xs0 ⟨r1_0, r1_1⟩ _ X3.out.cells hl' (Nat.le_refl _) (by omega)).mono ?_
      rintro e w4 ⟨Ag, cg, rfl, og, bb4⟩
      have B4 := Lib.hid (B3.out.trans (bb4.mono B3.out.size))
      have BX4 := Lib.hid (BX3.out.below bb4)
      have WT4 := Lib.hid (WT3.out.below bb4)
      have X4 := Lib.hid (X3.out.below bb4)
      have G4 := Lib.hid og
      clear bb4 B3 BX3 WT3 X3 og
      have LG := Lib.hid (show ∀ q, (Value.slice Ag (raL xs0 ⟨r1_0, r1_1⟩).length cg).ownBlock = some q → w3.heap.size ≤ q from fun q hq => (World.ownsRow.lt G4.out q hq).1)
      go_wp2_with fail
      refine (eqRunS_yes _ _ _ _ (raL xs0 ⟨r1_0, r1_1⟩) _ G4.out.cells WT4.out.cells (raL_len xs0 ⟨r1_0, r1_1⟩ hl')).mono ?_
      rintro e w5 ⟨rfl, bb5⟩
      have B5 := Lib.hid (B4.out.trans (bb5.mono B4.out.size))
      have BX5 := Lib.hid (BX4.out.below bb5)
      have WT5 := Lib.hid (WT4.out.below bb5)
      have X5 := Lib.hid (X4.out.below bb5)
      have G5 := Lib.hid (G4.out.below bb5)
      clear bb5 B4 BX4 WT4 X4 G4
      go_wp2_with fail
      refine (toRunS_own A0 c0 xs0 _ (S0.out.below B5.out) hl').mono ?_
      rintro e w6 ⟨rfl, oo, bb6⟩
      have B6 := Lib.hid (B5.out.trans (bb6.mono B5.out.size))
      have BX6 := Lib.hid (BX5.out.below bb6)
      have WT6 := Lib.hid (WT5.out.below bb6)
      have X6 := Lib.hid (X5.out.below bb6)
      have G6 := Lib.hid (G5.out.below bb6)
      have Y6 := Lib.hid oo
      clear bb6 B5 BX5 WT5 X5 G5 oo
      obtain ⟨x0, x1⟩ := BX6.out.two
      go_wp2_with fail
      clear x0 x1
      refine (eqRunS_yes _ _ _ _ xs0 _ X6.out.cells Y6.out.cells hl').mono ?_
      rintro e w7 ⟨rfl, bb7⟩
      have B7 := Lib.hid (B6.out.trans (bb7.mono B6.out.size))
      have BX7 := Lib.hid (BX6.out.below bb7)
      have WT7 := Lib.hid (WT6.out.below bb7)
      have X7 := Lib.hid (X6.out.below bb7)
      have G7 := Lib.hid (G6.out.below bb7)
      clear bb7 B6 BX6 WT6 X6 G6 Y6
      go_wp2_with fail
      refine (markR _ _ _ xs0 _ X7.out hl').mono ?_
      rintro e w8 ⟨rfl, -, gg⟩
      have B8 := Lib.hid (B7.out.grown gg B7.out.size (fun q hq => by have h8 : some w1.heap.size = some q := hq; injection h8 with h8; have := bx; omega))
      have WT8 := Lib.hid (WT7.out.kept gg (fun q hq he => by have h8 : some q = some w1.heap.size := he; injection h8 with h8; have h9 := LW.out _ hq; have := hsx; have := hsr; omega))
      have G8 := Lib.hid (G7.out.kept gg (fun q hq he => by have h8 : some q = some w1.heap.size := he; injection h8 with h8; have h9 := LG.out _ hq; have := hsx; have := hsr; omega))
      have BX8 := Lib.hid (BX7.out.kept gg (fun he => by have h8 : some w.heap.size = some w1.heap.size := he; injection h8 with h8; have := hbx; omega))
      clear gg B7 WT7 G7 BX7 X7
      go_wp2_with fail
      refine (eqRunS_yes _ _ _ _ (raL xs0 ⟨r1_0, r1_1⟩) _ G8.out.cells WT8.out.cells (raL_len xs0 ⟨r1_0, r1_1⟩ hl')).mono ?_
      rintro e w9 ⟨rfl, bb9⟩
      have B9 := Lib.hid (B8.out.trans (bb9.mono B8.out.size))
      have BX9 := Lib.hid (BX8.out.below bb9)
      have WT9 := Lib.hid (WT8.out.below bb9)
      have G9 := Lib.hid (G8.out.below bb9)
      clear bb9 B8 BX8 WT8 G8
      go_wp2_with fail
      refine (markR _ _ _ (raL xs0 ⟨r1_0, r1_1⟩) _ G9.out (raL_len xs0 ⟨r1_0, r1_1⟩ hl')).mono ?_
      rintro e w10 ⟨rfl, og, gg⟩
      have B10 := Lib.hid (B9.out.grown gg B9.out.size (fun q hq => by have h9 := LG.out q hq; have := bx; have := hsx; have := hsr; omega))
      have WT10 := Lib.hid (WT9.out.kept gg (fun q hq he => by have h1 := LW.out _ hq; have h2 := LG.out q he.symm; have := hsx; have := hsr; omega))
      have BX10 := Lib.hid (BX9.out.kept gg (fun he => by have h9 := LG.out _ he.symm; have := hbx; have := hsx; have := hsr; omega))
      have M10 := Lib.hid (show Marked _ _ _ _ _ _ _ from og)
      clear gg og B9 WT9 G9 BX9
      go_wp2_with fail
      refine (heldR _ _ _ _ _ M10.out (raL_len xs0 ⟨r1_0, r1_1⟩ hl')).mono ?_
      rintro e _ ⟨rfl, rfl⟩
      go_wp2_with fail
      have D0 := Lib.hid ((Below.refl w10.heap.size w10).drew)
      have Z0 := Lib.hid (BX10.out.below D0.out)
      go_region_held3 (fun W => W.cell? ⟨w.heap.size, 0, none⟩ = some (.int .i64 r1_0) ∧ W.cell? ⟨w.heap.size, 1, none⟩ = some (.int .i64 r1_1)) (first | exact Z3.out.two | exact Z2.out.two | exact Z1.out.two | exact Z0.out.two) (first
        | (have hh := P2.out; clear hh; go_at_call 6; refine (iRA_any _ _ xs0 ⟨r1_0, r1_1⟩ _ P2.out.1.cells hl' (Nat.le_refl _) (by omega)).mono ?_; rintro e w11 ⟨Ah, ch, rfl, oh, y3⟩; have Z3 := Lib.hid (Z2.out.below y3); have E3 := Lib.hid (P2.out.2.trans (y3.mono P2.out.2.size)); clear y3)
        | (have hh := P1.out; clear hh; go_at_call 12; refine (toRun_any _ _ _).mono ?_; rintro e v2 ⟨rfl, y2⟩; have P2 := Lib.hid (And.intro (P1.out.1.below y2) (P1.out.2.trans (y2.mono P1.out.2.size))); have Z2 := Lib.hid (Z1.out.below y2); clear y2)
        | (have hh := T1.out; clear hh; go_at_call 11; refine (toRunS_own A0 c0 xs0 _ (S0.out.below (B10.out.trans (T1.out.mono B10.out.size))) hl').mono ?_; rintro e v2 ⟨rfl, oo, y2⟩; have P2 := Lib.hid (And.intro oo (T1.out.trans (y2.mono T1.out.size))); have Z2 := Lib.hid (Z1.out.below y2); clear oo y2)
        | (go_at_call 11; refine (toRunS_own A0 c0 xs0 _ (S0.out.below (B10.out.trans (D0.out.mono B10.out.size))) hl').mono ?_; rintro e v1 ⟨rfl, oo, y1⟩; have P1 := Lib.hid (And.intro oo (D0.out.trans (y1.mono D0.out.size))); have Z1 := Lib.hid (Z0.out.below y1); clear oo y1)
        | (go_at_call 12; refine (toRun_any _ _ _).mono ?_; rintro e v1 ⟨rfl, y1⟩; have T1 := Lib.hid (D0.out.trans (y1.mono D0.out.size)); have Z1 := Lib.hid (Z0.out.below y1); clear y1))
      all_goals
        have B11 := Lib.hid (B10.out.trans (E3.out.mono B10.out.size))
        have WT11 := Lib.hid (WT10.out.below E3.out)
        have M11 := Lib.hid (M10.out.below E3.out)
        have BX11 := Lib.hid (BX10.out.below E3.out)
        have H11 := Lib.hid oh
        clear oh E3 Z3 Z2 Z1 Z0 D0 P2 B10 WT10 M10 BX10
        try clear P1
        try clear T1
        go_wp2_with fail
        refine (eqRunS_yes _ _ _ _ (raL xs0 ⟨r1_0, r1_1⟩) _ H11.out.cells WT11.out.cells (raL_len xs0 ⟨r1_0, r1_1⟩ hl')).mono ?_
        rintro e w12 ⟨rfl, bb12⟩
        have B12 := Lib.hid (B11.out.trans (bb12.mono B11.out.size))
        have WT12 := Lib.hid (WT11.out.below bb12)
        have M12 := Lib.hid (M11.out.below bb12)
        have BX12 := Lib.hid (BX11.out.below bb12)
        have H12 := Lib.hid (H11.out.below bb12)
        clear bb12 B11 WT11 M11 BX11 H11
        go_wp2_with fail
        refine (heldR _ _ _ _ _ M12.out (raL_len xs0 ⟨r1_0, r1_1⟩ hl')).mono ?_
        rintro e _ ⟨rfl, rfl⟩
        go_wp2_with fail
        go_ret
        exact ⟨rfl, B12.out⟩

set_option maxRecDepth 100000 in
theorem lifted (os : Os) (started : os.Started) (H : Type) (enc : TypeId × Value → H) :
    ReturnsInHanded {} Try.checked os 4 .any (Rows.fnExactRunsAddSpec.pre6 enc Try.prog Try.f4 Rows.fnExactRunsAddRow.domain false) (Rows.fnExactRunsAddSpec.post enc Try.prog Try.f4 false true false false) := by
  refine returnsInHanded_of_change (C := Try.checked) own started (by kernel_rfl) Try.func4
    (ChangeSpec.witness6 (enc := enc) (C := Try.checked) false ⟨#[], #[.slice none 0 0, .agg #[.int .i64 0, .int .i64 0]], []⟩ 8 (by kernel_rfl) (by kernel_rfl) (by kernel_rfl) (by kernel_rfl)) ?_
  intro W base args ds gs before hval0 hW hcnd _
  have hval : ∀ (j : Nat) t v, Try.f4.params[j]? = some t → args[j]? = some v → Value.okWide Try.prog W .any base t v := hval0
  have hW' := hW
  obtain ⟨p, q, hA0, hV, rfl, hfz, hnd⟩ := hW
  have hA : DataW.TrodAll enc Try.prog W 0 (fun _ => true) true Try.f4.params.toList args.toList ds p := hA0
  rw [Try.params4] at hA hval
  obtain ⟨v0, vs0, d0, ds0, p0, q0, hargs, rfl, rfl, h0, r0⟩ := trodAll_cons hA
  obtain ⟨v1, vs1, d1, ds1, p1, q1, rfl, rfl, rfl, h1, r1⟩ := trodAll_cons r0
  obtain ⟨rfl, rfl, rfl⟩ := trodAll_nil r1
  obtain rfl : args = #[v0, v1] := by cases args; simp_all
  obtain ⟨rfl, rfl⟩ := trodVars_none hV
  obtain ⟨A0, len0, c0, rfl⟩ := okWide_slice Try.underlying33 (hval 0 33 v0 rfl rfl)
  have k0 := h0
  have lt0 : ∀ x ∈ p0, x.block < W.heap.size := by obtain ⟨m, hm⟩ := k0; exact DataW.trod_lt m _ _ _ hm
  obtain ⟨xs0, e0, s0, m0⟩ : ∃ xs : List Rn, xs.length = len0 ∧ Cells W A0 (fr xs) ∧ len0 ≤ 9223372036854775807 := by
    obtain ⟨fuel, hf⟩ := h0
    exact arg_runs hf
  subst e0
  have k1 := h1
  have lt1 : ∀ x ∈ p1, x.block < W.heap.size := by obtain ⟨m, hm⟩ := k1; exact DataW.trod_lt m _ _ _ hm
  obtain ⟨q1_0, q1_1, y1_0, y1_1, n1_, hv1, hd1, hp1, hy1_0, hy1_1⟩ := open_agg2 Try.underlying34 (by kernel_rfl) (by kernel_rfl) (hval 1 34 v1 rfl rfl) h1
  obtain ⟨r1_0, f1_0, -, w1_0⟩ := DataW.trod_int Try.underlying3 hy1_0
  simp only [List.cons.injEq, and_true] at f1_0
  subst f1_0
  obtain ⟨r1_1, f1_1, -, w1_1⟩ := DataW.trod_int Try.underlying3 hy1_1
  simp only [List.cons.injEq, and_true] at f1_1
  subst f1_1
  subst hv1
  clear hA0 hval0
  simp only [List.append_nil] at hW'
  refine (walk A0 c0 xs0 r1_0 r1_1 W s0 m0 w1_0 w1_1).mono fun e W' ⟨he, bel⟩ => ?_
  subst he
  exact ⟨_, rfl, _, _, _, [], _, [], hW', (trodAll_cons_mk (shut_bool Try.underlying4 _) trodAll_mk0), (trodAll_cons_mk (Below.trod laidOut (by kernel_rfl) (of_decide_eq_true (by kernel_rfl)) k0 bel lt0) (trodAll_cons_mk (Below.trod laidOut (by kernel_rfl) (of_decide_eq_true (by kernel_rfl)) k1 bel lt1) trodAll_mk0)), rfl, bel.frame _, fun h => by cases h⟩

set_option maxRecDepth 100000 in
theorem closed : joinedFacts Try.prog 4 Try.f4 Rows.fnExactRunsAddSpec Rows.fnExactRunsAddRow = true := by
  unfold joinedFacts
  rw [enter_ok, lifts_ok, make_ok]
  kernel_rfl

theorem over : Rows.fnExactRunsAddRow.holds Try.pinned (OpenSpec.ofChange Rows.fnExactRunsAddSpec) :=
  OpenClaim.holds_of_wide 4 Try.f4 rfl rfl rfl rfl rfl rfl rfl ⟨rfl, rfl, rfl, rfl, rfl⟩ rfl rfl rfl rfl rfl (by kernel_rfl) Try.func4 closed
    (of_decide_eq_true (by kernel_rfl)) (by unfold Func.isWrapper; first | (rw [if_pos (by decide +kernel)]; kernel_rfl) | (rw [if_neg (by decide +kernel)]; exact ⟨rfl, rfl⟩))
    (fun os started H enc _ => lifted os started H enc)

theorem proved : Rows.FnExactRunsAddSaid :=
  over
#print axioms proved
end Go.Proofs.Ytmnoidgfcpbmgaa.fnExactRunsAdd
