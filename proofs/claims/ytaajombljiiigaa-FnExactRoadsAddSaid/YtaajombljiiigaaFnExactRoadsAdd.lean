/-
  For every input laws.FnExactRoadsAdd returns true and leaves its arguments as they were (Rows.FnExactRoadsAddSaid). Condition: none beyond the given row.
-/
import Derived.Test.YtaajombljiiigaaRows
import Derived.WalkKit
import Derived.ProofKit
import Derived.OpenShut
import Derived.ShutString
import Derived.ChangeOld
import Derived.Below
import Derived.Lib.SmallJoins
import Derived.Test.YtaajombljiiigaaEnter
import Derived.Test.YtaajombljiiigaaRoadsArg
import Derived.Test.YtaajombljiiigaaRoadsH
import Derived.Test.YtaajombljiiigaaBoxI
import Derived.Deep.RegionHeld3
namespace Go.Proofs.Ytaajombljiiigaa.fnExactRoadsAdd
open Go.ChangeShapes Go.WideShapes Go.ChangeAt Go.RowKit Go.Joins
open Go.ChangeMaps (open_string shut_string)
set_option linter.unusedVariables false

theorem own : ownKnob Try.prog.godebug = none := by kernel_rfl
theorem laidOut : laidOutB Try.prog = true := by kernel_rfl

set_option maxRecDepth 100000 in
set_option maxHeartbeats 2000000 in
theorem walk (n0 : Int) (A1 : Option Addr) (c1 : Nat) (xs1 : List Rd3) (r2_0 : Int) (r2_1 : Int) (r2_2 : Int) (w : World) (w0 : (Lit.int .i64 n0).wf = true) (s1 : Cells w A1 (fd xs1)) (m1 : xs1.length ≤ 9223372036854775807) (w2_0 : (Lit.int .i64 r2_0).wf = true) (w2_1 : (Lit.int .i64 r2_1).wf = true) (w2_2 : (Lit.int .i64 r2_2).wf = true) :
    Calls Try.prog 6 #[.int .i64 n0, .slice A1 xs1.length c1, .agg #[.int .i64 r2_0, .int .i64 r2_1, .int .i64 r2_2]] w fun e w' => e = .returned (.bool true) ∧ Below w.heap.size w w' := by
  by_cases hl : 1048576 < xs1.length
  · go_enter Try.func6, Try.ntmps6
    go_wp2_with fail
    refine (szRoadS_over A1 xs1.length c1 _ hl m1).mono ?_
    rintro e w1 ⟨rfl, rfl⟩
    go_wp2_with fail
    go_ret
    exact ⟨rfl, (Below.refl _ _).alloc (Nat.le_refl _) _⟩
  · have hl' : xs1.length ≤ 1048576 := by omega
    have S1 := Lib.hid s1
    clear hl m1 s1
    go_enter Try.func6, Try.ntmps6
    go_wp2_with fail
    refine (szRoadS_any A1 xs1.length c1 _ hl').mono ?_
    rintro e _ ⟨rfl, rfl⟩
    have B0 := Lib.hid ((Below.refl w.heap.size w).alloc (Nat.le_refl _) (.cells #[.int .i64 r2_0, .int .i64 r2_1, .int .i64 r2_2] 33))
    have BX0 := Lib.hid (BoxI.new3 w r2_0 r2_1 r2_2 33)
    go_wp2_with fail
    generalize w.alloc (.cells #[.int .i64 r2_0, .int .i64 r2_1, .int .i64 r2_2] 33) = w0 at B0 BX0 ⊢
    have D0 := Lib.hid ((Below.refl w0.heap.size w0).drew)
    have Z0 := Lib.hid (BX0.out.below D0.out)
    go_region_held3 (fun W => W.cell? ⟨w.heap.size, 0, none⟩ = some (.int .i64 r2_0) ∧ W.cell? ⟨w.heap.size, 1, none⟩ = some (.int .i64 r2_1) ∧ W.cell? ⟨w.heap.size, 2, none⟩ = some (.int .i64 r2_2)) (first | exact Z3.out.three | exact Z2.out.three | exact Z1.out.three | exact Z0.out.three) (first
      | (have hh := P2.out; clear hh; go_at_call 19; refine (sDA_any _ _ _ xs1 ⟨r2_0, r2_1, r2_2⟩ _ P2.out.1.cells hl').mono ?_; rintro e w1 ⟨Aw, cw, rfl, ow, y3⟩; have Z3 := Lib.hid (Z2.out.below y3); have E3 := Lib.hid (P2.out.2.trans (y3.mono P2.out.2.size)); clear y3)
      | (have hh := P1.out; clear hh; go_at_call 20; refine (toRoad_any _ _ _ _).mono ?_; rintro e v2 ⟨rfl, y2⟩; have P2 := Lib.hid (And.intro (P1.out.1.below y2) (P1.out.2.trans (y2.mono P1.out.2.size))); have Z2 := Lib.hid (Z1.out.below y2); clear y2)
      | (have hh := T1.out; clear hh; go_at_call 12; refine (toRoadS_own A1 c1 xs1 _ (S1.out.below (B0.out.trans (T1.out.mono B0.out.size))) hl').mono ?_; rintro e v2 ⟨rfl, oo, y2⟩; have P2 := Lib.hid (And.intro oo (T1.out.trans (y2.mono T1.out.size))); have Z2 := Lib.hid (Z1.out.below y2); clear oo y2)
      | (go_at_call 12; refine (toRoadS_own A1 c1 xs1 _ (S1.out.below (B0.out.trans (D0.out.mono B0.out.size))) hl').mono ?_; rintro e v1 ⟨rfl, oo, y1⟩; have P1 := Lib.hid (And.intro oo (D0.out.trans (y1.mono D0.out.size))); have Z1 := Lib.hid (Z0.out.below y1); clear oo y1)
      | (go_at_call 20; refine (toRoad_any _ _ _ _).mono ?_; rintro e v1 ⟨rfl, y1⟩; have T1 := Lib.hid (D0.out.trans (y1.mono D0.out.size)); have Z1 := Lib.hid (Z0.out.below y1); clear y1))
    all_goals
      have B1 := Lib.hid (B0.out.trans (E3.out.mono B0.out.size))
      have BX1 := Lib.hid (BX0.out.below E3.out)
      have WT1 := Lib.hid ow
      clear ow E3 Z3 Z2 Z1 Z0 D0 P2 B0 BX0
      try clear P1
      try clear T1
      have LW := Lib.hid (show ∀ q, (Value.slice Aw (daL n0 xs1 ⟨r2_0, r2_1, r2_2⟩).length cw).ownBlock = some q → q < w1.heap.size from fun q hq => (World.ownsRow.lt WT1.out q hq).2)
      have bx := B1.out.size
      have hbx := BX1.out.1
      go_wp2_with fail
      refine (toRoadS_own A1 c1 xs1 _ (S1.out.below B1.out) hl').mono ?_
      rintro e w2 ⟨rfl, oo, bb2⟩
      have B2 := Lib.hid (B1.out.trans (bb2.mono B1.out.size))
      have BX2 := Lib.hid (BX1.out.below bb2)
      have WT2 := Lib.hid (WT1.out.below bb2)
      have X2 := Lib.hid oo
      clear bb2 B1 BX1 WT1 oo
      have hsx : w1.heap.size < w2.heap.size := (World.ownsRow.lt X2.out w1.heap.size rfl).2
      obtain ⟨x0, x1, x2⟩ := BX2.out.three
      go_wp2_with fail
      clear x0 x1 x2
      refine (toRoad_any _ _ _ _).mono ?_
      rintro e w3 ⟨rfl, bb3⟩
      have B3 := Lib.hid (B2.out.trans (bb3.mono B2.out.size))
      have hsr := bb3.size
      have BX3 := Lib.hid (BX2.out.below bb3)
      have WT3 := Lib.hid (WT2.out.below bb3)
      have X3 := Lib.hid (X2.out.below bb3)
      clear bb3 B2 BX2 WT2 X2
      go_wp2_with fail
      refine (iDA_any _ _ _ xs1 ⟨r2_0, r2_1, r2_2⟩ _ X3.out.cells (fun g => nomatch g) hl').mono ?_
      rintro e w4 ⟨Ag, cg, rfl, og, bb4⟩
      have B4 := Lib.hid (B3.out.trans (bb4.mono B3.out.size))
      have BX4 := Lib.hid (BX3.out.below bb4)
      have WT4 := Lib.hid (WT3.out.below bb4)
      have X4 := Lib.hid (X3.out.below bb4)
      have G4 := Lib.hid og
      clear bb4 B3 BX3 WT3 X3 og
      have LG := Lib.hid (show ∀ q, (Value.slice Ag (daL n0 xs1 ⟨r2_0, r2_1, r2_2⟩).length cg).ownBlock = some q → w3.heap.size ≤ q from fun q hq => (World.ownsRow.lt G4.out q hq).1)
      go_wp2_with fail
      refine (eqRoadS_yes _ _ _ _ (daL n0 xs1 ⟨r2_0, r2_1, r2_2⟩) _ G4.out.cells WT4.out.cells (daL_len n0 xs1 ⟨r2_0, r2_1, r2_2⟩)).mono ?_
      rintro e w5 ⟨rfl, bb5⟩
      have B5 := Lib.hid (B4.out.trans (bb5.mono B4.out.size))
      have BX5 := Lib.hid (BX4.out.below bb5)
      have WT5 := Lib.hid (WT4.out.below bb5)
      have X5 := Lib.hid (X4.out.below bb5)
      have G5 := Lib.hid (G4.out.below bb5)
      clear bb5 B4 BX4 WT4 X4 G4
      go_wp2_with fail
      refine (toRoadS_own A1 c1 xs1 _ (S1.out.below B5.out) hl').mono ?_
      rintro e w6 ⟨rfl, oo, bb6⟩
      have B6 := Lib.hid (B5.out.trans (bb6.mono B5.out.size))
      have BX6 := Lib.hid (BX5.out.below bb6)
      have WT6 := Lib.hid (WT5.out.below bb6)
      have X6 := Lib.hid (X5.out.below bb6)
      have G6 := Lib.hid (G5.out.below bb6)
      have Y6 := Lib.hid oo
      clear bb6 B5 BX5 WT5 X5 G5 oo
      obtain ⟨x0, x1, x2⟩ := BX6.out.three
      go_wp2_with fail
      clear x0 x1 x2
      refine (eqRoadS_yes _ _ _ _ xs1 _ X6.out.cells Y6.out.cells hl').mono ?_
      rintro e w7 ⟨rfl, bb7⟩
      have B7 := Lib.hid (B6.out.trans (bb7.mono B6.out.size))
      have BX7 := Lib.hid (BX6.out.below bb7)
      have WT7 := Lib.hid (WT6.out.below bb7)
      have X7 := Lib.hid (X6.out.below bb7)
      have G7 := Lib.hid (G6.out.below bb7)
      clear bb7 B6 BX6 WT6 X6 G6 Y6
      go_wp2_with fail
      refine (markD _ _ _ xs1 _ X7.out hl').mono ?_
      rintro e w8 ⟨rfl, -, gg⟩
      have B8 := Lib.hid (B7.out.grown gg B7.out.size (fun q hq => by have h8 : some w1.heap.size = some q := hq; injection h8 with h8; have := bx; omega))
      have WT8 := Lib.hid (WT7.out.kept gg (fun q hq he => by have h8 : some q = some w1.heap.size := he; injection h8 with h8; have h9 := LW.out _ hq; have := hsx; have := hsr; omega))
      have G8 := Lib.hid (G7.out.kept gg (fun q hq he => by have h8 : some q = some w1.heap.size := he; injection h8 with h8; have h9 := LG.out _ hq; have := hsx; have := hsr; omega))
      have BX8 := Lib.hid (BX7.out.kept gg (fun he => by have h8 : some w.heap.size = some w1.heap.size := he; injection h8 with h8; have := hbx; omega))
      clear gg B7 WT7 G7 BX7 X7
      go_wp2_with fail
      refine (eqRoadS_yes _ _ _ _ (daL n0 xs1 ⟨r2_0, r2_1, r2_2⟩) _ G8.out.cells WT8.out.cells (daL_len n0 xs1 ⟨r2_0, r2_1, r2_2⟩)).mono ?_
      rintro e w9 ⟨rfl, bb9⟩
      have B9 := Lib.hid (B8.out.trans (bb9.mono B8.out.size))
      have BX9 := Lib.hid (BX8.out.below bb9)
      have WT9 := Lib.hid (WT8.out.below bb9)
      have G9 := Lib.hid (G8.out.below bb9)
      clear bb9 B8 BX8 WT8 G8
      go_wp2_with fail
      refine (markD _ _ _ (daL n0 xs1 ⟨r2_0, r2_1, r2_2⟩) _ G9.out (daL_len n0 xs1 ⟨r2_0, r2_1, r2_2⟩)).mono ?_
      rintro e w10 ⟨rfl, og, gg⟩
      have B10 := Lib.hid (B9.out.grown gg B9.out.size (fun q hq => by have h9 := LG.out q hq; have := bx; have := hsx; have := hsr; omega))
      have WT10 := Lib.hid (WT9.out.kept gg (fun q hq he => by have h1 := LW.out _ hq; have h2 := LG.out q he.symm; have := hsx; have := hsr; omega))
      have BX10 := Lib.hid (BX9.out.kept gg (fun he => by have h9 := LG.out _ he.symm; have := hbx; have := hsx; have := hsr; omega))
      have M10 := Lib.hid (show Marked _ _ _ _ _ _ _ from og)
      clear gg og B9 WT9 G9 BX9
      go_wp2_with fail
      refine (heldD _ _ _ _ _ M10.out (daL_len n0 xs1 ⟨r2_0, r2_1, r2_2⟩)).mono ?_
      rintro e _ ⟨rfl, rfl⟩
      go_wp2_with fail
      have D0 := Lib.hid ((Below.refl w10.heap.size w10).drew)
      have Z0 := Lib.hid (BX10.out.below D0.out)
      go_region_held3 (fun W => W.cell? ⟨w.heap.size, 0, none⟩ = some (.int .i64 r2_0) ∧ W.cell? ⟨w.heap.size, 1, none⟩ = some (.int .i64 r2_1) ∧ W.cell? ⟨w.heap.size, 2, none⟩ = some (.int .i64 r2_2)) (first | exact Z3.out.three | exact Z2.out.three | exact Z1.out.three | exact Z0.out.three) (first
        | (have hh := P2.out; clear hh; go_at_call 21; refine (iDA_any _ _ _ xs1 ⟨r2_0, r2_1, r2_2⟩ _ P2.out.1.cells (fun g => nomatch g) hl').mono ?_; rintro e w11 ⟨Ah, ch, rfl, oh, y3⟩; have Z3 := Lib.hid (Z2.out.below y3); have E3 := Lib.hid (P2.out.2.trans (y3.mono P2.out.2.size)); clear y3)
        | (have hh := P1.out; clear hh; go_at_call 20; refine (toRoad_any _ _ _ _).mono ?_; rintro e v2 ⟨rfl, y2⟩; have P2 := Lib.hid (And.intro (P1.out.1.below y2) (P1.out.2.trans (y2.mono P1.out.2.size))); have Z2 := Lib.hid (Z1.out.below y2); clear y2)
        | (have hh := T1.out; clear hh; go_at_call 12; refine (toRoadS_own A1 c1 xs1 _ (S1.out.below (B10.out.trans (T1.out.mono B10.out.size))) hl').mono ?_; rintro e v2 ⟨rfl, oo, y2⟩; have P2 := Lib.hid (And.intro oo (T1.out.trans (y2.mono T1.out.size))); have Z2 := Lib.hid (Z1.out.below y2); clear oo y2)
        | (go_at_call 12; refine (toRoadS_own A1 c1 xs1 _ (S1.out.below (B10.out.trans (D0.out.mono B10.out.size))) hl').mono ?_; rintro e v1 ⟨rfl, oo, y1⟩; have P1 := Lib.hid (And.intro oo (D0.out.trans (y1.mono D0.out.size))); have Z1 := Lib.hid (Z0.out.below y1); clear oo y1)
        | (go_at_call 20; refine (toRoad_any _ _ _ _).mono ?_; rintro e v1 ⟨rfl, y1⟩; have T1 := Lib.hid (D0.out.trans (y1.mono D0.out.size)); have Z1 := Lib.hid (Z0.out.below y1); clear y1))
      all_goals
        have B11 := Lib.hid (B10.out.trans (E3.out.mono B10.out.size))
        have WT11 := Lib.hid (WT10.out.below E3.out)
        have M11 := Lib.hid (M10.out.below E3.out)
        have BX11 := Lib.hid (BX10.out.below E3.out)
        have H11 := Lib.hid oh
        clear oh E3 Z3 Z2 Z1 Z0 D0 P2 B10 WT10 M10 BX10
        try clear P1
        try clear T1
        go_wp2_with fail
        refine (eqRoadS_yes _ _ _ _ (daL n0 xs1 ⟨r2_0, r2_1, r2_2⟩) _ H11.out.cells WT11.out.cells (daL_len n0 xs1 ⟨r2_0, r2_1, r2_2⟩)).mono ?_
        rintro e w12 ⟨rfl, bb12⟩
        have B12 := Lib.hid (B11.out.trans (bb12.mono B11.out.size))
        have WT12 := Lib.hid (WT11.out.below bb12)
        have M12 := Lib.hid (M11.out.below bb12)
        have BX12 := Lib.hid (BX11.out.below bb12)
        have H12 := Lib.hid (H11.out.below bb12)
        clear bb12 B11 WT11 M11 BX11 H11
        go_wp2_with fail
        refine (heldD _ _ _ _ _ M12.out (daL_len n0 xs1 ⟨r2_0, r2_1, r2_2⟩)).mono ?_
        rintro e _ ⟨rfl, rfl⟩
        go_wp2_with fail
        go_ret
        exact ⟨rfl, B12.out⟩

set_option maxRecDepth 100000 in
theorem lifted (os : Os) (started : os.Started) (H : Type) (enc : TypeId × Value → H) :
    ReturnsInHanded {} Try.checked os 6 .any (Rows.fnExactRoadsAddSpec.pre6 enc Try.prog Try.f6 Rows.fnExactRoadsAddRow.domain false) (Rows.fnExactRoadsAddSpec.post enc Try.prog Try.f6 false true false false) := by
  refine returnsInHanded_of_change (C := Try.checked) own started (by kernel_rfl) Try.func6
    (ChangeSpec.witness6 (enc := enc) (C := Try.checked) false ⟨#[], #[.int .i64 0, .slice none 0 0, .agg #[.int .i64 0, .int .i64 0, .int .i64 0]], []⟩ 8 (by kernel_rfl) (by kernel_rfl) (by kernel_rfl) (by kernel_rfl)) ?_
  intro W base args ds gs before hval0 hW hcnd _
  have hval : ∀ (j : Nat) t v, Try.f6.params[j]? = some t → args[j]? = some v → Value.okWide Try.prog W .any base t v := hval0
  have hW' := hW
  obtain ⟨p, q, hA0, hV, rfl, hfz, hnd⟩ := hW
  have hA : DataW.TrodAll enc Try.prog W 0 (fun _ => true) true Try.f6.params.toList args.toList ds p := hA0
  rw [Try.params6] at hA hval
  obtain ⟨v0, vs0, d0, ds0, p0, q0, hargs, rfl, rfl, h0, r0⟩ := trodAll_cons hA
  obtain ⟨v1, vs1, d1, ds1, p1, q1, rfl, rfl, rfl, h1, r1⟩ := trodAll_cons r0
  obtain ⟨v2, vs2, d2, ds2, p2, q2, rfl, rfl, rfl, h2, r2⟩ := trodAll_cons r1
  obtain ⟨rfl, rfl, rfl⟩ := trodAll_nil r2
  obtain rfl : args = #[v0, v1, v2] := by cases args; simp_all
  obtain ⟨rfl, rfl⟩ := trodVars_none hV
  obtain ⟨n0, rfl, rfl, rfl, w0⟩ := open_int Try.underlying3 (hval 0 3 v0 rfl rfl) h0
  obtain ⟨A1, len1, c1, rfl⟩ := okWide_slice Try.underlying22 (hval 1 22 v1 rfl rfl)
  have k1 := h1
  have lt1 : ∀ x ∈ p1, x.block < W.heap.size := by obtain ⟨m, hm⟩ := k1; exact DataW.trod_lt m _ _ _ hm
  obtain ⟨xs1, e1, s1, m1⟩ : ∃ xs : List Rd3, xs.length = len1 ∧ Cells W A1 (fd xs) ∧ len1 ≤ 9223372036854775807 := by
    obtain ⟨fuel, hf⟩ := h1
    exact arg_roads hf
  subst e1
  have k2 := h2
  have lt2 : ∀ x ∈ p2, x.block < W.heap.size := by obtain ⟨m, hm⟩ := k2; exact DataW.trod_lt m _ _ _ hm
  obtain ⟨q2_0, q2_1, q2_2, y2_0, y2_1, y2_2, n2_, hv2, hd2, hp2, hy2_0, hy2_1, hy2_2⟩ := open_agg3 Try.underlying33 (by kernel_rfl) (by kernel_rfl) (hval 2 33 v2 rfl rfl) h2
  obtain ⟨r2_0, f2_0, -, w2_0⟩ := DataW.trod_int Try.underlying3 hy2_0
  simp only [List.cons.injEq, and_true] at f2_0
  subst f2_0
  obtain ⟨r2_1, f2_1, -, w2_1⟩ := DataW.trod_int Try.underlying3 hy2_1
  simp only [List.cons.injEq, and_true] at f2_1
  subst f2_1
  obtain ⟨r2_2, f2_2, -, w2_2⟩ := DataW.trod_int Try.underlying3 hy2_2
  simp only [List.cons.injEq, and_true] at f2_2
  subst f2_2
  subst hv2
  clear hA0 hval0
  simp only [List.append_nil] at hW'
  refine (walk n0 A1 c1 xs1 r2_0 r2_1 r2_2 W w0 s1 m1 w2_0 w2_1 w2_2).mono fun e W' ⟨he, bel⟩ => ?_
  subst he
  exact ⟨_, rfl, _, _, _, [], _, [], hW', (trodAll_cons_mk (shut_bool Try.underlying4 _) trodAll_mk0), (trodAll_cons_mk (shut_int Try.underlying3 w0) (trodAll_cons_mk (Below.trod laidOut (by kernel_rfl) (of_decide_eq_true (by kernel_rfl)) k1 bel lt1) (trodAll_cons_mk (Below.trod laidOut (by kernel_rfl) (of_decide_eq_true (by kernel_rfl)) k2 bel lt2) trodAll_mk0))), rfl, bel.frame _, fun h => by cases h⟩

set_option maxRecDepth 100000 in
theorem closed : joinedFacts Try.prog 6 Try.f6 Rows.fnExactRoadsAddSpec Rows.fnExactRoadsAddRow = true := by
  unfold joinedFacts
  rw [enter_ok, lifts_ok, make_ok]
  kernel_rfl

theorem over : Rows.fnExactRoadsAddRow.holds Try.pinned (OpenSpec.ofChange Rows.fnExactRoadsAddSpec) :=
  OpenClaim.holds_of_wide 6 Try.f6 rfl rfl rfl rfl rfl rfl rfl ⟨rfl, rfl, rfl, rfl, rfl⟩ rfl rfl rfl rfl rfl (by kernel_rfl) Try.func6 closed
    (of_decide_eq_true (by kernel_rfl)) (by unfold Func.isWrapper; first | (rw [if_pos (by decide +kernel)]; kernel_rfl) | (rw [if_neg (by decide +kernel)]; exact ⟨rfl, rfl⟩))
    (fun os started H enc _ => lifted os started H enc)

theorem proved : Rows.FnExactRoadsAddSaid :=
  over
#print axioms proved
end Go.Proofs.Ytaajombljiiigaa.fnExactRoadsAdd
