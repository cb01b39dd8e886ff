/-
  For every input laws.FnExactRoadsClose returns true and leaves its arguments as they were (Rows.FnExactRoadsCloseSaid). Condition: none beyond the given row.
-/
import Derived.Test.YtaajombljiiigaaRows
import Derived.WalkKit
import Derived.ProofKit
import Derived.OpenShut
import Derived.ShutString
import Derived.ChangeOld
import Derived.Below
import Derived.Lib.SmallJoins
import Derived.Test.YtaajombljiiigaaEnter
import Derived.Test.YtaajombljiiigaaRoadsArg
import Derived.Test.YtaajombljiiigaaRoadsI
namespace Go.Proofs.Ytaajombljiiigaa.fnExactRoadsClose
open Go.ChangeShapes Go.WideShapes Go.ChangeAt Go.RowKit Go.Joins
open Go.ChangeMaps (open_string shut_string)
set_option linter.unusedVariables false

theorem own : ownKnob Try.prog.godebug = none := by kernel_rfl
theorem laidOut : laidOutB Try.prog = true := by kernel_rfl

set_option maxRecDepth 100000 in
set_option maxHeartbeats 2000000 in
theorem walk (n0 : Int) (A1 : Option Addr) (c1 : Nat) (xs1 : List Rd3) (n2 : Int) (n3 : Int) (w : World) (w0 : (Lit.int .i64 n0).wf = true) (s1 : Cells w A1 (fd xs1)) (m1 : xs1.length ≤ 9223372036854775807) (w2 : (Lit.int .i64 n2).wf = true) (w3 : (Lit.int .i64 n3).wf = true) :
    Calls Try.prog 8 #[.int .i64 n0, .slice A1 xs1.length c1, .int .i64 n2, .int .i64 n3] w fun e w' => e = .returned (.bool true) ∧ Below w.heap.size w w' := by
  by_cases hl : 1048576 < xs1.length
  · go_enter Try.func8, Try.ntmps8
    go_wp2_with fail
    refine (szRoadS_over A1 xs1.length c1 w hl m1).mono ?_
    rintro e w1 ⟨rfl, rfl⟩
    go_wp2_with fail
    go_ret
    exact ⟨rfl, Below.refl _ _⟩
  · have hl' : xs1.length ≤ 1048576 := by omega
    have S1 := Lib.hid s1
    clear hl m1 s1
    go_enter Try.func8, Try.ntmps8
    go_wp2_with fail
    refine (szRoadS_any A1 xs1.length c1 w hl').mono ?_
    rintro e _ ⟨rfl, rfl⟩
    have B0 := Lib.hid (Below.refl w.heap.size w)
    go_wp2_with fail
    refine (toRoadS_own A1 c1 xs1 _ (S1.out.below B0.out) hl').mono ?_
    rintro e w1 ⟨rfl, oo, bb1⟩
    have B1 := Lib.hid (B0.out.trans (bb1.mono B0.out.size))
    have P1 := Lib.hid oo
    clear bb1 B0 oo
    go_wp2_with fail
    refine (sCl_any n0 n2 n3 _ _ xs1 _ P1.out.cells hl' (Nat.le_refl _) (by omega)).mono ?_
    rintro e w2 ⟨Aw, cw, rfl, ow, bb2⟩
    have B2 := Lib.hid (B1.out.trans (bb2.mono B1.out.size))
    have WT2 := Lib.hid ow
    clear bb2 B1 P1 ow
    have LW := Lib.hid (show ∀ q, (Value.slice Aw (clL n0 xs1 n2 n3).length cw).ownBlock = some q → q < w2.heap.size from fun q hq => (World.ownsRow.lt WT2.out q hq).2)
    have bx := B2.out.size
    go_wp2_with fail
    refine (toRoadS_own A1 c1 xs1 _ (S1.out.below B2.out) hl').mono ?_
    rintro e w3 ⟨rfl, oo, bb3⟩
    have B3 := Lib.hid (B2.out.trans (bb3.mono B2.out.size))
    have WT3 := Lib.hid (WT2.out.below bb3)
    have X3 := Lib.hid oo
    clear bb3 B2 WT2 oo
    have hsx : w2.heap.size < w3.heap.size := (World.ownsRow.lt X3.out w2.heap.size rfl).2
    go_wp2_with fail
    refine (iCl_any n0 n2 n3 _ _ xs1 _ X3.out.cells hl' (Nat.le_refl _) (by omega) (by assumption) (by assumption)).mono ?_
    rintro e w4 ⟨Ag, cg, rfl, og, bb4⟩
    have B4 := Lib.hid (B3.out.trans (bb4.mono B3.out.size))
    have WT4 := Lib.hid (WT3.out.below bb4)
    have X4 := Lib.hid (X3.out.below bb4)
    have G4 := Lib.hid og
    clear bb4 B3 WT3 X3 og
    have LG := Lib.hid (show ∀ q, (Value.slice Ag (clL n0 xs1 n2 n3).length cg).ownBlock = some q → w3.heap.size ≤ q from fun q hq => (World.ownsRow.lt G4.out q hq).1)
    go_wp2_with fail
    refine (eqRoadS_yes _ _ _ _ (clL n0 xs1 n2 n3) _ G4.out.cells WT4.out.cells clL_len).mono ?_
    rintro e w5 ⟨rfl, bb5⟩
    have B5 := Lib.hid (B4.out.trans (bb5.mono B4.out.size))
    have WT5 := Lib.hid (WT4.out.below bb5)
    have X5 := Lib.hid (X4.out.below bb5)
    have G5 := Lib.hid (G4.out.below bb5)
    clear bb5 B4 WT4 X4 G4
    go_wp2_with fail
    refine (toRoadS_own A1 c1 xs1 _ (S1.out.below B5.out) hl').mono ?_
    rintro e w6 ⟨rfl, oo, bb6⟩
    have B6 := Lib.hid (B5.out.trans (bb6.mono B5.out.size))
    have WT6 := Lib.hid (WT5.out.below bb6)
    have X6 := Lib.hid (X5.out.below bb6)
    have G6 := Lib.hid (G5.out.below bb6)
    have Y6 := Lib.hid oo
    clear bb6 B5 WT5 X5 G5 oo
    go_wp2_with fail
    refine (eqRoadS_yes _ _ _ _ xs1 _ X6.out.cells Y6.out.cells hl').mono ?_
    rintro e w7 ⟨rfl, bb7⟩
    have B7 := Lib.hid (B6.out.trans (bb7.mono B6.out.size))
    have WT7 := Lib.hid (WT6.out.below bb7)
    have X7 := Lib.hid (X6.out.below bb7)
    have G7 := Lib.hid (G6.out.below bb7)
    clear bb7 B6 WT6 X6 G6 Y6
    go_wp2_with fail
    refine (markD _ _ _ xs1 _ X7.out hl').mono ?_
    rintro e w8 ⟨rfl, -, gg⟩
    have B8 := Lib.hid (B7.out.grown gg B7.out.size (fun q hq => by have h8 : some w2.heap.size = some q := hq; injection h8 with h8; have := bx; omega))
    have WT8 := Lib.hid (WT7.out.kept gg (fun q hq he => by have h8 : some q = some w2.heap.size := he; injection h8 with h8; have h9 := LW.out _ hq; have := hsx; omega))
    have G8 := Lib.hid (G7.out.kept gg (fun q hq he => by have h8 : some q = some w2.heap.size := he; injection h8 with h8; have h9 := LG.out _ hq; have := hsx; omega))
    clear gg B7 WT7 G7 X7
    go_wp2_with fail
    refine (eqRoadS_yes _ _ _ _ (clL n0 xs1 n2 n3) _ G8.out.cells WT8.out.cells clL_len).mono ?_
    rintro e w9 ⟨rfl, bb9⟩
    have B9 := Lib.hid (B8.out.trans (bb9.mono B8.out.size))
    have WT9 := Lib.hid (WT8.out.below bb9)
    have G9 := Lib.hid (G8.out.below bb9)
    clear bb9 B8 WT8 G8
    go_wp2_with fail
    refine (markD _ _ _ (clL n0 xs1 n2 n3) _ G9.out clL_len).mono ?_
    rintro e w10 ⟨rfl, og, gg⟩
    have B10 := Lib.hid (B9.out.grown gg B9.out.size (fun q hq => by have h9 := LG.out q hq; have := bx; have := hsx; omega))
    have WT10 := Lib.hid (WT9.out.kept gg (fun q hq he => by have h1 := LW.out _ hq; have h2 := LG.out q he.symm; have := hsx; omega))
    have M10 := Lib.hid (show Marked _ _ _ _ _ _ _ from og)
    clear gg og B9 WT9 G9
    go_wp2_with fail
    refine (heldD _ _ _ _ _ M10.out clL_len).mono ?_
    rintro e _ ⟨rfl, rfl⟩
    go_wp2_with fail
    refine (toRoadS_own A1 c1 xs1 _ (S1.out.below B10.out) hl').mono ?_
    rintro e w11 ⟨rfl, oo, bb11⟩
    have B11 := Lib.hid (B10.out.trans (bb11.mono B10.out.size))
    have WT11 := Lib.hid (WT10.out.below bb11)
    have M11 := Lib.hid (M10.out.below bb11)
    have P11 := Lib.hid oo
    clear bb11 B10 WT10 M10 oo
    go_wp2_with fail
    refine (iCl_any n0 n2 n3 _ _ xs1 _ P11.out.cells hl' (Nat.le_refl _) (by omega) (by assumption) (by assumption)).mono ?_
    rintro e w12 ⟨Ah, ch, rfl, oh, bb12⟩
    have B12 := Lib.hid (B11.out.trans (bb12.mono B11.out.size))
    have WT12 := Lib.hid (WT11.out.below bb12)
    have M12 := Lib.hid (M11.out.below bb12)
    have H12 := Lib.hid oh
    clear bb12 B11 WT11 M11 P11 oh
    go_wp2_with fail
    refine (eqRoadS_yes _ _ _ _ (clL n0 xs1 n2 n3) _ H12.out.cells WT12.out.cells clL_len).mono ?_
    rintro e w13 ⟨rfl, bb13⟩
    have B13 := Lib.hid (B12.out.trans (bb13.mono B12.out.size))
    have WT13 := Lib.hid (WT12.out.below bb13)
    have M13 := Lib.hid (M12.out.below bb13)
    have H13 := Lib.hid (H12.out.below bb13)
    clear bb13 B12 WT12 M12 H12
    go_wp2_with fail
    refine (heldD _ _ _ _ _ M13.out clL_len).mono ?_
    rintro e _ ⟨rfl, rfl⟩
    go_wp2_with fail
    go_ret
    exact ⟨rfl, B13.out⟩

set_option maxRecDepth 100000 in
theorem lifted (os : Os) (started : os.Started) (H : Type) (enc : TypeId × Value → H) :
    ReturnsInHanded {} Try.checked os 8 .any (Rows.fnExactRoadsCloseSpec.pre6 enc Try.prog Try.f8 Rows.fnExactRoadsCloseRow.domain false) (Rows.fnExactRoadsCloseSpec.post enc Try.prog Try.f8 false true false false) := by
  refine returnsInHanded_of_change (C := Try.checked) own started (by kernel_rfl) Try.func8
    (ChangeSpec.witness6 (enc := enc) (C := Try.checked) false ⟨#[], #[.int .i64 0, .slice none 0 0, .int .i64 0, .int .i64 0], []⟩ 8 (by kernel_rfl) (by kernel_rfl) (by kernel_rfl) (by kernel_rfl)) ?_
  intro W base args ds gs before hval0 hW hcnd _
  have hval : ∀ (j : Nat) t v, Try.f8.params[j]? = some t → args[j]? = some v → Value.okWide Try.prog W .any base t v := hval0
  have hW' := hW
  obtain ⟨p, q, hA0, hV, rfl, hfz, hnd⟩ := hW
  have hA : DataW.TrodAll enc Try.prog W 0 (fun _ => true) true Try.f8.params.toList args.toList ds p := hA0
  rw [Try.params8] at hA hval
  obtain ⟨v0, vs0, d0, ds0, p0, q0, hargs, rfl, rfl, h0, r0⟩ := trodAll_cons hA
  obtain ⟨v1, vs1, d1, ds1, p1, q1, rfl, rfl, rfl, h1, r1⟩ := trodAll_cons r0
  obtain ⟨v2, vs2, d2, ds2, p2, q2, rfl, rfl, rfl, h2, r2⟩ := trodAll_cons r1
  obtain ⟨v3, vs3, d3, ds3, p3, q3, rfl, rfl, rfl, h3, r3⟩ := trodAll_cons r2
  obtain ⟨rfl, rfl, rfl⟩ := trodAll_nil r3
  obtain rfl : args = #[v0, v1, v2, v3] := by cases args; simp_all
  obtain ⟨rfl, rfl⟩ := trodVars_none hV
  obtain ⟨n0, rfl, rfl, rfl, w0⟩ := open_int Try.underlying3 (hval 0 3 v0 rfl rfl) h0
  obtain ⟨A1, len1, c1, rfl⟩ := okWide_slice Try.underlying22 (hval 1 22 v1 rfl rfl)
  have k1 := h1
  have lt1 : ∀ x ∈ p1, x.block < W.heap.size := by obtain ⟨m, hm⟩ := k1; exact DataW.trod_lt m _ _ _ hm
  obtain ⟨xs1, e1, s1, m1⟩ : ∃ xs : List Rd3, xs.length = len1 ∧ Cells W A1 (fd xs) ∧ len1 ≤ 9223372036854775807 := by
    obtain ⟨fuel, hf⟩ := h1
    exact arg_roads hf
  subst e1
  obtain ⟨n2, rfl, rfl, rfl, w2⟩ := open_int Try.underlying3 (hval 2 3 v2 rfl rfl) h2
  obtain ⟨n3, rfl, rfl, rfl, w3⟩ := open_int Try.underlying3 (hval 3 3 v3 rfl rfl) h3
  clear hA0 hval0
  simp only [List.append_nil] at hW'
  refine (walk n0 A1 c1 xs1 n2 n3 W w0 s1 m1 w2 w3).mono fun e W' ⟨he, bel⟩ => ?_
  subst he
  exact ⟨_, rfl, _, _, _, [], _, [], hW', (trodAll_cons_mk (shut_bool Try.underlying4 _) trodAll_mk0), (trodAll_cons_mk (shut_int Try.underlying3 w0) (trodAll_cons_mk (Below.trod laidOut (by kernel_rfl) (of_decide_eq_true (by kernel_rfl)) k1 bel lt1) (trodAll_cons_mk (shut_int Try.underlying3 w2) (trodAll_cons_mk (shut_int Try.underlying3 w3) trodAll_mk0)))), rfl, bel.frame _, fun h => by cases h⟩

set_option maxRecDepth 100000 in
theorem closed : joinedFacts Try.prog 8 Try.f8 Rows.fnExactRoadsCloseSpec Rows.fnExactRoadsCloseRow = true := by
  unfold joinedFacts
  rw [enter_ok, lifts_ok, make_ok]
  kernel_rfl

theorem over : Rows.fnExactRoadsCloseRow.holds Try.pinned (OpenSpec.ofChange Rows.fnExactRoadsCloseSpec) :=
  OpenClaim.holds_of_wide 8 Try.f8 rfl rfl rfl rfl rfl rfl rfl ⟨rfl, rfl, rfl, rfl, rfl⟩ rfl rfl rfl rfl rfl (by kernel_rfl) Try.func8 closed
    (of_decide_eq_true (by kernel_rfl)) (by unfold Func.isWrapper; first | (rw [if_pos (by decide +kernel)]; kernel_rfl) | (rw [if_neg (by decide +kernel)]; exact ⟨rfl, rfl⟩))
    (fun os started H enc _ => lifted os started H enc)

theorem proved : Rows.FnExactRoadsCloseSaid :=
  over
#print axioms proved
end Go.Proofs.Ytaajombljiiigaa.fnExactRoadsClose
