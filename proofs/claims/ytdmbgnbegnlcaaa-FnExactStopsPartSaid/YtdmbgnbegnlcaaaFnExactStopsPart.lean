/-
  For every input laws.FnExactStopsPart returns true and leaves its arguments as they were (Rows.FnExactStopsPartSaid). Condition: none beyond the given row.
-/
import Derived.Test.YtdmbgnbegnlcaaaRows
import Derived.WalkKit
import Derived.ProofKit
import Derived.OpenShut
import Derived.ShutString
import Derived.ChangeOld
import Derived.Below
import Derived.Lib.SmallJoins
import Derived.Test.YtdmbgnbegnlcaaaEnter
import Derived.Test.YtdmbgnbegnlcaaaStopsA
import Derived.Test.YtdmbgnbegnlcaaaStopsArg
import Derived.Test.YtdmbgnbegnlcaaaStopsM
import Derived.Test.YtdmbgnbegnlcaaaStopsP
namespace Go.Proofs.Ytdmbgnbegnlcaaa.fnExactStopsPart
open Go.ChangeShapes Go.WideShapes Go.ChangeAt Go.RowKit Go.Joins
open Go.ChangeMaps (open_string shut_string)
set_option linter.unusedVariables false

theorem own : ownKnob Try.prog.godebug = none := by kernel_rfl
theorem laidOut : laidOutB Try.prog = true := by kernel_rfl

set_option maxRecDepth 100000 in
set_option maxHeartbeats 2000000 in
theorem walk (n0 : Int) (A1 : Option Addr) (c1 : Nat) (xs1 : List St) (n2 : Int) (n3 : Int) (w : World) (w0 : (Lit.int .i64 n0).wf = true) (s1 : Cells w A1 (fl xs1)) (m1 : xs1.length ≤ 9223372036854775807) (w2 : (Lit.int .i64 n2).wf = true) (w3 : (Lit.int .i64 n3).wf = true) :
    Calls Try.prog 14 #[.int .i64 n0, .slice A1 xs1.length c1, .int .i64 n2, .int .i64 n3] w fun e w' => e = .returned (.bool true) ∧ Below w.heap.size w w' := by
  by_cases hl : 1048576 < xs1.length
  · go_enter Try.func14, Try.ntmps14
    go_wp2_with fail
    refine (szStopS_over A1 xs1.length c1 w hl m1).mono ?_
    rintro e w1 ⟨rfl, rfl⟩
    go_wp2_with fail
    go_ret
    exact ⟨rfl, Below.refl _ _⟩
  · have hl' : xs1.length ≤ 1048576 := by omega
    clear hl m1
    by_cases hv : Valid n0 xs1
    · by_cases hy : 0 ≤ n2 ∧ n2 < n3 ∧ n3 < (xs1.length : Int)
      · obtain ⟨i, rfl⟩ := Int.eq_ofNat_of_zero_le hy.1
        obtain ⟨j, rfl⟩ := Int.eq_ofNat_of_zero_le (show 0 ≤ n3 by omega)
        have hij : i < j := by omega
        have hj : j < xs1.length := by omega
        obtain ⟨ys, hys⟩ : ∃ ys, ys = sub xs1 i j := ⟨_, rfl⟩
        have hly : ys.length ≤ 1048576 := by rw [hys, sub_len xs1 i j hj]; omega
        have HY := Lib.hid hys
        have HV := Lib.hid hv
        clear hv hy hys
        go_enter Try.func14, Try.ntmps14
        go_wp2_with fail
        refine (szStopS_any A1 xs1.length c1 w hl').mono ?_
        rintro e w1 ⟨rfl, rfl⟩
        go_wp2_with fail
        refine (toStopS_any A1 c1 xs1 w s1 hl').mono ?_
        rintro e w1 ⟨rfl, own1, b1⟩
        have O1 := Lib.hid own1
        have B1 := Lib.hid b1
        clear own1 b1
        go_wp2_with fail
        refine (sPart_yes _ i j _ _ xs1 ys _ (Cells.of_own O1.out) hl' (Nat.le_refl _) (by omega) HV.out hij hj HY.out).mono ?_
        rintro e w2 ⟨Aw, cw, rfl, ow2, b2⟩
        have B2 := Lib.hid (B1.out.trans (b2.mono B1.out.size))
        have OW2 := Lib.hid ow2
        have LW := Lib.hid (show ∀ q, (Value.slice Aw ys.length cw).ownBlock = some q → q < w2.heap.size from fun q hq => (World.ownsRow.lt ow2 q hq).2)
        clear ow2 b2 O1 B1
        go_wp2_with fail
        refine (toStopS_any A1 c1 xs1 w2 (s1.below B2.out) hl').mono ?_
        rintro e w3 ⟨rfl, ox3, b3⟩
        have B3 := Lib.hid (B2.out.trans (b3.mono B2.out.size))
        have OW3 := Lib.hid (own_below OW2.out b3)
        have OX3 := Lib.hid ox3
        have hsz : w2.heap.size < w3.heap.size := (World.ownsRow.lt ox3 w2.heap.size rfl).2
        clear ox3 b3 OW2
        go_wp2_with fail
        refine (iPart_yes _ i j _ _ xs1 ys _ (Cells.of_own OX3.out) hl' (Nat.le_refl _) (by omega) HV.out hij hj HY.out).mono ?_
        rintro e w4 ⟨Ag, cg, rfl, og4, b4⟩
        have B4 := Lib.hid (B3.out.trans (b4.mono B3.out.size))
        have OW4 := Lib.hid (own_below OW3.out b4)
        have OX4 := Lib.hid (own_below OX3.out b4)
        have OG4 := Lib.hid og4
        have LG := Lib.hid (show ∀ q, (Value.slice Ag ys.length cg).ownBlock = some q → w3.heap.size ≤ q from fun q hq => (World.ownsRow.lt og4 q hq).1)
        clear og4 b4 OW3 OX3
        go_wp2_with fail
        refine (eqStopS_yes _ _ _ _ ys _ (Cells.of_own OG4.out) (Cells.of_own OW4.out) hly).mono ?_
        rintro e w5 ⟨rfl, b5⟩
        have B5 := Lib.hid (B4.out.trans (b5.mono B4.out.size))
        have OW5 := Lib.hid (own_below OW4.out b5)
        have OX5 := Lib.hid (own_below OX4.out b5)
        have OG5 := Lib.hid (own_below OG4.out b5)
        clear b5 B4 OW4 OX4 OG4
        go_wp2_with fail
        refine (toStopS_any A1 c1 xs1 w5 (s1.below B5.out) hl').mono ?_
        rintro e w6 ⟨rfl, oy6, b6⟩
        have B6 := Lib.hid (B5.out.trans (b6.mono B5.out.size))
        have OW6 := Lib.hid (own_below OW5.out b6)
        have OX6 := Lib.hid (own_below OX5.out b6)
        have OG6 := Lib.hid (own_below OG5.out b6)
        have OY6 := Lib.hid oy6
        clear oy6 b6 B5 OW5 OX5 OG5
        go_wp2_with fail
        refine (eqStopS_yes _ _ _ _ xs1 _ (Cells.of_own OX6.out) (Cells.of_own OY6.out) hl').mono ?_
        rintro e w7 ⟨rfl, b7⟩
        have B7 := Lib.hid (B6.out.trans (b7.mono B6.out.size))
        have OW7 := Lib.hid (own_below OW6.out b7)
        have OX7 := Lib.hid (own_below OX6.out b7)
        have OG7 := Lib.hid (own_below OG6.out b7)
        clear b7 B6 OW6 OX6 OG6 OY6
        go_wp2_with fail
        refine (markS _ _ _ xs1 _ OX7.out hl').mono ?_
        rintro e w8 ⟨rfl, -, g8⟩
        have B8 := Lib.hid (B7.out.grown g8 B7.out.size (fun q hq => by cases hq; exact B2.out.size))
        have OW8 := Lib.hid (own_kept OW7.out g8 (fun q hq he => by cases he; exact absurd (LW.out _ hq) (Nat.lt_irrefl _)))
        have OG8 := Lib.hid (own_kept OG7.out g8 (fun q hq he => by cases he; exact absurd (LG.out _ hq) (show ¬ w3.heap.size ≤ w2.heap.size by omega)))
        clear g8 B7 OW7 OX7 OG7
        go_wp2_with fail
        refine (eqStopS_yes _ _ _ _ ys _ (Cells.of_own OG8.out) (Cells.of_own OW8.out) hly).mono ?_
        rintro e w9 ⟨rfl, b9⟩
        have B9 := Lib.hid (B8.out.trans (b9.mono B8.out.size))
        have OW9 := Lib.hid (own_below OW8.out b9)
        have OG9 := Lib.hid (own_below OG8.out b9)
        clear b9 B8 OW8 OG8
        go_wp2_with fail
        refine (markS _ _ _ ys _ OG9.out hly).mono ?_
        rintro e w10 ⟨rfl, og10, g10⟩
        have B10 := Lib.hid (B9.out.grown g10 B9.out.size (fun q hq => by have := LG.out q hq; have := B2.out.size; omega))
        have OW10 := Lib.hid (own_kept OW9.out g10 (fun q hq he => by have h1 := LW.out _ hq; have h2 := LG.out q he.symm; omega))
        have OG10 := Lib.hid og10
        clear og10 g10 B9 OW9 OG9
        go_wp2_with fail
        refine (heldS _ _ _ _ _ OG10.out hly).mono ?_
        rintro e w11 ⟨rfl, rfl⟩
        go_wp2_with fail
        refine (toStopS_any A1 c1 xs1 w10 (s1.below B10.out) hl').mono ?_
        rintro e w12 ⟨rfl, oz12, b12⟩
        have B12 := Lib.hid (B10.out.trans (b12.mono B10.out.size))
        have OW12 := Lib.hid (own_below OW10.out b12)
        have OG12 := Lib.hid (own_below OG10.out b12)
        have OZ12 := Lib.hid oz12
        clear oz12 b12 B10 OW10 OG10
        go_wp2_with fail
        refine (iPart_yes _ i j _ _ xs1 ys _ (Cells.of_own OZ12.out) hl' (Nat.le_refl _) (by omega) HV.out hij hj HY.out).mono ?_
        rintro e w13 ⟨Ah, ch, rfl, oh13, b13⟩
        have B13 := Lib.hid (B12.out.trans (b13.mono B12.out.size))
        have OW13 := Lib.hid (own_below OW12.out b13)
        have OG13 := Lib.hid (own_below OG12.out b13)
        have OH13 := Lib.hid oh13
        clear oh13 b13 B12 OW12 OG12 OZ12
        go_wp2_with fail
        refine (eqStopS_yes _ _ _ _ ys _ (Cells.of_own OH13.out) (Cells.of_own OW13.out) hly).mono ?_
        rintro e w14 ⟨rfl, b14⟩
        have B14 := Lib.hid (B13.out.trans (b14.mono B13.out.size))
        have OG14 := Lib.hid (own_below OG13.out b14)
        clear b14 B13 OW13 OG13 OH13
        go_wp2_with fail
        refine (heldS _ _ _ _ _ OG14.out hly).mono ?_
        rintro e w15 ⟨rfl, rfl⟩
        go_wp2_with fail
        go_ret
        exact ⟨rfl, B14.out⟩
      · have l2 := hv.2.2.1
        have ho : n2 < 0 ∨ (xs1.length : Int) - 1 < n2 ∨ n3 < n2 + 1 ∨ (xs1.length : Int) - 1 < n3 := by omega
        by_cases h2 : n2 < 0 ∨ (xs1.length : Int) ≤ n3 ∨ n3 < n2
        · skip
          have HV := Lib.hid hv
          have HO := Lib.hid ho
          have H2 := Lib.hid h2
          clear hv ho h2 hy l2
          go_enter Try.func14, Try.ntmps14
          go_wp2_with fail
          refine (szStopS_any A1 xs1.length c1 w hl').mono ?_
          rintro e w1 ⟨rfl, rfl⟩
          go_wp2_with fail
          refine (toStopS_any A1 c1 xs1 w s1 hl').mono ?_
          rintro e w1 ⟨rfl, own1, b1⟩
          have O1 := Lib.hid own1
          have B1 := Lib.hid b1
          clear own1 b1
          go_wp2_with fail
          refine (sPart_out _ _ _ _ _ xs1 _ (Cells.of_own O1.out) hl' HV.out HO.out).mono ?_
          rintro e w2 ⟨Aw, cw, rfl, ow2, b2⟩
          have B2 := Lib.hid (B1.out.trans (b2.mono B1.out.size))
          have OW2 := Lib.hid ow2
          have LW := Lib.hid (show ∀ q, (Value.slice Aw ([] : List St).length cw).ownBlock = some q → q < w2.heap.size from fun q hq => (World.ownsRow.lt ow2 q hq).2)
          clear ow2 b2 O1 B1
          go_wp2_with fail
          refine (toStopS_any A1 c1 xs1 w2 (s1.below B2.out) hl').mono ?_
          rintro e w3 ⟨rfl, ox3, b3⟩
          have B3 := Lib.hid (B2.out.trans (b3.mono B2.out.size))
          have OW3 := Lib.hid (own_below OW2.out b3)
          have OX3 := Lib.hid ox3
          have hsz : w2.heap.size < w3.heap.size := (World.ownsRow.lt ox3 w2.heap.size rfl).2
          clear ox3 b3 OW2
          go_wp2_with fail
          refine (iPart_out _ _ _ _ _ xs1 _ (Cells.of_own OX3.out) hl' HV.out H2.out).mono ?_
          rintro e w4 ⟨Ag, cg, rfl, og4, b4⟩
          have B4 := Lib.hid (B3.out.trans (b4.mono B3.out.size))
          have OW4 := Lib.hid (own_below OW3.out b4)
          have OX4 := Lib.hid (own_below OX3.out b4)
          have OG4 := Lib.hid og4
          have LG := Lib.hid (show ∀ q, (Value.slice Ag ([] : List St).length cg).ownBlock = some q → w3.heap.size ≤ q from fun q hq => (World.ownsRow.lt og4 q hq).1)
          clear og4 b4 OW3 OX3
          go_wp2_with fail
          refine (eqStopS_yes _ _ _ _ ([] : List St) _ (Cells.of_own OG4.out) (Cells.of_own OW4.out) (by simp)).mono ?_
          rintro e w5 ⟨rfl, b5⟩
          have B5 := Lib.hid (B4.out.trans (b5.mono B4.out.size))
          have OW5 := Lib.hid (own_below OW4.out b5)
          have OX5 := Lib.hid (own_below OX4.out b5)
          have OG5 := Lib.hid (own_below OG4.out b5)
          clear b5 B4 OW4 OX4 OG4
          go_wp2_with fail
          refine (toStopS_any A1 c1 xs1 w5 (s1.below B5.out) hl').mono ?_
          rintro e w6 ⟨rfl, oy6, b6⟩
          have B6 := Lib.hid (B5.out.trans (b6.mono B5.out.size))
          have OW6 := Lib.hid (own_below OW5.out b6)
          have OX6 := Lib.hid (own_below OX5.out b6)
          have OG6 := Lib.hid (own_below OG5.out b6)
          have OY6 := Lib.hid oy6
          clear oy6 b6 B5 OW5 OX5 OG5
          go_wp2_with fail
          refine (eqStopS_yes _ _ _ _ xs1 _ (Cells.of_own OX6.out) (Cells.of_own OY6.out) hl').mono ?_
          rintro e w7 ⟨rfl, b7⟩
          have B7 := Lib.hid (B6.out.trans (b7.mono B6.out.size))
          have OW7 := Lib.hid (own_below OW6.out b7)
          have OX7 := Lib.hid (own_below OX6.out b7)
          have OG7 := Lib.hid (own_below OG6.out b7)
          clear b7 B6 OW6 OX6 OG6 OY6
          go_wp2_with fail
          refine (markS _ _ _ xs1 _ OX7.out hl').mono ?_
          rintro e w8 ⟨rfl, -, g8⟩
          have B8 := Lib.hid (B7.out.grown g8 B7.out.size (fun q hq => by cases hq; exact B2.out.size))
          have OW8 := Lib.hid (own_kept OW7.out g8 (fun q hq he => by cases he; exact absurd (LW.out _ hq) (Nat.lt_irrefl _)))
          have OG8 := Lib.hid (own_kept OG7.out g8 (fun q hq he => by cases he; exact absurd (LG.out _ hq) (show ¬ w3.heap.size ≤ w2.heap.size by omega)))
          clear g8 B7 OW7 OX7 OG7
          go_wp2_with fail
          refine (eqStopS_yes _ _ _ _ ([] : List St) _ (Cells.of_own OG8.out) (Cells.of_own OW8.out) (by simp)).mono ?_
          rintro e w9 ⟨rfl, b9⟩
          have B9 := Lib.hid (B8.out.trans (b9.mono B8.out.size))
          have OW9 := Lib.hid (own_below OW8.out b9)
          have OG9 := Lib.hid (own_below OG8.out b9)
          clear b9 B8 OW8 OG8
          go_wp2_with fail
          refine (markS _ _ _ ([] : List St) _ OG9.out (by simp)).mono ?_
          rintro e w10 ⟨rfl, og10, g10⟩
          have B10 := Lib.hid (B9.out.grown g10 B9.out.size (fun q hq => by have := LG.out q hq; have := B2.out.size; omega))
          have OW10 := Lib.hid (own_kept OW9.out g10 (fun q hq he => by have h1 := LW.out _ hq; have h2 := LG.out q he.symm; omega))
          have OG10 := Lib.hid og10
          clear og10 g10 B9 OW9 OG9
          go_wp2_with fail
          refine (heldS _ _ _ _ _ OG10.out (by simp)).mono ?_
          rintro e w11 ⟨rfl, rfl⟩
          go_wp2_with fail
          refine (toStopS_any A1 c1 xs1 w10 (s1.below B10.out) hl').mono ?_
          rintro e w12 ⟨rfl, oz12, b12⟩
          have B12 := Lib.hid (B10.out.trans (b12.mono B10.out.size))
          have OW12 := Lib.hid (own_below OW10.out b12)
          have OG12 := Lib.hid (own_below OG10.out b12)
          have OZ12 := Lib.hid oz12
          clear oz12 b12 B10 OW10 OG10
          go_wp2_with fail
          refine (iPart_out _ _ _ _ _ xs1 _ (Cells.of_own OZ12.out) hl' HV.out H2.out).mono ?_
          rintro e w13 ⟨Ah, ch, rfl, oh13, b13⟩
          have B13 := Lib.hid (B12.out.trans (b13.mono B12.out.size))
          have OW13 := Lib.hid (own_below OW12.out b13)
          have OG13 := Lib.hid (own_below OG12.out b13)
          have OH13 := Lib.hid oh13
          clear oh13 b13 B12 OW12 OG12 OZ12
          go_wp2_with fail
          refine (eqStopS_yes _ _ _ _ ([] : List St) _ (Cells.of_own OH13.out) (Cells.of_own OW13.out) (by simp)).mono ?_
          rintro e w14 ⟨rfl, b14⟩
          have B14 := Lib.hid (B13.out.trans (b14.mono B13.out.size))
          have OG14 := Lib.hid (own_below OG13.out b14)
          clear b14 B13 OW13 OG13 OH13
          go_wp2_with fail
          refine (heldS _ _ _ _ _ OG14.out (by simp)).mono ?_
          rintro e w15 ⟨rfl, rfl⟩
          go_wp2_with fail
          go_ret
          exact ⟨rfl, B14.out⟩
        · obtain ⟨i, rfl⟩ := Int.eq_ofNat_of_zero_le (show 0 ≤ n2 by omega)
          obtain rfl : n3 = (i : Int) := by omega
          have hi : i < xs1.length := by omega
          have HV := Lib.hid hv
          have HO := Lib.hid ho
          clear hv ho h2 hy l2
          go_enter Try.func14, Try.ntmps14
          go_wp2_with fail
          refine (szStopS_any A1 xs1.length c1 w hl').mono ?_
          rintro e w1 ⟨rfl, rfl⟩
          go_wp2_with fail
          refine (toStopS_any A1 c1 xs1 w s1 hl').mono ?_
          rintro e w1 ⟨rfl, own1, b1⟩
          have O1 := Lib.hid own1
          have B1 := Lib.hid b1
          clear own1 b1
          go_wp2_with fail
          refine (sPart_out _ _ _ _ _ xs1 _ (Cells.of_own O1.out) hl' HV.out HO.out).mono ?_
          rintro e w2 ⟨Aw, cw, rfl, ow2, b2⟩
          have B2 := Lib.hid (B1.out.trans (b2.mono B1.out.size))
          have OW2 := Lib.hid ow2
          have LW := Lib.hid (show ∀ q, (Value.slice Aw ([] : List St).length cw).ownBlock = some q → q < w2.heap.size from fun q hq => (World.ownsRow.lt ow2 q hq).2)
          clear ow2 b2 O1 B1
          go_wp2_with fail
          refine (toStopS_any A1 c1 xs1 w2 (s1.below B2.out) hl').mono ?_
          rintro e w3 ⟨rfl, ox3, b3⟩
          have B3 := Lib.hid (B2.out.trans (b3.mono B2.out.size))
          have OW3 := Lib.hid (own_below OW2.out b3)
          have OX3 := Lib.hid ox3
          have hsz : w2.heap.size < w3.heap.size := (World.ownsRow.lt ox3 w2.heap.size rfl).2
          clear ox3 b3 OW2
          go_wp2_with fail
          refine (iPart_one _ i _ _ xs1 _ (Cells.of_own OX3.out) hl' (Nat.le_refl _) (by omega) HV.out hi).mono ?_
          rintro e w4 ⟨Ag, cg, rfl, og4, b4⟩
          have B4 := Lib.hid (B3.out.trans (b4.mono B3.out.size))
          have OW4 := Lib.hid (own_below OW3.out b4)
          have OX4 := Lib.hid (own_below OX3.out b4)
          have OG4 := Lib.hid og4
          have LG := Lib.hid (show ∀ q, (Value.slice Ag ([] : List St).length cg).ownBlock = some q → w3.heap.size ≤ q from fun q hq => (World.ownsRow.lt og4 q hq).1)
          clear og4 b4 OW3 OX3
          go_wp2_with fail
          refine (eqStopS_yes _ _ _ _ ([] : List St) _ (Cells.of_own OG4.out) (Cells.of_own OW4.out) (by simp)).mono ?_
          rintro e w5 ⟨rfl, b5⟩
          have B5 := Lib.hid (B4.out.trans (b5.mono B4.out.size))
          have OW5 := Lib.hid (own_below OW4.out b5)
          have OX5 := Lib.hid (own_below OX4.out b5)
          have OG5 := Lib.hid (own_below OG4.out b5)
          clear b5 B4 OW4 OX4 OG4
          go_wp2_with fail
          refine (toStopS_any A1 c1 xs1 w5 (s1.below B5.out) hl').mono ?_
          rintro e w6 ⟨rfl, oy6, b6⟩
          have B6 := Lib.hid (B5.out.trans (b6.mono B5.out.size))
          have OW6 := Lib.hid (own_below OW5.out b6)
          have OX6 := Lib.hid (own_below OX5.out b6)
          have OG6 := Lib.hid (own_below OG5.out b6)
          have OY6 := Lib.hid oy6
          clear oy6 b6 B5 OW5 OX5 OG5
          go_wp2_with fail
          refine (eqStopS_yes _ _ _ _ xs1 _ (Cells.of_own OX6.out) (Cells.of_own OY6.out) hl').mono ?_
          rintro e w7 ⟨rfl, b7⟩
          have B7 := Lib.hid (B6.out.trans (b7.mono B6.out.size))
          have OW7 := Lib.hid (own_below OW6.out b7)
          have OX7 := Lib.hid (own_below OX6.out b7)
          have OG7 := Lib.hid (own_below OG6.out b7)
          clear b7 B6 OW6 OX6 OG6 OY6
          go_wp2_with fail
          refine (markS _ _ _ xs1 _ OX7.out hl').mono ?_
          rintro e w8 ⟨rfl, -, g8⟩
          have B8 := Lib.hid (B7.out.grown g8 B7.out.size (fun q hq => by cases hq; exact B2.out.size))
          have OW8 := Lib.hid (own_kept OW7.out g8 (fun q hq he => by cases he; exact absurd (LW.out _ hq) (Nat.lt_irrefl _)))
          have OG8 := Lib.hid (own_kept OG7.out g8 (fun q hq he => by cases he; exact absurd (LG.out _ hq) (show ¬ w3.heap.size ≤ w2.heap.size by omega)))
          clear g8 B7 OW7 OX7 OG7
          go_wp2_with fail
          refine (eqStopS_yes _ _ _ _ ([] : List St) _ (Cells.of_own OG8.out) (Cells.of_own OW8.out) (by simp)).mono ?_
          rintro e w9 ⟨rfl, b9⟩
          have B9 := Lib.hid (B8.out.trans (b9.mono B8.out.size))
          have OW9 := Lib.hid (own_below OW8.out b9)
          have OG9 := Lib.hid (own_below OG8.out b9)
          clear b9 B8 OW8 OG8
          go_wp2_with fail
          refine (markS _ _ _ ([] : List St) _ OG9.out (by simp)).mono ?_
          rintro e w10 ⟨rfl, og10, g10⟩
          have B10 := Lib.hid (B9.out.grown g10 B9.out.size (fun q hq => by have := LG.out q hq; have := B2.out.size; omega))
          have OW10 := Lib.hid (own_kept OW9.out g10 (fun q hq he => by have h1 := LW.out _ hq; have h2 := LG.out q he.symm; omega))
          have OG10 := Lib.hid og10
          clear og10 g10 B9 OW9 OG9
          go_wp2_with fail
          refine (heldS _ _ _ _ _ OG10.out (by simp)).mono ?_
          rintro e w11 ⟨rfl, rfl⟩
          go_wp2_with fail
          refine (toStopS_any A1 c1 xs1 w10 (s1.below B10.out) hl').mono ?_
          rintro e w12 ⟨rfl, oz12, b12⟩
          have B12 := Lib.hid (B10.out.trans (b12.mono B10.out.size))
          have OW12 := Lib.hid (own_below OW10.out b12)
          have OG12 := Lib.hid (own_below OG10.out b12)
          have OZ12 := Lib.hid oz12
          clear oz12 b12 B10 OW10 OG10
          go_wp2_with fail
          refine (iPart_one _ i _ _ xs1 _ (Cells.of_own OZ12.out) hl' (Nat.le_refl _) (by omega) HV.out hi).mono ?_
          rintro e w13 ⟨Ah, ch, rfl, oh13, b13⟩
          have B13 := Lib.hid (B12.out.trans (b13.mono B12.out.size))
          have OW13 := Lib.hid (own_below OW12.out b13)
          have OG13 := Lib.hid (own_below OG12.out b13)
          have OH13 := Lib.hid oh13
          clear oh13 b13 B12 OW12 OG12 OZ12
          go_wp2_with fail
          refine (eqStopS_yes _ _ _ _ ([] : List St) _ (Cells.of_own OH13.out) (Cells.of_own OW13.out) (by simp)).mono ?_
          rintro e w14 ⟨rfl, b14⟩
          have B14 := Lib.hid (B13.out.trans (b14.mono B13.out.size))
          have OG14 := Lib.hid (own_below OG13.out b14)
          clear b14 B13 OW13 OG13 OH13
          go_wp2_with fail
          refine (heldS _ _ _ _ _ OG14.out (by simp)).mono ?_
          rintro e w15 ⟨rfl, rfl⟩
          go_wp2_with fail
          go_ret
          exact ⟨rfl, B14.out⟩
    · skip
      have HV := Lib.hid hv
      clear hv
      go_enter Try.func14, Try.ntmps14
      go_wp2_with fail
      refine (szStopS_any A1 xs1.length c1 w hl').mono ?_
      rintro e w1 ⟨rfl, rfl⟩
      go_wp2_with fail
      refine (toStopS_any A1 c1 xs1 w s1 hl').mono ?_
      rintro e w1 ⟨rfl, own1, b1⟩
      have O1 := Lib.hid own1
      have B1 := Lib.hid b1
      clear own1 b1
      go_wp2_with fail
      refine (sPart_bad _ _ _ _ _ xs1 _ (Cells.of_own O1.out) hl' HV.out).mono ?_
      rintro e w2 ⟨Aw, cw, rfl, ow2, b2⟩
      have B2 := Lib.hid (B1.out.trans (b2.mono B1.out.size))
      have OW2 := Lib.hid ow2
      have LW := Lib.hid (show ∀ q, (Value.slice Aw ([] : List St).length cw).ownBlock = some q → q < w2.heap.size from fun q hq => (World.ownsRow.lt ow2 q hq).2)
      clear ow2 b2 O1 B1
      go_wp2_with fail
      refine (toStopS_any A1 c1 xs1 w2 (s1.below B2.out) hl').mono ?_
      rintro e w3 ⟨rfl, ox3, b3⟩
      have B3 := Lib.hid (B2.out.trans (b3.mono B2.out.size))
      have OW3 := Lib.hid (own_below OW2.out b3)
      have OX3 := Lib.hid ox3
      have hsz : w2.heap.size < w3.heap.size := (World.ownsRow.lt ox3 w2.heap.size rfl).2
      clear ox3 b3 OW2
      go_wp2_with fail
      refine (iPart_bad _ _ _ _ _ xs1 _ (Cells.of_own OX3.out) hl' HV.out).mono ?_
      rintro e w4 ⟨Ag, cg, rfl, og4, b4⟩
      have B4 := Lib.hid (B3.out.trans (b4.mono B3.out.size))
      have OW4 := Lib.hid (own_below OW3.out b4)
      have OX4 := Lib.hid (own_below OX3.out b4)
      have OG4 := Lib.hid og4
      have LG := Lib.hid (show ∀ q, (Value.slice Ag ([] : List St).length cg).ownBlock = some q → w3.heap.size ≤ q from fun q hq => (World.ownsRow.lt og4 q hq).1)
      clear og4 b4 OW3 OX3
      go_wp2_with fail
      refine (eqStopS_yes _ _ _ _ ([] : List St) _ (Cells.of_own OG4.out) (Cells.of_own OW4.out) (by simp)).mono ?_
      rintro e w5 ⟨rfl, b5⟩
      have B5 := Lib.hid (B4.out.trans (b5.mono B4.out.size))
      have OW5 := Lib.hid (own_below OW4.out b5)
      have OX5 := Lib.hid (own_below OX4.out b5)
      have OG5 := Lib.hid (own_below OG4.out b5)
      clear b5 B4 OW4 OX4 OG4
      go_wp2_with fail
      refine (toStopS_any A1 c1 xs1 w5 (s1.below B5.out) hl').mono ?_
      rintro e w6 ⟨rfl, oy6, b6⟩
      have B6 := Lib.hid (B5.out.trans (b6.mono B5.out.size))
      have OW6 := Lib.hid (own_below OW5.out b6)
      have OX6 := Lib.hid (own_below OX5.out b6)
      have OG6 := Lib.hid (own_below OG5.out b6)
      have OY6 := Lib.hid oy6
      clear oy6 b6 B5 OW5 OX5 OG5
      go_wp2_with fail
      refine (eqStopS_yes _ _ _ _ xs1 _ (Cells.of_own OX6.out) (Cells.of_own OY6.out) hl').mono ?_
      rintro e w7 ⟨rfl, b7⟩
      have B7 := Lib.hid (B6.out.trans (b7.mono B6.out.size))
      have OW7 := Lib.hid (own_below OW6.out b7)
      have OX7 := Lib.hid (own_below OX6.out b7)
      have OG7 := Lib.hid (own_below OG6.out b7)
      clear b7 B6 OW6 OX6 OG6 OY6
      go_wp2_with fail
      refine (markS _ _ _ xs1 _ OX7.out hl').mono ?_
      rintro e w8 ⟨rfl, -, g8⟩
      have B8 := Lib.hid (B7.out.grown g8 B7.out.size (fun q hq => by cases hq; exact B2.out.size))
      have OW8 := Lib.hid (own_kept OW7.out g8 (fun q hq he => by cases he; exact absurd (LW.out _ hq) (Nat.lt_irrefl _)))
      have OG8 := Lib.hid (own_kept OG7.out g8 (fun q hq he => by cases he; exact absurd (LG.out _ hq) (show ¬ w3.heap.size ≤ w2.heap.size by omega)))
      clear g8 B7 OW7 OX7 OG7
      go_wp2_with fail
      refine (eqStopS_yes _ _ _ _ ([] : List St) _ (Cells.of_own OG8.out) (Cells.of_own OW8.out) (by simp)).mono ?_
      rintro e w9 ⟨rfl, b9⟩
      have B9 := Lib.hid (B8.out.trans (b9.mono B8.out.size))
      have OW9 := Lib.hid (own_below OW8.out b9)
      have OG9 := Lib.hid (own_below OG8.out b9)
      clear b9 B8 OW8 OG8
      go_wp2_with fail
      refine (markS _ _ _ ([] : List St) _ OG9.out (by simp)).mono ?_
      rintro e w10 ⟨rfl, og10, g10⟩
      have B10 := Lib.hid (B9.out.grown g10 B9.out.size (fun q hq => by have := LG.out q hq; have := B2.out.size; omega))
      have OW10 := Lib.hid (own_kept OW9.out g10 (fun q hq he => by have h1 := LW.out _ hq; have h2 := LG.out q he.symm; omega))
      have OG10 := Lib.hid og10
      clear og10 g10 B9 OW9 OG9
      go_wp2_with fail
      refine (heldS _ _ _ _ _ OG10.out (by simp)).mono ?_
      rintro e w11 ⟨rfl, rfl⟩
      go_wp2_with fail
      refine (toStopS_any A1 c1 xs1 w10 (s1.below B10.out) hl').mono ?_
      rintro e w12 ⟨rfl, oz12, b12⟩
      have B12 := Lib.hid (B10.out.trans (b12.mono B10.out.size))
      have OW12 := Lib.hid (own_below OW10.out b12)
      have OG12 := Lib.hid (own_below OG10.out b12)
      have OZ12 := Lib.hid oz12
      clear oz12 b12 B10 OW10 OG10
      go_wp2_with fail
      refine (iPart_bad _ _ _ _ _ xs1 _ (Cells.of_own OZ12.out) hl' HV.out).mono ?_
      rintro e w13 ⟨Ah, ch, rfl, oh13, b13⟩
      have B13 := Lib.hid (B12.out.trans (b13.mono B12.out.size))
      have OW13 := Lib.hid (own_below OW12.out b13)
      have OG13 := Lib.hid (own_below OG12.out b13)
      have OH13 := Lib.hid oh13
      clear oh13 b13 B12 OW12 OG12 OZ12
      go_wp2_with fail
      refine (eqStopS_yes _ _ _ _ ([] : List St) _ (Cells.of_own OH13.out) (Cells.of_own OW13.out) (by simp)).mono ?_
      rintro e w14 ⟨rfl, b14⟩
      have B14 := Lib.hid (B13.out.trans (b14.mono B13.out.size))
      have OG14 := Lib.hid (own_below OG13.out b14)
      clear b14 B13 OW13 OG13 OH13
      go_wp2_with fail
      refine (heldS _ _ _ _ _ OG14.out (by simp)).mono ?_
      rintro e w15 ⟨rfl, rfl⟩
      go_wp2_with fail
      go_ret
      exact ⟨rfl, B14.out⟩

set_option maxRecDepth 100000 in
theorem lifted (os : Os) (started : os.Started) (H : Type) (enc : TypeId × Value → H) :
    ReturnsInHanded {} Try.checked os 14 .any (Rows.fnExactStopsPartSpec.pre6 enc Try.prog Try.f14 Rows.fnExactStopsPartRow.domain false) (Rows.fnExactStopsPartSpec.post enc Try.prog Try.f14 false true false false) := by
  refine returnsInHanded_of_change (C := Try.checked) own started (by kernel_rfl) Try.func14
    (ChangeSpec.witness6 (enc := enc) (C := Try.checked) false ⟨#[], #[.int .i64 0, .slice none 0 0, .int .i64 0, .int .i64 0], []⟩ 8 (by kernel_rfl) (by kernel_rfl) (by kernel_rfl) (by kernel_rfl)) ?_
  intro W base args ds gs before hval0 hW hcnd _
  have hval : ∀ (j : Nat) t v, Try.f14.params[j]? = some t → args[j]? = some v → Value.okWide Try.prog W .any base t v := hval0
  have hW' := hW
  obtain ⟨p, q, hA0, hV, rfl, hfz, hnd⟩ := hW
  have hA : DataW.TrodAll enc Try.prog W 0 (fun _ => true) true Try.f14.params.toList args.toList ds p := hA0
  rw [Try.params14] at hA hval
  obtain ⟨v0, vs0, d0, ds0, p0, q0, hargs, rfl, rfl, h0, r0⟩ := trodAll_cons hA
  obtain ⟨v1, vs1, d1, ds1, p1, q1, rfl, rfl, rfl, h1, r1⟩ := trodAll_cons r0
  obtain ⟨v2, vs2, d2, ds2, p2, q2, rfl, rfl, rfl, h2, r2⟩ := trodAll_cons r1
  obtain ⟨v3, vs3, d3, ds3, p3, q3, rfl, rfl, rfl, h3, r3⟩ := trodAll_cons r2
  obtain ⟨rfl, rfl, rfl⟩ := trodAll_nil r3
  obtain rfl : args = #[v0, v1, v2, v3] := by cases args; simp_all
  obtain ⟨rfl, rfl⟩ := trodVars_none hV
  obtain ⟨n0, rfl, rfl, rfl, w0⟩ := open_int Try.underlying3 (hval 0 3 v0 rfl rfl) h0
  obtain ⟨A1, len1, c1, rfl⟩ := okWide_slice Try.underlying22 (hval 1 22 v1 rfl rfl)
  have k1 := h1
  have lt1 : ∀ x ∈ p1, x.block < W.heap.size := by obtain ⟨m, hm⟩ := k1; exact DataW.trod_lt m _ _ _ hm
  obtain ⟨xs1, e1, s1, m1⟩ : ∃ xs : List St, xs.length = len1 ∧ Cells W A1 (fl xs) ∧ len1 ≤ 9223372036854775807 := by
    obtain ⟨fuel, hf⟩ := h1
    exact arg_stops hf
  subst e1
  obtain ⟨n2, rfl, rfl, rfl, w2⟩ := open_int Try.underlying3 (hval 2 3 v2 rfl rfl) h2
  obtain ⟨n3, rfl, rfl, rfl, w3⟩ := open_int Try.underlying3 (hval 3 3 v3 rfl rfl) h3
  clear hA0 hval0
  simp only [List.append_nil] at hW'
  refine (walk n0 A1 c1 xs1 n2 n3 W w0 s1 m1 w2 w3).mono fun e W' ⟨he, bel⟩ => ?_
  subst he
  exact ⟨_, rfl, _, _, _, [], _, [], hW', (trodAll_cons_mk (shut_bool Try.underlying4 _) trodAll_mk0), (trodAll_cons_mk (shut_int Try.underlying3 w0) (trodAll_cons_mk (Below.trod laidOut (by kernel_rfl) (of_decide_eq_true (by kernel_rfl)) k1 bel lt1) (trodAll_cons_mk (shut_int Try.underlying3 w2) (trodAll_cons_mk (shut_int Try.underlying3 w3) trodAll_mk0)))), rfl, bel.frame _, fun h => by cases h⟩

set_option maxRecDepth 100000 in
theorem closed : joinedFacts Try.prog 14 Try.f14 Rows.fnExactStopsPartSpec Rows.fnExactStopsPartRow = true := by
  unfold joinedFacts
  rw [enter_ok, lifts_ok, make_ok]
  kernel_rfl

theorem over : Rows.fnExactStopsPartRow.holds Try.pinned (OpenSpec.ofChange Rows.fnExactStopsPartSpec) :=
  OpenClaim.holds_of_wide 14 Try.f14 rfl rfl rfl rfl rfl rfl rfl ⟨rfl, rfl, rfl, rfl, rfl⟩ rfl rfl rfl rfl rfl (by kernel_rfl) Try.func14 closed
    (of_decide_eq_true (by kernel_rfl)) (by unfold Func.isWrapper; first | (rw [if_pos (by decide +kernel)]; kernel_rfl) | (rw [if_neg (by decide +kernel)]; exact ⟨rfl, rfl⟩))
    (fun os started H enc _ => lifted os started H enc)

theorem proved : Rows.FnExactStopsPartSaid :=
  over
#print axioms proved
end Go.Proofs.Ytdmbgnbegnlcaaa.fnExactStopsPart
