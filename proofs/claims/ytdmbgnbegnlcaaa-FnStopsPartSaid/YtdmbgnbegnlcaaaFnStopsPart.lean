/-
  For every input laws.FnStopsPart returns true and leaves its arguments as they were (Rows.FnStopsPartSaid). Condition: none beyond the given row.
-/
import Derived.Test.YtdmbgnbegnlcaaaRows
import Derived.WalkKit
import Derived.ProofKit
import Derived.OpenShut
import Derived.ShutString
import Derived.ChangeOld
import Derived.Below
import Derived.Lib.SmallJoins
import Derived.Test.YtdmbgnbegnlcaaaEnter
import Derived.Test.YtdmbgnbegnlcaaaOpenB
import Derived.Test.YtdmbgnbegnlcaaaDrawW
import Derived.Test.YtdmbgnbegnlcaaaStopsD
import Derived.Test.YtdmbgnbegnlcaaaStopsF
import Derived.Test.YtdmbgnbegnlcaaaStopsP
import Derived.Test.YtdmbgnbegnlcaaaStopsQ
namespace Go.Proofs.Ytdmbgnbegnlcaaa.fnStopsPart
open Go.ChangeShapes Go.WideShapes Go.ChangeAt Go.RowKit Go.Joins
open Go.ChangeMaps (open_string shut_string)
set_option linter.unusedVariables false

theorem own : ownKnob Try.prog.godebug = none := by kernel_rfl
theorem laidOut : laidOutB Try.prog = true := by kernel_rfl

theorem sub_all (ys : List St) (h : 1 ≤ ys.length) : sub ys 0 (ys.length - 1) = ys := by
  unfold sub
  rw [List.drop_zero, List.take_of_length_le (by omega)]
theorem own_caps {w : World} {B : Nat} {A : Option Addr} {c : Nat} {xs : List St} (h : Own w B A c xs) : xs.length ≤ c ∧ c ≤ 9223372036854775807 := by
  rcases h.2 with ⟨h1, h2⟩ | ⟨g, cap, cur, h1, _, _, h2, h3, _⟩
  · injection h1 with _ _ h3
    exact ⟨by omega, by omega⟩
  · injection h1 with _ _ h4
    have : maxLen ≤ 9223372036854775807 := by decide
    exact ⟨by omega, by omega⟩
theorem iRunTo (n R : Int) (A : Option Addr) (c : Nat) (xs : List St) (w : World) (h : Cells w A (fl xs)) (hl : xs.length ≤ 1048576) (hv : Valid n xs) (hR : ar xs (xs.length - 1) - lv xs 0 = R) :
    Calls Try.prog 30 #[.int .i64 n, .slice A xs.length c] w fun e w' => e = .returned (.int .i64 R) ∧ Below w.heap.size w w' := by
  subst hR
  exact iRun_yes n A c xs w h hl hv
/-- Seven cells of two lists of stops. -/
def Seven (b o i j g o' : Nat) (xs : List St) (W : World) : Prop := W.cell? ⟨b, o + i * 3, none⟩ = some (.int .i64 (tw xs i)) ∧ W.cell? ⟨b, o + i * 3 + 1, none⟩ = some (.int .i64 (ar xs i)) ∧ W.cell? ⟨b, o + i * 3 + 2, none⟩ = some (.int .i64 (lv xs i)) ∧ W.cell? ⟨b, o + j * 3 + 1, none⟩ = some (.int .i64 (ar xs j)) ∧ W.cell? ⟨g, o', none⟩ = some (.int .i64 (tw xs i)) ∧ W.cell? ⟨g, o' + 1, none⟩ = some (.int .i64 (ar xs i)) ∧ W.cell? ⟨g, o' + 2, none⟩ = some (.int .i64 (lv xs i))
theorem Seven.below {b o i j g o' : Nat} {xs : List St} {w w' : World} (h : Seven b o i j g o' xs w) (hb : b < w.heap.size) (hg : g < w.heap.size) (bel : Below w.heap.size w w') : Seven b o i j g o' xs w' := by
  obtain ⟨h0, h1, h2, h3, h4, h5, h6⟩ := h
  exact ⟨(bel.cell (p := ⟨b, o + i * 3, none⟩) hb).trans h0, (bel.cell (p := ⟨b, o + i * 3 + 1, none⟩) hb).trans h1, (bel.cell (p := ⟨b, o + i * 3 + 2, none⟩) hb).trans h2, (bel.cell (p := ⟨b, o + j * 3 + 1, none⟩) hb).trans h3, (bel.cell (p := ⟨g, o', none⟩) hg).trans h4, (bel.cell (p := ⟨g, o' + 1, none⟩) hg).trans h5, (bel.cell (p := ⟨g, o' + 2, none⟩) hg).trans h6⟩
set_option maxRecDepth 100000 in
set_option maxHeartbeats 2000000 in
theorem walk (A0 : Option Addr) (len0 cap0 : Nat) (w : World) (s0 : Bytes w A0 len0) (m0 : len0 ≤ cap0) (q0 : cap0 ≤ maxLen) :
    Calls Try.prog 16 #[.slice A0 len0 cap0] w fun e w' => e = .returned (.bool true) ∧ Below w.heap.size w w' := by
  by_cases hl : 1048576 < len0
  · go_enter Try.func16, Try.ntmps16
    go_wp2_with fail
    go_ret
    exact ⟨rfl, Below.refl _ _⟩
  · go_enter Try.func16, Try.ntmps16
    go_wp2_with fail
    refine (drawPart A0 len0 cap0 w s0 m0 q0).mono ?_
    rintro e w1 ⟨n, A, c, xs, f, t, rfl, n1, n2, l5, c1, c2, f1, f2, ft, t2, hcl, b1⟩
    have hl' : xs.length ≤ 1048576 := by omega
    have B1 := Lib.hid b1
    have CL1 := Lib.hid hcl
    clear b1 hcl s0 m0 q0
    by_cases hv : Valid n xs
    · have HV := Lib.hid hv
      have l2 := hv.2.2.1
      clear hv
      by_cases ho : f < 0 ∨ (xs.length : Int) ≤ t
      · have HO := Lib.hid ho
        clear ho
        go_wp2_with fail
        refine (iPart_out _ _ _ _ _ xs _ CL1.out hl' HV.out (by have := HO.out; omega)).mono ?_
        rintro e w2 ⟨Ag, cg, rfl, og, bb2⟩
        have B2 := Lib.hid (B1.out.trans (bb2.mono B1.out.size))
        have CL2 := Lib.hid (CL1.out.below bb2)
        have OG2 := Lib.hid og
        clear bb2 B1 CL1 og
        go_wp2_with fail
        refine (sPart_out _ _ _ _ _ xs _ CL2.out hl' HV.out (by have := HO.out; omega)).mono ?_
        rintro e w3 ⟨Aw, cw, rfl, ow, bb3⟩
        have B3 := Lib.hid (B2.out.trans (bb3.mono B2.out.size))
        have CL3 := Lib.hid (CL2.out.below bb3)
        have OG3 := Lib.hid (OG2.out.below bb3)
        have OW3 := Lib.hid ow
        clear bb3 B2 CL2 OG2 ow
        go_wp2_with fail
        refine (sameStops_yes _ _ _ _ [] _ OG3.out.cells OW3.out.cells (by simp)).mono ?_
        rintro e w4 ⟨rfl, bb4⟩
        have B4 := Lib.hid (B3.out.trans (bb4.mono B3.out.size))
        have CL4 := Lib.hid (CL3.out.below bb4)
        have OG4 := Lib.hid (OG3.out.below bb4)
        have OW4 := Lib.hid (OW3.out.below bb4)
        clear bb4 B3 CL3 OG3 OW3
        go_wp2_with fail
        refine (sameStops_yes _ _ _ _ [] _ OG4.out.cells OW4.out.cells (by simp)).mono ?_
        rintro e w5 ⟨rfl, bb5⟩
        have B5 := Lib.hid (B4.out.trans (bb5.mono B4.out.size))
        have CL5 := Lib.hid (CL4.out.below bb5)
        have OG5 := Lib.hid (OG4.out.below bb5)
        have OW5 := Lib.hid (OW4.out.below bb5)
        clear bb5 B4 CL4 OG4 OW4
        go_wp2_with fail
        go_ret
        exact ⟨rfl, B5.out⟩
      · obtain ⟨i, hi⟩ := Int.eq_ofNat_of_zero_le (show 0 ≤ f by omega)
        obtain ⟨j, hj⟩ := Int.eq_ofNat_of_zero_le (show 0 ≤ t by omega)
        subst hi hj
        have hjl : j < xs.length := by omega
        by_cases hij : i < j
        · obtain ⟨ys, hy⟩ : ∃ ys, ys = sub xs i j := ⟨_, rfl⟩
          have ly : ys.length = j + 1 - i := by rw [hy]; exact sub_len xs i j hjl
          have hly : ys.length ≤ 1048576 := by omega
          have HY := Lib.hid hy
          have HVY := Lib.hid (show Valid n ys by rw [hy]; exact HV.out.sub hij hjl)
          obtain ⟨L, hL⟩ : ∃ L, ys.length - 1 = L := ⟨_, rfl⟩
          have HS := Lib.hid (show ys = sub ys 0 L by rw [← hL]; exact (sub_all ys (by omega)).symm)
          have eL : (ys.length : Int) - 1 = (L : Int) := by omega
          have RE := Lib.hid (show ar ys (ys.length - 1) - lv ys 0 = ar xs j - lv xs i by
            rw [hy, sub_len xs i j hjl, (sub_at xs i j (j + 1 - i - 1) (by omega)).2.1, (sub_at xs i j 0 (by omega)).2.2]
            have : i + (j + 1 - i - 1) = j := by omega
            rw [this, Nat.add_zero])
          have Y0 := Lib.hid (show tw ys 0 = tw xs i ∧ ar ys 0 = ar xs i ∧ lv ys 0 = lv xs i by
            have := sub_at xs i j 0 (by omega)
            rw [← hy, Nat.add_zero] at this
            exact this)
          obtain ⟨R, hR⟩ : ∃ R, ar xs (xs.length - 1) - lv xs 0 = R := ⟨_, rfl⟩
          have HR := Lib.hid hR
          have ti := HV.out.times (i := i) (by omega)
          have tj := HV.out.times (i := j) (by omega)
          obtain ⟨ti1, ti2, ti3⟩ := ti
          obtain ⟨tj1, tj2, tj3⟩ := tj
          have le1 : ar xs j - lv xs i ≤ R := by
            have a1 : ar xs j ≤ ar xs (xs.length - 1) := by
              rcases Nat.lt_or_ge j (xs.length - 1) with g | g
              · have := ar_up HV.out g (by omega); omega
              · have : j = xs.length - 1 := by omega
                rw [this]; exact Int.le_refl _
            have a2 : lv xs 0 ≤ lv xs i := by
              rcases Nat.eq_zero_or_pos i with g | g
              · rw [g]; exact Int.le_refl _
              · have := ok_up HV.out.2.2.2.2 0 i g (by omega); omega
            omega
          have le2 : R ≤ 10000 := by
            have := HV.out.times (i := xs.length - 1) (by omega)
            have := HV.out.times (i := 0) (by omega)
            omega
          have ly2 : 2 ≤ ys.length := by omega
          have LL := Lib.hid (show 0 < L ∧ L < ys.length by omega)
          have LY := Lib.hid ly
          clear hy hR hL ly
          go_wp2_with fail
          refine (iPart_yes _ i j _ _ xs ys _ CL1.out hl' c1 c2 HV.out hij hjl HY.out).mono ?_
          rintro e w2 ⟨Ag, cg, rfl, og, bb2⟩
          have B2 := Lib.hid (B1.out.trans (bb2.mono B1.out.size))
          have CL2 := Lib.hid (CL1.out.below bb2)
          have OG2 := Lib.hid og
          clear bb2 B1 CL1 og
          go_wp2_with fail
          refine (sPart_yes _ i j _ _ xs ys _ CL2.out hl' c1 c2 HV.out hij hjl HY.out).mono ?_
          rintro e w3 ⟨Aw, cw, rfl, ow, bb3⟩
          have B3 := Lib.hid (B2.out.trans (bb3.mono B2.out.size))
          have CL3 := Lib.hid (CL2.out.below bb3)
          have OG3 := Lib.hid (OG2.out.below bb3)
          have OW3 := Lib.hid ow
          clear bb3 B2 CL2 OG2 ow
          go_wp2_with fail
          refine (sameStops_yes _ _ _ _ ys _ OG3.out.cells OW3.out.cells hly).mono ?_
          rintro e w4 ⟨rfl, bb4⟩
          have B4 := Lib.hid (B3.out.trans (bb4.mono B3.out.size))
          have CL4 := Lib.hid (CL3.out.below bb4)
          have OG4 := Lib.hid (OG3.out.below bb4)
          clear bb4 B3 CL3 OG3 OW3
          have cg1 := own_caps OG4.out
          obtain ⟨cg1, cg2⟩ := cg1
          go_wp2_with fail
          try rw [eL]
          refine (iPart_yes _ 0 L _ _ ys ys _ OG4.out.cells hly cg1 cg2 HVY.out LL.out.1 LL.out.2 HS.out).mono ?_
          rintro e w5 ⟨Ax, cx, rfl, ox, bb5⟩
          have B5 := Lib.hid (B4.out.trans (bb5.mono B4.out.size))
          have CL5 := Lib.hid (CL4.out.below bb5)
          have OG5 := Lib.hid (OG4.out.below bb5)
          have OX5 := Lib.hid ox
          clear bb5 B4 CL4 OG4 ox
          obtain ⟨b, o, hA, hb, x0, x1, x2⟩ := CL5.out.at3 (i := i) (by omega)
          subst hA
          obtain ⟨b', o', hA, -, -, y1, -⟩ := CL5.out.at3 (i := j) (by omega)
          injection hA with hA
          injection hA with hA1 hA2
          subst hA1 hA2
          obtain ⟨g, o', hA, hg, z0, z1, z2⟩ := OG5.out.cells.at3 (i := 0) (by omega)
          subst hA
          simp only [Nat.zero_mul, Nat.add_zero] at z0 z1 z2
          rw [Y0.out.1] at z0
          rw [Y0.out.2.1] at z1
          rw [Y0.out.2.2] at z2
          have i1 : (i : Int) < (xs.length : Int) := by omega
          have j1 : (j : Int) < (xs.length : Int) := by omega
          have y0 : (0 : Int) < (ys.length : Int) := by omega
          have y0n : 0 < ys.length := by omega
          have el : ((ys.length : Int) == (j : Int) - i + 1) = true := by have := LY.out; simp; omega
          have e5 : IntKind.i64.wrap (ar xs j - lv xs i) = ar xs j - lv xs i := IntWalk.i64_in _ (by omega)
          have e6 : IntKind.i64.wrap ((j : Int) - (i : Int)) = (j : Int) - (i : Int) := IntWalk.i64_in _ (by omega)
          have e7 : IntKind.i64.wrap ((j : Int) - (i : Int) + 1) = (j : Int) - (i : Int) + 1 := IntWalk.i64_in _ (by omega)
          have V0 := Lib.hid (show Seven b o i j g o' xs w5.drew from ⟨x0, x1, x2, y1, z0, z1, z2⟩)
          have KX0 := Lib.hid (show Cells w5.drew _ (fl ys) from OX5.out.cells.drew)
          have KG0 := Lib.hid (show Cells w5.drew _ (fl ys) from OG5.out.cells.drew)
          have KL0 := Lib.hid (show Cells w5.drew _ (fl xs) from CL5.out.drew)
          have C0 := Lib.hid (show Below w.heap.size w w5.drew from B5.out.drew)
          have hb0 : b < w5.drew.heap.size := hb
          have hg0 : g < w5.drew.heap.size := hg
          clear x0 x1 x2 y1 z0 z1 z2 hb hg
          go_wp2_with fail
          go_region_held3 (fun W => W.cell? ⟨b, o + i * 3, none⟩ = some (.int .i64 (tw xs i)) ∧ W.cell? ⟨b, o + i * 3 + 1, none⟩ = some (.int .i64 (ar xs i)) ∧ W.cell? ⟨b, o + i * 3 + 2, none⟩ = some (.int .i64 (lv xs i)) ∧ W.cell? ⟨b, o + j * 3 + 1, none⟩ = some (.int .i64 (ar xs j)) ∧ W.cell? ⟨g, o', none⟩ = some (.int .i64 (tw xs i)) ∧ W.cell? ⟨g, o' + 1, none⟩ = some (.int .i64 (ar xs i)) ∧ W.cell? ⟨g, o' + 2, none⟩ = some (.int .i64 (lv xs i))) (first | exact V4.out | exact V3.out | exact V2.out | exact V1.out | exact V0.out) (first
            | (go_at_call 51; refine (sameStops_yes _ _ _ _ ys _ KX0.out KG0.out hly).mono ?_; rintro e v1 ⟨rfl, x1⟩; have V1 := Lib.hid (V0.out.below hb0 hg0 x1); have KG1 := Lib.hid (KG0.out.below x1); have KL1 := Lib.hid (KL0.out.below x1); have C1 := Lib.hid (C0.out.trans (x1.mono C0.out.size)); have hb1 := Nat.lt_of_lt_of_le hb0 x1.size; have hg1 := Nat.lt_of_lt_of_le hg0 x1.size; clear x1)
            | (go_at_call_of 30 xs; refine (iRunTo _ R _ _ xs _ KL3.out hl' HV.out HR.out).mono ?_; rintro e v4 ⟨rfl, x4⟩; have V4 := Lib.hid (V3.out.below hb3 hg3 x4); have KG4 := Lib.hid (KG3.out.below x4); have KL4 := Lib.hid (KL3.out.below x4); have C4 := Lib.hid (C3.out.trans (x4.mono C3.out.size)); have hb4 := Nat.lt_of_lt_of_le hb3 x4.size; have hg4 := Nat.lt_of_lt_of_le hg3 x4.size; clear x4)
            | (go_at_call 30; refine (iRunTo _ (ar xs j - lv xs i) _ _ ys _ KG2.out hly HVY.out RE.out).mono ?_; rintro e v3 ⟨rfl, x3⟩; have V3 := Lib.hid (V2.out.below hb2 hg2 x3); have KG3 := Lib.hid (KG2.out.below x3); have KL3 := Lib.hid (KL2.out.below x3); have C3 := Lib.hid (C2.out.trans (x3.mono C2.out.size)); have hb3 := Nat.lt_of_lt_of_le hb2 x3.size; have hg3 := Nat.lt_of_lt_of_le hg2 x3.size; clear x3)
            | (go_at_call 30; refine (iRunTo _ (ar xs j - lv xs i) _ _ ys _ KG1.out hly HVY.out RE.out).mono ?_; rintro e v2 ⟨rfl, x2⟩; have V2 := Lib.hid (V1.out.below hb1 hg1 x2); have KG2 := Lib.hid (KG1.out.below x2); have KL2 := Lib.hid (KL1.out.below x2); have C2 := Lib.hid (C1.out.trans (x2.mono C1.out.size)); have hb2 := Nat.lt_of_lt_of_le hb1 x2.size; have hg2 := Nat.lt_of_lt_of_le hg1 x2.size; clear x2))
          all_goals
            go_wp2_with fail
            go_ret
            exact ⟨rfl, C4.out⟩
        · obtain rfl : i = j := by omega
          go_wp2_with fail
          refine (iPart_one _ i _ _ xs _ CL1.out hl' c1 c2 HV.out hjl).mono ?_
          rintro e w2 ⟨Ag, cg, rfl, og, bb2⟩
          have B2 := Lib.hid (B1.out.trans (bb2.mono B1.out.size))
          have CL2 := Lib.hid (CL1.out.below bb2)
          have OG2 := Lib.hid og
          clear bb2 B1 CL1 og
          go_wp2_with fail
          refine (sPart_out _ _ _ _ _ xs _ CL2.out hl' HV.out (by omega)).mono ?_
          rintro e w3 ⟨Aw, cw, rfl, ow, bb3⟩
          have B3 := Lib.hid (B2.out.trans (bb3.mono B2.out.size))
          have CL3 := Lib.hid (CL2.out.below bb3)
          have OG3 := Lib.hid (OG2.out.below bb3)
          have OW3 := Lib.hid ow
          clear bb3 B2 CL2 OG2 ow
          go_wp2_with fail
          refine (sameStops_yes _ _ _ _ [] _ OG3.out.cells OW3.out.cells (by simp)).mono ?_
          rintro e w4 ⟨rfl, bb4⟩
          have B4 := Lib.hid (B3.out.trans (bb4.mono B3.out.size))
          have CL4 := Lib.hid (CL3.out.below bb4)
          have OG4 := Lib.hid (OG3.out.below bb4)
          have OW4 := Lib.hid (OW3.out.below bb4)
          clear bb4 B3 CL3 OG3 OW3
          go_wp2_with fail
          refine (sameStops_yes _ _ _ _ [] _ OG4.out.cells OW4.out.cells (by simp)).mono ?_
          rintro e w5 ⟨rfl, bb5⟩
          have B5 := Lib.hid (B4.out.trans (bb5.mono B4.out.size))
          have CL5 := Lib.hid (CL4.out.below bb5)
          have OG5 := Lib.hid (OG4.out.below bb5)
          have OW5 := Lib.hid (OW4.out.below bb5)
          clear bb5 B4 CL4 OG4 OW4
          go_wp2_with fail
          go_ret
          exact ⟨rfl, B5.out⟩
    · have HV := Lib.hid hv
      clear hv
      go_wp2_with fail
      refine (iPart_bad _ _ _ _ _ xs _ CL1.out hl' HV.out).mono ?_
      rintro e w2 ⟨Ag, cg, rfl, og, bb2⟩
      have B2 := Lib.hid (B1.out.trans (bb2.mono B1.out.size))
      have CL2 := Lib.hid (CL1.out.below bb2)
      have OG2 := Lib.hid og
      clear bb2 B1 CL1 og
      go_wp2_with fail
      refine (sPart_bad _ _ _ _ _ xs _ CL2.out hl' HV.out).mono ?_
      rintro e w3 ⟨Aw, cw, rfl, ow, bb3⟩
      have B3 := Lib.hid (B2.out.trans (bb3.mono B2.out.size))
      have CL3 := Lib.hid (CL2.out.below bb3)
      have OG3 := Lib.hid (OG2.out.below bb3)
      have OW3 := Lib.hid ow
      clear bb3 B2 CL2 OG2 ow
      go_wp2_with fail
      refine (sameStops_yes _ _ _ _ [] _ OG3.out.cells OW3.out.cells (by simp)).mono ?_
      rintro e w4 ⟨rfl, bb4⟩
      have B4 := Lib.hid (B3.out.trans (bb4.mono B3.out.size))
      have CL4 := Lib.hid (CL3.out.below bb4)
      have OG4 := Lib.hid (OG3.out.below bb4)
      have OW4 := Lib.hid (OW3.out.below bb4)
      clear bb4 B3 CL3 OG3 OW3
      go_wp2_with fail
      refine (sameStops_yes _ _ _ _ [] _ OG4.out.cells OW4.out.cells (by simp)).mono ?_
      rintro e w5 ⟨rfl, bb5⟩
      have B5 := Lib.hid (B4.out.trans (bb5.mono B4.out.size))
      have CL5 := Lib.hid (CL4.out.below bb5)
      have OG5 := Lib.hid (OG4.out.below bb5)
      have OW5 := Lib.hid (OW4.out.below bb5)
      clear bb5 B4 CL4 OG4 OW4
      go_wp2_with fail
      go_ret
      exact ⟨rfl, B5.out⟩

set_option maxRecDepth 100000 in
theorem lifted (os : Os) (started : os.Started) (H : Type) (enc : TypeId × Value → H) :
    ReturnsInHanded {} Try.checked os 16 .any (Rows.fnStopsPartSpec.pre6 enc Try.prog Try.f16 Rows.fnStopsPartRow.domain false) (Rows.fnStopsPartSpec.post enc Try.prog Try.f16 false true false false) := by
  refine returnsInHanded_of_change (C := Try.checked) own started (by kernel_rfl) Try.func16
    (ChangeSpec.witness6 (enc := enc) (C := Try.checked) false ⟨#[], #[.slice none 0 0], []⟩ 8 (by kernel_rfl) (by kernel_rfl) (by kernel_rfl) (by kernel_rfl)) ?_
  intro W base args ds gs before hval0 hW hcnd _
  have hval : ∀ (j : Nat) t v, Try.f16.params[j]? = some t → args[j]? = some v → Value.okWide Try.prog W .any base t v := hval0
  have hW' := hW
  obtain ⟨p, q, hA0, hV, rfl, hfz, hnd⟩ := hW
  have hA : DataW.TrodAll enc Try.prog W 0 (fun _ => true) true Try.f16.params.toList args.toList ds p := hA0
  rw [Try.params16] at hA hval
  obtain ⟨v0, vs0, d0, ds0, p0, q0, hargs, rfl, rfl, h0, r0⟩ := trodAll_cons hA
  obtain ⟨rfl, rfl, rfl⟩ := trodAll_nil r0
  obtain rfl : args = #[v0] := by cases args; simp_all
  obtain ⟨rfl, rfl⟩ := trodVars_none hV
  obtain ⟨A0, len0, cap0, rfl⟩ := okWide_slice Try.underlying33 (hval 0 33 v0 rfl rfl)
  have k0 := h0
  have lt0 : ∀ x ∈ p0, x.block < W.heap.size := by obtain ⟨m, hm⟩ := k0; exact DataW.trod_lt m _ _ _ hm
  obtain ⟨s0, m0, g0⟩ : Bytes W A0 len0 ∧ len0 ≤ cap0 ∧ cap0 ≤ maxLen := by
    obtain ⟨fuel, hf⟩ := h0
    exact arg_bytes hf
  clear hA0 hval0
  simp only [List.append_nil] at hW'
  refine (walk A0 len0 cap0 W s0 m0 g0).mono fun e W' ⟨he, bel⟩ => ?_
  subst he
  exact ⟨_, rfl, _, _, _, [], _, [], hW', (trodAll_cons_mk (shut_bool Try.underlying4 _) trodAll_mk0), (trodAll_cons_mk (Below.trod laidOut (by kernel_rfl) (of_decide_eq_true (by kernel_rfl)) k0 bel lt0) trodAll_mk0), rfl, bel.frame _, fun h => by cases h⟩

set_option maxRecDepth 100000 in
theorem closed : joinedFacts Try.prog 16 Try.f16 Rows.fnStopsPartSpec Rows.fnStopsPartRow = true := by
  unfold joinedFacts
  rw [enter_ok, lifts_ok, make_ok]
  kernel_rfl

theorem over : Rows.fnStopsPartRow.holds Try.pinned (OpenSpec.ofChange Rows.fnStopsPartSpec) :=
  OpenClaim.holds_of_wide 16 Try.f16 rfl rfl rfl rfl rfl rfl rfl ⟨rfl, rfl, rfl, rfl, rfl⟩ rfl rfl rfl rfl rfl (by kernel_rfl) Try.func16 closed
    (of_decide_eq_true (by kernel_rfl)) (by unfold Func.isWrapper; first | (rw [if_pos (by decide +kernel)]; kernel_rfl) | (rw [if_neg (by decide +kernel)]; exact ⟨rfl, rfl⟩))
    (fun os started H enc _ => lifted os started H enc)

theorem proved : Rows.FnStopsPartSaid :=
  over
#print axioms proved
end Go.Proofs.Ytdmbgnbegnlcaaa.fnStopsPart
