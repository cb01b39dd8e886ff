/-
  For every input laws.FnStopsMeet returns true and leaves its arguments as they were (Rows.FnStopsMeetSaid). Condition: none beyond the given row.
-/
import Derived.Test.YtdmbgnbegnlcaaaRows
import Derived.WalkKit
import Derived.ProofKit
import Derived.OpenShut
import Derived.ShutString
import Derived.ChangeOld
import Derived.Below
import Derived.Lib.SmallJoins
import Derived.Test.YtdmbgnbegnlcaaaEnter
import Derived.Test.YtdmbgnbegnlcaaaOpenB
import Derived.Test.YtdmbgnbegnlcaaaDrawW
import Derived.Test.YtdmbgnbegnlcaaaStopsF
import Derived.Test.YtdmbgnbegnlcaaaStopsH
import Derived.Test.YtdmbgnbegnlcaaaStopsT
namespace Go.Proofs.Ytdmbgnbegnlcaaa.fnStopsMeet
open Go.ChangeShapes Go.WideShapes Go.ChangeAt Go.RowKit Go.Joins
open Go.ChangeMaps (open_string shut_string)
set_option linter.unusedVariables false

theorem own : ownKnob Try.prog.godebug = none := by kernel_rfl
theorem laidOut : laidOutB Try.prog = true := by kernel_rfl

theorem sMeetB (n : Int) (A A' : Option Addr) (c c' : Nat) (a b : List St) (w : World) (h : Cells w A (fl a)) (h' : Cells w A' (fl b)) (hl : a.length ≤ 1048576) (hl' : b.length ≤ 1048576) (ha : Valid n a) (hb : Valid n b) :
    Calls Try.prog 42 #[.int .i64 n, .slice A a.length c, .slice A' b.length c'] w fun e w' => e = .returned (.tuple #[.int .i64 (bv (mF a b a.length)), .bool (mt (mF a b a.length))]) ∧ Below w.heap.size w w' := sMeet_yes n A A' c c' a b w h h' hl hl' ha hb
set_option maxRecDepth 100000 in
set_option maxHeartbeats 2000000 in
theorem walk (A0 : Option Addr) (len0 cap0 : Nat) (w : World) (s0 : Bytes w A0 len0) (m0 : len0 ≤ cap0) (q0 : cap0 ≤ maxLen) :
    Calls Try.prog 20 #[.slice A0 len0 cap0] w fun e w' => e = .returned (.bool true) ∧ Below w.heap.size w w' := by
  by_cases hl : 1048576 < len0
  · go_enter Try.func20, Try.ntmps20
    go_wp2_with fail
    go_ret
    exact ⟨rfl, Below.refl _ _⟩
  · go_enter Try.func20, Try.ntmps20
    go_wp2_with fail
    refine (drawMeet A0 len0 cap0 w s0 m0 q0).mono ?_
    rintro e w1 ⟨n, A, A', c, c', xs, zs, rfl, n1, n2, l5, l6, hcl, hcz, b1⟩
    have hl' : xs.length ≤ 1048576 := by omega
    have hz' : zs.length ≤ 1048576 := by omega
    have B1 := Lib.hid b1
    have CL1 := Lib.hid hcl
    have CZ1 := Lib.hid hcz
    clear b1 hcl hcz s0 m0 q0
    by_cases hv : Valid n xs ∧ Valid n zs
    · have HV := Lib.hid hv
      clear hv
      have MS := Lib.hid (mF_spec HV.out.1 HV.out.2)
      have MR := Lib.hid (mF_spec HV.out.2 HV.out.1)
      have EV := Lib.hid (MR.out.uniq MS.out.sym)
      obtain ⟨v, hv⟩ : ∃ v, mF xs zs xs.length = v := ⟨_, rfl⟩
      rw [hv] at MS EV
      have E1 := Lib.hid hv
      clear hv MR
      have mb := mF_bd HV.out.1 HV.out.2 xs.length (Nat.le_refl _)
      rw [E1.out] at mb
      obtain ⟨mb1, mb2⟩ := mb
      by_cases hneg : v < 0
      · go_wp2_with fail
        refine (iMeet_yes _ _ _ _ _ xs zs _ CL1.out CZ1.out hl' hz' HV.out.1 HV.out.2).mono ?_
        rintro e w2 ⟨rfl, bb2⟩
        have B2 := Lib.hid (B1.out.trans (bb2.mono B1.out.size))
        have CL2 := Lib.hid (CL1.out.below bb2)
        have CZ2 := Lib.hid (CZ1.out.below bb2)
        clear bb2 B1 CL1 CZ1
        rw [E1.out, bv_neg hneg, mt_neg hneg]
        go_wp2_with fail
        refine (sMeetB _ _ _ _ _ xs zs _ CL2.out CZ2.out hl' hz' HV.out.1 HV.out.2).mono ?_
        rintro e w3 ⟨rfl, bb3⟩
        have B3 := Lib.hid (B2.out.trans (bb3.mono B2.out.size))
        have CL3 := Lib.hid (CL2.out.below bb3)
        have CZ3 := Lib.hid (CZ2.out.below bb3)
        clear bb3 B2 CL2 CZ2
        rw [E1.out, bv_neg hneg, mt_neg hneg]
        go_wp2_with fail
        go_ret
        exact ⟨rfl, B3.out⟩
      · obtain ⟨i, k, hcom⟩ : ∃ i k, Com xs zs i k v := by
          rcases MS.out with ⟨g, _⟩ | ⟨_, g, _⟩
          · omega
          · exact g
        obtain ⟨hi, hk, htw, hmx, hla, hlb⟩ := hcom
        have wa := wh_at HV.out.1 hi (T := v) (by omega) hla
        have wb := wh_at HV.out.2 hk (T := v) (by omega) hlb
        have WA := Lib.hid wa
        have WB := Lib.hid wb
        have HX := Lib.hid (And.intro htw hmx)
        have dla : decide (v ≤ lv xs i) = true := decide_eq_true hla
        have dlb : decide (v ≤ lv zs k) = true := decide_eq_true hlb
        clear wa wb htw hmx
        obtain ⟨ys, hy⟩ : ∃ ys, ys = xs.map (sh 10) := ⟨_, rfl⟩
        obtain ⟨us, hu⟩ : ∃ us, us = zs.map (sh 10) := ⟨_, rfl⟩
        have hly : ys.length ≤ 1048576 := by rw [hy]; simpa using hl'
        have hlu : us.length ≤ 1048576 := by rw [hu]; simpa using hz'
        have HY := Lib.hid hy
        have HU := Lib.hid hu
        clear hy hu
        have h0 : 0 ≤ v := by omega
        have MZ := Lib.hid (MS.out.shift (q := 10) (by omega) h0)
        rw [← HY.out, ← HU.out] at MZ
        go_wp2_with fail
        refine (iMeet_yes _ _ _ _ _ xs zs _ CL1.out CZ1.out hl' hz' HV.out.1 HV.out.2).mono ?_
        rintro e w2 ⟨rfl, bb2⟩
        have B2 := Lib.hid (B1.out.trans (bb2.mono B1.out.size))
        have CL2 := Lib.hid (CL1.out.below bb2)
        have CZ2 := Lib.hid (CZ1.out.below bb2)
        clear bb2 B1 CL1 CZ1
        rw [E1.out, bv_pos (by omega), mt_pos (by omega)]
        go_wp2_with fail
        refine (sMeetB _ _ _ _ _ xs zs _ CL2.out CZ2.out hl' hz' HV.out.1 HV.out.2).mono ?_
        rintro e w3 ⟨rfl, bb3⟩
        have B3 := Lib.hid (B2.out.trans (bb3.mono B2.out.size))
        have CL3 := Lib.hid (CL2.out.below bb3)
        have CZ3 := Lib.hid (CZ2.out.below bb3)
        clear bb3 B2 CL2 CZ2
        rw [E1.out, bv_pos (by omega), mt_pos (by omega)]
        go_wp2_with fail
        refine (iMeet_yes _ _ _ _ _ zs xs _ CZ3.out CL3.out hz' hl' HV.out.2 HV.out.1).mono ?_
        rintro e w4 ⟨rfl, bb4⟩
        have B4 := Lib.hid (B3.out.trans (bb4.mono B3.out.size))
        have CL4 := Lib.hid (CL3.out.below bb4)
        have CZ4 := Lib.hid (CZ3.out.below bb4)
        clear bb4 B3 CL3 CZ3
        rw [EV.out, bv_pos (by omega), mt_pos (by omega)]
        go_wp2_with fail
        refine (iWhere_yes _ _ _ _ xs _ CL4.out hl' HV.out.1 WA.out.2.1 WA.out.2.2).mono ?_
        rintro e w5 ⟨rfl, bb5⟩
        have B5 := Lib.hid (B4.out.trans (bb5.mono B4.out.size))
        have CL5 := Lib.hid (CL4.out.below bb5)
        have CZ5 := Lib.hid (CZ4.out.below bb5)
        clear bb5 B4 CL4 CZ4
        rw [WA.out.1, dla]
        go_wp2_with fail
        refine (iWhere_yes _ _ _ _ zs _ CZ5.out hz' HV.out.2 WB.out.2.1 WB.out.2.2).mono ?_
        rintro e w6 ⟨rfl, bb6⟩
        have B6 := Lib.hid (B5.out.trans (bb6.mono B5.out.size))
        have CL6 := Lib.hid (CL5.out.below bb6)
        have CZ6 := Lib.hid (CZ5.out.below bb6)
        clear bb6 B5 CL5 CZ5
        rw [WB.out.1, dlb]
        go_wp2_with fail
        by_cases hvy : Valid n ys
        · have HVY := Lib.hid hvy
          clear hvy
          by_cases hvu : Valid n us
          · have HVU := Lib.hid hvu
            clear hvu
            refine (iLater_yes _ _ _ _ xs ys _ CL6.out hl' HV.out.1 (by omega) (by omega) HY.out HVY.out).mono ?_
            rintro e w7 ⟨Ag, cg, rfl, og, bb7⟩
            have B7 := Lib.hid (B6.out.trans (bb7.mono B6.out.size))
            have CL7 := Lib.hid (CL6.out.below bb7)
            have CZ7 := Lib.hid (CZ6.out.below bb7)
            have OG7 := Lib.hid og
            clear bb7 B6 CL6 CZ6 og
            go_wp2_with fail
            refine (iLater_yes _ _ _ _ zs us _ CZ7.out hz' HV.out.2 (by omega) (by omega) HU.out HVU.out).mono ?_
            rintro e w8 ⟨Ah, ch, rfl, oh, bb8⟩
            have B8 := Lib.hid (B7.out.trans (bb8.mono B7.out.size))
            have CL8 := Lib.hid (CL7.out.below bb8)
            have CZ8 := Lib.hid (CZ7.out.below bb8)
            have OG8 := Lib.hid (OG7.out.below bb8)
            have OH8 := Lib.hid oh
            clear bb8 B7 CL7 CZ7 OG7 oh
            go_wp2_with fail
            have EY := Lib.hid (show mF ys us ys.length = v + 10 from (mF_spec HVY.out HVU.out).uniq MZ.out)
            refine (iMeet_yes _ _ _ _ _ ys us _ OG8.out.cells OH8.out.cells hly hlu HVY.out HVU.out).mono ?_
            rintro e w9 ⟨rfl, bb9⟩
            have B9 := Lib.hid (B8.out.trans (bb9.mono B8.out.size))
            have CL9 := Lib.hid (CL8.out.below bb9)
            have CZ9 := Lib.hid (CZ8.out.below bb9)
            have OG9 := Lib.hid (OG8.out.below bb9)
            have OH9 := Lib.hid (OH8.out.below bb9)
            clear bb9 B8 CL8 CZ8 OG8 OH8
            rw [EY.out, bv_pos (by omega), mt_pos (by omega)]
            obtain ⟨gb, go, hA, hgb, d0, -, -⟩ := CL9.out.at3 hi
            subst hA
            obtain ⟨gb', go', hA', hgb', d0', -, -⟩ := CZ9.out.at3 hk
            subst hA'
            have i1 : (i : Int) < (xs.length : Int) := by omega
            have i2 : (k : Int) < (zs.length : Int) := by omega
            rw [HX.out.1] at d0
            go_wp2_with fail
            go_quiet (fail)
            go_wp2_with fail
            go_ret
            exact ⟨rfl, below_drewN' B9.out _⟩
          · have HVU := Lib.hid hvu
            clear hvu
            refine (iLater_yes _ _ _ _ xs ys _ CL6.out hl' HV.out.1 (by omega) (by omega) HY.out HVY.out).mono ?_
            rintro e w7 ⟨Ag, cg, rfl, og, bb7⟩
            have B7 := Lib.hid (B6.out.trans (bb7.mono B6.out.size))
            have CL7 := Lib.hid (CL6.out.below bb7)
            have CZ7 := Lib.hid (CZ6.out.below bb7)
            have OG7 := Lib.hid og
            clear bb7 B6 CL6 CZ6 og
            go_wp2_with fail
            refine (iLater_no _ _ _ _ zs us _ CZ7.out hz' HU.out (fun g => HVU.out g.2.2.2)).mono ?_
            rintro e w8 ⟨Ah, ch, rfl, oh, bb8⟩
            have B8 := Lib.hid (B7.out.trans (bb8.mono B7.out.size))
            have CL8 := Lib.hid (CL7.out.below bb8)
            have CZ8 := Lib.hid (CZ7.out.below bb8)
            have OG8 := Lib.hid (OG7.out.below bb8)
            have OH8 := Lib.hid oh
            clear bb8 B7 CL7 CZ7 OG7 oh
            go_wp2_with fail
            refine (iMeet_no _ _ _ _ _ ys [] _ OG8.out.cells OH8.out.cells hly (by simp) (fun g => absurd g.2.2.2.1 (by simp))).mono ?_
            rintro e w9 ⟨rfl, bb9⟩
            have B9 := Lib.hid (B8.out.trans (bb9.mono B8.out.size))
            have CL9 := Lib.hid (CL8.out.below bb9)
            have CZ9 := Lib.hid (CZ8.out.below bb9)
            have OG9 := Lib.hid (OG8.out.below bb9)
            have OH9 := Lib.hid (OH8.out.below bb9)
            clear bb9 B8 CL8 CZ8 OG8 OH8
            obtain ⟨gb, go, hA, hgb, d0, -, -⟩ := CL9.out.at3 hi
            subst hA
            obtain ⟨gb', go', hA', hgb', d0', -, -⟩ := CZ9.out.at3 hk
            subst hA'
            have i1 : (i : Int) < (xs.length : Int) := by omega
            have i2 : (k : Int) < (zs.length : Int) := by omega
            rw [HX.out.1] at d0
            go_wp2_with fail
            go_quiet (fail)
            go_wp2_with fail
            go_ret
            exact ⟨rfl, below_drewN' B9.out _⟩
        · have HVY := Lib.hid hvy
          clear hvy
          by_cases hvu : Valid n us
          · have HVU := Lib.hid hvu
            clear hvu
            refine (iLater_no _ _ _ _ xs ys _ CL6.out hl' HY.out (fun g => HVY.out g.2.2.2)).mono ?_
            rintro e w7 ⟨Ag, cg, rfl, og, bb7⟩
            have B7 := Lib.hid (B6.out.trans (bb7.mono B6.out.size))
            have CL7 := Lib.hid (CL6.out.below bb7)
            have CZ7 := Lib.hid (CZ6.out.below bb7)
            have OG7 := Lib.hid og
            clear bb7 B6 CL6 CZ6 og
            go_wp2_with fail
            refine (iLater_yes _ _ _ _ zs us _ CZ7.out hz' HV.out.2 (by omega) (by omega) HU.out HVU.out).mono ?_
            rintro e w8 ⟨Ah, ch, rfl, oh, bb8⟩
            have B8 := Lib.hid (B7.out.trans (bb8.mono B7.out.size))
            have CL8 := Lib.hid (CL7.out.below bb8)
            have CZ8 := Lib.hid (CZ7.out.below bb8)
            have OG8 := Lib.hid (OG7.out.below bb8)
            have OH8 := Lib.hid oh
            clear bb8 B7 CL7 CZ7 OG7 oh
            go_wp2_with fail
            refine (iMeet_no _ _ _ _ _ [] us _ OG8.out.cells OH8.out.cells (by simp) hlu (fun g => absurd g.1.2.2.1 (by simp))).mono ?_
            rintro e w9 ⟨rfl, bb9⟩
            have B9 := Lib.hid (B8.out.trans (bb9.mono B8.out.size))
            have CL9 := Lib.hid (CL8.out.below bb9)
            have CZ9 := Lib.hid (CZ8.out.below bb9)
            have OG9 := Lib.hid (OG8.out.below bb9)
            have OH9 := Lib.hid (OH8.out.below bb9)
            clear bb9 B8 CL8 CZ8 OG8 OH8
            obtain ⟨gb, go, hA, hgb, d0, -, -⟩ := CL9.out.at3 hi
            subst hA
            obtain ⟨gb', go', hA', hgb', d0', -, -⟩ := CZ9.out.at3 hk
            subst hA'
            have i1 : (i : Int) < (xs.length : Int) := by omega
            have i2 : (k : Int) < (zs.length : Int) := by omega
            rw [HX.out.1] at d0
            go_wp2_with fail
            go_quiet (fail)
            go_wp2_with fail
            go_ret
            exact ⟨rfl, below_drewN' B9.out _⟩
          · have HVU := Lib.hid hvu
            clear hvu
            refine (iLater_no _ _ _ _ xs ys _ CL6.out hl' HY.out (fun g => HVY.out g.2.2.2)).mono ?_
            rintro e w7 ⟨Ag, cg, rfl, og, bb7⟩
            have B7 := Lib.hid (B6.out.trans (bb7.mono B6.out.size))
            have CL7 := Lib.hid (CL6.out.below bb7)
            have CZ7 := Lib.hid (CZ6.out.below bb7)
            have OG7 := Lib.hid og
            clear bb7 B6 CL6 CZ6 og
            go_wp2_with fail
            refine (iLater_no _ _ _ _ zs us _ CZ7.out hz' HU.out (fun g => HVU.out g.2.2.2)).mono ?_
            rintro e w8 ⟨Ah, ch, rfl, oh, bb8⟩
            have B8 := Lib.hid (B7.out.trans (bb8.mono B7.out.size))
            have CL8 := Lib.hid (CL7.out.below bb8)
            have CZ8 := Lib.hid (CZ7.out.below bb8)
            have OG8 := Lib.hid (OG7.out.below bb8)
            have OH8 := Lib.hid oh
            clear bb8 B7 CL7 CZ7 OG7 oh
            go_wp2_with fail
            refine (iMeet_no _ _ _ _ _ [] [] _ OG8.out.cells OH8.out.cells (by simp) (by simp) (fun g => absurd g.1.2.2.1 (by simp))).mono ?_
            rintro e w9 ⟨rfl, bb9⟩
            have B9 := Lib.hid (B8.out.trans (bb9.mono B8.out.size))
            have CL9 := Lib.hid (CL8.out.below bb9)
            have CZ9 := Lib.hid (CZ8.out.below bb9)
            have OG9 := Lib.hid (OG8.out.below bb9)
            have OH9 := Lib.hid (OH8.out.below bb9)
            clear bb9 B8 CL8 CZ8 OG8 OH8
            obtain ⟨gb, go, hA, hgb, d0, -, -⟩ := CL9.out.at3 hi
            subst hA
            obtain ⟨gb', go', hA', hgb', d0', -, -⟩ := CZ9.out.at3 hk
            subst hA'
            have i1 : (i : Int) < (xs.length : Int) := by omega
            have i2 : (k : Int) < (zs.length : Int) := by omega
            rw [HX.out.1] at d0
            go_wp2_with fail
            go_quiet (fail)
            go_wp2_with fail
            go_ret
            exact ⟨rfl, below_drewN' B9.out _⟩
    · have HV := Lib.hid hv
      clear hv
      go_wp2_with fail
      refine (iMeet_no _ _ _ _ _ xs zs _ CL1.out CZ1.out hl' hz' HV.out).mono ?_
      rintro e w2 ⟨rfl, bb2⟩
      have B2 := Lib.hid (B1.out.trans (bb2.mono B1.out.size))
      have CL2 := Lib.hid (CL1.out.below bb2)
      have CZ2 := Lib.hid (CZ1.out.below bb2)
      clear bb2 B1 CL1 CZ1
      go_wp2_with fail
      refine (sMeet_no _ _ _ _ _ xs zs _ CL2.out CZ2.out hl' hz' HV.out).mono ?_
      rintro e w3 ⟨rfl, bb3⟩
      have B3 := Lib.hid (B2.out.trans (bb3.mono B2.out.size))
      have CL3 := Lib.hid (CL2.out.below bb3)
      have CZ3 := Lib.hid (CZ2.out.below bb3)
      clear bb3 B2 CL2 CZ2
      go_wp2_with fail
      go_ret
      exact ⟨rfl, B3.out⟩

set_option maxRecDepth 100000 in
theorem lifted (os : Os) (started : os.Started) (H : Type) (enc : TypeId × Value → H) :
    ReturnsInHanded {} Try.checked os 20 .any (Rows.fnStopsMeetSpec.pre6 enc Try.prog Try.f20 Rows.fnStopsMeetRow.domain false) (Rows.fnStopsMeetSpec.post enc Try.prog Try.f20 false true false false) := by
  refine returnsInHanded_of_change (C := Try.checked) own started (by kernel_rfl) Try.func20
    (ChangeSpec.witness6 (enc := enc) (C := Try.checked) false ⟨#[], #[.slice none 0 0], []⟩ 8 (by kernel_rfl) (by kernel_rfl) (by kernel_rfl) (by kernel_rfl)) ?_
  intro W base args ds gs before hval0 hW hcnd _
  have hval : ∀ (j : Nat) t v, Try.f20.params[j]? = some t → args[j]? = some v → Value.okWide Try.prog W .any base t v := hval0
  have hW' := hW
  obtain ⟨p, q, hA0, hV, rfl, hfz, hnd⟩ := hW
  have hA : DataW.TrodAll enc Try.prog W 0 (fun _ => true) true Try.f20.params.toList args.toList ds p := hA0
  rw [Try.params20] at hA hval
  obtain ⟨v0, vs0, d0, ds0, p0, q0, hargs, rfl, rfl, h0, r0⟩ := trodAll_cons hA
  obtain ⟨rfl, rfl, rfl⟩ := trodAll_nil r0
  obtain rfl : args = #[v0] := by cases args; simp_all
  obtain ⟨rfl, rfl⟩ := trodVars_none hV
  obtain ⟨A0, len0, cap0, rfl⟩ := okWide_slice Try.underlying33 (hval 0 33 v0 rfl rfl)
  have k0 := h0
  have lt0 : ∀ x ∈ p0, x.block < W.heap.size := by obtain ⟨m, hm⟩ := k0; exact DataW.trod_lt m _ _ _ hm
  obtain ⟨s0, m0, g0⟩ : Bytes W A0 len0 ∧ len0 ≤ cap0 ∧ cap0 ≤ maxLen := by
    obtain ⟨fuel, hf⟩ := h0
    exact arg_bytes hf
  clear hA0 hval0
  simp only [List.append_nil] at hW'
  refine (walk A0 len0 cap0 W s0 m0 g0).mono fun e W' ⟨he, bel⟩ => ?_
  subst he
  exact ⟨_, rfl, _, _, _, [], _, [], hW', (trodAll_cons_mk (shut_bool Try.underlying4 _) trodAll_mk0), (trodAll_cons_mk (Below.trod laidOut (by kernel_rfl) (of_decide_eq_true (by kernel_rfl)) k0 bel lt0) trodAll_mk0), rfl, bel.frame _, fun h => by cases h⟩

set_option maxRecDepth 100000 in
theorem closed : joinedFacts Try.prog 20 Try.f20 Rows.fnStopsMeetSpec Rows.fnStopsMeetRow = true := by
  unfold joinedFacts
  rw [enter_ok, lifts_ok, make_ok]
  kernel_rfl

theorem over : Rows.fnStopsMeetRow.holds Try.pinned (OpenSpec.ofChange Rows.fnStopsMeetSpec) :=
  OpenClaim.holds_of_wide 20 Try.f20 rfl rfl rfl rfl rfl rfl rfl ⟨rfl, rfl, rfl, rfl, rfl⟩ rfl rfl rfl rfl rfl (by kernel_rfl) Try.func20 closed
    (of_decide_eq_true (by kernel_rfl)) (by unfold Func.isWrapper; first | (rw [if_pos (by decide +kernel)]; kernel_rfl) | (rw [if_neg (by decide +kernel)]; exact ⟨rfl, rfl⟩))
    (fun os started H enc _ => lifted os started H enc)

theorem proved : Rows.FnStopsMeetSaid :=
  over
#print axioms proved
end Go.Proofs.Ytdmbgnbegnlcaaa.fnStopsMeet
