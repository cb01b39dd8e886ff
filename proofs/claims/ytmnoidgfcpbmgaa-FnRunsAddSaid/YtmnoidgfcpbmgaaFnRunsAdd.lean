/-
  For every input laws.FnRunsAdd returns true and leaves its arguments as they were (Rows.FnRunsAddSaid). Condition: none beyond the given row.
-/
import Derived.Test.YtmnoidgfcpbmgaaRows
import Derived.WalkKit
import Derived.ProofKit
import Derived.OpenShut
import Derived.ShutString
import Derived.ChangeOld
import Derived.Below
import Derived.Lib.SmallJoins
import Derived.Test.YtmnoidgfcpbmgaaEnter
import Derived.Test.YtmnoidgfcpbmgaaOpenB
import Derived.Test.YtmnoidgfcpbmgaaDrawR6
import Derived.Test.YtmnoidgfcpbmgaaRunsY
import Derived.Test.YtmnoidgfcpbmgaaRunsU3
import Derived.Test.YtmnoidgfcpbmgaaBoxI
import Derived.Deep.RegionHeld3
namespace Go.Proofs.Ytmnoidgfcpbmgaa.fnRunsAdd
open Go.ChangeShapes Go.WideShapes Go.ChangeAt Go.RowKit Go.Joins
open Go.ChangeMaps (open_string shut_string)
set_option linter.unusedVariables false

theorem own : ownKnob Try.prog.godebug = none := by kernel_rfl
theorem laidOut : laidOutB Try.prog = true := by kernel_rfl

theorem addR_at (xs : List Rn) (r : Rn) : rs (addR xs r) (addAt xs r.s) = r.s ∧ re (addR xs r) (addAt xs r.s) = r.e := by
  have h := addAt_le xs r.s
  have e : (addR xs r).getD (addAt xs r.s) rnz = r := by
    unfold addR
    rw [List.getD_eq_getElem?_getD, List.getElem?_append_right (by rw [List.length_take]; omega), List.length_take, Nat.min_eq_left h, Nat.sub_self]
    rfl
  unfold rs re
  rw [e]
  exact ⟨rfl, rfl⟩
theorem addR_take (xs : List Rn) (r : Rn) : (addR xs r).take (addAt xs r.s) = xs.take (addAt xs r.s) := by
  have h := addAt_le xs r.s
  unfold addR
  exact List.take_left' (by rw [List.length_take]; omega)
theorem addR_drop (xs : List Rn) (r : Rn) : (addR xs r).drop (addAt xs r.s + 1) = xs.drop (addAt xs r.s) := by
  have h := addAt_le xs r.s
  unfold addR
  rw [← List.drop_drop, List.drop_left' (by rw [List.length_take]; omega)]
  rfl

/-- Where an owned row that is not empty lies. -/
theorem own_head {w : World} {B : Nat} {A : Option Addr} {c : Nat} {xs : List Rn} (h : ROwn w B A c xs) (h0 : 0 < xs.length) : ∃ g, A = some ⟨g, 0, none⟩ ∧ xs.length ≤ c ∧ c ≤ 9223372036854775807 := by
  rcases h.2 with ⟨_, h1⟩ | ⟨g, cap, cur, hv, _, _, h2, h3, _⟩
  · omega
  · injection hv with a1 a2 a3
    subst a1 a3
    exact ⟨g, rfl, h2, by unfold maxLen at h3; omega⟩
/-- Four cells that the last region reads. -/
def Lib2 (W : World) (b g k : Nat) (t u : Int) : Prop := b < W.heap.size ∧ g < W.heap.size ∧ W.cell? ⟨b, 0, none⟩ = some (.int .i64 t) ∧ W.cell? ⟨b, 1, none⟩ = some (.int .i64 u) ∧ W.cell? ⟨g, k * 2, none⟩ = some (.int .i64 t) ∧ W.cell? ⟨g, k * 2 + 1, none⟩ = some (.int .i64 u)
theorem Lib2.below {W W' : World} {b g k : Nat} {t u : Int} (h : Lib2 W b g k t u) (hb : Below W.heap.size W W') : Lib2 W' b g k t u :=
  ⟨Nat.lt_of_lt_of_le h.1 hb.size, Nat.lt_of_lt_of_le h.2.1 hb.size, (hb.cell (p := ⟨b, 0, none⟩) h.1).trans h.2.2.1, (hb.cell (p := ⟨b, 1, none⟩) h.1).trans h.2.2.2.1, (hb.cell (p := ⟨g, k * 2, none⟩) h.2.1).trans h.2.2.2.2.1, (hb.cell (p := ⟨g, k * 2 + 1, none⟩) h.2.1).trans h.2.2.2.2.2⟩
set_option maxRecDepth 100000 in
set_option maxHeartbeats 4000000 in
theorem walk (A0 : Option Addr) (len0 cap0 : Nat) (A1 : Option Addr) (len1 cap1 : Nat) (w : World) (s0 : Bytes w A0 len0) (m0 : len0 ≤ cap0) (q0 : cap0 ≤ maxLen) (s1 : Bytes w A1 len1) (m1 : len1 ≤ cap1) (q1 : cap1 ≤ maxLen) :
    Calls Try.prog 3 #[.slice A0 len0 cap0, .slice A1 len1 cap1] w fun e w' => e = .returned (.bool true) ∧ Below w.heap.size w w' := by
  by_cases hl : 1048576 < len0
  · go_enter Try.func3, Try.ntmps3
    go_wp2_with fail
    go_ret
    exact ⟨rfl, Below.refl _ _⟩
  · by_cases hl1 : 1048576 < len1
    · go_enter Try.func3, Try.ntmps3
      go_wp2_with fail
      go_ret
      exact ⟨rfl, Below.refl _ _⟩
    · have hl1' : len1 ≤ 1048576 := by omega
      clear hl1
      go_enter Try.func3, Try.ntmps3
      go_wp2_with fail
      refine (drawRunsAdd A0 len0 cap0 w s0 m0 q0).mono ?_
      rintro e w0 ⟨g, c, xs, t, u, rfl, hwf, hwfu, l7, c1, c2, hcl, b0⟩
      have hl' : xs.length ≤ 1048576 := by omega
      have B0 := Lib.hid b0
      have CL0 := Lib.hid hcl
      clear b0 hcl s0 m0 q0 s1 m1 q1
      go_wp2_with fail
      obtain ⟨w1, hw1⟩ : ∃ w1, w1 = w0.alloc (.cells #[.int .i64 t, .int .i64 u] 25) := ⟨_, rfl⟩
      have BX1 := Lib.hid (show BoxI w1 w0.heap.size [t, u] by rw [hw1]; exact BoxI.new2 w0 t u _)
      have B1 := Lib.hid (show Below w.heap.size w w1 by rw [hw1]; exact B0.out.alloc B0.out.size _)
      have CL1 := Lib.hid (show Cells w1 (some ⟨g, 0, none⟩) (fr xs) by rw [hw1]; exact CL0.out.alloc _)
      rw [← hw1]
      clear hw1 B0 CL0
      refine (iRA_any g c xs ⟨t, u⟩ _ CL1.out hl' c1 c2).mono ?_
      rintro e w2 ⟨A', c', rfl, ow, b2⟩
      have O2 := Lib.hid ow
      have B2 := Lib.hid (B1.out.trans (b2.mono B1.out.size))
      have CL2 := Lib.hid (CL1.out.below b2)
      have BX2 := Lib.hid (BX1.out.below b2)
      obtain ⟨x0, x1⟩ := BX2.out.two
      clear ow b2 B1 CL1 BX1
      by_cases hv : RAc xs ⟨t, u⟩
      · have HV := Lib.hid hv
        obtain ⟨ys, hy⟩ : ∃ ys, ys = addR xs ⟨t, u⟩ := ⟨_, rfl⟩
        obtain ⟨k0, hk0⟩ : ∃ k0, k0 = addAt xs t := ⟨_, rfl⟩
        have EL := Lib.hid (show raL xs ⟨t, u⟩ = ys by rw [hy]; exact raL_yes hv)
        have EB := Lib.hid (show raB xs ⟨t, u⟩ = true from raB_yes hv)
        have hyl : ys.length = xs.length + 1 := by rw [hy]; exact addR_len _ _
        have y1 : ys.length ≤ xs.length + 1 := by omega
        have y2 : xs.length + 1 ≤ ys.length := by omega
        have yl : ys.length ≤ 1048576 := by omega
        have hkl : k0 ≤ xs.length := by rw [hk0]; exact addAt_le _ _
        have HRC := Lib.hid (show rs ys k0 = t ∧ re ys k0 = u by rw [hy, hk0]; exact addR_at xs ⟨t, u⟩)
        obtain ⟨rr, hrr⟩ : ∃ rr : Nat, rr = len1 % 50 := ⟨_, rfl⟩
        have r5 : rr < 50 := by omega
        have em : (len1 : Int) % 50 = (rr : Int) := by omega
        have em' : Int.tmod (len1 : Int) 50 = (rr : Int) := by rw [Int.tmod_eq_emod_of_nonneg (by omega)]; omega
        obtain ⟨p, hp⟩ : ∃ p, p = most ys (rr : Int) := ⟨_, rfl⟩
        obtain ⟨q, hq⟩ : ∃ q, q = most xs (rr : Int) := ⟨_, rfl⟩
        have hpq : q ≤ p ∧ p ≤ q + 1 := by rw [hp, hq, hy]; exact most_add hv.1 hv.2 (by omega)
        obtain ⟨pq1, pq2⟩ := hpq
        have q7 : q ≤ xs.length := by rw [hq]; exact most_le_len _ _
        have TP := Lib.hid (show tlV ys (rr : Int) = (p : Int) by rw [hp]; exact tlV_yes ⟨by rw [hy]; exact hv.2, by omega, by omega⟩)
        have TQ := Lib.hid (show tlV xs (rr : Int) = (q : Int) by rw [hq]; exact tlV_yes ⟨hv.1, by omega, by omega⟩)
        obtain ⟨d, hd⟩ : ∃ d : Int, d = (p : Int) - (q : Int) := ⟨_, rfl⟩
        have d0 : d = 0 ∨ d = 1 := by omega
        have e7 : IntKind.i64.wrap ((p : Int) - (q : Int)) = d := by rw [← hd]; exact IntWalk.i64_in _ (by omega)
        have HY := Lib.hid hy
        have HK := Lib.hid hk0
        have o2 := O2.out
        rw [EL.out] at o2
        rw [EL.out, EB.out]
        obtain ⟨g', hA', c1', c2'⟩ := own_head o2 (by omega)
        subst hA'
        have CY2 := Lib.hid (show Cells w2 (some ⟨g', 0, none⟩) (fr ys) from o2.cells)
        have ys0 : 0 < ys.length := by omega
        clear hv hy hk0 hyl hrr hp hq hd o2 O2
        go_wp2_with fail
        refine (sRA_any g c xs ⟨t, u⟩ _ CL2.out hl' c1 c2).mono ?_
        rintro e w3 ⟨A'', c'', rfl, ow, b3⟩
        rw [EL.out] at ow
        rw [EL.out, EB.out]
        have CW3 := Lib.hid ow.cells
        have B3 := Lib.hid (B2.out.trans (b3.mono B2.out.size))
        have CL3 := Lib.hid (CL2.out.below b3)
        have CY3 := Lib.hid (CY2.out.below b3)
        have BX3 := Lib.hid (BX2.out.below b3)
        clear ow b3 B2 CL2 CY2 BX2 x0 x1
        go_wp2_with fail
        refine (sameRuns_yes _ _ _ _ ys _ CY3.out CW3.out yl).mono ?_
        rintro e w4 ⟨rfl, b4⟩
        have B4 := Lib.hid (B3.out.trans (b4.mono B3.out.size))
        have CL4 := Lib.hid (CL3.out.below b4)
        have CY4 := Lib.hid (CY3.out.below b4)
        have BX4 := Lib.hid (BX3.out.below b4)
        clear b4 B3 CL3 CY3 BX3 CW3
        go_wp2_with fail
        refine (iTL_any _ _ ys _ _ CY4.out yl).mono ?_
        rintro e w5 ⟨rfl, b5⟩
        rw [TP.out]
        have B5 := Lib.hid (B4.out.trans (b5.mono B4.out.size))
        have CL5 := Lib.hid (CL4.out.below b5)
        have CY5 := Lib.hid (CY4.out.below b5)
        have BX5 := Lib.hid (BX4.out.below b5)
        clear b5 B4 CL4 CY4 BX4
        go_wp2_with fail
        refine (iTL_any _ _ xs _ _ CL5.out hl').mono ?_
        rintro e w6 ⟨rfl, b6⟩
        rw [TQ.out]
        have B6 := Lib.hid (B5.out.trans (b6.mono B5.out.size))
        have CL6 := Lib.hid (CL5.out.below b6)
        have CY6 := Lib.hid (CY5.out.below b6)
        have BX6 := Lib.hid (BX5.out.below b6)
        clear b6 B5 CL5 CY5 BX5
        go_wp2_with fail
        go_loopw [13] (fun i wr => ∃ k : Nat, k ≤ xs.length ∧ i = .int .i64 k ∧ (∀ j, j < k → rs xs j ≤ t) ∧ Below w6.heap.size w6 wr) (fun i _ => xs.length - (intOf i).toNat)
        case atStart => exact ⟨0, Nat.zero_le _, rfl, fun j hj => by omega, Below.refl _ _⟩
        case round =>
          obtain ⟨k, hk, rfl, hlow, hbel⟩ := hrel
          obtain ⟨x0, x1⟩ := (BX6.out.below hbel).two
          have HW := Lib.hid hlow
          clear hlow
          have hcont : (k < xs.length ∧ rs xs k ≤ t) ∨ (k < xs.length ∧ t < rs xs k) ∨ k = xs.length := by omega
          rcases hcont with ⟨q1, q2⟩ | hex
          · obtain ⟨b', o', hA, hb, c0, -⟩ := (CL6.out.below hbel).at2 q1
            injection hA with hA
            injection hA with hA1 hA2
            subst hA1
            subst hA2
            rw [Nat.zero_add] at c0
            have i1 : (k : Int) < (xs.length : Int) := by omega
            have d1 : decide ((k : Int) < (xs.length : Int)) = true := by simp; omega
            have d2 : decide (rs xs k ≤ t) = true := by simp; omega
            have e5 : IntKind.i64.wrap ((k : Int) + 1) = ((k + 1 : Nat) : Int) := by rw [show (k : Int) + 1 = ((k + 1 : Nat) : Int) by omega]; exact IntWalk.i64_in _ (by omega)
            go_wp2_with fail
            go_quiet (fail)
            go_wp2_with fail
            exact ⟨⟨k + 1, by omega, by go_num, low_succ HW.out q2, below_drewN' hbel _⟩, by simp [intOf]; omega⟩
          · have ek : k = k0 := by rw [HK.out]; exact addAt_eq xs t k hk HW.out (fun g => by rcases hex with ⟨_, q⟩ | q; exact q; omega)
            subst ek
            have FW := Lib.hid (show ∀ m, Below w.heap.size w (wr.drewN m) ∧ Cells (wr.drewN m) (some ⟨g, 0, none⟩) (fr xs) ∧ Cells (wr.drewN m) (some ⟨g', 0, none⟩) (fr ys) ∧ BoxI (wr.drewN m) w0.heap.size [t, u] from fun m => ⟨below_drewN' (B6.out.trans (hbel.mono B6.out.size)) _, (CL6.out.below hbel).drewN _, (CY6.out.below hbel).drewN _, (BX6.out.below hbel).below ⟨rfl, rfl, rfl, Nat.le_refl _, fun _ _ => rfl⟩⟩)
            rcases hex with ⟨q1, q2⟩ | q1
            focus
              obtain ⟨b', o', hA, hb, c0, -⟩ := (CL6.out.below hbel).at2 q1
              injection hA with hA
              injection hA with hA1 hA2
              subst hA1
              subst hA2
              rw [Nat.zero_add] at c0
              have i1 : (k : Int) < (xs.length : Int) := by omega
              have d1 : decide ((k : Int) < (xs.length : Int)) = true := by simp; omega
              have d2 : decide (rs xs k ≤ t) = false := by simp; omega
              go_wp2_with fail
              go_quiet (fail)
              clear hb c0 i1 d1 d2 q1 q2 x0 x1 hbel
            rotate_left
            focus
              have d1 : decide ((k : Int) < (xs.length : Int)) = false := by simp; omega
              have d2 : decide (k < xs.length) = false := by simp; omega
              go_wp2_with fail
              go_quiet (fail)
              clear d1 d2 q1 x0 x1 hbel
            all_goals
              generalize hx : wr.drewN _ = wx
              obtain ⟨m, hx⟩ : ∃ m, wr.drewN m = wx := ⟨_, hx⟩
              have FX := FW.out m
              rw [hx] at FX
              obtain ⟨bx, cx, cy, zx⟩ := FX
              clear hx m FW HW B6 CL6 CY6 BX6
              obtain ⟨ps, hps⟩ : ∃ ps, ps = xs.take k := ⟨_, rfl⟩
              obtain ⟨qs, hqs⟩ : ∃ qs, qs = xs.drop k := ⟨_, rfl⟩
              have hpl : k = ps.length := by rw [hps, List.length_take]; omega
              have hql : xs.length - k = qs.length := by rw [hqs, List.length_drop]
              have hql2 : ys.length - (k + 1) = qs.length := by omega
              have hps2 : ps = ys.take k := by rw [hps, HK.out, HY.out]; exact (addR_take xs ⟨t, u⟩).symm
              have hqs2 : qs = ys.drop (k + 1) := by rw [hqs, HK.out, HY.out]; exact (addR_drop xs ⟨t, u⟩).symm
              obtain ⟨bb', oo', hA, hb, m0, m1⟩ := cy.at2 (show k < ys.length by omega)
              injection hA with hA
              injection hA with hA1 hA2
              subst hA1
              subst hA2
              rw [Nat.zero_add, HRC.out.1] at m0
              rw [Nat.zero_add, HRC.out.2] at m1
              have P1 := Lib.hid (show ∀ W, Cells W (some ⟨g, 0, none⟩) (fr xs) → Cells W (some ⟨g, 0, none⟩) (fr ps) from fun W h => by rw [hps]; exact h.takeR _)
              have P2 := Lib.hid (show ∀ W, Cells W (some ⟨g', 0, none⟩) (fr ys) → Cells W (some ⟨g', 0, none⟩) (fr ps) from fun W h => by rw [hps2]; exact h.takeR _)
              have Q1 := Lib.hid (show ∀ W, Cells W (some ⟨g, 0, none⟩) (fr xs) → Cells W (if c = k then some ⟨g, 0, none⟩ else some ⟨g, k * 2, none⟩) (fr qs) from fun W h => by
                by_cases z : c = k
                · have : qs = [] := List.eq_nil_of_length_eq_zero (by omega)
                  rw [this]; exact Cells.nil
                · rw [if_neg z, hqs]; have := h.dropR k; rwa [Nat.zero_add] at this)
              have Q2 := Lib.hid (show ∀ W, Cells W (some ⟨g', 0, none⟩) (fr ys) → Cells W (if c' = k + 1 then some ⟨g', 0, none⟩ else some ⟨g', (k + 1) * 2, none⟩) (fr qs) from fun W h => by
                by_cases z : c' = k + 1
                · have : qs = [] := List.eq_nil_of_length_eq_zero (by omega)
                  rw [this]; exact Cells.nil
                · rw [if_neg z, hqs2]; have := h.dropR (k + 1); rwa [Nat.zero_add] at this)
              obtain ⟨x0, x1⟩ := zx.two
              have V0 := Lib.hid (And.intro cx cy)
              have C0 := Lib.hid bx
              have N0 := Lib.hid (show Lib2 wx w0.heap.size g' k t u from ⟨zx.1, hb, x0, x1, m0, m1⟩)
              clear cx cy bx zx hps hqs hps2 hqs2 HRC HY HK TP TQ EL EB hb x0 x1 m0 m1
              subst hpl
              obtain ⟨k1, hk1⟩ : ∃ k1, k1 = ps.length + 1 := ⟨_, rfl⟩
              rw [← hk1] at Q2 hql2
              have pl : ps.length ≤ 1048576 := by omega
              have ql : qs.length ≤ 1048576 := by omega
              have j0 : ps.length < ys.length := by omega
              have j1 : (ps.length : Int) ≤ (xs.length : Int) := by omega
              have j2 : ps.length ≤ c := by omega
              have j3 : (xs.length : Int) ≤ (c : Int) := by omega
              have j4 : (ps.length : Int) < (ys.length : Int) := by omega
              have j5 : k1 ≤ c' := by omega
              have j6 : (k1 : Int) ≤ (ys.length : Int) := by omega
              have j7 : (ys.length : Int) ≤ (c' : Int) := by omega
              have j8 : ps.length ≤ c' := by omega
              have j9 : (ps.length : Int) ≤ (c' : Int) := by omega
              have ja : (ps.length : Int) ≤ (c : Int) := by omega
              have jb : (ps.length : Int) ≤ (ys.length : Int) := by omega
              have jc : k1 ≤ ys.length := by omega
              have jd : (k1 : Int) ≤ (c' : Int) := by omega
              have e8 : IntKind.i64.wrap ((ps.length : Int) + 1) = (k1 : Int) := by rw [show (ps.length : Int) + 1 = (k1 : Int) by omega]; exact IntWalk.i64_in _ (by omega)
              have e9 : IntKind.i64.wrap ((xs.length : Int) + 1) = (ys.length : Int) := by rw [show (xs.length : Int) + 1 = (ys.length : Int) by omega]; exact IntWalk.i64_in _ (by omega)
              obtain ⟨m2, m3, x0, x1, m0, m1⟩ := N0.out
              clear hk1 m2 m3
              rcases d0 with rfl | rfl
              all_goals
                go_wp2_with fail
                go_quiet (first
                  | (go_at_call_of 8 qs.length; exact sameRuns_q _ _ _ _ qs wx _ (Q2.out _ V0.out.2) (Q1.out _ V0.out.1) ql)
                  | (go_at_call_of 8 ps.length; exact sameRuns_q _ _ _ _ ps wx _ (P2.out _ V0.out.2) (P1.out _ V0.out.1) pl))
                go_wp2_with fail
                all_goals
                  go_ret
                  exact ⟨rfl, below_drewN' C0.out _⟩
      · have EL := Lib.hid (show raL xs ⟨t, u⟩ = [] from raL_no hv)
        have EB := Lib.hid (show raB xs ⟨t, u⟩ = false from raB_no hv)
        clear hv
        rw [EL.out, EB.out]
        clear O2
        go_wp2_with fail
        refine (sRA_any g c xs ⟨t, u⟩ _ CL2.out hl' c1 c2).mono ?_
        rintro e w3 ⟨A'', c'', rfl, ow, b3⟩
        rw [EL.out, EB.out]
        have B3 := Lib.hid (B2.out.trans (b3.mono B2.out.size))
        clear ow b3 B2 CL2 BX2 x0 x1
        go_wp2_with fail
        refine (sameRuns_yes _ _ _ _ [] _ Cells.nil Cells.nil (by simp)).mono ?_
        rintro e w4 ⟨rfl, b4⟩
        have B4 := Lib.hid (B3.out.trans (b4.mono B3.out.size))
        clear b4 B3
        go_wp2_with fail
        refine (sameRuns_yes _ _ _ _ [] _ Cells.nil Cells.nil (by simp)).mono ?_
        rintro e w5 ⟨rfl, b5⟩
        have B5 := Lib.hid (B4.out.trans (b5.mono B4.out.size))
        clear b5 B4
        go_wp2_with fail
        go_ret
        exact ⟨rfl, B5.out⟩

set_option maxRecDepth 100000 in
theorem lifted (os : Os) (started : os.Started) (H : Type) (enc : TypeId × Value → H) :
    ReturnsInHanded {} Try.checked os 3 .any (Rows.fnRunsAddSpec.pre6 enc Try.prog Try.f3 Rows.fnRunsAddRow.domain false) (Rows.fnRunsAddSpec.post enc Try.prog Try.f3 false true false false) := by
  refine returnsInHanded_of_change (C := Try.checked) own started (by kernel_rfl) Try.func3
    (ChangeSpec.witness6 (enc := enc) (C := Try.checked) false ⟨#[], #[.slice none 0 0, .slice none 0 0], []⟩ 8 (by kernel_rfl) (by kernel_rfl) (by kernel_rfl) (by kernel_rfl)) ?_
  intro W base args ds gs before hval0 hW hcnd _
  have hval : ∀ (j : Nat) t v, Try.f3.params[j]? = some t → args[j]? = some v → Value.okWide Try.prog W .any base t v := hval0
  have hW' := hW
  obtain ⟨p, q, hA0, hV, rfl, hfz, hnd⟩ := hW
  have hA : DataW.TrodAll enc Try.prog W 0 (fun _ => true) true Try.f3.params.toList args.toList ds p := hA0
  rw [Try.params3] at hA hval
  obtain ⟨v0, vs0, d0, ds0, p0, q0, hargs, rfl, rfl, h0, r0⟩ := trodAll_cons hA
  obtain ⟨v1, vs1, d1, ds1, p1, q1, rfl, rfl, rfl, h1, r1⟩ := trodAll_cons r0
  obtain ⟨rfl, rfl, rfl⟩ := trodAll_nil r1
  obtain rfl : args = #[v0, v1] := by cases args; simp_all
  obtain ⟨rfl, rfl⟩ := trodVars_none hV
  obtain ⟨A0, len0, cap0, rfl⟩ := okWide_slice Try.underlying22 (hval 0 22 v0 rfl rfl)
  have k0 := h0
  have lt0 : ∀ x ∈ p0, x.block < W.heap.size := by obtain ⟨m, hm⟩ := k0; exact DataW.trod_lt m _ _ _ hm
  obtain ⟨s0, m0, g0⟩ : Bytes W A0 len0 ∧ len0 ≤ cap0 ∧ cap0 ≤ maxLen := by
    obtain ⟨fuel, hf⟩ := h0
    exact arg_bytes hf
  obtain ⟨A1, len1, cap1, rfl⟩ := okWide_slice Try.underlying22 (hval 1 22 v1 rfl rfl)
  have k1 := h1
  have lt1 : ∀ x ∈ p1, x.block < W.heap.size := by obtain ⟨m, hm⟩ := k1; exact DataW.trod_lt m _ _ _ hm
  obtain ⟨s1, m1, g1⟩ : Bytes W A1 len1 ∧ len1 ≤ cap1 ∧ cap1 ≤ maxLen := by
    obtain ⟨fuel, hf⟩ := h1
    exact arg_bytes hf
  clear hA0 hval0
  simp only [List.append_nil] at hW'
  refine (walk A0 len0 cap0 A1 len1 cap1 W s0 m0 g0 s1 m1 g1).mono fun e W' ⟨he, bel⟩ => ?_
  subst he
  exact ⟨_, rfl, _, _, _, [], _, [], hW', (trodAll_cons_mk (shut_bool Try.underlying4 _) trodAll_mk0), (trodAll_cons_mk (Below.trod laidOut (by kernel_rfl) (of_decide_eq_true (by kernel_rfl)) k0 bel lt0) (trodAll_cons_mk (Below.trod laidOut (by kernel_rfl) (of_decide_eq_true (by kernel_rfl)) k1 bel lt1) trodAll_mk0)), rfl, bel.frame _, fun h => by cases h⟩

set_option maxRecDepth 100000 in
theorem closed : joinedFacts Try.prog 3 Try.f3 Rows.fnRunsAddSpec Rows.fnRunsAddRow = true := by
  unfold joinedFacts
  rw [enter_ok, lifts_ok, make_ok]
  kernel_rfl

theorem over : Rows.fnRunsAddRow.holds Try.pinned (OpenSpec.ofChange Rows.fnRunsAddSpec) :=
  OpenClaim.holds_of_wide 3 Try.f3 rfl rfl rfl rfl rfl rfl rfl ⟨rfl, rfl, rfl, rfl, rfl⟩ rfl rfl rfl rfl rfl (by kernel_rfl) Try.func3 closed
    (of_decide_eq_true (by kernel_rfl)) (by unfold Func.isWrapper; first | (rw [if_pos (by decide +kernel)]; kernel_rfl) | (rw [if_neg (by decide +kernel)]; exact ⟨rfl, rfl⟩))
    (fun os started H enc _ => lifted os started H enc)

theorem proved : Rows.FnRunsAddSaid :=
  over
#print axioms proved
end Go.Proofs.Ytmnoidgfcpbmgaa.fnRunsAdd
