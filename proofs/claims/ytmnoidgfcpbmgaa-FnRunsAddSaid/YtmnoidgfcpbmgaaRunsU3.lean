import Derived.Test.YtmnoidgfcpbmgaaRunsU2
namespace Go.Proofs.Ytmnoidgfcpbmgaa
open Go.RowKit

theorem hold {p : Prop} (h : Hid p) : p := h.out
set_option maxRecDepth 100000 in
set_option maxHeartbeats 4000000 in
theorem sRA_any (b c : Nat) (xs : List Rn) (r : Rn) (w : World) (h : Cells w (some ⟨b, 0, none⟩) (fr xs)) (hl : xs.length ≤ 1048576) (hc : xs.length ≤ c) (hc9 : c ≤ 9223372036854775807) :
    Calls Try.prog 7 #[.slice (some ⟨b, 0, none⟩) xs.length c, .agg #[.int .i64 r.s, .int .i64 r.e]] w (RPair (raL xs r) (raB xs r) w) := by
  obtain ⟨i0, hi0, hz0, hz1, hz2⟩ := info_parts run_info
  go_enter Try.func7, Try.ntmps7
  go_wp2_with fail
  obtain ⟨w1, hw1e⟩ : ∃ w1, w1 = w.alloc (.cells #[.int .i64 r.s, .int .i64 r.e] 25) := ⟨_, rfl⟩
  have B1 := Lib.hid (show Below w.heap.size w w1 by rw [hw1e]; exact (Below.refl w.heap.size w).alloc (Nat.le_refl _) _)
  have k0 : w1.cell? ⟨w.heap.size, 0, none⟩ = some (.int .i64 r.s) := by rw [hw1e]; exact cell_new _ _ _ 0
  have k1 : w1.cell? ⟨w.heap.size, 1, none⟩ = some (.int .i64 r.e) := by rw [hw1e]; exact cell_new _ _ _ 1
  have h1 : Cells w1 (some ⟨b, 0, none⟩) (fr xs) := by rw [hw1e]; exact h.alloc _
  have hw1 : w.heap.size < w1.heap.size := by rw [hw1e]; simp
  rw [← hw1e]
  clear hw1e h
  go_loopw [6] (fun i wr => ∃ k : Nat, k ≤ xs.length ∧ i = .int .i64 k ∧ (∀ j, j < k → rs xs j ≤ r.s) ∧ Below w1.heap.size w1 wr) (fun i _ => xs.length - (intOf i).toNat)
  case atStart => exact ⟨0, Nat.zero_le _, rfl, fun j hj => by omega, Below.refl _ _⟩
  case round =>
    obtain ⟨k, hk, rfl, hlow, hbel⟩ := hrel
    have k0' := (hbel.cell (p := ⟨w.heap.size, 0, none⟩) hw1).trans k0
    have k1' := (hbel.cell (p := ⟨w.heap.size, 1, none⟩) hw1).trans k1
    have HW := Lib.hid hlow
    clear hlow
    have hcont : (k < xs.length ∧ rs xs k ≤ r.s) ∨ (k < xs.length ∧ r.s < rs xs k) ∨ k = xs.length := by omega
    rcases hcont with ⟨q1, q2⟩ | hex
    · obtain ⟨b', o', hA, hb, c0, -⟩ := h1.at2 q1
      injection hA with hA
      injection hA with hA1 hA2
      subst hA1
      subst hA2
      have c0' := (hbel.cell (p := ⟨b, 0 + k * 2, none⟩) hb).trans c0
      have i1 : (k : Int) < (xs.length : Int) := by omega
      have d1 : decide ((k : Int) < (xs.length : Int)) = true := by simp; omega
      have d2 : decide (rs xs k ≤ r.s) = true := by simp; omega
      have e5 : IntKind.i64.wrap ((k : Int) + 1) = ((k + 1 : Nat) : Int) := by rw [show (k : Int) + 1 = ((k + 1 : Nat) : Int) by omega]; exact IntWalk.i64_in _ (by omega)
      rw [Nat.zero_add] at c0'
      clear c0
      go_wp2_with fail
      go_quiet (fail)
      go_wp2_with fail
      exact ⟨⟨k + 1, by omega, by go_num, low_succ HW.out q2, below_drewN' hbel _⟩, by simp [intOf]; omega⟩
    · have ek : k = addAt xs r.s := addAt_eq xs r.s k hk HW.out (fun g => by rcases hex with ⟨_, q⟩ | q; exact q; omega)
      have EK := Lib.hid ek
      clear ek
      have HC := Lib.hid (h1.below hbel)
      have HB := Lib.hid (B1.out.trans (hbel.mono B1.out.size))
      have hsz : w.heap.size < wr.heap.size := Nat.lt_of_lt_of_le hw1 hbel.size
      have FW := Lib.hid (show ∀ m, Below w.heap.size w (wr.drewN m) ∧ Cells (wr.drewN m) (some ⟨b, 0, none⟩) (fr xs) ∧ (wr.drewN m).cell? ⟨w.heap.size, 0, none⟩ = some (.int .i64 r.s) ∧ (wr.drewN m).cell? ⟨w.heap.size, 1, none⟩ = some (.int .i64 r.e) ∧ w.heap.size < (wr.drewN m).heap.size from fun m => ⟨below_drewN' HB.out _, HC.out.drewN _, k0', k1', hsz⟩)
      rcases hex with ⟨q1, q2⟩ | q1
      focus
        obtain ⟨b', o', hA, hb, c0, -⟩ := HC.out.at2 q1
        injection hA with hA
        injection hA with hA1 hA2
        subst hA1
        subst hA2
        rw [Nat.zero_add] at c0
        have i1 : (k : Int) < (xs.length : Int) := by omega
        have d1 : decide ((k : Int) < (xs.length : Int)) = true := by simp; omega
        have d2 : decide (rs xs k ≤ r.s) = false := by simp; omega
        clear h1 hbel k0 k1 HW
        go_wp2_with fail
        go_quiet (fail)
        clear hb c0 i1 d1 d2 q1 q2
        try clear k0' k1'
      rotate_left
      focus
        have d1 : decide ((k : Int) < (xs.length : Int)) = false := by simp; omega
        have d2 : decide (k < xs.length) = false := by simp; omega
        clear h1 hbel k0 k1 HW
        go_wp2_with fail
        go_quiet (fail)
        clear d1 d2 q1
        try clear k0' k1'
      all_goals
        generalize hx : wr.drewN _ = wx
        obtain ⟨m, hx⟩ : ∃ m, wr.drewN m = wx := ⟨_, hx⟩
        have FX := FW.out m
        rw [hx] at FX
        obtain ⟨bx, cx, x0, x1, sx⟩ := FX
        clear hx m
        obtain ⟨ys, hy⟩ : ∃ ys, ys = xs.take k := ⟨_, rfl⟩
        obtain ⟨zs, hz⟩ : ∃ zs, zs = xs.drop k := ⟨_, rfl⟩
        have hyl : k = ys.length := by rw [hy, List.length_take]; omega
        have hzl : xs.length - k = zs.length := by rw [hz, List.length_drop]
        have CX := Lib.hid cx
        have CY := Lib.hid (show Cells wx (some ⟨b, 0, none⟩) (fr ys) by rw [hy]; exact cx.takeR _)
        have CZ := Lib.hid (show Cells wx (if c = k then some ⟨b, 0, none⟩ else some ⟨b, k * 2, none⟩) (fr zs) by
          by_cases g : c = k
          · have : zs = [] := List.eq_nil_of_length_eq_zero (by omega)
            rw [this]; exact Cells.nil
          · rw [if_neg g, hz]; have := cx.dropR k; rwa [Nat.zero_add] at this)
        have CZN := Lib.hid (show ¬ (if c = k then some (⟨b, 0, none⟩ : Addr) else some ⟨b, k * 2, none⟩) = none by split <;> simp)
        obtain ⟨ts, hts⟩ : ∃ ts, ts = addR xs r := ⟨_, rfl⟩
        have HA := Lib.hid (show ts = ys ++ (r :: zs) by rw [hts]; unfold addR; rw [← EK.out, ← hy, ← hz])
        have HTS := Lib.hid hts
        have la : ts.length ≤ 1048577 := by rw [hts, addR_len]; omega
        have LT := Lib.hid (show ts.length = ys.length + 1 + zs.length by rw [HA.out]; simp; omega)
        have BX := Lib.hid bx
        clear hts
        clear hy hz EK HB HC FW bx cx
        subst hyl
        have l3 : ys.length + zs.length = xs.length := by omega
        have j1 : (ys.length : Int) ≤ (xs.length : Int) := by omega
        have j2 : ys.length ≤ c := by omega
        have j5 : (xs.length : Int) ≤ (c : Int) := by omega
        have j6 : (ys.length : Int) ≤ (c : Int) := by omega
        have O0 := Lib.hid (ROwn.empty wx wx.heap.size (Nat.le_refl _))
        have Q0 := Lib.hid ((Below.refl wx.heap.size wx).alloc (Nat.le_refl _) (.cells #[] 25))
        have X := Lib.hid (And.intro x0 x1)
        have NY := Lib.hid ((CY.out.alloc (.cells #[] 25)).news)
        clear x0 x1
        go_wp2_with (at_builtin; first
          | (refine wpList_append_any rfl _ _ 23 rfl wx.heap.size 25 i0 _ 2 16 Try.underlying23 hi0 hz0 hz1 hz2 rfl (by decide) _ 0 _ rfl O0.out (some ⟨b, 0, none⟩) ys.length c ((fr ys).map (Value.int .i64)) rfl (fun g => nomatch g) (by rw [List.length_map, fr_len]) NY.out (ints_oneCell _ _) (by unfold maxLen; omega) (by omega) (by simp) ?_; intro v1 w2 o2 g2; rw [Nat.zero_add] at o2; have Q2 := Lib.hid (Q0.out.grown g2 (by simp) (fun q hq => (O0.out.lt q hq).1)); have O2 := Lib.hid o2; have y0 := (Q2.out.cell (p := ⟨w.heap.size, 0, none⟩) sx).trans X.out.1; have y1 := (Q2.out.cell (p := ⟨w.heap.size, 1, none⟩) sx).trans X.out.2; clear o2 g2)
          | (refine wpList_append_own _ rfl _ _ 23 rfl wx.heap.size 25 i0 _ 2 16 Try.underlying23 hi0 hz0 hz1 hz2 rfl (by decide) _ _ _ rfl (O2.out.alloc _) ⟨w2.heap.size, 0, none⟩ 1 1 [.int .i64 r.s, .int .i64 r.e] rfl rfl (cells2_new _ _ _ _) (one2 _ _) (by unfold maxLen; omega) (by omega) (by have := Q2.out.size; simp; omega) ?_; intro v2 w3 o3 g3 _; have Q3 := Lib.hid ((Q2.out.alloc Q2.out.size _).grown g3 (by have := Q2.out.size; simp; omega) (fun q hq => (O2.out.lt q hq).1)); have O3 := Lib.hid o3; have NZ := Lib.hid ((CZ.out.below Q3.out).news); clear o3 g3)
          | (have hh := O3.out; clear hh; refine hold ?_))
        all_goals refine Lib.hid ?_
        all_goals
          first
            | refine wpList_append_any rfl _ _ 23 rfl wx.heap.size 25 i0 _ 2 16 Try.underlying23 hi0 hz0 hz1 hz2 rfl (by decide) _ (ys.length + 1) _ rfl O3.out (some ⟨b, 0, none⟩) zs.length 0 ((fr zs).map (Value.int .i64)) rfl (fun g => by cases g) (by rw [List.length_map, fr_len]) (by have hz := NZ.out; rw [if_pos (by assumption)] at hz; exact hz) (ints_oneCell _ _) (by unfold maxLen; omega) (by omega) Q3.out.size ?_
            | refine wpList_append_any rfl _ _ 23 rfl wx.heap.size 25 i0 _ 2 16 Try.underlying23 hi0 hz0 hz1 hz2 rfl (by decide) _ (ys.length + 1) _ rfl O3.out (some ⟨b, ys.length * 2, none⟩) zs.length (c - ys.length) ((fr zs).map (Value.int .i64)) rfl (fun g => by cases g) (by rw [List.length_map, fr_len]) (by have hz := NZ.out; rw [if_neg (by assumption)] at hz; exact hz) (ints_oneCell _ _) (by unfold maxLen; omega) (by omega) Q3.out.size ?_
          intro v3 w4 o4 g4
          have Q4 := Lib.hid (Q3.out.grown g4 Q3.out.size (fun q hq => (O3.out.lt q hq).1))
          rw [← LT.out] at o4
          obtain ⟨A', c', e3⟩ := own_formI o4
          subst e3
          have O4 := Lib.hid (show ROwn w4 wx.heap.size A' c' ts by
            have e : (fr ts).map (Value.int .i64) = (fr []).map (Value.int .i64) ++ (fr ys).map (Value.int .i64) ++ [.int .i64 r.s, .int .i64 r.e] ++ (fr zs).map (Value.int .i64) := by
              rw [HA.out, fr_append, fr_cons]; simp [fr]
            unfold ROwn
            rw [e]
            exact o4)
          have HX4 := Lib.hid (CX.out.below Q4.out)
          clear o4 g4
          go_wp2_with fail
          by_cases hv : RValid xs
          · have HV := Lib.hid hv
            clear hv
            refine (sRV_yes HX4.out hl HV.out).mono ?_
            rintro e w5 ⟨rfl, b5⟩
            have O5 := Lib.hid (O4.out.below b5)
            have Q5 := Lib.hid (Q4.out.trans (b5.mono Q4.out.size))
            have B5 := Lib.hid (BX.out.trans (Q5.out.mono (Nat.le_of_lt sx)))
            clear b5
            go_wp2_with fail
            by_cases hv2 : RValid ts
            · have HV2 := Lib.hid hv2
              clear hv2
              refine (sRV_any _ _ ts _ O5.out.cells (by have := HV2.out.1; omega)).mono ?_
              rintro e w6 ⟨rfl, b6⟩
              rw [rvB_yes HV2.out]
              have R2 := Lib.hid (And.intro (O5.out.below b6) (B5.out.trans (b6.mono B5.out.size)))
              have Y := Lib.hid (show RAc xs r from ⟨HV.out, HTS.out ▸ HV2.out⟩)
              clear b6
              go_wp2_with fail
              go_ret2
              exact ⟨A', c', pair_ret (by rw [raL_yes Y.out, ← HTS.out]) (by simp [raB_yes Y.out]), by rw [raL_yes Y.out, ← HTS.out]; exact R2.out.1.base (Nat.le_of_lt sx), R2.out.2⟩
            · have HV2 := Lib.hid hv2
              clear hv2
              refine (sRV_any _ _ ts _ O5.out.cells (by have := HV.out.1; have := LT.out; omega)).mono ?_
              rintro e w6 ⟨rfl, b6⟩
              rw [rvB_no HV2.out]
              have R2 := Lib.hid (B5.out.trans (b6.mono B5.out.size))
              have N := Lib.hid (show ¬ RAc xs r from fun g => HV2.out (HTS.out ▸ g.2))
              clear b6
              go_wp2_with fail
              go_ret2
              exact ⟨_, _, pair_ret (by simp [raL_no N.out]) (by simp [raB_no N.out]), by rw [raL_no N.out]; exact ROwn.empty w6 _ R2.out.size, R2.out.alloc R2.out.size _⟩
          · have HV := Lib.hid hv
            clear hv
            refine (sRV_no HX4.out hl HV.out).mono ?_
            rintro e w5 ⟨rfl, b5⟩
            have R2 := Lib.hid (BX.out.trans ((Q4.out.trans (b5.mono Q4.out.size)).mono (Nat.le_of_lt sx)))
            have N := Lib.hid (show ¬ RAc xs r from fun g => HV.out g.1)
            clear b5
            go_wp2_with fail
            go_ret2
            exact ⟨_, _, pair_ret (by simp [raL_no N.out]) (by simp [raB_no N.out]), by rw [raL_no N.out]; exact ROwn.empty w5 _ R2.out.size, R2.out.alloc R2.out.size _⟩
end Go.Proofs.Ytmnoidgfcpbmgaa
