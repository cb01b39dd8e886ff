import Derived.Test.YtmnoidgfcpbmgaaRunsU
import Derived.StillTailTactics
import Derived.Deep.RegionHeld3
import Derived.Deep.AppendLies
namespace Go.Proofs.Ytmnoidgfcpbmgaa
open Go.RowKit

/-- A further run can be laid among the runs. -/
def RAc (xs : List Rn) (r : Rn) : Prop := RValid xs ∧ RValid (addR xs r)
open Classical in
noncomputable def raL (xs : List Rn) (r : Rn) : List Rn := if RAc xs r then addR xs r else []
open Classical in
noncomputable def raB (xs : List Rn) (r : Rn) : Bool := decide (RAc xs r)
theorem raL_yes {xs : List Rn} {r : Rn} (h : RAc xs r) : raL xs r = addR xs r := if_pos h
theorem raL_no {xs : List Rn} {r : Rn} (h : ¬ RAc xs r) : raL xs r = [] := if_neg h
theorem raB_yes {xs : List Rn} {r : Rn} (h : RAc xs r) : raB xs r = true := by simp [raB, h]
theorem raB_no {xs : List Rn} {r : Rn} (h : ¬ RAc xs r) : raB xs r = false := by simp [raB, h]
theorem raL_len (xs : List Rn) (r : Rn) (hl : xs.length ≤ 1048576) : (raL xs r).length ≤ 1048576 := by
  by_cases h : RAc xs r
  · rw [raL_yes h]; have := h.2.1; omega
  · rw [raL_no h]; simp

theorem heldC {w : World} {g : Nat} {v0 v1 : Value} (hg : g < w.heap.size) (h : w.cell? ⟨g, 0, none⟩ = some v0 ∧ w.cell? ⟨g, 1, none⟩ = some v1) (o : Obj) : (w.alloc o).cell? ⟨g, 0, none⟩ = some v0 ∧ (w.alloc o).cell? ⟨g, 1, none⟩ = some v1 :=
  have B := (Below.refl w.heap.size w).alloc (Nat.le_refl _) o
  ⟨(B.cell (p := ⟨g, 0, none⟩) hg).trans h.1, (B.cell (p := ⟨g, 1, none⟩) hg).trans h.2⟩
/-- The three parts that impl.RunsAdd lays together. -/
theorem concat3 (A Z : Option Addr) (c cz : Nat) (ys zs : List Rn) (r : Rn) (wx : World) (hy : Cells wx A (fr ys)) (hz : Cells wx Z (fr zs)) (hA : A = none → ys.length = 0 ∧ c = 0) (hZ : Z = none → zs.length = 0 ∧ cz = 0) (hl : ys.length + zs.length ≤ 1048576) :
    Calls Try.prog 20 #[.slice (some ⟨wx.heap.size + 1, 0, none⟩) 3 3] ((wx.alloc (.cells #[.int .i64 r.s, .int .i64 r.e] 25)).alloc (.cells #[.slice A ys.length c, .slice (some ⟨wx.heap.size, 0, none⟩) 1 1, .slice Z zs.length cz] 23)).drew fun e w' => ∃ A' c', e = .returned (.slice A' (ys ++ r :: zs).length c') ∧ ROwn w' wx.heap.size A' c' (ys ++ r :: zs) ∧ Below wx.heap.size wx w' := by
  have B1 := (Below.refl wx.heap.size wx).alloc (Nat.le_refl _) (.cells #[.int .i64 r.s, .int .i64 r.e] 25)
  have B2 := B1.alloc (by simp) (.cells #[.slice A ys.length c, .slice (some ⟨wx.heap.size, 0, none⟩) 1 1, .slice Z zs.length cz] 23)
  have e : catR [⟨A, c, ys⟩, ⟨some ⟨wx.heap.size, 0, none⟩, 1, [r]⟩, ⟨Z, cz, zs⟩] = ys ++ r :: zs := by simp [catR]
  have hs : (wx.alloc (.cells #[.int .i64 r.s, .int .i64 r.e] 25)).heap.size = wx.heap.size + 1 := by simp
  have cell : ∀ k, ((wx.alloc (.cells #[.int .i64 r.s, .int .i64 r.e] 25)).alloc (.cells #[.slice A ys.length c, .slice (some ⟨wx.heap.size, 0, none⟩) 1 1, .slice Z zs.length cz] 23)).cell? ⟨wx.heap.size + 1, k, none⟩ = (#[.slice A ys.length c, .slice (some ⟨wx.heap.size, 0, none⟩) 1 1, .slice Z zs.length cz] : Array Value)[k]? := by
    intro k
    have := cell_new (wx.alloc (.cells #[.int .i64 r.s, .int .i64 r.e] 25)) #[.slice A ys.length c, .slice (some ⟨wx.heap.size, 0, none⟩) 1 1, .slice Z zs.length cz] 23 k
    rwa [hs] at this
  have hm : Cells ((wx.alloc (.cells #[.int .i64 r.s, .int .i64 r.e] 25)).alloc (.cells #[.slice A ys.length c, .slice (some ⟨wx.heap.size, 0, none⟩) 1 1, .slice Z zs.length cz] 23)) (some ⟨wx.heap.size, 0, none⟩) (fr [r]) := by
    refine Cells.alloc ?_ _
    refine .inr ⟨wx.heap.size, 0, rfl, by simp, fun j hj => ?_⟩
    have hj2 : j < 2 := by simpa [fr] using hj
    rw [Nat.zero_add, cell_new]
    match j, hj2 with
    | 0, _ => rfl
    | 1, _ => rfl
  have hp : PcAt ((wx.alloc (.cells #[.int .i64 r.s, .int .i64 r.e] 25)).alloc (.cells #[.slice A ys.length c, .slice (some ⟨wx.heap.size, 0, none⟩) 1 1, .slice Z zs.length cz] 23)) (wx.heap.size + 1) [⟨A, c, ys⟩, ⟨some ⟨wx.heap.size, 0, none⟩, 1, [r]⟩, ⟨Z, cz, zs⟩] := by
    refine ⟨by simp, fun j hj => ?_⟩
    have hj3 : j < 3 := by simpa using hj
    match j, hj3 with
    | 0, _ => exact ⟨cell 0, hA, hy.below B2⟩
    | 1, _ => exact ⟨cell 1, (fun g : some (⟨wx.heap.size, 0, none⟩ : Addr) = none => nomatch g), hm⟩
    | 2, _ => exact ⟨cell 2, hZ, hz.below B2⟩
  have K := concat_any (wx.heap.size + 1) 3 _ _ (hp.below (Below.refl _ _).drew) (by rw [e]; simp; omega) (by simp)
  rw [e] at K
  refine K.mono ?_
  rintro ed w' ⟨A', c', rfl, ow, x⟩
  exact ⟨A', c', rfl, ow.base (by simp; omega), (B2.drew).trans (x.mono B2.drew.size)⟩
theorem low_succ {xs : List Rn} {k : Nat} {s : Int} (h : ∀ j, j < k → rs xs j ≤ s) (hk : rs xs k ≤ s) : ∀ j, j < k + 1 → rs xs j ≤ s := by
  intro j hj
  rcases Nat.lt_or_ge j k with g | g
  · exact h j g
  · obtain rfl : j = k := by omega
    exact hk

set_option maxRecDepth 100000 in
set_option maxHeartbeats 1000000 in
theorem iRA_any (b c : Nat) (xs : List Rn) (r : Rn) (w : World) (h : Cells w (some ⟨b, 0, none⟩) (fr xs)) (hl : xs.length ≤ 1048576) (hc : xs.length ≤ c) (hc9 : c ≤ 9223372036854775807) :
    Calls Try.prog 6 #[.slice (some ⟨b, 0, none⟩) xs.length c, .agg #[.int .i64 r.s, .int .i64 r.e]] w (RPair (raL xs r) (raB xs r) w) := by
  by_cases hv : RValid xs
  · have HV := Lib.hid hv
    have h12 := hv.1
    clear hv
    go_enter Try.func6, Try.ntmps6
    go_wp2_with fail
    have B0 := Lib.hid ((Below.refl w.heap.size w).alloc (Nat.le_refl _) (.cells #[.int .i64 r.s, .int .i64 r.e] 25))
    refine (iRV_yes (h.alloc _) hl HV.out).mono ?_
    rintro e w1 ⟨rfl, b1⟩
    have k0 : w1.cell? ⟨w.heap.size, 0, none⟩ = some (.int .i64 r.s) := (b1.cell (p := ⟨w.heap.size, 0, none⟩) (by simp)).trans (cell_new _ _ _ 0)
    have k1 : w1.cell? ⟨w.heap.size, 1, none⟩ = some (.int .i64 r.e) := (b1.cell (p := ⟨w.heap.size, 1, none⟩) (by simp)).trans (cell_new _ _ _ 1)
    have h1 := (h.alloc (.cells #[.int .i64 r.s, .int .i64 r.e] 25)).below b1
    have B1 := Lib.hid (B0.out.trans (b1.mono (by simp)))
    have hw1 : w.heap.size < w1.heap.size := by have := b1.size; simp at this; omega
    clear b1 h B0
    go_wp2_with fail
    go_loopw [6] (fun i wr => ∃ k : Nat, k ≤ xs.length ∧ i = .int .i64 k ∧ (∀ j, j < k → rs xs j ≤ r.s) ∧ Below w1.heap.size w1 wr) (fun i _ => xs.length - (intOf i).toNat)
    case atStart => exact ⟨0, Nat.zero_le _, rfl, fun j hj => by omega, Below.refl _ _⟩
    case round =>
      obtain ⟨k, hk, rfl, hlow, hbel⟩ := hrel
      have k0' := (hbel.cell (p := ⟨w.heap.size, 0, none⟩) hw1).trans k0
      have k1' := (hbel.cell (p := ⟨w.heap.size, 1, none⟩) hw1).trans k1
      have HW := Lib.hid hlow
      clear hlow
      have hcont : (k < xs.length ∧ rs xs k ≤ r.s) ∨ (k < xs.length ∧ r.s < rs xs k) ∨ k = xs.length := by omega
      rcases hcont with ⟨q1, q2⟩ | hex
      · obtain ⟨b', o', hA, hb, c0, -⟩ := h1.at2 q1
        injection hA with hA
        injection hA with hA1 hA2
        subst hA1
        subst hA2
        have c0' := (hbel.cell (p := ⟨b, 0 + k * 2, none⟩) hb).trans c0
        have i1 : (k : Int) < (xs.length : Int) := by omega
        have d1 : decide ((k : Int) < (xs.length : Int)) = true := by simp; omega
        have d2 : decide (rs xs k ≤ r.s) = true := by simp; omega
        have e5 : IntKind.i64.wrap ((k : Int) + 1) = ((k + 1 : Nat) : Int) := by rw [show (k : Int) + 1 = ((k + 1 : Nat) : Int) by omega]; exact IntWalk.i64_in _ (by omega)
        rw [Nat.zero_add] at c0'
        clear c0
        go_wp2_with fail
        go_quiet (fail)
        go_wp2_with fail
        exact ⟨⟨k + 1, by omega, by go_num, low_succ HW.out q2, below_drewN' hbel _⟩, by simp [intOf]; omega⟩
      · have ek : k = addAt xs r.s := addAt_eq xs r.s k hk HW.out (fun g => by rcases hex with ⟨_, q⟩ | q; exact q; omega)
        have EK := Lib.hid ek
        clear ek
        have HC := Lib.hid (h1.below hbel)
        have HB := Lib.hid (B1.out.trans (hbel.mono B1.out.size))
        have hsz : w.heap.size < wr.heap.size := Nat.lt_of_lt_of_le hw1 hbel.size
        have FW := Lib.hid (show ∀ m, Below w.heap.size w (wr.drewN m) ∧ Cells (wr.drewN m) (some ⟨b, 0, none⟩) (fr xs) ∧ (wr.drewN m).cell? ⟨w.heap.size, 0, none⟩ = some (.int .i64 r.s) ∧ (wr.drewN m).cell? ⟨w.heap.size, 1, none⟩ = some (.int .i64 r.e) ∧ w.heap.size < (wr.drewN m).heap.size from fun m => ⟨below_drewN' HB.out _, HC.out.drewN _, k0', k1', hsz⟩)
        rcases hex with ⟨q1, q2⟩ | q1
        focus
          obtain ⟨b', o', hA, hb, c0, -⟩ := HC.out.at2 q1
          injection hA with hA
          injection hA with hA1 hA2
          subst hA1
          subst hA2
          rw [Nat.zero_add] at c0
          have i1 : (k : Int) < (xs.length : Int) := by omega
          have d1 : decide ((k : Int) < (xs.length : Int)) = true := by simp; omega
          have d2 : decide (rs xs k ≤ r.s) = false := by simp; omega
          clear h1 hbel k0 k1 HW
          go_wp2_with fail
          go_quiet (fail)
          go_wp2_with fail
          clear hb c0 i1 d1 d2 q1 q2
          try clear k0' k1'
        rotate_left
        focus
          have d1 : decide ((k : Int) < (xs.length : Int)) = false := by simp; omega
          have d2 : decide (k < xs.length) = false := by simp; omega
          clear h1 hbel k0 k1 HW
          go_wp2_with fail
          go_quiet (fail)
          go_wp2_with fail
          clear d1 d2 q1
          try clear k0' k1'
        all_goals
          generalize hx : wr.drewN _ = wx
          obtain ⟨m, hx⟩ : ∃ m, wr.drewN m = wx := ⟨_, hx⟩
          have FX := FW.out m
          rw [hx] at FX
          obtain ⟨bx, cx, x0, x1, sx⟩ := FX
          clear hx m
          obtain ⟨ys, hy⟩ : ∃ ys, ys = xs.take k := ⟨_, rfl⟩
          obtain ⟨zs, hz⟩ : ∃ zs, zs = xs.drop k := ⟨_, rfl⟩
          have hyl : k = ys.length := by rw [hy, List.length_take]; omega
          have hzl : xs.length - k = zs.length := by rw [hz, List.length_drop]
          have CY := Lib.hid (show Cells wx (some ⟨b, 0, none⟩) (fr ys) by rw [hy]; exact cx.takeR _)
          have CZ := Lib.hid (show Cells wx (if c = k then some ⟨b, 0, none⟩ else some ⟨b, k * 2, none⟩) (fr zs) by
            by_cases g : c = k
            · have : zs = [] := List.eq_nil_of_length_eq_zero (by omega)
              rw [this]; exact Cells.nil
            · rw [if_neg g, hz]; have := cx.dropR k; rwa [Nat.zero_add] at this)
          have CZN := Lib.hid (show ¬ (if c = k then some (⟨b, 0, none⟩ : Addr) else some ⟨b, k * 2, none⟩) = none by split <;> simp)
          obtain ⟨ts, hts⟩ : ∃ ts, ts = addR xs r := ⟨_, rfl⟩
          have HA := Lib.hid (show ts = ys ++ (r :: zs) by rw [hts]; unfold addR; rw [← EK.out, ← hy, ← hz])
          have HTS := Lib.hid hts
          have la : ts.length ≤ 1048576 := by rw [hts, addR_len]; omega
          clear hts
          have BX := Lib.hid bx
          clear hy hz EK HB HC FW bx cx
          subst hyl
          have l3 : ys.length + zs.length = xs.length := by omega
          have j1 : (ys.length : Int) ≤ (xs.length : Int) := by omega
          have j2 : ys.length ≤ c := by omega
          have j5 : (xs.length : Int) ≤ (c : Int) := by omega
          have j6 : (ys.length : Int) ≤ (c : Int) := by omega
          go_wp2_with fail
          have X := Lib.hid (And.intro x0 x1)
          clear x0 x1
          go_region_held3 (fun W => W.cell? ⟨w.heap.size, 0, none⟩ = some (.int .i64 r.s) ∧ W.cell? ⟨w.heap.size, 1, none⟩ = some (.int .i64 r.e)) (first | exact X1.out | exact X.out | exact heldC sx X.out _ | exact heldC (by simp; omega) (heldC sx X.out _) _) (first
            | (go_at_call 20; refine (concat3 _ _ _ _ ys zs r wx CY.out CZ.out (fun g => nomatch g) (fun g => absurd g CZN.out) (by omega)).mono ?_; rintro e v1 ⟨A', c', rfl, ow, x1⟩; rw [← HA.out]; rw [← HA.out] at ow; generalize (if c = ys.length then some (⟨b, 0, none⟩ : Addr) else some ⟨b, ys.length * 2, none⟩) = Zad; have R := Lib.hid (And.intro (ow.base (B' := w.heap.size) (Nat.le_of_lt sx)) (BX.out.trans (x1.mono BX.out.size))); have X1 := Lib.hid (And.intro ((x1.cell (p := ⟨w.heap.size, 0, none⟩) sx).trans X.out.1) ((x1.cell (p := ⟨w.heap.size, 1, none⟩) sx).trans X.out.2)); clear ow x1))
          go_wp2_with fail
          by_cases hv2 : RValid ts
          · have HV2 := Lib.hid hv2
            clear hv2
            refine (iRV_yes R.out.1.cells la HV2.out).mono ?_
            rintro e w2 ⟨rfl, b2⟩
            have R2 := Lib.hid (And.intro (R.out.1.below b2) (R.out.2.trans (b2.mono R.out.2.size)))
            have Y := Lib.hid (show RAc xs r from ⟨HV.out, HTS.out ▸ HV2.out⟩)
            clear b2
            go_wp2_with fail
            go_ret2
            exact ⟨A', c', pair_ret (by rw [raL_yes Y.out, ← HTS.out]) (by simp [raB_yes Y.out]), by rw [raL_yes Y.out, ← HTS.out]; exact R2.out.1, R2.out.2⟩
          · have HV2 := Lib.hid hv2
            clear hv2
            refine (iRV_no R.out.1.cells la HV2.out).mono ?_
            rintro e w2 ⟨rfl, b2⟩
            have R2 := Lib.hid (R.out.2.trans (b2.mono R.out.2.size))
            have N := Lib.hid (show ¬ RAc xs r from fun g => HV2.out (HTS.out ▸ g.2))
            clear b2
            go_wp2_with fail
            go_ret2
            exact ⟨_, _, pair_ret (by simp [raL_no N.out]) (by simp [raB_no N.out]), by rw [raL_no N.out]; exact ROwn.empty w2 _ R2.out.size, R2.out.alloc R2.out.size _⟩
  · have N := Lib.hid (show ¬ RAc xs r from fun g => hv g.1)
    have HV := Lib.hid hv
    clear hv
    go_enter Try.func6, Try.ntmps6
    go_wp2_with fail
    have B0 := Lib.hid ((Below.refl w.heap.size w).alloc (Nat.le_refl _) (.cells #[.int .i64 r.s, .int .i64 r.e] 25))
    refine (iRV_no (h.alloc _) hl HV.out).mono ?_
    rintro e w1 ⟨rfl, b1⟩
    have B1 := Lib.hid (B0.out.trans (b1.mono (by simp)))
    clear b1 h B0
    go_wp2_with fail
    go_ret2
    exact ⟨_, _, pair_ret (by simp [raL_no N.out]) (by simp [raB_no N.out]), by rw [raL_no N.out]; exact ROwn.empty w1 _ B1.out.size, B1.out.alloc B1.out.size _⟩
end Go.Proofs.Ytmnoidgfcpbmgaa
