import Derived.Test.YtgimheekaceifaaRunsH
import Derived.Test.YtgimheekaceifaaRunsN
import Derived.Test.YtgimheekaceifaaRunsM
import Derived.StillTailTactics
namespace Go.Proofs.Ytgimheekaceifaa
open Go.RowKit

theorem made12 : (madeCells (Value.int .i64 0).cells (12 * 1)).toList = (List.replicate 12 (0 : Int)).map (Value.int .i64) := by kernel_rfl

open Classical in
/-- What RosterMinutes returns. -/
noncomputable def mrL (xs : List Rn) (rest : Int) (ro : List Int) : List Int := if RoValid xs rest ro then mnL xs ro xs.length else []
theorem mrL_yes {xs : List Rn} {rest : Int} {ro : List Int} (h : RoValid xs rest ro) : mrL xs rest ro = mnL xs ro xs.length := if_pos h
theorem mrL_no {xs : List Rn} {rest : Int} {ro : List Int} (h : ¬ RoValid xs rest ro) : mrL xs rest ro = [] := if_neg h
theorem mrL_len (xs : List Rn) (rest : Int) (ro : List Int) : (mrL xs rest ro).length ≤ 1048576 := by
  by_cases h : RoValid xs rest ro
  · rw [mrL_yes h, mnL_len]; omega
  · rw [mrL_no h]; simp

/-- The row of the twelve teams' minutes. -/
def Mins (w : World) (B g : Nat) (xs : List Rn) (ro : List Int) (k : Nat) : Prop := w.ownsRow B 3 1 (.slice (some ⟨g, 0, none⟩) 12 12) 12 ((mnL xs ro k).map (Value.int .i64))
theorem Mins.cell {w : World} {B g : Nat} {xs : List Rn} {ro : List Int} {k : Nat} (h : Mins w B g xs ro k) {t : Nat} (ht : t < 12) : w.cell? ⟨g, t, none⟩ = some (.int .i64 (mnTo xs ro (t : Int) k)) ∧ w.frozen? ⟨g, t, none⟩ = false := by
  refine ⟨?_, h.frozenAt t⟩
  rw [h.cellAt t (by omega), ← mnL_at xs ro k ht, List.getElem?_map, List.getD_eq_getElem?_getD, List.getElem?_eq_getElem (by rw [mnL_len]; exact ht)]
  rfl
theorem Mins.step {w : World} {B g : Nat} {xs : List Rn} {ro : List Int} {k : Nat} (h : Mins w B g xs ro k) {t : Nat} (ht : t < 12) (hk : ri ro k = (t : Int)) {v : Int} (hv : v = mnTo xs ro (t : Int) k + (re xs k - rs xs k)) : Mins (w.setCell ⟨g, t, none⟩ (.int .i64 v)) B g xs ro (k + 1) := by
  subst hv
  have := (h.stored t (.int .i64 (mnTo xs ro (t : Int) k + (re xs k - rs xs k)))).1
  unfold Mins
  rw [mnL_succ xs ro k ht hk, List.map_set]
  exact this

set_option maxRecDepth 100000 in
set_option maxHeartbeats 1000000 in
theorem sMin_any (A R : Option Addr) (c rc : Nat) (xs : List Rn) (rest : Int) (ro : List Int) (w : World) (h : Cells w A (fr xs)) (hr : Cells w R ro) (hl : xs.length ≤ 1048576) (hrl : ro.length ≤ 1048576) :
    Calls Try.prog 50 #[.slice A xs.length c, .int .i64 rest, .slice R ro.length rc] w (IPair (mrL xs rest ro) (roB xs rest ro) w) := by
  obtain ⟨i0, hi0, hz0, hz1, hz2⟩ := info_parts int_info
  by_cases hv : RoValid xs rest ro
  · have HV := Lib.hid hv
    have HLL := Lib.hid hv.2.1
    have h12 := hv.1.1.1
    clear hv
    go_enter Try.func50, Try.ntmps50
    go_wp2_with fail
    refine (sRoV_yes h hr hl hrl HV.out).mono ?_
    rintro e w1 ⟨rfl, b1⟩
    have s1 := h.below b1
    have t1 := hr.below b1
    have B1 := Lib.hid b1
    clear h hr b1
    have hs1 := B1.out.size
    go_wp2_with (at_make; refine wpList_make_full _ rfl _ _ 44 rfl w.heap.size 3 i0 _ 1 Try.underlying44 hi0 hz0 hz1 .i64 .i64 _ _ 12 rfl rfl rfl rfl (by rw [hz2]; omega) (by unfold maxLen; omega) hs1 ?_; intro w2 hown2 hg2; have O2 := Lib.hid (show Mins w2 w.heap.size w1.heap.size xs ro 0 by unfold Mins; rw [mnL_zero, ← made12]; exact hown2); have B2 := Lib.hid ((Below.refl w1.heap.size w1).grown hg2 (Nat.le_refl _) (fun k hk => by cases hk)); clear hown2 hg2)
    go_loopw [9] (fun i wr => ∃ k : Nat, k ≤ xs.length ∧ i = .int .i64 k ∧ Mins wr w.heap.size w1.heap.size xs ro k ∧ Below w1.heap.size w1 wr) (fun i _ => xs.length - (intOf i).toNat)
    case atStart => exact ⟨0, Nat.zero_le _, rfl, O2.out, B2.out⟩
    case round =>
      obtain ⟨k, hk, rfl, hm, hbel⟩ := hrel
      have HM := Lib.hid hm
      clear hm
      by_cases hlt : k < xs.length
      · obtain ⟨b, o, hA, hb, c0, c1⟩ := s1.at2 hlt
        obtain ⟨g, q, hR, hg, z0⟩ := t1.at1 (i := k) (by have := HLL.out; omega)
        have d0 := (hbel.cell (p := ⟨b, o + k * 2, none⟩) hb).trans c0
        have d1 := (hbel.cell (p := ⟨b, o + k * 2 + 1, none⟩) hb).trans c1
        have d2 := (hbel.cell (p := ⟨g, q + k, none⟩) hg).trans z0
        obtain ⟨u0, u1, u2⟩ := HV.out.1.1.times hlt
        obtain ⟨r0, r1, -⟩ := HV.out.2.2 k hlt
        obtain ⟨t, ht⟩ := Int.eq_ofNat_of_zero_le r0
        have HT := Lib.hid ht
        rw [ht] at d2 r1
        have t12 : t < 12 := by omega
        have ti : (t : Int) < 12 := by omega
        obtain ⟨m1, m2⟩ := HM.out.cell t12
        obtain ⟨n1, n2⟩ := mnTo_bounds (ro := ro) (t := (t : Int)) HV.out.1.1 k hk
        obtain ⟨v, hv⟩ : ∃ v, v = mnTo xs ro (t : Int) k := ⟨_, rfl⟩
        rw [← hv] at m1 n1 n2
        have HVV := Lib.hid hv
        have i1 : (k : Int) < (ro.length : Int) := by have := HLL.out; omega
        have i2 : (k : Int) < (xs.length : Int) := by omega
        have HB := Lib.hid hbel
        subst hA hR
        have e5 : IntKind.i64.wrap (v + re xs k) = v + re xs k := IntWalk.i64_in _ (by omega)
        have e6 : IntKind.i64.wrap (v + re xs k - rs xs k) = v + re xs k - rs xs k := IntWalk.i64_in _ (by omega)
        clear c0 c1 z0 ht hv hbel
        go_wp2_with fail
        go_still_tail 25, (by kernel_rfl)
        change wpList _ _ _ _ _ wr.drew
        have M2 : Mins wr.drew w.heap.size w1.heap.size xs ro k := HM.out
        have bel2 := HB.out.drew
        clear m1 m2 d0 d1 d2 e5 e6 HM HB
        generalize wr.drew = w2 at M2 bel2 ⊢
        obtain ⟨m1, m2⟩ := M2.cell t12
        rw [← HVV.out] at m1
        have HM := Lib.hid M2
        have HB := Lib.hid bel2
        clear M2 bel2
        go_wp2_with fail
        exact ⟨⟨k + 1, by omega, by go_num, HM.out.step t12 HT.out (by rw [← HVV.out]; omega), HB.out.setCell (by exact Nat.le_refl _) _⟩, by simp [intOf]; omega⟩
      · obtain rfl : k = xs.length := by omega
        go_wp2_with fail
        go_ret2
        exact ⟨_, _, pair_ret (by rw [mrL_yes HV.out, mnL_len]) (by simp [roB_yes HV.out]), by rw [mrL_yes HV.out]; unfold IOwn; rw [mnL_len]; exact HM.out, B1.out.trans (hbel.mono hs1)⟩
  · have HV := Lib.hid hv
    clear hv
    go_enter Try.func50, Try.ntmps50
    go_wp2_with fail
    refine (sRoV_no h hr hl hrl HV.out).mono ?_
    rintro e w1 ⟨rfl, b1⟩
    go_wp2_with fail
    go_ret2
    exact ⟨_, _, pair_ret (by simp [mrL_no HV.out]) (by simp [roB_no HV.out]), by rw [mrL_no HV.out]; exact IOwn.empty w1 _ b1.size, b1.alloc b1.size _⟩
set_option maxRecDepth 100000 in
set_option maxHeartbeats 1000000 in
theorem iMin_any (A R : Option Addr) (c rc : Nat) (xs : List Rn) (rest : Int) (ro : List Int) (w : World) (h : Cells w A (fr xs)) (hr : Cells w R ro) (hl : xs.length ≤ 1048576) (hrl : ro.length ≤ 1048576) :
    Calls Try.prog 51 #[.slice A xs.length c, .int .i64 rest, .slice R ro.length rc] w (IPair (mrL xs rest ro) (roB xs rest ro) w) := by
  obtain ⟨i0, hi0, hz0, hz1, hz2⟩ := info_parts int_info
  by_cases hv : RoValid xs rest ro
  · have HV := Lib.hid hv
    have HLL := Lib.hid hv.2.1
    have h12 := hv.1.1.1
    clear hv
    go_enter Try.func51, Try.ntmps51
    go_wp2_with fail
    refine (iRoV_yes h hr hl hrl HV.out).mono ?_
    rintro e w1 ⟨rfl, b1⟩
    have s1 := h.below b1
    have t1 := hr.below b1
    have B1 := Lib.hid b1
    clear h hr b1
    have hs1 := B1.out.size
    go_wp2_with (at_make; refine wpList_make_full _ rfl _ _ 44 rfl w.heap.size 3 i0 _ 1 Try.underlying44 hi0 hz0 hz1 .i64 .i64 _ _ 12 rfl rfl rfl rfl (by rw [hz2]; omega) (by unfold maxLen; omega) hs1 ?_; intro w2 hown2 hg2; have O2 := Lib.hid (show Mins w2 w.heap.size w1.heap.size xs ro 0 by unfold Mins; rw [mnL_zero, ← made12]; exact hown2); have B2 := Lib.hid ((Below.refl w1.heap.size w1).grown hg2 (Nat.le_refl _) (fun k hk => by cases hk)); clear hown2 hg2)
    go_loopw [20] (fun i wr => ∃ k : Nat, k ≤ ro.length ∧ i = .int .i64 k ∧ Mins wr w.heap.size w1.heap.size xs ro k ∧ Below w1.heap.size w1 wr) (fun i _ => ro.length - (intOf i).toNat)
    case atStart => exact ⟨0, Nat.zero_le _, rfl, O2.out, B2.out⟩
    case round =>
      obtain ⟨k, hk, rfl, hm, hbel⟩ := hrel
      have HM := Lib.hid hm
      clear hm
      by_cases hlt : k < ro.length
      · obtain ⟨b, o, hA, hb, c0, c1⟩ := s1.at2 (i := k) (by have := HLL.out; omega)
        obtain ⟨g, q, hR, hg, z0⟩ := t1.at1 (i := k) hlt
        have d0 := (hbel.cell (p := ⟨b, o + k * 2, none⟩) hb).trans c0
        have d1 := (hbel.cell (p := ⟨b, o + k * 2 + 1, none⟩) hb).trans c1
        have d2 := (hbel.cell (p := ⟨g, q + k, none⟩) hg).trans z0
        obtain ⟨u0, u1, u2⟩ := HV.out.1.1.times (i := k) (by have := HLL.out; omega)
        obtain ⟨r0, r1, -⟩ := HV.out.2.2 k (by have := HLL.out; omega)
        obtain ⟨t, ht⟩ := Int.eq_ofNat_of_zero_le r0
        have HT := Lib.hid ht
        rw [ht] at d2 r1
        have t12 : t < 12 := by omega
        have ti : (t : Int) < 12 := by omega
        obtain ⟨m1, m2⟩ := HM.out.cell t12
        obtain ⟨n1, n2⟩ := mnTo_bounds (ro := ro) (t := (t : Int)) HV.out.1.1 k (by have := HLL.out; omega)
        obtain ⟨v, hv⟩ : ∃ v, v = mnTo xs ro (t : Int) k := ⟨_, rfl⟩
        rw [← hv] at m1 n1 n2
        have HVV := Lib.hid hv
        have i1 : (k : Int) < (ro.length : Int) := by have := HLL.out; omega
        have i2 : (k : Int) < (xs.length : Int) := by have := HLL.out; omega
        have HB := Lib.hid hbel
        subst hA hR
        have e5 : IntKind.i64.wrap (re xs k - rs xs k) = re xs k - rs xs k := IntWalk.i64_in _ (by omega)
        have e6 : IntKind.i64.wrap (v + (re xs k - rs xs k)) = v + (re xs k - rs xs k) := IntWalk.i64_in _ (by omega)
        clear c0 c1 z0 ht hv hbel
        go_wp2_with fail
        go_still_tail 17, (by kernel_rfl)
        change wpList _ _ _ _ _ wr.drew
        have M2 : Mins wr.drew w.heap.size w1.heap.size xs ro k := HM.out
        have bel2 := HB.out.drew
        clear m1 m2 d0 d1 d2 e5 e6 HM HB
        generalize wr.drew = w2 at M2 bel2 ⊢
        obtain ⟨m1, m2⟩ := M2.cell t12
        rw [← HVV.out] at m1
        have HM := Lib.hid M2
        have HB := Lib.hid bel2
        clear M2 bel2
        go_wp2_with fail
        exact ⟨⟨k + 1, by omega, by go_num, HM.out.step t12 HT.out (by rw [← HVV.out]), HB.out.setCell (by exact Nat.le_refl _) _⟩, by simp [intOf]; omega⟩
      · obtain rfl : k = ro.length := by omega
        go_wp2_with fail
        go_ret2
        exact ⟨_, _, pair_ret (by rw [mrL_yes HV.out, mnL_len]) (by simp [roB_yes HV.out]), by rw [mrL_yes HV.out]; unfold IOwn; rw [mnL_len, ← HLL.out]; exact HM.out, B1.out.trans (hbel.mono hs1)⟩
  · have HV := Lib.hid hv
    clear hv
    go_enter Try.func51, Try.ntmps51
    go_wp2_with fail
    refine (iRoV_no h hr hl hrl HV.out).mono ?_
    rintro e w1 ⟨rfl, b1⟩
    go_wp2_with fail
    go_ret2
    exact ⟨_, _, pair_ret (by simp [mrL_no HV.out]) (by simp [roB_no HV.out]), by rw [mrL_no HV.out]; exact IOwn.empty w1 _ b1.size, b1.alloc b1.size _⟩
end Go.Proofs.Ytgimheekaceifaa
