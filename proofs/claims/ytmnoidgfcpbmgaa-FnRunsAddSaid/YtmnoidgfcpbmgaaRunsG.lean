import Derived.Test.YtmnoidgfcpbmgaaRunsF
namespace Go.Proofs.Ytmnoidgfcpbmgaa
open Go.RowKit

/-- From when on team t is free, of the first k runs. -/
def FreeOk (xs : List Rn) (rest : Int) (ro : List Int) (k : Nat) (L : List Int) : Prop :=
  ∀ t : Nat, t < 12 → (∀ j, j < k → ri ro j = (t : Int) → re xs j + rest ≤ L.getD t 0) ∧ (L.getD t 0 = 0 ∨ ∃ j, j < k ∧ ri ro j = (t : Int) ∧ L.getD t 0 = re xs j + rest)

theorem getD_set (L : List Int) (t : Nat) (v : Int) (q : Nat) (ht : t < L.length) : (L.set t v).getD q 0 = if q = t then v else L.getD q 0 := by
  simp only [List.getD_eq_getElem?_getD, List.getElem?_set]
  by_cases h : q = t
  · subst h; simp [ht]
  · rw [if_neg (fun e => h e.symm), if_neg h]

theorem FreeOk.step {xs : List Rn} {rest : Int} {ro : List Int} {k : Nat} {L : List Int} (h : FreeOk xs rest ro k L) {t : Nat} (ht : t < 12) (hL : L.length = 12) (hk : ri ro k = (t : Int)) (hle : L.getD t 0 ≤ rs xs k) (hlt : rs xs k < re xs k) (r0 : 0 ≤ rest) :
    FreeOk xs rest ro (k + 1) (L.set t (re xs k + rest)) := by
  intro q hq
  rw [getD_set L t _ q (by omega)]
  by_cases e : q = t
  · subst e
    rw [if_pos rfl]
    refine ⟨fun j hj he => ?_, .inr ⟨k, by omega, hk, rfl⟩⟩
    rcases Nat.lt_or_ge j k with h1 | h1
    · have := (h q hq).1 j h1 he; omega
    · obtain rfl : j = k := by omega
      omega
  · rw [if_neg e]
    refine ⟨fun j hj he => ?_, ?_⟩
    · rcases Nat.lt_or_ge j k with h1 | h1
      · exact (h q hq).1 j h1 he
      · obtain rfl : j = k := by omega
        rw [hk] at he; omega
    · rcases (h q hq).2 with h1 | ⟨j, hj, h1, h2⟩
      · exact .inl h1
      · exact .inr ⟨j, by omega, h1, h2⟩

theorem arr_at {L : List Int} {t : Nat} (h : t < L.length) : (L.map (Value.int .i64)).toArray[t]? = some (.int .i64 (L.getD t 0)) := by
  simp [List.getElem?_eq_getElem h]
theorem arr_set (L : List Int) (t : Nat) (v : Int) : (L.map (Value.int .i64)).toArray.setIfInBounds t (.int .i64 v) = ((L.set t v).map (Value.int .i64)).toArray := by
  simp [List.map_set]

set_option maxRecDepth 100000 in
set_option maxHeartbeats 1000000 in
theorem iRoV_any (A R : Option Addr) (c rc : Nat) (xs : List Rn) (rest : Int) (ro : List Int) (w : World) (h : Cells w A (fr xs)) (hr : Cells w R ro) (hl : xs.length ≤ 1048576) (hrl : ro.length ≤ 1048576) :
    Calls Try.prog 33 #[.slice A xs.length c, .int .i64 rest, .slice R ro.length rc] w fun e w' => e = .returned (.bool (roB xs rest ro)) ∧ Below w.heap.size w w' := by
  by_cases g1 : RValid xs
  · have HG := Lib.hid g1
    have h12 := g1.1
    clear g1
    by_cases g3 : 0 ≤ rest ∧ rest ≤ 600
    · by_cases g2 : ro.length = xs.length
      · have HL := Lib.hid g2
        have n1 : ((ro.length : Int) != (xs.length : Int)) = false := by simp [g2]
        clear g2
        go_enter Try.func33, Try.ntmps33
        go_wp2_with fail
        refine (iRV_yes h hl HG.out).mono ?_
        rintro e w1 ⟨rfl, b1⟩
        have s1 := h.below b1
        have t1 := hr.below b1
        clear h hr
        go_wp2_with fail
        refine (rvT _ _ g3.1 g3.2).mono ?_
        rintro e w2 ⟨rfl, rfl⟩
        go_wp2_with fail
        go_loopw [28] (fun i' wr => ∃ (k : Nat) (L : List Int), k ≤ ro.length ∧ i' = .int .i64 k ∧ L.length = 12 ∧ Blk wr w1.heap.size (L.map (Value.int .i64)).toArray 67 ∧ FreeOk xs rest ro k L ∧ (∀ j, j < k → 0 ≤ ri ro j ∧ ri ro j ≤ 11 ∧ Can xs rest ro j (ri ro j)) ∧ Below w1.heap.size w1 wr) (fun i' _ => ro.length - (intOf i').toNat)
        case atStart => exact ⟨0, List.replicate 12 0, Nat.zero_le _, rfl, rfl, Blk.new _ _ _, fun t ht => ⟨fun j hj => by omega, .inl (by rw [List.getD_eq_getElem?_getD, List.getElem?_replicate, if_pos ht]; rfl)⟩, fun j hj => by omega, (Below.refl _ _).alloc (Nat.le_refl _) _⟩
        case round =>
          obtain ⟨k, L, hk, rfl, hL, hblk, hfree, hok, hbel⟩ := hrel
          have HOK := Lib.hid hok
          have HF := Lib.hid hfree
          have HB := Lib.hid hblk
          have HLL := Lib.hid hL
          clear hok hfree hblk hL
          by_cases hlt : k < ro.length
          · obtain ⟨g, q, hR, hg, z0⟩ := t1.at1 hlt
            have d2 := (hbel.cell (p := ⟨g, q + k, none⟩) hg).trans z0
            obtain ⟨b, o, hA, hb, c0, c1⟩ := s1.at2 (i := k) (by have := HL.out; omega)
            have d0 := (hbel.cell (p := ⟨b, o + k * 2, none⟩) hb).trans c0
            have d1 := (hbel.cell (p := ⟨b, o + k * 2 + 1, none⟩) hb).trans c1
            obtain ⟨u0, u1, u2⟩ := HG.out.times (i := k) (by have := HL.out; omega)
            subst hR hA
            clear z0 c0 c1
            have i1 : (k : Int) < (xs.length : Int) := by have := HL.out; omega
            by_cases q1 : ri ro k < 0
            · go_wp2_with fail
              go_quiet (fail)
              go_wp2_with fail
              go_ret
              exact ⟨ret_bool (roB_no fun hv => by have := (hv.2.2 k (by have := HL.out; omega)).1; omega).symm, b1.trans ((below_drewN' hbel _).mono b1.size)⟩
            · by_cases q2 : 12 ≤ ri ro k
              · have e1 : decide (ri ro k < 0) = false := by simp; omega
                go_wp2_with fail
                go_quiet (fail)
                go_wp2_with fail
                go_ret
                exact ⟨ret_bool (roB_no fun hv => by have := (hv.2.2 k (by have := HL.out; omega)).2.1; omega).symm, b1.trans ((below_drewN' hbel _).mono b1.size)⟩
              · obtain ⟨t, ht⟩ := Int.eq_ofNat_of_zero_le (show 0 ≤ ri ro k by omega)
                have HT := Lib.hid ht
                rw [ht] at d2 q1 q2
                have ht12 : t < 12 := by omega
                have ti : (t : Int) < 12 := by omega
                have e1 : decide ((t : Int) < 0) = false := by simp
                have e2 : decide ((12 : Int) ≤ (t : Int)) = false := by simp; omega
                have e2' : decide (12 ≤ t) = false := by simp; omega
                obtain ⟨v, hv⟩ : ∃ v, L.getD t 0 = v := ⟨_, rfl⟩
                have d3 : wr.cell? ⟨w1.heap.size, t, none⟩ = some (.int .i64 v) := by
                  rw [HB.out.cell, arr_at (by have := HLL.out; omega), hv]
                have fz := HB.out.frozen t
                have e5 : IntKind.i64.wrap (re xs k + rest) = re xs k + rest := IntWalk.i64_in _ (by omega)
                have HVV := Lib.hid hv
                clear ht hv
                by_cases q3 : rs xs k < v
                · go_wp2_with fail
                  go_quiet (fail)
                  go_wp2_with fail
                  go_ret
                  refine ⟨ret_bool (roB_no fun hv => ?_).symm, b1.trans ((below_drewN' hbel _).mono b1.size)⟩
                  have hc := (hv.2.2 k (by have := HL.out; omega)).2.2
                  rcases (HF.out t ht12).2 with f1 | ⟨j, hj, f1, f2⟩
                  · rw [HVV.out] at f1; omega
                  · have := hc j hj (by rw [f1, HT.out])
                    rw [HVV.out] at f2
                    omega
                · have e3 : decide (rs xs k < v) = false := by simp; omega
                  go_wp2_with fail
                  go_quiet (fail)
                  have fz' : (wr.drewN nq).frozen? ⟨w1.heap.size, t, none⟩ = false := fz
                  go_wp2_with fail
                  refine ⟨⟨k + 1, L.set t (re xs k + rest), by omega, by go_num, by simp [HLL.out], ?_, HF.out.step ht12 HLL.out HT.out (by rw [HVV.out]; omega) u1 g3.1, ?_, (below_drewN' hbel _).setCell (by exact Nat.le_refl _) _⟩, by simp [intOf]; omega⟩
                  · rw [← arr_set]; exact (HB.out.drewN _).set t _
                  · intro j hj
                    rcases Nat.lt_or_ge j k with f1 | f1
                    · exact HOK.out j f1
                    · obtain rfl : j = k := by omega
                      rw [HT.out]
                      refine ⟨by omega, by omega, fun i hi he => ?_⟩
                      have := (HF.out t ht12).1 i hi he
                      rw [HVV.out] at this
                      omega
          · go_wp2_with fail
            go_ret
            have : k = ro.length := by omega
            subst this
            exact ⟨ret_bool (roB_yes ⟨⟨HG.out, g3⟩, HL.out, fun i hi => HOK.out i (by have := HL.out; omega)⟩).symm, b1.trans (hbel.mono b1.size)⟩
      · have n1 : ((ro.length : Int) != (xs.length : Int)) = true := by simp; omega
        have H := Lib.hid (roB_no (xs := xs) (rest := rest) (ro := ro) fun hv => g2 hv.2.1)
        go_enter Try.func33, Try.ntmps33
        go_wp2_with fail
        refine (iRV_yes h hl HG.out).mono ?_
        rintro e w1 ⟨rfl, b1⟩
        go_wp2_with fail
        refine (rvT _ _ g3.1 g3.2).mono ?_
        rintro e w2 ⟨rfl, rfl⟩
        go_wp2_with fail
        go_ret
        exact ⟨ret_bool H.out.symm, b1⟩
    · have H := Lib.hid (roB_no (xs := xs) (rest := rest) (ro := ro) fun hv => g3 hv.1.2)
      go_enter Try.func33, Try.ntmps33
      go_wp2_with fail
      refine (iRV_yes h hl HG.out).mono ?_
      rintro e w1 ⟨rfl, b1⟩
      go_wp2_with fail
      refine (rvF _ _ (by omega)).mono ?_
      rintro e w2 ⟨rfl, rfl⟩
      go_wp2_with fail
      go_ret
      exact ⟨ret_bool H.out.symm, b1⟩
  · have H := Lib.hid (roB_no (xs := xs) (rest := rest) (ro := ro) fun hv => g1 hv.1.1)
    go_enter Try.func33, Try.ntmps33
    go_wp2_with fail
    refine (iRV_no h hl g1).mono ?_
    rintro e w1 ⟨rfl, b1⟩
    go_wp2_with fail
    go_ret
    exact ⟨ret_bool H.out.symm, b1⟩
end Go.Proofs.Ytmnoidgfcpbmgaa
