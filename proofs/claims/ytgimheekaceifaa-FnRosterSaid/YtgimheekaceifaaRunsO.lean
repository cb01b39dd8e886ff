import Derived.Test.YtgimheekaceifaaRunsH
import Derived.Test.YtgimheekaceifaaRunsN
namespace Go.Proofs.Ytgimheekaceifaa
open Go.RowKit

open Classical in
/-- What TeamsPeak returns. -/
noncomputable def pkV (xs : List Rn) (rest : Int) : Int := if ROk xs rest then (pkTo xs rest xs.length).1 else 0
open Classical in
noncomputable def pkB (xs : List Rn) (rest : Int) : Bool := decide (ROk xs rest ∧ 0 < xs.length)
theorem pkV_yes {xs : List Rn} {rest : Int} (h : ROk xs rest) : pkV xs rest = (pkTo xs rest xs.length).1 := if_pos h
theorem pkV_no {xs : List Rn} {rest : Int} (h : ¬ ROk xs rest) : pkV xs rest = 0 := if_neg h
theorem pkB_no {xs : List Rn} {rest : Int} (h : ¬ ROk xs rest) : pkB xs rest = false := by simp [pkB, h]
theorem pkB_yes {xs : List Rn} {rest : Int} (h : ROk xs rest) : pkB xs rest = decide (0 < xs.length) := by simp [pkB, h]
theorem pk_num {xs : List Rn} {rest : Int} (h : ROk xs rest) : (0 < (pkTo xs rest xs.length).2) ↔ 0 < xs.length := by
  rw [pkTo_num]
  constructor
  · intro g
    rcases Nat.eq_zero_or_pos xs.length with z | z
    · rw [z] at g; simp [mostTo] at g
    · exact z
  · intro g; exact most_pos h.1 h.2.1 g
theorem pk_le (xs : List Rn) (rest : Int) (m : Nat) (hm : m ≤ xs.length) : (pkTo xs rest m).2 ≤ xs.length := by
  rw [pkTo_num]
  exact mostTo_le xs rest _ m fun i _ => busyTo_le xs rest _ _

theorem ret_ib {a a' : Int} {b b' : Bool} (h1 : a = a') (h2 : b = b') : Ending.returned (.tuple #[.int .i64 a, .bool b]) = .returned (.tuple #[.int .i64 a', .bool b']) := by rw [h1, h2]

set_option maxRecDepth 100000 in
set_option maxHeartbeats 1000000 in
theorem iPk_any (A : Option Addr) (c : Nat) (xs : List Rn) (rest : Int) (w : World) (h : Cells w A (fr xs)) (hl : xs.length ≤ 1048576) :
    Calls Try.prog 41 #[.slice A xs.length c, .int .i64 rest] w fun e w' => e = .returned (.tuple #[.int .i64 (pkV xs rest), .bool (pkB xs rest)]) ∧ Below w.heap.size w w' := by
  by_cases hv : RValid xs
  · have HV := Lib.hid hv
    have h12 := hv.1
    clear hv
    by_cases hr : 0 ≤ rest ∧ rest ≤ 600
    · obtain ⟨r0, r1⟩ := hr
      have HO := Lib.hid (show ROk xs rest from ⟨HV.out, r0, r1⟩)
      go_enter Try.func41, Try.ntmps41
      go_wp2_with fail
      refine (iRV_yes h hl HV.out).mono ?_
      rintro e w1 ⟨rfl, b1⟩
      have s1 := h.below b1
      have B1 := Lib.hid b1
      clear h b1
      go_wp2_with fail
      refine (rvT _ _ r0 r1).mono ?_
      rintro e w2 ⟨rfl, rfl⟩
      go_wp2_with fail
      go_loopw [6, 7, 21] (fun p m i wr => ∃ k : Nat, k ≤ xs.length ∧ p = .int .i64 (pkTo xs rest k).1 ∧ m = .int .i64 ((pkTo xs rest k).2 : Nat) ∧ i = .int .i64 k ∧ Below w1.heap.size w1 wr) (fun _ _ i _ => xs.length - (intOf i).toNat)
      case atStart => exact ⟨0, Nat.zero_le _, rfl, rfl, rfl, Below.refl _ _⟩
      case round =>
        obtain ⟨k, hk, rfl, rfl, rfl, hbel⟩ := hrel
        have hpl := pk_le xs rest k hk
        have E := Lib.hid (show pkTo xs rest (k + 1) = if (pkTo xs rest k).2 < busyTo xs rest (rs xs k) xs.length then (rs xs k, busyTo xs rest (rs xs k) xs.length) else pkTo xs rest k from rfl)
        obtain ⟨P, hP⟩ : ∃ P, P = pkTo xs rest k := ⟨_, rfl⟩
        rw [← hP] at hpl E ⊢
        have HP := Lib.hid hP
        clear hP
        by_cases hlt : k < xs.length
        · obtain ⟨b, o, hA, hb, c0, c1⟩ := s1.at2 hlt
          have d0 := (hbel.cell (p := ⟨b, o + k * 2, none⟩) hb).trans c0
          have d1 := (hbel.cell (p := ⟨b, o + k * 2 + 1, none⟩) hb).trans c1
          have s2 := s1.below hbel
          obtain ⟨t0, t1, t2⟩ := HV.out.times hlt
          have hs := hbel.size
          subst hA
          have HB := Lib.hid hbel
          clear c0 c1 hbel
          go_wp2_with fail
          refine (iTeamsBusy_yes _ _ xs _ _ _ (s2.alloc _) hl HO.out (by omega) (by omega)).mono ?_
          rintro e w2 ⟨rfl, b2⟩
          have hbt := busyTo_le xs rest (rs xs k) xs.length
          obtain ⟨q, hq⟩ : ∃ q, q = busyTo xs rest (rs xs k) xs.length := ⟨_, rfl⟩
          rw [← hq] at E hbt ⊢
          have e0 : w2.cell? ⟨wr.heap.size, 0, none⟩ = some (.int .i64 (rs xs k)) := by
            rw [b2.cell (p := ⟨wr.heap.size, 0, none⟩) (by simp)]; exact cell_new _ _ _ 0
          have B2 := Lib.hid ((HB.out.alloc hs _).trans (b2.mono (by simp; omega)))
          have HQ := Lib.hid hq
          clear b2 HB hq d0 d1
          by_cases hmq : P.2 < q
          · go_wp2_with fail
            exact ⟨⟨k + 1, by omega, by rw [E.out, if_pos hmq], by rw [E.out, if_pos hmq], by go_num, B2.out⟩, by simp [intOf]; omega⟩
          · go_wp2_with fail
            exact ⟨⟨k + 1, by omega, by rw [E.out, if_neg hmq], by rw [E.out, if_neg hmq], by go_num, B2.out⟩, by simp [intOf]; omega⟩
        · obtain rfl : k = xs.length := by omega
          go_wp2_with fail
          go_ret2
          refine ⟨ret_ib (by rw [pkV_yes HO.out, HP.out]) ?_, B1.out.trans (hbel.mono B1.out.size)⟩
          rw [pkB_yes HO.out]
          have := pk_num HO.out
          rw [← HP.out] at this
          simp only [decide_eq_decide]
          omega
    · have N := Lib.hid (show ¬ ROk xs rest from fun g => hr g.2)
      have hr' : rest < 0 ∨ 600 < rest := by omega
      have HR := Lib.hid hr'
      clear hr hr'
      go_enter Try.func41, Try.ntmps41
      go_wp2_with fail
      refine (iRV_yes h hl HV.out).mono ?_
      rintro e w1 ⟨rfl, b1⟩
      go_wp2_with fail
      refine (rvF _ _ HR.out).mono ?_
      rintro e w2 ⟨rfl, rfl⟩
      go_wp2_with fail
      go_ret2
      exact ⟨ret_ib (pkV_no N.out).symm (pkB_no N.out).symm, b1⟩
  · have N := Lib.hid (show ¬ ROk xs rest from fun g => hv g.1)
    have HV := Lib.hid hv
    clear hv
    go_enter Try.func41, Try.ntmps41
    go_wp2_with fail
    refine (iRV_no h hl HV.out).mono ?_
    rintro e w1 ⟨rfl, b1⟩
    go_wp2_with fail
    go_ret2
    exact ⟨ret_ib (pkV_no N.out).symm (pkB_no N.out).symm, b1⟩

/-- The best start of the reference behind k rounds. -/
def bst (xs : List Rn) (rest : Int) (k : Nat) : Int := if k = 0 then rs xs 0 else (pkTo xs rest k).1
theorem pkTo_pos {xs : List Rn} {rest : Int} (hv : RValid xs) (h0 : 0 ≤ rest) {k : Nat} (hk : 0 < k) (hl : 0 < xs.length) : 0 < (pkTo xs rest k).2 := by
  rw [pkTo_num]
  have := mostTo_ge xs rest k 0 hk
  have := busy_self hv h0 hl
  omega
theorem bst_busy {xs : List Rn} {rest : Int} (hv : RValid xs) (h0 : 0 ≤ rest) {k : Nat} (hk : 0 < k) (hl : 0 < xs.length) : busyTo xs rest (bst xs rest k) xs.length = (pkTo xs rest k).2 := by
  unfold bst
  rw [if_neg (by omega)]
  obtain ⟨j, hj, a, b, c⟩ := pkTo_at xs rest k (pkTo_pos hv h0 hk hl)
  rw [a, b]
theorem bst_step {xs : List Rn} {rest : Int} (hv : RValid xs) (h0 : 0 ≤ rest) {k : Nat} (hk : k < xs.length) :
    bst xs rest (k + 1) = if busyTo xs rest (bst xs rest k) xs.length < busyTo xs rest (rs xs k) xs.length then rs xs k else bst xs rest k := by
  rcases Nat.eq_zero_or_pos k with hz | hz
  · subst hz
    have e : bst xs rest 0 = rs xs 0 := rfl
    have := busy_self hv h0 hk
    rw [e, if_neg (by omega)]
    have h1 : pkTo xs rest (0 + 1) = (rs xs 0, busyTo xs rest (rs xs 0) xs.length) := if_pos this
    unfold bst
    rw [if_neg (by omega), h1]
  · rw [bst_busy hv h0 hz (by omega)]
    unfold bst
    rw [if_neg (show ¬ k + 1 = 0 by omega), if_neg (show ¬ k = 0 by omega)]
    simp only [pkTo]
    split <;> rfl

set_option maxRecDepth 100000 in
set_option maxHeartbeats 1000000 in
theorem sPk_any (A : Option Addr) (c : Nat) (xs : List Rn) (rest : Int) (w : World) (h : Cells w A (fr xs)) (hl : xs.length ≤ 1048576) :
    Calls Try.prog 40 #[.slice A xs.length c, .int .i64 rest] w fun e w' => e = .returned (.tuple #[.int .i64 (pkV xs rest), .bool (pkB xs rest)]) ∧ Below w.heap.size w w' := by
  by_cases hv : ROk xs rest
  · have HV := Lib.hid hv
    have h12 := hv.1.1
    clear hv
    by_cases hz : 0 < xs.length
    · obtain ⟨b, o, hA, hb, c0, -⟩ := h.at2 (i := 0) hz
      subst hA
      simp only [Nat.zero_mul, Nat.add_zero] at c0
      have n0 : ((xs.length : Int) == 0) = false := by rw [beq_eq_false_iff_ne]; omega
      have i0 : (0 : Int) < (xs.length : Int) := by omega
      go_enter Try.func40, Try.ntmps40
      go_wp2_with fail
      refine (sOk_yes h hl HV.out).mono ?_
      rintro e w1 ⟨rfl, b1⟩
      have s1 := h.below b1
      have d0 := (b1.cell (p := ⟨b, o, none⟩) hb).trans c0
      have B1 := Lib.hid b1
      clear h b1 c0
      go_wp2_with fail
      go_loopw [6, 7] (fun p i wr => ∃ k : Nat, k ≤ xs.length ∧ p = .int .i64 (bst xs rest k) ∧ i = .int .i64 k ∧ Below w1.heap.size w1 wr) (fun _ i _ => xs.length - (intOf i).toNat)
      case atStart => exact ⟨0, Nat.zero_le _, rfl, rfl, Below.refl _ _⟩
      case round =>
        obtain ⟨k, hk, rfl, rfl, hbel⟩ := hrel
        by_cases hlt : k < xs.length
        · obtain ⟨b', o', hA, hb', c0, c1⟩ := s1.at2 hlt
          injection hA with hA
          injection hA with hA1 hA2
          subst hA1 hA2
          have d1 := (hbel.cell (p := ⟨b, o + k * 2, none⟩) hb').trans c0
          have s2 := s1.below hbel
          have E := Lib.hid (bst_step HV.out.1 HV.out.2.1 hlt)
          have HB := Lib.hid hbel
          have HD := Lib.hid c0
          obtain ⟨P, hP⟩ : ∃ P, P = bst xs rest k := ⟨_, rfl⟩
          rw [← hP] at E ⊢
          clear c0 c1 hbel hP d0
          go_wp2_with fail
          refine (sBusy _ _ xs _ _ _ s2 HV.out.1 HV.out.2.1 (by have := HV.out.2.2; omega)).mono ?_
          rintro e w2 ⟨rfl, b2⟩
          have s3 := s2.below b2
          have d2 := (b2.cell (p := ⟨b, o + k * 2, none⟩) (by have := HB.out.size; have := B1.out.size; show b < wr.heap.size; omega)).trans d1
          have B2 := Lib.hid (HB.out.trans (b2.mono HB.out.size))
          clear b2 HB d1
          go_wp2_with fail
          refine (sBusy _ _ xs _ _ _ s3 HV.out.1 HV.out.2.1 (by have := HV.out.2.2; omega)).mono ?_
          rintro e w3 ⟨rfl, b3⟩
          have d3 := (b3.cell (p := ⟨b, o + k * 2, none⟩) (by have := B2.out.size; have := B1.out.size; show b < w2.heap.size; omega)).trans d2
          have B3 := Lib.hid (B2.out.trans (b3.mono B2.out.size))
          have hb1 := busyTo_le xs rest (rs xs k) xs.length
          have hb2 := busyTo_le xs rest P xs.length
          obtain ⟨q1, hq1⟩ : ∃ q, q = busyTo xs rest (rs xs k) xs.length := ⟨_, rfl⟩
          obtain ⟨q2, hq2⟩ : ∃ q, q = busyTo xs rest P xs.length := ⟨_, rfl⟩
          rw [← hq1] at E hb1 ⊢
          rw [← hq2] at E hb2 ⊢
          clear b3 B2 hq1 hq2 d2
          by_cases hm : q2 < q1
          · go_wp2_with fail
            exact ⟨⟨k + 1, by omega, by rw [E.out, if_pos hm], by go_num, B3.out⟩, by simp [intOf]; omega⟩
          · go_wp2_with fail
            exact ⟨⟨k + 1, by omega, by rw [E.out, if_neg hm], by go_num, B3.out⟩, by simp [intOf]; omega⟩
        · obtain rfl : k = xs.length := by omega
          go_wp2_with fail
          go_ret2
          refine ⟨ret_ib ?_ ?_, B1.out.trans (hbel.mono B1.out.size)⟩
          · rw [pkV_yes HV.out]; unfold bst; rw [if_neg (by omega)]
          · rw [pkB_yes HV.out]; simp; omega
    · have n0 : ((xs.length : Int) == 0) = true := by rw [show (xs.length : Int) = 0 by omega]; rfl
      have z0 : xs.length = 0 := by omega
      have Z := Lib.hid z0
      clear hz z0
      go_enter Try.func40, Try.ntmps40
      go_wp2_with fail
      refine (sOk_yes h hl HV.out).mono ?_
      rintro e w1 ⟨rfl, b1⟩
      go_wp2_with fail
      go_ret2
      refine ⟨ret_ib ?_ ?_, b1⟩
      · rw [pkV_yes HV.out, Z.out]; rfl
      · rw [pkB_yes HV.out, Z.out]; rfl
  · have HV := Lib.hid hv
    clear hv
    go_enter Try.func40, Try.ntmps40
    go_wp2_with fail
    refine (sOk_no h hl HV.out).mono ?_
    rintro e w1 ⟨rfl, b1⟩
    go_wp2_with fail
    go_ret2
    exact ⟨ret_ib (pkV_no HV.out).symm (pkB_no HV.out).symm, b1⟩

/-- What RestMost returns. -/
def RMc (xs : List Rn) (teams : Int) : Prop := RValid xs ∧ 1 ≤ teams ∧ teams ≤ 12
open Classical in
noncomputable def rmV (xs : List Rn) (teams : Int) : Int := if RMc xs teams then rmFrom xs teams 601 else -1
theorem rmV_yes {xs : List Rn} {teams : Int} (h : RMc xs teams) : rmV xs teams = rmFrom xs teams 601 := if_pos h
theorem rmV_no {xs : List Rn} {teams : Int} (h : ¬ RMc xs teams) : rmV xs teams = -1 := if_neg h

set_option maxRecDepth 100000 in
set_option maxHeartbeats 1000000 in
theorem sRest_any (A : Option Addr) (c : Nat) (xs : List Rn) (teams : Int) (w : World) (h : Cells w A (fr xs)) (hl : xs.length ≤ 1048576) :
    Calls Try.prog 59 #[.slice A xs.length c, .int .i64 teams] w fun e w' => e = .returned (.int .i64 (rmV xs teams)) ∧ Below w.heap.size w w' := by
  by_cases hv : RValid xs
  · have HV := Lib.hid hv
    clear hv
    by_cases ht : 1 ≤ teams ∧ teams ≤ 12
    · obtain ⟨t0, t1⟩ := ht
      have HC := Lib.hid (show RMc xs teams from ⟨HV.out, t0, t1⟩)
      go_enter Try.func59, Try.ntmps59
      go_wp2_with fail
      refine (sRV_yes h hl HV.out).mono ?_
      rintro e w1 ⟨rfl, b1⟩
      have s1 := h.below b1
      have B1 := Lib.hid b1
      clear h b1
      go_wp2_with fail
      refine (inT _ _ _ _ t0 t1).mono ?_
      rintro e w2 ⟨rfl, rfl⟩
      go_wp2_with fail
      go_loopw [5] (fun r wr => ∃ n : Nat, n ≤ 601 ∧ r = .int .i64 ((n : Int) - 1) ∧ rmFrom xs teams 601 = rmFrom xs teams n ∧ Below w1.heap.size w1 wr) (fun r _ => (intOf r + 1).toNat)
      case atStart => exact ⟨601, Nat.le_refl _, rfl, rfl, Below.refl _ _⟩
      case round =>
        obtain ⟨n, hn, rfl, hE, hbel⟩ := hrel
        have HE := Lib.hid hE
        have HB := Lib.hid hbel
        have s2 := s1.below hbel
        clear hE hbel
        cases n with
        | zero =>
          go_wp2_with fail
          go_ret
          exact ⟨ret_int (by rw [rmV_yes HC.out, HE.out]; rfl), B1.out.trans (HB.out.mono B1.out.size)⟩
        | succ n =>
          have en : ((n + 1 : Nat) : Int) - 1 = (n : Int) := by omega
          rw [en]
          have HO := Lib.hid (show ROk xs (n : Int) from ⟨HV.out, by omega, by omega⟩)
          have HT := Lib.hid (tlV_yes HO.out)
          have S := Lib.hid (show rmFrom xs teams (n + 1) = if (most xs (n : Int) : Int) ≤ teams then (n : Int) else rmFrom xs teams n from rfl)
          clear en
          go_wp2_with fail
          refine (sTL_any _ _ xs _ _ s2 hl).mono ?_
          rintro e w2 ⟨rfl, b2⟩
          rw [HT.out]
          obtain ⟨q, hq⟩ : ∃ q, q = most xs (n : Int) := ⟨_, rfl⟩
          rw [← hq] at S ⊢
          have B2 := Lib.hid (HB.out.trans (b2.mono HB.out.size))
          have HQ := Lib.hid hq
          clear b2 HB hq s2
          by_cases hle : (q : Int) ≤ teams
          · go_wp2_with fail
            go_ret
            exact ⟨ret_int (by rw [rmV_yes HC.out, HE.out, S.out, if_pos hle]), B1.out.trans (B2.out.mono B1.out.size)⟩
          · go_wp2_with fail
            exact ⟨⟨n, by omega, by go_num, (by first | (rw [HE.out, S.out]; done) | (rw [HE.out, S.out]; exact if_neg (by omega))), B2.out⟩, (by first | (simp [intOf]; done) | (simp [intOf]; omega))⟩
    · have N := Lib.hid (show ¬ RMc xs teams from fun g => ht g.2)
      have ht' : teams < 1 ∨ 12 < teams := by omega
      have HT := Lib.hid ht'
      clear ht ht'
      go_enter Try.func59, Try.ntmps59
      go_wp2_with fail
      refine (sRV_yes h hl HV.out).mono ?_
      rintro e w1 ⟨rfl, b1⟩
      go_wp2_with fail
      refine (inF _ _ _ _ HT.out).mono ?_
      rintro e w2 ⟨rfl, rfl⟩
      go_wp2_with fail
      go_ret
      exact ⟨ret_int (rmV_no N.out).symm, b1⟩
  · have N := Lib.hid (show ¬ RMc xs teams from fun g => hv g.1)
    have HV := Lib.hid hv
    clear hv
    go_enter Try.func59, Try.ntmps59
    go_wp2_with fail
    refine (sRV_no h hl HV.out).mono ?_
    rintro e w1 ⟨rfl, b1⟩
    go_wp2_with fail
    go_ret
    exact ⟨ret_int (rmV_no N.out).symm, b1⟩
end Go.Proofs.Ytgimheekaceifaa
