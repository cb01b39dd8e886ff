import Derived.Test.YtgimheekaceifaaRunsD
namespace Go.Proofs.Ytgimheekaceifaa
open Go.RowKit

theorem RValid.len {xs : List Rn} (h : RValid xs) : xs.length ≤ 12 := h.1

set_option maxRecDepth 100000 in
set_option maxHeartbeats 1000000 in
theorem sBusy (A : Option Addr) (c : Nat) (xs : List Rn) (rest t : Int) (w : World) (h : Cells w A (fr xs)) (hv : RValid xs) (r0 : 0 ≤ rest) (r1 : rest ≤ 1000) :
    Calls Try.prog 75 #[.slice A xs.length c, .int .i64 rest, .int .i64 t] w fun e w' => e = .returned (.int .i64 (busyTo xs rest t xs.length : Nat)) ∧ Below w.heap.size w w' := by
  have hl := hv.1
  go_enter Try.func75, Try.ntmps75
  go_wp2_with fail
  go_loopw [7, 8] (fun n i wr => ∃ k : Nat, k ≤ xs.length ∧ n = .int .i64 (busyTo xs rest t k : Nat) ∧ i = .int .i64 k ∧ Below w.heap.size w wr) (fun _ i _ => xs.length - (intOf i).toNat)
  case atStart => exact ⟨0, Nat.zero_le _, rfl, rfl, Below.refl _ _⟩
  case round =>
    obtain ⟨k, hk, rfl, rfl, hbel⟩ := hrel
    have hbt := busyTo_le xs rest t k
    by_cases hlt : k < xs.length
    · obtain ⟨b, o, hA, hb, c0, c1⟩ := h.at2 hlt
      have d0 := (hbel.cell (p := ⟨b, o + k * 2, none⟩) hb).trans c0
      have d1 := (hbel.cell (p := ⟨b, o + k * 2 + 1, none⟩) hb).trans c1
      subst hA
      obtain ⟨t0, t1, t2⟩ := hv.times hlt
      clear c0 c1
      have E : busyTo xs rest t (k + 1) = busyTo xs rest t k + if rs xs k ≤ t ∧ t < re xs k + rest then 1 else 0 := rfl
      have HE := Lib.hid E
      clear E
      generalize hq : busyTo xs rest t k = q at *
      by_cases q1 : rs xs k ≤ t
      · by_cases q2 : t < re xs k + rest
        · go_wp2_with fail
          exact ⟨⟨k + 1, by omega, by rw [HE.out, if_pos ⟨q1, q2⟩]; go_num, by go_num, hbel⟩, by simp [intOf]; omega⟩
        · go_wp2_with fail
          exact ⟨⟨k + 1, by omega, by rw [HE.out, if_neg (fun e => q2 e.2)]; go_num, by go_num, hbel⟩, by simp [intOf]; omega⟩
      · go_wp2_with fail
        exact ⟨⟨k + 1, by omega, by rw [HE.out, if_neg (fun e => q1 e.1)]; go_num, by go_num, hbel⟩, by simp [intOf]; omega⟩
    · go_wp2_with fail
      go_ret
      have : k = xs.length := by omega
      subst this
      exact ⟨rfl, hbel⟩

theorem sTeamsBusy_yes (A : Option Addr) (c : Nat) (xs : List Rn) (rest t : Int) (w : World) (h : Cells w A (fr xs)) (hl : xs.length ≤ 1048576) (hv : ROk xs rest) (t0 : 0 ≤ t) (t1 : t ≤ 10000) :
    Calls Try.prog 29 #[.slice A xs.length c, .int .i64 rest, .int .i64 t] w fun e w' => e = .returned (.int .i64 (busyTo xs rest t xs.length : Nat)) ∧ Below w.heap.size w w' := by
  go_enter Try.func29, Try.ntmps29
  go_wp2_with fail
  refine (sOk_yes h hl hv).mono ?_
  rintro e w1 ⟨rfl, b1⟩
  have h1 := h.below b1
  go_wp2_with fail
  refine (inT _ _ _ _ t0 t1).mono ?_
  rintro e w2 ⟨rfl, rfl⟩
  go_wp2_with fail
  refine (sBusy _ _ xs _ _ _ h1 hv.1 hv.2.1 (by have := hv.2.2; omega)).mono ?_
  rintro e w2 ⟨rfl, b2⟩
  go_wp2_with fail
  go_ret
  exact ⟨rfl, b1.trans (b2.mono b1.size)⟩
theorem sTeamsBusy_no (A : Option Addr) (c : Nat) (xs : List Rn) (rest t : Int) (w : World) (h : Cells w A (fr xs)) (hl : xs.length ≤ 1048576) (hv : ¬ (ROk xs rest ∧ 0 ≤ t ∧ t ≤ 10000)) :
    Calls Try.prog 29 #[.slice A xs.length c, .int .i64 rest, .int .i64 t] w fun e w' => e = .returned (.int .i64 (-1)) ∧ Below w.heap.size w w' := by
  by_cases h1 : ROk xs rest
  · have h2 : t < 0 ∨ 10000 < t := by
      rcases Int.lt_or_le t 0 with a | a
      · exact .inl a
      · rcases Int.lt_or_le 10000 t with b | b
        · exact .inr b
        · exact absurd ⟨h1, a, b⟩ hv
    clear hv
    go_enter Try.func29, Try.ntmps29
    go_wp2_with fail
    refine (sOk_yes h hl h1).mono ?_
    rintro e w1 ⟨rfl, b1⟩
    go_wp2_with fail
    refine (inF _ _ _ _ h2).mono ?_
    rintro e w2 ⟨rfl, rfl⟩
    go_wp2_with fail
    go_ret
    exact ⟨rfl, b1⟩
  · go_enter Try.func29, Try.ntmps29
    go_wp2_with fail
    refine (sOk_no h hl h1).mono ?_
    rintro e w1 ⟨rfl, b1⟩
    go_wp2_with fail
    go_ret
    exact ⟨rfl, b1⟩

set_option maxRecDepth 100000 in
set_option maxHeartbeats 1000000 in
theorem iTeamsBusy_yes (A : Option Addr) (c : Nat) (xs : List Rn) (rest t : Int) (w : World) (h : Cells w A (fr xs)) (hl : xs.length ≤ 1048576) (hv : ROk xs rest) (t0 : 0 ≤ t) (t1 : t ≤ 10000) :
    Calls Try.prog 30 #[.slice A xs.length c, .int .i64 rest, .int .i64 t] w fun e w' => e = .returned (.int .i64 (busyTo xs rest t xs.length : Nat)) ∧ Below w.heap.size w w' := by
  obtain ⟨hv, r0, r1⟩ := hv
  have HV := Lib.hid hv
  have h12 := hv.1
  clear hv
  go_enter Try.func30, Try.ntmps30
  go_wp2_with fail
  refine (iRV_yes h hl HV.out).mono ?_
  rintro e w1 ⟨rfl, b1⟩
  have s1 := h.below b1
  clear h
  go_wp2_with fail
  refine (rvT _ _ r0 r1).mono ?_
  rintro e w2 ⟨rfl, rfl⟩
  go_wp2_with fail
  refine (tvT _ _ t0 t1).mono ?_
  rintro e w2 ⟨rfl, rfl⟩
  go_wp2_with fail
  go_loopw [7, 25] (fun n i wr => ∃ k : Nat, k ≤ xs.length ∧ n = .int .i64 (busyTo xs rest t k : Nat) ∧ i = .int .i64 k ∧ Below w1.heap.size w1 wr) (fun _ i _ => xs.length - (intOf i).toNat)
  case atStart => exact ⟨0, Nat.zero_le _, rfl, rfl, Below.refl _ _⟩
  case round =>
    obtain ⟨k, hk, rfl, rfl, hbel⟩ := hrel
    have hbt := busyTo_le xs rest t k
    by_cases hlt : k < xs.length
    · obtain ⟨b, o, hA, hb, c0, c1⟩ := s1.at2 hlt
      have d0 := (hbel.cell (p := ⟨b, o + k * 2, none⟩) hb).trans c0
      have d1 := (hbel.cell (p := ⟨b, o + k * 2 + 1, none⟩) hb).trans c1
      subst hA
      obtain ⟨u0, u1, u2⟩ := HV.out.times hlt
      clear c0 c1
      have E : busyTo xs rest t (k + 1) = busyTo xs rest t k + if rs xs k ≤ t ∧ t < re xs k + rest then 1 else 0 := rfl
      have HE := Lib.hid E
      clear E
      generalize hq : busyTo xs rest t k = q at *
      by_cases q1 : rs xs k ≤ t
      · by_cases q2 : t < re xs k + rest
        · go_wp2_with fail
          exact ⟨⟨k + 1, by omega, by rw [HE.out, if_pos ⟨q1, q2⟩]; go_num, by go_num, hbel.alloc hbel.size _⟩, by simp [intOf]; omega⟩
        · go_wp2_with fail
          exact ⟨⟨k + 1, by omega, by rw [HE.out, if_neg (fun e => q2 e.2)]; go_num, by go_num, hbel.alloc hbel.size _⟩, by simp [intOf]; omega⟩
      · go_wp2_with fail
        exact ⟨⟨k + 1, by omega, by rw [HE.out, if_neg (fun e => q1 e.1)]; go_num, by go_num, hbel.alloc hbel.size _⟩, by simp [intOf]; omega⟩
    · go_wp2_with fail
      go_ret
      have : k = xs.length := by omega
      subst this
      exact ⟨rfl, b1.trans (hbel.mono b1.size)⟩

theorem iTeamsBusy_no (A : Option Addr) (c : Nat) (xs : List Rn) (rest t : Int) (w : World) (h : Cells w A (fr xs)) (hl : xs.length ≤ 1048576) (hv : ¬ (ROk xs rest ∧ 0 ≤ t ∧ t ≤ 10000)) :
    Calls Try.prog 30 #[.slice A xs.length c, .int .i64 rest, .int .i64 t] w fun e w' => e = .returned (.int .i64 (-1)) ∧ Below w.heap.size w w' := by
  by_cases h1 : RValid xs
  · by_cases h2 : 0 ≤ rest ∧ rest ≤ 600
    · have h3 : t < 0 ∨ 10000 < t := by
        rcases Int.lt_or_le t 0 with a | a
        · exact .inl a
        · rcases Int.lt_or_le 10000 t with b | b
          · exact .inr b
          · exact absurd ⟨⟨h1, h2⟩, a, b⟩ hv
      clear hv
      go_enter Try.func30, Try.ntmps30
      go_wp2_with fail
      refine (iRV_yes h hl h1).mono ?_
      rintro e w1 ⟨rfl, b1⟩
      go_wp2_with fail
      refine (rvT _ _ h2.1 h2.2).mono ?_
      rintro e w2 ⟨rfl, rfl⟩
      go_wp2_with fail
      refine (tvF _ _ h3).mono ?_
      rintro e w2 ⟨rfl, rfl⟩
      go_wp2_with fail
      go_ret
      exact ⟨rfl, b1⟩
    · clear hv
      go_enter Try.func30, Try.ntmps30
      go_wp2_with fail
      refine (iRV_yes h hl h1).mono ?_
      rintro e w1 ⟨rfl, b1⟩
      go_wp2_with fail
      refine (rvF _ _ (by omega)).mono ?_
      rintro e w2 ⟨rfl, rfl⟩
      go_wp2_with fail
      go_ret
      exact ⟨rfl, b1⟩
  · go_enter Try.func30, Try.ntmps30
    go_wp2_with fail
    refine (iRV_no h hl h1).mono ?_
    rintro e w1 ⟨rfl, b1⟩
    go_wp2_with fail
    go_ret
    exact ⟨rfl, b1⟩
end Go.Proofs.Ytgimheekaceifaa
