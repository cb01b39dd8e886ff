import Derived.Test.YtaajombljiiigaaRoadsL
namespace Go.Proofs.Ytaajombljiiigaa
open Go.RowKit

theorem int_eq {a b : Int} (h : a = b) : Value.int .i64 a = Value.int .i64 b := by rw [h]
theorem mxTo_range {n : Nat} {D : Nat → Int} (h : ∀ v, v < n → 0 ≤ D v ∧ D v ≤ 100000) : ∀ k, k ≤ n → 0 ≤ mxTo D k ∧ mxTo D k ≤ 100000 := by
  intro k
  induction k with
  | zero => intro _; simp [mxTo]
  | succ k ih =>
    intro hk
    have := ih (by omega)
    have := h k (by omega)
    simp only [mxTo]
    omega

set_option maxRecDepth 100000 in
set_option maxHeartbeats 1000000 in
theorem most_any (N f : Nat) (A : Option Addr) (c : Nat) (xs : List Rd3) (w : World) (h : Cells w A (fd xs)) (hl : xs.length ≤ 1048576) (hv : DValid (N : Int) xs) (hf : f < N) :
    Calls Try.prog 35 #[.int .i64 (N : Int), .slice A xs.length c, .int .i64 (f : Int)] w fun e w' => e = .returned (.int .i64 (mxTo (dst xs f) N)) ∧ Below w.heap.size w w' := by
  have HV := Lib.hid hv
  have n8 : N ≤ 8 := by have := hv.2.1; omega
  have HD := Lib.hid (dst_dist hv hf)
  clear hv
  obtain ⟨D, hD⟩ : ∃ D, D = dst xs f := ⟨_, rfl⟩
  have HDD := Lib.hid hD
  rw [← hD] at HD ⊢
  clear hD
  go_enter Try.func35, Try.ntmps35
  go_wp2_with fail
  refine (far_any N f A c xs w h hl HV.out hf).mono ?_
  rintro e w1 ⟨g, c', rfl, hR, b1⟩
  rw [← HDD.out] at hR
  have HR := Lib.hid hR
  have B1 := Lib.hid b1
  obtain ⟨q1, q2⟩ := hR.cap
  have RG := Lib.hid (mxTo_range (n := N) (D := D) (fun v hvn => ⟨HD.out.low v hvn, HD.out.high v hvn⟩))
  clear hR b1
  go_wp2_with fail
  go_loop [7, 9] (fun s i => ∃ k : Nat, k ≤ N ∧ s = .int .i64 (mxTo D k) ∧ i = .int .i64 (k : Int)) (fun _ i => N - (intOf i).toNat)
  case atStart => exact ⟨0, Nat.zero_le _, rfl, rfl⟩
  case round =>
    obtain ⟨k, hk, rfl, rfl⟩ := hrel
    by_cases hlt : k < N
    · obtain ⟨m0, m1⟩ := HR.out.cell hlt
      have i1 : (k : Int) < (N : Int) := by omega
      have HX := Lib.hid (show ∀ z : Int, z = max (mxTo D k) (D k) → z = mxTo D (k + 1) from fun z e => e)
      go_wp2_with fail
      all_goals
        go_round
        case rel => exact ⟨k + 1, by omega, int_eq (HX.out _ (by omega)), by go_num⟩
        case measure => simp [intOf]; omega
    · obtain rfl : k = N := by omega
      go_wp2_with fail
      go_ret
      exact ⟨rfl, B1.out⟩

open Classical in
/-- Whether there is a way between any two towns. -/
noncomputable def whB (n : Int) (xs : List Rd3) : Bool := decide (DValid n xs ∧ mxTo (dst xs 0) n.toNat < 100000)
open Classical in
theorem whB_yes {N : Nat} {xs : List Rd3} (h : DValid (N : Int) xs) (h2 : mxTo (dst xs 0) N < 100000) : whB (N : Int) xs = true := by unfold whB; exact decide_eq_true ⟨h, h2⟩
open Classical in
theorem whB_no {N : Nat} {xs : List Rd3} (h2 : ¬ mxTo (dst xs 0) N < 100000) : whB (N : Int) xs = false := by unfold whB; exact decide_eq_false (fun g => h2 g.2)
open Classical in
theorem whB_bad {n : Int} {xs : List Rd3} (h : ¬ DValid n xs) : whB n xs = false := by unfold whB; exact decide_eq_false (fun g => h g.1)

set_option maxRecDepth 100000 in
set_option maxHeartbeats 1000000 in
theorem sWh_any (n : Int) (A : Option Addr) (c : Nat) (xs : List Rd3) (w : World) (h : Cells w A (fd xs)) (hl : xs.length ≤ 1048576) :
    Calls Try.prog 24 #[.int .i64 n, .slice A xs.length c] w fun e w' => e = .returned (.bool (whB n xs)) ∧ Below w.heap.size w w' := by
  by_cases hv : DValid n xs
  · obtain ⟨N, rfl⟩ := Int.eq_ofNat_of_zero_le (show 0 ≤ n by have := hv.1; omega)
    have n1 : 0 < N := by have := hv.1; omega
    have n8 : N ≤ 8 := by have := hv.2.1; omega
    have HV := Lib.hid hv
    clear hv
    obtain ⟨M, hM⟩ : ∃ M, M = mxTo (dst xs 0) N := ⟨_, rfl⟩
    have HM := Lib.hid hM
    clear hM
    by_cases q : M < 100000
    · have W := Lib.hid (whB_yes HV.out (by rw [← HM.out]; exact q))
      rw [W.out]
      go_enter Try.func24, Try.ntmps24
      go_wp2_with fail
      refine (sDV_yes h hl HV.out).mono ?_
      rintro e w1 ⟨rfl, b1⟩
      have B1 := Lib.hid b1
      have h1 := h.below b1
      clear b1
      go_wp2_with fail
      refine (most_any N 0 A c xs w1 h1 hl HV.out n1).mono ?_
      rintro e w2 ⟨rfl, b2⟩
      rw [← HM.out]
      have B2 := Lib.hid (B1.out.trans (b2.mono B1.out.size))
      clear b2
      go_wp2_with fail
      go_ret
      exact ⟨rfl, B2.out⟩
    · have W := Lib.hid (whB_no (xs := xs) (N := N) (by rw [← HM.out]; exact q))
      rw [W.out]
      have q' : decide (M < 100000) = false := by simp; omega
      go_enter Try.func24, Try.ntmps24
      go_wp2_with fail
      refine (sDV_yes h hl HV.out).mono ?_
      rintro e w1 ⟨rfl, b1⟩
      have B1 := Lib.hid b1
      have h1 := h.below b1
      clear b1
      go_wp2_with fail
      refine (most_any N 0 A c xs w1 h1 hl HV.out n1).mono ?_
      rintro e w2 ⟨rfl, b2⟩
      rw [← HM.out]
      have B2 := Lib.hid (B1.out.trans (b2.mono B1.out.size))
      clear b2
      go_wp2_with fail
      go_ret
      exact ⟨rfl, B2.out⟩
  · have HV := Lib.hid hv
    have W := Lib.hid (whB_bad hv)
    clear hv
    rw [W.out]
    go_enter Try.func24, Try.ntmps24
    go_wp2_with fail
    refine (sDV_no h hl HV.out).mono ?_
    rintro e w1 ⟨rfl, b1⟩
    go_wp2_with fail
    go_ret
    exact ⟨rfl, b1⟩

/-- The greatest distance from a town. -/
noncomputable def gr (xs : List Rd3) (N : Nat) (f : Nat) : Int := mxTo (dst xs f) N
/-- What RoadsMiddle returns. -/
noncomputable def midE (n : Int) (xs : List Rd3) : Ending :=
  if whB n xs then .returned (.tuple #[.int .i64 (mid (gr xs n.toNat) n.toNat), .int .i64 (gr xs n.toNat (mid (gr xs n.toNat) n.toNat)), .bool true]) else .returned (.tuple #[.int .i64 0, .int .i64 0, .bool false])
theorem mid_lt (M : Nat → Int) {n : Nat} (h : 0 < n) : ∀ k, k ≤ n → mid M k < n := by
  intro k
  induction k with
  | zero => intro _; exact h
  | succ k ih =>
    intro hk
    simp only [mid]
    split
    · omega
    · exact ih (by omega)

set_option maxRecDepth 100000 in
set_option maxHeartbeats 1000000 in
theorem sMi_any (n : Int) (A : Option Addr) (c : Nat) (xs : List Rd3) (w : World) (h : Cells w A (fd xs)) (hl : xs.length ≤ 1048576) :
    Calls Try.prog 28 #[.int .i64 n, .slice A xs.length c] w fun e w' => e = midE n xs ∧ Below w.heap.size w w' := by
  by_cases hw : whB n xs = true
  · have hv : DValid n xs := by
      by_cases g : DValid n xs
      · exact g
      · rw [whB_bad g] at hw; cases hw
    obtain ⟨N, rfl⟩ := Int.eq_ofNat_of_zero_le (show 0 ≤ n by have := hv.1; omega)
    have n1 : 0 < N := by have := hv.1; omega
    have n8 : N ≤ 8 := by have := hv.2.1; omega
    have HV := Lib.hid hv
    have HW := Lib.hid hw
    have HE := Lib.hid (show midE (N : Int) xs = .returned (.tuple #[.int .i64 (mid (gr xs N) N), .int .i64 (gr xs N (mid (gr xs N) N)), .bool true]) by unfold midE; rw [if_pos hw]; rfl)
    clear hv hw
    rw [HE.out]
    obtain ⟨M, hM⟩ : ∃ M, M = gr xs N := ⟨_, rfl⟩
    have HM := Lib.hid (show ∀ f, mxTo (dst xs f) N = M f from fun f => by rw [hM]; rfl)
    rw [← hM]
    clear hM HE
    have HMI := Lib.hid (mid_lt M n1)
    go_enter Try.func28, Try.ntmps28
    go_wp2_with fail
    refine (sWh_any (N : Int) A c xs w h hl).mono ?_
    rintro e w1 ⟨rfl, b1⟩
    rw [HW.out]
    have B1 := Lib.hid b1
    clear b1
    go_wp2_with fail
    go_loopw [7, 8] (fun s i wr => ∃ k : Nat, k ≤ N ∧ s = .int .i64 ((mid M k : Nat) : Int) ∧ i = .int .i64 (k : Int) ∧ Below w.heap.size w wr) (fun _ i _ => N - (intOf i).toNat)
    case atStart => exact ⟨0, Nat.zero_le _, rfl, rfl, B1.out⟩
    case round =>
      obtain ⟨k, hk, rfl, rfl, hbel⟩ := hrel
      have HB := Lib.hid hbel
      have h1 := h.below hbel
      have hmi := HMI.out k hk
      clear hbel
      by_cases hlt : k < N
      · go_wp2_with fail
        refine (most_any N k A c xs wr h1 hl HV.out hlt).mono ?_
        rintro e w2 ⟨rfl, b2⟩
        rw [HM.out]
        have B2 := Lib.hid (HB.out.trans (b2.mono HB.out.size))
        have h2 := h1.below b2
        clear b2 HB
        go_wp2_with fail
        refine (most_any N (mid M k) A c xs w2 h2 hl HV.out hmi).mono ?_
        rintro e w3 ⟨rfl, b3⟩
        rw [HM.out]
        have B3 := Lib.hid (B2.out.trans (b3.mono B2.out.size))
        clear b3 B2 h1 h2
        by_cases q : M k < M (mid M k)
        · have S := Lib.hid (show mid M (k + 1) = k by simp only [mid]; rw [if_pos q])
          go_wp2_with fail
          exact ⟨⟨k + 1, by omega, by rw [S.out], by go_num, B3.out⟩, by simp [intOf]; omega⟩
        · have S := Lib.hid (show mid M (k + 1) = mid M k by simp only [mid]; rw [if_neg q])
          have q' : decide (M k < M (mid M k)) = false := by simp; omega
          go_wp2_with fail
          exact ⟨⟨k + 1, by omega, by rw [S.out], by go_num, B3.out⟩, by simp [intOf]; omega⟩
      · obtain rfl : k = N := by omega
        go_wp2_with fail
        refine (most_any k (mid M k) A c xs wr h1 hl HV.out hmi).mono ?_
        rintro e w2 ⟨rfl, b2⟩
        rw [HM.out]
        have B2 := Lib.hid (HB.out.trans (b2.mono HB.out.size))
        clear b2 HB
        go_wp2_with fail
        go_ret3
        exact ⟨rfl, B2.out⟩
  · have W := Lib.hid (show whB n xs = false by simpa using hw)
    have HE := Lib.hid (show midE n xs = .returned (.tuple #[.int .i64 0, .int .i64 0, .bool false]) by unfold midE; rw [if_neg hw])
    clear hw
    rw [HE.out]
    go_enter Try.func28, Try.ntmps28
    go_wp2_with fail
    refine (sWh_any n A c xs w h hl).mono ?_
    rintro e w1 ⟨rfl, b1⟩
    rw [W.out]
    go_wp2_with fail
    go_ret3
    exact ⟨rfl, b1⟩
end Go.Proofs.Ytaajombljiiigaa
