import Derived.Test.YtmnoidgfcpbmgaaRunsC
namespace Go.Proofs.Ytmnoidgfcpbmgaa
open Go.RowKit

theorem rvT (n : Int) (w : World) (h1 : 0 ≤ n) (h2 : n ≤ 600) :
    Calls Try.prog 28 #[.int .i64 n] w fun e w' => e = .returned (.bool true) ∧ w = w' := by
  go_enter Try.func28, Try.ntmps28
  go_wp2
  go_ret
  exact ⟨rfl, rfl⟩

theorem rvF (n : Int) (w : World) (h1 : n < 0 ∨ 600 < n) :
    Calls Try.prog 28 #[.int .i64 n] w fun e w' => e = .returned (.bool false) ∧ w = w' := by
  by_cases h : n < 0
  · clear h1
    go_enter Try.func28, Try.ntmps28
    go_wp2
    go_ret
    exact ⟨rfl, rfl⟩
  · have h2 : decide (n ≤ 600) = false := by simp; omega
    clear h1
    go_enter Try.func28, Try.ntmps28
    go_wp2
    go_ret
    exact ⟨rfl, rfl⟩

set_option maxRecDepth 100000 in
set_option maxHeartbeats 1000000 in
theorem iRV_any (A : Option Addr) (c : Nat) (xs : List Rn) (w : World) (h : Cells w A (fr xs)) (hl : xs.length ≤ 1048576) :
    Calls Try.prog 19 #[.slice A xs.length c] w fun e w' => e = .returned (.bool (rvB xs)) ∧ Below w.heap.size w w' := by
  by_cases h12 : 12 < xs.length
  · have H := Lib.hid (rvB_no (xs := xs) fun hv => absurd hv.1 (by omega))
    go_enter Try.func19, Try.ntmps19
    go_wp2_with fail
    go_ret
    exact ⟨ret_bool H.out.symm, Below.refl _ _⟩
  · go_enter Try.func19, Try.ntmps19
    go_wp2_with fail
    go_loopw [10] (fun i wr => ∃ k : Nat, k ≤ xs.length ∧ i = .int .i64 k ∧ (∀ j, j < k → rok xs j) ∧ Below w.heap.size w wr) (fun i _ => xs.length - (intOf i).toNat)
    case atStart => exact ⟨0, Nat.zero_le _, rfl, fun j hj => by omega, Below.refl _ _⟩
    case round =>
      obtain ⟨k, hk, rfl, hok, hbel⟩ := hrel
      obtain ⟨p1, p2⟩ := rok_prev hok k (Nat.le_refl _)
      have HOK := Lib.hid hok
      clear hok
      by_cases hlt : k < xs.length
      · obtain ⟨b, o, hA, hb, c0, c1⟩ := h.at2 hlt
        have d0 := (hbel.cell (p := ⟨b, o + k * 2, none⟩) hb).trans c0
        have d1 := (hbel.cell (p := ⟨b, o + k * 2 + 1, none⟩) hb).trans c1
        subst hA
        clear c0 c1
        go_wp2_with fail
        by_cases q1 : 0 ≤ rs xs k ∧ rs xs k ≤ 10000
        · refine (tvT _ _ q1.1 q1.2).mono ?_
          rintro e w1 ⟨rfl, rfl⟩
          go_wp2_with fail
          by_cases q2 : 0 ≤ re xs k ∧ re xs k ≤ 10000
          · refine (tvT _ _ q2.1 q2.2).mono ?_
            rintro e w1 ⟨rfl, rfl⟩
            by_cases q3 : re xs k ≤ rs xs k
            · go_wp2_with fail
              go_ret
              exact ⟨ret_bool (rvB_no fun hv => by obtain ⟨_, a2, a3⟩ := hv.2 k hlt; omega).symm, hbel.alloc hbel.size _⟩
            · go_wp2_with fail
              obtain ⟨wo, hwo⟩ : ∃ wo : World, wo = wr.alloc (Obj.cells #[Value.int IntKind.i64 (rs xs k), Value.int IntKind.i64 (re xs k)] 25) := ⟨_, rfl⟩
              rw [← hwo]
              have n0 : wo.cell? ⟨wr.heap.size, 0, none⟩ = some (.int .i64 (rs xs k)) := by rw [hwo]; exact cell_new _ _ _ 0
              have belo := hbel.alloc hbel.size (Obj.cells #[Value.int IntKind.i64 (rs xs k), Value.int IntKind.i64 (re xs k)] 25)
              rw [← hwo] at belo
              clear hwo d0 d1
              cases k with
              | zero =>
                go_quiet (fail)
                go_wp2_with fail
                refine ⟨⟨1, by omega, by go_num, ?_, below_drewN' belo _⟩, by simp [intOf]; omega⟩
                intro j hj
                obtain rfl : j = 0 := by omega
                exact ⟨q1.1, by omega, q2.2⟩
              | succ m =>
                obtain ⟨b', o', hA, hb', c0, c1⟩ := h.at2 (i := m) (by omega)
                injection hA with hA
                injection hA with hA1 hA2
                subst hA1 hA2
                have m0 := (belo.cell (p := ⟨b, o + m * 2, none⟩) hb').trans c0
                clear c0 c1
                have i1 : (m : Int) < (xs.length : Int) := by omega
                have i2 : (0 : Int) < (m : Int) + 1 := by omega
                have i3 : (0 : Int) ≤ (m : Int) := by omega
                have e5 : IntKind.i64.wrap (m : Int) = (m : Int) := IntWalk.i64_in _ (by omega)
                have e6 : (m : Int) + 1 - 1 = (m : Int) := by omega
                go_quiet (fail)
                by_cases q4 : rs xs (m + 1) < rs xs m
                · go_wp2_with fail
                  go_ret
                  exact ⟨ret_bool (rvB_no fun hv => by have a1 := (hv.2 (m + 1) hlt).1; simp only [rprev] at a1; omega).symm, below_drewN' belo _⟩
                · go_wp2_with fail
                  refine ⟨⟨m + 2, by omega, by go_num, ?_, below_drewN' belo _⟩, by simp [intOf]; omega⟩
                  intro j hj
                  rcases Nat.lt_or_ge j (m + 1) with h1 | h1
                  · exact HOK.out j h1
                  · obtain rfl : j = m + 1 := by omega
                    exact ⟨by simp only [rprev]; omega, by omega, q2.2⟩
          · refine (tvF _ _ (by omega)).mono ?_
            rintro e w1 ⟨rfl, rfl⟩
            go_wp2_with fail
            go_ret
            exact ⟨ret_bool (rvB_no fun hv => q2 (by obtain ⟨a1, a2, a3⟩ := hv.2 k hlt; omega)).symm, hbel.alloc hbel.size _⟩
        · refine (tvF _ _ (by omega)).mono ?_
          rintro e w1 ⟨rfl, rfl⟩
          go_wp2_with fail
          go_ret
          exact ⟨ret_bool (rvB_no fun hv => q1 (by obtain ⟨a1, a2, a3⟩ := hv.2 k hlt; omega)).symm, hbel.alloc hbel.size _⟩
      · go_wp2_with fail
        go_ret
        have : k = xs.length := by omega
        subst this
        exact ⟨ret_bool (rvB_yes ⟨by omega, HOK.out⟩).symm, hbel⟩

section
variable {A : Option Addr} {c : Nat} {xs : List Rn} {w : World}
theorem sRV_yes (h : Cells w A (fr xs)) (hl : xs.length ≤ 1048576) (hv : RValid xs) :
    Calls Try.prog 21 #[.slice A xs.length c] w fun e w' => e = .returned (.bool true) ∧ Below w.heap.size w w' := by
  rw [← rvB_yes hv]; exact sRV_any A c xs w h hl
theorem sRV_no (h : Cells w A (fr xs)) (hl : xs.length ≤ 1048576) (hv : ¬ RValid xs) :
    Calls Try.prog 21 #[.slice A xs.length c] w fun e w' => e = .returned (.bool false) ∧ Below w.heap.size w w' := by
  rw [← rvB_no hv]; exact sRV_any A c xs w h hl
theorem iRV_yes (h : Cells w A (fr xs)) (hl : xs.length ≤ 1048576) (hv : RValid xs) :
    Calls Try.prog 19 #[.slice A xs.length c] w fun e w' => e = .returned (.bool true) ∧ Below w.heap.size w w' := by
  rw [← rvB_yes hv]; exact iRV_any A c xs w h hl
theorem iRV_no (h : Cells w A (fr xs)) (hl : xs.length ≤ 1048576) (hv : ¬ RValid xs) :
    Calls Try.prog 19 #[.slice A xs.length c] w fun e w' => e = .returned (.bool false) ∧ Below w.heap.size w w' := by
  rw [← rvB_no hv]; exact iRV_any A c xs w h hl
end

/-- Runs and a rest. -/
def ROk (xs : List Rn) (rest : Int) : Prop := RValid xs ∧ 0 ≤ rest ∧ rest ≤ 600

end Go.Proofs.Ytmnoidgfcpbmgaa
