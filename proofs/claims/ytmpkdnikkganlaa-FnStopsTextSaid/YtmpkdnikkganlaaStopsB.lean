import Derived.Test.YtmpkdnikkganlaaStopsW
import Derived.Test.YtmpkdnikkganlaaIns
namespace Go.Proofs.Ytmpkdnikkganlaa
open Go.RowKit

open Classical in
/-- Whether the list is a timetable, as a bool. -/
noncomputable def vB (n : Int) (xs : List St) : Bool := decide (Valid n xs)
theorem vB_yes {n : Int} {xs : List St} (h : Valid n xs) : vB n xs = true := by simp [vB, h]
theorem vB_no {n : Int} {xs : List St} (h : ¬ Valid n xs) : vB n xs = false := by simp [vB, h]

set_option maxRecDepth 100000 in
set_option maxHeartbeats 1000000 in
theorem sValid_any (n : Int) (A : Option Addr) (c : Nat) (xs : List St) (w : World) (h : Cells w A (fl xs)) (hl : xs.length ≤ 1048576) :
    Calls Try.prog 13 #[.int .i64 n, .slice A xs.length c] w fun e w' => e = .returned (.bool (vB n xs)) ∧ Below w.heap.size w w' := by
  by_cases g1 : 1 ≤ n ∧ n ≤ 8
  · obtain ⟨g1, g2⟩ := g1
    by_cases g3 : 2 ≤ xs.length ∧ xs.length ≤ 8
    · obtain ⟨g3, g4⟩ := g3
      go_enter Try.func13, Try.ntmps13
      go_wp2_with fail
      refine (inT _ _ _ _ g1 g2).mono ?_
      rintro e w1 ⟨rfl, rfl⟩
      go_wp2_with fail
      refine (inT _ _ _ _ (by omega) (by omega)).mono ?_
      rintro e w1 ⟨rfl, rfl⟩
      go_wp2_with fail
      go_loopw [5, 6] (fun l i wr => ∃ k : Nat, k ≤ xs.length ∧ l = .int .i64 (pv xs k) ∧ i = .int .i64 k ∧ (∀ j, j < k → ok n xs j) ∧ Below w.heap.size w wr) (fun _ i _ => xs.length - (intOf i).toNat)
      case atStart => exact ⟨0, Nat.zero_le _, rfl, rfl, fun j hj => by omega, Below.refl _ _⟩
      case round =>
        obtain ⟨k, hk, rfl, rfl, hok, hbel⟩ := hrel
        obtain ⟨p1, p2⟩ := ok_pv hok k (Nat.le_refl _)
        have HOK := Lib.hid hok
        clear hok
        by_cases hlt : k < xs.length
        · obtain ⟨b, o, hA, hb, c0, c1, c2⟩ := h.at3 hlt
          have d0 := (hbel.cell (p := ⟨b, o + k * 3, none⟩) hb).trans c0
          have d1 := (hbel.cell (p := ⟨b, o + k * 3 + 1, none⟩) hb).trans c1
          have d2 := (hbel.cell (p := ⟨b, o + k * 3 + 2, none⟩) hb).trans c2
          subst hA
          clear c0 c1 c2
          go_wp2_with fail
          by_cases q1 : 0 ≤ tw xs k ∧ tw xs k ≤ n - 1
          · refine (inT _ _ _ _ q1.1 q1.2).mono ?_
            rintro e w1 ⟨rfl, rfl⟩
            go_wp2_with fail
            by_cases q2 : pv xs k + 1 ≤ ar xs k ∧ ar xs k ≤ 10000
            · refine (inT _ _ _ _ q2.1 q2.2).mono ?_
              rintro e w1 ⟨rfl, rfl⟩
              go_wp2_with fail
              by_cases q3 : ar xs k ≤ lv xs k ∧ lv xs k ≤ 10000
              · refine (inT _ _ _ _ q3.1 q3.2).mono ?_
                rintro e w1 ⟨rfl, rfl⟩
                go_wp2_with fail
                obtain ⟨wo, hwo⟩ : ∃ wo : World, wo = wr.alloc (Obj.cells #[Value.int IntKind.i64 (tw xs k), Value.int IntKind.i64 (ar xs k), Value.int IntKind.i64 (lv xs k)] 39) := ⟨_, rfl⟩
                have bo : Below (wr.heap.size + 1) wo wo := Below.refl _ _
                have belo : Below w.heap.size w wo := by rw [hwo]; exact hbel.alloc hbel.size _
                have so : wr.heap.size + 1 ≤ wo.heap.size := by rw [hwo]; simp
                have s0 : wo.cell? ⟨wr.heap.size, 0, none⟩ = some (.int .i64 (tw xs k)) := by rw [hwo]; exact cell_new _ _ _ _
                have s2 : wo.cell? ⟨wr.heap.size, 2, none⟩ = some (.int .i64 (lv xs k)) := by rw [hwo]; exact cell_new _ _ _ _
                rw [← hwo]
                clear hwo d0 d1 d2 hbel bo
                generalize wr.heap.size = S at so s0 s2 ⊢
                go_loopw [8] (fun j wi => ∃ m : Nat, m ≤ k ∧ j = .int .i64 m ∧ (∀ i, i < m → tw xs i ≠ tw xs k) ∧ Below wo.heap.size wo wi) (fun j _ => k - (intOf j).toNat)
                case atStart => exact ⟨0, Nat.zero_le _, rfl, fun i hi => by omega, Below.refl _ _⟩
                case round =>
                  obtain ⟨m, hm, rfl, hne, hbi⟩ := hrel
                  have HNE := Lib.hid hne
                  clear hne
                  have s0' := (hbi.cell (p := ⟨S, 0, none⟩) (by exact so)).trans s0
                  have s2' := (hbi.cell (p := ⟨S, 2, none⟩) (by exact so)).trans s2
                  by_cases hmk : m < k
                  · obtain ⟨b', o', hA', hb', c0, -, -⟩ := h.at3 (i := m) (by omega)
                    injection hA' with hA'
                    injection hA' with hA1 hA2
                    subst hA1 hA2
                    have d0 := (hbi.cell (p := ⟨b, o + m * 3, none⟩) (by have := belo.size; show b < _; omega)).trans ((belo.cell (p := ⟨b, o + m * 3, none⟩) hb).trans c0)
                    have i1 : (m : Int) < (xs.length : Int) := by omega
                    by_cases heq : tw xs m = tw xs k
                    · have heq' : (tw xs m == tw xs k) = true := by simp [heq]
                      have HQ := Lib.hid heq
                      clear heq
                      go_wp2_with fail
                      go_quiet (fail)
                      go_wp2_with fail
                      go_ret
                      exact ⟨ret_bool (vB_no fun hv => (hv.2.2.2.2 k hlt).2.2.2.2.2 m hmk HQ.out).symm, below_drewN' (belo.trans (hbi.mono belo.size)) _⟩
                    · have heq' : (tw xs m == tw xs k) = false := by simp [heq]
                      have HQ := Lib.hid heq
                      clear heq
                      go_wp2_with fail
                      go_quiet (fail)
                      go_wp2_with fail
                      refine ⟨⟨m + 1, by omega, by go_num, ?_, below_drewN' hbi _⟩, by simp [intOf]; omega⟩
                      intro i hi
                      rcases Nat.lt_or_ge i m with h1 | h1
                      · exact HNE.out i h1
                      · obtain rfl : i = m := by omega
                        exact HQ.out
                  · go_wp2_with fail
                    refine ⟨⟨k + 1, by omega, by rfl, by go_num, ?_, belo.trans (hbi.mono belo.size)⟩, by simp [intOf]; omega⟩
                    intro j hj
                    rcases Nat.lt_or_ge j k with h1 | h1
                    · exact HOK.out j h1
                    · obtain rfl : j = k := by omega
                      exact ⟨q1.1, q1.2, by omega, q3.1, q3.2, fun i hi => HNE.out i (by omega)⟩
              · refine (inF _ _ _ _ (by omega)).mono ?_
                rintro e w1 ⟨rfl, rfl⟩
                go_wp2_with fail
                go_ret
                exact ⟨ret_bool (vB_no fun hv => q3 ⟨(hv.2.2.2.2 k hlt).2.2.2.1, (hv.2.2.2.2 k hlt).2.2.2.2.1⟩).symm, hbel.alloc hbel.size _⟩
            · refine (inF _ _ _ _ (by omega)).mono ?_
              rintro e w1 ⟨rfl, rfl⟩
              go_wp2_with fail
              go_ret
              exact ⟨ret_bool (vB_no fun hv => q2 (by obtain ⟨_, _, a3, a4, a5, _⟩ := hv.2.2.2.2 k hlt; omega)).symm, hbel.alloc hbel.size _⟩
          · refine (inF _ _ _ _ (by omega)).mono ?_
            rintro e w1 ⟨rfl, rfl⟩
            go_wp2_with fail
            go_ret
            exact ⟨ret_bool (vB_no fun hv => q1 ⟨(hv.2.2.2.2 k hlt).1, (hv.2.2.2.2 k hlt).2.1⟩).symm, hbel.alloc hbel.size _⟩
        · go_wp2_with fail
          go_ret
          have : k = xs.length := by omega
          subst this
          exact ⟨ret_bool (vB_yes ⟨g1, g2, g3, g4, HOK.out⟩).symm, hbel⟩
    · have g3' : (xs.length : Int) < 2 ∨ (8 : Int) < (xs.length : Int) := by omega
      have H := Lib.hid (vB_no (n := n) (xs := xs) (fun hv => g3 ⟨hv.2.2.1, hv.2.2.2.1⟩))
      clear g3
      go_enter Try.func13, Try.ntmps13
      go_wp2_with fail
      refine (inT _ _ _ _ g1 g2).mono ?_
      rintro e w1 ⟨rfl, rfl⟩
      go_wp2_with fail
      refine (inF _ _ _ _ g3').mono ?_
      rintro e w1 ⟨rfl, rfl⟩
      go_wp2_with fail
      go_ret
      exact ⟨ret_bool H.out.symm, Below.refl _ _⟩
  · have g1' : n < 1 ∨ 8 < n := by omega
    have H := Lib.hid (vB_no (n := n) (xs := xs) (fun hv => g1 ⟨hv.1, hv.2.1⟩))
    clear g1
    go_enter Try.func13, Try.ntmps13
    go_wp2_with fail
    refine (inF _ _ _ _ g1').mono ?_
    rintro e w1 ⟨rfl, rfl⟩
    go_wp2_with fail
    go_ret
    exact ⟨ret_bool H.out.symm, Below.refl _ _⟩

theorem sValid_yes {n : Int} {A : Option Addr} {c : Nat} {xs : List St} {w : World} (h : Cells w A (fl xs)) (hl : xs.length ≤ 1048576) (hv : Valid n xs) :
    Calls Try.prog 13 #[.int .i64 n, .slice A xs.length c] w fun e w' => e = .returned (.bool true) ∧ Below w.heap.size w w' := by
  rw [← vB_yes hv]; exact sValid_any n A c xs w h hl
theorem sValid_no {n : Int} {A : Option Addr} {c : Nat} {xs : List St} {w : World} (h : Cells w A (fl xs)) (hl : xs.length ≤ 1048576) (hv : ¬ Valid n xs) :
    Calls Try.prog 13 #[.int .i64 n, .slice A xs.length c] w fun e w' => e = .returned (.bool false) ∧ Below w.heap.size w w' := by
  rw [← vB_no hv]; exact sValid_any n A c xs w h hl
end Go.Proofs.Ytmpkdnikkganlaa
