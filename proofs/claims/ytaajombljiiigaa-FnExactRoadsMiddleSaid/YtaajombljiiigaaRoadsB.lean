import Derived.Test.YtaajombljiiigaaRoadsA
import Derived.Test.YtaajombljiiigaaIns
import Derived.Test.YtaajombljiiigaaBoxI
namespace Go.Proofs.Ytaajombljiiigaa
open Go.RowKit

open Classical in
/-- Whether the list are roads of n towns. -/
noncomputable def dvB (n : Int) (xs : List Rd3) : Bool := decide (DValid n xs)
theorem dvB_yes {n : Int} {xs : List Rd3} (h : DValid n xs) : dvB n xs = true := by simp [dvB, h]
theorem dvB_no {n : Int} {xs : List Rd3} (h : ¬ DValid n xs) : dvB n xs = false := by simp [dvB, h]

theorem dok_succ {n : Int} {xs : List Rd3} {k : Nat} (h : ∀ j, j < k → dok n xs j) (hk : dok n xs k) : ∀ j, j < k + 1 → dok n xs j := by
  intro j hj
  rcases Nat.lt_or_ge j k with g | g
  · exact h j g
  · obtain rfl : j = k := by omega
    exact hk
theorem no_succ {xs : List Rd3} {j k : Nat} (h : ∀ l, l < j → ¬ (ra xs l = ra xs k ∧ rb xs l = rb xs k)) (hj : ¬ (ra xs j = ra xs k ∧ rb xs j = rb xs k)) : ∀ l, l < j + 1 → ¬ (ra xs l = ra xs k ∧ rb xs l = rb xs k) := by
  intro l hl
  rcases Nat.lt_or_ge l j with g | g
  · exact h l g
  · obtain rfl : l = j := by omega
    exact hj

set_option maxRecDepth 100000 in
set_option maxHeartbeats 1000000 in
theorem sDV_big (n : Int) (A : Option Addr) (c : Nat) (xs : List Rd3) (w : World) (h : Cells w A (fd xs)) (hl : xs.length ≤ 2000000) :
    Calls Try.prog 11 #[.int .i64 n, .slice A xs.length c] w fun e w' => e = .returned (.bool (dvB n xs)) ∧ Below w.heap.size w w' := by
  by_cases hn : 1 ≤ n ∧ n ≤ 8
  · obtain ⟨n1, n8⟩ := hn
    have en : IntKind.i64.wrap (n - 1) = n - 1 := IntWalk.i64_in _ (by omega)
    go_enter Try.func11, Try.ntmps11
    go_wp2_with fail
    refine (inT _ _ _ _ n1 n8).mono ?_
    rintro e _ ⟨rfl, rfl⟩
    by_cases h16 : xs.length ≤ 16
    · go_wp2_with fail
      go_loopw [5] (fun i wr => ∃ k : Nat, k ≤ xs.length ∧ i = .int .i64 k ∧ (∀ j, j < k → dok n xs j) ∧ Below w.heap.size w wr) (fun i _ => xs.length - (intOf i).toNat)
      case atStart => exact ⟨0, Nat.zero_le _, rfl, fun j hj => by omega, Below.refl _ _⟩
      case round =>
        obtain ⟨k, hk, rfl, hok, hbel⟩ := hrel
        have HOK := Lib.hid hok
        have HB := Lib.hid hbel
        clear hok
        by_cases hlt : k < xs.length
        · obtain ⟨b, o, hA, hb, c0, c1, c2⟩ := (h.below hbel).at3 hlt
          subst hA
          have hs := hbel.size
          clear hbel
          have B1 := Lib.hid (HB.out.alloc HB.out.size (.cells #[.int .i64 (ra xs k), .int .i64 (rb xs k), .int .i64 (rm xs k)] 36))
          by_cases p1 : 0 ≤ ra xs k ∧ ra xs k ≤ n - 1
          · have ea : IntKind.i64.wrap (ra xs k + 1) = ra xs k + 1 := IntWalk.i64_in _ (by omega)
            by_cases p2 : ra xs k + 1 ≤ rb xs k ∧ rb xs k ≤ n - 1
            · by_cases p3 : 1 ≤ rm xs k ∧ rm xs k ≤ 99
              · go_wp2_with fail
                refine (inT _ _ _ _ p1.1 p1.2).mono ?_
                rintro e _ ⟨rfl, rfl⟩
                go_wp2_with fail
                refine (inT _ _ _ _ p2.1 p2.2).mono ?_
                rintro e _ ⟨rfl, rfl⟩
                go_wp2_with fail
                refine (inT _ _ _ _ p3.1 p3.2).mono ?_
                rintro e _ ⟨rfl, rfl⟩
                go_wp2_with fail
                obtain ⟨w1, hw1⟩ : ∃ w1, w1 = wr.alloc (.cells #[.int .i64 (ra xs k), .int .i64 (rb xs k), .int .i64 (rm xs k)] 36) := ⟨_, rfl⟩
                have BX := Lib.hid (show BoxI w1 wr.heap.size [ra xs k, rb xs k, rm xs k] by rw [hw1]; exact BoxI.new3 wr _ _ _ _)
                rw [← hw1]
                rw [← hw1] at B1
                clear hw1
                go_loopw [7] (fun i ws => ∃ j : Nat, j ≤ k ∧ i = .int .i64 j ∧ (∀ l, l < j → ¬ (ra xs l = ra xs k ∧ rb xs l = rb xs k)) ∧ Below w1.heap.size w1 ws) (fun i _ => k - (intOf i).toNat)
                case atStart => exact ⟨0, Nat.zero_le _, rfl, fun l hl => by omega, Below.refl _ _⟩
                case round =>
                  obtain ⟨j, hj, rfl, hno, hb2⟩ := hrel
                  have HNO := Lib.hid hno
                  have HB2 := Lib.hid hb2
                  clear hno
                  by_cases hjk : j < k
                  · obtain ⟨x0, x1, -⟩ := (BX.out.below hb2).three
                    obtain ⟨b', o', hA, -, d0, d1, -⟩ := (h.below (B1.out.trans (hb2.mono B1.out.size))).at3 (show j < xs.length by omega)
                    injection hA with hA
                    injection hA with hA1 hA2
                    subst hA1
                    subst hA2
                    clear hb2 c0 c1 c2
                    have i1 : (j : Int) < (k : Int) := by omega
                    have i2 : (j : Int) < (xs.length : Int) := by omega
                    by_cases q1 : ra xs j = ra xs k
                    · have e1 : (ra xs j == ra xs k) = true := by simp [q1]
                      by_cases q2 : rb xs j = rb xs k
                      · have e2 : (rb xs j == rb xs k) = true := by simp [q2]
                        have N := Lib.hid (show ¬ DValid n xs from fun g => (g.2.2.2 k hlt).2.2.2.2.2 j hjk ⟨q1, q2⟩)
                        clear q1 q2
                        go_wp2_with fail
                        go_quiet (fail)
                        go_wp2_with fail
                        go_ret
                        exact ⟨ret_bool (dvB_no N.out).symm, below_drewN' (B1.out.trans (HB2.out.mono B1.out.size)) _⟩
                      · have e2 : (rb xs j == rb xs k) = false := by simp [q2]
                        have N := Lib.hid (show ¬ (ra xs j = ra xs k ∧ rb xs j = rb xs k) from fun g => q2 g.2)
                        clear q1 q2
                        go_wp2_with fail
                        go_quiet (fail)
                        go_wp2_with fail
                        exact ⟨⟨j + 1, by omega, by go_num, no_succ HNO.out N.out, below_drewN' HB2.out _⟩, by simp [intOf]; omega⟩
                    · have e1 : (ra xs j == ra xs k) = false := by simp [q1]
                      have N := Lib.hid (show ¬ (ra xs j = ra xs k ∧ rb xs j = rb xs k) from fun g => q1 g.1)
                      clear q1
                      go_wp2_with fail
                      go_quiet (fail)
                      go_wp2_with fail
                      exact ⟨⟨j + 1, by omega, by go_num, no_succ HNO.out N.out, below_drewN' HB2.out _⟩, by simp [intOf]; omega⟩
                  · obtain rfl : j = k := by omega
                    clear hb2 c0 c1 c2
                    go_wp2_with fail
                    exact ⟨⟨j + 1, by omega, by go_num, dok_succ HOK.out ⟨p1.1, by omega, by omega, p3.1, p3.2, HNO.out⟩, B1.out.trans (HB2.out.mono B1.out.size)⟩, by simp [intOf]; omega⟩
              · have N := Lib.hid (show ¬ DValid n xs from fun g => p3 ⟨(g.2.2.2 k hlt).2.2.2.1, (g.2.2.2 k hlt).2.2.2.2.1⟩)
                have HP := Lib.hid (show rm xs k < 1 ∨ 99 < rm xs k by omega)
                clear p3
                go_wp2_with fail
                refine (inT _ _ _ _ p1.1 p1.2).mono ?_
                rintro e _ ⟨rfl, rfl⟩
                go_wp2_with fail
                refine (inT _ _ _ _ p2.1 p2.2).mono ?_
                rintro e _ ⟨rfl, rfl⟩
                go_wp2_with fail
                refine (inF _ _ _ _ HP.out).mono ?_
                rintro e _ ⟨rfl, rfl⟩
                go_wp2_with fail
                go_ret
                exact ⟨ret_bool (dvB_no N.out).symm, B1.out⟩
            · have N := Lib.hid (show ¬ DValid n xs from fun g => p2 ⟨by have := (g.2.2.2 k hlt).2.1; omega, by have := (g.2.2.2 k hlt).2.2.1; omega⟩)
              have HP := Lib.hid (show rb xs k < ra xs k + 1 ∨ n - 1 < rb xs k by omega)
              clear p2
              go_wp2_with fail
              refine (inT _ _ _ _ p1.1 p1.2).mono ?_
              rintro e _ ⟨rfl, rfl⟩
              go_wp2_with fail
              refine (inF _ _ _ _ HP.out).mono ?_
              rintro e _ ⟨rfl, rfl⟩
              go_wp2_with fail
              go_ret
              exact ⟨ret_bool (dvB_no N.out).symm, B1.out⟩
          · have N := Lib.hid (show ¬ DValid n xs from fun g => p1 ⟨(g.2.2.2 k hlt).1, by have h1 := (g.2.2.2 k hlt).2.1; have h2 := (g.2.2.2 k hlt).2.2.1; omega⟩)
            have HP := Lib.hid (show ra xs k < 0 ∨ n - 1 < ra xs k by omega)
            clear p1
            go_wp2_with fail
            refine (inF _ _ _ _ HP.out).mono ?_
            rintro e _ ⟨rfl, rfl⟩
            go_wp2_with fail
            go_ret
            exact ⟨ret_bool (dvB_no N.out).symm, B1.out⟩
        · obtain rfl : k = xs.length := by omega
          go_wp2_with fail
          go_ret
          exact ⟨ret_bool (dvB_yes ⟨n1, n8, h16, HOK.out⟩).symm, HB.out⟩
    · have N := Lib.hid (show ¬ DValid n xs from fun g => h16 g.2.2.1)
      go_wp2_with fail
      go_ret
      exact ⟨ret_bool (dvB_no N.out).symm, Below.refl _ _⟩
  · have N := Lib.hid (show ¬ DValid n xs from fun g => hn ⟨g.1, g.2.1⟩)
    have HN := Lib.hid (show n < 1 ∨ 8 < n by omega)
    clear hn
    go_enter Try.func11, Try.ntmps11
    go_wp2_with fail
    refine (inF _ _ _ _ HN.out).mono ?_
    rintro e _ ⟨rfl, rfl⟩
    go_wp2_with fail
    go_ret
    exact ⟨ret_bool (dvB_no N.out).symm, Below.refl _ _⟩
theorem sDV_any (n : Int) (A : Option Addr) (c : Nat) (xs : List Rd3) (w : World) (h : Cells w A (fd xs)) (hl : xs.length ≤ 1048576) :
    Calls Try.prog 11 #[.int .i64 n, .slice A xs.length c] w fun e w' => e = .returned (.bool (dvB n xs)) ∧ Below w.heap.size w w' :=
  sDV_big n A c xs w h (by omega)
end Go.Proofs.Ytaajombljiiigaa
