import Derived.Test.YtdmbgnbegnlcaaaStopsK
namespace Go.Proofs.Ytdmbgnbegnlcaaa
open Go.RowKit

set_option maxRecDepth 100000 in
set_option maxHeartbeats 1000000 in
theorem sLater_out (n k : Int) (A : Option Addr) (c : Nat) (xs : List St) (w : World) (h : Cells w A (fl xs)) (hl : xs.length ≤ 1048576) (hno : ¬ (Valid n xs ∧ -10000 ≤ k ∧ k ≤ 10000)) :
    Calls Try.prog 49 #[.int .i64 n, .slice A xs.length c, .int .i64 k] w (PairPost [] false w) := by
  by_cases hx : xs.length = 0
  · obtain rfl : xs = [] := List.eq_nil_of_length_eq_zero hx
    clear hno hx hl h
    have R := Lib.hid (show Below w.heap.size w (w.alloc (.cells #[] 43)) from (Below.refl _ _).alloc (Nat.le_refl _) _)
    go_enter Try.func49, Try.ntmps49
    go_wp2_with fail
    refine wp_loop_rounds 1 ?_
    rw [rounds_succ]
    go_wp2_with fail
    refine (sValid_no (xs := []) Cells.nil (by simp) (fun hv => by have := hv.2.2.1; simp at this)).mono ?_
    rintro e w9 ⟨rfl, b9⟩
    have R2 := Lib.hid (R.out.trans (b9.mono R.out.size))
    clear b9
    go_wp2_with fail
    go_ret2
    exact ⟨_, _, rfl, Own.empty w9 _ R2.out.size, R2.out.alloc R2.out.size _⟩
  · by_cases hv : Valid n xs
    · have hk : k < -10000 ∨ 10000 < k := by
        rcases Int.lt_or_le k (-10000) with h1 | h1
        · exact .inl h1
        · rcases Int.lt_or_le (10000) k with h2 | h2
          · exact .inr h2
          · exact absurd ⟨hv, h1, h2⟩ hno
      have i0 : (0 : Int) < (xs.length : Int) := by omega
      have h1 := h.alloc (.cells #[] 43)
      have HV := Lib.hid hv
      have HK := Lib.hid hk
      clear hno hv hk hx
      have R := Lib.hid (show Below w.heap.size w (w.alloc (.cells #[] 43)) from (Below.refl _ _).alloc (Nat.le_refl _) _)
      go_enter Try.func49, Try.ntmps49
      go_wp2_with fail
      refine wp_loop_rounds 1 ?_
      rw [rounds_succ]
      go_wp2_with fail
      refine (sValid_yes h1 hl HV.out).mono ?_
      rintro e w1 ⟨rfl, b1⟩
      have R1 := Lib.hid (R.out.trans (b1.mono R.out.size))
      clear b1 h1 h R
      go_wp2_with fail
      refine (inF _ _ _ _ HK.out).mono ?_
      rintro e w2 ⟨rfl, rfl⟩
      go_wp2_with fail
      refine (sValid_no (xs := []) Cells.nil (by simp) (fun hv => by have := hv.2.2.1; simp at this)).mono ?_
      rintro e w9 ⟨rfl, b9⟩
      have R2 := Lib.hid (R1.out.trans (b9.mono R1.out.size))
      clear b9
      go_wp2_with fail
      go_ret2
      exact ⟨_, _, rfl, Own.empty w9 _ R2.out.size, R2.out.alloc R2.out.size _⟩
    · have i0 : (0 : Int) < (xs.length : Int) := by omega
      have h1 := h.alloc (.cells #[] 43)
      have HV := Lib.hid hv
      clear hno hv hx
      have R := Lib.hid (show Below w.heap.size w (w.alloc (.cells #[] 43)) from (Below.refl _ _).alloc (Nat.le_refl _) _)
      go_enter Try.func49, Try.ntmps49
      go_wp2_with fail
      refine wp_loop_rounds 1 ?_
      rw [rounds_succ]
      go_wp2_with fail
      refine (sValid_no h1 hl HV.out).mono ?_
      rintro e w1 ⟨rfl, b1⟩
      have R1 := Lib.hid (R.out.trans (b1.mono R.out.size))
      clear b1 h1 h R
      go_wp2_with fail
      refine (sValid_no (xs := []) Cells.nil (by simp) (fun hv => by have := hv.2.2.1; simp at this)).mono ?_
      rintro e w9 ⟨rfl, b9⟩
      have R2 := Lib.hid (R1.out.trans (b9.mono R1.out.size))
      clear b9
      go_wp2_with fail
      go_ret2
      exact ⟨_, _, rfl, Own.empty w9 _ R2.out.size, R2.out.alloc R2.out.size _⟩

theorem sLater_no (n k : Int) (A : Option Addr) (c : Nat) (xs ys : List St) (w : World) (h : Cells w A (fl xs)) (hl : xs.length ≤ 1048576) (hy : ys = (xs).map (sh k)) (hno : ¬ (Valid n xs ∧ -10000 ≤ k ∧ k ≤ 10000 ∧ Valid n ys)) :
    Calls Try.prog 49 #[.int .i64 n, .slice A xs.length c, .int .i64 k] w (PairPost [] false w) := by
  by_cases h1 : Valid n xs ∧ -10000 ≤ k ∧ k ≤ 10000
  · exact sLater_bad n k A c xs ys w h hl h1.1 h1.2.1 h1.2.2 hy (fun h2 => hno ⟨h1.1, h1.2.1, h1.2.2, h2⟩)
  · exact sLater_out n k A c xs w h hl h1

set_option maxRecDepth 100000 in
set_option maxHeartbeats 1000000 in
theorem sBack_out (n k : Int) (A : Option Addr) (c : Nat) (xs : List St) (w : World) (h : Cells w A (fl xs)) (hl : xs.length ≤ 1048576) (hno : ¬ (Valid n xs ∧ 0 ≤ k ∧ k ≤ 20000)) :
    Calls Try.prog 52 #[.int .i64 n, .slice A xs.length c, .int .i64 k] w (PairPost [] false w) := by
  by_cases hx : xs.length = 0
  · obtain rfl : xs = [] := List.eq_nil_of_length_eq_zero hx
    clear hno hx hl h
    have R := Lib.hid (show Below w.heap.size w (w.alloc (.cells #[] 43)) from (Below.refl _ _).alloc (Nat.le_refl _) _)
    go_enter Try.func52, Try.ntmps52
    go_wp2_with fail
    refine wp_loop_rounds 1 ?_
    rw [rounds_succ]
    go_wp2_with fail
    refine (sValid_no (xs := []) Cells.nil (by simp) (fun hv => by have := hv.2.2.1; simp at this)).mono ?_
    rintro e w9 ⟨rfl, b9⟩
    have R2 := Lib.hid (R.out.trans (b9.mono R.out.size))
    clear b9
    go_wp2_with fail
    go_ret2
    exact ⟨_, _, rfl, Own.empty w9 _ R2.out.size, R2.out.alloc R2.out.size _⟩
  · by_cases hv : Valid n xs
    · have hk : k < 0 ∨ 20000 < k := by
        rcases Int.lt_or_le k (0) with h1 | h1
        · exact .inl h1
        · rcases Int.lt_or_le (20000) k with h2 | h2
          · exact .inr h2
          · exact absurd ⟨hv, h1, h2⟩ hno
      have i0 : (1 : Int) ≤ (xs.length : Int) := by omega
      have i1 : 0 ≤ (xs.length : Int) - 1 := by omega
      have h1 := h.alloc (.cells #[] 43)
      have HV := Lib.hid hv
      have HK := Lib.hid hk
      clear hno hv hk hx
      have R := Lib.hid (show Below w.heap.size w (w.alloc (.cells #[] 43)) from (Below.refl _ _).alloc (Nat.le_refl _) _)
      go_enter Try.func52, Try.ntmps52
      go_wp2_with fail
      refine wp_loop_rounds 1 ?_
      rw [rounds_succ]
      go_wp2_with fail
      refine (sValid_yes h1 hl HV.out).mono ?_
      rintro e w1 ⟨rfl, b1⟩
      have R1 := Lib.hid (R.out.trans (b1.mono R.out.size))
      clear b1 h1 h R
      go_wp2_with fail
      refine (inF _ _ _ _ HK.out).mono ?_
      rintro e w2 ⟨rfl, rfl⟩
      go_wp2_with fail
      refine (sValid_no (xs := []) Cells.nil (by simp) (fun hv => by have := hv.2.2.1; simp at this)).mono ?_
      rintro e w9 ⟨rfl, b9⟩
      have R2 := Lib.hid (R1.out.trans (b9.mono R1.out.size))
      clear b9
      go_wp2_with fail
      go_ret2
      exact ⟨_, _, rfl, Own.empty w9 _ R2.out.size, R2.out.alloc R2.out.size _⟩
    · have i0 : (1 : Int) ≤ (xs.length : Int) := by omega
      have i1 : 0 ≤ (xs.length : Int) - 1 := by omega
      have h1 := h.alloc (.cells #[] 43)
      have HV := Lib.hid hv
      clear hno hv hx
      have R := Lib.hid (show Below w.heap.size w (w.alloc (.cells #[] 43)) from (Below.refl _ _).alloc (Nat.le_refl _) _)
      go_enter Try.func52, Try.ntmps52
      go_wp2_with fail
      refine wp_loop_rounds 1 ?_
      rw [rounds_succ]
      go_wp2_with fail
      refine (sValid_no h1 hl HV.out).mono ?_
      rintro e w1 ⟨rfl, b1⟩
      have R1 := Lib.hid (R.out.trans (b1.mono R.out.size))
      clear b1 h1 h R
      go_wp2_with fail
      refine (sValid_no (xs := []) Cells.nil (by simp) (fun hv => by have := hv.2.2.1; simp at this)).mono ?_
      rintro e w9 ⟨rfl, b9⟩
      have R2 := Lib.hid (R1.out.trans (b9.mono R1.out.size))
      clear b9
      go_wp2_with fail
      go_ret2
      exact ⟨_, _, rfl, Own.empty w9 _ R2.out.size, R2.out.alloc R2.out.size _⟩

theorem sBack_no (n k : Int) (A : Option Addr) (c : Nat) (xs ys : List St) (w : World) (h : Cells w A (fl xs)) (hl : xs.length ≤ 1048576) (hy : ys = (xs.reverse).map (bk k)) (hno : ¬ (Valid n xs ∧ 0 ≤ k ∧ k ≤ 20000 ∧ Valid n ys)) :
    Calls Try.prog 52 #[.int .i64 n, .slice A xs.length c, .int .i64 k] w (PairPost [] false w) := by
  by_cases h1 : Valid n xs ∧ 0 ≤ k ∧ k ≤ 20000
  · exact sBack_bad n k A c xs ys w h hl h1.1 h1.2.1 h1.2.2 hy (fun h2 => hno ⟨h1.1, h1.2.1, h1.2.2, h2⟩)
  · exact sBack_out n k A c xs w h hl h1
end Go.Proofs.Ytdmbgnbegnlcaaa
