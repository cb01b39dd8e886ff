import Derived.Test.YtmpkdnikkganlaaStopsG
namespace Go.Proofs.Ytmpkdnikkganlaa
open Go.RowKit

theorem Valid.inDay {n : Int} {xs : List St} (h : Valid n xs) {s : St} (hs : s ∈ xs) : InDay s := by
  obtain ⟨i, hi, rfl⟩ := List.getElem_of_mem hs
  have t := h.times hi
  have e1 : ar xs i = xs[i].a := by simp [ar, List.getElem?_eq_getElem hi]
  have e2 : lv xs i = xs[i].l := by simp [lv, List.getElem?_eq_getElem hi]
  rw [e1, e2] at t
  exact ⟨t.1, by omega, by omega, t.2.2⟩

set_option maxRecDepth 100000 in
theorem iLater_yes (n k : Int) (A : Option Addr) (c : Nat) (xs ys : List St) (w : World) (h : Cells w A (fl xs)) (hl : xs.length ≤ 1048576) (hv : Valid n xs) (k1 : -10000 ≤ k) (k2 : k ≤ 10000) (hy : ys = (xs).map (sh k)) (hv2 : Valid n ys) :
    Calls Try.prog 11 #[.int .i64 n, .slice A xs.length c, .int .i64 k] w (PairPost ys true w) := by
  have HD := Lib.hid (show ∀ s ∈ xs, InDay s from fun s hs => hv.inDay (by exact hs))
  have HY := Lib.hid hy
  have HV2 := Lib.hid hv2
  have hly : ys.length ≤ 1048576 := by rw [hy]; simpa using hl
  clear hy hv2
  go_enter Try.func11, Try.ntmps11
  go_wp2_with fail
  refine (link_yes (h.alloc _) hl hv).mono ?_
  rintro e w1 ⟨b, rfl, hch, b1⟩
  have ck : w1.cell? ⟨w.heap.size, 0, none⟩ = some (.int .i64 k) := (b1.cell (p := ⟨w.heap.size, 0, none⟩) (by simp)).trans (cell_new w _ _ 0)
  have HC := Lib.hid hch
  have hz : w.heap.size < w1.heap.size := by have := b1.size; simp at this; omega
  have B1 := Lib.hid (show Below w.heap.size w w1 from ((Below.refl _ _).alloc (Nat.le_refl _) _).trans (b1.mono (by simp)))
  clear h hv hch b1
  have e1 : decide (k < -10000) = false := by simp; omega
  have e2 : decide (10000 < k) = false := by simp; omega
  go_wp2_with fail
  have E := eachLater k w.heap.size k1 k2 (xs) _ w1 HC.out HD.out ck hz
  rw [← HY.out] at E
  refine E.mono ?_
  clear E
  rintro e w2 ⟨a2, rfl, ch2, b2⟩
  have B2 := Lib.hid (B1.out.trans (b2.mono B1.out.size))
  have HC2 := Lib.hid ch2
  clear ch2 b2 ck hz B1 HC
  go_wp2_with fail
  refine (checked_yes n ys a2 w2 HC2.out hly HV2.out).mono ?_
  rintro e w3 ⟨A3, c3, rfl, own3, b3⟩
  have R := Lib.hid (And.intro (own3.base B2.out.size) (B2.out.trans (b3.mono B2.out.size)))
  clear own3 b3
  go_wp2_with fail
  go_ret2
  exact ⟨A3, c3, rfl, R.out.1, R.out.2⟩

set_option maxRecDepth 100000 in
theorem iLater_no (n k : Int) (A : Option Addr) (c : Nat) (xs ys : List St) (w : World) (h : Cells w A (fl xs)) (hl : xs.length ≤ 1048576) (hy : ys = (xs).map (sh k)) (hno : ¬ (Valid n xs ∧ -10000 ≤ k ∧ k ≤ 10000 ∧ Valid n ys)) :
    Calls Try.prog 11 #[.int .i64 n, .slice A xs.length c, .int .i64 k] w (PairPost [] false w) := by
  by_cases hv : Valid n xs
  · by_cases k1 : k < -10000
    · clear hno hy
      go_enter Try.func11, Try.ntmps11
      go_wp2_with fail
      refine (link_yes (h.alloc _) hl hv).mono ?_
      rintro e w1 ⟨b, rfl, hch, b1⟩
      have ck : w1.cell? ⟨w.heap.size, 0, none⟩ = some (.int .i64 k) := (b1.cell (p := ⟨w.heap.size, 0, none⟩) (by simp)).trans (cell_new w _ _ 0)
      have hz : w.heap.size < w1.heap.size := by have := b1.size; simp at this; omega
      have B1 := Lib.hid (show Below w.heap.size w w1 from ((Below.refl _ _).alloc (Nat.le_refl _) _).trans (b1.mono (by simp)))
      clear h hv hch b1
      go_wp2_with fail
      go_ret2
      exact ⟨_, _, rfl, Own.empty w1 _ B1.out.size, B1.out.alloc B1.out.size _⟩
    · have e1 : decide (k < -10000) = false := by simp; omega
      by_cases k2 : 10000 < k
      · clear hno hy
        go_enter Try.func11, Try.ntmps11
        go_wp2_with fail
        refine (link_yes (h.alloc _) hl hv).mono ?_
        rintro e w1 ⟨b, rfl, hch, b1⟩
        have ck : w1.cell? ⟨w.heap.size, 0, none⟩ = some (.int .i64 k) := (b1.cell (p := ⟨w.heap.size, 0, none⟩) (by simp)).trans (cell_new w _ _ 0)
        have hz : w.heap.size < w1.heap.size := by have := b1.size; simp at this; omega
        have B1 := Lib.hid (show Below w.heap.size w w1 from ((Below.refl _ _).alloc (Nat.le_refl _) _).trans (b1.mono (by simp)))
        clear h hv hch b1
        go_wp2_with fail
        go_ret2
        exact ⟨_, _, rfl, Own.empty w1 _ B1.out.size, B1.out.alloc B1.out.size _⟩
      · have k1' : -10000 ≤ k := by omega
        have k2' : k ≤ 10000 := by omega
        have HV2 := Lib.hid (show ¬ Valid n ys from fun h2 => hno ⟨hv, k1', k2', h2⟩)
        have HD := Lib.hid (show ∀ s ∈ xs, InDay s from fun s hs => hv.inDay (by exact hs))
        have HY := Lib.hid hy
        have hly : ys.length ≤ 1048576 := by rw [hy]; simpa using hl
        clear hy hno k1 k2
        have e2 : decide (10000 < k) = false := by simp; omega
        go_enter Try.func11, Try.ntmps11
        go_wp2_with fail
        refine (link_yes (h.alloc _) hl hv).mono ?_
        rintro e w1 ⟨b, rfl, hch, b1⟩
        have ck : w1.cell? ⟨w.heap.size, 0, none⟩ = some (.int .i64 k) := (b1.cell (p := ⟨w.heap.size, 0, none⟩) (by simp)).trans (cell_new w _ _ 0)
        have HC := Lib.hid hch
        have hz : w.heap.size < w1.heap.size := by have := b1.size; simp at this; omega
        have B1 := Lib.hid (show Below w.heap.size w w1 from ((Below.refl _ _).alloc (Nat.le_refl _) _).trans (b1.mono (by simp)))
        clear h hv hch b1
        go_wp2_with fail
        have E := eachLater k w.heap.size k1' k2' (xs) _ w1 HC.out HD.out ck hz
        rw [← HY.out] at E
        refine E.mono ?_
        clear E
        rintro e w2 ⟨a2, rfl, ch2, b2⟩
        have B2 := Lib.hid (B1.out.trans (b2.mono B1.out.size))
        have HC2 := Lib.hid ch2
        clear ch2 b2 ck hz B1 HC
        go_wp2_with fail
        refine (checked_no n ys a2 w2 HC2.out hly HV2.out).mono ?_
        rintro e w3 ⟨A3, c3, rfl, own3, b3⟩
        have R := Lib.hid (And.intro (own3.base B2.out.size) (B2.out.trans (b3.mono B2.out.size)))
        clear own3 b3
        go_wp2_with fail
        go_ret2
        exact ⟨A3, c3, rfl, R.out.1, R.out.2⟩
  · clear hno hy
    go_enter Try.func11, Try.ntmps11
    go_wp2_with fail
    refine (link_no (h.alloc _) hl hv).mono ?_
    rintro e w1 ⟨rfl, b1⟩
    have B1 := Lib.hid (show Below w.heap.size w w1 from ((Below.refl _ _).alloc (Nat.le_refl _) _).trans (b1.mono (by simp)))
    clear h hv b1
    go_wp2_with fail
    go_ret2
    exact ⟨_, _, rfl, Own.empty w1 _ B1.out.size, B1.out.alloc B1.out.size _⟩

end Go.Proofs.Ytmpkdnikkganlaa
