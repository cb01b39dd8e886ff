import Derived.Test.YtdmbgnbegnlcaaaStopsI
namespace Go.Proofs.Ytdmbgnbegnlcaaa
open Go.RowKit

set_option maxRecDepth 100000 in
set_option maxHeartbeats 1000000 in
theorem sBack_yes (n k : Int) (A : Option Addr) (c : Nat) (xs ys : List St) (w : World) (h : Cells w A (fl xs)) (hl : xs.length ≤ 1048576) (hv : Valid n xs) (k1 : 0 ≤ k) (k2 : k ≤ 20000) (hy : ys = (xs.reverse).map (bk k)) (hv2 : Valid n ys) :
    Calls Try.prog 52 #[.int .i64 n, .slice A xs.length c, .int .i64 k] w (PairPost ys true w) := by
  obtain ⟨i0, hi0, hz0, hz1, hz2⟩ := info_parts stop_info
  have l1 : xs.length ≤ ys.length := by rw [hy]; simp
  have l2 : ys.length ≤ xs.length := by rw [hy]; simp
  have l8 := hv.2.2.2.1
  have hly : ys.length ≤ 1048576 := by omega
  have HAT := Lib.hid (show ∀ j, j < xs.length → fl (ys.take (j + 1)) = fl (ys.take j) ++ [tw xs (xs.length - 1 - j), k - lv xs (xs.length - 1 - j), k - ar xs (xs.length - 1 - j)] from fun j hj => by rw [hy]; exact back_at xs k j hj)
  have HV2 := Lib.hid hv2
  have HV := Lib.hid hv
  clear hy hv2 hv
  go_enter Try.func52, Try.ntmps52
  go_wp2_with fail
  go_loopw [8, 9] (fun s i wr => ∃ j : Nat, j ≤ ys.length ∧ i = .int .i64 ((xs.length : Int) - 1 - (j : Int)) ∧ wr.ownsRow w.heap.size 43 3 s j ((fl (ys.take j)).map (Value.int .i64)) ∧ Below w.heap.size w wr) (fun _ i _ => (intOf i + 1).toNat)
  case atStart => exact ⟨0, Nat.zero_le _, by go_num, Own.empty w _ (Nat.le_refl _), (Below.refl _ _).alloc (Nat.le_refl _) _⟩
  case round =>
    obtain ⟨j, hj, rfl, hown, hbel⟩ := hrel
    have HO := Lib.hid hown
    clear hown
    by_cases hlt : j < xs.length
    · have t0 := HV.out.times (i := (xs.length - 1 - j)) (by omega)
      obtain ⟨u0, u1, u2⟩ := t0
      have h1 := h.below (Below.trans (Below.refl _ _) hbel)
      go_wp2_with fail
      refine (sValid_yes h1 hl HV.out).mono ?_
      rintro e w1 ⟨rfl, b1⟩
      have bel1 := hbel.trans (b1.mono hbel.size)
      have HO1 := Lib.hid (own_below HO.out b1)
      obtain ⟨b, o, rfl, hb, c0, c1, c2⟩ := h.at3 (i := (xs.length - 1 - j)) (by omega)
      have d0 := (bel1.cell (p := ⟨b, o + (xs.length - 1 - j) * 3, none⟩) hb).trans c0
      have d1 := (bel1.cell (p := ⟨b, o + (xs.length - 1 - j) * 3 + 1, none⟩) hb).trans c1
      have d2 := (bel1.cell (p := ⟨b, o + (xs.length - 1 - j) * 3 + 2, none⟩) hb).trans c2
      clear b1 hbel h1 c0 c1 c2 HO
      go_wp2_with fail
      refine (inT _ _ _ _ k1 k2).mono ?_
      rintro e w2 ⟨rfl, rfl⟩
      have j1 : 0 ≤ (xs.length : Int) - 1 - (j : Int) := by omega
      have j2 : (xs.length : Int) - 1 - (j : Int) < (xs.length : Int) := by omega
      have j3 : ((xs.length : Int) - 1 - (j : Int)).toNat = xs.length - 1 - j := by omega
      have hown := HO1.out
      go_wp2_with (at_builtin; refine wpList_append_own _ rfl _ _ 25 rfl w.heap.size 43 i0 _ 3 24 Try.underlying25 hi0 hz0 hz1 hz2 rfl (by decide) _ _ _ rfl ((hown.alloc _).alloc _) ⟨w1.heap.size + 1, 0, none⟩ 1 1 [.int .i64 (tw xs (xs.length - 1 - j)), .int .i64 (k - lv xs (xs.length - 1 - j)), .int .i64 (k - ar xs (xs.length - 1 - j))] rfl rfl (cells3_new' _ _ _ _ _ _) (one3 _ _ _) (by unfold maxLen; omega) (by omega) (by have := bel1.size; simp; omega) ?_; intro v' w3 hown' hgrow _; have bel3 := ((bel1.alloc bel1.size _).alloc (by have := bel1.size; simp; omega) _).grown hgrow (by have := bel1.size; simp; omega) (fun q hq => (hown.lt q hq).1); have R := Lib.hid (And.intro hown' bel3); clear hown' hgrow bel3)
      obtain ⟨hown', bel3⟩ := R.out
      refine ⟨⟨j + 1, by omega, by go_num, by rw [HAT.out j hlt]; simpa using hown', bel3⟩, by simp [intOf]; omega⟩
    · obtain rfl : j = ys.length := by omega
      have hown := HO.out
      obtain ⟨A', c', rfl⟩ := own_form hown
      rw [List.take_length] at hown
      have R := Lib.hid (And.intro hown hbel)
      clear hown hbel HO
      go_wp2_with fail
      refine (sValid_yes (Cells.of_own (zs := fl ys) R.out.1) hly HV2.out).mono ?_
      rintro e w2 ⟨rfl, b2⟩
      have R2 := Lib.hid (And.intro (own_below R.out.1 b2) (R.out.2.trans (b2.mono R.out.2.size)))
      clear b2
      go_wp2_with fail
      go_ret2
      exact ⟨A', c', rfl, R2.out.1, R2.out.2⟩

set_option maxRecDepth 100000 in
set_option maxHeartbeats 1000000 in
theorem sBack_bad (n k : Int) (A : Option Addr) (c : Nat) (xs ys : List St) (w : World) (h : Cells w A (fl xs)) (hl : xs.length ≤ 1048576) (hv : Valid n xs) (k1 : 0 ≤ k) (k2 : k ≤ 20000) (hy : ys = (xs.reverse).map (bk k)) (hv2 : ¬ Valid n ys) :
    Calls Try.prog 52 #[.int .i64 n, .slice A xs.length c, .int .i64 k] w (PairPost [] false w) := by
  obtain ⟨i0, hi0, hz0, hz1, hz2⟩ := info_parts stop_info
  have l1 : xs.length ≤ ys.length := by rw [hy]; simp
  have l2 : ys.length ≤ xs.length := by rw [hy]; simp
  have l8 := hv.2.2.2.1
  have hly : ys.length ≤ 1048576 := by omega
  have HAT := Lib.hid (show ∀ j, j < xs.length → fl (ys.take (j + 1)) = fl (ys.take j) ++ [tw xs (xs.length - 1 - j), k - lv xs (xs.length - 1 - j), k - ar xs (xs.length - 1 - j)] from fun j hj => by rw [hy]; exact back_at xs k j hj)
  have HV2 := Lib.hid hv2
  have HV := Lib.hid hv
  clear hy hv2 hv
  go_enter Try.func52, Try.ntmps52
  go_wp2_with fail
  go_loopw [8, 9] (fun s i wr => ∃ j : Nat, j ≤ ys.length ∧ i = .int .i64 ((xs.length : Int) - 1 - (j : Int)) ∧ wr.ownsRow w.heap.size 43 3 s j ((fl (ys.take j)).map (Value.int .i64)) ∧ Below w.heap.size w wr) (fun _ i _ => (intOf i + 1).toNat)
  case atStart => exact ⟨0, Nat.zero_le _, by go_num, Own.empty w _ (Nat.le_refl _), (Below.refl _ _).alloc (Nat.le_refl _) _⟩
  case round =>
    obtain ⟨j, hj, rfl, hown, hbel⟩ := hrel
    have HO := Lib.hid hown
    clear hown
    by_cases hlt : j < xs.length
    · have t0 := HV.out.times (i := (xs.length - 1 - j)) (by omega)
      obtain ⟨u0, u1, u2⟩ := t0
      have h1 := h.below (Below.trans (Below.refl _ _) hbel)
      go_wp2_with fail
      refine (sValid_yes h1 hl HV.out).mono ?_
      rintro e w1 ⟨rfl, b1⟩
      have bel1 := hbel.trans (b1.mono hbel.size)
      have HO1 := Lib.hid (own_below HO.out b1)
      obtain ⟨b, o, rfl, hb, c0, c1, c2⟩ := h.at3 (i := (xs.length - 1 - j)) (by omega)
      have d0 := (bel1.cell (p := ⟨b, o + (xs.length - 1 - j) * 3, none⟩) hb).trans c0
      have d1 := (bel1.cell (p := ⟨b, o + (xs.length - 1 - j) * 3 + 1, none⟩) hb).trans c1
      have d2 := (bel1.cell (p := ⟨b, o + (xs.length - 1 - j) * 3 + 2, none⟩) hb).trans c2
      clear b1 hbel h1 c0 c1 c2 HO
      go_wp2_with fail
      refine (inT _ _ _ _ k1 k2).mono ?_
      rintro e w2 ⟨rfl, rfl⟩
      have j1 : 0 ≤ (xs.length : Int) - 1 - (j : Int) := by omega
      have j2 : (xs.length : Int) - 1 - (j : Int) < (xs.length : Int) := by omega
      have j3 : ((xs.length : Int) - 1 - (j : Int)).toNat = xs.length - 1 - j := by omega
      have hown := HO1.out
      go_wp2_with (at_builtin; refine wpList_append_own _ rfl _ _ 25 rfl w.heap.size 43 i0 _ 3 24 Try.underlying25 hi0 hz0 hz1 hz2 rfl (by decide) _ _ _ rfl ((hown.alloc _).alloc _) ⟨w1.heap.size + 1, 0, none⟩ 1 1 [.int .i64 (tw xs (xs.length - 1 - j)), .int .i64 (k - lv xs (xs.length - 1 - j)), .int .i64 (k - ar xs (xs.length - 1 - j))] rfl rfl (cells3_new' _ _ _ _ _ _) (one3 _ _ _) (by unfold maxLen; omega) (by omega) (by have := bel1.size; simp; omega) ?_; intro v' w3 hown' hgrow _; have bel3 := ((bel1.alloc bel1.size _).alloc (by have := bel1.size; simp; omega) _).grown hgrow (by have := bel1.size; simp; omega) (fun q hq => (hown.lt q hq).1); have R := Lib.hid (And.intro hown' bel3); clear hown' hgrow bel3)
      obtain ⟨hown', bel3⟩ := R.out
      refine ⟨⟨j + 1, by omega, by go_num, by rw [HAT.out j hlt]; simpa using hown', bel3⟩, by simp [intOf]; omega⟩
    · obtain rfl : j = ys.length := by omega
      have hown := HO.out
      obtain ⟨A', c', rfl⟩ := own_form hown
      rw [List.take_length] at hown
      have R := Lib.hid (And.intro hown hbel)
      clear hown hbel HO
      go_wp2_with fail
      refine (sValid_no (Cells.of_own (zs := fl ys) R.out.1) hly HV2.out).mono ?_
      rintro e w2 ⟨rfl, b2⟩
      have R2 := Lib.hid (R.out.2.trans (b2.mono R.out.2.size))
      clear b2
      go_wp2_with fail
      go_ret2
      exact ⟨_, _, rfl, Own.empty w2 _ R2.out.size, R2.out.alloc R2.out.size _⟩

end Go.Proofs.Ytdmbgnbegnlcaaa
