import Derived.Test.YtdmbgnbegnlcaaaStopsH
namespace Go.Proofs.Ytdmbgnbegnlcaaa
open Go.RowKit

theorem cells3_new' (w : World) (o : Obj) (e : TypeId) (a b c : Value) : ∀ j u, [a, b, c][j]? = some u → ((w.alloc o).alloc (.cells #[a, b, c] e)).cell? ((⟨w.heap.size + 1, 0, none⟩ : Addr).add j) = some u := by
  have := cells3_new (w.alloc o) e a b c
  simpa using this

theorem later_at (xs : List St) (k : Int) (j : Nat) (hj : j < xs.length) : fl ((xs.map (sh k)).take (j + 1)) = fl ((xs.map (sh k)).take j) ++ [tw xs j, ar xs j + k, lv xs j + k] := by
  rw [fl_take _ j (by simpa using hj)]
  have e : (xs.map (sh k)).getD j stz = sh k (xs.getD j stz) := by
    simp [List.getElem?_eq_getElem hj]
  unfold tw ar lv
  rw [e]; rfl
theorem back_at (xs : List St) (k : Int) (j : Nat) (hj : j < xs.length) : fl ((xs.reverse.map (bk k)).take (j + 1)) = fl ((xs.reverse.map (bk k)).take j) ++ [tw xs (xs.length - 1 - j), k - lv xs (xs.length - 1 - j), k - ar xs (xs.length - 1 - j)] := by
  rw [fl_take _ j (by simpa using hj)]
  have e : (xs.reverse.map (bk k)).getD j stz = bk k (xs.getD (xs.length - 1 - j) stz) := by
    have h1 : xs.length - 1 - j < xs.length := by omega
    rw [List.getD_eq_getElem?_getD, List.getElem?_map, List.getElem?_reverse hj, List.getD_eq_getElem?_getD, List.getElem?_eq_getElem h1]; rfl
  unfold tw ar lv
  rw [e]; rfl

set_option maxRecDepth 100000 in
set_option maxHeartbeats 1000000 in
theorem sLater_yes (n k : Int) (A : Option Addr) (c : Nat) (xs ys : List St) (w : World) (h : Cells w A (fl xs)) (hl : xs.length ≤ 1048576) (hv : Valid n xs) (k1 : -10000 ≤ k) (k2 : k ≤ 10000) (hy : ys = (xs).map (sh k)) (hv2 : Valid n ys) :
    Calls Try.prog 49 #[.int .i64 n, .slice A xs.length c, .int .i64 k] w (PairPost ys true w) := by
  obtain ⟨i0, hi0, hz0, hz1, hz2⟩ := info_parts stop_info
  have l1 : xs.length ≤ ys.length := by rw [hy]; simp
  have l2 : ys.length ≤ xs.length := by rw [hy]; simp
  have l8 := hv.2.2.2.1
  have hly : ys.length ≤ 1048576 := by omega
  have HAT := Lib.hid (show ∀ j, j < xs.length → fl (ys.take (j + 1)) = fl (ys.take j) ++ [tw xs j, ar xs j + k, lv xs j + k] from fun j hj => by rw [hy]; exact later_at xs k j hj)
  have HV2 := Lib.hid hv2
  have HV := Lib.hid hv
  clear hy hv2 hv
  go_enter Try.func49, Try.ntmps49
  go_wp2_with fail
  go_loopw [8, 9] (fun s i wr => ∃ j : Nat, j ≤ ys.length ∧ i = .int .i64 (j : Int) ∧ wr.ownsRow w.heap.size 43 3 s j ((fl (ys.take j)).map (Value.int .i64)) ∧ Below w.heap.size w wr) (fun _ i _ => xs.length - (intOf i).toNat)
  case atStart => exact ⟨0, Nat.zero_le _, by go_num, Own.empty w _ (Nat.le_refl _), (Below.refl _ _).alloc (Nat.le_refl _) _⟩
  case round =>
    obtain ⟨j, hj, rfl, hown, hbel⟩ := hrel
    have HO := Lib.hid hown
    clear hown
    by_cases hlt : j < xs.length
    · have t0 := HV.out.times (i := j) (by omega)
      obtain ⟨u0, u1, u2⟩ := t0
      have h1 := h.below (Below.trans (Below.refl _ _) hbel)
      go_wp2_with fail
      refine (sValid_yes h1 hl HV.out).mono ?_
      rintro e w1 ⟨rfl, b1⟩
      have bel1 := hbel.trans (b1.mono hbel.size)
      have HO1 := Lib.hid (own_below HO.out b1)
      obtain ⟨b, o, rfl, hb, c0, c1, c2⟩ := h.at3 (i := j) (by omega)
      have d0 := (bel1.cell (p := ⟨b, o + j * 3, none⟩) hb).trans c0
      have d1 := (bel1.cell (p := ⟨b, o + j * 3 + 1, none⟩) hb).trans c1
      have d2 := (bel1.cell (p := ⟨b, o + j * 3 + 2, none⟩) hb).trans c2
      clear b1 hbel h1 c0 c1 c2 HO
      go_wp2_with fail
      refine (inT _ _ _ _ k1 k2).mono ?_
      rintro e w2 ⟨rfl, rfl⟩
      have hown := HO1.out
      go_wp2_with (at_builtin; refine wpList_append_own _ rfl _ _ 25 rfl w.heap.size 43 i0 _ 3 24 Try.underlying25 hi0 hz0 hz1 hz2 rfl (by decide) _ _ _ rfl ((hown.alloc _).alloc _) ⟨w1.heap.size + 1, 0, none⟩ 1 1 [.int .i64 (tw xs j), .int .i64 (ar xs j + k), .int .i64 (lv xs j + k)] rfl rfl (cells3_new' _ _ _ _ _ _) (one3 _ _ _) (by unfold maxLen; omega) (by omega) (by have := bel1.size; simp; omega) ?_; intro v' w3 hown' hgrow _; have bel3 := ((bel1.alloc bel1.size _).alloc (by have := bel1.size; simp; omega) _).grown hgrow (by have := bel1.size; simp; omega) (fun q hq => (hown.lt q hq).1); have R := Lib.hid (And.intro hown' bel3); clear hown' hgrow bel3)
      obtain ⟨hown', bel3⟩ := R.out
      refine ⟨⟨j + 1, by omega, by go_num, by rw [HAT.out j hlt]; simpa using hown', bel3⟩, by simp [intOf]; omega⟩
    · obtain rfl : j = ys.length := by omega
      have hown := HO.out
      obtain ⟨A', c', rfl⟩ := own_form hown
      rw [List.take_length] at hown
      have R := Lib.hid (And.intro hown hbel)
      clear hown hbel HO
      go_wp2_with fail
      refine (sValid_yes (Cells.of_own (zs := fl ys) R.out.1) hly HV2.out).mono ?_
      rintro e w2 ⟨rfl, b2⟩
      have R2 := Lib.hid (And.intro (own_below R.out.1 b2) (R.out.2.trans (b2.mono R.out.2.size)))
      clear b2
      go_wp2_with fail
      go_ret2
      exact ⟨A', c', rfl, R2.out.1, R2.out.2⟩

set_option maxRecDepth 100000 in
set_option maxHeartbeats 1000000 in
theorem sLater_bad (n k : Int) (A : Option Addr) (c : Nat) (xs ys : List St) (w : World) (h : Cells w A (fl xs)) (hl : xs.length ≤ 1048576) (hv : Valid n xs) (k1 : -10000 ≤ k) (k2 : k ≤ 10000) (hy : ys = (xs).map (sh k)) (hv2 : ¬ Valid n ys) :
    Calls Try.prog 49 #[.int .i64 n, .slice A xs.length c, .int .i64 k] w (PairPost [] false w) := by
  obtain ⟨i0, hi0, hz0, hz1, hz2⟩ := info_parts stop_info
  have l1 : xs.length ≤ ys.length := by rw [hy]; simp
  have l2 : ys.length ≤ xs.length := by rw [hy]; simp
  have l8 := hv.2.2.2.1
  have hly : ys.length ≤ 1048576 := by omega
  have HAT := Lib.hid (show ∀ j, j < xs.length → fl (ys.take (j + 1)) = fl (ys.take j) ++ [tw xs j, ar xs j + k, lv xs j + k] from fun j hj => by rw [hy]; exact later_at xs k j hj)
  have HV2 := Lib.hid hv2
  have HV := Lib.hid hv
  clear hy hv2 hv
  go_enter Try.func49, Try.ntmps49
  go_wp2_with fail
  go_loopw [8, 9] (fun s i wr => ∃ j : Nat, j ≤ ys.length ∧ i = .int .i64 (j : Int) ∧ wr.ownsRow w.heap.size 43 3 s j ((fl (ys.take j)).map (Value.int .i64)) ∧ Below w.heap.size w wr) (fun _ i _ => xs.length - (intOf i).toNat)
  case atStart => exact ⟨0, Nat.zero_le _, by go_num, Own.empty w _ (Nat.le_refl _), (Below.refl _ _).alloc (Nat.le_refl _) _⟩
  case round =>
    obtain ⟨j, hj, rfl, hown, hbel⟩ := hrel
    have HO := Lib.hid hown
    clear hown
    by_cases hlt : j < xs.length
    · have t0 := HV.out.times (i := j) (by omega)
      obtain ⟨u0, u1, u2⟩ := t0
      have h1 := h.below (Below.trans (Below.refl _ _) hbel)
      go_wp2_with fail
      refine (sValid_yes h1 hl HV.out).mono ?_
      rintro e w1 ⟨rfl, b1⟩
      have bel1 := hbel.trans (b1.mono hbel.size)
      have HO1 := Lib.hid (own_below HO.out b1)
      obtain ⟨b, o, rfl, hb, c0, c1, c2⟩ := h.at3 (i := j) (by omega)
      have d0 := (bel1.cell (p := ⟨b, o + j * 3, none⟩) hb).trans c0
      have d1 := (bel1.cell (p := ⟨b, o + j * 3 + 1, none⟩) hb).trans c1
      have d2 := (bel1.cell (p := ⟨b, o + j * 3 + 2, none⟩) hb).trans c2
      clear b1 hbel h1 c0 c1 c2 HO
      go_wp2_with fail
      refine (inT _ _ _ _ k1 k2).mono ?_
      rintro e w2 ⟨rfl, rfl⟩
      have hown := HO1.out
      go_wp2_with (at_builtin; refine wpList_append_own _ rfl _ _ 25 rfl w.heap.size 43 i0 _ 3 24 Try.underlying25 hi0 hz0 hz1 hz2 rfl (by decide) _ _ _ rfl ((hown.alloc _).alloc _) ⟨w1.heap.size + 1, 0, none⟩ 1 1 [.int .i64 (tw xs j), .int .i64 (ar xs j + k), .int .i64 (lv xs j + k)] rfl rfl (cells3_new' _ _ _ _ _ _) (one3 _ _ _) (by unfold maxLen; omega) (by omega) (by have := bel1.size; simp; omega) ?_; intro v' w3 hown' hgrow _; have bel3 := ((bel1.alloc bel1.size _).alloc (by have := bel1.size; simp; omega) _).grown hgrow (by have := bel1.size; simp; omega) (fun q hq => (hown.lt q hq).1); have R := Lib.hid (And.intro hown' bel3); clear hown' hgrow bel3)
      obtain ⟨hown', bel3⟩ := R.out
      refine ⟨⟨j + 1, by omega, by go_num, by rw [HAT.out j hlt]; simpa using hown', bel3⟩, by simp [intOf]; omega⟩
    · obtain rfl : j = ys.length := by omega
      have hown := HO.out
      obtain ⟨A', c', rfl⟩ := own_form hown
      rw [List.take_length] at hown
      have R := Lib.hid (And.intro hown hbel)
      clear hown hbel HO
      go_wp2_with fail
      refine (sValid_no (Cells.of_own (zs := fl ys) R.out.1) hly HV2.out).mono ?_
      rintro e w2 ⟨rfl, b2⟩
      have R2 := Lib.hid (R.out.2.trans (b2.mono R.out.2.size))
      clear b2
      go_wp2_with fail
      go_ret2
      exact ⟨_, _, rfl, Own.empty w2 _ R2.out.size, R2.out.alloc R2.out.size _⟩

end Go.Proofs.Ytdmbgnbegnlcaaa
