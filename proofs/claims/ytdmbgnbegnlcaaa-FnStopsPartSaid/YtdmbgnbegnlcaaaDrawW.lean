import Derived.Test.YtdmbgnbegnlcaaaDrawV
namespace Go.Proofs.Ytdmbgnbegnlcaaa
open Go.RowKit

set_option maxRecDepth 100000 in
set_option maxHeartbeats 1000000 in
theorem drawLater (a : Option Addr) (len cap : Nat) (w : World) (h : Bytes w a len) (hc : len ≤ cap) (hm : cap ≤ maxLen) :
    Calls Try.prog 54 #[.slice a len cap] w (GotThree w) := by
  go_enter Try.func54, Try.ntmps54
  go_wp2_with fail
  refine (open_any a len cap w h hc hm).mono ?_
  rintro e w1 ⟨rfl, hrd1, hb1, hs1⟩
  have S1 := Lib.hid hs1
  have B1 := Lib.hid hb1
  clear hs1 hb1 h
  go_wp2_with fail
  refine (l91One_any _ _ _ hrd1 (by omega)).mono ?_
  rintro e w2 ⟨n, A, c, xs, rfl, n1, n2, l5, c1, c2, hcl, hA, hrd2, hk2⟩
  have HA := Lib.hid (show ∀ g o, A = some ⟨g, o, none⟩ → w.heap.size + 1 ≤ g from fun g o e => by have := hA g o e; have := S1.out; omega)
  have B2 := Lib.hid (B1.out.trans (hk2.below (Nat.le_refl _) (by have := S1.out; omega)))
  have C2 := Lib.hid hcl
  have z2 : w.heap.size < w2.heap.size := hrd2.lt
  clear hcl hA hk2 B1 hrd1
  go_wp2_with fail
  refine (pick_any _ _ _ _ hrd2 (by omega) (by omega)).mono ?_
  rintro e w3 ⟨v, rfl, hv0, hv1, hrd3, hon3⟩
  have C3 := Lib.hid (C2.out.keeps hon3.keeps HA.out (by omega))
  have B3 := Lib.hid (B2.out.trans (hon3.keeps.below (Nat.le_refl _) (by omega)))
  clear hon3 C2 B2 hrd2
  by_cases hz : v = 0
  · have hz' : (v == 0) = true := by simp [hz]
    clear hz
    go_wp2_with fail
    have hr3 := hrd3.lt
    have LIT := Lib.hid (show ∀ i, i < (#[Value.int IntKind.i64 9223372036854775807, Value.int IntKind.i64 (-9223372036854775808), Value.int IntKind.i64 9500] : Array Value).size → ∃ t : Int, (#[Value.int IntKind.i64 9223372036854775807, Value.int IntKind.i64 (-9223372036854775808), Value.int IntKind.i64 9500] : Array Value)[i]? = some (.int .i64 t) from by
      intro i hi
      simp at hi
      have : i = 0 ∨ i = 1 ∨ i = 2 := by omega
      rcases this with rfl | rfl | rfl <;> exact ⟨_, rfl⟩)
    generalize hr : w.heap.size = r at *
    have HR := Lib.hid hr
    clear hr
    go_region_with (first
      | (go_at_call 73; (with_reducible refine (pick_any r _ 3 _ (hrd3.alloc _).drew (by decide) (by omega)).mono ?_); rintro e w4 ⟨u, rfl, hu0, hu1, hrd4, hon4⟩; obtain ⟨k, rfl⟩ := Int.eq_ofNat_of_zero_le hu0; obtain ⟨t4, ht4⟩ := lit_any w3 w4 r _ _ LIT.out hr3 hon4.of_drew k (by simp; omega); have HK := Lib.hid ((Keeps.refl r w3).alloc _ |>.trans hon4.of_drew.keeps); clear hon4)
      | (go_at_call 73; (with_reducible refine (pick_any r _ 3 _ hrd3.drew (by decide) (by omega)).mono ?_); rintro e w4 ⟨u, rfl, hu0, hu1, hrd4, hon4⟩; obtain ⟨k, rfl⟩ := Int.eq_ofNat_of_zero_le hu0; obtain ⟨t4, ht4⟩ := lit_any w4 _ r _ 3 LIT.out hrd4.lt (Only.refl r _) k (by simp; omega); have HK := Lib.hid hon4.of_drew.keeps; clear hon4))
    · go_wp2_with fail
      go_ret3
      exact ⟨n, A, c, xs, t4, rfl, n1, n2, l5, c1, c2, C3.out.keeps HK.out HA.out (by omega), by rw [HR.out]; exact B3.out.trans (HK.out.below (Nat.le_refl _) (by omega))⟩
    · go_wp2_with fail
      go_ret3
      exact ⟨n, A, c, xs, t4, rfl, n1, n2, l5, c1, c2, (C3.out.keeps HK.out HA.out (by omega)).alloc _, by rw [HR.out]; exact B3.out.trans ((HK.out.alloc _).below (Nat.le_refl _) (by omega))⟩
  · have hz' : (v == 0) = false := by simp [hz]
    clear hz
    go_wp2_with fail
    refine (pick_any _ _ _ _ hrd3 (by omega) (by omega)).mono ?_
    rintro e w4 ⟨u, rfl, hu0, hu1, hrd4, hon4⟩
    have R := Lib.hid (And.intro (C3.out.keeps hon4.keeps HA.out (by omega)) (B3.out.trans (hon4.keeps.below (Nat.le_refl _) (by have := hrd3.lt; omega))))
    clear hon4 C3 B3
    go_wp2_with fail
    go_ret3
    exact ⟨n, A, c, xs, u - 100, rfl, n1, n2, l5, c1, c2, R.out.1, R.out.2⟩

set_option maxRecDepth 100000 in
set_option maxHeartbeats 1000000 in
theorem drawBack (a : Option Addr) (len cap : Nat) (w : World) (h : Bytes w a len) (hc : len ≤ cap) (hm : cap ≤ maxLen) :
    Calls Try.prog 57 #[.slice a len cap] w (GotThree w) := by
  go_enter Try.func57, Try.ntmps57
  go_wp2_with fail
  refine (open_any a len cap w h hc hm).mono ?_
  rintro e w1 ⟨rfl, hrd1, hb1, hs1⟩
  have S1 := Lib.hid hs1
  have B1 := Lib.hid hb1
  clear hs1 hb1 h
  go_wp2_with fail
  refine (l91One_any _ _ _ hrd1 (by omega)).mono ?_
  rintro e w2 ⟨n, A, c, xs, rfl, n1, n2, l5, c1, c2, hcl, hA, hrd2, hk2⟩
  have HA := Lib.hid (show ∀ g o, A = some ⟨g, o, none⟩ → w.heap.size + 1 ≤ g from fun g o e => by have := hA g o e; have := S1.out; omega)
  have B2 := Lib.hid (B1.out.trans (hk2.below (Nat.le_refl _) (by have := S1.out; omega)))
  have C2 := Lib.hid hcl
  have z2 : w.heap.size < w2.heap.size := hrd2.lt
  clear hcl hA hk2 B1 hrd1
  go_wp2_with fail
  refine (pick_any _ _ _ _ hrd2 (by omega) (by omega)).mono ?_
  rintro e w3 ⟨v, rfl, hv0, hv1, hrd3, hon3⟩
  have C3 := Lib.hid (C2.out.keeps hon3.keeps HA.out (by omega))
  have B3 := Lib.hid (B2.out.trans (hon3.keeps.below (Nat.le_refl _) (by omega)))
  clear hon3 C2 B2 hrd2
  by_cases hz : v = 0
  · have hz' : (v == 0) = true := by simp [hz]
    clear hz
    go_wp2_with fail
    have hr3 := hrd3.lt
    have LIT := Lib.hid (show ∀ i, i < (#[Value.int IntKind.i64 9223372036854775807, Value.int IntKind.i64 (-1), Value.int IntKind.i64 0, Value.int IntKind.i64 20001] : Array Value).size → ∃ t : Int, (#[Value.int IntKind.i64 9223372036854775807, Value.int IntKind.i64 (-1), Value.int IntKind.i64 0, Value.int IntKind.i64 20001] : Array Value)[i]? = some (.int .i64 t) from by
      intro i hi
      simp at hi
      have : i = 0 ∨ i = 1 ∨ i = 2 ∨ i = 3 := by omega
      rcases this with rfl | rfl | rfl | rfl <;> exact ⟨_, rfl⟩)
    generalize hr : w.heap.size = r at *
    have HR := Lib.hid hr
    clear hr
    go_region_with (first
      | (go_at_call 73; (with_reducible refine (pick_any r _ 4 _ (hrd3.alloc _).drew (by decide) (by omega)).mono ?_); rintro e w4 ⟨u, rfl, hu0, hu1, hrd4, hon4⟩; obtain ⟨k, rfl⟩ := Int.eq_ofNat_of_zero_le hu0; obtain ⟨t4, ht4⟩ := lit_any w3 w4 r _ _ LIT.out hr3 hon4.of_drew k (by simp; omega); have HK := Lib.hid ((Keeps.refl r w3).alloc _ |>.trans hon4.of_drew.keeps); clear hon4)
      | (go_at_call 73; (with_reducible refine (pick_any r _ 4 _ hrd3.drew (by decide) (by omega)).mono ?_); rintro e w4 ⟨u, rfl, hu0, hu1, hrd4, hon4⟩; obtain ⟨k, rfl⟩ := Int.eq_ofNat_of_zero_le hu0; obtain ⟨t4, ht4⟩ := lit_any w4 _ r _ 3 LIT.out hrd4.lt (Only.refl r _) k (by simp; omega); have HK := Lib.hid hon4.of_drew.keeps; clear hon4))
    · go_wp2_with fail
      go_ret3
      exact ⟨n, A, c, xs, t4, rfl, n1, n2, l5, c1, c2, C3.out.keeps HK.out HA.out (by omega), by rw [HR.out]; exact B3.out.trans (HK.out.below (Nat.le_refl _) (by omega))⟩
    · go_wp2_with fail
      go_ret3
      exact ⟨n, A, c, xs, t4, rfl, n1, n2, l5, c1, c2, (C3.out.keeps HK.out HA.out (by omega)).alloc _, by rw [HR.out]; exact B3.out.trans ((HK.out.alloc _).below (Nat.le_refl _) (by omega))⟩
  · have hz' : (v == 0) = false := by simp [hz]
    clear hz
    go_wp2_with fail
    refine (pick_any _ _ _ _ hrd3 (by omega) (by omega)).mono ?_
    rintro e w4 ⟨u, rfl, hu0, hu1, hrd4, hon4⟩
    have R := Lib.hid (And.intro (C3.out.keeps hon4.keeps HA.out (by omega)) (B3.out.trans (hon4.keeps.below (Nat.le_refl _) (by have := hrd3.lt; omega))))
    clear hon4 C3 B3
    go_wp2_with fail
    go_ret3
    exact ⟨n, A, c, xs, 900 + u, rfl, n1, n2, l5, c1, c2, R.out.1, R.out.2⟩

set_option maxRecDepth 100000 in
set_option maxHeartbeats 1000000 in
theorem drawWhere (a : Option Addr) (len cap : Nat) (w : World) (h : Bytes w a len) (hc : len ≤ cap) (hm : cap ≤ maxLen) :
    Calls Try.prog 44 #[.slice a len cap] w (GotThree w) := by
  go_enter Try.func44, Try.ntmps44
  go_wp2_with fail
  refine (open_any a len cap w h hc hm).mono ?_
  rintro e w1 ⟨rfl, hrd1, hb1, hs1⟩
  have S1 := Lib.hid hs1
  have B1 := Lib.hid hb1
  clear hs1 hb1 h
  go_wp2_with fail
  refine (l91One_any _ _ _ hrd1 (by omega)).mono ?_
  rintro e w2 ⟨n, A, c, xs, rfl, n1, n2, l5, c1', c2', hcl, hA, hrd2, hk2⟩
  have HA := Lib.hid (show ∀ g o, A = some ⟨g, o, none⟩ → w.heap.size + 1 ≤ g from fun g o e => by have := hA g o e; have := S1.out; omega)
  have B2 := Lib.hid (B1.out.trans (hk2.below (Nat.le_refl _) (by have := S1.out; omega)))
  have C2 := Lib.hid hcl
  have z2 : w.heap.size < w2.heap.size := hrd2.lt
  clear hcl hA hk2 B1 hrd1
  by_cases hx : 0 < xs.length
  · have hx' : (0 : Int) < (xs.length : Int) := by omega
    go_wp2_with fail
    refine (pick_any _ _ _ _ hrd2 (by omega) (by omega)).mono ?_
    rintro e w3 ⟨v, rfl, hv0, hv1, hrd3, hon3⟩
    have C3 := Lib.hid (C2.out.keeps hon3.keeps HA.out (by omega))
    have B3 := Lib.hid (B2.out.trans (hon3.keeps.below (Nat.le_refl _) (by omega)))
    have hr3 := hrd3.lt
    clear hon3 C2 B2 hrd2
    by_cases hz : 0 < v
    · go_wp2_with fail
      refine (pick_any _ _ _ _ hrd3 (by omega) (by omega)).mono ?_
      rintro e w4 ⟨u, rfl, hu0, hu1, hrd4, hon4⟩
      have C4 := Lib.hid (C3.out.keeps hon4.keeps HA.out (by omega))
      have B4 := Lib.hid (B3.out.trans (hon4.keeps.below (Nat.le_refl _) (by omega)))
      have hr4 := hrd4.lt
      clear hon4 C3 B3 hrd3
      obtain ⟨k, rfl⟩ := Int.eq_ofNat_of_zero_le hu0
      have hk : k < xs.length := by omega
      obtain ⟨gb, go, hAA, hgb, c0, c1, c2⟩ := C4.out.at3 hk
      subst hAA
      have cellS := Lib.hid (show (w4.alloc (.cells #[.int .i64 (tw xs k), .int .i64 (ar xs k), .int .i64 (lv xs k)] 43)).drew.cell? ⟨w4.heap.size, 1, none⟩ = some (.int .i64 (ar xs k)) from cell_new _ _ _ 1)
      go_wp2_with fail
      clear c0 c1 c2
      generalize hr : w.heap.size = r at *
      have HR := Lib.hid hr
      clear hr
      have hne : w4.heap.size ≠ r := by omega
      go_region_with (go_at_call 73; (with_reducible refine (pick_any r _ 30 _ (hrd4.alloc _).drew (by decide) (by omega)).mono ?_); rintro e w5 ⟨z, rfl, hz0, hz1, hrd5, hon5⟩; have c5 := (World.cell?_of_block (w := (w4.alloc (.cells #[.int .i64 (tw xs k), .int .i64 (ar xs k), .int .i64 (lv xs k)] 43)).drew) (a := ⟨w4.heap.size, 1, none⟩) (hon5.block w4.heap.size hne)).trans cellS.out; have HK := Lib.hid ((Keeps.refl r w4).alloc _ |>.trans hon5.of_drew.keeps); clear hon5)
      all_goals
        go_wp2_with fail
        go_ret3
        exact ⟨n, _, c, xs, _, rfl, n1, n2, l5, c1', c2', C4.out.keeps HK.out HA.out (by omega), by rw [HR.out]; exact B4.out.trans (HK.out.below (Nat.le_refl _) (by omega))⟩
    · have hz' : decide (0 < v) = false := by simp; omega
      go_wp2_with fail
      refine (pick_any _ _ _ _ hrd3 (by omega) (by omega)).mono ?_
      rintro e w4 ⟨u, rfl, hu0, hu1, hrd4, hon4⟩
      have R := Lib.hid (And.intro (C3.out.keeps hon4.keeps HA.out (by omega)) (B3.out.trans (hon4.keeps.below (Nat.le_refl _) (by omega))))
      clear hon4 C3 B3
      go_wp2_with fail
      go_ret3
      exact ⟨n, A, c, xs, u, rfl, n1, n2, l5, c1', c2', R.out.1, R.out.2⟩
  · have hx' : decide ((0 : Int) < (xs.length : Int)) = false := decide_eq_false (by omega)
    have hx'' : decide (0 < xs.length) = false := decide_eq_false (by omega)
    go_wp2_with fail
    refine (pick_any _ _ _ _ hrd2 (by omega) (by omega)).mono ?_
    rintro e w3 ⟨u, rfl, hu0, hu1, hrd3, hon3⟩
    have R := Lib.hid (And.intro (C2.out.keeps hon3.keeps HA.out (by omega)) (B2.out.trans (hon3.keeps.below (Nat.le_refl _) (by omega))))
    clear hon3 C2 B2
    go_wp2_with fail
    go_ret3
    exact ⟨n, A, c, xs, u, rfl, n1, n2, l5, c1', c2', R.out.1, R.out.2⟩
end Go.Proofs.Ytdmbgnbegnlcaaa
