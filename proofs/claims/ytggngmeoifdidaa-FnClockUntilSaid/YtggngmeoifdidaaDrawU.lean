import Derived.Test.YtggngmeoifdidaaDrawX
namespace Go.Proofs.Ytggngmeoifdidaa
open Go.RowKit

set_option maxRecDepth 100000 in
set_option maxHeartbeats 1000000 in
theorem drawClockUntil (a : Option Addr) (len cap : Nat) (w : World) (h : Bytes w a len) (hc : len ≤ cap) (hm : cap ≤ maxLen) :
    Calls Try.prog 18 #[.slice a len cap] w (DrewTwo 0 0 (-1) 1440 0 1439 w) := by
  go_enter Try.func18, Try.ntmps18
  go_wp2_with fail
  refine (open_any a len cap w h hc hm).mono ?_
  rintro e w1 ⟨rfl, hrd1, hb1, hs1⟩
  have HS := Lib.hid hs1
  clear hs1
  go_wp2_with fail
  refine (pick_any _ _ _ _ hrd1 (by omega) (by omega)).mono ?_
  rintro e w3 ⟨v, rfl, hv0, hv1, hrd3, hon3⟩
  have HB := Lib.hid (show Below w.heap.size w w3 from hb1.trans (hon3.keeps.below (Nat.le_refl _) (by have := HS.out; omega)))
  clear hon3 hb1 hrd1
  by_cases hz : v = 0
  · have hz' : (v == 0) = true := by simp [hz]
    clear hz
    go_wp2_with fail
    have hr3 := hrd3.lt
    have lit4 : ∀ i, i < (#[Value.int IntKind.i64 (-1), Value.int IntKind.i64 1440, Value.int IntKind.i64 1439, Value.int IntKind.i64 0] : Array Value).size → ∃ t : Int, (#[Value.int IntKind.i64 (-1), Value.int IntKind.i64 1440, Value.int IntKind.i64 1439, Value.int IntKind.i64 0] : Array Value)[i]? = some (.int .i64 t) ∧ (-1) ≤ t ∧ t ≤ 1440 := by
      intro i hi
      simp at hi
      have : i = 0 ∨ i = 1 ∨ i = 2 ∨ i = 3 := by omega
      rcases this with rfl | rfl | rfl | rfl <;> exact ⟨_, rfl, by decide, by decide⟩
    have LIT := Lib.hid lit4
    clear lit4
    generalize hr : w.heap.size = r at *
    have HR := Lib.hid hr
    clear hr
    have hne : w3.heap.size ≠ r := by omega
    go_region_with (first
      | (go_at_call 31; (with_reducible refine (pick_any r _ 4 _ (hrd3.alloc _).drew (by decide) (by decide)).mono ?_); rintro e w4 ⟨u, rfl, hu0, hu1, hrd4, hon4⟩; obtain ⟨k, rfl⟩ := Int.eq_ofNat_of_zero_le hu0; obtain ⟨t4, ht4, hl4, hg4⟩ := lit_cell w3 w4 r _ _ (-1) 1440 LIT.out hr3 hon4.of_drew k (by simp; omega); have HK := Lib.hid ((Keeps.refl r w3).alloc _ |>.trans hon4.of_drew.keeps); clear hon4)
      | (go_at_call 31; (with_reducible refine (pick_any r _ 4 _ hrd3.drew (by decide) (by decide)).mono ?_); rintro e w4 ⟨u, rfl, hu0, hu1, hrd4, hon4⟩; obtain ⟨k, rfl⟩ := Int.eq_ofNat_of_zero_le hu0; obtain ⟨t4, hta4, hl4, hg4⟩ := lit_cell w4 _ r _ 3 (-1) 1440 LIT.out hrd4.lt (Only.refl r _) k (by simp; omega); have HK := Lib.hid hon4.of_drew.keeps; clear hon4)
      | (go_at_call 31; (with_reducible refine (pick_any r _ 1440 _ (hrd4.alloc _) (by omega) (by omega)).mono ?_); rintro e w5 ⟨u5, rfl, hu50, hu51, hrd5, hon5⟩; obtain ⟨t5, ht5, hl5, hg5⟩ := lit_cell w4 w5 r _ _ (-1) 1440 LIT.out hrd4.lt hon5 k (by simp; omega); have HK5 := Lib.hid ((HK.out.alloc _).trans hon5.keeps); clear hon5)
      | (go_at_call 31; have htx := ht4; (with_reducible refine (pick_any r _ 1440 _ hrd4 (by omega) (by omega)).mono ?_); rintro e w5 ⟨u5, rfl, hu50, hu51, hrd5, hon5⟩; have ht5 := (World.cell?_of_block (w := w4) (hon5.block w3.heap.size hne)).trans htx; have HK5 := Lib.hid (HK.out.trans hon5.keeps); clear hon5 htx)
      | (go_at_call 31; (with_reducible refine (pick_any r _ 1440 _ hrd4 (by omega) (by omega)).mono ?_); rintro e w5 ⟨u5, rfl, hu50, hu51, hrd5, hon5⟩; obtain ⟨t5, ht5, hl5, hg5⟩ := lit_cell w5 _ r _ 3 (-1) 1440 LIT.out hrd5.lt (Only.refl r _) k (by simp; omega); have HK5 := Lib.hid (HK.out.trans hon5.keeps); clear hon5))
    all_goals
      go_wp2_with fail
      go_ret2
      first
        | exact ⟨_, _, rfl, hl4, hg4, by omega, by omega, by rw [HR.out]; exact HB.out.trans (HK5.out.below (Nat.le_refl _) (by omega))⟩
        | exact ⟨_, _, rfl, hl5, hg5, by omega, by omega, by rw [HR.out]; exact HB.out.trans (HK5.out.below (Nat.le_refl _) (by omega))⟩
        | exact ⟨_, _, rfl, hl5, hg5, by omega, by omega, by rw [HR.out]; exact HB.out.trans ((HK5.out.alloc _).below (Nat.le_refl _) (by omega))⟩
  · have hz' : (v == 0) = false := by simp [hz]
    clear hz
    go_wp2_with fail
    refine (pick_any _ _ _ _ hrd3 (by omega) (by omega)).mono ?_
    rintro e w4 ⟨u, rfl, hu0, hu1, hrd4, hon4⟩
    have HB' := Lib.hid (HB.out.trans (hon4.below (Nat.le_refl _)))
    clear HB hon4
    go_wp2_with fail
    refine (pick_any _ _ _ _ hrd4 (by omega) (by omega)).mono ?_
    rintro e w5 ⟨u2, rfl, hu02, hu12, hrd5, hon5⟩
    have HB5 := Lib.hid (HB'.out.trans (hon5.below (Nat.le_refl _)))
    clear HB' hon5
    go_wp2_with fail
    go_ret2
    exact ⟨u, u2, rfl, by omega, by omega, by omega, by omega, HB5.out⟩
end Go.Proofs.Ytggngmeoifdidaa
