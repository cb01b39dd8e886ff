import Derived.Test.YtggngmeoifdidaaDrawC
import Derived.Deep.RegionWith
namespace Go.Proofs.Ytggngmeoifdidaa
open Go.RowKit

def DrewTwo (r : Nat) (b lo hi lo' hi' : Int) (w : World) (e : Ending) (w' : World) : Prop :=
  ∃ v u : Int, e = .returned (.tuple #[.int .i64 v, .int .i64 u]) ∧ lo ≤ v ∧ v ≤ hi ∧ lo' ≤ u ∧ u ≤ hi' ∧ Below w.heap.size w w'

theorem drawClockLocal (a : Option Addr) (len cap : Nat) (w : World) (h : Bytes w a len) (hc : len ≤ cap) (hm : cap ≤ maxLen) :
    Calls Try.prog 22 #[.slice a len cap] w (DrewTwo 0 0 (-1) 10001 (-721) 721 w) := by
  go_enter Try.func22, Try.ntmps22
  go_wp2_with fail
  refine (open_any a len cap w h hc hm).mono ?_
  rintro e w1 ⟨rfl, hrd1, hb1, hs1⟩
  have HS := Lib.hid hs1
  clear hs1
  go_wp2_with fail
  refine (time_any _ _ _ hrd1 (by omega)).mono ?_
  rintro e w2 ⟨t, rfl, ht0, ht1, hrd2, hk2⟩
  go_wp2_with fail
  refine (pick_any _ _ _ _ hrd2 (by omega) (by omega)).mono ?_
  rintro e w3 ⟨v, rfl, hv0, hv1, hrd3, hon3⟩
  have HB := Lib.hid (show Below w.heap.size w w3 from hb1.trans ((hk2.trans hon3.keeps).below (Nat.le_refl _) (by have := HS.out; omega)))
  clear hk2 hon3 hb1
  by_cases hz : v = 0
  · have hz' : (v == 0) = true := by simp [hz]
    clear hz
    go_wp2_with fail
    have hr3 := hrd3.lt
    have lit4 : ∀ i, i < (#[Value.int IntKind.i64 (-720), Value.int IntKind.i64 720, Value.int IntKind.i64 721, Value.int IntKind.i64 (-721)] : Array Value).size → ∃ t : Int, (#[Value.int IntKind.i64 (-720), Value.int IntKind.i64 720, Value.int IntKind.i64 721, Value.int IntKind.i64 (-721)] : Array Value)[i]? = some (.int .i64 t) ∧ (-721) ≤ t ∧ t ≤ 721 := by
      intro i hi
      simp at hi
      have : i = 0 ∨ i = 1 ∨ i = 2 ∨ i = 3 := by omega
      rcases this with rfl | rfl | rfl | rfl <;> exact ⟨_, rfl, by decide, by decide⟩
    have LIT := Lib.hid lit4
    clear lit4
    generalize hr : w.heap.size = r at *
    have HR := Lib.hid hr
    clear hr
    go_region_with (first
      | (go_at_call 31; refine (pick_any r _ 4 _ (hrd3.alloc _).drew (by decide) (by decide)).mono ?_; rintro e w4 ⟨u, rfl, hu0, hu1, hrd4, hon4⟩; obtain ⟨k, rfl⟩ := Int.eq_ofNat_of_zero_le hu0; obtain ⟨t4, ht4, hl4, hg4⟩ := lit_cell w3 w4 r _ _ (-721) 721 LIT.out hr3 hon4.of_drew k (by simp; omega); have HK := Lib.hid ((Keeps.refl r w3).alloc _ |>.trans hon4.of_drew.keeps); clear hon4)
      | (go_at_call 31; refine (pick_any r _ 4 _ hrd3.drew (by decide) (by decide)).mono ?_; rintro e w4 ⟨u, rfl, hu0, hu1, hrd4, hon4⟩; obtain ⟨k, rfl⟩ := Int.eq_ofNat_of_zero_le hu0; obtain ⟨t4, ht4, hl4, hg4⟩ := lit_cell w4 _ r _ 3 (-721) 721 LIT.out hrd4.lt (Only.refl r _) k (by simp; omega); have HK := Lib.hid hon4.of_drew.keeps; clear hon4))
    · go_wp2_with fail
      go_ret2
      exact ⟨t, t4, rfl, ht0, ht1, hl4, hg4, by rw [HR.out]; exact HB.out.trans (HK.out.below (Nat.le_refl _) (by omega))⟩
    · go_wp2_with fail
      go_ret2
      exact ⟨t, t4, rfl, ht0, ht1, hl4, hg4, by rw [HR.out]; exact HB.out.trans ((HK.out.alloc _).below (Nat.le_refl _) (by omega))⟩
  · have hz' : (v == 0) = false := by simp [hz]
    clear hz
    go_wp2_with fail
    refine (pick_any _ _ _ _ hrd3 (by omega) (by omega)).mono ?_
    rintro e w4 ⟨u, rfl, hu0, hu1, hrd4, hon4⟩
    have HB' := Lib.hid (HB.out.trans (hon4.below (Nat.le_refl _)))
    clear HB hon4
    go_wp2_with fail
    go_ret2
    exact ⟨t, u - 40, rfl, ht0, ht1, by omega, by omega, HB'.out⟩
end Go.Proofs.Ytggngmeoifdidaa
