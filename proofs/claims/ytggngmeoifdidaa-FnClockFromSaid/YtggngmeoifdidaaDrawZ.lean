import Derived.Test.YtggngmeoifdidaaDrawX
import Derived.Test.YtggngmeoifdidaaClockE
namespace Go.Proofs.Ytggngmeoifdidaa
open Go.RowKit

/-- A short string, and the reader some places farther. -/
def DrewStr (r : Nat) (b : Int) (w : World) (e : Ending) (w' : World) : Prop :=
  ∃ s : ByteArray, e = .returned (.string s) ∧ s.size ≤ 6 ∧ Rd w' r b ∧ Keeps r w w'

theorem of_any (r g : Nat) (b : Int) (w : World) (h : Rd w r b) (hb : b ≤ 90000) (hg : g ≠ r) (hgw : g < w.heap.size)
    (hs : ∀ k, k < 7 → ∃ s : ByteArray, s.size ≤ 6 ∧ w.cell? ⟨g, k, none⟩ = some (.string s)) :
    Calls Try.prog 34 #[.pointer (some ⟨r, 0, none⟩), .slice (some ⟨g, 0, none⟩) 7 7] w (DrewStr r (b + 1) w) := by
  go_enter Try.func34, Try.ntmps34
  have HS := Lib.hid hs
  clear hs
  go_wp2_with fail
  refine (pick_any r b _ w h (by omega) (by omega)).mono ?_
  rintro e w1 ⟨v, rfl, hv0, hv1, hrd1, hon1⟩
  obtain ⟨k, rfl⟩ := Int.eq_ofNat_of_zero_le hv0
  obtain ⟨s, hs6, hcell⟩ := HS.out k (by omega)
  have hcell1 : w1.cell? ⟨g, k, none⟩ = some (.string s) := by
    rw [← hcell]; exact World.cell?_of_block (w := w) (hon1.block g hg)
  have HK := Lib.hid hon1.keeps
  clear hon1 hcell
  have hk7 : k < 7 := by omega
  go_wp2_with fail
  go_ret
  exact ⟨s, rfl, hs6, hrd1, HK.out⟩

theorem size_app (a b : ByteArray) : (a ++ b).size = a.size + b.size := by
  rw [ByteArray.size_append]

def DrewText (w : World) (e : Ending) (w' : World) : Prop := ∃ s : ByteArray, e = .returned (.string s) ∧ s.size ≤ 6 ∧ Below w.heap.size w w'

set_option maxRecDepth 100000 in
theorem drawClockFrom (a : Option Addr) (len cap : Nat) (w : World) (h : Bytes w a len) (hc : len ≤ cap) (hm : cap ≤ maxLen) :
    Calls Try.prog 23 #[.slice a len cap] w (DrewText w) := by
  go_enter Try.func23, Try.ntmps23
  go_wp2_with fail
  refine (open_any a len cap w h hc hm).mono ?_
  rintro e w1 ⟨rfl, hrd1, hb1, hs1⟩
  have HS := Lib.hid hs1
  clear hs1
  go_wp2_with fail
  refine (pick_any _ _ _ _ hrd1 (by omega) (by omega)).mono ?_
  rintro e w2 ⟨t, rfl, ht0, ht1, hrd2, hon2⟩
  have HB2 := Lib.hid (show Below w.heap.size w w2 from hb1.trans (hon2.keeps.below (Nat.le_refl _) (by have := HS.out; omega)))
  clear hon2 hb1
  have hm1 : 0 ≤ t % 1440 := by omega
  have hm2 : t % 1440 < 1440 := by omega
  go_wp2_with fail
  refine (sClockText_yes _ _ ht0 (by omega)).mono ?_
  rintro e w3 ⟨rfl, hb3⟩
  have hrd3 := hrd2.keep (hb3.mono (by have := hrd2.lt; omega))
  have HB3 := Lib.hid (HB2.out.trans (hb3.mono HB2.out.size))
  clear hb3 HB2 hrd2
  obtain ⟨s, hs⟩ : ∃ s, s = ctext (t % 1440) := ⟨_, rfl⟩
  have hs5 : s.size ≤ 5 := by rw [hs, ctext_size]; omega
  rw [← hs]
  clear hs
  go_wp2_with fail
  refine (pick_any _ _ _ _ hrd3 (by omega) (by omega)).mono ?_
  rintro e w4 ⟨v, rfl, hv0, hv1, hrd4, hon4⟩
  have HB4 := Lib.hid (HB3.out.trans (hon4.below (Nat.le_refl _)))
  clear HB3 hon4
  by_cases hz : v = 0
  · have hz' : (v == 0) = true := by simp [hz]
    clear hz
    go_wp2_with fail
    have hlt := hrd4.lt
    refine (of_any _ w4.heap.size _ _ (hrd4.alloc _) (by omega) (by omega) (by simp) ?_).mono ?_
    · intro k hk
      have hk' : k = 0 ∨ k = 1 ∨ k = 2 ∨ k = 3 ∨ k = 4 ∨ k = 5 ∨ k = 6 := by omega
      rcases hk' with rfl | rfl | rfl | rfl | rfl | rfl | rfl
      · exact ⟨_, by decide, cell_new _ _ _ _⟩
      · exact ⟨_, by decide, cell_new _ _ _ _⟩
      · exact ⟨_, by decide, cell_new _ _ _ _⟩
      · exact ⟨_, by decide, cell_new _ _ _ _⟩
      · exact ⟨_, by decide, cell_new _ _ _ _⟩
      · exact ⟨_, by decide, cell_new _ _ _ _⟩
      · exact ⟨s ++ ⟨#[32]⟩, by rw [size_app]; show s.size + 1 ≤ 6; omega, cell_new _ _ _ _⟩
    · rintro e w5 ⟨s5, rfl, h56, hrd5, hk5⟩
      have HB5 := Lib.hid (HB4.out.trans (((Keeps.refl w.heap.size w4).alloc _ |>.trans hk5).below (Nat.le_refl _) (by omega)))
      clear hk5 HB4
      go_wp2_with fail
      go_ret
      exact ⟨s5, rfl, h56, HB5.out⟩
  · have hz' : (v == 0) = false := by simp [hz]
    clear hz
    go_wp2_with fail
    go_ret
    exact ⟨s, rfl, by omega, HB4.out⟩
end Go.Proofs.Ytggngmeoifdidaa
