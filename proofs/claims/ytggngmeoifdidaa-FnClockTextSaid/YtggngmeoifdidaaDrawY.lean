import Derived.Test.YtggngmeoifdidaaDrawC
namespace Go.Proofs.Ytggngmeoifdidaa
open Go.RowKit

def DrewOne (lo hi : Int) (w : World) (e : Ending) (w' : World) : Prop :=
  ∃ v : Int, e = .returned (.int .i64 v) ∧ lo ≤ v ∧ v ≤ hi ∧ Below w.heap.size w w'

theorem drawClockText (a : Option Addr) (len cap : Nat) (w : World) (h : Bytes w a len) (hc : len ≤ cap) (hm : cap ≤ maxLen) :
    Calls Try.prog 21 #[.slice a len cap] w (DrewOne (-1) 10001 w) := by
  go_enter Try.func21, Try.ntmps21
  go_wp2_with fail
  refine (open_any a len cap w h hc hm).mono ?_
  rintro e w1 ⟨rfl, hrd1, hb1, hs1⟩
  have HS := Lib.hid hs1
  clear hs1
  go_wp2_with fail
  refine (time_any _ _ _ hrd1 (by omega)).mono ?_
  rintro e w2 ⟨t, rfl, ht0, ht1, hrd2, hk2⟩
  have HB := Lib.hid (show Below w.heap.size w w2 from hb1.trans (hk2.below (Nat.le_refl _) (by have := HS.out; omega)))
  clear hk2 hb1
  go_wp2_with fail
  go_ret
  exact ⟨t, rfl, ht0, ht1, HB.out⟩
end Go.Proofs.Ytggngmeoifdidaa
