import Derived.Test.YtmpkdnikkganlaaDrawS
namespace Go.Proofs.Ytmpkdnikkganlaa
open Go.RowKit

/-- A number of towns and some stops, and the reader some places farther. -/
def DrewPair (r : Nat) (b : Int) (w : World) (e : Ending) (w' : World) : Prop :=
  ∃ (n : Int) (A : Option Addr) (c : Nat) (xs : List St), e = .returned (.tuple #[.int .i64 n, .slice A xs.length c]) ∧ 2 ≤ n ∧ n ≤ 6 ∧ xs.length ≤ 5 ∧ xs.length ≤ c ∧ c ≤ 9223372036854775807 ∧ Cells w' A (fl xs) ∧ (∀ g o, A = some ⟨g, o, none⟩ → w.heap.size ≤ g) ∧ Rd w' r b ∧ Keeps r w w'

theorem l91One_any (r : Nat) (b : Int) (w : World) (h : Rd w r b) (hb : b ≤ 40000) :
    Calls Try.prog 21 #[.pointer (some ⟨r, 0, none⟩)] w (DrewPair r (b + 40) w) := by
  go_enter Try.func21, Try.ntmps21
  go_wp2_with fail
  refine (pick_any r b _ w h (by omega) (by omega)).mono ?_
  rintro e w1 ⟨v, rfl, v0, v1, hrd1, hon1⟩
  have K1 := Lib.hid hon1.keeps
  have S1 := Lib.hid hon1.size
  clear hon1 h
  go_wp2_with fail
  refine (pick_any r _ _ w1 hrd1 (by omega) (by omega)).mono ?_
  rintro e w2 ⟨u, rfl, u0, u1, hrd2, hon2⟩
  have K2 := Lib.hid (K1.out.trans hon2.keeps)
  have S2 := Lib.hid hon2.size
  clear hon2 hrd1
  go_wp2_with fail
  refine (l91Stops_any r _ _ _ w2 hrd2 (by omega) (by omega) (by omega) (by omega) (by omega)).mono ?_
  rintro e w3 ⟨A, c, xs, rfl, l5, c1, c2, hcl, hA, hrd3, hk3⟩
  have R := Lib.hid (And.intro hcl (And.intro hA (And.intro hrd3 (K2.out.trans hk3))))
  clear hcl hA hrd3 hk3
  go_wp2_with fail
  go_ret2
  obtain ⟨hcl, hA, hrd3, hk3⟩ := R.out
  exact ⟨_, A, c, xs, rfl, by omega, by omega, l5, c1, c2, hcl, fun g o e => by have := hA g o e; have := S1.out; have := S2.out; omega, hrd3.up (by omega), hk3⟩

/-- What the law gets of a draw of a number of towns and stops. -/
def GotPair (w : World) (e : Ending) (w' : World) : Prop :=
  ∃ (n : Int) (A : Option Addr) (c : Nat) (xs : List St), e = .returned (.tuple #[.int .i64 n, .slice A xs.length c]) ∧ 2 ≤ n ∧ n ≤ 6 ∧ xs.length ≤ 5 ∧ xs.length ≤ c ∧ c ≤ 9223372036854775807 ∧ Cells w' A (fl xs) ∧ Below w.heap.size w w'

theorem drawText (a : Option Addr) (len cap : Nat) (w : World) (h : Bytes w a len) (hc : len ≤ cap) (hm : cap ≤ maxLen) :
    Calls Try.prog 10 #[.slice a len cap] w (GotPair w) := by
  go_enter Try.func10, Try.ntmps10
  go_wp2_with fail
  refine (open_any a len cap w h hc hm).mono ?_
  rintro e w1 ⟨rfl, hrd1, hb1, hs1⟩
  have S1 := Lib.hid hs1
  have B1 := Lib.hid hb1
  clear hs1 hb1 h
  go_wp2_with fail
  refine (l91One_any _ _ _ hrd1 (by omega)).mono ?_
  rintro e w2 ⟨n, A, c, xs, rfl, n1, n2, l5, c1, c2, hcl, hA, hrd2, hk2⟩
  have R := Lib.hid (And.intro hcl (B1.out.trans (hk2.below (Nat.le_refl _) (by have := S1.out; omega))))
  clear hcl hA hrd2 hk2 B1
  go_wp2_with fail
  go_ret2
  exact ⟨n, A, c, xs, rfl, n1, n2, l5, c1, c2, R.out.1, R.out.2⟩
end Go.Proofs.Ytmpkdnikkganlaa
