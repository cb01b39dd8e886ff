import Derived.Test.YtgimheekaceifaaDrawR4
namespace Go.Proofs.Ytgimheekaceifaa
open Go.RowKit

/-- What the law gets of a draw of runs, a rest and a list. -/
def GotRo (w : World) (e : Ending) (w' : World) : Prop :=
  ∃ (g c : Nat) (xs : List Rn) (t : Int) (R : Option Addr) (rc : Nat) (ro : List Int), e = .returned (.tuple #[.slice (some ⟨g, 0, none⟩) xs.length c, .int .i64 t, .slice R ro.length rc]) ∧ (Lit.int .i64 t).wf = true ∧ xs.length ≤ 7 ∧ xs.length ≤ c ∧ c ≤ 9223372036854775807 ∧ ro.length ≤ 8 ∧ RForm R ro.length rc ∧ Cells w' (some ⟨g, 0, none⟩) (fr xs) ∧ Cells w' R ro ∧ Below w.heap.size w w'

theorem drawRoster (a : Option Addr) (len cap : Nat) (w : World) (h : Bytes w a len) (hc : len ≤ cap) (hm : cap ≤ maxLen) :
    Calls Try.prog 47 #[.slice a len cap] w (GotRo w) := by
  go_enter Try.func47, Try.ntmps47
  go_wp2_with fail
  refine (open_any a len cap w h hc hm).mono ?_
  rintro e w1 ⟨rfl, hrd1, hb1, hs1⟩
  have S1 := Lib.hid hs1
  have B1 := Lib.hid hb1
  clear hs1 hb1 h
  go_wp2_with fail
  refine (l91Roster_any _ _ _ hrd1 (by omega)).mono ?_
  rintro e w2 ⟨g, c, xs, t, R, rc, ro, rfl, t0, t1, l7, c1, c2, r8, hf, hcl, hcr, hrd2, hk2⟩
  have Q := Lib.hid (And.intro hcl (And.intro hcr (B1.out.trans (hk2.below (Nat.le_refl _) (by have := S1.out; omega)))))
  have HF := Lib.hid hf
  clear hcl hcr hrd2 hk2 B1 hf
  go_wp2_with fail
  go_ret3
  exact ⟨g, c, xs, t, R, rc, ro, rfl, WalkArith.wf_i64 (by omega), l7, c1, c2, r8, HF.out, Q.out.1, Q.out.2.1, Q.out.2.2⟩

theorem drawMinutes (a : Option Addr) (len cap : Nat) (w : World) (h : Bytes w a len) (hc : len ≤ cap) (hm : cap ≤ maxLen) :
    Calls Try.prog 66 #[.slice a len cap] w (GotRo w) := by
  go_enter Try.func66, Try.ntmps66
  go_wp2_with fail
  refine (open_any a len cap w h hc hm).mono ?_
  rintro e w1 ⟨rfl, hrd1, hb1, hs1⟩
  have S1 := Lib.hid hs1
  have B1 := Lib.hid hb1
  clear hs1 hb1 h
  go_wp2_with fail
  refine (l91Roster_any _ _ _ hrd1 (by omega)).mono ?_
  rintro e w2 ⟨g, c, xs, t, R, rc, ro, rfl, t0, t1, l7, c1, c2, r8, hf, hcl, hcr, hrd2, hk2⟩
  have Q := Lib.hid (And.intro hcl (And.intro hcr (B1.out.trans (hk2.below (Nat.le_refl _) (by have := S1.out; omega)))))
  have HF := Lib.hid hf
  clear hcl hcr hrd2 hk2 B1 hf
  go_wp2_with fail
  go_ret3
  exact ⟨g, c, xs, t, R, rc, ro, rfl, WalkArith.wf_i64 (by omega), l7, c1, c2, r8, HF.out, Q.out.1, Q.out.2.1, Q.out.2.2⟩
end Go.Proofs.Ytgimheekaceifaa
