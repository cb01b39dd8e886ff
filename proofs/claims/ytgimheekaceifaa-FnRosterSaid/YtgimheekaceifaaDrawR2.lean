import Derived.Test.YtgimheekaceifaaDrawR
import Derived.Test.YtgimheekaceifaaDrawB
namespace Go.Proofs.Ytgimheekaceifaa
open Go.RowKit

theorem results3' {fn : Func} {t u v : Tmp} (h : fn.results = #[.tmp t, .tmp u, .tmp v]) (tmps : Array Value) (P : Program) (w : World) :
    (results fn tmps).run P w = .ok (.tuple #[tmps.getD t undef, tmps.getD u undef, tmps.getD v undef]) w := by simp [results, h]

theorem rest_any (r : Nat) (b : Int) (w : World) (h : Rd w r b) (hb : b ≤ 90000) :
    Calls Try.prog 91 #[.pointer (some ⟨r, 0, none⟩)] w (DrewInt r (b + 3) (-1) 601 w) := by
  have hr := h.lt
  go_enter Try.func91, Try.ntmps91
  go_wp2_with fail
  refine (pick_any r b _ w h (by omega) (by omega)).mono ?_
  rintro e w1 ⟨v, rfl, hv0, hv1, hrd1, hon1⟩
  by_cases hz : v = 0
  · have hz' : (v == 0) = true := by simp [hz]
    clear hz
    go_wp2_with fail
    refine (pick_any r _ _ _ (hrd1.alloc _) (by omega) (by omega)).mono ?_
    rintro e w2 ⟨u, rfl, hu0, hu1, hrd2, hon2⟩
    obtain ⟨k, rfl⟩ := Int.eq_ofNat_of_zero_le hu0
    obtain ⟨t, ht, ht1, ht2⟩ := lit_cell w1 w2 r _ _ (-1) 601 (by
      intro i hi
      simp at hi
      have : i = 0 ∨ i = 1 ∨ i = 2 := by omega
      rcases this with rfl | rfl | rfl
      · exact ⟨_, rfl, by decide, by decide⟩
      · exact ⟨_, rfl, by decide, by decide⟩
      · exact ⟨_, rfl, by decide, by decide⟩) (by have := hrd1.lt; omega) hon2 k (by simp; omega)
    have HK := Lib.hid ((hon1.keeps.alloc _).trans hon2.keeps)
    clear hon2 hon1
    have hk2 : k < 3 := by omega
    go_wp2_with fail
    go_ret
    exact ⟨t, rfl, ht1, ht2, hrd2.up (by omega), HK.out⟩
  · have hz' : (v == 0) = false := by simp [hz]
    clear hz
    go_wp2_with fail
    refine (pick_any r _ _ _ hrd1 (by omega) (by omega)).mono ?_
    rintro e w2 ⟨u, rfl, hu0, hu1, hrd2, hon2⟩
    have HK := Lib.hid (hon1.keeps.trans hon2.keeps)
    clear hon1 hon2
    go_wp2_with fail
    refine (pick_any r _ _ _ hrd2 (by omega) (by omega)).mono ?_
    rintro e w3 ⟨x, rfl, hx0, hx1, hrd3, hon3⟩
    have HK3 := Lib.hid (HK.out.trans hon3.keeps)
    have hm0 : 0 ≤ u * x := Int.mul_nonneg hu0 hx0
    have hm1 : u * x ≤ 3 * 14 := Int.mul_le_mul (by omega) (by omega) hx0 (by omega)
    clear hon3 HK
    go_wp2_with fail
    go_ret
    exact ⟨u * x, rfl, by omega, by omega, hrd3.up (by omega), HK3.out⟩

/-- Runs and a rest, and the reader some places farther. -/
def DrewRR (r : Nat) (b : Int) (w : World) (e : Ending) (w' : World) : Prop :=
  ∃ (g c : Nat) (xs : List Rn) (t : Int), e = .returned (.tuple #[.slice (some ⟨g, 0, none⟩) xs.length c, .int .i64 t]) ∧ -1 ≤ t ∧ t ≤ 601 ∧ xs.length ≤ 7 ∧ xs.length ≤ c ∧ c ≤ 9223372036854775807 ∧ Cells w' (some ⟨g, 0, none⟩) (fr xs) ∧ w.heap.size ≤ g ∧ Rd w' r b ∧ Keeps r w w'

theorem Cells.keepR {w w' : World} {r g : Nat} {zs : List Int} (h : Cells w (some ⟨g, 0, none⟩) zs) (hk : Keeps r w w') (hr : r < g) : Cells w' (some ⟨g, 0, none⟩) zs :=
  h.keep hk.size fun a o e ha => hk.block a ha (by injection e with e; injection e with e1 e2; omega)

theorem team_any (r : Nat) (b : Int) (w : World) (h : Rd w r b) (hb : b ≤ 40000) :
    Calls Try.prog 88 #[.pointer (some ⟨r, 0, none⟩)] w (DrewRR r (b + 40) w) := by
  have hr := h.lt
  go_enter Try.func88, Try.ntmps88
  go_wp2_with fail
  refine (l91Runs_any _ _ _ h (by omega)).mono ?_
  rintro e w1 ⟨g, c, xs, rfl, l7, c1, c2, hcl, hg, hrd1, hk1⟩
  have C1 := Lib.hid hcl
  have K1 := Lib.hid hk1
  clear hcl hk1 h
  go_wp2_with fail
  refine (rest_any _ _ _ hrd1 (by omega)).mono ?_
  rintro e w2 ⟨t, rfl, t0, t1, hrd2, hk2⟩
  have R := Lib.hid (And.intro (C1.out.keepR hk2 (by omega)) (K1.out.trans hk2))
  clear hk2 C1 K1
  go_wp2_with fail
  go_ret2
  exact ⟨g, c, xs, t, rfl, t0, t1, l7, c1, c2, R.out.1, hg, hrd2.up (by omega), R.out.2⟩

/-- What the law gets of a draw of runs and a number. -/
def GotRR (w : World) (e : Ending) (w' : World) : Prop :=
  ∃ (g c : Nat) (xs : List Rn) (t : Int), e = .returned (.tuple #[.slice (some ⟨g, 0, none⟩) xs.length c, .int .i64 t]) ∧ (Lit.int .i64 t).wf = true ∧ xs.length ≤ 7 ∧ xs.length ≤ c ∧ c ≤ 9223372036854775807 ∧ Cells w' (some ⟨g, 0, none⟩) (fr xs) ∧ Below w.heap.size w w'

theorem drawMake (a : Option Addr) (len cap : Nat) (w : World) (h : Bytes w a len) (hc : len ≤ cap) (hm : cap ≤ maxLen) :
    Calls Try.prog 65 #[.slice a len cap] w (GotRR w) := by
  go_enter Try.func65, Try.ntmps65
  go_wp2_with fail
  refine (open_any a len cap w h hc hm).mono ?_
  rintro e w1 ⟨rfl, hrd1, hb1, hs1⟩
  have S1 := Lib.hid hs1
  have B1 := Lib.hid hb1
  clear hs1 hb1 h
  go_wp2_with fail
  refine (team_any _ _ _ hrd1 (by omega)).mono ?_
  rintro e w2 ⟨g, c, xs, t, rfl, t0, t1, l7, c1, c2, hcl, hg, hrd2, hk2⟩
  have R := Lib.hid (And.intro hcl (B1.out.trans (hk2.below (Nat.le_refl _) (by have := S1.out; omega))))
  clear hcl hrd2 hk2 B1
  go_wp2_with fail
  go_ret2
  exact ⟨g, c, xs, t, rfl, WalkArith.wf_i64 (by omega), l7, c1, c2, R.out.1, R.out.2⟩

theorem drawLeast (a : Option Addr) (len cap : Nat) (w : World) (h : Bytes w a len) (hc : len ≤ cap) (hm : cap ≤ maxLen) :
    Calls Try.prog 69 #[.slice a len cap] w (GotRR w) := by
  go_enter Try.func69, Try.ntmps69
  go_wp2_with fail
  refine (open_any a len cap w h hc hm).mono ?_
  rintro e w1 ⟨rfl, hrd1, hb1, hs1⟩
  have S1 := Lib.hid hs1
  have B1 := Lib.hid hb1
  clear hs1 hb1 h
  go_wp2_with fail
  refine (team_any _ _ _ hrd1 (by omega)).mono ?_
  rintro e w2 ⟨g, c, xs, t, rfl, t0, t1, l7, c1, c2, hcl, hg, hrd2, hk2⟩
  have R := Lib.hid (And.intro hcl (B1.out.trans (hk2.below (Nat.le_refl _) (by have := S1.out; omega))))
  clear hcl hrd2 hk2 B1
  go_wp2_with fail
  go_ret2
  exact ⟨g, c, xs, t, rfl, WalkArith.wf_i64 (by omega), l7, c1, c2, R.out.1, R.out.2⟩

theorem drawPeak (a : Option Addr) (len cap : Nat) (w : World) (h : Bytes w a len) (hc : len ≤ cap) (hm : cap ≤ maxLen) :
    Calls Try.prog 70 #[.slice a len cap] w (GotRR w) := by
  go_enter Try.func70, Try.ntmps70
  go_wp2_with fail
  refine (open_any a len cap w h hc hm).mono ?_
  rintro e w1 ⟨rfl, hrd1, hb1, hs1⟩
  have S1 := Lib.hid hs1
  have B1 := Lib.hid hb1
  clear hs1 hb1 h
  go_wp2_with fail
  refine (team_any _ _ _ hrd1 (by omega)).mono ?_
  rintro e w2 ⟨g, c, xs, t, rfl, t0, t1, l7, c1, c2, hcl, hg, hrd2, hk2⟩
  have R := Lib.hid (And.intro hcl (B1.out.trans (hk2.below (Nat.le_refl _) (by have := S1.out; omega))))
  clear hcl hrd2 hk2 B1
  go_wp2_with fail
  go_ret2
  exact ⟨g, c, xs, t, rfl, WalkArith.wf_i64 (by omega), l7, c1, c2, R.out.1, R.out.2⟩
end Go.Proofs.Ytgimheekaceifaa
