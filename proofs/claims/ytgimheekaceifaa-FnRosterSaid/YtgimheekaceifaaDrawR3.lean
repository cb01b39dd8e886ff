import Derived.Test.YtgimheekaceifaaDrawR2
namespace Go.Proofs.Ytgimheekaceifaa
open Go.RowKit

theorem quo19 {v : Int} (h0 : 0 ≤ v) (h1 : v < 20) : ∃ d : Int, Int.tdiv v 19 = d ∧ 0 ≤ d ∧ d ≤ 1 :=
  ⟨Int.tdiv v 19, rfl, by rw [Int.tdiv_eq_ediv_of_nonneg h0]; omega, by rw [Int.tdiv_eq_ediv_of_nonneg h0]; omega⟩

theorem drawRest (a : Option Addr) (len cap : Nat) (w : World) (h : Bytes w a len) (hc : len ≤ cap) (hm : cap ≤ maxLen) :
    Calls Try.prog 64 #[.slice a len cap] w (GotRR w) := by
  go_enter Try.func64, Try.ntmps64
  go_wp2_with fail
  refine (open_any a len cap w h hc hm).mono ?_
  rintro e w1 ⟨rfl, hrd1, hb1, hs1⟩
  have S1 := Lib.hid hs1
  have B1 := Lib.hid hb1
  clear hs1 hb1 h
  go_wp2_with fail
  refine (l91Runs_any _ _ _ hrd1 (by omega)).mono ?_
  rintro e w2 ⟨g, c, xs, rfl, l7, c1, c2, hcl, hg, hrd2, hk2⟩
  have C2 := Lib.hid hcl
  have K2 := Lib.hid hk2
  clear hcl hk2
  go_wp2_with fail
  refine (pick_any _ _ _ _ hrd2 (by omega) (by omega)).mono ?_
  rintro e w3 ⟨v3, rfl, v30, v31, hrd3, hon3⟩
  have C3 := Lib.hid (C2.out.keepR hon3.keeps (by have := S1.out; omega))
  have K3 := Lib.hid (K2.out.trans hon3.keeps)
  clear hon3 C2 K2
  go_wp2_with fail
  refine (pick_any _ _ _ _ hrd3 (by omega) (by omega)).mono ?_
  rintro e w4 ⟨v4, rfl, v40, v41, hrd4, hon4⟩
  have C4 := Lib.hid (C3.out.keepR hon4.keeps (by have := S1.out; omega))
  have K4 := Lib.hid (K3.out.trans hon4.keeps)
  obtain ⟨d4, q4, d40, d41⟩ := quo19 v40 v41
  clear hon4 C3 K3
  go_wp2_with fail
  refine (pick_any _ _ _ _ hrd4 (by omega) (by omega)).mono ?_
  rintro e w5 ⟨v5, rfl, v50, v51, hrd5, hon5⟩
  have R := Lib.hid (And.intro (C4.out.keepR hon5.keeps (by have := S1.out; omega)) (B1.out.trans ((K4.out.trans hon5.keeps).below (Nat.le_refl _) (by have := S1.out; omega))))
  obtain ⟨d5, q5, d50, d51⟩ := quo19 v50 v51
  clear hon5 C4 K4 B1
  go_wp2_with fail
  go_ret2
  exact ⟨g, c, xs, _, rfl, WalkArith.wf_i64 (by omega), l7, c1, c2, R.out.1, R.out.2⟩

/-- What the law gets of a draw of runs and two numbers. -/
def GotRRI (w : World) (e : Ending) (w' : World) : Prop :=
  ∃ (g c : Nat) (xs : List Rn) (t u : Int), e = .returned (.tuple #[.slice (some ⟨g, 0, none⟩) xs.length c, .int .i64 t, .int .i64 u]) ∧ (Lit.int .i64 t).wf = true ∧ (Lit.int .i64 u).wf = true ∧ xs.length ≤ 7 ∧ xs.length ≤ c ∧ c ≤ 9223372036854775807 ∧ Cells w' (some ⟨g, 0, none⟩) (fr xs) ∧ Below w.heap.size w w'

theorem drawBusy (a : Option Addr) (len cap : Nat) (w : World) (h : Bytes w a len) (hc : len ≤ cap) (hm : cap ≤ maxLen) :
    Calls Try.prog 61 #[.slice a len cap] w (GotRRI w) := by
  go_enter Try.func61, Try.ntmps61
  go_wp2_with fail
  refine (open_any a len cap w h hc hm).mono ?_
  rintro e w1 ⟨rfl, hrd1, hb1, hs1⟩
  have S1 := Lib.hid hs1
  have B1 := Lib.hid hb1
  clear hs1 hb1 h
  go_wp2_with fail
  refine (team_any _ _ _ hrd1 (by omega)).mono ?_
  rintro e w2 ⟨g, c, xs, t, rfl, t0, t1, l7, c1, c2, hcl, hg, hrd2, hk2⟩
  have C2 := Lib.hid hcl
  have K2 := Lib.hid hk2
  clear hcl hk2
  go_wp2_with fail
  refine (pick_any _ _ _ _ hrd2 (by omega) (by omega)).mono ?_
  rintro e w3 ⟨v3, rfl, v30, v31, hrd3, hon3⟩
  have C3 := Lib.hid (C2.out.keepR hon3.keeps (by have := S1.out; omega))
  have K3 := Lib.hid (K2.out.trans hon3.keeps)
  clear hon3 C2 K2
  go_wp2_with fail
  refine (pick_any _ _ _ _ hrd3 (by omega) (by omega)).mono ?_
  rintro e w5 ⟨v5, rfl, v50, v51, hrd5, hon5⟩
  have R := Lib.hid (And.intro (C3.out.keepR hon5.keeps (by have := S1.out; omega)) (B1.out.trans ((K3.out.trans hon5.keeps).below (Nat.le_refl _) (by have := S1.out; omega))))
  obtain ⟨d5, q5, d50, d51⟩ := quo19 v50 v51
  clear hon5 C3 K3 B1
  go_wp2_with fail
  go_ret3
  exact ⟨g, c, xs, t, _, rfl, WalkArith.wf_i64 (by omega), WalkArith.wf_i64 (by omega), l7, c1, c2, R.out.1, R.out.2⟩

set_option maxRecDepth 100000 in
set_option maxHeartbeats 1000000 in
theorem drawLater (a : Option Addr) (len cap : Nat) (w : World) (h : Bytes w a len) (hc : len ≤ cap) (hm : cap ≤ maxLen) :
    Calls Try.prog 55 #[.slice a len cap] w (GotRR w) := by
  go_enter Try.func55, Try.ntmps55
  go_wp2_with fail
  refine (open_any a len cap w h hc hm).mono ?_
  rintro e w1 ⟨rfl, hrd1, hb1, hs1⟩
  have S1 := Lib.hid hs1
  have B1 := Lib.hid hb1
  clear hs1 hb1 h
  go_wp2_with fail
  refine (l91Runs_any _ _ _ hrd1 (by omega)).mono ?_
  rintro e w2 ⟨g, c, xs, rfl, l7, c1, c2, hcl, hg, hrd2, hk2⟩
  have C2 := Lib.hid hcl
  have K2 := Lib.hid hk2
  clear hcl hk2
  go_wp2_with fail
  refine (pick_any _ _ _ _ hrd2 (by omega) (by omega)).mono ?_
  rintro e w3 ⟨v3, rfl, v30, v31, hrd3, hon3⟩
  have C3 := Lib.hid (C2.out.keepR hon3.keeps (by have := S1.out; omega))
  have K3 := Lib.hid (K2.out.trans hon3.keeps)
  clear hon3 C2 K2
  by_cases hz : v3 = 0
  · have hz' : (v3 == 0) = true := by simp [hz]
    clear hz
    go_wp2_with fail
    have hr3 := hrd3.lt
    have LIT := Lib.hid (show ∀ i, i < (#[Value.int IntKind.i64 9223372036854775807, Value.int IntKind.i64 (-9223372036854775808), Value.int IntKind.i64 9990] : Array Value).size → ∃ t : Int, (#[Value.int IntKind.i64 9223372036854775807, Value.int IntKind.i64 (-9223372036854775808), Value.int IntKind.i64 9990] : Array Value)[i]? = some (.int .i64 t) ∧ (-9223372036854775808) ≤ t ∧ t ≤ 9223372036854775807 from by
      intro i hi
      simp at hi
      have : i = 0 ∨ i = 1 ∨ i = 2 := by omega
      rcases this with rfl | rfl | rfl <;> exact ⟨_, rfl, by decide, by decide⟩)
    generalize hr : w.heap.size = r at *
    have HR := Lib.hid hr
    clear hr
    go_region_with (first
      | (go_at_call 79; (with_reducible refine (pick_any r _ 3 _ (hrd3.alloc _).drew (by decide) (by omega)).mono ?_); rintro e w4 ⟨u, rfl, hu0, hu1, hrd4, hon4⟩; obtain ⟨k, rfl⟩ := Int.eq_ofNat_of_zero_le hu0; obtain ⟨t4, ht4, hl4, hg4⟩ := lit_cell w3 w4 r _ _ (-9223372036854775808) 9223372036854775807 LIT.out hr3 hon4.of_drew k (by simp; omega); have HK := Lib.hid ((Keeps.refl r w3).alloc _ |>.trans hon4.of_drew.keeps); clear hon4)
      | (go_at_call 79; (with_reducible refine (pick_any r _ 3 _ hrd3.drew (by decide) (by omega)).mono ?_); rintro e w4 ⟨u, rfl, hu0, hu1, hrd4, hon4⟩; obtain ⟨k, rfl⟩ := Int.eq_ofNat_of_zero_le hu0; obtain ⟨t4, ht4, hl4, hg4⟩ := lit_cell w4 _ r _ 3 (-9223372036854775808) 9223372036854775807 LIT.out hrd4.lt (Only.refl r _) k (by simp; omega); have HK := Lib.hid hon4.of_drew.keeps; clear hon4))
    · go_wp2_with fail
      go_ret2
      exact ⟨g, c, xs, t4, rfl, WalkArith.wf_i64 (by omega), l7, c1, c2, C3.out.keepR HK.out (by have := S1.out; omega), by rw [HR.out]; exact B1.out.trans ((K3.out.trans HK.out).below (Nat.le_refl _) (by have := S1.out; omega))⟩
    · go_wp2_with fail
      go_ret2
      exact ⟨g, c, xs, t4, rfl, WalkArith.wf_i64 (by omega), l7, c1, c2, (C3.out.keepR HK.out (by have := S1.out; omega)).alloc _, by rw [HR.out]; exact B1.out.trans (((K3.out.trans HK.out).alloc _).below (Nat.le_refl _) (by have := S1.out; omega))⟩
  · have hz' : (v3 == 0) = false := by simp [hz]
    clear hz
    go_wp2_with fail
    refine (pick_any _ _ _ _ hrd3 (by omega) (by omega)).mono ?_
    rintro e w5 ⟨v5, rfl, v50, v51, hrd5, hon5⟩
    have R := Lib.hid (And.intro (C3.out.keepR hon5.keeps (by have := S1.out; omega)) (B1.out.trans ((K3.out.trans hon5.keeps).below (Nat.le_refl _) (by have := S1.out; omega))))
    clear hon5 C3 K3 B1
    go_wp2_with fail
    go_ret2
    exact ⟨g, c, xs, _, rfl, WalkArith.wf_i64 (by omega), l7, c1, c2, R.out.1, R.out.2⟩
end Go.Proofs.Ytgimheekaceifaa
