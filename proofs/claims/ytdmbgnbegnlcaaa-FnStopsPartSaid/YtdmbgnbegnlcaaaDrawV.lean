import Derived.Test.YtdmbgnbegnlcaaaDrawT
import Derived.Deep.RegionWith
namespace Go.Proofs.Ytdmbgnbegnlcaaa
open Go.RowKit

/-- A cell of a row of integers that a literal made. -/
theorem lit_any (w w' : World) (r : Nat) (C : Array Value) (e : TypeId) (hC : ∀ i, i < C.size → ∃ t : Int, C[i]? = some (.int .i64 t)) (hr : r < w.heap.size)
    (hon : Only r (w.alloc (.cells C e)) w') (k : Nat) (hk : k < C.size) : ∃ t : Int, w'.cell? ⟨w.heap.size, k, none⟩ = some (.int .i64 t) := by
  obtain ⟨t, h1⟩ := hC k hk
  refine ⟨t, ?_⟩
  rw [World.cell?_of_block (w := w.alloc (.cells C e)) (hon.block w.heap.size (by omega)), ← h1]
  exact cell_new _ _ _ _

/-- What the law gets of a draw of a number of towns, stops and a number. -/
def GotThree (w : World) (e : Ending) (w' : World) : Prop :=
  ∃ (n : Int) (A : Option Addr) (c : Nat) (xs : List St) (k : Int), e = .returned (.tuple #[.int .i64 n, .slice A xs.length c, .int .i64 k]) ∧ 2 ≤ n ∧ n ≤ 6 ∧ xs.length ≤ 5 ∧ xs.length ≤ c ∧ c ≤ 9223372036854775807 ∧ Cells w' A (fl xs) ∧ Below w.heap.size w w'

/-- The stops stay while the reader goes on. -/
theorem Cells.keeps {w w' : World} {r B : Nat} {A : Option Addr} {zs : List Int} (h : Cells w A zs) (hk : Keeps r w w') (hA : ∀ g o, A = some ⟨g, o, none⟩ → B ≤ g) (hr : r < B) : Cells w' A zs :=
  h.keep hk.size fun a o e ha => hk.block a ha (by have := hA a o e; omega)

theorem town_any (r : Nat) (b n : Int) (w : World) (h : Rd w r b) (hb : b ≤ 90000) (n1 : 2 ≤ n) (n2 : n ≤ 6) :
    Calls Try.prog 76 #[.pointer (some ⟨r, 0, none⟩), .int .i64 n] w (DrewInt r (b + 2) (-1) 6 w) := by
  have hr := h.lt
  go_enter Try.func76, Try.ntmps76
  go_wp2_with fail
  refine (pick_any r b _ w h (by omega) (by omega)).mono ?_
  rintro e w1 ⟨v, rfl, hv0, hv1, hrd1, hon1⟩
  by_cases hz : v = 0
  · have hz' : (v == 0) = true := by simp [hz]
    clear hz
    go_wp2_with fail
    refine (pick_any r _ _ _ (hrd1.alloc _) (by omega) (by omega)).mono ?_
    rintro e w2 ⟨u, rfl, hu0, hu1, hrd2, hon2⟩
    obtain ⟨k, rfl⟩ := Int.eq_ofNat_of_zero_le hu0
    obtain ⟨t, ht, ht1, ht2⟩ := lit_cell w1 w2 r _ _ (-1) 6 (by
      intro i hi
      simp at hi
      have : i = 0 ∨ i = 1 := by omega
      rcases this with rfl | rfl
      · exact ⟨_, rfl, by decide, by decide⟩
      · exact ⟨n, rfl, by omega, by omega⟩) (by have := hrd1.lt; omega) hon2 k (by simp; omega)
    have HK := Lib.hid ((hon1.keeps.alloc _).trans hon2.keeps)
    clear hon2 hon1
    have hk2 : k < 2 := by omega
    go_wp2_with fail
    go_ret
    exact ⟨t, rfl, ht1, ht2, hrd2.up (by omega), HK.out⟩
  · have hz' : (v == 0) = false := by simp [hz]
    clear hz
    go_wp2_with fail
    refine (pick_any r _ _ _ hrd1 (by omega) (by omega)).mono ?_
    rintro e w2 ⟨u, rfl, hu0, hu1, hrd2, hon2⟩
    have HK := Lib.hid (hon1.keeps.trans hon2.keeps)
    clear hon1 hon2
    go_wp2_with fail
    go_ret
    exact ⟨u, rfl, by omega, by omega, hrd2.up (by omega), HK.out⟩

set_option maxRecDepth 100000 in
set_option maxHeartbeats 1000000 in
theorem drawAt (a : Option Addr) (len cap : Nat) (w : World) (h : Bytes w a len) (hc : len ≤ cap) (hm : cap ≤ maxLen) :
    Calls Try.prog 55 #[.slice a len cap] w (GotThree w) := by
  go_enter Try.func55, Try.ntmps55
  go_wp2_with fail
  refine (open_any a len cap w h hc hm).mono ?_
  rintro e w1 ⟨rfl, hrd1, hb1, hs1⟩
  have S1 := Lib.hid hs1
  have B1 := Lib.hid hb1
  clear hs1 hb1 h
  go_wp2_with fail
  refine (l91One_any _ _ _ hrd1 (by omega)).mono ?_
  rintro e w2 ⟨n, A, c, xs, rfl, n1, n2, l5, c1, c2, hcl, hA, hrd2, hk2⟩
  have HA := Lib.hid (show ∀ g o, A = some ⟨g, o, none⟩ → w.heap.size + 1 ≤ g from fun g o e => by have := hA g o e; have := S1.out; omega)
  have B2 := Lib.hid (B1.out.trans (hk2.below (Nat.le_refl _) (by have := S1.out; omega)))
  have C2 := Lib.hid hcl
  have z2 : w.heap.size < w2.heap.size := hrd2.lt
  clear hcl hA hk2 B1 hrd1
  go_wp2_with fail
  refine (town_any _ _ _ _ hrd2 (by omega) n1 n2).mono ?_
  rintro e w3 ⟨t, rfl, t0, t1, hrd3, hk3⟩
  have R := Lib.hid (And.intro (C2.out.keeps hk3 HA.out (by omega)) (B2.out.trans (hk3.below (Nat.le_refl _) (by omega))))
  clear hk3 C2 B2
  go_wp2_with fail
  go_ret3
  exact ⟨n, A, c, xs, t, rfl, n1, n2, l5, c1, c2, R.out.1, R.out.2⟩

/-- Four results. -/
theorem results4 {fn : Func} {t u v x : Tmp} (h : fn.results = #[.tmp t, .tmp u, .tmp v, .tmp x]) (tmps : Array Value) (P : Program) (w : World) :
    (results fn tmps).run P w = .ok (.tuple #[tmps.getD t undef, tmps.getD u undef, tmps.getD v undef, tmps.getD x undef]) w := by simp [results, h]

/-- What the law gets of a draw of a number of towns, stops and two indexes. -/
def GotFour (w : World) (e : Ending) (w' : World) : Prop :=
  ∃ (n : Int) (A : Option Addr) (c : Nat) (xs : List St) (f t : Int), e = .returned (.tuple #[.int .i64 n, .slice A xs.length c, .int .i64 f, .int .i64 t]) ∧ 2 ≤ n ∧ n ≤ 6 ∧ xs.length ≤ 5 ∧ xs.length ≤ c ∧ c ≤ 9223372036854775807 ∧ -1 ≤ f ∧ f ≤ 3 ∧ f ≤ t ∧ t ≤ 6 ∧ Cells w' A (fl xs) ∧ Below w.heap.size w w'

set_option maxRecDepth 100000 in
set_option maxHeartbeats 1000000 in
theorem drawPart (a : Option Addr) (len cap : Nat) (w : World) (h : Bytes w a len) (hc : len ≤ cap) (hm : cap ≤ maxLen) :
    Calls Try.prog 50 #[.slice a len cap] w (GotFour w) := by
  go_enter Try.func50, Try.ntmps50
  go_wp2_with fail
  refine (open_any a len cap w h hc hm).mono ?_
  rintro e w1 ⟨rfl, hrd1, hb1, hs1⟩
  have S1 := Lib.hid hs1
  have B1 := Lib.hid hb1
  clear hs1 hb1 h
  go_wp2_with fail
  refine (l91One_any _ _ _ hrd1 (by omega)).mono ?_
  rintro e w2 ⟨n, A, c, xs, rfl, n1, n2, l5, c1, c2, hcl, hA, hrd2, hk2⟩
  have HA := Lib.hid (show ∀ g o, A = some ⟨g, o, none⟩ → w.heap.size + 1 ≤ g from fun g o e => by have := hA g o e; have := S1.out; omega)
  have B2 := Lib.hid (B1.out.trans (hk2.below (Nat.le_refl _) (by have := S1.out; omega)))
  have C2 := Lib.hid hcl
  have z2 : w.heap.size < w2.heap.size := hrd2.lt
  clear hcl hA hk2 B1 hrd1
  go_wp2_with fail
  refine (pick_any _ _ _ _ hrd2 (by omega) (by omega)).mono ?_
  rintro e w3 ⟨x, rfl, x0, x1, hrd3, hon3⟩
  have K3 := Lib.hid hon3.keeps
  clear hon3 hrd2
  go_wp2_with fail
  refine (pick_any _ _ _ _ hrd3 (by omega) (by omega)).mono ?_
  rintro e w4 ⟨y, rfl, y0, y1, hrd4, hon4⟩
  have K4 := Lib.hid (K3.out.trans hon4.keeps)
  clear hon4 hrd3 K3
  have d0 : 0 ≤ y / 15 := by omega
  have d1 : y / 15 ≤ 1 := by omega
  go_wp2_with fail
  refine (pick_any _ _ _ _ hrd4 (by omega) (by omega)).mono ?_
  rintro e w5 ⟨z, rfl, z0, z1, hrd5, hon5⟩
  have K5 := Lib.hid (K4.out.trans hon5.keeps)
  clear hon5 hrd4 K4
  have R := Lib.hid (And.intro (C2.out.keeps K5.out HA.out (by omega)) (B2.out.trans (K5.out.below (Nat.le_refl _) (by omega))))
  clear C2 B2 K5
  go_wp2_with fail
  refine bodyPost_ret (results4 rfl _ _ _) rfl ?_
  exact ⟨n, A, c, xs, x - y / 15, x - y / 15 + z, rfl, n1, n2, l5, c1, c2, by omega, by omega, by omega, by omega, R.out.1, R.out.2⟩

/-- What the law gets of a draw of a number of towns and two lists of stops. -/
def GotTwo (w : World) (e : Ending) (w' : World) : Prop :=
  ∃ (n : Int) (A A' : Option Addr) (c c' : Nat) (xs ys : List St), e = .returned (.tuple #[.int .i64 n, .slice A xs.length c, .slice A' ys.length c']) ∧ 2 ≤ n ∧ n ≤ 6 ∧ xs.length ≤ 5 ∧ ys.length ≤ 5 ∧ Cells w' A (fl xs) ∧ Cells w' A' (fl ys) ∧ Below w.heap.size w w'

set_option maxRecDepth 100000 in
theorem drawMeet (a : Option Addr) (len cap : Nat) (w : World) (h : Bytes w a len) (hc : len ≤ cap) (hm : cap ≤ maxLen) :
    Calls Try.prog 56 #[.slice a len cap] w (GotTwo w) := by
  go_enter Try.func56, Try.ntmps56
  go_wp2_with fail
  refine (open_any a len cap w h hc hm).mono ?_
  rintro e w1 ⟨rfl, hrd1, hb1, hs1⟩
  have S1 := Lib.hid hs1
  have B1 := Lib.hid hb1
  clear hs1 hb1 h
  go_wp2_with fail
  refine (pick_any _ _ _ _ hrd1 (by omega) (by omega)).mono ?_
  rintro e w2 ⟨n, rfl, n0, n1, hrd2, hon2⟩
  have K2 := Lib.hid hon2.keeps
  clear hon2 hrd1
  go_wp2_with fail
  refine (pick_any _ _ _ _ hrd2 (by omega) (by omega)).mono ?_
  rintro e w3 ⟨t, rfl, t0, t1, hrd3, hon3⟩
  have K3 := Lib.hid (K2.out.trans hon3.keeps)
  clear hon3 hrd2 K2
  go_wp2_with fail
  refine (l91Stops_any _ _ _ _ _ hrd3 (by omega) (by omega) (by omega) (by omega) (by omega)).mono ?_
  rintro e w4 ⟨A, c, xs, rfl, l5, c1, c2, hcl, hA, hrd4, hk4⟩
  have HA := Lib.hid (show ∀ g o, A = some ⟨g, o, none⟩ → w.heap.size + 1 ≤ g from fun g o e => by have := hA g o e; have := hrd3.lt; omega)
  have C4 := Lib.hid hcl
  have K4 := Lib.hid (K3.out.trans hk4)
  clear hcl hA hk4 hrd3 K3
  go_wp2_with fail
  refine (pick_any _ _ _ _ hrd4 (by omega) (by omega)).mono ?_
  rintro e w5 ⟨x, rfl, x0, x1, hrd5, hon5⟩
  have C5 := Lib.hid (C4.out.keeps hon5.keeps HA.out (by omega))
  have K5 := Lib.hid (K4.out.trans hon5.keeps)
  clear hon5 hrd4 K4 C4
  go_wp2_with fail
  refine (l91Stops_any _ _ _ _ _ hrd5 (by omega) (by omega) (by omega) (by omega) (by omega)).mono ?_
  rintro e w6 ⟨A', c', ys, rfl, l5', c1', c2', hcl', hA', hrd6, hk6⟩
  have R := Lib.hid (And.intro (C5.out.keeps hk6 HA.out (by omega)) (And.intro hcl' (B1.out.trans ((K5.out.trans hk6).below (Nat.le_refl _) (by have := S1.out; omega)))))
  clear hcl' hA' hk6 hrd5 hrd6 K5 C5
  go_wp2_with fail
  go_ret3
  exact ⟨_, A, A', c, c', xs, ys, rfl, by omega, by omega, l5, l5', R.out.1, R.out.2.1, R.out.2.2⟩
end Go.Proofs.Ytdmbgnbegnlcaaa
