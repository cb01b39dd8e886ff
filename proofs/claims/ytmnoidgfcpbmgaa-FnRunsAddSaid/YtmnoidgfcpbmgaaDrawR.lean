import Derived.Test.YtmnoidgfcpbmgaaDrawK
import Derived.Test.YtmnoidgfcpbmgaaRunsJ
namespace Go.Proofs.Ytmnoidgfcpbmgaa
open Go.RowKit

/-- What a draw of runs leaves: some runs in new memory. -/
def DrewRuns (r : Nat) (b : Int) (w : World) (e : Ending) (w' : World) : Prop :=
  ∃ g c, ∃ xs : List Rn, e = .returned (.slice (some ⟨g, 0, none⟩) xs.length c) ∧ xs.length ≤ 7 ∧ xs.length ≤ c ∧ c ≤ 9223372036854775807 ∧ Cells w' (some ⟨g, 0, none⟩) (fr xs) ∧ w.heap.size ≤ g ∧ Rd w' r b ∧ Keeps r w w'

/-- A row of runs whose address is known. -/
def RRow (w : World) (B g n cap : Nat) : Prop := ∃ xs : List Rn, xs.length = n ∧ w.ownsRow B 25 2 (.slice (some ⟨g, 0, none⟩) n cap) n ((fr xs).map (Value.int .i64))

theorem unfr2 : ∀ (n : Nat) (zs : List Int), zs.length = n * 2 → ∃ xs : List Rn, xs.length = n ∧ fr xs = zs := by
  intro n
  induction n with
  | zero => intro zs h; exact ⟨[], rfl, (List.eq_nil_of_length_eq_zero (by simpa using h)).symm⟩
  | succ n ih =>
    intro zs h
    match zs, h with
    | a :: b :: r, h =>
      obtain ⟨xs, h1, h2⟩ := ih r (by simp at h; omega)
      exact ⟨⟨a, b⟩ :: xs, by simp [h1], by rw [fr_cons, h2]⟩
    | [], h => simp at h
    | [_], h => simp at h; omega

theorem RRow.store {w : World} {B g n cap : Nat} (h : RRow w B g n cap) (j : Nat) (v : Int) : RRow (w.setCell ⟨g, j, none⟩ (.int .i64 v)) B g n cap := by
  obtain ⟨xs, hl, ho⟩ := h
  have := (ho.stored j (.int .i64 v)).1
  rw [← List.map_set] at this
  obtain ⟨ys, h1, h2⟩ := unfr2 n ((fr xs).set j v) (by rw [List.length_set, fr_len, hl])
  exact ⟨ys, h1, by rw [h2]; exact this⟩
theorem RRow.cell {w : World} {B g n cap : Nat} (h : RRow w B g n cap) {j : Nat} (hj : j < n * 2) : ∃ v : Int, w.cell? ⟨g, j, none⟩ = some (.int .i64 v) := by
  obtain ⟨xs, hl, ho⟩ := h
  rw [ho.cellAt j hj]
  have h1 : j < (fr xs).length := by rw [fr_len, hl]; exact hj
  exact ⟨(fr xs)[j], by simp [List.getElem?_eq_getElem h1]⟩
theorem RRow.frozen {w : World} {B g n cap : Nat} (h : RRow w B g n cap) (j : Nat) : w.frozen? ⟨g, j, none⟩ = false := by
  obtain ⟨xs, hl, ho⟩ := h
  exact ho.frozenAt j
theorem RRow.only {w w' : World} {r B g n cap : Nat} (h : RRow w B g n cap) (ho : Only r w w') (hr : r < B) : RRow w' B g n cap := by
  obtain ⟨xs, hl, hw⟩ := h
  exact ⟨xs, hl, own_only hw ho hr⟩
theorem RRow.below {w w' : World} {B g n cap : Nat} (h : RRow w B g n cap) (hb : Below w.heap.size w w') : RRow w' B g n cap := by
  obtain ⟨xs, hl, hw⟩ := h
  exact ⟨xs, hl, own_below hw hb⟩
theorem RRow.lt {w : World} {B g n cap : Nat} (h : RRow w B g n cap) : B ≤ g ∧ g < w.heap.size := by
  obtain ⟨xs, hl, hw⟩ := h
  exact hw.lt g rfl
theorem RRow.caps {w : World} {B g n cap : Nat} (h : RRow w B g n cap) : n ≤ cap ∧ cap ≤ 9223372036854775807 := by
  obtain ⟨xs, hl, hw⟩ := h
  rcases hw.2 with ⟨h1, _⟩ | ⟨g', cap', cur, h1, _, _, h2, h3, _⟩
  · cases h1
  · injection h1 with h1 h4 h5
    subst h5
    exact ⟨h2, by unfold maxLen at h3; omega⟩
theorem RRow.drew {w : World} {r g n cap : Nat} {B : Nat} {b : Int} {w0 : World} (h : RRow w B g n cap) (hB : w0.heap.size ≤ B) (hn : n ≤ 7) (hr : Rd w r b) (hk : Keeps r w0 w) :
    DrewRuns r b w0 (.returned (.slice (some ⟨g, 0, none⟩) n cap)) w := by
  have hc := h.caps
  have hl := h.lt
  obtain ⟨xs, rfl, hw⟩ := h
  exact ⟨_, _, xs, rfl, hn, hc.1, hc.2, Cells.of_own hw, by omega, hr, hk⟩

set_option maxRecDepth 100000 in
set_option maxHeartbeats 2000000 in
theorem l91Runs_any (r : Nat) (b : Int) (w : World) (h : Rd w r b) (hb : b ≤ 50000) :
    Calls Try.prog 17 #[.pointer (some ⟨r, 0, none⟩)] w (DrewRuns r (b + 30) w) := by
  obtain ⟨i0, hi0, hz0, hz1, hz2⟩ := info_parts run_info
  have hr := h.lt
  go_enter Try.func17, Try.ntmps17
  go_wp2_with fail
  have O0 := Lib.hid (ROwn.empty w w.heap.size (Nat.le_refl _))
  have K0 := Lib.hid ((Keeps.refl r w).alloc (.cells #[] 25))
  refine (pick_any r b _ _ (h.alloc _) (by omega) (by omega)).mono ?_
  rintro e w1 ⟨many, rfl, m0, m1, hrd1, hon1⟩
  have O1 := Lib.hid (own_only O0.out hon1 hr)
  have K1 := Lib.hid (K0.out.trans hon1.keeps)
  clear hon1 O0 K0 h
  go_wp2_with fail
  refine (pick_any r _ _ _ hrd1 (by omega) (by omega)).mono ?_
  rintro e w2 ⟨t, rfl, t0, t1, hrd2, hon2⟩
  have O2 := Lib.hid (own_only O1.out hon2 hr)
  have K2 := Lib.hid (K1.out.trans hon2.keeps)
  clear hon2 O1 K1 hrd1
  go_wp2_with fail
  go_loopw [3, 5, 6] (fun s tt i wr => ∃ (k : Nat) (xs : List Rn) (t' : Int), (k : Int) ≤ many ∧ xs.length = k ∧ tt = .int .i64 t' ∧ i = .int .i64 k ∧ 0 ≤ t' ∧ t' ≤ 1000 + 100 * (k : Int) ∧ wr.ownsRow w.heap.size 25 2 s k ((fr xs).map (Value.int .i64)) ∧ s ≠ .slice none 0 0 ∧ Rd wr r (b + 2 + 3 * (k : Int)) ∧ Keeps r w wr) (fun _ _ i _ => 10 - (intOf i).toNat)
  case atStart => exact ⟨0, [], t, by omega, rfl, rfl, rfl, t0, by omega, O2.out, by simp, hrd2.up (by omega), K2.out⟩
  case round =>
    obtain ⟨k, xs, t', hk1, hxl, rfl, rfl, p0, p1, hown, hnil, hrd, hkp⟩ := hrel
    have HNIL := Lib.hid hnil
    clear hnil
    have HO := Lib.hid hown
    have HK := Lib.hid hkp
    have HXL := Lib.hid hxl
    clear hown hkp O2 K2 hrd2 hxl
    by_cases hlt : (k : Int) < many
    · go_wp2_with fail
      refine (pick_any r _ _ _ hrd (by omega) (by omega)).mono ?_
      rintro e w3 ⟨x3, rfl, x30, x31, hrd3, hon3⟩
      have O3 := own_only HO.out hon3 hr
      have K3 := Lib.hid (HK.out.trans hon3.keeps)
      have s3 := K3.out.size
      clear hon3 HO HK hrd
      go_wp2_with (at_builtin; refine wpList_append_own _ rfl _ _ 23 rfl w.heap.size 25 i0 _ 2 16 Try.underlying23 hi0 hz0 hz1 hz2 rfl (by decide) _ _ _ rfl (O3.alloc _) ⟨w3.heap.size, 0, none⟩ 1 1 [.int .i64 t', .int .i64 (t' + 1 + x3)] rfl rfl (cells2_new _ _ _ _) (one2 _ _) (by unfold maxLen; omega) (by omega) (by simp; omega) ?_; intro v' w5 hown' hgrow hnl; have HN5 := Lib.hid (show ¬ v' = .slice none 0 0 from fun e => HNIL.out (hnl.mp e).1); clear hnl; have hrd5 := (hrd3.alloc _).grown hgrow (fun q hq => Nat.lt_of_lt_of_le hr (O3.lt q hq).1); have K5 := Lib.hid ((K3.out.alloc _).grown hgrow (fun q hq => (O3.lt q hq).1)); have O5 := Lib.hid hown'; clear hown' hgrow)
      refine (pick_any r _ _ _ hrd5 (by omega) (by omega)).mono ?_
      rintro e w6 ⟨x6, rfl, x60, x61, hrd6, hon6⟩
      have O6 := Lib.hid (own_only O5.out hon6 hr)
      have K6 := Lib.hid (K5.out.trans hon6.keeps)
      clear hon6 O5 K5 hrd5 O3
      go_wp2_with fail
      refine (pick_any r _ _ _ hrd6 (by omega) (by omega)).mono ?_
      rintro e w7 ⟨x7, rfl, x70, x71, hrd7, hon7⟩
      have O7 := Lib.hid (own_only O6.out hon7 hr)
      have K7 := Lib.hid (K6.out.trans hon7.keeps)
      clear hon7 O6 K6 hrd6
      have hm0 : 0 ≤ x6 * x7 := Int.mul_nonneg x60 x70
      have hm1 : x6 * x7 ≤ 39 * 1 := Int.mul_le_mul (by omega) (by omega) x70 (by omega)
      go_wp2_with fail
      refine ⟨⟨k + 1, xs ++ [⟨t', t' + 1 + x3⟩], _, by omega, by simp [HXL.out], rfl, by go_num, by omega, by omega, ?_, HN5.out, hrd7.up (by omega), K7.out⟩, by simp [intOf]; omega⟩
      rw [fr_append, List.map_append]
      exact O7.out
    · obtain rfl : (k : Int) = many := by omega
      have hk7 : k ≤ 7 := by omega
      obtain ⟨g, cap, hv, hrow⟩ : ∃ g cap, u3 = .slice (some ⟨g, 0, none⟩) k cap ∧ RRow wr w.heap.size g k cap := by
        rcases HO.out.2 with ⟨h1, _⟩ | ⟨g, cap, cur, h1, _⟩
        · exact absurd h1 HNIL.out
        · exact ⟨g, cap, h1, xs, HXL.out, by rw [← h1]; exact HO.out⟩
      subst hv
      have HR := Lib.hid hrow
      obtain ⟨g1, g2⟩ := hrow.lt
      obtain ⟨cp1, cp2⟩ := hrow.caps
      clear hrow HO HNIL
      by_cases hk0 : 0 < k
      · skip
        have k1 : (0 : Int) < (k : Int) := by omega
        go_wp2_with fail
        refine (pick_any r _ _ _ hrd (by omega) (by omega)).mono ?_
        rintro e w6 ⟨z6, rfl, z60, z61, hrd6, hon6⟩
        have R6 := Lib.hid (HR.out.only hon6 hr)
        have K6 := Lib.hid (HK.out.trans hon6.keeps)
        clear hon6 HR HK hrd
        obtain ⟨a0, c0⟩ := R6.out.cell (j := 0) (by omega)
        obtain ⟨a1, c1⟩ := R6.out.cell (j := 1) (by omega)
        have f0 := R6.out.frozen 0
        have f1 := R6.out.frozen 1
        have s6 := K6.out.size
        by_cases v0 : z6 = 0
        · subst v0
          go_wp2_with fail
          go_ret
          exact (R6.out.store 1 a0).drew (Nat.le_refl _) hk7 ((hrd6.setCell (p := ⟨g, 1, none⟩) (by show r < g; omega) _).up (by omega)) (K6.out.setCell (p := ⟨g, 1, none⟩) g1 _)
        · have v0' : (z6 == 0) = false := by simp [v0]
          clear v0
          by_cases v1 : z6 = 1
          · subst v1
            go_wp2_with fail
            go_ret
            exact (R6.out.store 0 (-1)).drew (Nat.le_refl _) hk7 ((hrd6.setCell (p := ⟨g, 0, none⟩) (by show r < g; omega) _).up (by omega)) (K6.out.setCell (p := ⟨g, 0, none⟩) g1 _)
          · have v1' : (z6 == 1) = false := by simp [v1]
            clear v1
            by_cases v2 : z6 = 2
            · subst v2
              obtain ⟨k', hk'⟩ : ∃ k' : Nat, k = k' + 1 := ⟨k - 1, by omega⟩
              have e1 : (k : Int) - 1 = (k' : Int) := by omega
              have i1 : (k' : Int) < (k : Int) := by omega
              have j1 : k' * 2 + 1 < k * 2 := by omega
              clear hk' c0 c1 f0 f1
              go_wp2_with fail
              refine (pick_any r _ _ _ (hrd6.alloc _) (by omega) (by omega)).mono ?_
              rintro e w8 ⟨u, rfl, hu0, hu1, hrd8, hon8⟩
              obtain ⟨uk, rfl⟩ := Int.eq_ofNat_of_zero_le hu0
              obtain ⟨t2, ht2, -, -⟩ := lit_cell w6 w8 r _ _ 10000 10001 (by
                intro i hi
                simp at hi
                have : i = 0 ∨ i = 1 := by omega
                rcases this with rfl | rfl
                · exact ⟨_, rfl, by decide, by decide⟩
                · exact ⟨_, rfl, by decide, by decide⟩) (by have := hrd6.lt; omega) hon8 uk (by simp; omega)
              have R8 := Lib.hid (show RRow w8 w.heap.size g k cap from (R6.out.below ((Below.refl _ _).alloc (Nat.le_refl _) (.cells #[.int .i64 10000, .int .i64 10001] 3))).only hon8 hr)
              have K8 := Lib.hid ((K6.out.alloc (.cells #[.int .i64 10000, .int .i64 10001] 3)).trans hon8.keeps)
              clear hon8 R6 K6 hrd6
              obtain ⟨a2, c2⟩ := R8.out.cell j1
              have f2 := R8.out.frozen (k' * 2 + 1)
              have uk2 : uk < 2 := by omega
              go_wp2_with fail
              go_ret
              exact (R8.out.store (k' * 2 + 1) t2).drew (Nat.le_refl _) hk7 ((hrd8.setCell (p := ⟨g, k' * 2 + 1, none⟩) (by show r < g; omega) _).up (by omega)) (K8.out.setCell (p := ⟨g, k' * 2 + 1, none⟩) g1 _)
            · have v2' : (z6 == 2) = false := by simp [v2]
              clear v2
              go_wp2_with fail
              go_ret
              exact R6.out.drew (Nat.le_refl _) hk7 (hrd6.up (by omega)) K6.out
      · have hz : k = 0 := by omega
        subst hz
        go_wp2_with fail
        go_ret
        exact HR.out.drew (Nat.le_refl _) hk7 (hrd.up (by omega)) HK.out
end Go.Proofs.Ytmnoidgfcpbmgaa
