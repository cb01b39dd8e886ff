import Derived.Test.YtmpkdnikkganlaaDrawK
import Derived.Test.YtmpkdnikkganlaaStopsG
import Derived.Test.YtmpkdnikkganlaaStopsArg
namespace Go.Proofs.Ytmpkdnikkganlaa
open Go.RowKit

/-- What a draw of stops leaves: some stops in new memory. -/
def DrewStops (r : Nat) (b : Int) (w : World) (e : Ending) (w' : World) : Prop :=
  ∃ A c, ∃ xs : List St, e = .returned (.slice A xs.length c) ∧ xs.length ≤ 5 ∧ xs.length ≤ c ∧ c ≤ 9223372036854775807 ∧ Cells w' A (fl xs) ∧ (∀ g o, A = some ⟨g, o, none⟩ → w.heap.size ≤ g) ∧ Rd w' r b ∧ Keeps r w w'

/-- A row of stops whose address is known. -/
def Row (w : World) (B g n cap : Nat) : Prop := ∃ xs : List St, xs.length = n ∧ w.ownsRow B 39 3 (.slice (some ⟨g, 0, none⟩) n cap) n ((fl xs).map (Value.int .i64))

theorem Row.store {w : World} {B g n cap : Nat} (h : Row w B g n cap) (j : Nat) (v : Int) : Row (w.setCell ⟨g, j, none⟩ (.int .i64 v)) B g n cap := by
  obtain ⟨xs, hl, ho⟩ := h
  have := (ho.stored j (.int .i64 v)).1
  rw [← List.map_set] at this
  obtain ⟨ys, h1, h2⟩ := unfl n ((fl xs).set j v) (by rw [List.length_set, fl_len, hl])
  exact ⟨ys, h1, by rw [h2]; exact this⟩
theorem Row.cell {w : World} {B g n cap : Nat} (h : Row w B g n cap) {j : Nat} (hj : j < n * 3) : ∃ v : Int, w.cell? ⟨g, j, none⟩ = some (.int .i64 v) := by
  obtain ⟨xs, hl, ho⟩ := h
  rw [ho.cellAt j hj]
  have h1 : j < (fl xs).length := by rw [fl_len, hl]; exact hj
  exact ⟨(fl xs)[j], by simp [List.getElem?_eq_getElem h1]⟩
theorem Row.frozen {w : World} {B g n cap : Nat} (h : Row w B g n cap) (j : Nat) : w.frozen? ⟨g, j, none⟩ = false := by
  obtain ⟨xs, hl, ho⟩ := h
  exact ho.frozenAt j
theorem Row.only {w w' : World} {r B g n cap : Nat} (h : Row w B g n cap) (ho : Only r w w') (hr : r < B) : Row w' B g n cap := by
  obtain ⟨xs, hl, hw⟩ := h
  exact ⟨xs, hl, own_only hw ho hr⟩
theorem Row.lt {w : World} {B g n cap : Nat} (h : Row w B g n cap) : B ≤ g ∧ g < w.heap.size := by
  obtain ⟨xs, hl, hw⟩ := h
  exact hw.lt g rfl
theorem Row.caps {w : World} {B g n cap : Nat} (h : Row w B g n cap) : n ≤ cap ∧ cap ≤ 9223372036854775807 := by
  obtain ⟨xs, hl, hw⟩ := h
  rcases hw.2 with ⟨h1, _⟩ | ⟨g', cap', cur, h1, _, _, h2, h3, _⟩
  · cases h1
  · injection h1 with h1 h4 h5
    subst h5
    exact ⟨h2, by unfold maxLen at h3; omega⟩

theorem Row.drew {w : World} {r g n cap : Nat} {B : Nat} {b : Int} {w0 : World} (h : Row w B g n cap) (hB : w0.heap.size ≤ B) (hn : n ≤ 5) (hr : Rd w r b) (hk : Keeps r w0 w) :
    DrewStops r b w0 (.returned (.slice (some ⟨g, 0, none⟩) n cap)) w := by
  have hc := h.caps
  have hl := h.lt
  obtain ⟨xs, rfl, hw⟩ := h
  exact ⟨_, _, xs, rfl, hn, hc.1, hc.2, Cells.of_own hw, fun g' o' e => by injection e with e; injection e with e1 e2; omega, hr, hk⟩

theorem Row.drewOne {w : World} {r g n cap : Nat} {B : Nat} {b : Int} {w0 : World} (h : Row w B g n cap) (hB : w0.heap.size ≤ B) (hn : 1 ≤ n) (hr : Rd w r b) (hk : Keeps r w0 w) :
    DrewStops r b w0 (.returned (.slice (some ⟨g, 0, none⟩) 1 cap)) w := by
  have hc := h.caps
  have hl := h.lt
  obtain ⟨xs, rfl, hw⟩ := h
  have hx : (xs.take 1).length = 1 := by simp; omega
  have hcl := Cells.of_own hw
  refine ⟨_, _, xs.take 1, by rw [hx], by omega, by omega, hc.2, ?_, fun g' o' e => by injection e with e; injection e with e1 e2; omega, hr, hk⟩
  rcases hcl with h0 | ⟨b', o', hA, hb, hcc⟩
  · have := congrArg List.length h0; rw [fl_len] at this; exact absurd this (by show ¬ xs.length * 3 = 0; omega)
  · refine .inr ⟨b', o', hA, hb, fun j hj => ?_⟩
    rw [fl_len, hx] at hj
    rw [hcc j (by rw [fl_len]; omega)]
    match xs, hn with
    | s :: xs, _ =>
      simp only [List.take_succ_cons, fl_cons]
      have : j = 0 ∨ j = 1 ∨ j = 2 := by omega
      rcases this with rfl | rfl | rfl <;> rfl

set_option maxRecDepth 100000 in
set_option maxHeartbeats 2000000 in
theorem l91Stops_any (r : Nat) (b n t : Int) (w : World) (h : Rd w r b) (hb : b ≤ 50000) (n1 : 2 ≤ n) (n2 : n ≤ 6) (t0 : 0 ≤ t) (t1 : t ≤ 1000) :
    Calls Try.prog 35 #[.pointer (some ⟨r, 0, none⟩), .int .i64 n, .int .i64 t] w (DrewStops r (b + 30) w) := by
  obtain ⟨i0, hi0, hz0, hz1, hz2⟩ := info_parts stop_info
  have hr := h.lt
  go_enter Try.func35, Try.ntmps35
  go_wp2_with fail
  have O0 := Lib.hid (Own.empty w w.heap.size (Nat.le_refl _))
  have K0 := Lib.hid ((Keeps.refl r w).alloc (.cells #[] 39))
  refine (pick_any r b _ _ (h.alloc _) (by omega) (by omega)).mono ?_
  rintro e w1 ⟨many, rfl, m0, m1, hrd1, hon1⟩
  have O1 := Lib.hid (own_only O0.out hon1 hr)
  have K1 := Lib.hid (K0.out.trans hon1.keeps)
  clear hon1 O0 K0 h
  go_wp2_with fail
  refine (pick_any r _ _ _ hrd1 (by omega) (by omega)).mono ?_
  rintro e w2 ⟨town, rfl, tn0, tn1, hrd2, hon2⟩
  have O2 := Lib.hid (own_only O1.out hon2 hr)
  have K2 := Lib.hid (K1.out.trans hon2.keeps)
  clear hon2 O1 K1 hrd1
  go_wp2_with fail
  go_loopw [2, 7, 9, 10] (fun tt s tn i wr => ∃ (k : Nat) (xs : List St) (t' town' : Int), (k : Int) ≤ 2 + many ∧ (k : Int) ≤ n ∧ xs.length = k ∧ tt = .int .i64 t' ∧ tn = .int .i64 town' ∧ i = .int .i64 k ∧ 0 ≤ t' ∧ t' ≤ 1000 + 100 * (k : Int) ∧ 0 ≤ town' ∧ town' < n ∧ wr.ownsRow w.heap.size 39 3 s k ((fl xs).map (Value.int .i64)) ∧ Rd wr r (b + 2 + 3 * (k : Int)) ∧ Keeps r w wr) (fun _ _ _ i _ => 10 - (intOf i).toNat)
  case atStart => exact ⟨0, [], t, town, by omega, by omega, rfl, rfl, rfl, rfl, t0, by omega, tn0, tn1, O2.out, hrd2.up (by omega), K2.out⟩
  case round =>
    obtain ⟨k, xs, t', town', hk1, hk2, hxl, rfl, rfl, rfl, p0, p1, p2, p3, hown, hrd, hkp⟩ := hrel
    have HO := Lib.hid hown
    have HK := Lib.hid hkp
    have HXL := Lib.hid hxl
    clear hown hkp O2 K2 hrd2 hxl
    by_cases hlt : (k : Int) < 2 + many ∧ (k : Int) < n
    · obtain ⟨q1, q2⟩ := hlt
      go_wp2_with fail
      refine (pick_any r _ _ _ hrd (by omega) (by omega)).mono ?_
      rintro e w3 ⟨x3, rfl, x30, x31, hrd3, hon3⟩
      have O3 := Lib.hid (own_only HO.out hon3 hr)
      have K3 := Lib.hid (HK.out.trans hon3.keeps)
      clear hon3 HO HK hrd
      go_wp2_with fail
      refine (pick_any r _ _ _ hrd3 (by omega) (by omega)).mono ?_
      rintro e w4 ⟨x4, rfl, x40, x41, hrd4, hon4⟩
      have O4 := own_only O3.out hon4 hr
      have K4 := Lib.hid (K3.out.trans hon4.keeps)
      clear hon4 O3 K3 hrd3
      have hm0 : 0 ≤ x3 * x4 := Int.mul_nonneg x30 x40
      have hm1 : x3 * x4 ≤ 2 * 11 := Int.mul_le_mul (by omega) (by omega) x40 (by omega)
      have s4 := K4.out.size
      go_wp2_with (at_builtin; refine wpList_append_own _ rfl _ _ 25 rfl w.heap.size 39 i0 _ 3 24 Try.underlying25 hi0 hz0 hz1 hz2 rfl (by decide) _ _ _ rfl (O4.alloc _) ⟨w4.heap.size, 0, none⟩ 1 1 [.int .i64 town', .int .i64 t', .int .i64 (t' + x3 * x4)] rfl rfl (cells3_new _ _ _ _ _) (one3 _ _ _) (by unfold maxLen; omega) (by omega) (by simp; omega) ?_; intro v' w5 hown' hgrow _; have hrd5 := (hrd4.alloc _).grown hgrow (fun q hq => Nat.lt_of_lt_of_le hr (O4.lt q hq).1); have K5 := Lib.hid ((K4.out.alloc _).grown hgrow (fun q hq => (O4.lt q hq).1)); have O5 := Lib.hid hown'; clear hown' hgrow)
      refine (pick_any r _ _ _ hrd5 (by omega) (by omega)).mono ?_
      rintro e w6 ⟨x6, rfl, x60, x61, hrd6, hon6⟩
      have O6 := Lib.hid (own_only O5.out hon6 hr)
      have K6 := Lib.hid (K5.out.trans hon6.keeps)
      clear hon6 O5 K5 hrd5 O4
      go_wp2_with fail
      have hd0 := Int.emod_nonneg (town' + 1) (show n ≠ 0 by omega)
      have hd1 := Int.emod_lt_of_pos (town' + 1) (show 0 < n by omega)
      refine ⟨⟨k + 1, xs ++ [⟨town', t', t' + x3 * x4⟩], _, _, by omega, by omega, by simp [HXL.out], rfl, rfl, by go_num, by omega, by omega, hd0, hd1, ?_, hrd6.up (by omega), K6.out⟩, by simp [intOf]; omega⟩
      rw [fl_append, List.map_append]
      exact O6.out
    · have hk3 : 2 ≤ k := by omega
      have hk5 : k ≤ 5 := by omega
      obtain ⟨g, cap, hv, hrow⟩ : ∃ g cap, u7 = .slice (some ⟨g, 0, none⟩) k cap ∧ Row wr w.heap.size g k cap := by
        rcases HO.out.2 with ⟨_, h1⟩ | ⟨g, cap, cur, h1, _⟩
        · omega
        · exact ⟨g, cap, h1, xs, HXL.out, by rw [← h1]; exact HO.out⟩
      subst hv
      have HR := Lib.hid hrow
      obtain ⟨g1, g2⟩ := hrow.lt
      obtain ⟨cp1, cp2⟩ := hrow.caps
      clear hrow HO
      have hcase : (2 + many ≤ (k : Int)) ∨ ((k : Int) < 2 + many ∧ n ≤ (k : Int)) := by omega
      clear hlt
      rcases hcase with hc1 | ⟨hc1, hc2⟩
      all_goals
        have k1 : (1 : Int) < (k : Int) := by omega
        by_cases hk4 : 2 < k
        · have k2 : (2 : Int) < (k : Int) := by omega
          go_wp2_with fail
          refine (pick_any r _ _ _ hrd (by omega) (by omega)).mono ?_
          rintro e w3 ⟨z, rfl, z0, z1, hrd3, hon3⟩
          have R3 := Lib.hid (HR.out.only hon3 hr)
          have K3 := Lib.hid (HK.out.trans hon3.keeps)
          have s3 := K3.out.size
          clear hon3 HR HK hrd
          by_cases hz : z = 0
          · have hz' : (z == 0) = true := by simp [hz]
            clear hz
            go_wp2_with fail
            refine (pick_any r _ _ _ hrd3 (by omega) (by omega)).mono ?_
            rintro e w4 ⟨y, rfl, y0, y1, hrd4, hon4⟩
            have R4 := Lib.hid (R3.out.only hon4 hr)
            have K4 := Lib.hid (K3.out.trans hon4.keeps)
            clear hon4 R3 K3 hrd3
            obtain ⟨m, rfl⟩ := Int.eq_ofNat_of_zero_le y0
            have hm : 1 + m < k := by omega
            have hm' : (1 : Int) + (m : Int) < (k : Int) := by omega
            obtain ⟨a0, c0⟩ := R4.out.cell (j := 0) (by omega)
            obtain ⟨a1, c1⟩ := R4.out.cell (j := (1 + m) * 3) (by omega)
            have f0 := R4.out.frozen 0
            have f1 := R4.out.frozen ((1 + m) * 3)
            have R5 := Lib.hid ((R4.out.store 0 a1).store ((1 + m) * 3) a0)
            have hrd5 := (hrd4.setCell (p := ⟨g, 0, none⟩) (by show r < g; omega) (.int .i64 a1)).setCell (p := ⟨g, (1 + m) * 3, none⟩) (by show r < g; omega) (.int .i64 a0)
            have K5 := Lib.hid ((K4.out.setCell (p := ⟨g, 0, none⟩) g1 (.int .i64 a1)).setCell (p := ⟨g, (1 + m) * 3, none⟩) g1 (.int .i64 a0))
            clear R4 K4 hrd4
            go_wp2_with fail
            refine (pick_any r _ _ _ hrd5 (by omega) (by omega)).mono ?_
            rintro e w6 ⟨z6, rfl, z60, z61, hrd6, hon6⟩
            have R6 := Lib.hid (R5.out.only hon6 hr)
            have K6 := Lib.hid (K5.out.trans hon6.keeps)
            clear hon6 R5 K5 hrd5 c0 c1 f0 f1
            obtain ⟨a0, c0⟩ := R6.out.cell (j := 0) (by omega)
            obtain ⟨a1, c1⟩ := R6.out.cell (j := 1) (by omega)
            obtain ⟨a2, c2⟩ := R6.out.cell (j := 2) (by omega)
            obtain ⟨a3, c3⟩ := R6.out.cell (j := 3) (by omega)
            obtain ⟨a4, c4⟩ := R6.out.cell (j := 4) (by omega)
            have f1 := R6.out.frozen 1
            have f3 := R6.out.frozen 3
            have f4 := R6.out.frozen 4
            have s6 := K6.out.size
            by_cases v0 : z6 = 0
            · subst v0
              go_wp2_with fail
              go_ret
              exact (R6.out.store 3 a0).drew (Nat.le_refl _) hk5 ((hrd6.setCell (p := ⟨g, 3, none⟩) (by show r < g; omega) _).up (by omega)) (K6.out.setCell (p := ⟨g, 3, none⟩) g1 _)
            · have v0' : (z6 == 0) = false := by simp [v0]
              clear v0
              by_cases v1 : z6 = 1
              · subst v1
                go_wp2_with fail
                go_ret
                exact (R6.out.store 4 a2).drew (Nat.le_refl _) hk5 ((hrd6.setCell (p := ⟨g, 4, none⟩) (by show r < g; omega) _).up (by omega)) (K6.out.setCell (p := ⟨g, 4, none⟩) g1 _)
              · have v1' : (z6 == 1) = false := by simp [v1]
                clear v1
                by_cases v2 : z6 = 2
                · subst v2
                  go_wp2_with fail
                  go_ret
                  exact R6.out.drewOne (Nat.le_refl _) (by omega) (hrd6.up (by omega)) K6.out
                · have v2' : (z6 == 2) = false := by simp [v2]
                  clear v2
                  by_cases v3 : z6 = 3
                  · subst v3
                    go_wp2_with fail
                    go_ret
                    exact (R6.out.store 1 (-1)).drew (Nat.le_refl _) hk5 ((hrd6.setCell (p := ⟨g, 1, none⟩) (by show r < g; omega) _).up (by omega)) (K6.out.setCell (p := ⟨g, 1, none⟩) g1 _)
                  · have v3' : (z6 == 3) = false := by simp [v3]
                    clear v3
                    go_wp2_with fail
                    go_ret
                    exact R6.out.drew (Nat.le_refl _) hk5 (hrd6.up (by omega)) K6.out
          · have hz' : (z == 0) = false := by simp [hz]
            clear hz
            go_wp2_with fail
            refine (pick_any r _ _ _ hrd3 (by omega) (by omega)).mono ?_
            rintro e w6 ⟨z6, rfl, z60, z61, hrd6, hon6⟩
            have R6 := Lib.hid (R3.out.only hon6 hr)
            have K6 := Lib.hid (K3.out.trans hon6.keeps)
            clear hon6 R3 K3 hrd3
            obtain ⟨a0, c0⟩ := R6.out.cell (j := 0) (by omega)
            obtain ⟨a1, c1⟩ := R6.out.cell (j := 1) (by omega)
            obtain ⟨a2, c2⟩ := R6.out.cell (j := 2) (by omega)
            obtain ⟨a3, c3⟩ := R6.out.cell (j := 3) (by omega)
            obtain ⟨a4, c4⟩ := R6.out.cell (j := 4) (by omega)
            have f1 := R6.out.frozen 1
            have f3 := R6.out.frozen 3
            have f4 := R6.out.frozen 4
            have s6 := K6.out.size
            by_cases v0 : z6 = 0
            · subst v0
              go_wp2_with fail
              go_ret
              exact (R6.out.store 3 a0).drew (Nat.le_refl _) hk5 ((hrd6.setCell (p := ⟨g, 3, none⟩) (by show r < g; omega) _).up (by omega)) (K6.out.setCell (p := ⟨g, 3, none⟩) g1 _)
            · have v0' : (z6 == 0) = false := by simp [v0]
              clear v0
              by_cases v1 : z6 = 1
              · subst v1
                go_wp2_with fail
                go_ret
                exact (R6.out.store 4 a2).drew (Nat.le_refl _) hk5 ((hrd6.setCell (p := ⟨g, 4, none⟩) (by show r < g; omega) _).up (by omega)) (K6.out.setCell (p := ⟨g, 4, none⟩) g1 _)
              · have v1' : (z6 == 1) = false := by simp [v1]
                clear v1
                by_cases v2 : z6 = 2
                · subst v2
                  go_wp2_with fail
                  go_ret
                  exact R6.out.drewOne (Nat.le_refl _) (by omega) (hrd6.up (by omega)) K6.out
                · have v2' : (z6 == 2) = false := by simp [v2]
                  clear v2
                  by_cases v3 : z6 = 3
                  · subst v3
                    go_wp2_with fail
                    go_ret
                    exact (R6.out.store 1 (-1)).drew (Nat.le_refl _) hk5 ((hrd6.setCell (p := ⟨g, 1, none⟩) (by show r < g; omega) _).up (by omega)) (K6.out.setCell (p := ⟨g, 1, none⟩) g1 _)
                  · have v3' : (z6 == 3) = false := by simp [v3]
                    clear v3
                    go_wp2_with fail
                    go_ret
                    exact R6.out.drew (Nat.le_refl _) hk5 (hrd6.up (by omega)) K6.out
        · have k2 : decide ((2 : Int) < (k : Int)) = false := by simp; omega
          have k2' : decide (2 < k) = false := by simp; omega
          go_wp2_with fail
          refine (pick_any r _ _ _ hrd (by omega) (by omega)).mono ?_
          rintro e w6 ⟨z6, rfl, z60, z61, hrd6, hon6⟩
          have R6 := Lib.hid (HR.out.only hon6 hr)
          have K6 := Lib.hid (HK.out.trans hon6.keeps)
          clear hon6 HR HK hrd
          obtain ⟨a0, c0⟩ := R6.out.cell (j := 0) (by omega)
          obtain ⟨a1, c1⟩ := R6.out.cell (j := 1) (by omega)
          obtain ⟨a2, c2⟩ := R6.out.cell (j := 2) (by omega)
          obtain ⟨a3, c3⟩ := R6.out.cell (j := 3) (by omega)
          obtain ⟨a4, c4⟩ := R6.out.cell (j := 4) (by omega)
          have f1 := R6.out.frozen 1
          have f3 := R6.out.frozen 3
          have f4 := R6.out.frozen 4
          have s6 := K6.out.size
          by_cases v0 : z6 = 0
          · subst v0
            go_wp2_with fail
            go_ret
            exact (R6.out.store 3 a0).drew (Nat.le_refl _) hk5 ((hrd6.setCell (p := ⟨g, 3, none⟩) (by show r < g; omega) _).up (by omega)) (K6.out.setCell (p := ⟨g, 3, none⟩) g1 _)
          · have v0' : (z6 == 0) = false := by simp [v0]
            clear v0
            by_cases v1 : z6 = 1
            · subst v1
              go_wp2_with fail
              go_ret
              exact (R6.out.store 4 a2).drew (Nat.le_refl _) hk5 ((hrd6.setCell (p := ⟨g, 4, none⟩) (by show r < g; omega) _).up (by omega)) (K6.out.setCell (p := ⟨g, 4, none⟩) g1 _)
            · have v1' : (z6 == 1) = false := by simp [v1]
              clear v1
              by_cases v2 : z6 = 2
              · subst v2
                go_wp2_with fail
                go_ret
                exact R6.out.drewOne (Nat.le_refl _) (by omega) (hrd6.up (by omega)) K6.out
              · have v2' : (z6 == 2) = false := by simp [v2]
                clear v2
                by_cases v3 : z6 = 3
                · subst v3
                  go_wp2_with fail
                  go_ret
                  exact (R6.out.store 1 (-1)).drew (Nat.le_refl _) hk5 ((hrd6.setCell (p := ⟨g, 1, none⟩) (by show r < g; omega) _).up (by omega)) (K6.out.setCell (p := ⟨g, 1, none⟩) g1 _)
                · have v3' : (z6 == 3) = false := by simp [v3]
                  clear v3
                  go_wp2_with fail
                  go_ret
                  exact R6.out.drew (Nat.le_refl _) hk5 (hrd6.up (by omega)) K6.out
end Go.Proofs.Ytmpkdnikkganlaa
