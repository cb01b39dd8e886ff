import Derived.Test.YtgimheekaceifaaDrawR3
import Derived.Test.YtgimheekaceifaaRunsT
import Derived.BigRegion
import Derived.StillTailTactics
namespace Go.Proofs.Ytgimheekaceifaa
open Go.RowKit

theorem made_n (n : Nat) : (madeCells (Value.int .i64 0).cells (n * 1)).toList = (List.replicate n (0 : Int)).map (Value.int .i64) := by
  have h : (Value.int .i64 0).cells = #[.int .i64 0] := rfl
  rw [h, Nat.mul_one, List.map_replicate]
  apply List.ext_getElem
  · simp [size_madeCells]
  · intro i h1 h2
    simp [madeCells, Nat.mod_one]

/-- How the address of a list of numbers looks. -/
def RForm (R : Option Addr) (n rc : Nat) : Prop := (R = none ∧ n = 0 ∧ rc = 0) ∨ ∃ g, R = some ⟨g, 0, none⟩ ∧ n ≤ rc ∧ rc ≤ 9223372036854775807
theorem IOwn.form {w : World} {B rc : Nat} {R : Option Addr} {ro : List Int} (h : IOwn w B R rc ro) : RForm R ro.length rc := by
  rcases h.2 with ⟨h1, h2⟩ | ⟨g, cap, cur, h1, _, _, h2, h3, _⟩
  · injection h1 with a b c
    exact .inl ⟨a, h2, c⟩
  · injection h1 with a b c
    subst c
    exact .inr ⟨g, a, h2, by unfold maxLen at h3; omega⟩

/-- Runs, a rest and a list of numbers, and the reader some places farther. -/
def DrewRo (r : Nat) (b : Int) (w : World) (e : Ending) (w' : World) : Prop :=
  ∃ (g c : Nat) (xs : List Rn) (t : Int) (R : Option Addr) (rc : Nat) (ro : List Int), e = .returned (.tuple #[.slice (some ⟨g, 0, none⟩) xs.length c, .int .i64 t, .slice R ro.length rc]) ∧ -1 ≤ t ∧ t ≤ 601 ∧ xs.length ≤ 7 ∧ xs.length ≤ c ∧ c ≤ 9223372036854775807 ∧ ro.length ≤ 8 ∧ RForm R ro.length rc ∧ Cells w' (some ⟨g, 0, none⟩) (fr xs) ∧ Cells w' R ro ∧ Rd w' r b ∧ Keeps r w w'

/-- No run: the roster is an empty row in new memory. -/
theorem sRM_empty (A : Option Addr) (c : Nat) (rest : Int) (w : World) (r0 : 0 ≤ rest) (r1 : rest ≤ 600) :
    Calls Try.prog 58 #[.slice A 0 c, .int .i64 rest] w fun e w' => e = .returned (.tuple #[.slice (some ⟨w.heap.size, 0, none⟩) 0 0, .bool true]) ∧ IOwn w' w.heap.size (some ⟨w.heap.size, 0, none⟩) 0 [] ∧ Below w.heap.size w w' := by
  have HV := Lib.hid (show ROk ([] : List Rn) rest from ⟨⟨by simp, fun i hi => by simp at hi⟩, r0, r1⟩)
  go_enter Try.func58, Try.ntmps58
  go_wp2_with fail
  have O0 := Lib.hid (IOwn.empty w w.heap.size (Nat.le_refl _))
  have B0 := Lib.hid ((Below.refl w.heap.size w).alloc (Nat.le_refl _) (.cells #[] 3))
  refine (sOk_yes (xs := []) Cells.nil (by simp) HV.out).mono ?_
  rintro e w1 ⟨rfl, b1⟩
  have O1 := Lib.hid (O0.out.below b1)
  have B1 := Lib.hid (B0.out.trans (b1.mono (by simp)))
  clear b1 O0 B0
  go_wp2_with fail
  go_loopw [6, 7] (fun o i wr => o = .slice (some ⟨w.heap.size, 0, none⟩) 0 0 ∧ i = .int .i64 0 ∧ Below w1.heap.size w1 wr) (fun _ _ _ => 0)
  case atStart => exact ⟨rfl, rfl, Below.refl _ _⟩
  case round =>
    obtain ⟨rfl, rfl, hbel⟩ := hrel
    go_wp2_with fail
    go_ret2
    exact ⟨rfl, O1.out.below hbel, B1.out.trans (hbel.mono B1.out.size)⟩

theorem Cells.drewR {w : World} {A : Option Addr} {zs : List Int} (h : Cells w A zs) : Cells w.drew A zs := h.below (w' := w.drew) ⟨rfl, rfl, rfl, Nat.le_refl _, fun _ _ => rfl⟩

theorem Cells.setFar {w w5 : World} {g x k : Nat} {zs : List Int} {v : Value} (h5 : Cells w5 (some ⟨g, 0, none⟩) zs) (h : Cells w (some ⟨g, 0, none⟩) zs) (hx : w5.heap.size ≤ x) : Cells (w.setCell ⟨x, k, none⟩ v) (some ⟨g, 0, none⟩) zs := by
  rcases h5 with h5 | ⟨b, o, he, hb, _⟩
  · exact .inl h5
  · injection he with he
    injection he with e1 e2
    subst e1 e2
    exact h.keep (by simp [World.setCell]) fun a o' e ha => Below.heap_setCell _ _ _ _ (by injection e with e; injection e with e1 e2; show a ≠ x; omega)
theorem IOwn.put {w : World} {B x xc : Nat} {ro : List Int} (h : IOwn w B (some ⟨x, 0, none⟩) xc ro) (k : Nat) (v : Int) : IOwn (w.setCell ⟨x, k, none⟩ (.int .i64 v)) B (some ⟨x, 0, none⟩) xc (ro.set k v) := by
  have := (World.ownsRow.stored h k (.int .i64 v)).1
  unfold IOwn
  rw [List.length_set, List.map_set]
  exact this

theorem sRM_some (A : Option Addr) (c : Nat) (xs : List Rn) (rest : Int) (w : World) (h : Cells w A (fr xs)) (hl : xs.length ≤ 1048576) (hv : ROk xs rest) :
    Calls Try.prog 58 #[.slice A xs.length c, .int .i64 rest] w fun e w' => ∃ q rc, e = .returned (.tuple #[.slice (some ⟨q, 0, none⟩) (gRo xs rest).length rc, .bool true]) ∧ IOwn w' w.heap.size (some ⟨q, 0, none⟩) rc (gRo xs rest) ∧ Below w.heap.size w w' := by
  by_cases hx : xs.length = 0
  · have hxn : xs = [] := List.eq_nil_of_length_eq_zero hx
    subst hxn
    have hg : gRo ([] : List Rn) rest = [] := List.eq_nil_of_length_eq_zero (gRo_len _ _)
    refine (sRM_empty A c rest w hv.2.1 hv.2.2).mono ?_
    rintro e w' ⟨rfl, ho, hb⟩
    rw [hg]
    exact ⟨_, _, rfl, ho, hb⟩
  · refine (sRM_yes A c xs rest w h hl hv).mono ?_
    rintro e w' ⟨R, rc, rfl, ho, hb⟩
    rcases ho.2 with ⟨_, h2⟩ | ⟨g, cap, cur, h1, _⟩
    · have := gRo_len xs rest; omega
    · have hR : R = some ⟨g, 0, none⟩ := by injection h1
      subst hR
      exact ⟨g, rc, rfl, ho, hb⟩

set_option maxRecDepth 100000 in
set_option maxHeartbeats 4000000 in
theorem l91Roster_any (r : Nat) (b : Int) (w : World) (h : Rd w r b) (hb : b ≤ 30000) :
    Calls Try.prog 82 #[.pointer (some ⟨r, 0, none⟩)] w (DrewRo r (b + 50) w) := by
  obtain ⟨i0, hi0, hz0, hz1, hz2⟩ := info_parts int_info
  have hr := h.lt
  go_enter Try.func82, Try.ntmps82
  go_wp2_with fail
  refine (l91Runs_any _ _ _ h (by omega)).mono ?_
  rintro e w1 ⟨g, c, xs, rfl, l7, c1, c2, hcl, hg, hrd1, hk1⟩
  have C1 := Lib.hid hcl
  have K1 := Lib.hid hk1
  clear hcl hk1 h
  go_wp2_with fail
  refine (rest_any _ _ _ hrd1 (by omega)).mono ?_
  rintro e w2 ⟨t, rfl, t0, t1, hrd2, hk2⟩
  have C2 := Lib.hid (C1.out.keepR hk2 (by omega))
  have K2 := Lib.hid (K1.out.trans hk2)
  have hl' : xs.length ≤ 1048576 := by omega
  clear hk2 C1 K1 hrd1
  have k2 := K2.out.size
  go_wp2_with fail
  by_cases hv : ROk xs t
  · have HV := Lib.hid hv
    obtain ⟨-, r0, r1⟩ := hv
    refine (sRM_some _ _ xs _ _ C2.out hl' HV.out).mono ?_
    rintro e w3 ⟨q, rc, rfl, ho, b3⟩
    obtain ⟨ro, hro⟩ : ∃ ro, ro = gRo xs t := ⟨_, rfl⟩
    rw [← hro] at ho ⊢
    have r7 : ro.length ≤ 7 := by rw [hro, gRo_len]; exact l7
    have O3 := Lib.hid (show IOwn w3 w2.heap.size (some ⟨q, 0, none⟩) rc ro from ho)
    have C3 := Lib.hid (C2.out.below b3)
    have K3 := Lib.hid (K2.out.trans (Below.keeps b3))
    have hrd3 : Rd w3 r _ := hrd2.keep (b3.mono (by have := hrd2.lt; omega))
    clear ho b3 C2 K2 hrd2 hro
    have hr2 : r < w2.heap.size := by omega
    by_cases hx : 0 < ro.length
    focus
      have hxI : (0 : Int) < (ro.length : Int) := by omega
      go_wp2_with fail
      refine (pick_any r _ _ _ hrd3 (by omega) (by omega)).mono ?_
      rintro e w5 ⟨v5, rfl, v50, v51, hrd5, hon5⟩
      have O5 := Lib.hid (show IOwn w5 w2.heap.size (some ⟨q, 0, none⟩) rc ro from own_only O3.out hon5 hr2)
      have C5 := Lib.hid (C3.out.keepR hon5.keeps (by omega))
      have K5 := Lib.hid (K3.out.trans hon5.keeps)
      clear hon5 O3 C3 K3 hrd3
      by_cases v0 : v5 = 0
      · subst v0
        have k5 := K5.out.size
        have OE : (w5.alloc (.cells #[] 3)).ownsRow w5.heap.size 3 1 (.slice (some ⟨w5.heap.size, 0, none⟩) 0 0) 0 [] := IOwn.empty w5 w5.heap.size (Nat.le_refl _)
        have HA := Lib.hid (Cells.addsI (O5.out.cells.alloc (.cells #[] 3)))
        go_wp2_with (at_builtin; refine wpList_append_own _ rfl _ _ 44 rfl w5.heap.size 3 i0 _ 1 8 Try.underlying44 hi0 hz0 hz1 hz2 rfl (by decide) _ _ _ rfl OE ⟨q, 0, none⟩ ro.length rc (ro.map (Value.int .i64)) rfl (by rw [List.length_map, Nat.mul_one]) HA.out (ints_oneCell _ _) (by unfold maxLen; omega) (by omega) (by simp) ?_; intro v' w6 hown' hgrow _; rw [List.nil_append, Nat.zero_add] at hown'; have bl := ((Below.refl w5.heap.size w5).alloc (Nat.le_refl _) (.cells #[] 3)).grown hgrow (by simp) (fun q hq => (OE.lt q hq).1); obtain ⟨X, xc, rfl⟩ := own_formI hown'; have R6 := Lib.hid (And.intro (show IOwn w6 w5.heap.size X xc ro from hown') bl); clear hown' hgrow OE bl)
        have hrd6 : Rd w6 r _ := hrd5.keep (R6.out.2.mono (by omega))
        have O6 := Lib.hid R6.out.1
        have C6 := Lib.hid (C5.out.below R6.out.2)
        have K6 := Lib.hid (K5.out.trans (Below.keeps R6.out.2))
        have hr5 : r < w5.heap.size := by omega
        clear R6 hrd5 O5 K5
        refine (pick_any r _ _ _ hrd6 (by omega) (by omega)).mono ?_
        rintro e w7 ⟨v7, rfl, v70, v71, hrd7, hon7⟩
        have O7 := Lib.hid (show IOwn w7 w5.heap.size X xc ro from own_only O6.out hon7 hr5)
        have C7 := Lib.hid (C6.out.keepR hon7.keeps (by omega))
        have K7 := Lib.hid (K6.out.trans hon7.keeps)
        clear hon7 O6 C6 K6 hrd6
        go_wp2_with fail
        refine (pick_any r _ _ _ hrd7 (by omega) (by omega)).mono ?_
        rintro e w8 ⟨v8, rfl, v80, v81, hrd8, hon8⟩
        have O8 := Lib.hid (show IOwn w8 w5.heap.size X xc ro from own_only O7.out hon8 hr5)
        have C8 := Lib.hid (C7.out.keepR hon8.keeps (by omega))
        have K8 := Lib.hid (K7.out.trans hon8.keeps)
        clear hon8 O7 C7 K7 hrd7
        obtain ⟨k7, rfl⟩ := Int.eq_ofNat_of_zero_le v70
        have k7l : k7 < ro.length := by omega
        have hX : ∃ x, X = some ⟨x, 0, none⟩ ∧ w5.heap.size ≤ x := by
          rcases O8.out.2 with ⟨_, h2⟩ | ⟨x, cap, cur, h1, hx2, _⟩
          · omega
          · exact ⟨x, by injection h1, hx2⟩
        obtain ⟨x, rfl, hx5⟩ := hX
        have cx : ∃ u, w8.cell? ⟨x, k7, none⟩ = some u := by
          have := O8.out.cellAt k7 (by omega)
          rw [this]
          exact ⟨_, by rw [List.getElem?_map, List.getElem?_eq_getElem k7l]; rfl⟩
        obtain ⟨u, cx⟩ := cx
        have fx := O8.out.frozenAt k7
        go_wp2_with fail
        go_ret3
        exact ⟨g, c, xs, t, some ⟨x, 0, none⟩, xc, ro.set k7 v8, by rw [List.length_set]; rfl, t0, t1, l7, c1, c2, by rw [List.length_set]; omega, by rw [List.length_set]; exact O8.out.form, Cells.setFar C5.out C8.out hx5, IOwn.cells (O8.out.put k7 v8), (hrd8.setCell (p := ⟨x, k7, none⟩) (by show r < x; omega) _).up (by omega), K8.out.setCell (p := ⟨x, k7, none⟩) (by show w.heap.size ≤ x; omega) _⟩
      have v0' : (v5 == 0) = false := by simp [v0]
      clear v0
      go_wp2_with fail
    rotate_left
    focus
      obtain ⟨w5, hw5⟩ : ∃ w5, w5 = w3 := ⟨_, rfl⟩
      subst hw5
      have O5 := O3
      have C5 := C3
      have K5 := K3
      have hrd5 := hrd3
      clear O3 C3 K3 hrd3
      go_wp2_with fail
    all_goals
      refine (pick_any r _ _ _ hrd5 (by omega) (by omega)).mono ?_
      rintro e w6 ⟨v6, rfl, v60, v61, hrd6, hon6⟩
      have O6 := Lib.hid (show IOwn w6 w2.heap.size (some ⟨q, 0, none⟩) rc ro from own_only O5.out hon6 hr2)
      have C6 := Lib.hid (C5.out.keepR hon6.keeps (by omega))
      have K6 := Lib.hid (K5.out.trans hon6.keeps)
      clear hon6 O5 C5 K5 hrd5
      by_cases v0 : v6 = 0
      · subst v0
        have k6 := K6.out.size
        have OE : (w6.alloc (.cells #[] 3)).ownsRow w6.heap.size 3 1 (.slice (some ⟨w6.heap.size, 0, none⟩) 0 0) 0 [] := IOwn.empty w6 w6.heap.size (Nat.le_refl _)
        have HA := Lib.hid (Cells.addsI (O6.out.cells.alloc (.cells #[] 3)))
        go_wp2_with (first | (have RN' := R7.out; at_builtin; refine wpList_append_own _ rfl _ _ 44 rfl w6.heap.size 3 i0 _ 1 8 Try.underlying44 hi0 hz0 hz1 hz2 rfl (by decide) _ _ _ rfl (World.ownsRow.alloc RN'.1 _) ⟨w7.heap.size, 0, none⟩ 1 1 [.int .i64 0] rfl rfl (cell_one_new _ _ _) (ints_oneCell .i64 [(0 : Int)]) (by unfold maxLen; omega) (by omega) (by have := RN'.2.size; simp; omega) ?_; intro v' w8 hown' hgrow _; have bl := (RN'.2.alloc RN'.2.size (.cells #[.int .i64 0] 3)).grown hgrow (by have := RN'.2.size; simp; omega) (fun q hq => (World.ownsRow.lt RN'.1 q hq).1); obtain ⟨X2, xc2, rfl⟩ := own_formI hown'; have R8 := Lib.hid (And.intro (show IOwn w8 w6.heap.size X2 xc2 (ro ++ [0]) from by unfold IOwn; rw [List.length_append, List.map_append]; exact hown') bl); clear hown' hgrow bl RN') | (at_builtin; refine wpList_append_own _ rfl _ _ 44 rfl w6.heap.size 3 i0 _ 1 8 Try.underlying44 hi0 hz0 hz1 hz2 rfl (by decide) _ _ _ rfl OE ⟨q, 0, none⟩ ro.length rc (ro.map (Value.int .i64)) rfl (by rw [List.length_map, Nat.mul_one]) HA.out (ints_oneCell _ _) (by unfold maxLen; omega) (by omega) (by simp) ?_; intro v' w7 hown' hgrow _; rw [List.nil_append, Nat.zero_add] at hown'; have bl := ((Below.refl w6.heap.size w6).alloc (Nat.le_refl _) (.cells #[] 3)).grown hgrow (by simp) (fun q hq => (OE.lt q hq).1); obtain ⟨X, xc, rfl⟩ := own_formI hown'; have R7 := Lib.hid (And.intro (show IOwn w7 w6.heap.size X xc ro from hown') bl); clear hown' hgrow OE bl))
        go_ret3
        exact ⟨g, c, xs, t, X2, xc2, ro ++ [0], by rw [List.length_append]; rfl, t0, t1, l7, c1, c2, by rw [List.length_append]; show ro.length + 1 ≤ 8; omega, R8.out.1.form, C6.out.below R8.out.2, R8.out.1.cells, (hrd6.keep (R8.out.2.mono (by omega))).up (by omega), K6.out.trans (Below.keeps R8.out.2)⟩
      · have v0' : (v6 == 0) = false := by simp [v0]
        clear v0
        go_wp2_with fail
        go_ret3
        exact ⟨g, c, xs, t, _, rc, ro, rfl, t0, t1, l7, c1, c2, by omega, O6.out.form, C6.out, O6.out.cells, hrd6.up (by omega), K6.out⟩
  · have HV := Lib.hid hv
    clear hv
    refine (sRM_no _ _ xs _ _ C2.out hl' HV.out).mono ?_
    rintro e w3 ⟨R, rc, rfl, ho, b3⟩
    have C3 := Lib.hid (C2.out.below b3)
    have K3 := Lib.hid (K2.out.trans (Below.keeps b3))
    have hrd3 : Rd w3 r _ := hrd2.keep (b3.mono (by have := hrd2.lt; omega))
    clear ho b3 C2 K2 hrd2
    obtain ⟨L, hL⟩ : ∃ L, L = madeCells (Value.int .i64 0).cells (xs.length * 1) := ⟨_, rfl⟩
    have hmk : ∀ W : World, (Instr.makeSlice 44 (.int .i64 (xs.length : Int)) (.int .i64 (xs.length : Int))).run Try.prog W = .ok (.slice (some ⟨W.heap.size, 0, none⟩) xs.length xs.length) (W.alloc (.cells L 3)) := fun W => by
      have := run_make (P := Try.prog) W 44 3 i0 _ Try.underlying44 hi0 hz0 .i64 .i64 (xs.length : Int) (xs.length : Int) (by omega) (Int.le_refl _) (by rw [hz2]; omega) (by omega)
      rw [hz1, Int.toNat_natCast, ← hL] at this
      exact this
    have MKO := Lib.hid (show ∀ W : World, w.heap.size ≤ W.heap.size → IOwn (W.alloc (.cells L 3)) w.heap.size (some ⟨W.heap.size, 0, none⟩) xs.length (List.replicate xs.length 0) from fun W hW => by
      obtain ⟨w', h1, h2, h3⟩ := run_make_full (P := Try.prog) W w.heap.size 44 3 i0 _ 1 Try.underlying44 hi0 hz0 hz1 .i64 .i64 xs.length (by rw [hz2]; omega) (by unfold maxLen; omega) hW
      rw [hmk W] at h1
      injection h1 with _ h1
      subst h1
      unfold IOwn
      rw [List.length_replicate, ← made_n]
      exact h2)
    clear hL
    go_wp2_with fail
    go_region
    have R5 := MKO.out w3 K3.out.size
    go_wp2_with fail
    go_ret3
    exact ⟨g, c, xs, t, _, _, List.replicate xs.length 0, by rw [List.length_replicate]; rfl, t0, t1, l7, c1, c2, by rw [List.length_replicate]; omega, R5.form, (C3.out.alloc _).drewR, Cells.drewR (IOwn.cells R5), (hrd3.alloc _).drew.up (by omega), (K3.out.alloc _).drew⟩
end Go.Proofs.Ytgimheekaceifaa
