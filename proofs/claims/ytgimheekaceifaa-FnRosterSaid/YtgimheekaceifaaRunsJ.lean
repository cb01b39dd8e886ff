import Derived.Test.YtgimheekaceifaaRunsH
import Derived.StillTailTactics
import Derived.Deep.RegionHeld3
import Derived.Deep.AppendLies
namespace Go.Proofs.Ytgimheekaceifaa
open Go.RowKit

theorem cells2_new (w : World) (e : TypeId) (a b : Value) : ∀ j u, [a, b][j]? = some u → (w.alloc (.cells #[a, b] e)).cell? ((⟨w.heap.size, 0, none⟩ : Addr).add j) = some u := by
  intro j u hj
  match j, hj with
  | 0, hj => rw [← hj]; exact cell_new _ _ _ 0
  | 1, hj => rw [← hj]; exact cell_new _ _ _ 1
  | _ + 2, hj => simp at hj
theorem cells2_new' (w : World) (o : Obj) (e : TypeId) (a b : Value) : ∀ j u, [a, b][j]? = some u → ((w.alloc o).alloc (.cells #[a, b] e)).cell? ((⟨w.heap.size + 1, 0, none⟩ : Addr).add j) = some u := by
  have := cells2_new (w.alloc o) e a b
  simpa using this
theorem cells2_new'' (w : World) (o o' : Obj) (e : TypeId) (a b : Value) : ∀ j u, [a, b][j]? = some u → (((w.alloc o).alloc o').alloc (.cells #[a, b] e)).cell? ((⟨w.heap.size + 1 + 1, 0, none⟩ : Addr).add j) = some u := by
  have := cells2_new ((w.alloc o).alloc o') e a b
  simpa using this
theorem one2 (a b : Int) : ∀ u ∈ [Value.int .i64 a, Value.int .i64 b], u.oneCell' = true := by
  intro u hu
  simp at hu
  rcases hu with rfl | rfl <;> rfl

theorem fr_take (xs : List Rn) (k : Nat) (h : k < xs.length) : fr (xs.take (k + 1)) = fr (xs.take k) ++ [rs xs k, re xs k] := by
  have : xs.take (k + 1) = xs.take k ++ [xs.getD k rnz] := by
    rw [List.take_add_one]; simp [List.getElem?_eq_getElem h]
  rw [this, fr_append]; rfl
theorem fr_sh (xs : List Rn) (k : Int) (j : Nat) (hj : j < xs.length) : fr ((shR xs k).take (j + 1)) = fr ((shR xs k).take j) ++ [rs xs j + k, re xs j + k] := by
  rw [fr_take _ j (by rw [shR_len]; exact hj), (shR_at xs k hj).1, (shR_at xs k hj).2]

/-- Runs can be later by k. -/
def RLc (xs : List Rn) (k : Int) : Prop := RValid xs ∧ (0 < xs.length → -10000 ≤ k ∧ k ≤ 10000) ∧ RValid (shR xs k)
open Classical in
noncomputable def rlL (xs : List Rn) (k : Int) : List Rn := if RLc xs k then shR xs k else []
open Classical in
noncomputable def rlB (xs : List Rn) (k : Int) : Bool := decide (RLc xs k)
theorem rlL_yes {xs : List Rn} {k : Int} (h : RLc xs k) : rlL xs k = shR xs k := if_pos h
theorem rlL_no {xs : List Rn} {k : Int} (h : ¬ RLc xs k) : rlL xs k = [] := if_neg h
theorem rlB_yes {xs : List Rn} {k : Int} (h : RLc xs k) : rlB xs k = true := by simp [rlB, h]
theorem rlB_no {xs : List Rn} {k : Int} (h : ¬ RLc xs k) : rlB xs k = false := by simp [rlB, h]
theorem rlL_len (xs : List Rn) (k : Int) (hl : xs.length ≤ 1048576) : (rlL xs k).length ≤ 1048576 := by
  by_cases h : RLc xs k
  · rw [rlL_yes h, shR_len]; exact hl
  · rw [rlL_no h]; simp

set_option maxRecDepth 100000 in
set_option maxHeartbeats 1000000 in
theorem iRL_any (k : Int) (A : Option Addr) (c : Nat) (xs : List Rn) (w : World) (h : Cells w A (fr xs)) (hl : xs.length ≤ 1048576) :
    Calls Try.prog 37 #[.slice A xs.length c, .int .i64 k] w (RPair (rlL xs k) (rlB xs k) w) := by
  obtain ⟨i0, hi0, hz0, hz1, hz2⟩ := info_parts run_info
  by_cases hv : RValid xs
  · have HV := Lib.hid hv
    have h12 := hv.1
    clear hv
    obtain ⟨ys, hy⟩ : ∃ ys, ys = shR xs k := ⟨_, rfl⟩
    have l1 : xs.length ≤ ys.length := by rw [hy, shR_len]; exact Nat.le_refl _
    have l2 : ys.length ≤ xs.length := by rw [hy, shR_len]; exact Nat.le_refl _
    have HAT := Lib.hid (show ∀ j, j < xs.length → fr (ys.take (j + 1)) = fr (ys.take j) ++ [rs xs j + k, re xs j + k] from fun j hj => by rw [hy]; exact fr_sh xs k j hj)
    have HY := Lib.hid hy
    clear hy
    go_enter Try.func37, Try.ntmps37
    go_wp2_with fail
    refine (iRV_yes h hl HV.out).mono ?_
    rintro e w1 ⟨rfl, b1⟩
    have B1 := Lib.hid b1
    clear b1
    have hs1 := B1.out.size
    go_wp2_with fail
    go_loopw [6, 16] (fun s i wr => ∃ j : Nat, j ≤ ys.length ∧ i = .int .i64 (j : Int) ∧ (0 < j → -10000 ≤ k ∧ k ≤ 10000) ∧ wr.ownsRow w.heap.size 33 2 s j ((fr (ys.take j)).map (Value.int .i64)) ∧ Below w.heap.size w wr) (fun _ i _ => xs.length - (intOf i).toNat)
    case atStart => exact ⟨0, Nat.zero_le _, by go_num, fun h => absurd h (by omega), (ROwn.empty w1 w.heap.size hs1), B1.out.alloc hs1 _⟩
    case round =>
      obtain ⟨j, hj, rfl, hkk, hown, hbel⟩ := hrel
      have HO := Lib.hid hown
      have HK := Lib.hid hkk
      have hs2 := hbel.size
      clear hown hkk
      by_cases hlt : j < xs.length
      · obtain ⟨u0, u1, u2⟩ := HV.out.times hlt
        obtain ⟨b, o, rfl, hb, c0, c1⟩ := h.at2 hlt
        have d0 := (hbel.cell (p := ⟨b, o + j * 2, none⟩) hb).trans c0
        have d1 := (hbel.cell (p := ⟨b, o + j * 2 + 1, none⟩) hb).trans c1
        have HB := Lib.hid hbel
        clear c0 c1 hbel
        by_cases k1 : k < -10000
        · have N := Lib.hid (show ¬ RLc xs k from fun g => by have := g.2.1 (by omega); omega)
          go_wp2_with fail
          go_ret2
          have BX := (HB.out.alloc hs2 (.cells #[.int .i64 (rs xs j), .int .i64 (re xs j)] 33)).alloc (by simp; omega) (.cells #[] 33)
          exact ⟨_, _, pair_ret (by simp [rlL_no N.out]) (by simp [rlB_no N.out]), by rw [rlL_no N.out]; exact World.size_alloc wr (.cells #[.int .i64 (rs xs j), .int .i64 (re xs j)] 33) ▸ ROwn.empty (wr.alloc (.cells #[.int .i64 (rs xs j), .int .i64 (re xs j)] 33)) w.heap.size (by simp; omega), BX⟩
        · by_cases k2 : 10000 < k
          · have N := Lib.hid (show ¬ RLc xs k from fun g => by have := g.2.1 (by omega); omega)
            go_wp2_with fail
            go_ret2
            have BX := (HB.out.alloc hs2 (.cells #[.int .i64 (rs xs j), .int .i64 (re xs j)] 33)).alloc (by simp; omega) (.cells #[] 33)
            exact ⟨_, _, pair_ret (by simp [rlL_no N.out]) (by simp [rlB_no N.out]), by rw [rlL_no N.out]; exact World.size_alloc wr (.cells #[.int .i64 (rs xs j), .int .i64 (re xs j)] 33) ▸ ROwn.empty (wr.alloc (.cells #[.int .i64 (rs xs j), .int .i64 (re xs j)] 33)) w.heap.size (by simp; omega), BX⟩
          · have hown := HO.out
            go_wp2_with (at_builtin; refine wpList_append_own _ rfl _ _ 25 rfl w.heap.size 33 i0 _ 2 16 Try.underlying25 hi0 hz0 hz1 hz2 rfl (by decide) _ _ _ rfl ((hown.alloc _).alloc _) ⟨wr.heap.size + 1, 0, none⟩ 1 1 [.int .i64 (rs xs j + k), .int .i64 (re xs j + k)] rfl rfl (cells2_new' _ _ _ _ _) (one2 _ _) (by unfold maxLen; omega) (by omega) (by simp; omega) ?_; intro v' w3 hown' hgrow _; have bel3 := ((HB.out.alloc hs2 _).alloc (by simp; omega) _).grown hgrow (by simp; omega) (fun q hq => (hown.lt q hq).1); have R := Lib.hid (And.intro hown' bel3); clear hown' hgrow bel3)
            obtain ⟨hown', bel3⟩ := R.out
            refine ⟨⟨j + 1, by omega, by go_num, fun _ => by omega, by rw [HAT.out j hlt]; simpa using hown', bel3⟩, by simp [intOf]; omega⟩
      · obtain rfl : j = ys.length := by omega
        have hown := HO.out
        obtain ⟨A', c', rfl⟩ := own_formI hown
        rw [List.take_length] at hown
        have R := Lib.hid (And.intro hown hbel)
        clear hown hbel HO
        go_wp2_with fail
        by_cases hv2 : RValid ys
        · have HV2 := Lib.hid hv2
          clear hv2
          refine (iRV_yes (Cells.of_own (zs := fr ys) R.out.1) (by omega) HV2.out).mono ?_
          rintro e w2 ⟨rfl, b2⟩
          have R2 := Lib.hid (And.intro (own_below R.out.1 b2) (R.out.2.trans (b2.mono R.out.2.size)))
          have Y := Lib.hid (show RLc xs k from ⟨HV.out, fun g => HK.out (by omega), by rw [← HY.out]; exact HV2.out⟩)
          clear b2
          go_wp2_with fail
          go_ret2
          exact ⟨A', c', pair_ret (by rw [rlL_yes Y.out, ← HY.out]) (by simp [rlB_yes Y.out]), by rw [rlL_yes Y.out, ← HY.out]; exact R2.out.1, R2.out.2⟩
        · have HV2 := Lib.hid hv2
          clear hv2
          refine (iRV_no (Cells.of_own (zs := fr ys) R.out.1) (by omega) HV2.out).mono ?_
          rintro e w2 ⟨rfl, b2⟩
          have R2 := Lib.hid (R.out.2.trans (b2.mono R.out.2.size))
          have N := Lib.hid (show ¬ RLc xs k from fun g => HV2.out (by rw [HY.out]; exact g.2.2))
          clear b2
          go_wp2_with fail
          go_ret2
          exact ⟨_, _, pair_ret (by simp [rlL_no N.out]) (by simp [rlB_no N.out]), by rw [rlL_no N.out]; exact ROwn.empty w2 _ R2.out.size, R2.out.alloc R2.out.size _⟩
  · have N := Lib.hid (show ¬ RLc xs k from fun g => hv g.1)
    have HV := Lib.hid hv
    clear hv
    go_enter Try.func37, Try.ntmps37
    go_wp2_with fail
    refine (iRV_no h hl HV.out).mono ?_
    rintro e w1 ⟨rfl, b1⟩
    have B1 := Lib.hid b1
    clear h b1
    go_wp2_with fail
    go_ret2
    exact ⟨_, _, pair_ret (by simp [rlL_no N.out]) (by simp [rlB_no N.out]), by rw [rlL_no N.out]; exact ROwn.empty w1 _ B1.out.size, B1.out.alloc B1.out.size _⟩

set_option maxRecDepth 100000 in
set_option maxHeartbeats 1000000 in
theorem sRL_any (k : Int) (A : Option Addr) (c : Nat) (xs : List Rn) (w : World) (h : Cells w A (fr xs)) (hl : xs.length ≤ 1048576) :
    Calls Try.prog 36 #[.slice A xs.length c, .int .i64 k] w (RPair (rlL xs k) (rlB xs k) w) := by
  obtain ⟨i0, hi0, hz0, hz1, hz2⟩ := info_parts run_info
  by_cases hc : RValid xs ∧ -10000 ≤ k ∧ k ≤ 10000
  · obtain ⟨hv, k1, k2⟩ := hc
    have HV := Lib.hid hv
    have h12 := hv.1
    clear hv
    obtain ⟨ys, hy⟩ : ∃ ys, ys = shR xs k := ⟨_, rfl⟩
    have l1 : xs.length ≤ ys.length := by rw [hy, shR_len]; exact Nat.le_refl _
    have l2 : ys.length ≤ xs.length := by rw [hy, shR_len]; exact Nat.le_refl _
    have HAT := Lib.hid (show ∀ j, j < xs.length → fr (ys.take (j + 1)) = fr (ys.take j) ++ [rs xs j + k, re xs j + k] from fun j hj => by rw [hy]; exact fr_sh xs k j hj)
    have HY := Lib.hid hy
    clear hy
    go_enter Try.func36, Try.ntmps36
    go_wp2_with fail
    go_loopw [6, 7] (fun s i wr => ∃ j : Nat, j ≤ ys.length ∧ i = .int .i64 (j : Int) ∧ wr.ownsRow w.heap.size 33 2 s j ((fr (ys.take j)).map (Value.int .i64)) ∧ Below w.heap.size w wr) (fun _ i _ => xs.length - (intOf i).toNat)
    case atStart => exact ⟨0, Nat.zero_le _, by go_num, ROwn.empty w _ (Nat.le_refl _), (Below.refl _ _).alloc (Nat.le_refl _) _⟩
    case round =>
      obtain ⟨j, hj, rfl, hown, hbel⟩ := hrel
      have HO := Lib.hid hown
      clear hown
      by_cases hlt : j < xs.length
      · obtain ⟨u0, u1, u2⟩ := HV.out.times hlt
        have h1 := h.below hbel
        go_wp2_with fail
        refine (sRV_yes h1 hl HV.out).mono ?_
        rintro e w1 ⟨rfl, b1⟩
        have bel1 := hbel.trans (b1.mono hbel.size)
        have hown := own_below HO.out b1
        obtain ⟨b, o, rfl, hb, c0, c1⟩ := h.at2 hlt
        have d0 := (bel1.cell (p := ⟨b, o + j * 2, none⟩) hb).trans c0
        have d1 := (bel1.cell (p := ⟨b, o + j * 2 + 1, none⟩) hb).trans c1
        clear b1 hbel h1 c0 c1 HO
        go_wp2_with fail
        refine (inT _ _ _ _ k1 k2).mono ?_
        rintro e w2 ⟨rfl, rfl⟩
        have i1 : (j : Int) < (xs.length : Int) := by omega
        have hs9 := bel1.size
        have hb1 : b < w1.heap.size := by omega
        have ab : u6.ownBlock ≠ some b := fun e => by have := (hown.lt b e).1; omega
        have e5 : IntKind.i64.wrap (rs xs j + k) = rs xs j + k := IntWalk.i64_in _ (by omega)
        have e6 : IntKind.i64.wrap (re xs j + k) = re xs j + k := IntWalk.i64_in _ (by omega)
        go_wp2_with fail
        go_region_held3 (fun W => W.cell? ⟨b, o + j * 2, none⟩ = some (.int .i64 (rs xs j)) ∧ W.cell? ⟨b, o + j * 2 + 1, none⟩ = some (.int .i64 (re xs j)))
          (first
            | go_keep
            | (go_split_ands
               refine ⟨?_, ?_⟩
               · (rw [hgrow.cell_far _ (by simp; omega) (Ne.symm ab)]; assumption)
               · (rw [hgrow.cell_far _ (by simp; omega) (Ne.symm ab)]; assumption)))
          ((refine step_append_lies _ (by rfl) _ _ _ (by rfl) w.heap.size 33 i0 _ 2 16 Try.underlying25 hi0 hz0 hz1 hz2 rfl (by omega) _ _ _ (by rfl) ((hown.alloc _).drew) ⟨w1.heap.size, 0, none⟩ 1 1 [.int .i64 (rs xs j + k), .int .i64 (re xs j + k)] (by rfl) (by rfl) (World.news_of_block (cs := #[.int .i64 (rs xs j + k), .int .i64 (re xs j + k)]) (t := 33) (fr := (0, 0)) (heap_alloc_new w1 _)) (by simp [Value.oneCell']) (by omega) (by unfold maxLen; omega) (by omega) (by simp; omega) (w1.heap.size + 1) (by simp) ?_; intro gg cap w3 hown' hgrow hat hlt'))
        have bel3 := (bel1.alloc bel1.size _).drew.grown hgrow (by have := bel1.size; simp; omega) (fun q hq => (hown.lt q hq).1)
        have R := Lib.hid (And.intro hown' bel3)
        clear hown' hgrow bel3 e5 e6 d0 d1
        go_wp2_with fail
        obtain ⟨hown', bel3⟩ := R.out
        refine ⟨⟨j + 1, by omega, by go_num, by rw [HAT.out j hlt]; simpa using hown', bel3⟩, by simp [intOf]; omega⟩
      · obtain rfl : j = ys.length := by omega
        have hown := HO.out
        obtain ⟨A', c', rfl⟩ := own_formI hown
        rw [List.take_length] at hown
        have R := Lib.hid (And.intro hown hbel)
        have ne : ((ys.length : Int) != (xs.length : Int)) = false := by simp; omega
        clear hown hbel HO
        go_wp2_with fail
        by_cases hv2 : RValid ys
        · have HV2 := Lib.hid hv2
          clear hv2
          refine (sRV_yes (Cells.of_own (zs := fr ys) R.out.1) (by omega) HV2.out).mono ?_
          rintro e w2 ⟨rfl, b2⟩
          have R2 := Lib.hid (And.intro (own_below R.out.1 b2) (R.out.2.trans (b2.mono R.out.2.size)))
          have Y := Lib.hid (show RLc xs k from ⟨HV.out, fun g => ⟨k1, k2⟩, by rw [← HY.out]; exact HV2.out⟩)
          clear b2
          go_wp2_with fail
          go_ret2
          exact ⟨A', c', pair_ret (by rw [rlL_yes Y.out, ← HY.out]) (by simp [rlB_yes Y.out]), by rw [rlL_yes Y.out, ← HY.out]; exact R2.out.1, R2.out.2⟩
        · have HV2 := Lib.hid hv2
          clear hv2
          refine (sRV_no (Cells.of_own (zs := fr ys) R.out.1) (by omega) HV2.out).mono ?_
          rintro e w2 ⟨rfl, b2⟩
          have R2 := Lib.hid (R.out.2.trans (b2.mono R.out.2.size))
          have N := Lib.hid (show ¬ RLc xs k from fun g => HV2.out (by rw [HY.out]; exact g.2.2))
          clear b2
          go_wp2_with fail
          go_ret2
          exact ⟨_, _, pair_ret (by simp [rlL_no N.out]) (by simp [rlB_no N.out]), by rw [rlL_no N.out]; exact ROwn.empty w2 _ R2.out.size, R2.out.alloc R2.out.size _⟩
  · have HC := Lib.hid hc
    clear hc
    go_enter Try.func36, Try.ntmps36
    go_wp2_with fail
    have O0 := Lib.hid (ROwn.empty w w.heap.size (Nat.le_refl _))
    have B0 := Lib.hid ((Below.refl w.heap.size w).alloc (Nat.le_refl _) (.cells #[] 33))
    have h0 := h.alloc (.cells #[] 33)
    refine wp_loop_rounds 1 ?_
    rw [rounds_succ]
    by_cases hz : 0 < xs.length
    · have N := Lib.hid (show ¬ RLc xs k from fun g => HC.out ⟨g.1, g.2.1 hz⟩)
      have ne : ((0 : Int) != (xs.length : Int)) = true := by rw [bne_iff_ne]; omega
      have ne' : ((xs.length : Int) == 0) = false := by rw [beq_eq_false_iff_ne]; omega
      go_wp2_with fail
      by_cases hv : RValid xs
      · have hk : k < -10000 ∨ 10000 < k := by
          rcases Int.lt_or_le k (-10000) with a | a
          · exact .inl a
          · rcases Int.lt_or_le 10000 k with b | b
            · exact .inr b
            · exact absurd ⟨hv, a, b⟩ HC.out
        have HV := Lib.hid hv
        have HK := Lib.hid hk
        clear hv hk
        refine (sRV_yes h0 hl HV.out).mono ?_
        rintro e w1 ⟨rfl, b1⟩
        have B1 := Lib.hid (B0.out.trans (b1.mono (by simp)))
        clear b1
        go_wp2_with fail
        refine (inF _ _ _ _ HK.out).mono ?_
        rintro e w2 ⟨rfl, rfl⟩
        go_wp2_with fail
        go_ret2
        exact ⟨_, _, pair_ret (by simp [rlL_no N.out]) (by simp [rlB_no N.out]), by rw [rlL_no N.out]; exact ROwn.empty w1 _ B1.out.size, B1.out.alloc B1.out.size _⟩
      · have HV := Lib.hid hv
        clear hv
        refine (sRV_no h0 hl HV.out).mono ?_
        rintro e w1 ⟨rfl, b1⟩
        have B1 := Lib.hid (B0.out.trans (b1.mono (by simp)))
        clear b1
        go_wp2_with fail
        go_ret2
        exact ⟨_, _, pair_ret (by simp [rlL_no N.out]) (by simp [rlB_no N.out]), by rw [rlL_no N.out]; exact ROwn.empty w1 _ B1.out.size, B1.out.alloc B1.out.size _⟩
    · obtain rfl : xs = [] := List.eq_nil_of_length_eq_zero (by omega)
      have V := Lib.hid (show RValid [] from ⟨by simp, fun i hi => by simp at hi⟩)
      have Y := Lib.hid (show RLc [] k from ⟨V.out, fun g => absurd g (by simp), V.out⟩)
      have e0 : rlL [] k = [] := rlL_yes Y.out
      have E0 := Lib.hid e0
      clear e0 hz
      go_wp2_with fail
      refine (sRV_yes (Cells.of_own (zs := fr []) O0.out) (by simp) V.out).mono ?_
      rintro e w1 ⟨rfl, b1⟩
      have R := Lib.hid (And.intro (O0.out.below b1) (B0.out.trans (b1.mono (by simp))))
      clear b1
      go_wp2_with fail
      go_ret2
      exact ⟨_, _, pair_ret (by simp [E0.out]) (by simp [rlB_yes Y.out]), by rw [E0.out]; exact R.out.1, R.out.2⟩
end Go.Proofs.Ytgimheekaceifaa
