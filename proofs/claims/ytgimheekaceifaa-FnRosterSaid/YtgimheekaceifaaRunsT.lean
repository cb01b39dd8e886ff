import Derived.Test.YtgimheekaceifaaRunsH
import Derived.Test.YtgimheekaceifaaRunsM
import Derived.Lib.SliceRun
namespace Go.Proofs.Ytgimheekaceifaa
open Go.RowKit

def swv (a b v : Int) : Int := if v = a then b else if v = b then a else v
/-- The roster in which two teams have exchanged their runs from f to before k. -/
def swK (ro : List Int) (f : Nat) (a b : Int) (k : Nat) : List Int := ro.mapIdx fun i v => if f ≤ i ∧ i < k then swv a b v else v
theorem swK_len (ro : List Int) (f : Nat) (a b : Int) (k : Nat) : (swK ro f a b k).length = ro.length := by simp [swK]
theorem swK_start (ro : List Int) (f : Nat) (a b : Int) : swK ro f a b f = ro := by
  apply List.ext_getElem
  · simp [swK]
  · intro i h1 h2
    simp only [swK, List.getElem_mapIdx]
    rw [if_neg (by omega)]
theorem swK_at (ro : List Int) (f : Nat) (a b : Int) (k : Nat) : ri (swK ro f a b k) k = ri ro k := by
  unfold ri swK
  rw [List.getD_eq_getElem?_getD, List.getElem?_mapIdx, List.getD_eq_getElem?_getD]
  cases ro[k]? with
  | none => rfl
  | some v => simp
theorem swK_step (ro : List Int) (f : Nat) (a b : Int) (k : Nat) (hf : f ≤ k) (hk : k < ro.length) : swK ro f a b (k + 1) = (swK ro f a b k).set k (swv a b (ri ro k)) := by
  apply List.ext_getElem
  · simp [swK]
  · intro i h1 h2
    simp [swK] at h1
    rw [List.getElem_set]
    simp only [swK, List.getElem_mapIdx]
    by_cases e : k = i
    · subst e
      rw [if_pos rfl, if_pos ⟨hf, by omega⟩]
      simp [ri, List.getElem?_eq_getElem hk]
    · rw [if_neg e]
      by_cases g : f ≤ i ∧ i < k
      · rw [if_pos g, if_pos ⟨g.1, by omega⟩]
      · rw [if_neg g, if_neg (by omega)]
theorem swK_stay (ro : List Int) (f : Nat) (a b : Int) (k : Nat) (hk : k < ro.length) (h : swv a b (ri ro k) = ri ro k) : swK ro f a b (k + 1) = swK ro f a b k := by
  apply List.ext_getElem
  · simp [swK]
  · intro i h1 h2
    simp [swK] at h1
    simp only [swK, List.getElem_mapIdx]
    by_cases e : k = i
    · subst e
      have e1 : ri ro k = ro[k] := by simp [ri, List.getElem?_eq_getElem hk]
      rw [e1] at h
      by_cases g : f ≤ k
      · rw [if_pos ⟨g, by omega⟩, if_neg (by omega), h]
      · rw [if_neg (by omega), if_neg (by omega)]
    · by_cases g : f ≤ i ∧ i < k
      · rw [if_pos g, if_pos ⟨g.1, by omega⟩]
      · rw [if_neg g, if_neg (by omega)]

/-- Two teams can exchange their runs. -/
def SWc (xs : List Rn) (rest : Int) (ro : List Int) (f a b : Int) : Prop :=
  RoValid xs rest ro ∧ 0 ≤ f ∧ f < (xs.length : Int) ∧ 0 ≤ a ∧ a ≤ 11 ∧ 0 ≤ b ∧ b ≤ 11 ∧ RoValid xs rest (swK ro f.toNat a b ro.length)
open Classical in
noncomputable def rsL (xs : List Rn) (rest : Int) (ro : List Int) (f a b : Int) : List Int := if SWc xs rest ro f a b then swK ro f.toNat a b ro.length else []
open Classical in
noncomputable def rsB (xs : List Rn) (rest : Int) (ro : List Int) (f a b : Int) : Bool := decide (SWc xs rest ro f a b)
section
variable {xs : List Rn} {rest : Int} {ro : List Int} {f a b : Int}
theorem rsL_yes (h : SWc xs rest ro f a b) : rsL xs rest ro f a b = swK ro f.toNat a b ro.length := if_pos h
theorem rsL_no (h : ¬ SWc xs rest ro f a b) : rsL xs rest ro f a b = [] := if_neg h
theorem rsB_yes (h : SWc xs rest ro f a b) : rsB xs rest ro f a b = true := by simp [rsB, h]
theorem rsB_no (h : ¬ SWc xs rest ro f a b) : rsB xs rest ro f a b = false := by simp [rsB, h]
theorem rsL_len (hl : ro.length ≤ 1048576) : (rsL xs rest ro f a b).length ≤ 1048576 := by
  by_cases h : SWc xs rest ro f a b
  · rw [rsL_yes h, swK_len]; exact hl
  · rw [rsL_no h]; simp
end

theorem Cells.addsI {w : World} {ad : Addr} {zs : List Int} (h : Cells w (some ad) zs) : ∀ q u, (zs.map (Value.int .i64))[q]? = some u → w.cell? (ad.add q) = some u := by
  intro q u hu
  rcases h with h | ⟨b, o, hA, hb, hc⟩
  · rw [h] at hu; simp at hu
  · injection hA with hA
    subst hA
    have hq : q < zs.length := by
      rcases Nat.lt_or_ge q zs.length with h1 | h1
      · exact h1
      · rw [List.getElem?_eq_none (by simpa using h1)] at hu; cases hu
    rw [Go.WideShapes.add_plain, hc q hq, ← hu]
    simp [List.getElem?_eq_getElem hq]

/-- A copy of numbers: slices.Clone. -/
theorem clone_any (b o rc : Nat) (ro : List Int) (w : World) (hr : Cells w (some ⟨b, o, none⟩) ro) (hrl : ro.length ≤ 1048576) :
    Calls Try.prog 89 #[.slice (some ⟨b, o, none⟩) ro.length rc] w fun e w' => ∃ A c, e = .returned (.slice A ro.length c) ∧ IOwn w' w.heap.size A c ro ∧ Below w.heap.size w w' := by
  obtain ⟨i0, hi0, hz0, hz1, hz2⟩ := info_parts int_info
  have hnn := Lib.run_eql_slice_nil (P := Try.prog) w 44 3 (some ⟨b, o, none⟩) ro.length rc 0 0 Try.underlying44
  have O1 : (w.alloc (.cells #[] 3)).ownsRow w.heap.size 3 1 (.slice (some ⟨w.heap.size, 0, none⟩) 0 0) 0 [] := IOwn.empty w w.heap.size (Nat.le_refl _)
  have HA := Lib.hid ((hr.alloc (.cells #[] 3)).addsI)
  go_enter Try.func89, Try.ntmps89
  go_wp2_with (at_builtin; refine wpList_append_own _ rfl _ _ 44 rfl w.heap.size 3 i0 _ 1 8 Try.underlying44 hi0 hz0 hz1 hz2 rfl (by decide) _ _ _ rfl O1 ⟨b, o, none⟩ ro.length rc (ro.map (Value.int .i64)) rfl (by rw [List.length_map, Nat.mul_one]) HA.out (ints_oneCell _ _) (by unfold maxLen; omega) (by omega) (by simp) ?_; intro v' w3 hown' hgrow _; rw [List.nil_append, Nat.zero_add] at hown'; obtain ⟨A', c', hv'⟩ := own_formI hown'; have bel3 := ((Below.refl w.heap.size w).alloc (Nat.le_refl _) _).grown hgrow (by simp) (fun q hq => (O1.lt q hq).1); have R := Lib.hid (And.intro hown' bel3); rw [hv'] at R; clear hown' hgrow bel3; rw [hv']; clear hv')
  go_ret
  exact ⟨A', c', rfl, R.out.1, R.out.2⟩

/-- The row of a roster that is being changed. -/
def Swp (w : World) (B g c : Nat) (ro : List Int) (f : Nat) (a b : Int) (k : Nat) : Prop := w.ownsRow B 3 1 (.slice (some ⟨g, 0, none⟩) ro.length c) ro.length ((swK ro f a b k).map (Value.int .i64))
section
variable {w : World} {B g c f k : Nat} {ro : List Int} {a b : Int}
theorem Swp.start {A : Option Addr} {c : Nat} (h : IOwn w B A c ro) (h0 : 0 < ro.length) (f : Nat) (a b : Int) : ∃ g, A = some ⟨g, 0, none⟩ ∧ Swp w B g c ro f a b f ∧ B ≤ g := by
  rcases h.2 with ⟨_, h1⟩ | ⟨g, cap, cur, hv, hg, r⟩
  · omega
  · have hA : A = some ⟨g, 0, none⟩ := by injection hv
    subst hA
    exact ⟨g, rfl, by unfold Swp; rw [swK_start]; exact h, hg⟩
theorem Swp.own (h : Swp w B g c ro f a b k) : IOwn w B (some ⟨g, 0, none⟩) c (swK ro f a b k) := by
  unfold IOwn; rw [swK_len]; exact h
theorem Swp.cell (h : Swp w B g c ro f a b k) (hk : k < ro.length) : w.cell? ⟨g, k, none⟩ = some (.int .i64 (ri ro k)) ∧ w.frozen? ⟨g, k, none⟩ = false := by
  refine ⟨?_, h.frozenAt k⟩
  rw [h.cellAt k (by omega), ← swK_at ro f a b k, List.getElem?_map]
  unfold ri
  rw [List.getD_eq_getElem?_getD, List.getElem?_eq_getElem (by rw [swK_len]; exact hk)]
  rfl
theorem Swp.store (h : Swp w B g c ro f a b k) (hf : f ≤ k) (hk : k < ro.length) {v : Int} (hv : v = swv a b (ri ro k)) : Swp (w.setCell ⟨g, k, none⟩ (.int .i64 v)) B g c ro f a b (k + 1) := by
  subst hv
  have := (h.stored k (.int .i64 (swv a b (ri ro k)))).1
  unfold Swp
  rw [swK_step ro f a b k hf hk, List.map_set]
  exact this
theorem Swp.stay (h : Swp w B g c ro f a b k) (hk : k < ro.length) (hv : swv a b (ri ro k) = ri ro k) : Swp w B g c ro f a b (k + 1) := by
  unfold Swp
  rw [swK_stay ro f a b k hk hv]
  exact h
end


set_option maxRecDepth 100000 in
set_option maxHeartbeats 1000000 in
theorem sSw_any (A R : Option Addr) (c rc : Nat) (xs : List Rn) (rest : Int) (ro : List Int) (f a b : Int) (w : World) (h : Cells w A (fr xs)) (hr : Cells w R ro) (hl : xs.length ≤ 1048576) (hrl : ro.length ≤ 1048576) :
    Calls Try.prog 62 #[.slice A xs.length c, .int .i64 rest, .slice R ro.length rc, .int .i64 f, .int .i64 a, .int .i64 b] w (IPair (rsL xs rest ro f a b) (rsB xs rest ro f a b) w) := by
  obtain ⟨i0, hi0, hz0, hz1, hz2⟩ := info_parts int_info
  by_cases hv : RoValid xs rest ro
  · have HV := Lib.hid hv
    have HLL := Lib.hid hv.2.1
    clear hv
    by_cases g1 : 0 ≤ f ∧ f < (xs.length : Int)
    · by_cases g2 : 0 ≤ a ∧ a ≤ 11
      · by_cases g3 : 0 ≤ b ∧ b ≤ 11
        · obtain ⟨k0, hk0⟩ := Int.eq_ofNat_of_zero_le g1.1
          subst hk0
          obtain ⟨f0, f1⟩ := g1
          obtain ⟨a0, a1⟩ := g2
          obtain ⟨b0, b1'⟩ := g3
          have hlen : k0 < ro.length := by have := HLL.out; omega
          obtain ⟨gb, go, hR, hgb, -⟩ := hr.at1 hlen
          subst hR
          go_enter Try.func62, Try.ntmps62
          go_wp2_with fail
          refine (sRoV_yes h hr hl hrl HV.out).mono ?_
          rintro e w1 ⟨rfl, bb1⟩
          have s1 := h.below bb1
          have t1 := hr.below bb1
          have B1 := Lib.hid bb1
          have hs1 := bb1.size
          clear bb1
          go_wp2_with fail
          refine (inT _ _ _ _ f0 (by omega)).mono ?_
          rintro e _ ⟨rfl, rfl⟩
          go_wp2_with fail
          refine (inT _ _ _ _ a0 a1).mono ?_
          rintro e _ ⟨rfl, rfl⟩
          go_wp2_with fail
          refine (inT _ _ _ _ b0 b1').mono ?_
          rintro e _ ⟨rfl, rfl⟩
          have O1 : (w1.alloc (.cells #[] 3)).ownsRow w.heap.size 3 1 (.slice (some ⟨w1.heap.size, 0, none⟩) 0 0) 0 [] := IOwn.empty w1 w.heap.size hs1
          have HA := Lib.hid ((t1.alloc (.cells #[] 3)).addsI)
          go_wp2_with (at_builtin; refine wpList_append_own _ rfl _ _ 44 rfl w.heap.size 3 i0 _ 1 8 Try.underlying44 hi0 hz0 hz1 hz2 rfl (by decide) _ _ _ rfl O1 ⟨gb, go, none⟩ ro.length rc (ro.map (Value.int .i64)) rfl (by rw [List.length_map, Nat.mul_one]) HA.out (ints_oneCell _ _) (by unfold maxLen; omega) (by omega) (by simp; omega) ?_; intro v' w3 hown' hgrow _; rw [List.nil_append, Nat.zero_add] at hown'; obtain ⟨A', c', hv'⟩ := own_formI hown'; have bel3 := (B1.out.alloc hs1 _).grown hgrow (by simp; omega) (fun q hq => (O1.lt q hq).1); have R := Lib.hid (And.intro hown' bel3); rw [hv'] at R; clear hown' hgrow bel3; rw [hv']; clear hv')
          obtain ⟨g', hA', hsw, hgl⟩ := Swp.start (show IOwn w3 w.heap.size A' c' ro from R.out.1) (by omega) k0 a b
          subst hA'
          have O3 := Lib.hid hsw
          have B3 := Lib.hid R.out.2
          clear hsw R HA O1
          go_wp2_with fail
          go_loopw [15] (fun i wr => ∃ k : Nat, k0 ≤ k ∧ k ≤ ro.length ∧ i = .int .i64 k ∧ Swp wr w.heap.size g' c' ro k0 a b k ∧ Below w.heap.size w wr) (fun i _ => ro.length - (intOf i).toNat)
          case atStart => exact ⟨k0, Nat.le_refl _, by omega, rfl, O3.out, B3.out⟩
          case round =>
            obtain ⟨k, hk0, hk, rfl, hsw, hbel⟩ := hrel
            have HS := Lib.hid hsw
            have HB := Lib.hid hbel
            clear hsw hbel O3 B3
            by_cases hlt : k < ro.length
            · obtain ⟨m1, m2⟩ := HS.out.cell hlt
              obtain ⟨_, _, hR, hg9, z0⟩ := (hr.below HB.out).at1 hlt
              injection hR with hR
              injection hR with hR1 hR2
              subst hR1 hR2
              by_cases q1 : ri ro k = a
              · have e1 : (ri ro k == a) = true := by simp [q1]
                have V := Lib.hid (show b = swv a b (ri ro k) by unfold swv; rw [if_pos q1])
                have HQ := Lib.hid q1
                clear q1
                go_wp2_with fail
                exact ⟨⟨k + 1, by omega, by omega, by go_num, HS.out.store hk0 hlt V.out, HB.out.setCell (by exact hgl) _⟩, by simp [intOf]; omega⟩
              · have e1 : (ri ro k == a) = false := by simp [q1]
                by_cases q2 : ri ro k = b
                · have e2 : (ri ro k == b) = true := by simp [q2]
                  have V := Lib.hid (show a = swv a b (ri ro k) by unfold swv; rw [if_neg q1, if_pos q2])
                  clear q1 q2
                  go_wp2_with fail
                  exact ⟨⟨k + 1, by omega, by omega, by go_num, HS.out.store hk0 hlt V.out, HB.out.setCell (by exact hgl) _⟩, by simp [intOf]; omega⟩
                · have e2 : (ri ro k == b) = false := by simp [q2]
                  have V := Lib.hid (show swv a b (ri ro k) = ri ro k by unfold swv; rw [if_neg q1, if_neg q2])
                  clear q1 q2
                  go_wp2_with fail
                  exact ⟨⟨k + 1, by omega, by omega, by go_num, HS.out.stay hlt V.out, HB.out⟩, by simp [intOf]; omega⟩
            · obtain rfl : k = ro.length := by omega
              obtain ⟨ys, hy⟩ : ∃ ys, ys = swK ro k0 a b ro.length := ⟨_, rfl⟩
              have ly : ro.length = ys.length := by rw [hy, swK_len]
              have HY := Lib.hid hy
              have HLY := Lib.hid ly
              have OY := Lib.hid (show IOwn wr w.heap.size (some ⟨g', 0, none⟩) c' ys by rw [HY.out]; exact HS.out.own)
              have SX := h.below HB.out
              clear hy ly HS
              go_wp2_with fail
              rw [HLY.out]
              by_cases hv2 : RoValid xs rest ys
              · have HV2 := Lib.hid hv2
                have Y := Lib.hid (show SWc xs rest ro (k0 : Int) a b from ⟨HV.out, f0, f1, a0, a1, b0, b1', by rw [Int.toNat_natCast, ← HY.out]; exact HV2.out⟩)
                clear hv2
                refine (sRoV_yes SX OY.out.cells hl (by rw [← HLY.out]; exact hrl) HV2.out).mono ?_
                rintro e w5 ⟨rfl, b5⟩
                have RR := Lib.hid (And.intro (OY.out.below b5) (HB.out.trans (b5.mono HB.out.size)))
                clear b5
                go_wp2_with fail
                go_ret2
                exact ⟨_, _, pair_ret (by rw [rsL_yes Y.out, Int.toNat_natCast, ← HY.out]) (by simp [rsB_yes Y.out]), by rw [rsL_yes Y.out, Int.toNat_natCast, ← HY.out]; exact RR.out.1, RR.out.2⟩
              · have HV2 := Lib.hid hv2
                have N := Lib.hid (show ¬ SWc xs rest ro (k0 : Int) a b from fun g => HV2.out (by rw [HY.out]; have := g.2.2.2.2.2.2.2; rw [Int.toNat_natCast] at this; exact this))
                clear hv2
                refine (sRoV_no SX OY.out.cells hl (by rw [← HLY.out]; exact hrl) HV2.out).mono ?_
                rintro e w5 ⟨rfl, b5⟩
                have RR := Lib.hid (HB.out.trans (b5.mono HB.out.size))
                clear b5
                go_wp2_with fail
                go_ret2
                exact ⟨_, _, pair_ret (by simp [rsL_no N.out]) (by simp [rsB_no N.out]), by rw [rsL_no N.out]; exact IOwn.empty w5 _ RR.out.size, RR.out.alloc RR.out.size _⟩
        · have N := Lib.hid (show ¬ SWc xs rest ro f a b from fun g => g3 ⟨g.2.2.2.2.2.1, g.2.2.2.2.2.2.1⟩)
          have H := Lib.hid (show b < 0 ∨ 11 < b by omega)
          clear g3
          go_enter Try.func62, Try.ntmps62
          go_wp2_with fail
          refine (sRoV_yes h hr hl hrl HV.out).mono ?_
          rintro e w1 ⟨rfl, bb1⟩
          go_wp2_with fail
          refine (inT _ _ _ _ g1.1 (by omega)).mono ?_
          rintro e _ ⟨rfl, rfl⟩
          go_wp2_with fail
          refine (inT _ _ _ _ g2.1 (by omega)).mono ?_
          rintro e _ ⟨rfl, rfl⟩
          go_wp2_with fail
          refine (inF _ _ _ _ H.out).mono ?_
          rintro e _ ⟨rfl, rfl⟩
          go_wp2_with fail
          go_ret2
          exact ⟨_, _, pair_ret (by simp [rsL_no N.out]) (by simp [rsB_no N.out]), by rw [rsL_no N.out]; exact IOwn.empty w1 _ bb1.size, bb1.alloc bb1.size _⟩
      · have N := Lib.hid (show ¬ SWc xs rest ro f a b from fun g => g2 ⟨g.2.2.2.1, g.2.2.2.2.1⟩)
        have H := Lib.hid (show a < 0 ∨ 11 < a by omega)
        clear g2
        go_enter Try.func62, Try.ntmps62
        go_wp2_with fail
        refine (sRoV_yes h hr hl hrl HV.out).mono ?_
        rintro e w1 ⟨rfl, bb1⟩
        go_wp2_with fail
        refine (inT _ _ _ _ g1.1 (by omega)).mono ?_
        rintro e _ ⟨rfl, rfl⟩
        go_wp2_with fail
        refine (inF _ _ _ _ H.out).mono ?_
        rintro e _ ⟨rfl, rfl⟩
        go_wp2_with fail
        go_ret2
        exact ⟨_, _, pair_ret (by simp [rsL_no N.out]) (by simp [rsB_no N.out]), by rw [rsL_no N.out]; exact IOwn.empty w1 _ bb1.size, bb1.alloc bb1.size _⟩
    · have N := Lib.hid (show ¬ SWc xs rest ro f a b from fun g => g1 ⟨g.2.1, g.2.2.1⟩)
      have H := Lib.hid (show f < 0 ∨ (xs.length : Int) - 1 < f by omega)
      clear g1
      go_enter Try.func62, Try.ntmps62
      go_wp2_with fail
      refine (sRoV_yes h hr hl hrl HV.out).mono ?_
      rintro e w1 ⟨rfl, bb1⟩
      go_wp2_with fail
      refine (inF _ _ _ _ H.out).mono ?_
      rintro e _ ⟨rfl, rfl⟩
      go_wp2_with fail
      go_ret2
      exact ⟨_, _, pair_ret (by simp [rsL_no N.out]) (by simp [rsB_no N.out]), by rw [rsL_no N.out]; exact IOwn.empty w1 _ bb1.size, bb1.alloc bb1.size _⟩
  · have N := Lib.hid (show ¬ SWc xs rest ro f a b from fun g => hv g.1)
    have HV := Lib.hid hv
    clear hv
    go_enter Try.func62, Try.ntmps62
    go_wp2_with fail
    refine (sRoV_no h hr hl hrl HV.out).mono ?_
    rintro e w1 ⟨rfl, bb1⟩
    go_wp2_with fail
    go_ret2
    exact ⟨_, _, pair_ret (by simp [rsL_no N.out]) (by simp [rsB_no N.out]), by rw [rsL_no N.out]; exact IOwn.empty w1 _ bb1.size, bb1.alloc bb1.size _⟩

set_option maxRecDepth 100000 in
set_option maxHeartbeats 1000000 in
theorem iSw_any (A R : Option Addr) (c rc : Nat) (xs : List Rn) (rest : Int) (ro : List Int) (f a b : Int) (w : World) (h : Cells w A (fr xs)) (hr : Cells w R ro) (hl : xs.length ≤ 1048576) (hrl : ro.length ≤ 1048576) :
    Calls Try.prog 63 #[.slice A xs.length c, .int .i64 rest, .slice R ro.length rc, .int .i64 f, .int .i64 a, .int .i64 b] w (IPair (rsL xs rest ro f a b) (rsB xs rest ro f a b) w) := by
  obtain ⟨i0, hi0, hz0, hz1, hz2⟩ := info_parts int_info
  by_cases hv : RoValid xs rest ro
  · have HV := Lib.hid hv
    have HLL := Lib.hid hv.2.1
    clear hv
    by_cases g1 : 0 ≤ f ∧ f < (xs.length : Int)
    · by_cases g2 : 0 ≤ a ∧ a ≤ 11
      · by_cases g3 : 0 ≤ b ∧ b ≤ 11
        · obtain ⟨k0, hk0⟩ := Int.eq_ofNat_of_zero_le g1.1
          subst hk0
          obtain ⟨f0, f1⟩ := g1
          obtain ⟨a0, a1⟩ := g2
          obtain ⟨b0, b1'⟩ := g3
          have hlen : k0 < ro.length := by have := HLL.out; omega
          obtain ⟨gb, go, hR, hgb, -⟩ := hr.at1 hlen
          subst hR
          have n1 : decide ((k0 : Int) < 0) = false := by simp
          have n2 : decide ((xs.length : Int) ≤ (k0 : Int)) = false := by simp; omega
          have n2' : decide (xs.length ≤ k0) = false := by simp; omega
          have n3 : decide (a < 0) = false := by simp; omega
          have n4 : decide (12 ≤ a) = false := by simp; omega
          have n5 : decide (b < 0) = false := by simp; omega
          have n6 : decide (12 ≤ b) = false := by simp; omega
          go_enter Try.func63, Try.ntmps63
          go_wp2_with fail
          refine (iRoV_yes h hr hl hrl HV.out).mono ?_
          rintro e w1 ⟨rfl, bb1⟩
          have s1 := h.below bb1
          have t1 := hr.below bb1
          have B1 := Lib.hid bb1
          have hs1 := bb1.size
          clear bb1
          go_wp2_with fail
          refine (clone_any _ _ _ ro _ t1 hrl).mono ?_
          rintro e w3 ⟨A', c', rfl, ow, bb3⟩
          obtain ⟨g', hA', hsw, hgl⟩ := Swp.start (show IOwn w3 w.heap.size A' c' ro from ow.base hs1) (by omega) k0 a b
          subst hA'
          have O3 := Lib.hid hsw
          have B3 := Lib.hid (B1.out.trans (bb3.mono hs1))
          clear hsw ow bb3
          go_wp2_with fail
          go_loopw [15] (fun i wr => ∃ k : Nat, k0 ≤ k ∧ k ≤ ro.length ∧ i = .int .i64 k ∧ Swp wr w.heap.size g' c' ro k0 a b k ∧ Below w.heap.size w wr) (fun i _ => ro.length - (intOf i).toNat)
          case atStart => exact ⟨k0, Nat.le_refl _, by omega, rfl, O3.out, B3.out⟩
          case round =>
            obtain ⟨k, hk0, hk, rfl, hsw, hbel⟩ := hrel
            have HS := Lib.hid hsw
            have HB := Lib.hid hbel
            clear hsw hbel O3 B3
            by_cases hlt : k < ro.length
            · obtain ⟨m1, m2⟩ := HS.out.cell hlt
              by_cases q1 : ri ro k = a
              · have e1 : (ri ro k == a) = true := by simp [q1]
                have V := Lib.hid (show b = swv a b (ri ro k) by unfold swv; rw [if_pos q1])
                have HQ := Lib.hid q1
                clear q1
                go_wp2_with fail
                exact ⟨⟨k + 1, by omega, by omega, by go_num, HS.out.store hk0 hlt V.out, HB.out.setCell (by exact hgl) _⟩, by simp [intOf]; omega⟩
              · have e1 : (ri ro k == a) = false := by simp [q1]
                by_cases q2 : ri ro k = b
                · have e2 : (ri ro k == b) = true := by simp [q2]
                  have V := Lib.hid (show a = swv a b (ri ro k) by unfold swv; rw [if_neg q1, if_pos q2])
                  clear q1 q2
                  go_wp2_with fail
                  exact ⟨⟨k + 1, by omega, by omega, by go_num, HS.out.store hk0 hlt V.out, HB.out.setCell (by exact hgl) _⟩, by simp [intOf]; omega⟩
                · have e2 : (ri ro k == b) = false := by simp [q2]
                  have V := Lib.hid (show swv a b (ri ro k) = ri ro k by unfold swv; rw [if_neg q1, if_neg q2])
                  clear q1 q2
                  go_wp2_with fail
                  exact ⟨⟨k + 1, by omega, by omega, by go_num, HS.out.stay hlt V.out, HB.out⟩, by simp [intOf]; omega⟩
            · obtain rfl : k = ro.length := by omega
              obtain ⟨ys, hy⟩ : ∃ ys, ys = swK ro k0 a b ro.length := ⟨_, rfl⟩
              have ly : ro.length = ys.length := by rw [hy, swK_len]
              have HY := Lib.hid hy
              have HLY := Lib.hid ly
              have OY := Lib.hid (show IOwn wr w.heap.size (some ⟨g', 0, none⟩) c' ys by rw [HY.out]; exact HS.out.own)
              have SX := h.below HB.out
              clear hy ly HS
              go_wp2_with fail
              rw [HLY.out]
              by_cases hv2 : RoValid xs rest ys
              · have HV2 := Lib.hid hv2
                have Y := Lib.hid (show SWc xs rest ro (k0 : Int) a b from ⟨HV.out, f0, f1, a0, a1, b0, b1', by rw [Int.toNat_natCast, ← HY.out]; exact HV2.out⟩)
                clear hv2
                refine (iRoV_yes SX OY.out.cells hl (by rw [← HLY.out]; exact hrl) HV2.out).mono ?_
                rintro e w5 ⟨rfl, b5⟩
                have RR := Lib.hid (And.intro (OY.out.below b5) (HB.out.trans (b5.mono HB.out.size)))
                clear b5
                go_wp2_with fail
                go_ret2
                exact ⟨_, _, pair_ret (by rw [rsL_yes Y.out, Int.toNat_natCast, ← HY.out]) (by simp [rsB_yes Y.out]), by rw [rsL_yes Y.out, Int.toNat_natCast, ← HY.out]; exact RR.out.1, RR.out.2⟩
              · have HV2 := Lib.hid hv2
                have N := Lib.hid (show ¬ SWc xs rest ro (k0 : Int) a b from fun g => HV2.out (by rw [HY.out]; have := g.2.2.2.2.2.2.2; rw [Int.toNat_natCast] at this; exact this))
                clear hv2
                refine (iRoV_no SX OY.out.cells hl (by rw [← HLY.out]; exact hrl) HV2.out).mono ?_
                rintro e w5 ⟨rfl, b5⟩
                have RR := Lib.hid (HB.out.trans (b5.mono HB.out.size))
                clear b5
                go_wp2_with fail
                go_ret2
                exact ⟨_, _, pair_ret (by simp [rsL_no N.out]) (by simp [rsB_no N.out]), by rw [rsL_no N.out]; exact IOwn.empty w5 _ RR.out.size, RR.out.alloc RR.out.size _⟩
        · by_cases q : b < 0
          · have N := Lib.hid (show ¬ SWc xs rest ro f a b from fun g => g3 ⟨g.2.2.2.2.2.1, g.2.2.2.2.2.2.1⟩)
            have n1 : decide (f < 0) = false := by simp; omega
            have n2 : decide ((xs.length : Int) ≤ f) = false := by simp; omega
            have n3 : decide (a < 0) = false := by simp; omega
            have n4 : decide (12 ≤ a) = false := by simp; omega
            clear g3
            go_enter Try.func63, Try.ntmps63
            go_wp2_with fail
            refine (iRoV_yes h hr hl hrl HV.out).mono ?_
            rintro e w1 ⟨rfl, bb1⟩
            go_wp2_with fail
            go_ret2
            exact ⟨_, _, pair_ret (by simp [rsL_no N.out]) (by simp [rsB_no N.out]), by rw [rsL_no N.out]; exact IOwn.empty w1 _ bb1.size, bb1.alloc bb1.size _⟩
          · have N := Lib.hid (show ¬ SWc xs rest ro f a b from fun g => g3 ⟨g.2.2.2.2.2.1, g.2.2.2.2.2.2.1⟩)
            have n1 : decide (f < 0) = false := by simp; omega
            have n2 : decide ((xs.length : Int) ≤ f) = false := by simp; omega
            have n3 : decide (a < 0) = false := by simp; omega
            have n4 : decide (12 ≤ a) = false := by simp; omega
            have d8 : decide (b < 0) = false := by simp; omega
            have d9 : 12 ≤ b := by omega
            clear g3
            go_enter Try.func63, Try.ntmps63
            go_wp2_with fail
            refine (iRoV_yes h hr hl hrl HV.out).mono ?_
            rintro e w1 ⟨rfl, bb1⟩
            go_wp2_with fail
            go_ret2
            exact ⟨_, _, pair_ret (by simp [rsL_no N.out]) (by simp [rsB_no N.out]), by rw [rsL_no N.out]; exact IOwn.empty w1 _ bb1.size, bb1.alloc bb1.size _⟩
      · by_cases q : a < 0
        · have N := Lib.hid (show ¬ SWc xs rest ro f a b from fun g => g2 ⟨g.2.2.2.1, g.2.2.2.2.1⟩)
          have n1 : decide (f < 0) = false := by simp; omega
          have n2 : decide ((xs.length : Int) ≤ f) = false := by simp; omega
          clear g2
          go_enter Try.func63, Try.ntmps63
          go_wp2_with fail
          refine (iRoV_yes h hr hl hrl HV.out).mono ?_
          rintro e w1 ⟨rfl, bb1⟩
          go_wp2_with fail
          go_ret2
          exact ⟨_, _, pair_ret (by simp [rsL_no N.out]) (by simp [rsB_no N.out]), by rw [rsL_no N.out]; exact IOwn.empty w1 _ bb1.size, bb1.alloc bb1.size _⟩
        · have N := Lib.hid (show ¬ SWc xs rest ro f a b from fun g => g2 ⟨g.2.2.2.1, g.2.2.2.2.1⟩)
          have n1 : decide (f < 0) = false := by simp; omega
          have n2 : decide ((xs.length : Int) ≤ f) = false := by simp; omega
          have d8 : decide (a < 0) = false := by simp; omega
          have d9 : 12 ≤ a := by omega
          clear g2
          go_enter Try.func63, Try.ntmps63
          go_wp2_with fail
          refine (iRoV_yes h hr hl hrl HV.out).mono ?_
          rintro e w1 ⟨rfl, bb1⟩
          go_wp2_with fail
          go_ret2
          exact ⟨_, _, pair_ret (by simp [rsL_no N.out]) (by simp [rsB_no N.out]), by rw [rsL_no N.out]; exact IOwn.empty w1 _ bb1.size, bb1.alloc bb1.size _⟩
    · by_cases q : f < 0
      · have N := Lib.hid (show ¬ SWc xs rest ro f a b from fun g => g1 ⟨g.2.1, g.2.2.1⟩)
        clear g1
        go_enter Try.func63, Try.ntmps63
        go_wp2_with fail
        refine (iRoV_yes h hr hl hrl HV.out).mono ?_
        rintro e w1 ⟨rfl, bb1⟩
        go_wp2_with fail
        go_ret2
        exact ⟨_, _, pair_ret (by simp [rsL_no N.out]) (by simp [rsB_no N.out]), by rw [rsL_no N.out]; exact IOwn.empty w1 _ bb1.size, bb1.alloc bb1.size _⟩
      · have N := Lib.hid (show ¬ SWc xs rest ro f a b from fun g => g1 ⟨g.2.1, g.2.2.1⟩)
        have d8 : decide (f < 0) = false := by simp; omega
        have d9 : (xs.length : Int) ≤ f := by omega
        clear g1
        go_enter Try.func63, Try.ntmps63
        go_wp2_with fail
        refine (iRoV_yes h hr hl hrl HV.out).mono ?_
        rintro e w1 ⟨rfl, bb1⟩
        go_wp2_with fail
        go_ret2
        exact ⟨_, _, pair_ret (by simp [rsL_no N.out]) (by simp [rsB_no N.out]), by rw [rsL_no N.out]; exact IOwn.empty w1 _ bb1.size, bb1.alloc bb1.size _⟩
  · have N := Lib.hid (show ¬ SWc xs rest ro f a b from fun g => hv g.1)
    have HV := Lib.hid hv
    clear hv
    go_enter Try.func63, Try.ntmps63
    go_wp2_with fail
    refine (iRoV_no h hr hl hrl HV.out).mono ?_
    rintro e w1 ⟨rfl, bb1⟩
    go_wp2_with fail
    go_ret2
    exact ⟨_, _, pair_ret (by simp [rsL_no N.out]) (by simp [rsB_no N.out]), by rw [rsL_no N.out]; exact IOwn.empty w1 _ bb1.size, bb1.alloc bb1.size _⟩
end Go.Proofs.Ytgimheekaceifaa
