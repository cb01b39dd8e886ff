import Derived.Test.YtaajombljiiigaaRoadsF
import Derived.Test.YtaajombljiiigaaRoadsK
import Derived.StillTailTactics
import Derived.Deep.AppendLies
namespace Go.Proofs.Ytaajombljiiigaa
open Go.RowKit

/-- The first n values of a function, as a row. -/
def FO (O : Nat → Int) (n : Nat) : List Value := (List.range n).map fun i => Value.int .i64 (O i)
theorem FO_len (O : Nat → Int) (n : Nat) : (FO O n).length = n := by simp [FO]
theorem FO_at (O : Nat → Int) {n i : Nat} (h : i < n) : (FO O n)[i]? = some (.int .i64 (O i)) := by simp [FO, h]
theorem FO_succ (O : Nat → Int) (n : Nat) : FO O (n + 1) = FO O n ++ [.int .i64 (O n)] := by simp [FO, List.range_succ]
theorem FO_set (O : Nat → Int) (n i : Nat) (v : Int) : (FO O n).set i (.int .i64 v) = FO (fun j => if j = i then v else O j) n := by
  apply List.ext_getElem?
  intro j
  rcases Nat.lt_or_ge j n with h | h
  · by_cases e : j = i
    · subst e
      rw [List.getElem?_set_self (by rw [FO_len]; exact h), FO_at _ h, if_pos rfl]
    · rw [List.getElem?_set_ne (by omega), FO_at _ h, FO_at _ h, if_neg e]
  · rw [List.getElem?_eq_none (by rw [List.length_set, FO_len]; exact h), List.getElem?_eq_none (by rw [FO_len]; exact h)]
theorem FO_congr {O P : Nat → Int} {n : Nat} (h : ∀ i, i < n → O i = P i) : FO O n = FO P n := by
  apply List.map_congr_left
  intro i hi
  rw [h i (List.mem_range.1 hi)]

/-- A row of n numbers of the call's own. -/
def Row (w : World) (B g n c : Nat) (O : Nat → Int) : Prop := w.ownsRow B 3 1 (.slice (some ⟨g, 0, none⟩) n c) n (FO O n)
section
variable {w w' : World} {B g n c : Nat} {O P : Nat → Int}
theorem Row.cell (h : Row w B g n c O) {i : Nat} (hi : i < n) : w.cell? ⟨g, i, none⟩ = some (.int .i64 (O i)) ∧ w.frozen? ⟨g, i, none⟩ = false := by
  refine ⟨?_, h.frozenAt i⟩
  rw [h.cellAt i (by omega), FO_at O hi]
theorem Row.below (h : Row w B g n c O) (hb : Below w.heap.size w w') : Row w' B g n c O := own_below h hb
theorem Row.store (h : Row w B g n c O) (i : Nat) (v : Int) : Row (w.setCell ⟨g, i, none⟩ (.int .i64 v)) B g n c (fun j => if j = i then v else O j) := by
  have := (h.stored i (.int .i64 v)).1
  rw [FO_set] at this
  exact this
theorem Row.congr (h : Row w B g n c O) (e : ∀ i, i < n → O i = P i) : Row w B g n c P := by unfold Row; rw [← FO_congr e]; exact h
theorem Row.lt (h : Row w B g n c O) : B ≤ g ∧ g < w.heap.size := World.ownsRow.lt h g rfl
theorem Row.cap (h : Row w B g n c O) : n ≤ c ∧ c ≤ 9223372036854775807 := by
  rcases h.2 with ⟨h1, _⟩ | ⟨g', cap, cur, hv, _, _, h2, h3, _⟩
  · cases h1
  · injection hv with a1 a2 a3
    subst a3
    exact ⟨h2, by unfold maxLen at h3; omega⟩
end
theorem grown_store1 (w : World) (g k : Nat) (u0 : Value) : w.grownBy (w.setCell ⟨g, k, none⟩ u0) (some g) := by
  refine ⟨rfl, rfl, rfl, by simp [World.setCell], fun i _ hne => ?_⟩
  have hi : i ≠ g := fun e => hne (by rw [e])
  rw [Below.heap_setCell _ _ _ _ (by exact hi)]
theorem int_info : (Try.prog.info? 3).map (fun i => (i.zero, i.size, i.bytes)) = some (some (.int .i64 0), 1, 8) := by kernel_rfl

set_option maxRecDepth 100000 in
set_option maxHeartbeats 2000000 in
theorem far_any (N f : Nat) (A : Option Addr) (c : Nat) (xs : List Rd3) (w : World) (h : Cells w A (fd xs)) (hl : xs.length ≤ 1048576) (hv : DValid (N : Int) xs) (hf : f < N) :
    Calls Try.prog 41 #[.int .i64 (N : Int), .slice A xs.length c, .int .i64 (f : Int)] w fun e w' => ∃ g c', e = .returned (.slice (some ⟨g, 0, none⟩) N c') ∧ Row w' w.heap.size g N c' (dst xs f) ∧ Below w.heap.size w w' := by
  obtain ⟨i0, hi0, hz0, hz1, hz2⟩ := info_parts int_info
  have HV := Lib.hid hv
  have n8 : N ≤ 8 := by have := hv.2.1; omega
  have h16 := hv.2.2.1
  have HD := Lib.hid (dst_dist hv hf)
  clear hv
  obtain ⟨D, hD⟩ : ∃ D, D = dst xs f := ⟨_, rfl⟩
  rw [← hD] at HD ⊢
  clear hD
  go_enter Try.func41, Try.ntmps41
  go_wp2_with fail
  go_loopw [7, 8] (fun v i wr => ∃ k : Nat, k ≤ N ∧ i = .int .i64 (k : Int) ∧ wr.ownsRow w.heap.size 3 1 v k (FO (fun _ => 100000) k) ∧ Below w.heap.size w wr) (fun _ i _ => N - (intOf i).toNat)
  case atStart => exact ⟨0, Nat.zero_le _, rfl, World.ownsRow_made w #[] 0 (Nat.le_refl _) (Nat.zero_le _) rfl, (Below.refl _ _).alloc (Nat.le_refl _) _⟩
  case round =>
    obtain ⟨k, hk, rfl, hown, hbel⟩ := hrel
    have HO := Lib.hid hown
    have HB := Lib.hid hbel
    have hs := hbel.size
    clear hown hbel
    by_cases hlt : k < N
    · go_wp2_with (at_builtin; refine wpList_append_own _ rfl _ _ 59 rfl w.heap.size 3 i0 _ 1 8 Try.underlying59 hi0 hz0 hz1 hz2 rfl (by decide) _ k _ rfl (HO.out.alloc _) ⟨wr.heap.size, 0, none⟩ 1 1 [.int .i64 100000] rfl rfl (World.news_of_block (cs := #[.int .i64 100000]) (heap_alloc_new wr _)) (by simp [Value.oneCell']) (by unfold maxLen; omega) (by omega) (by simp; omega) ?_; intro v1 w1 o1 g1 _; have R1 := Lib.hid (And.intro o1 ((HB.out.alloc hs _).grown g1 (by simp; omega) (fun q hq => (HO.out.lt q hq).1))); clear o1 g1)
      exact ⟨⟨k + 1, by omega, by go_num, by rw [FO_succ]; exact R1.out.1, R1.out.2⟩, by simp [intOf]; omega⟩
    · obtain rfl : k = N := by omega
      obtain ⟨g, c', rfl, hR0⟩ : ∃ g c', u7 = .slice (some ⟨g, 0, none⟩) k c' ∧ Row wr w.heap.size g k c' (fun _ => 100000) := by
        have hO := HO.out
        rcases hO.2 with ⟨_, h1⟩ | ⟨g, cap, cur, hv, _⟩
        · omega
        · subst hv
          exact ⟨g, cap, rfl, hO⟩
      obtain ⟨m0, m1⟩ := hR0.cell hf
      obtain ⟨p1, p2⟩ := hR0.cap
      have hgB := hR0.lt.1
      have jf : (f : Int) < (k : Int) := by omega
      have R0 := Lib.hid ((hR0.store f 0).congr (P := fun v => if v = f then 0 else 100000) (fun i _ => rfl))
      have B0 := Lib.hid (HB.out.setCell (p := ⟨g, f, none⟩) hgB (.int .i64 0))
      have G0 := Lib.hid (bf_start HV.out HD.out (O := fun v => if v = f then 0 else 100000) (fun v _ => rfl) hf)
      clear hR0 HO HB hs
      go_wp2_with fail
      go_loopw [9] (fun i ws => ∃ r : Nat, r ≤ k ∧ i = .int .i64 (r : Int) ∧ ∃ O, Row ws w.heap.size g k c' O ∧ BF k xs f D O r 0 ∧ Below w.heap.size w ws) (fun i _ => k - (intOf i).toNat)
      case atStart => exact ⟨0, Nat.zero_le _, rfl, _, R0.out, G0.out, B0.out⟩
      case round =>
        obtain ⟨r, hr, rfl, O, hR, hG, hbel⟩ := hrel
        have HR := Lib.hid hR
        have HG := Lib.hid hG
        have HB := Lib.hid hbel
        clear hR hG hbel R0 B0 G0 m0 m1
        by_cases hlt : r < k
        · go_wp2_with fail
          go_loopw [10] (fun i wt => ∃ j : Nat, j ≤ xs.length ∧ i = .int .i64 (j : Int) ∧ ∃ O, Row wt w.heap.size g k c' O ∧ BF k xs f D O r j ∧ Below w.heap.size w wt) (fun i _ => xs.length - (intOf i).toNat)
          case atStart => exact ⟨0, Nat.zero_le _, rfl, O, HR.out, HG.out, HB.out⟩
          case round =>
            obtain ⟨j, hj, rfl, O', hR, hG, hbel⟩ := hrel
            have HR2 := Lib.hid hR
            have HG2 := Lib.hid hG
            have HB2 := Lib.hid hbel
            clear HR HG HB
            by_cases hjl : j < xs.length
            · obtain ⟨b, o, rfl, hb, c0, c1, c2⟩ := (h.below hbel).at3 hjl
              obtain ⟨v1, v2, v3, v4, v5, -⟩ := HV.out.2.2.2 j hjl
              obtain ⟨x, hx⟩ := Int.eq_ofNat_of_zero_le v1
              obtain ⟨y, hy⟩ := Int.eq_ofNat_of_zero_le (show 0 ≤ rb xs j by omega)
              obtain ⟨m, hm⟩ : ∃ m, m = rm xs j := ⟨_, rfl⟩
              have HX := Lib.hid hx
              have HY := Lib.hid hy
              have HM := Lib.hid hm
              rw [hx] at c0 v1 v2
              rw [hy] at c1 v2 v3
              rw [← hm] at c2 v4 v5
              have xk : x < k := by omega
              have yk : y < k := by omega
              have xy : x ≠ y := by omega
              have ix : (x : Int) < (k : Int) := by omega
              have iy : (y : Int) < (k : Int) := by omega
              have lx := hG.low x xk
              have ly := hG.low y yk
              have ux := hG.high x xk
              have uy := hG.high y yk
              have dx := HD.out.low x xk
              have dy := HD.out.low y yk
              have RB1 := Lib.hid (hR.below ((Below.refl wr.heap.size wr).alloc (Nat.le_refl _) (.cells #[.int .i64 (x : Int), .int .i64 (y : Int), .int .i64 m] 36)))
              have BX := Lib.hid (BoxI.new3 wr (x : Int) (y : Int) m 36)
              have B3 := Lib.hid (hbel.alloc hbel.size (.cells #[.int .i64 (x : Int), .int .i64 (y : Int), .int .i64 m] 36))
              have hgw := hR.lt.2
              clear hx hy hm hR hG hbel
              go_wp2_with fail
              generalize wr.alloc (.cells #[.int .i64 (x : Int), .int .i64 (y : Int), .int .i64 m] 36) = w1 at RB1 BX B3 ⊢
              obtain ⟨z0, z1, z2⟩ := BX.out.three
              obtain ⟨qx, fx⟩ := RB1.out.cell xk
              obtain ⟨qy, fy⟩ := RB1.out.cell yk
              have e5 : IntKind.i64.wrap (O' y + m) = O' y + m := IntWalk.i64_in _ (by omega)
              have RB2 := Lib.hid (RB1.out.below (Below.refl _ _).drew)
              have BX2 := Lib.hid (BX.out.below (Below.refl _ _).drew)
              have B4 := Lib.hid B3.out.drew
              clear RB1 BX B3
              go_still_tail 18, (by kernel_rfl)
              change wpList _ _ _ _ _ w1.drew
              clear z0 z1 z2 qx qy fx fy c0 c1 c2
              generalize w1.drew = w2 at RB2 BX2 B4 ⊢
              obtain ⟨z0, z1, z2⟩ := BX2.out.three
              obtain ⟨qx, fx⟩ := RB2.out.cell xk
              obtain ⟨qy, fy⟩ := RB2.out.cell yk
              go_wp2_with fail
              all_goals
                generalize hV : w2.setCell ⟨g, x, none⟩ _ = w3
                obtain ⟨V, hVm, hV⟩ : ∃ V, V = min (O' x) (O' y + m) ∧ w2.setCell ⟨g, x, none⟩ (.int .i64 V) = w3 := ⟨_, by omega, hV⟩
                have RB3 := Lib.hid (show Row w3 w.heap.size g k c' (fun v => if v = x then V else O' v) by rw [← hV]; exact RB2.out.store x V)
                have gne : g ≠ wr.heap.size := by omega
                have BX3 := Lib.hid (show BoxI w3 wr.heap.size [(x : Int), (y : Int), m] by
                  rw [← hV]
                  refine BX2.out.kept (grown_store1 w2 g x (.int .i64 V)) (fun e => gne (by injection e with e; exact e.symm)))
                have B5 := Lib.hid (show Below w.heap.size w w3 by rw [← hV]; exact B4.out.setCell (p := ⟨g, x, none⟩) hgB (.int .i64 V))
                have V0 : 0 ≤ V ∧ V ≤ 100000 := by omega
                obtain ⟨V1, V2⟩ := V0
                have HVM := Lib.hid hVm
                clear z0 z1 z2 qx qy fx fy RB2 BX2 B4 hV e5 hVm
                obtain ⟨z0, z1, z2⟩ := BX3.out.three
                obtain ⟨qx, fx⟩ := RB3.out.cell xk
                obtain ⟨qy, fy⟩ := RB3.out.cell yk
                try dsimp only at qx qy
                rw [if_pos rfl] at qx
                rw [if_neg (Ne.symm xy)] at qy
                have e6 : IntKind.i64.wrap (V + m) = V + m := IntWalk.i64_in _ (by omega)
                have RB4 := Lib.hid (RB3.out.below (Below.refl _ _).drew)
                have BX4 := Lib.hid (BX3.out.below (Below.refl _ _).drew)
                have B6 := Lib.hid B5.out.drew
                clear RB3 BX3 B5
                go_still_tail 18, (by kernel_rfl)
                change wpList _ _ _ _ _ w3.drew
                clear z0 z1 z2 qx qy fx fy
                generalize w3.drew = w4 at RB4 BX4 B6 ⊢
                obtain ⟨z0, z1, z2⟩ := BX4.out.three
                obtain ⟨qx, fx⟩ := RB4.out.cell xk
                obtain ⟨qy, fy⟩ := RB4.out.cell yk
                try dsimp only at qx qy
                rw [if_pos rfl] at qx
                rw [if_neg (Ne.symm xy)] at qy
                go_wp2_with fail
                all_goals
                  refine ⟨⟨j + 1, by omega, by go_num, rlx O' x y m, (RB4.out.store y _).congr (fun v hvk => ?_), ?_, B6.out.setCell (p := ⟨g, y, none⟩) hgB _⟩, by simp [intOf]; omega⟩
                  · have hvm := HVM.out
                    try dsimp only
                    unfold rlx
                    by_cases e1 : v = y
                    · rw [if_pos e1, if_pos e1]; omega
                    · rw [if_neg e1, if_neg e1]
                      by_cases e2 : v = x
                      · rw [if_pos e2, if_pos e2]; omega
                      · rw [if_neg e2, if_neg e2]
                  · have e := HM.out
                    rw [e]
                    exact bf_road HV.out HD.out HG2.out hjl HX.out HY.out
            · obtain rfl : j = xs.length := by omega
              clear hR hG hbel
              go_wp2_with fail
              exact ⟨⟨r + 1, by omega, by go_num, O', HR2.out, bf_round HV.out HD.out HG2.out hf, HB2.out⟩, by simp [intOf]; omega⟩
        · obtain rfl : r = k := by omega
          go_wp2_with fail
          go_ret
          exact ⟨g, c', rfl, HR.out.congr (fun v hv => bf_end HD.out HG.out v hv), HB.out⟩
end Go.Proofs.Ytaajombljiiigaa
