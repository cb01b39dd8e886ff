import Derived.Test.YtmpkdnikkganlaaTextS
import Derived.Test.YtmpkdnikkganlaaStopsB
namespace Go.Proofs.Ytmpkdnikkganlaa
open Go.RowKit

open Classical in
/-- What StopsText writes. -/
noncomputable def txS (n : Int) (xs : List St) : ByteArray := if Valid n xs then strOfNums (tl xs xs.length) else strOfNums []
theorem txS_yes {n : Int} {xs : List St} (h : Valid n xs) : txS n xs = strOfNums (tl xs xs.length) := if_pos h
theorem txS_no {n : Int} {xs : List St} (h : ¬ Valid n xs) : txS n xs = strOfNums [] := if_neg h

/-- The three cells of a stop. -/
def Stop3 (W : World) (b o : Nat) (t a l : Int) : Prop := b < W.heap.size ∧ W.cell? ⟨b, o, none⟩ = some (.int .i64 t) ∧ W.cell? ⟨b, o + 1, none⟩ = some (.int .i64 a) ∧ W.cell? ⟨b, o + 2, none⟩ = some (.int .i64 l)
theorem Stop3.below {W W' : World} {b o : Nat} {t a l : Int} (h : Stop3 W b o t a l) (hb : Below W.heap.size W W') : Stop3 W' b o t a l :=
  ⟨Nat.lt_of_lt_of_le h.1 hb.size, (hb.cell (p := ⟨b, o, none⟩) h.1).trans h.2.1, (hb.cell (p := ⟨b, o + 1, none⟩) h.1).trans h.2.2.1, (hb.cell (p := ⟨b, o + 2, none⟩) h.1).trans h.2.2.2⟩

set_option maxRecDepth 100000 in
set_option maxHeartbeats 1000000 in
theorem iText_any (n : Int) (A : Option Addr) (c : Nat) (xs : List St) (w : World) (h : Cells w A (fl xs)) (hl : xs.length ≤ 1048576) :
    Calls Try.prog 8 #[.int .i64 n, .slice A xs.length c] w fun e w' => e = .returned (.string (txS n xs)) ∧ Below w.heap.size w w' := by
  by_cases hv : Valid n xs
  · rw [txS_yes hv]; exact iText_yes n A c xs w h hl hv
  · have HV := Lib.hid hv
    rw [txS_no hv]
    clear hv
    go_enter Try.func8, Try.ntmps8
    go_wp2_with fail
    refine (link_no (h.alloc _) hl HV.out).mono ?_
    rintro e w1 ⟨rfl, b1⟩
    have B1 := Lib.hid (((Below.refl w.heap.size w).alloc (Nat.le_refl _) (.cells #[] 9)).trans (b1.mono (by simp)))
    clear b1
    go_wp2_with fail
    refine wp_loop_rounds 1 ?_
    rw [rounds_succ]
    go_wp2_with fail
    refine (Try.strings_Join_none (some ⟨w.heap.size, 0, none⟩) 0 { data := #[32] } _).mono ?_
    rintro e _ ⟨rfl, rfl⟩
    go_wp2_with fail
    go_ret
    exact ⟨ret_str rfl, B1.out⟩

set_option maxRecDepth 100000 in
set_option maxHeartbeats 1000000 in
theorem sText_any (n : Int) (A : Option Addr) (c : Nat) (xs : List St) (w : World) (h : Cells w A (fl xs)) (hl : xs.length ≤ 1048576) :
    Calls Try.prog 6 #[.int .i64 n, .slice A xs.length c] w fun e w' => e = .returned (.string (txS n xs)) ∧ Below w.heap.size w w' := by
  by_cases hv : Valid n xs
  · have HV := Lib.hid hv
    have TX := Lib.hid (txS_yes hv)
    have h8 := hv.2.2.2.1
    clear hv
    rw [TX.out]
    go_enter Try.func6, Try.ntmps6
    go_wp2_with fail
    go_loopw [5, 6] (fun s i wr => ∃ k : Nat, k ≤ xs.length ∧ s = .string (strOfNums (tl xs k)) ∧ i = .int .i64 k ∧ Below w.heap.size w wr) (fun _ i _ => xs.length - (intOf i).toNat)
    case atStart => exact ⟨0, Nat.zero_le _, rfl, rfl, Below.refl _ _⟩
    case round =>
      obtain ⟨k, hk, rfl, rfl, hbel⟩ := hrel
      have HB := Lib.hid hbel
      have h1 := h.below hbel
      clear hbel
      by_cases hlt : k < xs.length
      · obtain ⟨t1, t2, t3⟩ := HV.out.times hlt
        obtain ⟨g1, g2, _⟩ := HV.out.2.2.2.2 k hlt
        have g3 := HV.out.2.1
        have zk : (strOfNums (tl xs k)).size ≤ 14 * k := by rw [son_size]; exact tl_len xs k
        obtain ⟨T0, hT0⟩ : ∃ T0, T0 = strOfNums (tl xs k) := ⟨_, rfl⟩
        rw [← hT0] at zk ⊢
        obtain ⟨S0, e0, z0, r0⟩ := cat_run T0 { data := #[32] } ⟨by omega, by decide⟩
        have z0' : S0.size ≤ T0.size + 1 := z0
        have ES := Lib.hid (show S0 = strOfNums (tl xs k ++ [32]) by rw [e0, hT0]; exact str_cat _ [32])
        have ET := Lib.hid hT0
        clear e0 z0 hT0
        go_wp2_with fail
        refine (sValid_yes h1 hl HV.out).mono ?_
        rintro e w1 ⟨rfl, b1⟩
        have B1 := Lib.hid (HB.out.trans (b1.mono HB.out.size))
        have C1 := Lib.hid (h1.below b1)
        clear b1 h1 HB
        rcases Nat.eq_zero_or_pos k with k0 | k0
        focus
          have d1 : decide ((0 : Int) < (k : Int)) = false := by simp; omega
          have d2 : decide (0 < k) = false := by simp; omega
          have HX := Lib.hid (show ∃ U, U = T0 ∧ U.size ≤ 120 ∧ U = strOfNums (tl xs k ++ (if k = 0 then [] else [32])) from ⟨T0, rfl, by omega, by rw [if_pos k0, List.append_nil]; exact ET.out⟩)
          have K0 := Lib.hid k0
          clear k0
          go_wp2_with fail
          obtain ⟨U, hU, zU, eU⟩ := HX.out
          rw [← hU]
          clear hU HX d1 d2 r0 K0
        rotate_left
        focus
          have d1 : decide ((0 : Int) < (k : Int)) = true := by simp; omega
          have d2 : decide (0 < k) = true := by simp; omega
          have HX := Lib.hid (show ∃ U, U = S0 ∧ U.size ≤ 120 ∧ U = strOfNums (tl xs k ++ (if k = 0 then [] else [32])) from ⟨S0, rfl, by omega, by rw [if_neg (by omega)]; exact ES.out⟩)
          have K0 := Lib.hid k0
          clear k0
          go_wp2_with fail
          obtain ⟨U, hU, zU, eU⟩ := HX.out
          rw [← hU]
          clear hU HX d1 d2 r0 K0
        all_goals
          obtain ⟨b, o, rfl, hb, d1, d2, d3⟩ := C1.out.at3 hlt
          obtain ⟨S1, e1, z1, r1⟩ := cat_run U (strOfNums [48 + tw xs k]) ⟨by omega, by rw [son_size]; simp⟩
          rw [son_size] at z1
          have z1' : S1.size ≤ U.size + 1 := z1
          obtain ⟨S2, e2, z2, r2⟩ := cat_run S1 { data := #[58] } ⟨by omega, by decide⟩
          have z2' : S2.size ≤ S1.size + 1 := z2
          obtain ⟨S3, e3, z3, r3⟩ := cat_run S2 (ctext (ar xs k % 1440)) ⟨by omega, by rw [ctext_size]; omega⟩
          rw [ctext_size] at z3
          obtain ⟨S4, e4, z4, r4⟩ := cat_run S3 { data := #[45] } ⟨by omega, by decide⟩
          have z4' : S4.size ≤ S3.size + 1 := z4
          obtain ⟨S5, e5, z5, r5⟩ := cat_run S4 (ctext (lv xs k % 1440)) ⟨by omega, by rw [ctext_size]; omega⟩
          have HS := Lib.hid (show S5 = strOfNums (tl xs (k + 1)) by
            rw [e5, e4, e3, e2, e1, eU]
            unfold ctext
            rw [str_cat]
            rw [show ({ data := #[58] } : ByteArray) = strOfNums [58] from rfl, show ({ data := #[45] } : ByteArray) = strOfNums [45] from rfl, str_cat, str_cat, str_cat, str_cat]
            simp only [tl, ws, cl, List.append_assoc]
            rfl)
          clear e1 e2 e3 e4 e5 eU z1 z2 z3 z4 z5 z1' z2' z4' z0'
          have D0 := Lib.hid B1.out.drew
          have E0 := Lib.hid (show Stop3 w1.drew b (o + k * 3) (tw xs k) (ar xs k) (lv xs k) from ⟨hb, d1, d2, d3⟩)
          clear d1 d2 d3 C1
          go_wp2_with fail
          go_region_held3 (fun W => W.cell? ⟨b, o + k * 3, none⟩ = some (.int .i64 (tw xs k)) ∧ W.cell? ⟨b, o + k * 3 + 1, none⟩ = some (.int .i64 (ar xs k)) ∧ W.cell? ⟨b, o + k * 3 + 2, none⟩ = some (.int .i64 (lv xs k))) (first | exact E3.out.2 | exact E2.out.2 | exact E1.out.2 | exact E0.out.2) (first
            | (go_at_call 14; refine (dec_one _ _ (by omega) (by omega)).mono ?_; rintro e v1 ⟨rfl, x1⟩; have D1 := Lib.hid (D0.out.trans (x1.mono D0.out.size)); have E1 := Lib.hid (E0.out.below x1); clear x1)
            | (have hh := E2.out; clear hh; go_at_call 15; refine (sClockText_yes (lv xs k) _ (by omega) (by omega)).mono ?_; rintro e v3 ⟨rfl, x3⟩; have D3 := Lib.hid (D2.out.trans (x3.mono D2.out.size)); have E3 := Lib.hid (E2.out.below x3); clear x3)
            | (go_at_call 15; refine (sClockText_yes (ar xs k) _ (by omega) (by omega)).mono ?_; rintro e v2 ⟨rfl, x2⟩; have D2 := Lib.hid (D1.out.trans (x2.mono D1.out.size)); have E2 := Lib.hid (E1.out.below x2); clear x2))
          go_wp2_with fail
          exact ⟨⟨k + 1, by omega, by rw [HS.out], by go_num, D3.out⟩, by simp [intOf]; omega⟩
      · obtain rfl : k = xs.length := by omega
        go_wp2_with fail
        go_ret
        exact ⟨rfl, HB.out⟩
  · have HV := Lib.hid hv
    have TX := Lib.hid (txS_no hv)
    clear hv
    rw [TX.out]
    go_enter Try.func6, Try.ntmps6
    go_wp2_with fail
    refine wp_loop_rounds 1 ?_
    rw [rounds_succ]
    by_cases hz : 0 < xs.length
    · go_wp2_with fail
      refine (sValid_no h hl HV.out).mono ?_
      rintro e w1 ⟨rfl, b1⟩
      go_wp2_with fail
      go_ret
      exact ⟨ret_str rfl, b1⟩
    · go_wp2_with fail
      go_ret
      exact ⟨ret_str rfl, Below.refl _ _⟩
end Go.Proofs.Ytmpkdnikkganlaa
