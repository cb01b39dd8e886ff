import Derived.Test.YtdmbgnbegnlcaaaStopsR
import Derived.Test.YtdmbgnbegnlcaaaStopsG
namespace Go.Proofs.Ytdmbgnbegnlcaaa
open Go.RowKit

set_option maxRecDepth 100000 in
set_option maxHeartbeats 4000000 in
theorem sMeet_no (n : Int) (A A' : Option Addr) (c c' : Nat) (a b : List St) (w : World) (h : Cells w A (fl a)) (h' : Cells w A' (fl b)) (hl : a.length ≤ 1048576) (hl' : b.length ≤ 1048576) (hv : ¬ (Valid n a ∧ Valid n b)) :
    Calls Try.prog 42 #[.int .i64 n, .slice A a.length c, .slice A' b.length c'] w fun e w' => e = .returned (.tuple #[.int .i64 0, .bool false]) ∧ Below w.heap.size w w' := by
  have HV := Lib.hid hv
  clear hv
  go_enter Try.func42, Try.ntmps42
  go_wp2_with fail
  go_loopw [8, 9] (fun q i wr => q = .int .i64 (-1) ∧ i = .int .i64 0 ∧ Below w.heap.size w wr) (fun _ _ _ => 0)
  case atStart => exact ⟨rfl, rfl, Below.refl _ _⟩
  case round =>
    obtain ⟨rfl, rfl, hbel⟩ := hrel
    by_cases hlt : 0 < a.length
    · have i0 : (0 : Int) < (a.length : Int) := by omega
      by_cases hva : Valid n a
      · have hvb : ¬ Valid n b := fun g => HV.out ⟨hva, g⟩
        have HA := Lib.hid hva
        have HB := Lib.hid hvb
        clear hva hvb
        go_wp2_with fail
        refine (sValid_yes (h.below hbel) hl HA.out).mono ?_
        rintro e w1 ⟨rfl, b1⟩
        have bel1 := hbel.trans (b1.mono hbel.size)
        clear b1 hbel
        go_wp2_with fail
        refine (sValid_no (h'.below bel1) hl' HB.out).mono ?_
        rintro e w2 ⟨rfl, b2⟩
        have bel2 := bel1.trans (b2.mono bel1.size)
        clear b2 bel1
        go_wp2_with fail
        go_ret2
        exact ⟨rfl, bel2⟩
      · have HA := Lib.hid hva
        clear hva
        go_wp2_with fail
        refine (sValid_no (h.below hbel) hl HA.out).mono ?_
        rintro e w1 ⟨rfl, b1⟩
        have bel1 := hbel.trans (b1.mono hbel.size)
        clear b1 hbel
        go_wp2_with fail
        go_ret2
        exact ⟨rfl, bel1⟩
    · obtain h0 : a.length = 0 := by omega
      have i0 : ¬ (0 : Int) < (a.length : Int) := by omega
      go_wp2_with fail
      go_ret2
      exact ⟨rfl, hbel⟩

/-- The earliest meeting of stop i of a with the first j stops of b. -/
def mG (a b : List St) (i j : Nat) : Int := if 0 ≤ atV b (tw a i) ∧ atV b (tw a i) < j then mF a b (i + 1) else mF a b i

theorem link_both {n : Int} {A : Option Addr} {c : Nat} {xs : List St} {w : World} (h : Cells w A (fl xs)) (hl : xs.length ≤ 1048576) :
    Calls Try.prog 61 #[.int .i64 n, .slice A xs.length c] w fun e w' => (∃ q, e = .returned (.pointer q) ∧ (Valid n xs → ∃ b, q = some ⟨b, 0, none⟩ ∧ Chain w' xs (some ⟨b, 0, none⟩)) ∧ (¬ Valid n xs → q = none)) ∧ Below w.heap.size w w' := by
  by_cases hv : Valid n xs
  · refine (link_yes h hl hv).mono ?_
    rintro e w1 ⟨b, rfl, hch, b1⟩
    exact ⟨⟨_, rfl, fun _ => ⟨b, rfl, hch⟩, fun g => absurd hv g⟩, b1⟩
  · refine (link_no h hl hv).mono ?_
    rintro e w1 ⟨rfl, b1⟩
    exact ⟨⟨_, rfl, fun g => absurd g hv, fun _ => rfl⟩, b1⟩

set_option maxRecDepth 100000 in
set_option maxHeartbeats 4000000 in
theorem iMeet_no (n : Int) (A A' : Option Addr) (c c' : Nat) (a b : List St) (w : World) (h : Cells w A (fl a)) (h' : Cells w A' (fl b)) (hl : a.length ≤ 1048576) (hl' : b.length ≤ 1048576) (hv : ¬ (Valid n a ∧ Valid n b)) :
    Calls Try.prog 43 #[.int .i64 n, .slice A a.length c, .slice A' b.length c'] w fun e w' => e = .returned (.tuple #[.int .i64 0, .bool false]) ∧ Below w.heap.size w w' := by
  have HV := Lib.hid hv
  clear hv
  go_enter Try.func43, Try.ntmps43
  go_wp2_with fail
  refine (link_both h hl).mono ?_
  rintro e w1 ⟨⟨q, rfl, hq1, hq2⟩, b1⟩
  have HQ1 := Lib.hid hq1
  have HQ2 := Lib.hid hq2
  clear hq1 hq2
  go_wp2_with fail
  refine (link_both (h'.below b1) hl').mono ?_
  rintro e w2 ⟨⟨r, rfl, hr1, hr2⟩, b2⟩
  have bel := b1.trans (b2.mono b1.size)
  by_cases hva : Valid n a
  · obtain ⟨B, rfl, _⟩ := HQ1.out hva
    obtain rfl := hr2 (fun g => HV.out ⟨hva, g⟩)
    clear hr1 hr2 hva
    go_wp2_with fail
    go_ret2
    exact ⟨rfl, bel⟩
  · obtain rfl := HQ2.out hva
    clear hr1 hr2 hva
    go_wp2_with fail
    go_ret2
    exact ⟨rfl, bel⟩

def bv (m : Int) : Int := if m < 0 then 0 else m
def mt (m : Int) : Bool := !decide (m < 0)
theorem bv_neg {m : Int} (h : m < 0) : bv m = 0 := if_pos h
theorem bv_pos {m : Int} (h : ¬ m < 0) : bv m = m := if_neg h
theorem mt_neg {m : Int} (h : m < 0) : mt m = false := by unfold mt; rw [decide_eq_true h]; rfl
theorem mt_pos {m : Int} (h : ¬ m < 0) : mt m = true := by unfold mt; rw [decide_eq_false h]; rfl
theorem mG_zero (a b : List St) (i : Nat) : mG a b i 0 = mF a b i := if_neg (by omega)
theorem mG_last (a b : List St) (i : Nat) : mG a b i b.length = mF a b (i + 1) := by
  unfold mG
  rcases atV_cases b (tw a i) with ⟨k, hk, hat, -, -⟩ | ⟨hat, -⟩
  · rw [hat, if_pos ⟨by omega, by omega⟩]
  · rw [hat, if_neg (by omega)]
    show _ = updM a b (mF a b i) i
    unfold updM
    rw [hat, if_pos (by omega)]
theorem mG_ne {a b : List St} {i j : Nat} (h : tw a i ≠ tw b j) : mG a b i (j + 1) = mG a b i j := by
  unfold mG
  rcases atV_cases b (tw a i) with ⟨k, hk, hat, ht, -⟩ | ⟨hat, -⟩
  · have : k ≠ j := fun g => h (g ▸ ht.symm)
    rw [hat]
    by_cases g : k < j
    · rw [if_pos ⟨by omega, by omega⟩, if_pos ⟨by omega, by omega⟩]
    · rw [if_neg (by omega), if_neg (by omega)]
  · rw [hat, if_neg (by omega), if_neg (by omega)]
theorem mG_eq {n : Int} {a b : List St} (hb : Valid n b) {i j : Nat} (hj : j < b.length) (h : tw a i = tw b j) : mG a b i j = mF a b i ∧ mG a b i (j + 1) = updK a b (mF a b i) i j := by
  have hat : atV b (tw a i) = (j : Int) := atV_eq hj h.symm (fun q hq e => absurd (town_inj hb (by omega) hj (e.trans h)) (by omega))
  unfold mG
  rw [hat, if_neg (by omega), if_pos ⟨by omega, by omega⟩]
  refine ⟨rfl, ?_⟩
  show updM a b (mF a b i) i = _
  unfold updM
  rw [hat, if_neg (by omega), Int.toNat_natCast]

set_option maxRecDepth 100000 in
set_option maxHeartbeats 4000000 in
theorem iMeet_yes (n : Int) (A A' : Option Addr) (c c' : Nat) (a b : List St) (w : World) (h : Cells w A (fl a)) (h' : Cells w A' (fl b)) (hl : a.length ≤ 1048576) (hl' : b.length ≤ 1048576) (ha : Valid n a) (hb : Valid n b) :
    Calls Try.prog 43 #[.int .i64 n, .slice A a.length c, .slice A' b.length c'] w fun e w' => e = .returned (.tuple #[.int .i64 (bv (mF a b a.length)), .bool (mt (mF a b a.length))]) ∧ Below w.heap.size w w' := by
  have HVA := Lib.hid ha
  have HVB := Lib.hid hb
  clear ha hb
  go_enter Try.func43, Try.ntmps43
  go_wp2_with fail
  refine (link_yes h hl HVA.out).mono ?_
  rintro e w1 ⟨B, rfl, chA, b1⟩
  have CA := Lib.hid chA
  clear chA
  go_wp2_with fail
  refine (link_yes (h'.below b1) hl' HVB.out).mono ?_
  rintro e w2 ⟨B', rfl, chB, b2⟩
  have bel := b1.trans (b2.mono b1.size)
  have CA := Lib.hid (show Chain w2 a (some ⟨B, 0, none⟩) from CA.out.below b2)
  have CB := Lib.hid chB
  clear chB b1 b2
  go_wp2_with fail
  have t2 : 2 ≤ a.length := HVA.out.2.2.1
  go_loopg [10, 11, 12] a.length (fun gk q m p wr => ∃ i a', i ≤ a.length ∧ gk = a.length - i ∧ q = .int .i64 (bv (mF a b i)) ∧ m = .bool (mt (mF a b i)) ∧ p = .pointer a' ∧ Chain wr (a.drop i) a' ∧ Chain wr b (some ⟨B', 0, none⟩) ∧ Below w.heap.size w wr)
  case atStart => exact ⟨0, _, Nat.zero_le _, rfl, rfl, rfl, rfl, CA.out.whole, CB.out, bel⟩
  case round =>
    obtain ⟨i, a', hi, rfl, rfl, rfl, rfl, hca, hcb, hbel⟩ := hrel
    obtain ⟨W, hW⟩ : ∃ W, W = wr := ⟨_, rfl⟩
    subst hW
    clear CA CB bel
    have mb := mF_bd HVA.out HVB.out i hi
    obtain ⟨mb1, mb2⟩ := mb
    by_cases hlt : i < a.length
    · have ta := HVA.out.times hlt
      obtain ⟨ta1, ta2, ta3⟩ := ta
      obtain ⟨p, nx, rfl, c0, c1, c2, c3, hnx, hp⟩ := hca.head hlt
      clear hca
      have CN := Lib.hid hnx
      have CB := Lib.hid hcb
      clear hnx hcb
      go_wp2_with fail
      go_loopg [10, 11, 13] b.length (fun gk q m p wr' => ∃ j b', j ≤ b.length ∧ gk = b.length - j ∧ q = .int .i64 (bv (mG a b i j)) ∧ m = .bool (mt (mG a b i j)) ∧ p = .pointer b' ∧ Chain wr' (b.drop j) b' ∧ Below W.heap.size W wr')
      case atStart => exact ⟨0, _, Nat.zero_le _, rfl, by rw [mG_zero], by rw [mG_zero], rfl, CB.out.whole, Below.refl _ _⟩
      case round =>
        obtain ⟨j, b', hj, rfl, rfl, rfl, rfl, hcb, ibel⟩ := hrel
        by_cases hjt : j < b.length
        · have tb := HVB.out.times hjt
          obtain ⟨tb1, tb2, tb3⟩ := tb
          obtain ⟨p', nx', rfl, q0, q1, q2, q3, hnx', hp'⟩ := hcb.head hjt
          clear hcb
          have CX := Lib.hid hnx'
          clear hnx'
          have d0 := (ibel.cell (p := ⟨p, 0, none⟩) hp).trans c0
          have d1 := (ibel.cell (p := ⟨p, 1, none⟩) hp).trans c1
          have d2 := (ibel.cell (p := ⟨p, 2, none⟩) hp).trans c2
          by_cases hm : ar a i < ar b j
          · have HT := Lib.hid (show max (ar a i) (ar b j) = ar b j by omega)
            go_wp2_with fail
            go_quiet (fail)
            by_cases ht : tw a i = tw b j
            · obtain ⟨g1, g2⟩ := mG_eq HVB.out hjt ht
              rw [g1]
              have HU := Lib.hid (g2.trans (updK_T (B := mF a b i) HT.out))
              clear g1 g2
              have ht' : (tw a i == tw b j) = true := beq_iff_eq.2 ht
              by_cases hl : lv b j < lv a i
              · by_cases h1 : ar b j ≤ lv b j
                · have E0 := Lib.hid (show mG a b i (j + 1) = if mF a b i < 0 ∨ ar b j < mF a b i then ar b j else mF a b i from HU.out.trans (ite_congr (propext ⟨fun g => g.2.2, fun g => ⟨by omega, h1, g⟩⟩) (fun _ => rfl) (fun _ => rfl)))
                  by_cases h3 : mF a b i < 0
                  · have E := Lib.hid (show mG a b i (j + 1) = ar b j from E0.out.trans (if_pos (.inl h3)))
                    rw [bv_neg h3, mt_neg h3]
                    go_wp2_with fail
                    go_quiet (fail)
                    go_wp2_with fail
                    go_roundg (b.length - (j + 1))
                    case rel => exact ⟨j + 1, _, hjt, rfl, by rw [E.out]; rw [bv_pos (by omega)], by rw [E.out]; rw [mt_pos (by omega)], rfl, CX.out.below (below_drewN' (Below.refl _ _) _), below_drewN' ibel _⟩
                    case measure => omega
                  · rw [bv_pos h3, mt_pos h3]
                    by_cases h4 : ar b j < mF a b i
                    · have E := Lib.hid (show mG a b i (j + 1) = ar b j from E0.out.trans (if_pos (.inr h4)))
                      go_wp2_with fail
                      go_quiet (fail)
                      go_wp2_with fail
                      go_roundg (b.length - (j + 1))
                      case rel => exact ⟨j + 1, _, hjt, rfl, by rw [E.out]; rw [bv_pos (by omega)], by rw [E.out]; rw [mt_pos (by omega)], rfl, CX.out.below (below_drewN' (Below.refl _ _) _), below_drewN' ibel _⟩
                      case measure => omega
                    · have E := Lib.hid (show mG a b i (j + 1) = mF a b i from E0.out.trans (if_neg (by omega)))
                      go_wp2_with fail
                      go_quiet (fail)
                      go_wp2_with fail
                      go_roundg (b.length - (j + 1))
                      case rel => exact ⟨j + 1, _, hjt, rfl, by rw [E.out]; rw [bv_pos (by omega)], by rw [E.out]; rw [mt_pos (by omega)], rfl, CX.out.below (below_drewN' (Below.refl _ _) _), below_drewN' ibel _⟩
                      case measure => omega
                · exfalso; omega
              · by_cases h1 : ar b j ≤ lv a i
                · have E0 := Lib.hid (show mG a b i (j + 1) = if mF a b i < 0 ∨ ar b j < mF a b i then ar b j else mF a b i from HU.out.trans (ite_congr (propext ⟨fun g => g.2.2, fun g => ⟨h1, by omega, g⟩⟩) (fun _ => rfl) (fun _ => rfl)))
                  by_cases h3 : mF a b i < 0
                  · have E := Lib.hid (show mG a b i (j + 1) = ar b j from E0.out.trans (if_pos (.inl h3)))
                    rw [bv_neg h3, mt_neg h3]
                    go_wp2_with fail
                    go_quiet (fail)
                    go_wp2_with fail
                    go_roundg (b.length - (j + 1))
                    case rel => exact ⟨j + 1, _, hjt, rfl, by rw [E.out]; rw [bv_pos (by omega)], by rw [E.out]; rw [mt_pos (by omega)], rfl, CX.out.below (below_drewN' (Below.refl _ _) _), below_drewN' ibel _⟩
                    case measure => omega
                  · rw [bv_pos h3, mt_pos h3]
                    by_cases h4 : ar b j < mF a b i
                    · have E := Lib.hid (show mG a b i (j + 1) = ar b j from E0.out.trans (if_pos (.inr h4)))
                      go_wp2_with fail
                      go_quiet (fail)
                      go_wp2_with fail
                      go_roundg (b.length - (j + 1))
                      case rel => exact ⟨j + 1, _, hjt, rfl, by rw [E.out]; rw [bv_pos (by omega)], by rw [E.out]; rw [mt_pos (by omega)], rfl, CX.out.below (below_drewN' (Below.refl _ _) _), below_drewN' ibel _⟩
                      case measure => omega
                    · have E := Lib.hid (show mG a b i (j + 1) = mF a b i from E0.out.trans (if_neg (by omega)))
                      go_wp2_with fail
                      go_quiet (fail)
                      go_wp2_with fail
                      go_roundg (b.length - (j + 1))
                      case rel => exact ⟨j + 1, _, hjt, rfl, by rw [E.out]; rw [bv_pos (by omega)], by rw [E.out]; rw [mt_pos (by omega)], rfl, CX.out.below (below_drewN' (Below.refl _ _) _), below_drewN' ibel _⟩
                      case measure => omega
                · have E := Lib.hid (show mG a b i (j + 1) = mF a b i from HU.out.trans (if_neg (by omega)))
                  go_wp2_with fail
                  go_quiet (fail)
                  go_wp2_with fail
                  go_roundg (b.length - (j + 1))
                  case rel => exact ⟨j + 1, _, hjt, rfl, by rw [E.out], by rw [E.out], rfl, CX.out.below (below_drewN' (Below.refl _ _) _), below_drewN' ibel _⟩
                  case measure => omega
            · have E := Lib.hid (mG_ne ht)
              have ht' : (tw a i == tw b j) = false := beq_eq_false_iff_ne.2 ht
              go_wp2_with fail
              go_quiet (fail)
              go_wp2_with fail
              go_roundg (b.length - (j + 1))
              case rel => exact ⟨j + 1, _, hjt, rfl, by rw [E.out], by rw [E.out], rfl, CX.out.below (below_drewN' (Below.refl _ _) _), below_drewN' ibel _⟩
              case measure => omega
          · have HT := Lib.hid (show max (ar a i) (ar b j) = ar a i by omega)
            go_wp2_with fail
            go_quiet (fail)
            by_cases ht : tw a i = tw b j
            · obtain ⟨g1, g2⟩ := mG_eq HVB.out hjt ht
              rw [g1]
              have HU := Lib.hid (g2.trans (updK_T (B := mF a b i) HT.out))
              clear g1 g2
              have ht' : (tw a i == tw b j) = true := beq_iff_eq.2 ht
              by_cases hl : lv b j < lv a i
              · by_cases h1 : ar a i ≤ lv b j
                · have E0 := Lib.hid (show mG a b i (j + 1) = if mF a b i < 0 ∨ ar a i < mF a b i then ar a i else mF a b i from HU.out.trans (ite_congr (propext ⟨fun g => g.2.2, fun g => ⟨by omega, h1, g⟩⟩) (fun _ => rfl) (fun _ => rfl)))
                  by_cases h3 : mF a b i < 0
                  · have E := Lib.hid (show mG a b i (j + 1) = ar a i from E0.out.trans (if_pos (.inl h3)))
                    rw [bv_neg h3, mt_neg h3]
                    go_wp2_with fail
                    go_quiet (fail)
                    go_wp2_with fail
                    go_roundg (b.length - (j + 1))
                    case rel => exact ⟨j + 1, _, hjt, rfl, by rw [E.out]; rw [bv_pos (by omega)], by rw [E.out]; rw [mt_pos (by omega)], rfl, CX.out.below (below_drewN' (Below.refl _ _) _), below_drewN' ibel _⟩
                    case measure => omega
                  · rw [bv_pos h3, mt_pos h3]
                    by_cases h4 : ar a i < mF a b i
                    · have E := Lib.hid (show mG a b i (j + 1) = ar a i from E0.out.trans (if_pos (.inr h4)))
                      go_wp2_with fail
                      go_quiet (fail)
                      go_wp2_with fail
                      go_roundg (b.length - (j + 1))
                      case rel => exact ⟨j + 1, _, hjt, rfl, by rw [E.out]; rw [bv_pos (by omega)], by rw [E.out]; rw [mt_pos (by omega)], rfl, CX.out.below (below_drewN' (Below.refl _ _) _), below_drewN' ibel _⟩
                      case measure => omega
                    · have E := Lib.hid (show mG a b i (j + 1) = mF a b i from E0.out.trans (if_neg (by omega)))
                      go_wp2_with fail
                      go_quiet (fail)
                      go_wp2_with fail
                      go_roundg (b.length - (j + 1))
                      case rel => exact ⟨j + 1, _, hjt, rfl, by rw [E.out]; rw [bv_pos (by omega)], by rw [E.out]; rw [mt_pos (by omega)], rfl, CX.out.below (below_drewN' (Below.refl _ _) _), below_drewN' ibel _⟩
                      case measure => omega
                · have E := Lib.hid (show mG a b i (j + 1) = mF a b i from HU.out.trans (if_neg (by omega)))
                  go_wp2_with fail
                  go_quiet (fail)
                  go_wp2_with fail
                  go_roundg (b.length - (j + 1))
                  case rel => exact ⟨j + 1, _, hjt, rfl, by rw [E.out], by rw [E.out], rfl, CX.out.below (below_drewN' (Below.refl _ _) _), below_drewN' ibel _⟩
                  case measure => omega
              · by_cases h1 : ar a i ≤ lv a i
                · have E0 := Lib.hid (show mG a b i (j + 1) = if mF a b i < 0 ∨ ar a i < mF a b i then ar a i else mF a b i from HU.out.trans (ite_congr (propext ⟨fun g => g.2.2, fun g => ⟨h1, by omega, g⟩⟩) (fun _ => rfl) (fun _ => rfl)))
                  by_cases h3 : mF a b i < 0
                  · have E := Lib.hid (show mG a b i (j + 1) = ar a i from E0.out.trans (if_pos (.inl h3)))
                    rw [bv_neg h3, mt_neg h3]
                    go_wp2_with fail
                    go_quiet (fail)
                    go_wp2_with fail
                    go_roundg (b.length - (j + 1))
                    case rel => exact ⟨j + 1, _, hjt, rfl, by rw [E.out]; rw [bv_pos (by omega)], by rw [E.out]; rw [mt_pos (by omega)], rfl, CX.out.below (below_drewN' (Below.refl _ _) _), below_drewN' ibel _⟩
                    case measure => omega
                  · rw [bv_pos h3, mt_pos h3]
                    by_cases h4 : ar a i < mF a b i
                    · have E := Lib.hid (show mG a b i (j + 1) = ar a i from E0.out.trans (if_pos (.inr h4)))
                      go_wp2_with fail
                      go_quiet (fail)
                      go_wp2_with fail
                      go_roundg (b.length - (j + 1))
                      case rel => exact ⟨j + 1, _, hjt, rfl, by rw [E.out]; rw [bv_pos (by omega)], by rw [E.out]; rw [mt_pos (by omega)], rfl, CX.out.below (below_drewN' (Below.refl _ _) _), below_drewN' ibel _⟩
                      case measure => omega
                    · have E := Lib.hid (show mG a b i (j + 1) = mF a b i from E0.out.trans (if_neg (by omega)))
                      go_wp2_with fail
                      go_quiet (fail)
                      go_wp2_with fail
                      go_roundg (b.length - (j + 1))
                      case rel => exact ⟨j + 1, _, hjt, rfl, by rw [E.out]; rw [bv_pos (by omega)], by rw [E.out]; rw [mt_pos (by omega)], rfl, CX.out.below (below_drewN' (Below.refl _ _) _), below_drewN' ibel _⟩
                      case measure => omega
                · exfalso; omega
            · have E := Lib.hid (mG_ne ht)
              have ht' : (tw a i == tw b j) = false := beq_eq_false_iff_ne.2 ht
              go_wp2_with fail
              go_quiet (fail)
              go_wp2_with fail
              go_roundg (b.length - (j + 1))
              case rel => exact ⟨j + 1, _, hjt, rfl, by rw [E.out], by rw [E.out], rfl, CX.out.below (below_drewN' (Below.refl _ _) _), below_drewN' ibel _⟩
              case measure => omega
        · obtain rfl : j = b.length := by omega
          obtain rfl := hcb.last (Nat.le_refl _)
          rw [mG_last]
          have dn := (ibel.cell (p := ⟨p, 3, none⟩) hp).trans c3
          go_wp2_with fail
          go_roundg (a.length - (i + 1))
          case rel => exact ⟨i + 1, _, hlt, rfl, rfl, rfl, rfl, CN.out.below ibel, CB.out.below ibel, hbel.trans (ibel.mono hbel.size)⟩
          case measure => omega
    · obtain rfl : i = a.length := by omega
      obtain rfl := hca.last (Nat.le_refl _)
      go_wp2_with fail
      go_ret2
      exact ⟨rfl, hbel⟩
end Go.Proofs.Ytdmbgnbegnlcaaa
