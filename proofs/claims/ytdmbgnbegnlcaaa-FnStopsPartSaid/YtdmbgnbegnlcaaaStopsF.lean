import Derived.Test.YtdmbgnbegnlcaaaStopsE
import Derived.Deep.RegionHeld3
namespace Go.Proofs.Ytdmbgnbegnlcaaa
open Go.RowKit

theorem Cells.drew {w : World} {A : Option Addr} {zs : List Int} (h : Cells w A zs) : Cells w.drew A zs := Cells.below (w := w) (w' := w.drew) h ⟨rfl, rfl, rfl, Nat.le_refl _, fun _ _ => rfl⟩

theorem ret3 {a a' : Int} {b b' c c' : Bool} (h1 : a = a') (h2 : b = b') (h3 : c = c') : Ending.returned (.tuple #[.int .i64 a, .bool b, .bool c]) = .returned (.tuple #[.int .i64 a', .bool b', .bool c']) := by rw [h1, h2, h3]

set_option maxRecDepth 100000 in
set_option maxHeartbeats 1000000 in
theorem sWhere_bad (n t : Int) (A : Option Addr) (c : Nat) (xs : List St) (w : World) (h : Cells w A (fl xs)) (hl : xs.length ≤ 1048576) (hv : ¬ Valid n xs) :
    Calls Try.prog 38 #[.int .i64 n, .slice A xs.length c, .int .i64 t] w fun e w' => e = .returned (.tuple #[.int .i64 0, .bool false, .bool false]) ∧ Below w.heap.size w w' := by
  have HD := Lib.hid h.drew
  have HV := Lib.hid hv
  have BD := Lib.hid (show Below w.heap.size w w.drew from (Below.refl _ _).drew)
  clear h hv
  go_enter Try.func38, Try.ntmps38
  go_wp2_with fail
  refine wp_region_any (by kernel_rfl) ?_
  try (change wpAny _ _ _ _ _ _ _ (World.drew _))
  refine wpAny_take (i := 0) (v := ?_) rfl (by kernel_rfl) (by kernel_rfl) (by kernel_rfl) (fun _ _ _ h => h) (Or.inl ⟨by kernel_rfl, ?_⟩) ?_
  rotate_left
  · intro w; go_simp; first | done | (with_reducible rfl)
  refine wpAny_take (i := 1) (v := ?_) rfl (by kernel_rfl) (by kernel_rfl) (by kernel_rfl) (fun _ _ _ h => h) (Or.inl ⟨by kernel_rfl, ?_⟩) ?_
  rotate_left
  · intro w; go_simp; first | done | (with_reducible rfl)
  refine wpAny_ready (rs := [2]) (by kernel_rfl) (by simp) ?_
  refine AllReady.cons rfl (fun K hK => ?_) AllReady.nil
  go_simp
  refine (sValid_no HD.out hl HV.out).mono ?_
  rintro e w1 ⟨rfl, b1⟩
  have B1 := Lib.hid (BD.out.trans (b1.mono BD.out.size))
  clear b1
  refine hK _ _ ?_
  clear hK K
  refine wpAny_take (i := 3) (v := ?_) rfl (by kernel_rfl) (by kernel_rfl) (by kernel_rfl) (fun _ _ _ h => h) (Or.inl ⟨by kernel_rfl, ?_⟩) ?_
  rotate_left
  · intro w; go_simp; first | done | (with_reducible rfl)
  refine wpAny_take (i := 4) (v := ?_) rfl (by kernel_rfl) (by kernel_rfl) (by kernel_rfl) (fun _ _ _ h => h) (Or.inl ⟨by kernel_rfl, ?_⟩) ?_
  rotate_left
  · intro w; go_simp; first | done | (with_reducible rfl)
  refine wpAny_take (i := 5) (v := undef) rfl (by kernel_rfl) (by kernel_rfl) (by kernel_rfl) (fun _ _ _ h => h) (Or.inr ⟨by kernel_rfl, rfl⟩) ?_
  refine wpAny_take (i := 6) (v := undef) rfl (by kernel_rfl) (by kernel_rfl) (by kernel_rfl) (fun _ _ _ h => h) (Or.inr ⟨by kernel_rfl, rfl⟩) ?_
  refine wpAny_take (i := 7) (v := undef) rfl (by kernel_rfl) (by kernel_rfl) (by kernel_rfl) (fun _ _ _ h => h) (Or.inr ⟨by kernel_rfl, rfl⟩) ?_
  refine wpAny_take (i := 8) (v := undef) rfl (by kernel_rfl) (by kernel_rfl) (by kernel_rfl) (fun _ _ _ h => h) (Or.inr ⟨by kernel_rfl, rfl⟩) ?_
  refine wpAny_take (i := 9) (v := undef) rfl (by kernel_rfl) (by kernel_rfl) (by kernel_rfl) (fun _ _ _ h => h) (Or.inr ⟨by kernel_rfl, rfl⟩) ?_
  refine wpAny_take (i := 10) (v := undef) rfl (by kernel_rfl) (by kernel_rfl) (by kernel_rfl) (fun _ _ _ h => h) (Or.inr ⟨by kernel_rfl, rfl⟩) ?_
  refine wpAny_take (i := 11) (v := undef) rfl (by kernel_rfl) (by kernel_rfl) (by kernel_rfl) (fun _ _ _ h => h) (Or.inr ⟨by kernel_rfl, rfl⟩) ?_
  refine wpAny_take (i := 12) (v := undef) rfl (by kernel_rfl) (by kernel_rfl) (by kernel_rfl) (fun _ _ _ h => h) (Or.inr ⟨by kernel_rfl, rfl⟩) ?_
  refine wpAny_take (i := 13) (v := undef) rfl (by kernel_rfl) (by kernel_rfl) (by kernel_rfl) (fun _ _ _ h => h) (Or.inr ⟨by kernel_rfl, rfl⟩) ?_
  refine wpAny_take (i := 14) (v := undef) rfl (by kernel_rfl) (by kernel_rfl) (by kernel_rfl) (fun _ _ _ h => h) (Or.inr ⟨by kernel_rfl, rfl⟩) ?_
  refine wpAny_take (i := 15) (v := undef) rfl (by kernel_rfl) (by kernel_rfl) (by kernel_rfl) (fun _ _ _ h => h) (Or.inr ⟨by kernel_rfl, rfl⟩) ?_
  refine wpAny_take (i := 16) (v := undef) rfl (by kernel_rfl) (by kernel_rfl) (by kernel_rfl) (fun _ _ _ h => h) (Or.inr ⟨by kernel_rfl, rfl⟩) ?_
  refine wpAny_take (i := 17) (v := undef) rfl (by kernel_rfl) (by kernel_rfl) (by kernel_rfl) (fun _ _ _ h => h) (Or.inr ⟨by kernel_rfl, rfl⟩) ?_
  refine wpAny_take (i := 18) (v := undef) rfl (by kernel_rfl) (by kernel_rfl) (by kernel_rfl) (fun _ _ _ h => h) (Or.inr ⟨by kernel_rfl, rfl⟩) ?_
  refine wpAny_take (i := 19) (v := ?_) rfl (by kernel_rfl) (by kernel_rfl) (by kernel_rfl) (fun _ _ _ h => h) (Or.inl ⟨by kernel_rfl, ?_⟩) ?_
  rotate_left
  · intro w; go_simp; first | done | (with_reducible rfl)
  refine wpAny_done (by kernel_rfl) ?_ _
  go_simp
  go_wp2_with fail
  go_ret3
  exact ⟨rfl, B1.out⟩

set_option maxRecDepth 100000 in
set_option maxHeartbeats 1000000 in
theorem sWhere_out (n t : Int) (A : Option Addr) (c : Nat) (xs : List St) (w : World) (h : Cells w A (fl xs)) (hl : xs.length ≤ 1048576) (hv : Valid n xs) (ho : t < ar xs 0 ∨ lv xs (xs.length - 1) < t) :
    Calls Try.prog 38 #[.int .i64 n, .slice A xs.length c, .int .i64 t] w fun e w' => e = .returned (.tuple #[.int .i64 0, .bool false, .bool false]) ∧ Below w.heap.size w w' := by
  have l2 := hv.2.2.1
  have HD := Lib.hid h.drew
  have HV := Lib.hid hv
  have HO := Lib.hid ho
  have BD := Lib.hid (show Below w.heap.size w w.drew from (Below.refl _ _).drew)
  obtain ⟨b, o, rfl, hb, -, c1, -⟩ := h.drew.at3 (i := 0) (by omega)
  obtain ⟨b', o', hA, -, -, -, c2⟩ := h.drew.at3 (i := xs.length - 1) (by omega)
  injection hA with hA
  injection hA with hA1 hA2
  subst hA1 hA2
  simp only [Nat.zero_mul, Nat.add_zero] at c1
  have HC1 := Lib.hid c1
  have HC2 := Lib.hid c2
  clear h hv c1 c2 ho
  have i0 : (0 : Int) < (xs.length : Int) := by omega
  have i0n : 0 < xs.length := by omega
  have e1 : IntKind.i64.wrap ((xs.length : Int) - 1) = (xs.length : Int) - 1 := IntWalk.i64_in _ (by omega)
  have e2 : 0 ≤ (xs.length : Int) - 1 := by omega
  have e2' : (1 : Int) ≤ (xs.length : Int) := by omega
  have e3 : ((xs.length : Int) - 1).toNat = xs.length - 1 := by omega
  have e4 : (xs.length : Int) - 1 < (xs.length : Int) := by omega
  go_enter Try.func38, Try.ntmps38
  go_wp2_with fail
  go_region_held3 (fun W => W.cell? ⟨b, o + 1, none⟩ = some (.int .i64 (ar xs 0)) ∧ W.cell? ⟨b, o + (xs.length - 1) * 3 + 2, none⟩ = some (.int .i64 (lv xs (xs.length - 1)))) (first | exact ⟨HC1.out, HC2.out⟩ | exact ⟨d1, d2⟩) (first
    | (go_at_call 27; refine (sValid_yes HD.out hl HV.out).mono ?_; rintro e w1 ⟨rfl, b1⟩; have B1 := Lib.hid (BD.out.trans (b1.mono BD.out.size)); have d1 := (b1.cell (p := ⟨b, o + 1, none⟩) hb).trans HC1.out; have d2 := (b1.cell (p := ⟨b, o + (xs.length - 1) * 3 + 2, none⟩) hb).trans HC2.out; clear b1)
    | (go_at_call 65; refine (inF _ _ _ _ HO.out).mono ?_; rintro e w2 ⟨rfl, rfl⟩))
  all_goals
    clear e1 e3
    go_wp2_with fail
    go_ret3
    exact ⟨rfl, B1.out⟩

set_option maxRecDepth 100000 in
set_option maxHeartbeats 1000000 in
theorem sWhere_yes (n t : Int) (A : Option Addr) (c : Nat) (xs : List St) (w : World) (h : Cells w A (fl xs)) (hl : xs.length ≤ 1048576) (hv : Valid n xs) (o1 : ar xs 0 ≤ t) (o2 : t ≤ lv xs (xs.length - 1)) :
    Calls Try.prog 38 #[.int .i64 n, .slice A xs.length c, .int .i64 t] w fun e w' => e = .returned (.tuple #[.int .i64 (whTo xs t xs.length), .bool (decide (t ≤ lv xs (whTo xs t xs.length))), .bool true]) ∧ Below w.heap.size w w' := by
  have l2 := hv.2.2.1
  have HD := Lib.hid h.drew
  have HV := Lib.hid hv
  have BD := Lib.hid (show Below w.heap.size w w.drew from (Below.refl _ _).drew)
  obtain ⟨b, o, rfl, hb, -, c1, -⟩ := h.drew.at3 (i := 0) (by omega)
  obtain ⟨b', o', hA, -, -, -, c2⟩ := h.drew.at3 (i := xs.length - 1) (by omega)
  injection hA with hA
  injection hA with hA1 hA2
  subst hA1 hA2
  simp only [Nat.zero_mul, Nat.add_zero] at c1
  have HC1 := Lib.hid c1
  have HC2 := Lib.hid c2
  clear hv c1 c2
  have i0 : (0 : Int) < (xs.length : Int) := by omega
  have i0n : 0 < xs.length := by omega
  have e1 : IntKind.i64.wrap ((xs.length : Int) - 1) = (xs.length : Int) - 1 := IntWalk.i64_in _ (by omega)
  have e2 : 0 ≤ (xs.length : Int) - 1 := by omega
  have e2' : (1 : Int) ≤ (xs.length : Int) := by omega
  have e3 : ((xs.length : Int) - 1).toNat = xs.length - 1 := by omega
  have e4 : (xs.length : Int) - 1 < (xs.length : Int) := by omega
  go_enter Try.func38, Try.ntmps38
  go_wp2_with fail
  go_region_held3 (fun W => W.cell? ⟨b, o + 1, none⟩ = some (.int .i64 (ar xs 0)) ∧ W.cell? ⟨b, o + (xs.length - 1) * 3 + 2, none⟩ = some (.int .i64 (lv xs (xs.length - 1)))) (first | exact ⟨HC1.out, HC2.out⟩ | exact ⟨d1, d2⟩) (first
    | (go_at_call 27; refine (sValid_yes HD.out hl HV.out).mono ?_; rintro e w1 ⟨rfl, b1⟩; have B1 := Lib.hid (BD.out.trans (b1.mono BD.out.size)); have d1 := (b1.cell (p := ⟨b, o + 1, none⟩) hb).trans HC1.out; have d2 := (b1.cell (p := ⟨b, o + (xs.length - 1) * 3 + 2, none⟩) hb).trans HC2.out; clear b1)
    | (go_at_call 65; refine (inT _ _ _ _ o1 o2).mono ?_; rintro e w2 ⟨rfl, rfl⟩))
  all_goals
    clear e1 e3 d1 d2
    go_wp2_with fail
    go_loop [9, 10] (fun q i => ∃ k : Nat, k ≤ xs.length ∧ q = .int .i64 (whTo xs t k) ∧ i = .int .i64 k) (fun _ i => xs.length - (intOf i).toNat)
    case atStart => exact ⟨0, Nat.zero_le _, rfl, rfl⟩
    case round =>
      obtain ⟨k, hk, rfl, rfl⟩ := hrel
      have h1 := h.below B1.out
      by_cases hlt : k < xs.length
      · obtain ⟨b', o', hA, hb', -, c1, -⟩ := h1.at3 hlt
        injection hA with hA
        injection hA with hA1 hA2
        subst hA1 hA2
        clear h1
        by_cases hq : ar xs k ≤ t
        · have E := Lib.hid (show whTo xs t (k + 1) = k by rw [whTo, if_pos hq])
          go_wp2_with fail
          exact ⟨⟨k + 1, by omega, by rw [E.out], by go_num⟩, by simp [intOf]; omega⟩
        · have E := Lib.hid (show whTo xs t (k + 1) = whTo xs t k by rw [whTo, if_neg hq])
          go_wp2_with fail
          exact ⟨⟨k + 1, by omega, by rw [E.out], by go_num⟩, by simp [intOf]; omega⟩
      · obtain rfl : k = xs.length := by omega
        have hw := whTo_lt xs t xs.length (by omega)
        obtain ⟨b', o', hA, hb', -, -, c2⟩ := h1.at3 hw
        injection hA with hA
        injection hA with hA1 hA2
        subst hA1 hA2
        clear h1
        obtain ⟨q, hq⟩ : ∃ q, whTo xs t xs.length = q := ⟨_, rfl⟩
        rw [hq] at hw c2 ⊢
        have HQ := Lib.hid hq
        clear hq
        have f1 : (q : Int) < (xs.length : Int) := by omega
        go_wp2_with fail
        go_quiet (fail)
        go_wp2_with fail
        go_ret3
        exact ⟨by rw [HQ.out]; rfl, below_drewN' B1.out _⟩

theorem iWhere_bad (n t : Int) (A : Option Addr) (c : Nat) (xs : List St) (w : World) (h : Cells w A (fl xs)) (hl : xs.length ≤ 1048576) (hv : ¬ Valid n xs) :
    Calls Try.prog 39 #[.int .i64 n, .slice A xs.length c, .int .i64 t] w fun e w' => e = .returned (.tuple #[.int .i64 0, .bool false, .bool false]) ∧ Below w.heap.size w w' := by
  go_enter Try.func39, Try.ntmps39
  go_wp2_with fail
  refine (link_no h hl hv).mono ?_
  rintro e w1 ⟨rfl, b1⟩
  clear h hv
  go_wp2_with fail
  go_ret3
  exact ⟨rfl, b1⟩

set_option maxRecDepth 100000 in
set_option maxHeartbeats 1000000 in
theorem iWhere_out (n t : Int) (A : Option Addr) (c : Nat) (xs : List St) (w : World) (h : Cells w A (fl xs)) (hl : xs.length ≤ 1048576) (hv : Valid n xs) (ho : t < ar xs 0 ∨ lv xs (xs.length - 1) < t) :
    Calls Try.prog 39 #[.int .i64 n, .slice A xs.length c, .int .i64 t] w fun e w' => e = .returned (.tuple #[.int .i64 0, .bool false, .bool false]) ∧ Below w.heap.size w w' := by
  have l2 := hv.2.2.1
  have fa := fld2
  go_enter Try.func39, Try.ntmps39
  go_wp2_with fail
  refine (link_yes h hl hv).mono ?_
  rintro e w1 ⟨b, rfl, hch, b1⟩
  clear h hv
  obtain ⟨b', nx, hA, -, d1, -, -, -, hb⟩ := hch.whole.head (by omega)
  injection hA with hA
  injection hA with hA1 hA2
  subst hA1
  have HC := Lib.hid hch
  clear hch
  by_cases h1 : t < ar xs 0
  · clear ho
    go_wp2_with fail
    go_ret3
    exact ⟨rfl, b1⟩
  · have h2 : lv xs (xs.length - 1) < t := by omega
    have h1' : decide (t < ar xs 0) = false := by simp; omega
    clear ho
    go_wp2_with fail
    refine (last_any xs _ _ HC.out (by omega)).mono ?_
    rintro e w2 ⟨rfl, b2⟩
    have B2 := b1.trans (b2.mono b1.size)
    clear b1 b2
    go_wp2_with fail
    go_ret3
    exact ⟨rfl, B2⟩

set_option maxRecDepth 100000 in
set_option maxHeartbeats 1000000 in
theorem iWhere_yes (n t : Int) (A : Option Addr) (c : Nat) (xs : List St) (w : World) (h : Cells w A (fl xs)) (hl : xs.length ≤ 1048576) (hv : Valid n xs) (o1 : ar xs 0 ≤ t) (o2 : t ≤ lv xs (xs.length - 1)) :
    Calls Try.prog 39 #[.int .i64 n, .slice A xs.length c, .int .i64 t] w fun e w' => e = .returned (.tuple #[.int .i64 (whTo xs t xs.length), .bool (decide (t ≤ lv xs (whTo xs t xs.length))), .bool true]) ∧ Below w.heap.size w w' := by
  have l2 := hv.2.2.1
  have fa := fld2
  go_enter Try.func39, Try.ntmps39
  go_wp2_with fail
  refine (link_yes h hl hv).mono ?_
  rintro e w1 ⟨b, rfl, hch, b1⟩
  have HV := Lib.hid hv
  clear h hv
  obtain ⟨b', nx, hA, -, d1, -, -, -, hb⟩ := hch.whole.head (by omega)
  injection hA with hA
  injection hA with hA1 hA2
  subst hA1
  have HC := Lib.hid hch
  clear hch
  have h1' : decide (t < ar xs 0) = false := by simp; omega
  have h2' : decide (lv xs (xs.length - 1) < t) = false := by simp; omega
  go_wp2_with fail
  refine (last_any xs _ _ HC.out (by omega)).mono ?_
  rintro e w2 ⟨rfl, b2⟩
  have B2 := b1.trans (b2.mono b1.size)
  have HC2 := Lib.hid (HC.out.below b2)
  clear b1 b2 HC d1 hb
  go_wp2_with fail
  clear h1' h2'
  go_loopg [10, 11] xs.length (fun gk p i wr => ∃ k a, k < xs.length ∧ gk = xs.length - k ∧ p = .pointer a ∧ i = .int .i64 (k : Int) ∧ ar xs k ≤ t ∧ Chain w2 (xs.drop k) a ∧ wr = w2)
  case atStart => exact ⟨0, _, by omega, by omega, rfl, rfl, o1, HC2.out.whole, rfl⟩
  case round =>
    obtain ⟨k, a, hk, rfl, rfl, rfl, hat, hch, rfl⟩ := hrel
    obtain ⟨q, nx2, rfl, -, -, d2, d3, hn2, hq⟩ := hch.head hk
    clear hch
    by_cases hlt : k + 1 < xs.length
    · obtain ⟨q', nx3, rfl, -, g1, -, -, -, hq'⟩ := hn2.head hlt
      have HN := Lib.hid hn2
      clear hn2
      by_cases hn : ar xs (k + 1) ≤ t
      · go_wp2_with fail
        go_roundg (xs.length - (k + 1))
        case rel => exact ⟨k + 1, _, by omega, by omega, rfl, by go_num, hn, HN.out, rfl⟩
        case measure => omega
      · have E := Lib.hid (whTo_eq (xs := xs) (time := t) hat xs.length hk (fun j hj hjl => by
          rcases Nat.lt_or_ge (k + 1) j with h3 | h3
          · have := ar_up HV.out h3 hjl; omega
          · obtain rfl : j = k + 1 := by omega
            omega))
        have hn' : decide (ar xs (k + 1) ≤ t) = false := by simp; omega
        go_wp2_with fail
        go_quiet (fail)
        go_wp2_with fail
        go_ret3
        exact ⟨by rw [E.out]; rfl, below_drewN' B2 _⟩
    · obtain rfl := hn2.last (by omega)
      have E := Lib.hid (whTo_eq (xs := xs) (time := t) hat xs.length hk (fun j hj hjl => by omega))
      go_wp2_with fail
      go_quiet (fail)
      go_wp2_with fail
      go_ret3
      exact ⟨by rw [E.out]; rfl, below_drewN' B2 _⟩
end Go.Proofs.Ytdmbgnbegnlcaaa
