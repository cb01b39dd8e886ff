import Derived.Test.YtdmbgnbegnlcaaaStopsH
namespace Go.Proofs.Ytdmbgnbegnlcaaa
open Go.RowKit

/-- The stops from i to j, both included. -/
def sub (xs : List St) (i j : Nat) : List St := (xs.take (j + 1)).drop i
theorem sub_len (xs : List St) (i j : Nat) (hj : j < xs.length) : (sub xs i j).length = j + 1 - i := by
  unfold sub; rw [List.length_drop, List.length_take]; omega
theorem sub_getD (xs : List St) (i j q : Nat) (hq : i + q ≤ j) : (sub xs i j).getD q stz = xs.getD (i + q) stz := by
  unfold sub
  rw [List.getD_eq_getElem?_getD, List.getElem?_drop, List.getElem?_take, if_pos (by omega), List.getD_eq_getElem?_getD]
theorem sub_at (xs : List St) (i j q : Nat) (hq : i + q ≤ j) : tw (sub xs i j) q = tw xs (i + q) ∧ ar (sub xs i j) q = ar xs (i + q) ∧ lv (sub xs i j) q = lv xs (i + q) := by
  unfold tw ar lv; rw [sub_getD xs i j q hq]; exact ⟨rfl, rfl, rfl⟩

theorem Valid.sub {n : Int} {xs : List St} (h : Valid n xs) {i j : Nat} (hij : i < j) (hj : j < xs.length) : Valid n (sub xs i j) := by
  have hl := sub_len xs i j hj
  refine ⟨h.1, h.2.1, by omega, by have := h.2.2.2.1; omega, fun q hq => ?_⟩
  obtain ⟨e1, e2, e3⟩ := sub_at xs i j q (by omega)
  obtain ⟨a1, a2, a3, a4, a5, a6⟩ := h.2.2.2.2 (i + q) (by omega)
  refine ⟨by rw [e1]; exact a1, by rw [e1]; exact a2, ?_, by rw [e2, e3]; exact a4, by rw [e3]; exact a5, fun k hk => ?_⟩
  · rw [e2]
    cases q with
    | zero => simp only [pv]; have := h.times (i := i + 0) (by omega); omega
    | succ q =>
      obtain ⟨_, _, g3⟩ := sub_at xs i j q (by omega)
      simp only [pv]
      rw [g3]
      exact a3
  · obtain ⟨g1, _, _⟩ := sub_at xs i j k (by omega)
    rw [g1, e1]
    exact a6 (i + k) (by omega)

theorem fl_drop (xs : List St) : ∀ k, fl (xs.drop k) = (fl xs).drop (k * 3) := by
  induction xs with
  | nil => intro k; simp [fl]
  | cons s xs ih =>
    intro k
    cases k with
    | zero => rfl
    | succ k => rw [List.drop_succ_cons, ih k, fl_cons, show (k + 1) * 3 = k * 3 + 3 by omega]; rfl
theorem fl_takeN (xs : List St) : ∀ k, fl (xs.take k) = (fl xs).take (k * 3) := by
  induction xs with
  | nil => intro k; simp [fl]
  | cons s xs ih =>
    intro k
    cases k with
    | zero => rfl
    | succ k => rw [List.take_succ_cons, fl_cons, ih k, fl_cons, show (k + 1) * 3 = k * 3 + 3 by omega]; rfl

/-- The cells of a part. -/
theorem Cells.sub {w : World} {b o : Nat} {xs : List St} (h : Cells w (some ⟨b, o, none⟩) (fl xs)) {i j : Nat} (hj : j < xs.length) : Cells w (some ⟨b, o + i * 3, none⟩) (fl (sub xs i j)) := by
  rcases h with h | ⟨b', o', hA, hb, hc⟩
  · have := congrArg List.length h; rw [fl_len] at this; simp at this; omega
  · injection hA with hA
    injection hA with hA1 hA2
    subst hA1 hA2
    refine .inr ⟨b, o + i * 3, rfl, hb, fun q hq => ?_⟩
    rw [fl_len, sub_len xs i j hj] at hq
    unfold Go.Proofs.Ytdmbgnbegnlcaaa.sub
    rw [fl_drop, fl_takeN]
    have : ((fl xs).take ((j + 1) * 3) |>.drop (i * 3)).getD q 0 = (fl xs).getD (i * 3 + q) 0 := by
      rw [List.getD_eq_getElem?_getD, List.getElem?_drop, List.getElem?_take, if_pos (by omega), List.getD_eq_getElem?_getD]
    rw [this, ← hc (i * 3 + q) (by rw [fl_len]; omega), Nat.add_assoc]

theorem Cells.adds {w : World} {ad : Addr} {zs : List Int} (h : Cells w (some ad) zs) : ∀ q u, (zs.map (Value.int .i64))[q]? = some u → w.cell? (ad.add q) = some u := by
  intro q u hu
  rcases h with h | ⟨b, o, hA, hb, hc⟩
  · rw [h] at hu; simp at hu
  · injection hA with hA
    subst hA
    have hq : q < zs.length := by
      rcases Nat.lt_or_ge q zs.length with h1 | h1
      · exact h1
      · rw [List.getElem?_eq_none (by simpa using h1)] at hu; cases hu
    rw [Go.WideShapes.add_plain, hc q hq, ← hu]
    simp [List.getElem?_eq_getElem hq]

theorem sPart_bad (n f t : Int) (A : Option Addr) (c : Nat) (xs : List St) (w : World) (h : Cells w A (fl xs)) (hl : xs.length ≤ 1048576) (hv : ¬ Valid n xs) :
    Calls Try.prog 45 #[.int .i64 n, .slice A xs.length c, .int .i64 f, .int .i64 t] w (PairPost [] false w) := by
  go_enter Try.func45, Try.ntmps45
  go_wp2_with fail
  refine (sValid_no h hl hv).mono ?_
  rintro e w1 ⟨rfl, b1⟩
  clear h hv
  go_wp2_with fail
  go_ret2
  exact ⟨_, _, rfl, Own.empty w1 _ b1.size, b1.alloc b1.size _⟩

set_option maxRecDepth 100000 in
theorem sPart_out (n f t : Int) (A : Option Addr) (c : Nat) (xs : List St) (w : World) (h : Cells w A (fl xs)) (hl : xs.length ≤ 1048576) (hv : Valid n xs) (ho : f < 0 ∨ (xs.length : Int) - 1 < f ∨ t < f + 1 ∨ (xs.length : Int) - 1 < t) :
    Calls Try.prog 45 #[.int .i64 n, .slice A xs.length c, .int .i64 f, .int .i64 t] w (PairPost [] false w) := by
  have l2 := hv.2.2.1
  by_cases h1 : 0 ≤ f ∧ f ≤ (xs.length : Int) - 1
  · obtain ⟨h1, h2⟩ := h1
    have h3 : t < f + 1 ∨ (xs.length : Int) - 1 < t := by omega
    have H3 := Lib.hid h3
    have HV := Lib.hid hv
    clear ho h3 hv
    go_enter Try.func45, Try.ntmps45
    go_wp2_with fail
    refine (sValid_yes h hl HV.out).mono ?_
    rintro e w1 ⟨rfl, b1⟩
    clear h
    go_wp2_with fail
    refine (inT _ _ _ _ h1 h2).mono ?_
    rintro e w2 ⟨rfl, rfl⟩
    go_wp2_with fail
    refine (inF _ _ _ _ H3.out).mono ?_
    rintro e w2 ⟨rfl, rfl⟩
    go_wp2_with fail
    go_ret2
    exact ⟨_, _, rfl, Own.empty w1 _ b1.size, b1.alloc b1.size _⟩
  · have h3 : f < 0 ∨ (xs.length : Int) - 1 < f := by omega
    have H3 := Lib.hid h3
    have HV := Lib.hid hv
    clear ho h3 hv h1
    go_enter Try.func45, Try.ntmps45
    go_wp2_with fail
    refine (sValid_yes h hl HV.out).mono ?_
    rintro e w1 ⟨rfl, b1⟩
    clear h
    go_wp2_with fail
    refine (inF _ _ _ _ H3.out).mono ?_
    rintro e w2 ⟨rfl, rfl⟩
    go_wp2_with fail
    go_ret2
    exact ⟨_, _, rfl, Own.empty w1 _ b1.size, b1.alloc b1.size _⟩

set_option maxRecDepth 100000 in
theorem sPart_yes (n : Int) (i j : Nat) (A : Option Addr) (c : Nat) (xs ys : List St) (w : World) (h : Cells w A (fl xs)) (hl : xs.length ≤ 1048576) (hc : xs.length ≤ c) (hc2 : c ≤ 9223372036854775807) (hv : Valid n xs) (hij : i < j) (hj : j < xs.length) (hy : ys = sub xs i j) :
    Calls Try.prog 45 #[.int .i64 n, .slice A xs.length c, .int .i64 i, .int .i64 j] w (PairPost ys true w) := by
  obtain ⟨i0, hi0, hz0, hz1, hz2⟩ := info_parts stop_info
  have HV := Lib.hid hv
  obtain ⟨b, o, rfl, hb, -, -, -⟩ := h.at3 (i := 0) (by omega)
  clear hv
  go_enter Try.func45, Try.ntmps45
  go_wp2_with fail
  refine (sValid_yes h hl HV.out).mono ?_
  rintro e w1 ⟨rfl, b1⟩
  have h1 := h.below b1
  clear h
  go_wp2_with fail
  refine (inT _ _ _ _ (by omega) (by omega)).mono ?_
  rintro e w2 ⟨rfl, rfl⟩
  go_wp2_with fail
  refine (inT _ _ _ _ (by omega) (by omega)).mono ?_
  rintro e w2 ⟨rfl, rfl⟩
  have hs := (h1.sub (i := i) hj).alloc (.cells #[] 43)
  rw [← hy] at hs
  have hlen : j + 1 - i = ys.length := by rw [hy, sub_len xs i j hj]
  have HL := Lib.hid hlen
  have HA := Lib.hid (hs.adds)
  have O1 : (w1.alloc (.cells #[] 43)).ownsRow w.heap.size 43 3 (.slice (some ⟨w1.heap.size, 0, none⟩) 0 0) 0 [] := Own.empty w1 w.heap.size b1.size
  clear hy hlen hs h1
  go_wp2_with (at_builtin; refine wpList_append_own _ rfl _ _ 25 rfl w.heap.size 43 i0 _ 3 24 Try.underlying25 hi0 hz0 hz1 hz2 rfl (by decide) _ _ _ rfl O1 ⟨b, o + i * 3, none⟩ (j + 1 - i) (c - i) ((fl ys).map (Value.int .i64)) rfl (by rw [List.length_map, fl_len, HL.out]) HA.out (ints_oneCell _ _) (by unfold maxLen; omega) (by omega) (by have := b1.size; simp; omega) ?_; intro v' w3 hown' hgrow _; rw [List.nil_append, Nat.zero_add, HL.out] at hown'; obtain ⟨A', c', hv'⟩ := own_form hown'; have bel3 := (b1.alloc b1.size _).grown hgrow (by have := b1.size; simp; omega) (fun q hq => (O1.lt q hq).1); have R := Lib.hid (And.intro hown' bel3); rw [hv'] at R; clear hown' hgrow bel3; rw [hv']; clear hv')
  go_ret2
  exact ⟨A', c', rfl, R.out.1, R.out.2⟩

theorem iPart_bad (n f t : Int) (A : Option Addr) (c : Nat) (xs : List St) (w : World) (h : Cells w A (fl xs)) (hl : xs.length ≤ 1048576) (hv : ¬ Valid n xs) :
    Calls Try.prog 46 #[.int .i64 n, .slice A xs.length c, .int .i64 f, .int .i64 t] w (PairPost [] false w) := by
  go_enter Try.func46, Try.ntmps46
  go_wp2_with fail
  refine (link_no h hl hv).mono ?_
  rintro e w1 ⟨rfl, b1⟩
  clear h hv
  go_wp2_with fail
  go_ret2
  exact ⟨_, _, rfl, Own.empty w1 _ b1.size, b1.alloc b1.size _⟩

set_option maxRecDepth 100000 in
theorem iPart_out (n f t : Int) (A : Option Addr) (c : Nat) (xs : List St) (w : World) (h : Cells w A (fl xs)) (hl : xs.length ≤ 1048576) (hv : Valid n xs) (ho : f < 0 ∨ (xs.length : Int) ≤ t ∨ t < f) :
    Calls Try.prog 46 #[.int .i64 n, .slice A xs.length c, .int .i64 f, .int .i64 t] w (PairPost [] false w) := by
  by_cases h1 : f < 0
  · clear ho
    go_enter Try.func46, Try.ntmps46
    go_wp2_with fail
    refine (link_yes h hl hv).mono ?_
    rintro e w1 ⟨b, rfl, hch, b1⟩
    clear h hv hch
    go_wp2_with fail
    go_ret2
    exact ⟨_, _, rfl, Own.empty w1 _ b1.size, b1.alloc b1.size _⟩
  · have e1 : decide (f < 0) = false := by simp; omega
    by_cases h2 : (xs.length : Int) ≤ t
    · clear ho
      go_enter Try.func46, Try.ntmps46
      go_wp2_with fail
      refine (link_yes h hl hv).mono ?_
      rintro e w1 ⟨b, rfl, hch, b1⟩
      clear h hv hch
      go_wp2_with fail
      go_ret2
      exact ⟨_, _, rfl, Own.empty w1 _ b1.size, b1.alloc b1.size _⟩
    · have e2 : decide ((xs.length : Int) ≤ t) = false := by simp; omega
      have h3 : t < f := by omega
      clear ho
      go_enter Try.func46, Try.ntmps46
      go_wp2_with fail
      refine (link_yes h hl hv).mono ?_
      rintro e w1 ⟨b, rfl, hch, b1⟩
      clear h hv hch
      go_wp2_with fail
      go_ret2
      exact ⟨_, _, rfl, Own.empty w1 _ b1.size, b1.alloc b1.size _⟩

set_option maxRecDepth 100000 in
theorem iPart_one (n : Int) (i : Nat) (A : Option Addr) (c : Nat) (xs : List St) (w : World) (h : Cells w A (fl xs)) (hl : xs.length ≤ 1048576) (hc : xs.length ≤ c) (hc2 : c ≤ 9223372036854775807) (hv : Valid n xs) (hj : i < xs.length) :
    Calls Try.prog 46 #[.int .i64 n, .slice A xs.length c, .int .i64 i, .int .i64 i] w (PairPost [] false w) := by
  obtain ⟨b, o, rfl, hb, -, -, -⟩ := h.at3 (i := 0) (by omega)
  have e1 : decide ((i : Int) < 0) = false := by simp
  have e2 : decide ((xs.length : Int) ≤ (i : Int)) = false := by simp; omega
  have e2' : decide (xs.length ≤ i) = false := by simp; omega
  go_enter Try.func46, Try.ntmps46
  go_wp2_with fail
  refine (link_yes h hl hv).mono ?_
  rintro e w1 ⟨q, rfl, hch, b1⟩
  have hs := (h.below b1).sub (i := i) hj
  obtain ⟨ys, hy⟩ : ∃ ys, ys = sub xs i i := ⟨_, rfl⟩
  rw [← hy] at hs
  have hlen : i + 1 - i = ys.length := by rw [hy, sub_len xs i i hj]
  have HL := Lib.hid hlen
  clear h hv hch hy hlen
  go_wp2_with fail
  rw [show (1 : Nat) = ys.length by have := HL.out; omega]
  refine (link_no (n := n) hs (by have := HL.out; omega) (fun hv => by have := hv.2.2.1; have := HL.out; omega)).mono ?_
  rintro e w2 ⟨rfl, b2⟩
  have B2 := Lib.hid (b1.trans (b2.mono b1.size))
  clear b1 b2 hs
  go_wp2_with fail
  refine (checked_no n [] none w2 rfl (by simp) (fun hv => by have := hv.2.2.1; simp at this)).mono ?_
  rintro e w3 ⟨A3, c3, rfl, own3, b3⟩
  have R := Lib.hid (And.intro (own3.base B2.out.size) (B2.out.trans (b3.mono B2.out.size)))
  clear own3 b3
  go_wp2_with fail
  go_ret2
  exact ⟨A3, c3, rfl, R.out.1, R.out.2⟩

set_option maxRecDepth 100000 in
theorem iPart_yes (n : Int) (i j : Nat) (A : Option Addr) (c : Nat) (xs ys : List St) (w : World) (h : Cells w A (fl xs)) (hl : xs.length ≤ 1048576) (hc : xs.length ≤ c) (hc2 : c ≤ 9223372036854775807) (hv : Valid n xs) (hij : i < j) (hj : j < xs.length) (hy : ys = sub xs i j) :
    Calls Try.prog 46 #[.int .i64 n, .slice A xs.length c, .int .i64 i, .int .i64 j] w (PairPost ys true w) := by
  obtain ⟨b, o, rfl, hb, -, -, -⟩ := h.at3 (i := 0) (by omega)
  have e1 : decide ((i : Int) < 0) = false := by simp
  have e2 : decide ((xs.length : Int) ≤ (j : Int)) = false := by simp; omega
  have e2' : decide (xs.length ≤ j) = false := by simp; omega
  have e3 : decide (j < i) = false := by simp; omega
  have HV2 := Lib.hid (show Valid n ys by rw [hy]; exact hv.sub hij hj)
  go_enter Try.func46, Try.ntmps46
  go_wp2_with fail
  refine (link_yes h hl hv).mono ?_
  rintro e w1 ⟨q, rfl, hch, b1⟩
  have hs := (h.below b1).sub (i := i) hj
  rw [← hy] at hs
  have hlen : j + 1 - i = ys.length := by rw [hy, sub_len xs i j hj]
  have HL := Lib.hid hlen
  clear h hv hch hy hlen
  go_wp2_with fail
  rw [HL.out]
  refine (link_yes (n := n) hs (by have := HL.out; omega) HV2.out).mono ?_
  rintro e w2 ⟨q2, rfl, hch2, b2⟩
  have B2 := Lib.hid (b1.trans (b2.mono b1.size))
  have HC2 := Lib.hid hch2
  clear b1 b2 hs hch2
  go_wp2_with fail
  refine (checked_yes n ys _ w2 HC2.out (by have := HL.out; omega) HV2.out).mono ?_
  rintro e w3 ⟨A3, c3, rfl, own3, b3⟩
  have R := Lib.hid (And.intro (own3.base B2.out.size) (B2.out.trans (b3.mono B2.out.size)))
  clear own3 b3
  go_wp2_with fail
  go_ret2
  exact ⟨A3, c3, rfl, R.out.1, R.out.2⟩
end Go.Proofs.Ytdmbgnbegnlcaaa
