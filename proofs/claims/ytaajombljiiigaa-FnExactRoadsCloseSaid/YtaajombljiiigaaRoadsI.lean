import Derived.Test.YtaajombljiiigaaRoadsG
namespace Go.Proofs.Ytaajombljiiigaa
open Go.RowKit

open Classical in
/-- The roads without the one between two towns. -/
noncomputable def clL (n : Int) (xs : List Rd3) (a b : Int) : List Rd3 :=
  if h : DValid n xs ∧ ∃ j, j < xs.length ∧ mt xs (min a b) (max a b) j then xs.take (Classical.choose h.2) ++ xs.drop (Classical.choose h.2 + 1) else []
open Classical in
noncomputable def clB (n : Int) (xs : List Rd3) (a b : Int) : Bool := decide (DValid n xs ∧ ∃ j, j < xs.length ∧ mt xs (min a b) (max a b) j)
section
variable {n : Int} {xs : List Rd3} {a b : Int}
theorem clL_yes (hv : DValid n xs) {j : Nat} (hj : j < xs.length) (hm : mt xs (min a b) (max a b) j) : clL n xs a b = xs.take j ++ xs.drop (j + 1) := by
  have h : DValid n xs ∧ ∃ j, j < xs.length ∧ mt xs (min a b) (max a b) j := ⟨hv, j, hj, hm⟩
  unfold clL
  rw [dif_pos h]
  have hs := Classical.choose_spec h.2
  rw [dok_one hv hs.1 hj hs.2 hm]
theorem clL_no (h : ¬ (DValid n xs ∧ ∃ j, j < xs.length ∧ mt xs (min a b) (max a b) j)) : clL n xs a b = [] := by unfold clL; rw [dif_neg h]
open Classical in
theorem clB_yes (hv : DValid n xs) {j : Nat} (hj : j < xs.length) (hm : mt xs (min a b) (max a b) j) : clB n xs a b = true := by unfold clB; exact decide_eq_true ⟨hv, j, hj, hm⟩
open Classical in
theorem clB_no (h : ¬ (DValid n xs ∧ ∃ j, j < xs.length ∧ mt xs (min a b) (max a b) j)) : clB n xs a b = false := by unfold clB; exact decide_eq_false h
theorem clL_len : (clL n xs a b).length ≤ 1048576 := by
  by_cases h : DValid n xs ∧ ∃ j, j < xs.length ∧ mt xs (min a b) (max a b) j
  · obtain ⟨hv, j, hj, hm⟩ := h
    rw [clL_yes hv hj hm]
    have := hv.2.2.1
    simp
    omega
  · rw [clL_no h]; simp
/-- The direct way tells whether there is a road. -/
theorem dir_none (h : ¬ (DValid n xs ∧ ∃ j, j < xs.length ∧ mt xs (min a b) (max a b) j)) : dirV n xs a b = -1 := by
  by_cases hv : DValid n xs
  · rw [dirV_yes hv, lk_none.2 fun j hj g => h ⟨hv, j, hj, (joins_mt hv hj).1 g⟩]
    rfl
  · exact dirV_no hv
theorem dir_some (hv : DValid n xs) {j : Nat} (hj : j < xs.length) (hm : mt xs (min a b) (max a b) j) : 1 ≤ dirV n xs a b := by
  rw [dirV_yes hv]
  cases e : lk xs a b xs.length with
  | none => exact absurd ((joins_mt hv hj).2 hm) (lk_none.1 e j hj)
  | some m =>
    obtain ⟨i, i1, i2, i3⟩ := lk_some e
    have := (hv.2.2.2 i i1).2.2.2.1
    simp
    omega
theorem found_yes (hv : DValid n xs) {j : Nat} (hj : j < xs.length) (hm : mt xs (min a b) (max a b) j) {r : Int} (h : Found xs a b r) : r = (j : Int) := by
  rcases h with ⟨_, h2⟩ | ⟨i, h1, h2, h3, _⟩
  · exact absurd hm (h2 j hj)
  · rw [h2, dok_one hv h1 hj h3 hm]
end

open Classical in
set_option maxRecDepth 100000 in
set_option maxHeartbeats 1000000 in
theorem close_fn (x y m a b : Int) (g1 g2 : Nat) (w : World) (h1 : w.cell? ⟨g1, 0, none⟩ = some (.int .i64 a)) (h2 : w.cell? ⟨g2, 0, none⟩ = some (.int .i64 b)) (k1 : g1 < w.heap.size) (k2 : g2 < w.heap.size) :
    Calls Try.prog 38 #[.agg #[.int .i64 x, .int .i64 y, .int .i64 m], .pointer (some ⟨g1, 0, none⟩), .pointer (some ⟨g2, 0, none⟩)] w fun e w' => e = .returned (.bool (decide (x = min a b ∧ y = max a b))) ∧ Below w.heap.size w w' := by
  have B := (Below.refl w.heap.size w).alloc (Nat.le_refl _) (.cells #[.int .i64 x, .int .i64 y, .int .i64 m] 36)
  have d1 := (B.cell (p := ⟨g1, 0, none⟩) k1).trans h1
  have d2 := (B.cell (p := ⟨g2, 0, none⟩) k2).trans h2
  have HB := Lib.hid B
  clear B
  rcases (show a < b ∨ a = b ∨ b < a by omega) with hab | hab | hab
  · have m1 : min a b = a := by omega
    have m2 : max a b = b := by omega
    rw [m1, m2]
    clear m1 m2
    by_cases q1 : x = a
    · have e1 : (x == a) = true := by simp [q1]
      by_cases q2 : y = b
      · have e2 : (y == b) = true := by simp [q2]
        have Q := Lib.hid (And.intro q1 q2)
        clear q1 q2
        go_enter Try.func38, Try.ntmps38
        go_wp2_with fail
        go_ret
        exact ⟨ret_bool (by rw [decide_eq_true Q.out]), HB.out⟩
      · have e2 : (y == b) = false := by simp [q2]
        have Q := Lib.hid (show ¬ (x = a ∧ y = b) from fun g => q2 g.2)
        clear q1 q2
        go_enter Try.func38, Try.ntmps38
        go_wp2_with fail
        go_ret
        exact ⟨ret_bool (by rw [decide_eq_false Q.out]), HB.out⟩
    · have e1 : (x == a) = false := by simp [q1]
      have Q := Lib.hid (show ¬ (x = a ∧ y = b) from fun g => q1 g.1)
      clear q1
      go_enter Try.func38, Try.ntmps38
      go_wp2_with fail
      go_ret
      exact ⟨ret_bool (by rw [decide_eq_false Q.out]), HB.out⟩
  · subst hab
    have m1 : min a a = a := by omega
    have m2 : max a a = a := by omega
    rw [m1, m2]
    clear m1 m2
    by_cases q1 : x = a
    · have e1 : (x == a) = true := by simp [q1]
      by_cases q2 : y = a
      · have e2 : (y == a) = true := by simp [q2]
        have Q := Lib.hid (And.intro q1 q2)
        clear q1 q2
        go_enter Try.func38, Try.ntmps38
        go_wp2_with fail
        go_ret
        exact ⟨ret_bool (by rw [decide_eq_true Q.out]), HB.out⟩
      · have e2 : (y == a) = false := by simp [q2]
        have Q := Lib.hid (show ¬ (x = a ∧ y = a) from fun g => q2 g.2)
        clear q1 q2
        go_enter Try.func38, Try.ntmps38
        go_wp2_with fail
        go_ret
        exact ⟨ret_bool (by rw [decide_eq_false Q.out]), HB.out⟩
    · have e1 : (x == a) = false := by simp [q1]
      have Q := Lib.hid (show ¬ (x = a ∧ y = a) from fun g => q1 g.1)
      clear q1
      go_enter Try.func38, Try.ntmps38
      go_wp2_with fail
      go_ret
      exact ⟨ret_bool (by rw [decide_eq_false Q.out]), HB.out⟩
  · have m1 : min a b = b := by omega
    have m2 : max a b = a := by omega
    rw [m1, m2]
    clear m1 m2
    by_cases q1 : x = b
    · have e1 : (x == b) = true := by simp [q1]
      by_cases q2 : y = a
      · have e2 : (y == a) = true := by simp [q2]
        have Q := Lib.hid (And.intro q1 q2)
        clear q1 q2
        go_enter Try.func38, Try.ntmps38
        go_wp2_with fail
        go_ret
        exact ⟨ret_bool (by rw [decide_eq_true Q.out]), HB.out⟩
      · have e2 : (y == a) = false := by simp [q2]
        have Q := Lib.hid (show ¬ (x = b ∧ y = a) from fun g => q2 g.2)
        clear q1 q2
        go_enter Try.func38, Try.ntmps38
        go_wp2_with fail
        go_ret
        exact ⟨ret_bool (by rw [decide_eq_false Q.out]), HB.out⟩
    · have e1 : (x == b) = false := by simp [q1]
      have Q := Lib.hid (show ¬ (x = b ∧ y = a) from fun g => q1 g.1)
      clear q1
      go_enter Try.func38, Try.ntmps38
      go_wp2_with fail
      go_ret
      exact ⟨ret_bool (by rw [decide_eq_false Q.out]), HB.out⟩

open Classical in
set_option maxRecDepth 100000 in
set_option maxHeartbeats 1000000 in
theorem index_any (a b : Int) (g1 g2 : Nat) (A : Option Addr) (c : Nat) (xs : List Rd3) (w : World) (h : Cells w A (fd xs)) (hl : xs.length ≤ 1048576) (h1 : w.cell? ⟨g1, 0, none⟩ = some (.int .i64 a)) (h2 : w.cell? ⟨g2, 0, none⟩ = some (.int .i64 b)) (k1 : g1 < w.heap.size) (k2 : g2 < w.heap.size) :
    Calls Try.prog 37 #[.slice A xs.length c, .func (.func 38) #[] #[.pointer (some ⟨g1, 0, none⟩), .pointer (some ⟨g2, 0, none⟩)]] w fun e w' => ∃ r : Int, e = .returned (.int .i64 r) ∧ Found xs a b r ∧ Below w.heap.size w w' := by
  unfold Found
  go_enter Try.func37, Try.ntmps37
  go_wp2_with fail
  go_loopw [8] (fun i wr => ∃ k : Nat, k ≤ xs.length ∧ i = .int .i64 k ∧ (∀ j, j < k → ¬ mt xs (min a b) (max a b) j) ∧ Below w.heap.size w wr) (fun i _ => xs.length - (intOf i).toNat)
  case atStart => exact ⟨0, Nat.zero_le _, rfl, fun j hj => by omega, Below.refl _ _⟩
  case round =>
    obtain ⟨k, hk, rfl, hno, hbel⟩ := hrel
    have HN := Lib.hid hno
    clear hno
    by_cases hlt : k < xs.length
    · obtain ⟨bb, o, rfl, hb, c0, c1, c2⟩ := (h.below hbel).at3 hlt
      have HB := Lib.hid hbel
      have H1 := Lib.hid ((hbel.cell (p := ⟨g1, 0, none⟩) k1).trans h1)
      have H2 := Lib.hid ((hbel.cell (p := ⟨g2, 0, none⟩) k2).trans h2)
      have hs := hbel.size
      clear hbel
      go_wp2_with fail
      refine (close_fn _ _ _ a b g1 g2 _ H1.out H2.out (by omega) (by omega)).mono ?_
      rintro e w1 ⟨rfl, b1⟩
      have B1 := Lib.hid (HB.out.trans (b1.mono hs))
      clear b1 c0 c1 c2
      by_cases q : ra xs k = min a b ∧ rb xs k = max a b
      · rw [decide_eq_true q]
        have Q := Lib.hid (show mt xs (min a b) (max a b) k from q)
        clear q
        go_wp2_with fail
        go_ret
        exact ⟨_, rfl, .inr ⟨k, hlt, rfl, Q.out, HN.out⟩, B1.out⟩
      · rw [decide_eq_false q]
        have Q := Lib.hid (show ¬ mt xs (min a b) (max a b) k from q)
        clear q
        go_wp2_with fail
        exact ⟨⟨k + 1, by omega, by go_num, mt_succ HN.out Q.out, B1.out⟩, by simp [intOf]; omega⟩
    · obtain rfl : k = xs.length := by omega
      go_wp2_with fail
      go_ret
      exact ⟨_, rfl, .inl ⟨rfl, HN.out⟩, hbel⟩

/-- The two parts that withoutRoad lays together. -/
theorem concatW (A Z : Option Addr) (c cz : Nat) (ys zs : List Rd3) (wx : World) (hy : Cells wx A (fd ys)) (hz : Cells wx Z (fd zs)) (hA : A = none → ys.length = 0 ∧ c = 0) (hZ : Z = none → zs.length = 0 ∧ cz = 0) (hl : ys.length + zs.length ≤ 1048576) :
    Calls Try.prog 34 #[.slice (some ⟨wx.heap.size, 0, none⟩) 2 2] (wx.alloc (.cells #[.slice A ys.length c, .slice Z zs.length cz] 25)).drew fun e w' => ∃ A' c', e = .returned (.slice A' (ys ++ zs).length c') ∧ DOwn w' wx.heap.size A' c' (ys ++ zs) ∧ Below wx.heap.size wx w' := by
  have B1 := (Below.refl wx.heap.size wx).alloc (Nat.le_refl _) (.cells #[.slice A ys.length c, .slice Z zs.length cz] 25)
  have e : catR [⟨A, c, ys⟩, ⟨Z, cz, zs⟩] = ys ++ zs := by simp [catR]
  have hp : PcAt (wx.alloc (.cells #[.slice A ys.length c, .slice Z zs.length cz] 25)) wx.heap.size [⟨A, c, ys⟩, ⟨Z, cz, zs⟩] := by
    refine ⟨by simp, fun j hj => ?_⟩
    have hj3 : j < 2 := by simpa using hj
    match j, hj3 with
    | 0, _ => exact ⟨cell_new _ _ _ 0, hA, hy.below B1⟩
    | 1, _ => exact ⟨cell_new _ _ _ 1, hZ, hz.below B1⟩
  have K := concat_any wx.heap.size 2 _ _ (hp.below (Below.refl _ _).drew) (by rw [e]; simp; omega) (by simp)
  rw [e] at K
  refine K.mono ?_
  rintro ed w' ⟨A', c', rfl, ow, x⟩
  exact ⟨A', c', rfl, ow.base B1.size, (B1.drew).trans (x.mono B1.drew.size)⟩

set_option maxRecDepth 100000 in
set_option maxHeartbeats 1000000 in
theorem without_any (b c : Nat) (xs : List Rd3) (k : Nat) (w : World) (h : Cells w (some ⟨b, 0, none⟩) (fd xs)) (hk : k < xs.length) (hl : xs.length ≤ 1048576) (hc : xs.length ≤ c) (hc9 : c ≤ 9223372036854775807) :
    Calls Try.prog 39 #[.slice (some ⟨b, 0, none⟩) xs.length c, .int .i64 (k : Int)] w fun e w' => ∃ A' c', e = .returned (.slice A' (xs.take k ++ xs.drop (k + 1)).length c') ∧ DOwn w' w.heap.size A' c' (xs.take k ++ xs.drop (k + 1)) ∧ Below w.heap.size w w' := by
  obtain ⟨ts, hts⟩ : ∃ ts, ts = xs.take k ++ xs.drop (k + 1) := ⟨_, rfl⟩
  rw [← hts]
  obtain ⟨ys, hy⟩ : ∃ ys, ys = xs.take k := ⟨_, rfl⟩
  obtain ⟨zs, hz⟩ : ∃ zs, zs = xs.drop (k + 1) := ⟨_, rfl⟩
  obtain ⟨k1, hk1⟩ : ∃ k1, k1 = k + 1 := ⟨_, rfl⟩
  have hyl : k = ys.length := by rw [hy, List.length_take]; omega
  have hzl : xs.length - k1 = zs.length := by rw [hz, List.length_drop, hk1]
  have CY := Lib.hid (show Cells w (some ⟨b, 0, none⟩) (fd ys) by rw [hy]; exact h.takeD _)
  have CZ := Lib.hid (show Cells w (if c = k1 then some ⟨b, 0, none⟩ else some ⟨b, k1 * 3, none⟩) (fd zs) by
    by_cases g : c = k1
    · have : zs = [] := List.eq_nil_of_length_eq_zero (by omega)
      rw [this]; exact Cells.nil
    · rw [if_neg g, hz, ← hk1]; have := h.dropD k1; rwa [Nat.zero_add] at this)
  have CZN := Lib.hid (show ¬ (if c = k1 then some (⟨b, 0, none⟩ : Addr) else some ⟨b, k1 * 3, none⟩) = none by split <;> simp)
  have HT := Lib.hid (show ts = ys ++ zs by rw [hts, hy, hz])
  have e8 : IntKind.i64.wrap ((k : Int) + 1) = (k1 : Int) := by rw [show (k : Int) + 1 = (k1 : Int) by omega]; exact IntWalk.i64_in _ (by omega)
  have j1 : (k : Int) ≤ (xs.length : Int) := by omega
  have j2 : k ≤ c := by omega
  have j3 : (k : Int) ≤ (c : Int) := by omega
  have j4 : k1 ≤ xs.length := by omega
  have j5 : (k1 : Int) ≤ (xs.length : Int) := by omega
  have j6 : k1 ≤ c := by omega
  have j7 : (k1 : Int) ≤ (c : Int) := by omega
  have j8 : (xs.length : Int) ≤ (c : Int) := by omega
  have l3 : ys.length + zs.length ≤ 1048576 := by omega
  clear hts hy hz hk1 h
  subst hyl
  go_enter Try.func39, Try.ntmps39
  go_wp2_with fail
  go_region_held3 (fun _ => True) (exact trivial) (first
    | (go_at_call 34; refine (concatW _ _ _ _ ys zs w CY.out CZ.out (fun g => nomatch g) (fun g => absurd g CZN.out) l3).mono ?_; rintro e v1 ⟨A', c', rfl, ow, x1⟩; rw [← HT.out]; rw [← HT.out] at ow; generalize (if c = k1 then some (⟨b, 0, none⟩ : Addr) else some ⟨b, k1 * 3, none⟩) = Zad; have R := Lib.hid (And.intro ow x1); clear ow x1))
  go_wp2_with fail
  go_ret
  exact ⟨A', c', rfl, R.out.1, R.out.2⟩

set_option maxRecDepth 100000 in
set_option maxHeartbeats 1000000 in
theorem iCl_any (n a b : Int) (bb c : Nat) (xs : List Rd3) (w : World) (h : Cells w (some ⟨bb, 0, none⟩) (fd xs)) (hl : xs.length ≤ 1048576) (hc : xs.length ≤ c) (hc9 : c ≤ 9223372036854775807) (wa : (Lit.int .i64 a).wf = true) (wb : (Lit.int .i64 b).wf = true) :
    Calls Try.prog 27 #[.int .i64 n, .slice (some ⟨bb, 0, none⟩) xs.length c, .int .i64 a, .int .i64 b] w (DPair (clL n xs a b) (clB n xs a b) w) := by
  have B0 := Lib.hid (((Below.refl w.heap.size w).alloc (Nat.le_refl _) (.cells #[.int .i64 a] 3)).alloc (by simp) (.cells #[.int .i64 b] 3))
  by_cases hcl : DValid n xs ∧ ∃ j, j < xs.length ∧ mt xs (min a b) (max a b) j
  · obtain ⟨hv, j, hj, hm⟩ := hcl
    have hd := dir_some hv hj hm
    obtain ⟨d, hdd⟩ : ∃ d, d = dirV n xs a b := ⟨_, rfl⟩
    have ec := clL_yes hv hj hm
    have eb := clB_yes hv hj hm
    obtain ⟨ts, hts⟩ : ∃ ts, ts = xs.take j ++ xs.drop (j + 1) := ⟨_, rfl⟩
    have HE := Lib.hid (And.intro ec eb)
    have HD := Lib.hid hdd
    have HT := Lib.hid hts
    have HV := Lib.hid hv
    have HM := Lib.hid hm
    rw [← hdd] at hd
    clear ec eb hdd hts hv hm
    go_enter Try.func27, Try.ntmps27
    go_wp2_with fail
    refine (iDir_any n a b _ c xs _ ((h.alloc _).alloc _) hl wa wb).mono ?_
    rintro e w1 ⟨rfl, b1⟩
    rw [← HD.out]
    have B1 := Lib.hid (B0.out.trans (b1.mono (by simp; omega)))
    have z1 := (b1.cell (p := ⟨w.heap.size, 0, none⟩) (by simp; omega)).trans (((Below.refl _ _).alloc (Nat.le_refl _) _).cell (p := ⟨w.heap.size, 0, none⟩) (by simp) |>.trans (cell_new w #[.int .i64 a] 3 0))
    have z2 := (b1.cell (p := ⟨w.heap.size + 1, 0, none⟩) (by simp)).trans (show ((w.alloc (.cells #[.int .i64 a] 3)).alloc (.cells #[.int .i64 b] 3)).cell? ⟨w.heap.size + 1, 0, none⟩ = some (.int .i64 b) by
      have := cell_new (w.alloc (.cells #[.int .i64 a] 3)) #[.int .i64 b] 3 0
      rwa [World.size_alloc] at this)
    have s1 : w.heap.size + 2 ≤ w1.heap.size := by have := b1.size; simp at this; omega
    have C1 := Lib.hid (((h.alloc (.cells #[.int .i64 a] 3)).alloc (.cells #[.int .i64 b] 3)).below b1)
    have Z1 := Lib.hid z1
    have Z2 := Lib.hid z2
    clear b1 h B0 z1 z2
    go_wp2_with fail
    refine (index_any a b w.heap.size (w.heap.size + 1) _ c xs w1 C1.out hl Z1.out Z2.out (by omega) (by omega)).mono ?_
    rintro e w2 ⟨r, rfl, hf, b2⟩
    obtain rfl := found_yes HV.out hj HM.out hf
    have B2 := Lib.hid (B1.out.trans (b2.mono B1.out.size))
    have C2 := Lib.hid (C1.out.below b2)
    clear b2 hf B1 C1
    go_wp2_with fail
    refine (without_any bb c xs j w2 C2.out hj hl hc hc9).mono ?_
    rintro e w3 ⟨A', c', rfl, ow, b3⟩
    rw [← HT.out] at ow ⊢
    have R := Lib.hid (And.intro (ow.base (B' := w.heap.size) B2.out.size) (B2.out.trans (b3.mono B2.out.size)))
    clear ow b3
    go_wp2_with fail
    go_ret2
    exact ⟨A', c', pair_ret (by rw [HE.out.1, ← HT.out]) (by rw [HE.out.2]), by rw [HE.out.1, ← HT.out]; exact R.out.1, R.out.2⟩
  · have N := Lib.hid hcl
    have HD := Lib.hid (dir_none hcl)
    clear hcl
    go_enter Try.func27, Try.ntmps27
    go_wp2_with fail
    refine (iDir_any n a b _ c xs _ ((h.alloc _).alloc _) hl wa wb).mono ?_
    rintro e w1 ⟨rfl, b1⟩
    rw [HD.out]
    have B1 := Lib.hid (B0.out.trans (b1.mono (by simp; omega)))
    clear b1 h B0
    go_wp2_with fail
    go_ret2
    exact ⟨_, _, pair_ret (by simp [clL_no N.out]) (by simp [clB_no N.out]), by rw [clL_no N.out]; exact DOwn.empty w1 _ B1.out.size, B1.out.alloc B1.out.size _⟩
set_option maxRecDepth 100000 in
set_option maxHeartbeats 2000000 in
theorem sCl_any (n a b : Int) (bb c : Nat) (xs : List Rd3) (w : World) (h : Cells w (some ⟨bb, 0, none⟩) (fd xs)) (hl : xs.length ≤ 1048576) (hc : xs.length ≤ c) (hc9 : c ≤ 9223372036854775807) :
    Calls Try.prog 26 #[.int .i64 n, .slice (some ⟨bb, 0, none⟩) xs.length c, .int .i64 a, .int .i64 b] w (DPair (clL n xs a b) (clB n xs a b) w) := by
  obtain ⟨i0, hi0, hz0, hz1, hz2⟩ := info_parts road_info
  by_cases hcl : DValid n xs ∧ ∃ j, j < xs.length ∧ mt xs (min a b) (max a b) j
  · obtain ⟨hv, k, hk, hm⟩ := hcl
    have hd := dir_some hv hk hm
    obtain ⟨d, hdd⟩ : ∃ d, d = dirV n xs a b := ⟨_, rfl⟩
    have ec := clL_yes hv hk hm
    have eb := clB_yes hv hk hm
    obtain ⟨ts, hts⟩ : ∃ ts, ts = xs.take k ++ xs.drop (k + 1) := ⟨_, rfl⟩
    obtain ⟨ys, hy⟩ : ∃ ys, ys = xs.take k := ⟨_, rfl⟩
    obtain ⟨zs, hz⟩ : ∃ zs, zs = xs.drop (k + 1) := ⟨_, rfl⟩
    obtain ⟨k1, hk1⟩ : ∃ k1, k1 = k + 1 := ⟨_, rfl⟩
    have hyl : k = ys.length := by rw [hy, List.length_take]; omega
    have hzl : xs.length - k1 = zs.length := by rw [hz, List.length_drop, hk1]
    have HE := Lib.hid (And.intro ec eb)
    have HD := Lib.hid hdd
    have HT := Lib.hid hts
    have HV := Lib.hid hv
    have HM := Lib.hid hm
    have HTS := Lib.hid (show ts = ys ++ zs by rw [hts, hy, hz])
    have CYF := Lib.hid (show ∀ W, Cells W (some ⟨bb, 0, none⟩) (fd xs) → Cells W (some ⟨bb, 0, none⟩) (fd ys) from fun W g => by rw [hy]; exact g.takeD _)
    have CZF := Lib.hid (show ∀ W, Cells W (some ⟨bb, 0, none⟩) (fd xs) → Cells W (some ⟨bb, k1 * 3, none⟩) (fd zs) from fun W g => by rw [hz, ← hk1]; have := g.dropD k1; rwa [Nat.zero_add] at this)
    rw [← hdd] at hd
    have e8 : IntKind.i64.wrap ((k : Int) + 1) = (k1 : Int) := by rw [show (k : Int) + 1 = (k1 : Int) by omega]; exact IntWalk.i64_in _ (by omega)
    have j1 : (k : Int) ≤ (xs.length : Int) := by omega
    have j2 : k ≤ c := by omega
    have j3 : (k : Int) ≤ (c : Int) := by omega
    have j4 : k1 ≤ xs.length := by omega
    have j5 : (k1 : Int) ≤ (xs.length : Int) := by omega
    have j6 : k1 ≤ c := by omega
    have j7 : (k1 : Int) ≤ (c : Int) := by omega
    have j8 : (xs.length : Int) ≤ (c : Int) := by omega
    have l3 : ys.length + zs.length ≤ 1048576 := by omega
    have hfj : ∀ r, Found xs a b r → r = (k : Int) := fun r g => found_yes hv hk hm g
    clear ec eb hdd hts hv hm hy hz hk1
    subst hyl
    go_enter Try.func26, Try.ntmps26
    go_wp2_with fail
    refine (sDir_any n a b _ c xs _ h hl).mono ?_
    rintro e w1 ⟨rfl, b1⟩
    rw [← HD.out]
    have B1 := Lib.hid b1
    have C1 := Lib.hid (h.below b1)
    clear b1 h
    go_wp2_with fail
    refine (find_any a b _ c xs w1 C1.out hl).mono ?_
    rintro e _ ⟨r, rfl, hf, rfl⟩
    obtain rfl := hfj r hf
    clear hf hfj
    have CY := Lib.hid (CYF.out _ C1.out)
    have CZ := Lib.hid (CZF.out _ C1.out)
    have E0 := Lib.hid (DOwn.empty w1 w1.heap.size (Nat.le_refl _))
    have D1 := Lib.hid (((Below.refl w1.heap.size w1).alloc (Nat.le_refl _) (.cells #[] 36)).drew)
    by_cases hck : c = k1
    · subst hck
      have hz0' : zs = [] := List.eq_nil_of_length_eq_zero (by omega)
      have CN := Lib.hid (show Cells w1 (some ⟨bb, 0, none⟩) (fd zs) by rw [hz0']; exact Cells.nil)
      clear hz0'
      go_wp2_with fail
      go_region_held3 (fun _ => True) (exact trivial) (first
        | (have hh := K1.out; clear hh; refine step_append_own (by rfl) _ _ _ (by rfl) w1.heap.size 36 i0 _ 3 24 Try.underlying25 hi0 hz0 hz1 hz2 rfl (by omega) _ (0 + ys.length) _ (by rfl) K1.out.1 ⟨bb, 0, none⟩ zs.length 0 ((fd zs).map (Value.int .i64)) (by rfl) (by rw [List.length_map, fd_len]) ((CN.out.below K1.out.2).news _ rfl) (ints_one _) (by unfold maxLen; omega) (by omega) K1.out.2.size ?_; intro v2 w4 o2 g2; have Z := Lib.hid (And.intro o2 (K1.out.2.grown g2 K1.out.2.size (fun q hq => (K1.out.1.lt q hq).1))); clear o2 g2)
        | (refine step_append_own (by rfl) _ _ _ (by rfl) w1.heap.size 36 i0 _ 3 24 Try.underlying25 hi0 hz0 hz1 hz2 rfl (by omega) _ 0 _ (by rfl) (World.ownsRow.drew E0.out) ⟨bb, 0, none⟩ ys.length c ((fd ys).map (Value.int .i64)) (by rfl) (by rw [List.length_map, fd_len]) (((CY.out.alloc _).drewN 1).news _ rfl) (ints_one _) (by unfold maxLen; omega) (by omega) D1.out.size ?_; intro v1 w3 o1 g1; have K1 := Lib.hid (And.intro o1 (D1.out.grown g1 D1.out.size (fun q hq => (World.ownsRow.lt E0.out q hq).1))); clear o1 g1))
      obtain ⟨A', c', e2⟩ := own_formI Z.out.1
      subst e2
      have R := Lib.hid (And.intro (show DOwn w4 w.heap.size A' c' ts by
        have e : (fd ts).map (Value.int .i64) = (fd []).map (Value.int .i64) ++ (fd ys).map (Value.int .i64) ++ (fd zs).map (Value.int .i64) := by
          rw [HTS.out, fd_append]; simp [fd]
        have el : 0 + ys.length + zs.length = ts.length := by rw [HTS.out]; simp
        have Z1 := Z.out.1
        rw [el] at Z1
        unfold DOwn
        rw [e]
        exact own_base Z1 B1.out.size) (B1.out.trans (Z.out.2.mono B1.out.size)))
      have el : 0 + ys.length + zs.length = ts.length := by rw [HTS.out]; simp
      rw [el]
      clear Z el
      go_wp2_with fail
      go_ret2
      exact ⟨A', c', pair_ret (by rw [HE.out.1, ← HT.out]) (by rw [HE.out.2]), by rw [HE.out.1, ← HT.out]; exact R.out.1, R.out.2⟩
    · go_wp2_with fail
      go_region_held3 (fun _ => True) (exact trivial) (first
        | (have hh := K1.out; clear hh; refine step_append_own (by rfl) _ _ _ (by rfl) w1.heap.size 36 i0 _ 3 24 Try.underlying25 hi0 hz0 hz1 hz2 rfl (by omega) _ (0 + ys.length) _ (by rfl) K1.out.1 ⟨bb, k1 * 3, none⟩ zs.length (c - k1) ((fd zs).map (Value.int .i64)) (by rfl) (by rw [List.length_map, fd_len]) ((CZ.out.below K1.out.2).news _ rfl) (ints_one _) (by unfold maxLen; omega) (by omega) K1.out.2.size ?_; intro v2 w4 o2 g2; have Z := Lib.hid (And.intro o2 (K1.out.2.grown g2 K1.out.2.size (fun q hq => (K1.out.1.lt q hq).1))); clear o2 g2)
        | (refine step_append_own (by rfl) _ _ _ (by rfl) w1.heap.size 36 i0 _ 3 24 Try.underlying25 hi0 hz0 hz1 hz2 rfl (by omega) _ 0 _ (by rfl) (World.ownsRow.drew E0.out) ⟨bb, 0, none⟩ ys.length c ((fd ys).map (Value.int .i64)) (by rfl) (by rw [List.length_map, fd_len]) (((CY.out.alloc _).drewN 1).news _ rfl) (ints_one _) (by unfold maxLen; omega) (by omega) D1.out.size ?_; intro v1 w3 o1 g1; have K1 := Lib.hid (And.intro o1 (D1.out.grown g1 D1.out.size (fun q hq => (World.ownsRow.lt E0.out q hq).1))); clear o1 g1))
      obtain ⟨A', c', e2⟩ := own_formI Z.out.1
      subst e2
      have R := Lib.hid (And.intro (show DOwn w4 w.heap.size A' c' ts by
        have e : (fd ts).map (Value.int .i64) = (fd []).map (Value.int .i64) ++ (fd ys).map (Value.int .i64) ++ (fd zs).map (Value.int .i64) := by
          rw [HTS.out, fd_append]; simp [fd]
        have el : 0 + ys.length + zs.length = ts.length := by rw [HTS.out]; simp
        have Z1 := Z.out.1
        rw [el] at Z1
        unfold DOwn
        rw [e]
        exact own_base Z1 B1.out.size) (B1.out.trans (Z.out.2.mono B1.out.size)))
      have el : 0 + ys.length + zs.length = ts.length := by rw [HTS.out]; simp
      rw [el]
      clear Z el
      go_wp2_with fail
      go_ret2
      exact ⟨A', c', pair_ret (by rw [HE.out.1, ← HT.out]) (by rw [HE.out.2]), by rw [HE.out.1, ← HT.out]; exact R.out.1, R.out.2⟩
  · have N := Lib.hid hcl
    have HD := Lib.hid (dir_none hcl)
    clear hcl
    go_enter Try.func26, Try.ntmps26
    go_wp2_with fail
    refine (sDir_any n a b _ c xs _ h hl).mono ?_
    rintro e w1 ⟨rfl, b1⟩
    rw [HD.out]
    have B1 := Lib.hid b1
    clear b1 h
    go_wp2_with fail
    go_ret2
    exact ⟨_, _, pair_ret (by simp [clL_no N.out]) (by simp [clB_no N.out]), by rw [clL_no N.out]; exact DOwn.empty w1 _ B1.out.size, B1.out.alloc B1.out.size _⟩
end Go.Proofs.Ytaajombljiiigaa
