import Derived.Test.YtaajombljiiigaaRoadsQ
namespace Go.Proofs.Ytaajombljiiigaa
open Go.RowKit

theorem town_info : (Try.prog.info? 63).map (fun i => (i.zero, i.size, i.bytes)) = some (some (.agg #[.int .i64 0, .int .i64 0]), 2, 16) := by kernel_rfl

theorem cells2_new (w : World) (e : TypeId) (a b : Value) : ∀ j u, [a, b][j]? = some u → (w.alloc (.cells #[a, b] e)).cell? ((⟨w.heap.size, 0, none⟩ : Addr).add j) = some u := by
  intro j u hj
  match j, hj with
  | 0, hj => rw [← hj]; exact cell_new _ _ _ 0
  | 1, hj => rw [← hj]; exact cell_new _ _ _ 1
  | _ + 2, hj => simp at hj

theorem fr_takeN (xs : List Rn) : ∀ k, fr (xs.take k) = (fr xs).take (k * 2) := by
  induction xs with
  | nil => intro k; simp [fr]
  | cons s xs ih =>
    intro k
    cases k with
    | zero => rfl
    | succ k => rw [List.take_succ_cons, fr_cons, ih k, fr_cons, show (k + 1) * 2 = k * 2 + 2 by omega]; rfl

theorem HIs.cut {w : World} {g a c n : Nat} {xs : List Rn} (h : HIs w g (some ⟨a, 0, none⟩) c xs) (hn : n ≤ xs.length) : HIs (w.setCell ⟨g, 0, none⟩ (.slice (some ⟨a, 0, none⟩) n c)) g (some ⟨a, 0, none⟩) c (xs.take n) := by
  have hl : (xs.take n).length = n := by rw [List.length_take]; omega
  have hne : a ≠ g := fun e => h.ne (by rw [e]; rfl)
  refine ⟨?_, ?_, ?_⟩
  · rw [hl]; exact h.blk.set 0 _
  · rw [hl]
    have ho := h.own
    have h2 : w.ownsRow 0 63 2 (.slice (some ⟨a, 0, none⟩) n c) n ((fr (xs.take n)).map (Value.int .i64)) := by
      refine ⟨by rw [List.length_map, fr_len, hl], ?_⟩
      rcases ho.2 with ⟨h1, _⟩ | ⟨g', cap, cur, hv, hg', hh, h3, h4, h5, h6⟩
      · cases h1
      · injection hv with hv1 hv2 hv3
        subst hv3
        refine .inr ⟨g', c, cur, by injection hv1 with hv1; rw [hv1], hg', hh, by omega, h4, h5, ?_⟩
        have e1 : (fr (xs.take n)).map (Value.int .i64) = ((fr xs).map (Value.int .i64)).take (n * 2) := by rw [fr_takeN, List.map_take]
        rw [e1, ← h6, List.take_take]
        congr 1
        omega
    exact h2.kept (setCell_grown w g 0 _) (.inr (by intro e; injection e with e; exact hne e))
  · intro e; injection e with e; exact hne e

theorem HIs.pushed {w3 : World} {g c a gg cap : Nat} {xs : List Rn} {v : Rn} (hb3 : Blk w3 g #[.slice (some ⟨a, 0, none⟩) xs.length c] 65)
    (ho : w3.ownsRow 0 63 2 (.slice (some ⟨gg, 0, none⟩) (xs.length + 1) cap) (xs.length + 1) ((fr xs).map (Value.int .i64) ++ [.int .i64 v.s, .int .i64 v.e])) (hne : gg ≠ g) :
    HIs (w3.setCell ⟨g, 0, none⟩ (.slice (some ⟨gg, 0, none⟩) (xs.length + 1) cap)) g (some ⟨gg, 0, none⟩) cap (xs ++ [v]) := by
  have hl : (xs ++ [v]).length = xs.length + 1 := by simp
  have hf : (fr (xs ++ [v])).map (Value.int .i64) = (fr xs).map (Value.int .i64) ++ [.int .i64 v.s, .int .i64 v.e] := by rw [fr_append, List.map_append]; rfl
  refine ⟨?_, ?_, ?_⟩
  · rw [hl]; exact hb3.set 0 _
  · rw [hl, hf]; exact ho.kept (setCell_grown w3 g 0 _) (.inr (by intro e; injection e with e; exact hne e))
  · intro e; injection e with e; exact hne e

/-- A town as a value of any kind. -/
abbrev tv (v : Rn) : Value := .iface 63 (.agg #[.int .i64 v.s, .int .i64 v.e])
theorem ta_gen {P : Program} {t : TypeId} {fs : Array Field} (h : P.underlying t = some (.struct fs)) (v : Value) (xT : TypeId) (w : World) : (Instr.typeAssert (.iface t v) xT t false).run P w = .ok v w := by
  simp [Instr.typeAssert, run_underlying h, go_sem, Result.andThen]
theorem ta_town (v : Value) (xT : TypeId) (w : World) : (Instr.typeAssert (.iface 63 v) xT 63 false).run Try.prog w = .ok v w := ta_gen Try.underlying63 v xT w

set_option maxRecDepth 100000 in
set_option maxHeartbeats 2000000 in
theorem mpop_any (g a c n : Nat) (xs : List Rn) (w : World) (h : HIs w g (some ⟨a, 0, none⟩) c xs) (hl : xs.length = n + 1) (hn : xs.length ≤ 1000) :
    Calls Try.prog 65 #[.pointer (some ⟨g, 0, none⟩)] w fun e w' => e = .returned (tv (pg xs n)) ∧ HIs w' g (some ⟨a, 0, none⟩) c (xs.take n) ∧ Touch g (some a) w w' := by
  have hg := h.lt
  obtain ⟨_, hA', hag, cp1, cp2, haw⟩ := h.at (i := 0) (by omega)
  injection hA' with hA'
  injection hA' with hA'
  subst hA'
  have c0 := h.blk.cell 0
  simp at c0
  have f0 := h.blk.frozen 0
  obtain ⟨y0, y1⟩ := h.cell (i := n) (by omega)
  obtain ⟨m, hm⟩ : ∃ m, m = xs.length := ⟨_, rfl⟩
  have m1 : m = n + 1 := by omega
  rw [← hm] at c0 cp1
  have i1 : (n : Int) < (m : Int) := by omega
  have e1 : (m : Int) - 1 = (n : Int) := by omega
  have n100 : n ≤ 999 := by omega
  have m100 : m ≤ 1000 := by omega
  have HP := Lib.hid h
  have HL := Lib.hid hl
  clear h hl hn hm m1
  go_enter Try.func65, Try.ntmps65
  go_wp2_with fail
  go_region

  obtain ⟨wa, hwa⟩ : ∃ wa : World, wa = (w.alloc (.cells #[.int .i64 (pg xs n).s, .int .i64 (pg xs n).e] 63)).drew := ⟨_, rfl⟩
  have BA : Below w.heap.size w wa := by rw [hwa]; exact ((Below.refl _ _).alloc (Nat.le_refl _) _).drew
  have R1 : Blk wa w.heap.size #[.int .i64 (pg xs n).s, .int .i64 (pg xs n).e] 63 := by rw [hwa]; exact Blk.new w _ _
  rw [← hwa]
  have P1 := HP.out.below BA
  have T1 : Touch g (some a) w wa := Below.touch BA
  clear hwa c0 y0 y1 BA f0
  have c0 := P1.blk.cell 0
  simp at c0
  rw [HL.out, show n + 1 = m by omega] at c0
  have f0 := P1.blk.frozen 0
  have P2 := Lib.hid ((P1.cut (n := n) (by have := HL.out; omega)).drew)
  have T2 := Lib.hid ((T1.trans (grown_touch (setCell_grown wa g 0 (.slice (some ⟨a, 0, none⟩) n c)) (.inl rfl))).drew)
  have R2 := Lib.hid (show Blk ((wa.setCell ⟨g, 0, none⟩ (.slice (some ⟨a, 0, none⟩) n c)).drew) w.heap.size #[.int .i64 (pg xs n).s, .int .i64 (pg xs n).e] 63 from by
    have hb := R1
    unfold Blk at *
    show (wa.setCell ⟨g, 0, none⟩ (.slice (some ⟨a, 0, none⟩) n c)).heap[w.heap.size]? = _
    rw [Below.heap_setCell _ _ _ _ (by show w.heap.size ≠ g; omega)]
    exact hb)
  clear P1 T1 R1
  have nc : n ≤ c := by omega
  go_wp2_with fail
  go_region
  generalize hx : (wa.setCell ⟨g, 0, none⟩ (.slice (some ⟨a, 0, none⟩) n c)).drew = wb at P2 T2 R2 ⊢
  have r0 := R2.out.cell 0
  have r1 := R2.out.cell 1
  simp at r0 r1
  clear hx c0 f0
  go_wp2_with fail
  go_ret
  exact ⟨rfl, P2.out, T2.out⟩

set_option maxRecDepth 100000 in
set_option maxHeartbeats 2000000 in
theorem mpush_any (g a c : Nat) (xs : List Rn) (v : Rn) (w : World) (h : HIs w g (some ⟨a, 0, none⟩) c xs) (hn : xs.length ≤ 1000) :
    Calls Try.prog 66 #[.pointer (some ⟨g, 0, none⟩), tv v] w fun e w' => e = .returned (.tuple #[]) ∧ ∃ a' c' : Nat, HIs w' g (some ⟨a', 0, none⟩) c' (xs ++ [v]) ∧ Touch g (some a) w w' ∧ (a' = a ∨ w.heap.size ≤ a') := by
  obtain ⟨i0, hi0, hz0, hz1, hz2⟩ := info_parts town_info
  have hg := h.lt
  have c0 := h.blk.cell 0
  have f0 := h.blk.frozen 0
  simp at c0
  have O := h.own
  have hne := h.ne
  have HP := Lib.hid h
  have NEWS : ∀ (j : Nat) (u : Value), [Value.int .i64 v.s, Value.int .i64 v.e][j]? = some u → ((w.alloc (.cells #[.int .i64 v.s, .int .i64 v.e] 63)).drew).cell? ((⟨w.heap.size, 0, none⟩ : Addr).add j) = some u := cells2_new w _ _ _
  have HNEWS := Lib.hid NEWS
  have BEL := Lib.hid (show Below w.heap.size w ((w.alloc (.cells #[.int .i64 v.s, .int .i64 v.e] 63)).drew) from ((Below.refl _ _).alloc (Nat.le_refl _) _).drew)
  have TA := fun t W => ta_town (.agg #[.int .i64 v.s, .int .i64 v.e]) t W
  clear h NEWS
  go_enter Try.func66, Try.ntmps66
  go_wp2_with fail
  go_region_law ((refine step_append_lies _ (by rfl) _ _ _ (by rfl) 0 63 i0 _ 2 16 Try.underlying65 hi0 hz0 hz1 hz2 rfl (by omega) _ _ _ (by rfl) ((O.alloc _).drew) ⟨w.heap.size, 0, none⟩ 1 1 [.int .i64 v.s, .int .i64 v.e] (by rfl) (by rfl) HNEWS.out (by simp [Value.oneCell']) (by omega) (by unfold maxLen; omega) (by omega) (by omega) (w.heap.size + 1) (by simp) ?_; intro gg cap w3 hown' hgrow hat hlt'; have hb3 : Blk w3 g #[.slice (some ⟨a, 0, none⟩) xs.length c] 65 := (hgrow.block g (by simp; omega) (fun e => hne e.symm)).trans (HP.out.blk.below BEL.out); have c3 := hb3.cell 0; have f3 := hb3.frozen 0; simp at c3))
  all_goals
    have hgg : gg ≠ g := by
      rcases hat with e | e
      · exact fun e' => hne (by rw [e, e'])
      · omega
    have PQ := Lib.hid (HIs.pushed hb3 hown' hgg)
    have TQ : Hid (Touch g (some a) w (w3.setCell ⟨g, 0, none⟩ (.slice (some ⟨gg, 0, none⟩) (xs.length + 1) cap))) := Lib.hid (((Below.touch BEL.out).trans (grown_touch hgrow (.inr (.inl rfl)))).trans (grown_touch (setCell_grown w3 g 0 _) (.inl rfl)))
    have HAT := Lib.hid (show gg = a ∨ w.heap.size ≤ gg from by
      rcases hat with e | e
      · injection e with e; exact .inl e.symm
      · exact .inr (by omega))
    clear hb3 c3 f3 hown' hgrow hat hlt' c0 f0 O HP HNEWS BEL
    go_end0
    exact ⟨rfl, gg, cap, PQ.out, TQ.out, HAT.out⟩

set_option maxRecDepth 100000 in
set_option maxHeartbeats 2000000 in
/-- heap.Pop: the least thing is taken. -/
theorem hpop_any (g a c n : Nat) (xs : List Rn) (w : World) (h : HIs w g (some ⟨a, 0, none⟩) c xs) (hh : Heap Rn.e xs) (hl : xs.length = n + 1) (hn : xs.length ≤ 1000) :
    Calls Try.prog 43 #[hv g] w fun e w' => e = .returned (tv (pg xs 0)) ∧ ∃ ys : List Rn, HIs w' g (some ⟨a, 0, none⟩) c ys ∧ Heap Rn.e ys ∧ (pg xs 0 :: ys).Perm xs ∧ Touch g (some a) w w' := by
  have c0 := h.blk.cell 0
  simp at c0
  have HP := Lib.hid h
  have HH := Lib.hid hh
  have HL := Lib.hid hl
  have ml := mLen g _ w c0
  have ms := mSwap g _ w c0
  have e1 : (xs.length : Int) - 1 = (n : Int) := by omega
  have n1 : n ≤ 999 := by omega
  clear h hh hl
  go_enter Try.func43, Try.ntmps43
  go_wp2_with fail
  refine (len_any _ _ _ w).mono ?_
  rintro e wx ⟨rfl, rfl⟩
  go_wp2_with fail
  refine (swap_any g a c 0 n xs w HP.out (by have := HL.out; omega) (by have := HL.out; omega) (by omega) hn).mono ?_
  rintro e w1 ⟨rfl, P1, T1⟩
  have hs : (sw xs 0 n).length = n + 1 := by rw [sw_len]; exact HL.out
  have D1 := down_start HH.out HL.out (pg xs n)
  have ht : (sw xs 0 n).take n = (xs.set 0 (pg xs n)).take n := by
    unfold sw
    rw [List.take_set_of_le (by omega)]
  rw [← ht] at D1
  have hl0 : pg (sw xs 0 n) n = pg xs 0 := by rw [pg_sw _ _ _ _ (by have := HL.out; omega) (by have := HL.out; omega), if_pos rfl]
  have HT := Lib.hid ht
  have HL0 := Lib.hid hl0
  have T1 := Lib.hid T1
  have D1 := Lib.hid D1
  have P1' := Lib.hid P1
  have HS := Lib.hid hs
  clear ht hl0 c0 ml ms hs P1
  go_wp2_with fail
  refine (down_any g a c n (sw xs 0 n) w1 P1'.out HS.out (by have := HS.out; omega) D1.out).mono ?_
  rintro e w2 ⟨⟨v, rfl⟩, ys, yl, P2, H2, Q2, L2, T2⟩
  have YL := Lib.hid yl
  have Y2 := Lib.hid (And.intro H2 (And.intro Q2 (And.intro L2 T2)))
  have P2' := Lib.hid P2
  have mp := mPop g w2
  clear yl H2 Q2 L2 T2 P2
  go_wp2_with fail
  refine (mpop_any g a c n ys w2 P2'.out YL.out (by have := YL.out; omega)).mono ?_
  rintro e w3 ⟨rfl, P3, T3⟩
  have R3 := Lib.hid (And.intro P3 T3)
  have L3 := Y2.out.2.2.1
  rw [HL0.out] at L3
  rw [L3]
  clear P3 T3 L3 mp
  go_wp2_with fail
  go_ret
  obtain ⟨H2, Q2, L2, T2⟩ := Y2.out
  refine ⟨rfl, ys.take n, R3.out.1, H2, ?_, (T1.out.trans T2).trans R3.out.2⟩
  have yl := YL.out
  have hq : ys = ys.take n ++ [pg ys n] := by
    have h9 := List.take_append_getElem (l := ys) (i := n) (by omega)
    have h8 : pg ys n = ys[n]'(by omega) := by simp [pg, List.getElem?_eq_getElem (show n < ys.length by omega)]
    rw [h8, h9, List.take_of_length_le (by omega)]
  rw [L2, HL0.out] at hq
  have hp : (pg xs 0 :: ys.take n).Perm ys := by
    conv => rhs; rw [hq]
    exact (List.perm_append_comm (l₁ := ys.take n) (l₂ := [pg xs 0])).symm
  exact hp.trans (Q2.trans (sw_perm xs 0 n (by have := HL.out; omega) (by have := HL.out; omega)))

set_option maxRecDepth 100000 in
set_option maxHeartbeats 2000000 in
/-- heap.Push: one thing more. -/
theorem hpush_any (g a c : Nat) (xs : List Rn) (v : Rn) (w : World) (h : HIs w g (some ⟨a, 0, none⟩) c xs) (hh : Heap Rn.e xs) (hn : xs.length ≤ 990) :
    Calls Try.prog 44 #[hv g, tv v] w fun e w' => e = .returned (.tuple #[]) ∧ ∃ (a' c' : Nat) (ys : List Rn), HIs w' g (some ⟨a', 0, none⟩) c' ys ∧ Heap Rn.e ys ∧ ys.Perm (xs ++ [v]) ∧ Touch g (some a) w w' ∧ (a' = a ∨ w.heap.size ≤ a') := by
  have HP := Lib.hid h
  have HH := Lib.hid hh
  have mp := mPush g w
  clear h hh
  go_enter Try.func44, Try.ntmps44
  go_wp2_with fail
  refine (mpush_any g a c xs v w HP.out (by omega)).mono ?_
  rintro e w1 ⟨rfl, a', c', P1, T1, A1⟩
  have hl : (xs ++ [v]).length = xs.length + 1 := by simp
  have c1 := P1.blk.cell 0
  simp at c1
  have ml := mLen g _ w1 c1
  have P1' := Lib.hid P1
  have T1 := Lib.hid T1
  have A1 := Lib.hid A1
  have HL := Lib.hid hl
  clear P1 hl mp c1
  go_wp2_with fail
  refine (len_any _ _ _ w1).mono ?_
  rintro e wx ⟨rfl, rfl⟩
  go_wp2_with fail
  refine (up_any g a' c' xs.length (xs ++ [v]) w1 P1'.out (by rw [HL.out]; omega) (by rw [HL.out]; omega) (up_start HH.out v)).mono ?_
  rintro e w2 ⟨rfl, ys, P2, H2, Q2, T2⟩
  have R := Lib.hid (And.intro P2 (And.intro H2 (And.intro Q2 (T1.out.trans' T2 (A1.out.imp (fun e => by rw [e]) (fun e => ⟨a', rfl, e⟩))))))
  clear P2 H2 Q2 T2
  go_wp2_with fail
  go_end0
  exact ⟨rfl, a', c', ys, R.out.1, R.out.2.1, R.out.2.2.1, R.out.2.2.2, A1.out⟩

end Go.Proofs.Ytaajombljiiigaa
