import Derived.Test.YtmnoidgfcpbmgaaRunsV0
namespace Go.Proofs.Ytmnoidgfcpbmgaa
open Go.RowKit

/-- What pop leaves. -/
def Popped (key : Rn → Int) (g : Nat) (F : Value) (a c : Nat) (xs : List Rn) (w : World) (e : Ending) (w' : World) : Prop :=
  e = .returned (.agg #[.int .i64 (pg xs 0).s, .int .i64 (pg xs 0).e]) ∧ ∃ ys : List Rn, PileIs w' g F (some ⟨a, 0, none⟩) c ys ∧ Heap key ys ∧ (pg xs 0 :: ys).Perm xs ∧ Touch g (some a) w w'

/-- The least of thing a and its children before d. -/
def LeastOk (key : Rn → Int) (ys : List Rn) (a l d : Nat) : Prop :=
  (l = a ∨ ((l = 2 * a + 1 ∨ l = 2 * a + 2) ∧ l < d ∧ l < ys.length ∧ key (pg ys l) < key (pg ys a))) ∧ ∀ i, (i = 2 * a + 1 ∨ i = 2 * a + 2) → i < d → i < ys.length → key (pg ys l) ≤ key (pg ys i)
theorem LeastOk.start (key : Rn → Int) (ys : List Rn) (a : Nat) : LeastOk key ys a a (2 * a + 1) := ⟨.inl rfl, fun i h1 h2 _ => by omega⟩
theorem LeastOk.yes {key : Rn → Int} {ys : List Rn} {a l d : Nat} (h : LeastOk key ys a l d) (hd : d = 2 * a + 1 ∨ d = 2 * a + 2) (hl : d < ys.length) (hk : key (pg ys d) < key (pg ys l)) : LeastOk key ys a d (d + 1) := by
  refine ⟨.inr ⟨hd, by omega, hl, ?_⟩, fun i h1 h2 h3 => ?_⟩
  · rcases h.1 with rfl | ⟨_, _, _, h4⟩
    · exact hk
    · omega
  · rcases Nat.lt_or_ge i d with g | g
    · have := h.2 i h1 g h3; omega
    · obtain rfl : i = d := by omega
      exact Int.le_refl _
theorem LeastOk.no {key : Rn → Int} {ys : List Rn} {a l d : Nat} (h : LeastOk key ys a l d) (hk : ¬ key (pg ys d) < key (pg ys l)) : LeastOk key ys a l (d + 1) := by
  refine ⟨?_, fun i h1 h2 h3 => ?_⟩
  · rcases h.1 with h4 | ⟨h4, h5, h6, h7⟩
    · exact .inl h4
    · exact .inr ⟨h4, by omega, h6, h7⟩
  · rcases Nat.lt_or_ge i d with g | g
    · exact h.2 i h1 g h3
    · obtain rfl : i = d := by omega
      omega

theorem fr_takeN (xs : List Rn) : ∀ k, fr (xs.take k) = (fr xs).take (k * 2) := by
  induction xs with
  | nil => intro k; simp [fr]
  | cons s xs ih =>
    intro k
    cases k with
    | zero => rfl
    | succ k => rw [List.take_succ_cons, fr_cons, ih k, fr_cons, show (k + 1) * 2 = k * 2 + 2 by omega]; rfl

theorem Blk.touch {w w' : World} {b g : Nat} {q : Option Nat} {C : Array Value} {e : TypeId} (h : Blk w b C e) (ht : Touch g q w w') (h1 : b ≠ g) (h2 : some b ≠ q) : Blk w' b C e := by
  have hb := h.lt
  unfold Blk at *
  rw [ht.block b hb h1 h2]; exact h
theorem PileIs.cut {w : World} {g a c n : Nat} {F : Value} {xs : List Rn} (h : PileIs w g F (some ⟨a, 0, none⟩) c xs) (hn : n ≤ xs.length) : PileIs (w.setCell ⟨g, 0, none⟩ (.slice (some ⟨a, 0, none⟩) n c)) g F (some ⟨a, 0, none⟩) c (xs.take n) := by
  have hl : (xs.take n).length = n := by rw [List.length_take]; omega
  have hne : a ≠ g := fun e => h.ne (by rw [e]; rfl)
  refine ⟨?_, ?_, ?_⟩
  · rw [hl]; exact h.blk.set 0 _
  · rw [hl]
    have ho := h.own
    have h2 : w.ownsRow 0 58 2 (.slice (some ⟨a, 0, none⟩) n c) n ((fr (xs.take n)).map (Value.int .i64)) := by
      refine ⟨by rw [List.length_map, fr_len, hl], ?_⟩
      rcases ho.2 with ⟨h1, _⟩ | ⟨g', cap, cur, hv, hg', hh, h3, h4, h5, h6⟩
      · cases h1
      · injection hv with hv1 hv2 hv3
        subst hv3
        refine .inr ⟨g', c, cur, by injection hv1 with hv1; rw [hv1], hg', hh, by omega, h4, h5, ?_⟩
        have e1 : (fr (xs.take n)).map (Value.int .i64) = ((fr xs).map (Value.int .i64)).take (n * 2) := by rw [fr_takeN, List.map_take]
        rw [e1, ← h6, List.take_take]
        congr 1
        omega
    exact h2.kept (setCell_grown w g 0 _) (.inr (by intro e; injection e with e; exact hne e))
  · intro e; injection e with e; exact hne e
theorem Touch.newCell {g b o : Nat} {q : Option Nat} {w w' : World} (h : Touch g q w w') (hb : w.heap.size ≤ b) (u : Value) : Touch g q w (w'.setCell ⟨b, o, none⟩ u) :=
  ⟨h.os, h.tape, h.output, by simpa [World.setCell] using h.size, fun k hk h1 h2 => (Below.heap_setCell _ _ _ _ (by show k ≠ b; omega)).trans (h.block k hk h1 h2)⟩

set_option maxRecDepth 100000 in
set_option maxHeartbeats 4000000 in
theorem pop_busy (g a c n : Nat) (xs : List Rn) (w : World) (h : PileIs w g (.func (.func 29) #[] #[]) (some ⟨a, 0, none⟩) c xs) (hh : Heap Rn.e xs) (hn : xs.length = n + 1) (h100 : xs.length ≤ 100) :
    Calls Try.prog 32 #[.pointer (some ⟨g, 0, none⟩)] w (Popped Rn.e g (.func (.func 29) #[] #[]) a c xs w) := by
  have hg := h.lt
  obtain ⟨_, hA', hag, cp1, cp2, haw⟩ := h.at (i := 0) (by omega)
  injection hA' with hA'
  injection hA' with hA'
  subst hA'
  have c0 := h.blk.cell 0
  simp at c0
  obtain ⟨x0, x1⟩ := h.cell (i := 0) (by omega)
  rw [Nat.zero_mul] at x0 x1
  obtain ⟨y0, y1⟩ := h.cell (i := n) (by omega)
  have z0 := h.frozen 0
  have z1 := h.frozen 1
  obtain ⟨m, hm⟩ : ∃ m, m = xs.length := ⟨_, rfl⟩
  have HM := Lib.hid hm
  have HN := Lib.hid hn
  have HP := Lib.hid h
  have HH := Lib.hid hh
  have m1 : m = n + 1 := by omega
  rw [← hm] at c0 cp1
  have i0 : (0 : Int) < (m : Int) := by omega
  have i0n : 0 < m := by omega
  have i1 : (n : Int) < (m : Int) := by omega
  have e1 : (m : Int) - 1 = (n : Int) := by omega
  have m1' : m ≤ 100 := by omega
  have n100 : n ≤ 100 := by omega
  clear h hh hn hm m1
  go_enter Try.func32, Try.ntmps32
  go_wp2_with fail
  obtain ⟨wa, hwa⟩ : ∃ wa : World, wa = (w.alloc (.cells #[.int .i64 0, .int .i64 0] 58)).alloc (.cells #[.int .i64 (pg xs 0).s, .int .i64 (pg xs 0).e] 58) := ⟨_, rfl⟩
  have BA : Below w.heap.size w wa := by rw [hwa]; exact ((Below.refl _ _).alloc (Nat.le_refl _) _).alloc (by simp) _
  have R1 : Blk wa w.heap.size #[.int .i64 0, .int .i64 0] 58 := by rw [hwa]; exact (Blk.new w _ _).below ((Below.refl _ _).alloc (by simp) _)
  have R2 : Blk wa (w.heap.size + 1) #[.int .i64 (pg xs 0).s, .int .i64 (pg xs 0).e] 58 := by
    rw [hwa]
    have := Blk.new (w.alloc (.cells #[.int .i64 0, .int .i64 0] 58)) #[.int .i64 (pg xs 0).s, .int .i64 (pg xs 0).e] 58
    simpa using this
  have sa : wa.heap.size = w.heap.size + 2 := by rw [hwa]; simp
  rw [← hwa]
  have PA := HP.out.below BA
  have R1' := Lib.hid R1
  have R2' := Lib.hid R2
  have SA := Lib.hid sa
  have BA' := Lib.hid BA
  clear hwa c0 x0 x1 y0 y1 z0 z1 R1 R2 sa BA
  have c0 := PA.blk.cell 0
  simp at c0
  rw [← HM.out] at c0
  obtain ⟨y0, y1⟩ := PA.cell (i := n) (by have := HN.out; omega)
  have PA' := Lib.hid PA
  clear PA
  go_still_tail 12, (by kernel_rfl)
  change wpList _ _ _ _ _ wa.drew
  have BA := BA'.out
  have R1 := R1'.out
  have R2 := R2'.out
  have sa := SA.out
  have P1 : PileIs wa.drew g (.func (.func 29) #[] #[]) (some ⟨a, 0, none⟩) c xs := PA'.out.drew
  have TA := Lib.hid (show Touch g (some a) w wa.drew from (Below.touch BA).drew)
  have R1 : Blk wa.drew w.heap.size #[.int .i64 0, .int .i64 0] 58 := R1
  have R2 : Blk wa.drew (w.heap.size + 1) #[.int .i64 (pg xs 0).s, .int .i64 (pg xs 0).e] 58 := R2
  have sa : wa.drew.heap.size = w.heap.size + 2 := sa
  clear c0 y0 y1 BA
  generalize wa.drew = wb at P1 TA R1 R2 sa ⊢
  have c0 := P1.blk.cell 0
  simp at c0
  rw [← HM.out] at c0
  have x0 : ∃ v, wb.cell? ⟨a, 0, none⟩ = some v := ⟨_, by have := (P1.cell (i := 0) (by have := HM.out; omega)).1; rw [Nat.zero_mul] at this; exact this⟩
  have x1 : ∃ v, wb.cell? ⟨a, 1, none⟩ = some v := ⟨_, by have := (P1.cell (i := 0) (by have := HM.out; omega)).2; rw [Nat.zero_mul] at this; exact this⟩
  obtain ⟨v0, x0⟩ := x0
  obtain ⟨v1, x1⟩ := x1
  have z0 := P1.frozen 0
  have z1 := P1.frozen 1
  have f0 := P1.blk.frozen 0
  have P2 := P1.set 0 (pg xs n)
  rw [Nat.zero_mul] at P2
  have P2' := Lib.hid P2
  have TB := Lib.hid ((TA.out.trans (grown_touch (setCell_grown wb a 0 (.int .i64 (pg xs n).s)) (.inr (.inl rfl)))).trans (grown_touch (setCell_grown _ a 1 (.int .i64 (pg xs n).e)) (.inr (.inl rfl))))
  have R1 := Lib.hid (show Blk ((wb.setCell ⟨a, 0, none⟩ (.int .i64 (pg xs n).s)).setCell ⟨a, 1, none⟩ (.int .i64 (pg xs n).e)) w.heap.size #[.int .i64 0, .int .i64 0] 58 from (R1.touch (g := a) (q := none) (grown_touch (setCell_grown wb a 0 _) (.inl rfl)) (by omega) (by simp)).touch (g := a) (q := none) (grown_touch (setCell_grown _ a 1 _) (.inl rfl)) (by omega) (by simp))
  have R2 := Lib.hid (show Blk ((wb.setCell ⟨a, 0, none⟩ (.int .i64 (pg xs n).s)).setCell ⟨a, 1, none⟩ (.int .i64 (pg xs n).e)) (w.heap.size + 1) #[.int .i64 (pg xs 0).s, .int .i64 (pg xs 0).e] 58 from (R2.touch (g := a) (q := none) (grown_touch (setCell_grown wb a 0 _) (.inl rfl)) (by omega) (by simp)).touch (g := a) (q := none) (grown_touch (setCell_grown _ a 1 _) (.inl rfl)) (by omega) (by simp))
  clear P1 P2 TA sa
  go_wp2_with fail
  have P3 := Lib.hid (P2'.out.cut (n := n) (by rw [List.length_set, HN.out]; omega))
  have T3 := Lib.hid (TB.out.trans (grown_touch (setCell_grown _ g 0 (.slice (some ⟨a, 0, none⟩) n c)) (.inl rfl)))
  have R3 := Lib.hid (R1.out.touch (g := g) (q := none) (grown_touch (setCell_grown _ g 0 (.slice (some ⟨a, 0, none⟩) n c)) (.inl rfl)) (by omega) (by simp))
  have R4 := Lib.hid (R2.out.touch (g := g) (q := none) (grown_touch (setCell_grown _ g 0 (.slice (some ⟨a, 0, none⟩) n c)) (.inl rfl)) (by omega) (by simp))
  obtain ⟨zs, hz⟩ : ∃ zs, zs = (xs.set 0 (pg xs n)).take n := ⟨_, rfl⟩
  have zl : zs.length = n := by rw [hz, List.length_take, List.length_set, HN.out]; omega
  have ZD := Lib.hid (show DownInv Rn.e zs 0 by rw [hz]; exact down_start HH.out HN.out _)
  have ZP := Lib.hid (show (pg xs 0 :: zs).Perm xs by rw [hz]; exact last_perm HN.out)
  rw [← hz] at P3
  have ZL := Lib.hid zl
  clear hz zl P2' TB R1 R2 c0 x0 x1 z0 z1 f0 i0 i0n i1 e1 HH HP BA' SA PA' R1' R2'
  generalize hwq : World.setCell (World.setCell (wb.setCell ⟨a, 0, none⟩ (.int .i64 (pg xs n).s)) ⟨a, 1, none⟩ (.int .i64 (pg xs n).e)) ⟨g, 0, none⟩ (.slice (some ⟨a, 0, none⟩) n c) = wq at P3 T3 R3 R4 ⊢
  clear hwq
  go_wp2_with fail
  go_loopw [5] (fun p wr => ∃ (k : Nat) (ys : List Rn), p = .int .i64 k ∧ ys.length = n ∧ k ≤ n ∧ PileIs wr g (.func (.func 29) #[] #[]) (some ⟨a, 0, none⟩) c ys ∧ DownInv Rn.e ys k ∧ (pg xs 0 :: ys).Perm xs ∧ Touch g (some a) wq wr) (fun p _ => n - (intOf p).toNat)
  case atStart => exact ⟨0, zs, rfl, ZL.out, Nat.zero_le _, P3.out, ZD.out, ZP.out, Touch.refl _ _ _⟩
  case round =>
    obtain ⟨k, ys, rfl, hyl, hkn, hp, hdn, hperm, htch⟩ := hrel
    have HY := Lib.hid hyl
    have HD := Lib.hid hdn
    have HPE := Lib.hid hperm
    have HT := Lib.hid htch
    have P4 := Lib.hid hp
    clear hyl hdn hperm htch hp
    go_wp2_with fail
    go_loopw [6, 7] (fun l d wi => ∃ ln dn : Nat, l = .int .i64 ln ∧ d = .int .i64 dn ∧ 2 * k + 1 ≤ dn ∧ dn ≤ 2 * k + 3 ∧ LeastOk Rn.e ys k ln dn ∧ PileIs wi g (.func (.func 29) #[] #[]) (some ⟨a, 0, none⟩) c ys ∧ Touch g (some a) wq wi) (fun _ d _ => 2 * k + 3 - (intOf d).toNat)
    case atStart => exact ⟨k, 2 * k + 1, rfl, by go_num, by omega, by omega, LeastOk.start _ _ _, P4.out, HT.out⟩
    case round =>
      obtain ⟨ln, dn, rfl, rfl, d1, d2, hlo, hp, htch⟩ := hrel
      have HL := Lib.hid hlo
      have P5 := Lib.hid hp
      have T5 := Lib.hid htch
      clear hlo hp htch
      by_cases hc : dn ≤ 2 * k + 2 ∧ dn < n
      · obtain ⟨q1, q2⟩ := hc
        have hll : ln < n := by
          rcases HL.out.1 with e | ⟨_, _, e, _⟩
          · omega
          · rw [HY.out] at e; exact e
        have i1 : (dn : Int) < (n : Int) := by omega
        have i2 : (ln : Int) < (n : Int) := by omega
        have i3 : (dn : Int) ≤ 2 * (k : Int) + 2 := by omega
        have g0 := P5.out.blk.cell 0
        have g1 := P5.out.blk.cell 1
        simp at g0 g1
        rw [HY.out] at g0
        obtain ⟨x0, x1⟩ := P5.out.cell (i := dn) (by rw [HY.out]; exact q2)
        obtain ⟨y0, y1⟩ := P5.out.cell (i := ln) (by rw [HY.out]; exact hll)
        go_wp2_with fail
        go_still_tail 18, (by kernel_rfl)
        change wpList _ _ _ _ _ wr.drew
        have P6 : PileIs wr.drew g (.func (.func 29) #[] #[]) (some ⟨a, 0, none⟩) c ys := P5.out.drew
        have T6 := T5.out.drew
        clear g0 g1 x0 x1 y0 y1 P5 T5
        generalize wr.drew = w6 at P6 T6 ⊢
        go_wp2_with fail
        refine (less_busy (pg ys dn) (pg ys ln) _).mono ?_
        rintro e w7 ⟨rfl, b7⟩
        have P7 := Lib.hid (P6.below b7)
        have T7 := Lib.hid (T6.trans (Below.touch b7))
        clear b7 P6 T6
        by_cases hk : Rn.e (pg ys dn) < Rn.e (pg ys ln)
        · have dk : decide (Rn.e (pg ys dn) < Rn.e (pg ys ln)) = true := by simp; omega
          have L2 := Lib.hid (HL.out.yes (by omega) (by rw [HY.out]; exact q2) hk)
          clear hk
          go_wp2_with fail
          exact ⟨⟨dn, dn + 1, rfl, by go_num, by omega, by omega, L2.out, P7.out, T7.out⟩, by simp [intOf]; omega⟩
        · have dk : decide (Rn.e (pg ys dn) < Rn.e (pg ys ln)) = false := by simp; omega
          have L2 := Lib.hid (HL.out.no hk)
          clear hk
          go_wp2_with fail
          exact ⟨⟨ln, dn + 1, rfl, by go_num, by omega, by omega, L2.out, P7.out, T7.out⟩, by simp [intOf]; omega⟩
      · have LAST := Lib.hid (show ∀ i, (i = 2 * k + 1 ∨ i = 2 * k + 2) → i < n → Rn.e (pg ys ln) ≤ Rn.e (pg ys i) from fun i h1 h2 => HL.out.2 i h1 (by omega) (by rw [HY.out]; exact h2))
        have hor : 2 * k + 2 < dn ∨ (dn ≤ 2 * k + 2 ∧ n ≤ dn) := by omega
        clear hc
        have hrest : ln = k ∨ ((ln = 2 * k + 1 ∨ ln = 2 * k + 2) ∧ ln < n ∧ Rn.e (pg ys ln) < Rn.e (pg ys k)) := by
          rcases HL.out.1 with e | ⟨e1, _, e2, e3⟩
          · exact .inl e
          · exact .inr ⟨e1, by rw [HY.out] at e2; exact e2, e3⟩
        have HR := Lib.hid hrest
        clear hrest
        have BT := R4.out.touch T5.out (by omega) (by simp; omega)
        have BR := R3.out.touch T5.out (by omega) (by simp; omega)
        rcases hor with hor | ⟨hor1, hor2⟩
        all_goals
          rcases HR.out with e9 | ⟨e9, e8, e7⟩
          · subst e9
            have k0 := BT.cell 0
            have k1 := BT.cell 1
            have j0 := BR.cell 0
            have j1 := BR.cell 1
            have u0 := BR.frozen 0
            have u1 := BR.frozen 1
            simp at k0 k1 j0 j1
            have BB := (BR.set 0 (.int .i64 (pg xs 0).s)).set 1 (.int .i64 (pg xs 0).e)
            have q0 := BB.cell 0
            have q1 := BB.cell 1
            simp at q0 q1
            have Q0 := Lib.hid q0
            have Q1 := Lib.hid q1
            have PF := Lib.hid ((P5.out.touch (g' := w.heap.size) (q' := none) (grown_touch (setCell_grown wr w.heap.size 0 (.int .i64 (pg xs 0).s)) (.inl rfl)) (by omega) (by simp) (by intro e; injection e with e; have e' : a = w.heap.size := e; omega) (by simp)).touch (g' := w.heap.size) (q' := none) (grown_touch (setCell_grown _ w.heap.size 1 (.int .i64 (pg xs 0).e)) (.inl rfl)) (by omega) (by simp) (by intro e; injection e with e; have e' : a = w.heap.size := e; omega) (by simp))
            have TF := Lib.hid (((T3.out.trans T5.out).newCell (b := w.heap.size) (o := 0) (Nat.le_refl _) (.int .i64 (pg xs 0).s)).newCell (b := w.heap.size) (o := 1) (Nat.le_refl _) (.int .i64 (pg xs 0).e))
            have HF := Lib.hid (down_done HD.out (fun i h1 h2 => LAST.out i h1 (by rw [HY.out] at h2; exact h2)))
            clear q0 q1 BB BT BR
            go_wp2_with fail
            have q0 := Q0.out
            have q1 := Q1.out
            exact bodyPost_ret (v := .agg #[.int .i64 (pg xs 0).s, .int .i64 (pg xs 0).e]) (by simp [results, Try.results32, go_sem, q0, q1]) rfl ⟨rfl, ys, PF.out, HF.out, HPE.out, TF.out⟩
          · have ne : ((ln : Int) == (k : Int)) = false := by rw [beq_eq_false_iff_ne]; omega
            have kn : k < n := by omega
            have kl : k < ln := by omega
            have i2 : (ln : Int) < (n : Int) := by omega
            have i3 : (k : Int) < (n : Int) := by omega
            have g0 := P5.out.blk.cell 0
            simp at g0
            rw [HY.out] at g0
            obtain ⟨x0, x1⟩ := P5.out.cell (i := k) (by rw [HY.out]; exact kn)
            obtain ⟨y0, y1⟩ := P5.out.cell (i := ln) (by rw [HY.out]; exact e8)
            have z0 := P5.out.frozen (k * 2)
            have z1 := P5.out.frozen (k * 2 + 1)
            have z2 := P5.out.frozen (ln * 2)
            have z3 := P5.out.frozen (ln * 2 + 1)
            have E9 := Lib.hid e9
            have E7 := Lib.hid e7
            clear BT BR e9 e7
            go_wp2_with fail
            go_region
            have P6 := ((P5.out.set k (pg ys ln)).set ln (pg ys k)).drew
            have T6 : Touch g (some a) wq _ := (((((T5.out.trans (grown_touch (setCell_grown wr a (k * 2) (.int .i64 (pg ys ln).s)) (.inr (.inl rfl)))).trans (grown_touch (setCell_grown _ a (k * 2 + 1) (.int .i64 (pg ys ln).e)) (.inr (.inl rfl)))).trans (grown_touch (setCell_grown _ a (ln * 2) (.int .i64 (pg ys k).s)) (.inr (.inl rfl)))).trans (grown_touch (setCell_grown _ a (ln * 2 + 1) (.int .i64 (pg ys k).e)) (.inr (.inl rfl))))).drew
            have R := Lib.hid (And.intro P6 T6)
            clear P6 T6 g0 x0 x1 y0 y1 z0 z1 z2 z3 P5 T5
            go_wp2_with fail
            exact ⟨⟨ln, sw ys k ln, by go_num, by rw [sw_len]; exact HY.out, by omega, R.out.1, down_step HD.out E9.out (by rw [HY.out]; exact e8) E7.out (fun i h1 h2 => LAST.out i h1 (by rw [HY.out] at h2; exact h2)), (((sw_perm ys k ln (by rw [HY.out]; exact kn) (by rw [HY.out]; exact e8)).cons _).trans HPE.out), R.out.2⟩, by simp [intOf]; omega⟩
set_option maxRecDepth 100000 in
set_option maxHeartbeats 4000000 in
theorem pop_idle (g a c n : Nat) (xs : List Rn) (w : World) (h : PileIs w g (.func (.func 30) #[] #[]) (some ⟨a, 0, none⟩) c xs) (hh : Heap Rn.s xs) (hn : xs.length = n + 1) (h100 : xs.length ≤ 100) :
    Calls Try.prog 32 #[.pointer (some ⟨g, 0, none⟩)] w (Popped Rn.s g (.func (.func 30) #[] #[]) a c xs w) := by
  have hg := h.lt
  obtain ⟨_, hA', hag, cp1, cp2, haw⟩ := h.at (i := 0) (by omega)
  injection hA' with hA'
  injection hA' with hA'
  subst hA'
  have c0 := h.blk.cell 0
  simp at c0
  obtain ⟨x0, x1⟩ := h.cell (i := 0) (by omega)
  rw [Nat.zero_mul] at x0 x1
  obtain ⟨y0, y1⟩ := h.cell (i := n) (by omega)
  have z0 := h.frozen 0
  have z1 := h.frozen 1
  obtain ⟨m, hm⟩ : ∃ m, m = xs.length := ⟨_, rfl⟩
  have HM := Lib.hid hm
  have HN := Lib.hid hn
  have HP := Lib.hid h
  have HH := Lib.hid hh
  have m1 : m = n + 1 := by omega
  rw [← hm] at c0 cp1
  have i0 : (0 : Int) < (m : Int) := by omega
  have i0n : 0 < m := by omega
  have i1 : (n : Int) < (m : Int) := by omega
  have e1 : (m : Int) - 1 = (n : Int) := by omega
  have m1' : m ≤ 100 := by omega
  have n100 : n ≤ 100 := by omega
  clear h hh hn hm m1
  go_enter Try.func32, Try.ntmps32
  go_wp2_with fail
  obtain ⟨wa, hwa⟩ : ∃ wa : World, wa = (w.alloc (.cells #[.int .i64 0, .int .i64 0] 58)).alloc (.cells #[.int .i64 (pg xs 0).s, .int .i64 (pg xs 0).e] 58) := ⟨_, rfl⟩
  have BA : Below w.heap.size w wa := by rw [hwa]; exact ((Below.refl _ _).alloc (Nat.le_refl _) _).alloc (by simp) _
  have R1 : Blk wa w.heap.size #[.int .i64 0, .int .i64 0] 58 := by rw [hwa]; exact (Blk.new w _ _).below ((Below.refl _ _).alloc (by simp) _)
  have R2 : Blk wa (w.heap.size + 1) #[.int .i64 (pg xs 0).s, .int .i64 (pg xs 0).e] 58 := by
    rw [hwa]
    have := Blk.new (w.alloc (.cells #[.int .i64 0, .int .i64 0] 58)) #[.int .i64 (pg xs 0).s, .int .i64 (pg xs 0).e] 58
    simpa using this
  have sa : wa.heap.size = w.heap.size + 2 := by rw [hwa]; simp
  rw [← hwa]
  have PA := HP.out.below BA
  have R1' := Lib.hid R1
  have R2' := Lib.hid R2
  have SA := Lib.hid sa
  have BA' := Lib.hid BA
  clear hwa c0 x0 x1 y0 y1 z0 z1 R1 R2 sa BA
  have c0 := PA.blk.cell 0
  simp at c0
  rw [← HM.out] at c0
  obtain ⟨y0, y1⟩ := PA.cell (i := n) (by have := HN.out; omega)
  have PA' := Lib.hid PA
  clear PA
  go_still_tail 12, (by kernel_rfl)
  change wpList _ _ _ _ _ wa.drew
  have BA := BA'.out
  have R1 := R1'.out
  have R2 := R2'.out
  have sa := SA.out
  have P1 : PileIs wa.drew g (.func (.func 30) #[] #[]) (some ⟨a, 0, none⟩) c xs := PA'.out.drew
  have TA := Lib.hid (show Touch g (some a) w wa.drew from (Below.touch BA).drew)
  have R1 : Blk wa.drew w.heap.size #[.int .i64 0, .int .i64 0] 58 := R1
  have R2 : Blk wa.drew (w.heap.size + 1) #[.int .i64 (pg xs 0).s, .int .i64 (pg xs 0).e] 58 := R2
  have sa : wa.drew.heap.size = w.heap.size + 2 := sa
  clear c0 y0 y1 BA
  generalize wa.drew = wb at P1 TA R1 R2 sa ⊢
  have c0 := P1.blk.cell 0
  simp at c0
  rw [← HM.out] at c0
  have x0 : ∃ v, wb.cell? ⟨a, 0, none⟩ = some v := ⟨_, by have := (P1.cell (i := 0) (by have := HM.out; omega)).1; rw [Nat.zero_mul] at this; exact this⟩
  have x1 : ∃ v, wb.cell? ⟨a, 1, none⟩ = some v := ⟨_, by have := (P1.cell (i := 0) (by have := HM.out; omega)).2; rw [Nat.zero_mul] at this; exact this⟩
  obtain ⟨v0, x0⟩ := x0
  obtain ⟨v1, x1⟩ := x1
  have z0 := P1.frozen 0
  have z1 := P1.frozen 1
  have f0 := P1.blk.frozen 0
  have P2 := P1.set 0 (pg xs n)
  rw [Nat.zero_mul] at P2
  have P2' := Lib.hid P2
  have TB := Lib.hid ((TA.out.trans (grown_touch (setCell_grown wb a 0 (.int .i64 (pg xs n).s)) (.inr (.inl rfl)))).trans (grown_touch (setCell_grown _ a 1 (.int .i64 (pg xs n).e)) (.inr (.inl rfl))))
  have R1 := Lib.hid (show Blk ((wb.setCell ⟨a, 0, none⟩ (.int .i64 (pg xs n).s)).setCell ⟨a, 1, none⟩ (.int .i64 (pg xs n).e)) w.heap.size #[.int .i64 0, .int .i64 0] 58 from (R1.touch (g := a) (q := none) (grown_touch (setCell_grown wb a 0 _) (.inl rfl)) (by omega) (by simp)).touch (g := a) (q := none) (grown_touch (setCell_grown _ a 1 _) (.inl rfl)) (by omega) (by simp))
  have R2 := Lib.hid (show Blk ((wb.setCell ⟨a, 0, none⟩ (.int .i64 (pg xs n).s)).setCell ⟨a, 1, none⟩ (.int .i64 (pg xs n).e)) (w.heap.size + 1) #[.int .i64 (pg xs 0).s, .int .i64 (pg xs 0).e] 58 from (R2.touch (g := a) (q := none) (grown_touch (setCell_grown wb a 0 _) (.inl rfl)) (by omega) (by simp)).touch (g := a) (q := none) (grown_touch (setCell_grown _ a 1 _) (.inl rfl)) (by omega) (by simp))
  clear P1 P2 TA sa
  go_wp2_with fail
  have P3 := Lib.hid (P2'.out.cut (n := n) (by rw [List.length_set, HN.out]; omega))
  have T3 := Lib.hid (TB.out.trans (grown_touch (setCell_grown _ g 0 (.slice (some ⟨a, 0, none⟩) n c)) (.inl rfl)))
  have R3 := Lib.hid (R1.out.touch (g := g) (q := none) (grown_touch (setCell_grown _ g 0 (.slice (some ⟨a, 0, none⟩) n c)) (.inl rfl)) (by omega) (by simp))
  have R4 := Lib.hid (R2.out.touch (g := g) (q := none) (grown_touch (setCell_grown _ g 0 (.slice (some ⟨a, 0, none⟩) n c)) (.inl rfl)) (by omega) (by simp))
  obtain ⟨zs, hz⟩ : ∃ zs, zs = (xs.set 0 (pg xs n)).take n := ⟨_, rfl⟩
  have zl : zs.length = n := by rw [hz, List.length_take, List.length_set, HN.out]; omega
  have ZD := Lib.hid (show DownInv Rn.s zs 0 by rw [hz]; exact down_start HH.out HN.out _)
  have ZP := Lib.hid (show (pg xs 0 :: zs).Perm xs by rw [hz]; exact last_perm HN.out)
  rw [← hz] at P3
  have ZL := Lib.hid zl
  clear hz zl P2' TB R1 R2 c0 x0 x1 z0 z1 f0 i0 i0n i1 e1 HH HP BA' SA PA' R1' R2'
  generalize hwq : World.setCell (World.setCell (wb.setCell ⟨a, 0, none⟩ (.int .i64 (pg xs n).s)) ⟨a, 1, none⟩ (.int .i64 (pg xs n).e)) ⟨g, 0, none⟩ (.slice (some ⟨a, 0, none⟩) n c) = wq at P3 T3 R3 R4 ⊢
  clear hwq
  go_wp2_with fail
  go_loopw [5] (fun p wr => ∃ (k : Nat) (ys : List Rn), p = .int .i64 k ∧ ys.length = n ∧ k ≤ n ∧ PileIs wr g (.func (.func 30) #[] #[]) (some ⟨a, 0, none⟩) c ys ∧ DownInv Rn.s ys k ∧ (pg xs 0 :: ys).Perm xs ∧ Touch g (some a) wq wr) (fun p _ => n - (intOf p).toNat)
  case atStart => exact ⟨0, zs, rfl, ZL.out, Nat.zero_le _, P3.out, ZD.out, ZP.out, Touch.refl _ _ _⟩
  case round =>
    obtain ⟨k, ys, rfl, hyl, hkn, hp, hdn, hperm, htch⟩ := hrel
    have HY := Lib.hid hyl
    have HD := Lib.hid hdn
    have HPE := Lib.hid hperm
    have HT := Lib.hid htch
    have P4 := Lib.hid hp
    clear hyl hdn hperm htch hp
    go_wp2_with fail
    go_loopw [6, 7] (fun l d wi => ∃ ln dn : Nat, l = .int .i64 ln ∧ d = .int .i64 dn ∧ 2 * k + 1 ≤ dn ∧ dn ≤ 2 * k + 3 ∧ LeastOk Rn.s ys k ln dn ∧ PileIs wi g (.func (.func 30) #[] #[]) (some ⟨a, 0, none⟩) c ys ∧ Touch g (some a) wq wi) (fun _ d _ => 2 * k + 3 - (intOf d).toNat)
    case atStart => exact ⟨k, 2 * k + 1, rfl, by go_num, by omega, by omega, LeastOk.start _ _ _, P4.out, HT.out⟩
    case round =>
      obtain ⟨ln, dn, rfl, rfl, d1, d2, hlo, hp, htch⟩ := hrel
      have HL := Lib.hid hlo
      have P5 := Lib.hid hp
      have T5 := Lib.hid htch
      clear hlo hp htch
      by_cases hc : dn ≤ 2 * k + 2 ∧ dn < n
      · obtain ⟨q1, q2⟩ := hc
        have hll : ln < n := by
          rcases HL.out.1 with e | ⟨_, _, e, _⟩
          · omega
          · rw [HY.out] at e; exact e
        have i1 : (dn : Int) < (n : Int) := by omega
        have i2 : (ln : Int) < (n : Int) := by omega
        have i3 : (dn : Int) ≤ 2 * (k : Int) + 2 := by omega
        have g0 := P5.out.blk.cell 0
        have g1 := P5.out.blk.cell 1
        simp at g0 g1
        rw [HY.out] at g0
        obtain ⟨x0, x1⟩ := P5.out.cell (i := dn) (by rw [HY.out]; exact q2)
        obtain ⟨y0, y1⟩ := P5.out.cell (i := ln) (by rw [HY.out]; exact hll)
        go_wp2_with fail
        go_still_tail 18, (by kernel_rfl)
        change wpList _ _ _ _ _ wr.drew
        have P6 : PileIs wr.drew g (.func (.func 30) #[] #[]) (some ⟨a, 0, none⟩) c ys := P5.out.drew
        have T6 := T5.out.drew
        clear g0 g1 x0 x1 y0 y1 P5 T5
        generalize wr.drew = w6 at P6 T6 ⊢
        go_wp2_with fail
        refine (less_idle (pg ys dn) (pg ys ln) _).mono ?_
        rintro e w7 ⟨rfl, b7⟩
        have P7 := Lib.hid (P6.below b7)
        have T7 := Lib.hid (T6.trans (Below.touch b7))
        clear b7 P6 T6
        by_cases hk : Rn.s (pg ys dn) < Rn.s (pg ys ln)
        · have dk : decide (Rn.s (pg ys dn) < Rn.s (pg ys ln)) = true := by simp; omega
          have L2 := Lib.hid (HL.out.yes (by omega) (by rw [HY.out]; exact q2) hk)
          clear hk
          go_wp2_with fail
          exact ⟨⟨dn, dn + 1, rfl, by go_num, by omega, by omega, L2.out, P7.out, T7.out⟩, by simp [intOf]; omega⟩
        · have dk : decide (Rn.s (pg ys dn) < Rn.s (pg ys ln)) = false := by simp; omega
          have L2 := Lib.hid (HL.out.no hk)
          clear hk
          go_wp2_with fail
          exact ⟨⟨ln, dn + 1, rfl, by go_num, by omega, by omega, L2.out, P7.out, T7.out⟩, by simp [intOf]; omega⟩
      · have LAST := Lib.hid (show ∀ i, (i = 2 * k + 1 ∨ i = 2 * k + 2) → i < n → Rn.s (pg ys ln) ≤ Rn.s (pg ys i) from fun i h1 h2 => HL.out.2 i h1 (by omega) (by rw [HY.out]; exact h2))
        have hor : 2 * k + 2 < dn ∨ (dn ≤ 2 * k + 2 ∧ n ≤ dn) := by omega
        clear hc
        have hrest : ln = k ∨ ((ln = 2 * k + 1 ∨ ln = 2 * k + 2) ∧ ln < n ∧ Rn.s (pg ys ln) < Rn.s (pg ys k)) := by
          rcases HL.out.1 with e | ⟨e1, _, e2, e3⟩
          · exact .inl e
          · exact .inr ⟨e1, by rw [HY.out] at e2; exact e2, e3⟩
        have HR := Lib.hid hrest
        clear hrest
        have BT := R4.out.touch T5.out (by omega) (by simp; omega)
        have BR := R3.out.touch T5.out (by omega) (by simp; omega)
        rcases hor with hor | ⟨hor1, hor2⟩
        all_goals
          rcases HR.out with e9 | ⟨e9, e8, e7⟩
          · subst e9
            have k0 := BT.cell 0
            have k1 := BT.cell 1
            have j0 := BR.cell 0
            have j1 := BR.cell 1
            have u0 := BR.frozen 0
            have u1 := BR.frozen 1
            simp at k0 k1 j0 j1
            have BB := (BR.set 0 (.int .i64 (pg xs 0).s)).set 1 (.int .i64 (pg xs 0).e)
            have q0 := BB.cell 0
            have q1 := BB.cell 1
            simp at q0 q1
            have Q0 := Lib.hid q0
            have Q1 := Lib.hid q1
            have PF := Lib.hid ((P5.out.touch (g' := w.heap.size) (q' := none) (grown_touch (setCell_grown wr w.heap.size 0 (.int .i64 (pg xs 0).s)) (.inl rfl)) (by omega) (by simp) (by intro e; injection e with e; have e' : a = w.heap.size := e; omega) (by simp)).touch (g' := w.heap.size) (q' := none) (grown_touch (setCell_grown _ w.heap.size 1 (.int .i64 (pg xs 0).e)) (.inl rfl)) (by omega) (by simp) (by intro e; injection e with e; have e' : a = w.heap.size := e; omega) (by simp))
            have TF := Lib.hid (((T3.out.trans T5.out).newCell (b := w.heap.size) (o := 0) (Nat.le_refl _) (.int .i64 (pg xs 0).s)).newCell (b := w.heap.size) (o := 1) (Nat.le_refl _) (.int .i64 (pg xs 0).e))
            have HF := Lib.hid (down_done HD.out (fun i h1 h2 => LAST.out i h1 (by rw [HY.out] at h2; exact h2)))
            clear q0 q1 BB BT BR
            go_wp2_with fail
            have q0 := Q0.out
            have q1 := Q1.out
            exact bodyPost_ret (v := .agg #[.int .i64 (pg xs 0).s, .int .i64 (pg xs 0).e]) (by simp [results, Try.results32, go_sem, q0, q1]) rfl ⟨rfl, ys, PF.out, HF.out, HPE.out, TF.out⟩
          · have ne : ((ln : Int) == (k : Int)) = false := by rw [beq_eq_false_iff_ne]; omega
            have kn : k < n := by omega
            have kl : k < ln := by omega
            have i2 : (ln : Int) < (n : Int) := by omega
            have i3 : (k : Int) < (n : Int) := by omega
            have g0 := P5.out.blk.cell 0
            simp at g0
            rw [HY.out] at g0
            obtain ⟨x0, x1⟩ := P5.out.cell (i := k) (by rw [HY.out]; exact kn)
            obtain ⟨y0, y1⟩ := P5.out.cell (i := ln) (by rw [HY.out]; exact e8)
            have z0 := P5.out.frozen (k * 2)
            have z1 := P5.out.frozen (k * 2 + 1)
            have z2 := P5.out.frozen (ln * 2)
            have z3 := P5.out.frozen (ln * 2 + 1)
            have E9 := Lib.hid e9
            have E7 := Lib.hid e7
            clear BT BR e9 e7
            go_wp2_with fail
            go_region
            have P6 := ((P5.out.set k (pg ys ln)).set ln (pg ys k)).drew
            have T6 : Touch g (some a) wq _ := (((((T5.out.trans (grown_touch (setCell_grown wr a (k * 2) (.int .i64 (pg ys ln).s)) (.inr (.inl rfl)))).trans (grown_touch (setCell_grown _ a (k * 2 + 1) (.int .i64 (pg ys ln).e)) (.inr (.inl rfl)))).trans (grown_touch (setCell_grown _ a (ln * 2) (.int .i64 (pg ys k).s)) (.inr (.inl rfl)))).trans (grown_touch (setCell_grown _ a (ln * 2 + 1) (.int .i64 (pg ys k).e)) (.inr (.inl rfl))))).drew
            have R := Lib.hid (And.intro P6 T6)
            clear P6 T6 g0 x0 x1 y0 y1 z0 z1 z2 z3 P5 T5
            go_wp2_with fail
            exact ⟨⟨ln, sw ys k ln, by go_num, by rw [sw_len]; exact HY.out, by omega, R.out.1, down_step HD.out E9.out (by rw [HY.out]; exact e8) E7.out (fun i h1 h2 => LAST.out i h1 (by rw [HY.out] at h2; exact h2)), (((sw_perm ys k ln (by rw [HY.out]; exact kn) (by rw [HY.out]; exact e8)).cons _).trans HPE.out), R.out.2⟩, by simp [intOf]; omega⟩
end Go.Proofs.Ytmnoidgfcpbmgaa
