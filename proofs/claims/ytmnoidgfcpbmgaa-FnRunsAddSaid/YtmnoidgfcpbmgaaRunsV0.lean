import Derived.Test.YtmnoidgfcpbmgaaRunsS
import Derived.Test.YtmnoidgfcpbmgaaRunsD
import Derived.BigRegion
import Derived.Deep.RegionLaw
import Derived.Deep.AppendLies
import Derived.StillTailTactics
namespace Go.Proofs.Ytmnoidgfcpbmgaa
open Go.RowKit

theorem team_info : (Try.prog.info? 58).map (fun i => (i.zero, i.size, i.bytes)) = some (some (.agg #[.int .i64 0, .int .i64 0]), 2, 16) := by kernel_rfl

theorem PileIs.drew {w : World} {g c : Nat} {F : Value} {A : Option Addr} {xs : List Rn} (h : PileIs w g F A c xs) : PileIs w.drew g F A c xs := h.below (w' := w.drew) ⟨rfl, rfl, rfl, Nat.le_refl _, fun _ _ => rfl⟩
theorem PileIs.drewN {w : World} {g c : Nat} {F : Value} {A : Option Addr} {xs : List Rn} (h : PileIs w g F A c xs) (n : Nat) : PileIs (w.drewN n) g F A c xs := h.below (w' := w.drewN n) ⟨rfl, rfl, rfl, Nat.le_refl _, fun _ _ => rfl⟩

theorem PileIs.pushed {w3 : World} {g c gg cap : Nat} {F : Value} {A : Option Addr} {xs : List Rn} {v : Rn} (hb3 : Blk w3 g #[.slice A xs.length c, F] 62)
    (ho : w3.ownsRow 0 58 2 (.slice (some ⟨gg, 0, none⟩) (xs.length + 1) cap) (xs.length + 1) ((fr xs).map (Value.int .i64) ++ [.int .i64 v.s, .int .i64 v.e])) (hne : gg ≠ g) :
    PileIs (w3.setCell ⟨g, 0, none⟩ (.slice (some ⟨gg, 0, none⟩) (xs.length + 1) cap)) g F (some ⟨gg, 0, none⟩) cap (xs ++ [v]) := by
  have hl : (xs ++ [v]).length = xs.length + 1 := by simp
  have hf : (fr (xs ++ [v])).map (Value.int .i64) = (fr xs).map (Value.int .i64) ++ [.int .i64 v.s, .int .i64 v.e] := by rw [fr_append, List.map_append]; rfl
  refine ⟨?_, ?_, ?_⟩
  · rw [hl]; exact hb3.set 0 _
  · rw [hl, hf]; exact ho.kept (setCell_grown w3 g 0 _) (.inr (by intro e; injection e with e; exact hne e))
  · intro e; injection e with e; exact hne e

/-- What push leaves. -/
def Pushed (key : Rn → Int) (g : Nat) (F : Value) (A : Option Addr) (c : Nat) (xs : List Rn) (v : Rn) (w : World) (e : Ending) (w' : World) : Prop :=
  e = .returned (.tuple #[]) ∧ ∃ (a c' : Nat) (ys : List Rn), PileIs w' g F (some ⟨a, 0, none⟩) c' ys ∧ Heap key ys ∧ ys.Perm (xs ++ [v]) ∧ Touch g (Value.slice A xs.length c).ownBlock w w' ∧ ((Value.slice A xs.length c).ownBlock = some a ∨ w.heap.size ≤ a)

theorem less_busy (a b : Rn) (w : World) :
    Calls Try.prog 29 #[.agg #[.int .i64 a.s, .int .i64 a.e], .agg #[.int .i64 b.s, .int .i64 b.e]] w fun e w' => e = .returned (.bool (decide (Rn.e a < Rn.e b))) ∧ Below w.heap.size w w' := by
  go_enter Try.func29, Try.ntmps29
  go_wp2
  go_ret
  exact ⟨rfl, ((Below.refl _ _).alloc (Nat.le_refl _) _).alloc (by simp) _⟩

set_option maxRecDepth 100000 in
set_option maxHeartbeats 2000000 in
theorem push_busy (g c : Nat) (A : Option Addr) (xs : List Rn) (v : Rn) (w : World) (h : PileIs w g (.func (.func 29) #[] #[]) A c xs) (hh : Heap Rn.e xs) (hn : xs.length ≤ 100) :
    Calls Try.prog 31 #[.pointer (some ⟨g, 0, none⟩), .agg #[.int .i64 v.s, .int .i64 v.e]] w (Pushed Rn.e g (.func (.func 29) #[] #[]) A c xs v w) := by
  obtain ⟨i0, hi0, hz0, hz1, hz2⟩ := info_parts team_info
  have hg := h.lt
  have c0 := h.blk.cell 0
  have c1 := h.blk.cell 1
  have f0 := h.blk.frozen 0
  simp at c0 c1
  have O := h.own
  have hne := h.ne
  have HP := Lib.hid h
  have HH := Lib.hid hh
  have NEWS : ∀ (j : Nat) (u : Value), [Value.int .i64 v.s, Value.int .i64 v.e][j]? = some u → (((w.alloc (.cells #[.int .i64 v.s, .int .i64 v.e] 58)).alloc (.cells #[.int .i64 v.s, .int .i64 v.e] 58)).drew).cell? ((⟨w.heap.size + 1, 0, none⟩ : Addr).add j) = some u := cells2_new' w _ _ _ _
  have HNEWS := Lib.hid NEWS
  have BEL := Lib.hid (show Below w.heap.size w (((w.alloc (.cells #[.int .i64 v.s, .int .i64 v.e] 58)).alloc (.cells #[.int .i64 v.s, .int .i64 v.e] 58)).drew) from (((Below.refl _ _).alloc (Nat.le_refl _) _).alloc (by simp) _).drew)
  clear h NEWS hh
  go_enter Try.func31, Try.ntmps31
  go_wp2_with fail
  go_region_law ((refine step_append_lies _ (by rfl) _ _ _ (by rfl) 0 58 i0 _ 2 16 Try.underlying60 hi0 hz0 hz1 hz2 rfl (by omega) _ _ _ (by rfl) (((O.alloc _).alloc _).drew) ⟨w.heap.size + 1, 0, none⟩ 1 1 [.int .i64 v.s, .int .i64 v.e] (by rfl) (by rfl) HNEWS.out (by simp [Value.oneCell']) (by omega) (by unfold maxLen; omega) (by omega) (by omega) (w.heap.size + 1 + 1) (by simp) ?_; intro gg cap w3 hown' hgrow hat hlt'; have hb3 : Blk w3 g #[.slice A xs.length c, .func (.func 29) #[] #[]] 62 := (hgrow.block g (by simp; omega) (fun e => hne e.symm)).trans (HP.out.blk.below BEL.out); have c3 := hb3.cell 0; have f3 := hb3.frozen 0; simp at c3))
  all_goals
    have hgg : gg ≠ g := by
      rcases hat with e | e
      · exact fun e' => hne (by rw [e, e'])
      · omega
    have PQ := Lib.hid (PileIs.pushed hb3 hown' hgg)
    have TQ : Hid (Touch g (Value.slice A xs.length c).ownBlock w (w3.setCell ⟨g, 0, none⟩ (.slice (some ⟨gg, 0, none⟩) (xs.length + 1) cap))) := Lib.hid (((Below.touch BEL.out).trans (grown_touch hgrow (.inr (.inl rfl)))).trans (grown_touch (setCell_grown w3 g 0 _) (.inl rfl)))
    have HAT := Lib.hid (show (Value.slice A xs.length c).ownBlock = some gg ∨ w.heap.size ≤ gg from hat.imp id (fun e => by omega))
    clear hb3 c3 f3 hown' hgrow hat hlt' c0 c1 f0 O HP HNEWS BEL
    generalize w3.setCell ⟨g, 0, none⟩ (.slice (some ⟨gg, 0, none⟩) (xs.length + 1) cap) = wq at PQ TQ ⊢
    have q0 := PQ.out.blk.cell 0
    simp at q0
    go_wp2_with fail
    go_loopw [4] (fun p wr => ∃ (a : Nat) (ys : List Rn), p = .int .i64 a ∧ ys.length = xs.length + 1 ∧ a ≤ xs.length ∧ PileIs wr g (.func (.func 29) #[] #[]) (some ⟨gg, 0, none⟩) cap ys ∧ UpInv Rn.e ys a ∧ ys.Perm (xs ++ [v]) ∧ Touch g (some gg) wq wr) (fun p _ => (intOf p).toNat)
    case atStart => exact ⟨xs.length, xs ++ [v], by go_num, by simp, Nat.le_refl _, PQ.out, up_start HH.out v, List.Perm.refl _, Touch.refl _ _ _⟩
    case round =>
      obtain ⟨a, ys, rfl, hyl, hal, hp, hup, hperm, htch⟩ := hrel
      have HY := Lib.hid hyl
      have HU := Lib.hid hup
      have HPE := Lib.hid hperm
      have HT := Lib.hid htch
      have P1 := Lib.hid hp
      obtain ⟨a', hA', -, cp1, cp2, -⟩ := hp.at (i := a) (by omega)
      injection hA' with hA'
      injection hA' with hA'
      subst hA'
      clear hyl hup hperm htch hp q0
      have yl : a < ys.length := by have := HY.out; omega
      have yl2 : ys.length ≤ 101 := by have := HY.out; omega
      by_cases ha : 0 < a
      · obtain ⟨u, hu⟩ : ∃ u : Nat, u = (a - 1) / 2 := ⟨_, rfl⟩
        have eu : ((a : Int) - 1) / 2 = (u : Int) := by omega
        have hul : u < a := by omega
        have hu2 : u < ys.length := by omega
        have HUU := Lib.hid hu
        clear hu
        have g0 := P1.out.blk.cell 0
        have g1 := P1.out.blk.cell 1
        simp at g0 g1
        obtain ⟨x0, x1⟩ := P1.out.cell yl
        obtain ⟨y0, y1⟩ := P1.out.cell hu2
        have i1 : (a : Int) < (ys.length : Int) := by omega
        have i2 : (u : Int) < (ys.length : Int) := by omega
        have ha0 : (0 : Int) < (a : Int) := by omega
        go_wp2_with fail
        clear eu
        go_still_tail 18, (by kernel_rfl)
        change wpList _ _ _ _ _ wr.drew
        have P2 : PileIs wr.drew g (.func (.func 29) #[] #[]) (some ⟨gg, 0, none⟩) cap ys := P1.out.drew
        have T2 := HT.out.drew
        clear g0 g1 x0 x1 y0 y1 P1 HT
        generalize wr.drew = w4 at P2 T2 ⊢
        go_wp2_with fail
        refine (less_busy (pg ys a) (pg ys u) _).mono ?_
        rintro e w5 ⟨rfl, b5⟩
        have P5 := Lib.hid (P2.below b5)
        have T5 := Lib.hid (T2.trans (Below.touch b5))
        clear b5 P2 T2
        by_cases hk : Rn.e (pg ys a) < Rn.e (pg ys u)
        · skip
          have HK := Lib.hid hk
          have dk : decide (Rn.e (pg ys a) < Rn.e (pg ys u)) = true := by simp; omega
          have g0 := P5.out.blk.cell 0
          simp at g0
          obtain ⟨x0, x1⟩ := P5.out.cell yl
          obtain ⟨y0, y1⟩ := P5.out.cell hu2
          have z0 := P5.out.frozen (a * 2)
          have z1 := P5.out.frozen (a * 2 + 1)
          have z2 := P5.out.frozen (u * 2)
          have z3 := P5.out.frozen (u * 2 + 1)
          clear hk
          go_wp2_with fail
          go_region
          have P6 := ((P5.out.set a (pg ys u)).set u (pg ys a)).drew
          have T6 : Touch g (some gg) wq _ := (((((T5.out.trans (grown_touch (setCell_grown w5 gg (a * 2) (.int .i64 (pg ys u).s)) (.inr (.inl rfl)))).trans (grown_touch (setCell_grown _ gg (a * 2 + 1) (.int .i64 (pg ys u).e)) (.inr (.inl rfl)))).trans (grown_touch (setCell_grown _ gg (u * 2) (.int .i64 (pg ys a).s)) (.inr (.inl rfl)))).trans (grown_touch (setCell_grown _ gg (u * 2 + 1) (.int .i64 (pg ys a).e)) (.inr (.inl rfl))))).drew
          have R := Lib.hid (And.intro P6 T6)
          clear P6 T6 g0 x0 x1 y0 y1 z0 z1 z2 z3 P5 T5
          go_wp2_with fail
          refine ⟨⟨u, sw ys a u, by go_num, by rw [sw_len]; exact HY.out, by omega, R.out.1, ?_, (sw_perm ys a u yl hu2).trans HPE.out, R.out.2⟩, by simp [intOf]; omega⟩
          have := up_step HU.out yl ha (by rw [← HUU.out]; exact HK.out)
          rw [← HUU.out] at this
          exact this
        · have dk : decide (Rn.e (pg ys a) < Rn.e (pg ys u)) = false := by simp; omega
          have HK := Lib.hid hk
          clear hk
          go_wp2_with fail
          go_end0
          exact ⟨rfl, gg, cap, ys, P5.out, up_done HU.out (by rw [← HUU.out]; have h9 := HK.out; first | exact h9 | exact Int.not_lt.mpr h9), HPE.out, TQ.out.trans' T5.out (HAT.out.imp (fun e => e.symm) (fun e => ⟨gg, rfl, e⟩)), HAT.out⟩
      · obtain rfl : a = 0 := by omega
        go_wp2_with fail
        go_end0
        exact ⟨rfl, gg, cap, ys, P1.out, up_top HU.out, HPE.out, TQ.out.trans' HT.out (HAT.out.imp (fun e => e.symm) (fun e => ⟨gg, rfl, e⟩)), HAT.out⟩
theorem less_idle (a b : Rn) (w : World) :
    Calls Try.prog 30 #[.agg #[.int .i64 a.s, .int .i64 a.e], .agg #[.int .i64 b.s, .int .i64 b.e]] w fun e w' => e = .returned (.bool (decide (Rn.s a < Rn.s b))) ∧ Below w.heap.size w w' := by
  go_enter Try.func30, Try.ntmps30
  go_wp2
  go_ret
  exact ⟨rfl, ((Below.refl _ _).alloc (Nat.le_refl _) _).alloc (by simp) _⟩

set_option maxRecDepth 100000 in
set_option maxHeartbeats 2000000 in
theorem push_idle (g c : Nat) (A : Option Addr) (xs : List Rn) (v : Rn) (w : World) (h : PileIs w g (.func (.func 30) #[] #[]) A c xs) (hh : Heap Rn.s xs) (hn : xs.length ≤ 100) :
    Calls Try.prog 31 #[.pointer (some ⟨g, 0, none⟩), .agg #[.int .i64 v.s, .int .i64 v.e]] w (Pushed Rn.s g (.func (.func 30) #[] #[]) A c xs v w) := by
  obtain ⟨i0, hi0, hz0, hz1, hz2⟩ := info_parts team_info
  have hg := h.lt
  have c0 := h.blk.cell 0
  have c1 := h.blk.cell 1
  have f0 := h.blk.frozen 0
  simp at c0 c1
  have O := h.own
  have hne := h.ne
  have HP := Lib.hid h
  have HH := Lib.hid hh
  have NEWS : ∀ (j : Nat) (u : Value), [Value.int .i64 v.s, Value.int .i64 v.e][j]? = some u → (((w.alloc (.cells #[.int .i64 v.s, .int .i64 v.e] 58)).alloc (.cells #[.int .i64 v.s, .int .i64 v.e] 58)).drew).cell? ((⟨w.heap.size + 1, 0, none⟩ : Addr).add j) = some u := cells2_new' w _ _ _ _
  have HNEWS := Lib.hid NEWS
  have BEL := Lib.hid (show Below w.heap.size w (((w.alloc (.cells #[.int .i64 v.s, .int .i64 v.e] 58)).alloc (.cells #[.int .i64 v.s, .int .i64 v.e] 58)).drew) from (((Below.refl _ _).alloc (Nat.le_refl _) _).alloc (by simp) _).drew)
  clear h NEWS hh
  go_enter Try.func31, Try.ntmps31
  go_wp2_with fail
  go_region_law ((refine step_append_lies _ (by rfl) _ _ _ (by rfl) 0 58 i0 _ 2 16 Try.underlying60 hi0 hz0 hz1 hz2 rfl (by omega) _ _ _ (by rfl) (((O.alloc _).alloc _).drew) ⟨w.heap.size + 1, 0, none⟩ 1 1 [.int .i64 v.s, .int .i64 v.e] (by rfl) (by rfl) HNEWS.out (by simp [Value.oneCell']) (by omega) (by unfold maxLen; omega) (by omega) (by omega) (w.heap.size + 1 + 1) (by simp) ?_; intro gg cap w3 hown' hgrow hat hlt'; have hb3 : Blk w3 g #[.slice A xs.length c, .func (.func 30) #[] #[]] 62 := (hgrow.block g (by simp; omega) (fun e => hne e.symm)).trans (HP.out.blk.below BEL.out); have c3 := hb3.cell 0; have f3 := hb3.frozen 0; simp at c3))
  all_goals
    have hgg : gg ≠ g := by
      rcases hat with e | e
      · exact fun e' => hne (by rw [e, e'])
      · omega
    have PQ := Lib.hid (PileIs.pushed hb3 hown' hgg)
    have TQ : Hid (Touch g (Value.slice A xs.length c).ownBlock w (w3.setCell ⟨g, 0, none⟩ (.slice (some ⟨gg, 0, none⟩) (xs.length + 1) cap))) := Lib.hid (((Below.touch BEL.out).trans (grown_touch hgrow (.inr (.inl rfl)))).trans (grown_touch (setCell_grown w3 g 0 _) (.inl rfl)))
    have HAT := Lib.hid (show (Value.slice A xs.length c).ownBlock = some gg ∨ w.heap.size ≤ gg from hat.imp id (fun e => by omega))
    clear hb3 c3 f3 hown' hgrow hat hlt' c0 c1 f0 O HP HNEWS BEL
    generalize w3.setCell ⟨g, 0, none⟩ (.slice (some ⟨gg, 0, none⟩) (xs.length + 1) cap) = wq at PQ TQ ⊢
    have q0 := PQ.out.blk.cell 0
    simp at q0
    go_wp2_with fail
    go_loopw [4] (fun p wr => ∃ (a : Nat) (ys : List Rn), p = .int .i64 a ∧ ys.length = xs.length + 1 ∧ a ≤ xs.length ∧ PileIs wr g (.func (.func 30) #[] #[]) (some ⟨gg, 0, none⟩) cap ys ∧ UpInv Rn.s ys a ∧ ys.Perm (xs ++ [v]) ∧ Touch g (some gg) wq wr) (fun p _ => (intOf p).toNat)
    case atStart => exact ⟨xs.length, xs ++ [v], by go_num, by simp, Nat.le_refl _, PQ.out, up_start HH.out v, List.Perm.refl _, Touch.refl _ _ _⟩
    case round =>
      obtain ⟨a, ys, rfl, hyl, hal, hp, hup, hperm, htch⟩ := hrel
      have HY := Lib.hid hyl
      have HU := Lib.hid hup
      have HPE := Lib.hid hperm
      have HT := Lib.hid htch
      have P1 := Lib.hid hp
      obtain ⟨a', hA', -, cp1, cp2, -⟩ := hp.at (i := a) (by omega)
      injection hA' with hA'
      injection hA' with hA'
      subst hA'
      clear hyl hup hperm htch hp q0
      have yl : a < ys.length := by have := HY.out; omega
      have yl2 : ys.length ≤ 101 := by have := HY.out; omega
      by_cases ha : 0 < a
      · obtain ⟨u, hu⟩ : ∃ u : Nat, u = (a - 1) / 2 := ⟨_, rfl⟩
        have eu : ((a : Int) - 1) / 2 = (u : Int) := by omega
        have hul : u < a := by omega
        have hu2 : u < ys.length := by omega
        have HUU := Lib.hid hu
        clear hu
        have g0 := P1.out.blk.cell 0
        have g1 := P1.out.blk.cell 1
        simp at g0 g1
        obtain ⟨x0, x1⟩ := P1.out.cell yl
        obtain ⟨y0, y1⟩ := P1.out.cell hu2
        have i1 : (a : Int) < (ys.length : Int) := by omega
        have i2 : (u : Int) < (ys.length : Int) := by omega
        have ha0 : (0 : Int) < (a : Int) := by omega
        go_wp2_with fail
        clear eu
        go_still_tail 18, (by kernel_rfl)
        change wpList _ _ _ _ _ wr.drew
        have P2 : PileIs wr.drew g (.func (.func 30) #[] #[]) (some ⟨gg, 0, none⟩) cap ys := P1.out.drew
        have T2 := HT.out.drew
        clear g0 g1 x0 x1 y0 y1 P1 HT
        generalize wr.drew = w4 at P2 T2 ⊢
        go_wp2_with fail
        refine (less_idle (pg ys a) (pg ys u) _).mono ?_
        rintro e w5 ⟨rfl, b5⟩
        have P5 := Lib.hid (P2.below b5)
        have T5 := Lib.hid (T2.trans (Below.touch b5))
        clear b5 P2 T2
        by_cases hk : Rn.s (pg ys a) < Rn.s (pg ys u)
        · skip
          have HK := Lib.hid hk
          have dk : decide (Rn.s (pg ys a) < Rn.s (pg ys u)) = true := by simp; omega
          have g0 := P5.out.blk.cell 0
          simp at g0
          obtain ⟨x0, x1⟩ := P5.out.cell yl
          obtain ⟨y0, y1⟩ := P5.out.cell hu2
          have z0 := P5.out.frozen (a * 2)
          have z1 := P5.out.frozen (a * 2 + 1)
          have z2 := P5.out.frozen (u * 2)
          have z3 := P5.out.frozen (u * 2 + 1)
          clear hk
          go_wp2_with fail
          go_region
          have P6 := ((P5.out.set a (pg ys u)).set u (pg ys a)).drew
          have T6 : Touch g (some gg) wq _ := (((((T5.out.trans (grown_touch (setCell_grown w5 gg (a * 2) (.int .i64 (pg ys u).s)) (.inr (.inl rfl)))).trans (grown_touch (setCell_grown _ gg (a * 2 + 1) (.int .i64 (pg ys u).e)) (.inr (.inl rfl)))).trans (grown_touch (setCell_grown _ gg (u * 2) (.int .i64 (pg ys a).s)) (.inr (.inl rfl)))).trans (grown_touch (setCell_grown _ gg (u * 2 + 1) (.int .i64 (pg ys a).e)) (.inr (.inl rfl))))).drew
          have R := Lib.hid (And.intro P6 T6)
          clear P6 T6 g0 x0 x1 y0 y1 z0 z1 z2 z3 P5 T5
          go_wp2_with fail
          refine ⟨⟨u, sw ys a u, by go_num, by rw [sw_len]; exact HY.out, by omega, R.out.1, ?_, (sw_perm ys a u yl hu2).trans HPE.out, R.out.2⟩, by simp [intOf]; omega⟩
          have := up_step HU.out yl ha (by rw [← HUU.out]; exact HK.out)
          rw [← HUU.out] at this
          exact this
        · have dk : decide (Rn.s (pg ys a) < Rn.s (pg ys u)) = false := by simp; omega
          have HK := Lib.hid hk
          clear hk
          go_wp2_with fail
          go_end0
          exact ⟨rfl, gg, cap, ys, P5.out, up_done HU.out (by rw [← HUU.out]; have h9 := HK.out; first | exact h9 | exact Int.not_lt.mpr h9), HPE.out, TQ.out.trans' T5.out (HAT.out.imp (fun e => e.symm) (fun e => ⟨gg, rfl, e⟩)), HAT.out⟩
      · obtain rfl : a = 0 := by omega
        go_wp2_with fail
        go_end0
        exact ⟨rfl, gg, cap, ys, P1.out, up_top HU.out, HPE.out, TQ.out.trans' HT.out (HAT.out.imp (fun e => e.symm) (fun e => ⟨gg, rfl, e⟩)), HAT.out⟩
end Go.Proofs.Ytmnoidgfcpbmgaa
