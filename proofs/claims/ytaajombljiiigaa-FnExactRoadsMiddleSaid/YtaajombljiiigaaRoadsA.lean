import Derived.Test.YtaajombljiiigaaRoadsW
import Derived.StillTailTactics
import Derived.Deep.RegionWith
namespace Go.Proofs.Ytaajombljiiigaa
open Go.RowKit

theorem toRoad_any (a b c : Int) (w : World) :
    Calls Try.prog 20 #[.agg #[.int .i64 a, .int .i64 b, .int .i64 c]] w fun e w' => e = .returned (.agg #[.int .i64 a, .int .i64 b, .int .i64 c]) ∧ Below w.heap.size w w' := by
  go_enter Try.func20, Try.ntmps20
  go_wp2
  exact bodyPost_ret (v := .agg #[.int .i64 a, .int .i64 b, .int .i64 c]) (by simp [results, Try.results20, go_sem]) rfl ⟨rfl, (((Below.refl _ _).alloc (Nat.le_refl _) _).alloc (by simp) _).alloc (by simp; omega) _⟩

theorem eqRoad_yes (a b c : Int) (w : World) :
    Calls Try.prog 32 #[.agg #[.int .i64 a, .int .i64 b, .int .i64 c], .agg #[.int .i64 a, .int .i64 b, .int .i64 c]] w fun e w' => e = .returned (.bool true) ∧ Below w.heap.size w w' := by
  go_enter Try.func32, Try.ntmps32
  go_wp2
  go_ret
  exact ⟨rfl, ((Below.refl _ _).alloc (Nat.le_refl _) _).alloc (by simp) _⟩

theorem szRoadS_any (A : Option Addr) (n c : Nat) (w : World) (hn : n ≤ 1048576) :
    Calls Try.prog 10 #[.slice A n c, .int .i64 1048576] w fun e w' => e = .returned (.int .i64 (1048576 - n)) ∧ w = w' := by
  go_enter Try.func10, Try.ntmps10
  go_wp2
  go_ret
  exact ⟨rfl, rfl⟩

theorem szRoadS_over (A : Option Addr) (n c : Nat) (w : World) (hn : 1048576 < n) (hm : n ≤ 9223372036854775807) :
    Calls Try.prog 10 #[.slice A n c, .int .i64 1048576] w fun e w' => e = .returned (.int .i64 (-1)) ∧ w = w' := by
  go_enter Try.func10, Try.ntmps10
  go_wp2
  go_ret
  exact ⟨rfl, rfl⟩

theorem road_info : (Try.prog.info? 36).map (fun i => (i.zero, i.size, i.bytes)) = some (some (.agg #[.int .i64 0, .int .i64 0, .int .i64 0]), 3, 24) := by kernel_rfl

set_option maxRecDepth 100000 in
set_option maxHeartbeats 400000 in
theorem toRoadS_any (A : Option Addr) (c : Nat) (xs : List Rd3) (w : World) (h : Cells w A (fd xs)) (hn : xs.length ≤ 1048576) :
    Calls Try.prog 12 #[.slice A xs.length c] w fun e w' => e = .returned (.slice (some ⟨w.heap.size, 0, none⟩) xs.length xs.length) ∧ w'.ownsRow w.heap.size 36 3 (.slice (some ⟨w.heap.size, 0, none⟩) xs.length xs.length) xs.length ((fd xs).map (Value.int .i64)) ∧ Below w.heap.size w w' := by
  obtain ⟨i0, hi0, hz0, hz1, hz2⟩ := info_parts road_info
  go_enter Try.func12, Try.ntmps12
  go_wp2_with (at_make; refine wpList_make_full _ rfl _ _ 25 rfl w.heap.size 36 i0 _ 3 Try.underlying25 hi0 hz0 hz1 .i64 .i64 _ _ xs.length rfl rfl rfl rfl (by rw [hz2]; omega) (by unfold maxLen; omega) (Nat.le_refl _) ?_; intro w1 hown1 hg1)
  obtain ⟨L0, hL0⟩ : ∃ L, L = (madeCells (Value.agg #[.int .i64 0, .int .i64 0, .int .i64 0]).cells (xs.length * 3)).toList := ⟨_, rfl⟩
  rw [← hL0] at hown1
  clear hL0
  have hbel1 := (Below.refl w.heap.size w).grown hg1 (Nat.le_refl _) (fun k hk => by cases hk)
  clear hg1
  go_loopw [4] (fun i wr => ∃ k : Nat, ∃ L, k ≤ xs.length ∧ i = .int .i64 k ∧ wr.ownsRow w.heap.size 36 3 (.slice (some ⟨w.heap.size, 0, none⟩) xs.length xs.length) xs.length L ∧ (∀ j, j < k * 3 → L[j]? = some (.int .i64 ((fd xs).getD j 0))) ∧ Below w.heap.size w wr) (fun i _ => xs.length - (intOf i).toNat)
  case atStart => exact ⟨0, L0, Nat.zero_le _, rfl, hown1, fun j hj => by omega, hbel1⟩
  case round =>
    obtain ⟨k, L, hk, rfl, hown, hL, hbel⟩ := hrel
    have HL := Lib.hid hL
    clear hL
    by_cases hlt : k < xs.length
    · obtain ⟨b, o, hA, hb, c0, c1, c2⟩ := h.at3 hlt
      have d0 := (hbel.cell (p := ⟨b, o + k * 3, none⟩) hb).trans c0
      have d1 := (hbel.cell (p := ⟨b, o + k * 3 + 1, none⟩) hb).trans c1
      have d2 := (hbel.cell (p := ⟨b, o + k * 3 + 2, none⟩) hb).trans c2
      subst hA
      clear c0 c1 c2
      go_wp2_with fail
      refine (toRoad_any _ _ _ _).mono ?_
      rintro e w2 ⟨rfl, hb2⟩
      have own2 := own_below hown hb2
      have lenL : L.length = xs.length * 3 := own2.1
      have bel2 := hbel.trans (hb2.mono hbel.size)
      obtain ⟨x0, e0⟩ : ∃ v, w2.cell? ⟨w.heap.size, k * 3, none⟩ = some v := by
        rw [own2.cellAt (k * 3) (by omega)]; exact ⟨_, List.getElem?_eq_getElem (by omega)⟩
      obtain ⟨x1, e1⟩ : ∃ v, w2.cell? ⟨w.heap.size, k * 3 + 1, none⟩ = some v := by
        rw [own2.cellAt (k * 3 + 1) (by omega)]; exact ⟨_, List.getElem?_eq_getElem (by omega)⟩
      obtain ⟨x2, e2⟩ : ∃ v, w2.cell? ⟨w.heap.size, k * 3 + 2, none⟩ = some v := by
        rw [own2.cellAt (k * 3 + 2) (by omega)]; exact ⟨_, List.getElem?_eq_getElem (by omega)⟩
      have f0 := own2.frozenAt (k * 3)
      have f1 := own2.frozenAt (k * 3 + 1)
      have f2 := own2.frozenAt (k * 3 + 2)
      have R := Lib.hid (And.intro own2 (And.intro bel2 lenL))
      clear hown hbel hb2 own2 bel2 lenL h hown1 hbel1 d0 d1 d2
      go_wp2_with fail
      obtain ⟨own2, bel2, lenL⟩ := R.out
      obtain ⟨q0, q1, q2⟩ := fd_at xs k
      refine ⟨⟨k + 1, _, by omega, by go_num, own_store3 own2 _ _ _, set3_at lenL hlt HL.out (by rw [q0]) (by rw [q1]) (by rw [q2]), ((bel2.setCell (by exact Nat.le_refl _) _).setCell (by exact Nat.le_refl _) _).setCell (by exact Nat.le_refl _) _⟩, by simp [intOf]; omega⟩
    · go_wp2_with fail
      go_ret
      have hk' : k = xs.length := by omega
      subst hk'
      have hLL := list_of_at (L := L) (zs := fd xs) (by rw [fd_len]; exact hown.1) (by rw [fd_len]; exact HL.out)
      exact ⟨rfl, by rw [← hLL]; exact hown, hbel⟩

set_option maxRecDepth 100000 in
set_option maxHeartbeats 400000 in
theorem eqRoadS_yes (A B : Option Addr) (c d : Nat) (xs : List Rd3) (w : World) (h : Cells w A (fd xs)) (h' : Cells w B (fd xs)) (hn : xs.length ≤ 1048576) :
    Calls Try.prog 14 #[.slice A xs.length c, .slice B xs.length d] w fun e w' => e = .returned (.bool true) ∧ Below w.heap.size w w' := by
  go_enter Try.func14, Try.ntmps14
  go_wp2_with fail
  go_loopw [5] (fun i wr => ∃ k : Nat, k ≤ xs.length ∧ i = .int .i64 k ∧ Below w.heap.size w wr) (fun i _ => xs.length - (intOf i).toNat)
  case atStart => exact ⟨0, Nat.zero_le _, rfl, Below.refl _ _⟩
  case round =>
    obtain ⟨k, hk, rfl, hbel⟩ := hrel
    by_cases hlt : k < xs.length
    · obtain ⟨b, o, hA, hb, c0, c1, c2⟩ := h.at3 hlt
      have d0 := (hbel.cell (p := ⟨b, o + k * 3, none⟩) hb).trans c0
      have d1 := (hbel.cell (p := ⟨b, o + k * 3 + 1, none⟩) hb).trans c1
      have d2 := (hbel.cell (p := ⟨b, o + k * 3 + 2, none⟩) hb).trans c2
      subst hA
      clear c0 c1 c2
      obtain ⟨b', o', hA', hb', c0, c1, c2⟩ := h'.at3 hlt
      have d0' := (hbel.cell (p := ⟨b', o' + k * 3, none⟩) hb').trans c0
      have d1' := (hbel.cell (p := ⟨b', o' + k * 3 + 1, none⟩) hb').trans c1
      have d2' := (hbel.cell (p := ⟨b', o' + k * 3 + 2, none⟩) hb').trans c2
      subst hA'
      clear c0 c1 c2
      go_wp2_with fail
      go_still_tail 8, (by kernel_rfl)
      change wpList _ _ _ _ _ wr.drew
      have hbel2 := hbel.drew
      clear hbel d0 d1 d2 d0' d1' d2' h h'
      generalize wr.drew = w2 at hbel2 ⊢
      go_wp2_with fail
      refine (eqRoad_yes _ _ _ _).mono ?_
      rintro e w3 ⟨rfl, hb3⟩
      have hbel3 := hbel2.trans (hb3.mono hbel2.size)
      clear hb3 hbel2
      go_wp2_with fail
      exact ⟨⟨k + 1, by omega, by go_num, hbel3⟩, by simp [intOf]; omega⟩
    · go_wp2_with fail
      go_ret
      exact ⟨rfl, hbel⟩

/-- The numbers from k on. -/
def marks (k : Int) : Nat → List Int
  | 0 => []
  | n + 1 => k :: marks (k + 1) n
theorem marks_len (n : Nat) : ∀ k, (marks k n).length = n := by
  induction n with
  | zero => intro k; rfl
  | succ n ih => intro k; simp [marks, ih]
theorem marks_at (n : Nat) : ∀ k j, j < n → (marks k n).getD j 0 = k + j := by
  induction n with
  | zero => intro k j hj; omega
  | succ n ih =>
    intro k j hj
    cases j with
    | zero => simp [marks]
    | succ j => rw [marks, List.getD_cons_succ, ih (k + 1) j (by omega)]; omega

set_option maxRecDepth 100000 in
set_option maxHeartbeats 400000 in
theorem markRoadS_any (base g n c : Nat) (L : List Value) (w : World) (h : w.ownsRow base 36 3 (.slice (some ⟨g, 0, none⟩) n c) n L) (hn : n ≤ 1048576) :
    Calls Try.prog 22 #[.slice (some ⟨g, 0, none⟩) n c, .int .i64 1] w fun e w' => e = .returned (.int .i64 (1 + n * 3)) ∧ w'.ownsRow base 36 3 (.slice (some ⟨g, 0, none⟩) n c) n ((marks 1 (n * 3)).map (Value.int .i64)) ∧ w.grownBy w' (some g) := by
  go_enter Try.func22, Try.ntmps22
  go_wp2_with fail
  go_loopw [1, 5] (fun m i wr => ∃ k : Nat, ∃ L, k ≤ n ∧ m = .int .i64 (1 + (k : Int) * 3) ∧ i = .int .i64 k ∧ wr.ownsRow base 36 3 (.slice (some ⟨g, 0, none⟩) n c) n L ∧ (∀ j, j < k * 3 → L[j]? = some (.int .i64 (1 + (j : Int)))) ∧ w.grownBy wr (some g)) (fun _ i _ => n - (intOf i).toNat)
  case atStart => exact ⟨0, L, Nat.zero_le _, rfl, rfl, h, fun j hj => by omega, World.grownBy.refl _ _⟩
  case round =>
    obtain ⟨k, L, hk, rfl, rfl, hown, hL, hgr⟩ := hrel
    have HL := Lib.hid hL
    clear hL
    by_cases hlt : k < n
    · have lenL : L.length = n * 3 := hown.1
      obtain ⟨x0, e0⟩ : ∃ v, wr.cell? ⟨g, k * 3, none⟩ = some v := by
        rw [hown.cellAt (k * 3) (by omega)]; exact ⟨_, List.getElem?_eq_getElem (by omega)⟩
      obtain ⟨x1, e1⟩ : ∃ v, wr.cell? ⟨g, k * 3 + 1, none⟩ = some v := by
        rw [hown.cellAt (k * 3 + 1) (by omega)]; exact ⟨_, List.getElem?_eq_getElem (by omega)⟩
      obtain ⟨x2, e2⟩ : ∃ v, wr.cell? ⟨g, k * 3 + 2, none⟩ = some v := by
        rw [hown.cellAt (k * 3 + 2) (by omega)]; exact ⟨_, List.getElem?_eq_getElem (by omega)⟩
      have f0 := hown.frozenAt (k * 3)
      have f1 := hown.frozenAt (k * 3 + 1)
      have f2 := hown.frozenAt (k * 3 + 2)
      have R := Lib.hid (And.intro hown (And.intro hgr lenL))
      clear hown hgr lenL h
      go_wp2_with fail
      obtain ⟨own2, gr2, lenL⟩ := R.out
      exact ⟨⟨k + 1, _, by omega, by go_num, by go_num, own_store3 own2 _ _ _, set3_at (f := fun j => .int .i64 (1 + (j : Int))) lenL hlt HL.out (by go_num) (by go_num) (by go_num), grown_trans' gr2 (grown_store3 _ _ _ _ _ _)⟩, by simp [intOf]; omega⟩
    · go_wp2_with fail
      go_ret
      have hk' : k = n := by omega
      subst hk'
      have hLL := list_of_at (L := L) (zs := marks 1 (k * 3)) (by rw [marks_len]; exact hown.1) (by rw [marks_len]; intro j hj; rw [HL.out j hj, marks_at _ _ _ hj])
      exact ⟨rfl, by rw [← hLL]; exact hown, hgr⟩

set_option maxRecDepth 100000 in
set_option maxHeartbeats 400000 in
theorem heldRoadS_any (A : Option Addr) (n c : Nat) (w : World) (h : Cells w A (marks 1 (n * 3))) (hn : n ≤ 1048576) :
    Calls Try.prog 23 #[.slice A n c, .int .i64 1] w fun e w' => e = .returned (.int .i64 (1 + n * 3)) ∧ w = w' := by
  go_enter Try.func23, Try.ntmps23
  go_wp2_with fail
  go_loop [1, 5] (fun m i => ∃ k : Nat, k ≤ n ∧ m = .int .i64 (1 + (k : Int) * 3) ∧ i = .int .i64 k) (fun _ i => n - (intOf i).toNat)
  case atStart => exact ⟨0, Nat.zero_le _, rfl, rfl⟩
  case round =>
    obtain ⟨k, hk, rfl, rfl⟩ := hrel
    by_cases hlt : k < n
    · rcases h with h | ⟨b, o, rfl, hb, hc⟩
      · have := congrArg List.length h; rw [marks_len] at this; simp at this; omega
      · rw [marks_len] at hc
        have d0 := hc (k * 3) (by omega)
        have d1 : w.cell? ⟨b, o + k * 3 + 1, none⟩ = _ := hc (k * 3 + 1) (by omega)
        have d2 : w.cell? ⟨b, o + k * 3 + 2, none⟩ = _ := hc (k * 3 + 2) (by omega)
        rw [marks_at _ _ _ (by omega)] at d0 d1 d2
        rw [show (1 : Int) + ((k * 3 : Nat) : Int) = 1 + (k : Int) * 3 by omega] at d0
        rw [show (1 : Int) + ((k * 3 + 1 : Nat) : Int) = 1 + (k : Int) * 3 + 1 by omega] at d1
        rw [show (1 : Int) + ((k * 3 + 2 : Nat) : Int) = 1 + (k : Int) * 3 + 1 + 1 by omega] at d2
        clear hc
        go_wp2_with fail
        go_round
        case rel => exact ⟨k + 1, by omega, by go_num, by go_num⟩
        case measure => simp [intOf]; omega
    · go_wp2_with fail
      go_ret
      exact ⟨ret_int (by omega), rfl⟩
end Go.Proofs.Ytaajombljiiigaa
