import Derived.Test.YtgimheekaceifaaRunsA
namespace Go.Proofs.Ytgimheekaceifaa
open Go.RowKit

set_option maxRecDepth 100000 in
set_option maxHeartbeats 400000 in
theorem toIntS_any (A : Option Addr) (c : Nat) (zs : List Int) (w : World) (h : Cells w A zs) (hn : zs.length ≤ 1048576) :
    Calls Try.prog 43 #[.slice A zs.length c] w fun e w' => e = .returned (.slice (some ⟨w.heap.size, 0, none⟩) zs.length zs.length) ∧ w'.ownsRow w.heap.size 3 1 (.slice (some ⟨w.heap.size, 0, none⟩) zs.length zs.length) zs.length (zs.map (Value.int .i64)) ∧ Below w.heap.size w w' := by
  obtain ⟨i0, hi0, hz0, hz1, hz2⟩ := info_parts int_info
  go_enter Try.func43, Try.ntmps43
  go_wp2_with (at_make; refine wpList_make_full _ rfl _ _ 44 rfl w.heap.size 3 i0 _ 1 Try.underlying44 hi0 hz0 hz1 .i64 .i64 _ _ zs.length rfl rfl rfl rfl (by rw [hz2]; omega) (by unfold maxLen; omega) (Nat.le_refl _) ?_; intro w1 hown1 hg1)
  obtain ⟨L0, hL0⟩ : ∃ L, L = (madeCells (Value.int .i64 0).cells (zs.length * 1)).toList := ⟨_, rfl⟩
  rw [← hL0] at hown1
  clear hL0
  have hbel1 := (Below.refl w.heap.size w).grown hg1 (Nat.le_refl _) (fun k hk => by cases hk)
  clear hg1
  go_loopw [4] (fun i wr => ∃ k : Nat, ∃ L, k ≤ zs.length ∧ i = .int .i64 k ∧ wr.ownsRow w.heap.size 3 1 (.slice (some ⟨w.heap.size, 0, none⟩) zs.length zs.length) zs.length L ∧ (∀ j, j < k → L[j]? = some (.int .i64 (zs.getD j 0))) ∧ Below w.heap.size w wr) (fun i _ => zs.length - (intOf i).toNat)
  case atStart => exact ⟨0, L0, Nat.zero_le _, rfl, hown1, fun j hj => by omega, hbel1⟩
  case round =>
    obtain ⟨k, L, hk, rfl, hown, hL, hbel⟩ := hrel
    have HL := Lib.hid hL
    clear hL
    by_cases hlt : k < zs.length
    · obtain ⟨b, o, hA, hb, c0⟩ := h.at1 hlt
      have d0 := (hbel.cell (p := ⟨b, o + k, none⟩) hb).trans c0
      subst hA
      clear c0
      have lenL : L.length = zs.length * 1 := hown.1
      obtain ⟨x0, e0⟩ : ∃ v, wr.cell? ⟨w.heap.size, k, none⟩ = some v := by
        rw [hown.cellAt k (by omega)]; exact ⟨_, List.getElem?_eq_getElem (by omega)⟩
      have f0 := hown.frozenAt k
      have R := Lib.hid (And.intro hown (And.intro hbel lenL))
      clear hown hbel lenL h hown1 hbel1
      go_wp2_with fail
      obtain ⟨own2, bel2, lenL⟩ := R.out
      refine ⟨⟨k + 1, _, by omega, by go_num, (own2.stored k _).1, set1_at (by omega) hlt HL.out rfl, bel2.setCell (by exact Nat.le_refl _) _⟩, by simp [intOf]; omega⟩
    · go_wp2_with fail
      go_ret
      have hk' : k = zs.length := by omega
      subst hk'
      have hLL := list_of_at (L := L) (zs := zs) (by have := hown.1; omega) HL.out
      exact ⟨rfl, by rw [← hLL]; exact hown, hbel⟩

set_option maxRecDepth 100000 in
set_option maxHeartbeats 400000 in
theorem eqIntS_yes (A B : Option Addr) (c d : Nat) (zs : List Int) (w : World) (h : Cells w A zs) (h' : Cells w B zs) (hn : zs.length ≤ 1048576) :
    Calls Try.prog 45 #[.slice A zs.length c, .slice B zs.length d] w fun e w' => e = .returned (.bool true) ∧ Below w.heap.size w w' := by
  go_enter Try.func45, Try.ntmps45
  go_wp2_with fail
  go_loopw [5] (fun i wr => ∃ k : Nat, k ≤ zs.length ∧ i = .int .i64 k ∧ Below w.heap.size w wr) (fun i _ => zs.length - (intOf i).toNat)
  case atStart => exact ⟨0, Nat.zero_le _, rfl, Below.refl _ _⟩
  case round =>
    obtain ⟨k, hk, rfl, hbel⟩ := hrel
    by_cases hlt : k < zs.length
    · obtain ⟨b, o, hA, hb, c0⟩ := h.at1 hlt
      subst hA
      have d0 := (hbel.cell (p := ⟨b, o + k, none⟩) hb).trans c0
      obtain ⟨b', o', hA', hb', c0'⟩ := h'.at1 hlt
      subst hA'
      have d0' := (hbel.cell (p := ⟨b', o' + k, none⟩) hb').trans c0'
      clear c0 c0'
      have i1 : (k : Int) < (zs.length : Int) := by omega
      go_wp2_with fail
      go_quiet (fail)
      go_wp2_with fail
      exact ⟨⟨k + 1, by omega, by go_num, below_drewN' hbel _⟩, by simp [intOf]; omega⟩
    · go_wp2_with fail
      go_ret
      exact ⟨rfl, hbel⟩

set_option maxRecDepth 100000 in
set_option maxHeartbeats 400000 in
theorem markIntS_any (base g n c : Nat) (m0 : Int) (L : List Value) (w : World) (h : w.ownsRow base 3 1 (.slice (some ⟨g, 0, none⟩) n c) n L) (hn : n ≤ 1048576) (hm0 : 1 ≤ m0) (hm1 : m0 ≤ 4000000) :
    Calls Try.prog 52 #[.slice (some ⟨g, 0, none⟩) n c, .int .i64 m0] w fun e w' => e = .returned (.int .i64 (m0 + n)) ∧ w'.ownsRow base 3 1 (.slice (some ⟨g, 0, none⟩) n c) n ((marks m0 n).map (Value.int .i64)) ∧ w.grownBy w' (some g) := by
  go_enter Try.func52, Try.ntmps52
  go_wp2_with fail
  go_loopw [1, 5] (fun m i wr => ∃ k : Nat, ∃ L, k ≤ n ∧ m = .int .i64 (m0 + (k : Int)) ∧ i = .int .i64 k ∧ wr.ownsRow base 3 1 (.slice (some ⟨g, 0, none⟩) n c) n L ∧ (∀ j, j < k → L[j]? = some (.int .i64 (m0 + (j : Int)))) ∧ w.grownBy wr (some g)) (fun _ i _ => n - (intOf i).toNat)
  case atStart => exact ⟨0, L, Nat.zero_le _, by simp, rfl, h, fun j hj => by omega, World.grownBy.refl _ _⟩
  case round =>
    obtain ⟨k, L, hk, rfl, rfl, hown, hL, hgr⟩ := hrel
    have HL := Lib.hid hL
    clear hL
    by_cases hlt : k < n
    · have lenL : L.length = n * 1 := hown.1
      obtain ⟨x0, e0⟩ : ∃ v, wr.cell? ⟨g, k, none⟩ = some v := by
        rw [hown.cellAt k (by omega)]; exact ⟨_, List.getElem?_eq_getElem (by omega)⟩
      have f0 := hown.frozenAt k
      have R := Lib.hid (And.intro hown (And.intro hgr lenL))
      clear hown hgr lenL h
      go_wp2_with fail
      obtain ⟨own2, gr2, lenL⟩ := R.out
      exact ⟨⟨k + 1, _, by omega, by go_num, by go_num, (own2.stored k _).1, set1_at (f := fun j => .int .i64 (m0 + (j : Int))) (by omega) hlt HL.out (by go_num), grown_trans' gr2 (grown_store1 _ _ _ _)⟩, by simp [intOf]; omega⟩
    · go_wp2_with fail
      go_ret
      have hk' : k = n := by omega
      subst hk'
      have hLL := list_of_at (L := L) (zs := marks m0 k) (by rw [marks_len]; have := hown.1; omega) (by rw [marks_len]; intro j hj; rw [HL.out j hj, marks_at _ _ _ hj])
      exact ⟨rfl, by rw [← hLL]; exact hown, hgr⟩

set_option maxRecDepth 100000 in
set_option maxHeartbeats 400000 in
theorem heldIntS_any (A : Option Addr) (n c : Nat) (w : World) (h : Cells w A (marks 1 n)) (hn : n ≤ 1048576) :
    Calls Try.prog 53 #[.slice A n c, .int .i64 1] w fun e w' => e = .returned (.int .i64 (1 + n)) ∧ w = w' := by
  go_enter Try.func53, Try.ntmps53
  go_wp2_with fail
  go_loop [1, 5] (fun m i => ∃ k : Nat, k ≤ n ∧ m = .int .i64 (1 + (k : Int)) ∧ i = .int .i64 k) (fun _ i => n - (intOf i).toNat)
  case atStart => exact ⟨0, Nat.zero_le _, rfl, rfl⟩
  case round =>
    obtain ⟨k, hk, rfl, rfl⟩ := hrel
    by_cases hlt : k < n
    · rcases h with h | ⟨b, o, rfl, hb, hc⟩
      · have := congrArg List.length h; rw [marks_len] at this; simp at this; omega
      · rw [marks_len] at hc
        have d0 := hc k (by omega)
        rw [marks_at _ _ _ (by omega)] at d0
        clear hc
        go_wp2_with fail
        go_round
        case rel => exact ⟨k + 1, by omega, by go_num, by go_num⟩
        case measure => simp [intOf]; omega
    · go_wp2_with fail
      go_ret
      exact ⟨ret_int (by omega), rfl⟩
end Go.Proofs.Ytgimheekaceifaa
