import Derived.Test.YtmpkdnikkganlaaStopsW
import Derived.StillTailTactics
import Derived.Deep.RegionWith
namespace Go.Proofs.Ytmpkdnikkganlaa
open Go.RowKit

theorem toStop_any (a b c : Int) (w : World) :
    Calls Try.prog 16 #[.agg #[.int .i64 a, .int .i64 b, .int .i64 c]] w fun e w' => e = .returned (.agg #[.int .i64 a, .int .i64 b, .int .i64 c]) ∧ Below w.heap.size w w' := by
  go_enter Try.func16, Try.ntmps16
  go_wp2
  exact bodyPost_ret (v := .agg #[.int .i64 a, .int .i64 b, .int .i64 c]) (by simp [results, Try.results16, go_sem]) rfl ⟨rfl, (((Below.refl _ _).alloc (Nat.le_refl _) _).alloc (by simp) _).alloc (by simp; omega) _⟩

theorem eqStop_yes (a b c : Int) (w : World) :
    Calls Try.prog 20 #[.agg #[.int .i64 a, .int .i64 b, .int .i64 c], .agg #[.int .i64 a, .int .i64 b, .int .i64 c]] w fun e w' => e = .returned (.bool true) ∧ Below w.heap.size w w' := by
  go_enter Try.func20, Try.ntmps20
  go_wp2
  go_ret
  exact ⟨rfl, ((Below.refl _ _).alloc (Nat.le_refl _) _).alloc (by simp) _⟩

theorem szStopS_any (A : Option Addr) (n c : Nat) (w : World) (hn : n ≤ 1048576) :
    Calls Try.prog 5 #[.slice A n c, .int .i64 1048576] w fun e w' => e = .returned (.int .i64 (1048576 - n)) ∧ w = w' := by
  go_enter Try.func5, Try.ntmps5
  go_wp2
  go_ret
  exact ⟨rfl, rfl⟩

theorem szStopS_over (A : Option Addr) (n c : Nat) (w : World) (hn : 1048576 < n) (hm : n ≤ 9223372036854775807) :
    Calls Try.prog 5 #[.slice A n c, .int .i64 1048576] w fun e w' => e = .returned (.int .i64 (-1)) ∧ w = w' := by
  go_enter Try.func5, Try.ntmps5
  go_wp2
  go_ret
  exact ⟨rfl, rfl⟩

theorem stop_info : (Try.prog.info? 39).map (fun i => (i.zero, i.size, i.bytes)) = some (some (.agg #[.int .i64 0, .int .i64 0, .int .i64 0]), 3, 24) := by kernel_rfl

set_option maxRecDepth 100000 in
set_option maxHeartbeats 400000 in
theorem toStopS_any (A : Option Addr) (c : Nat) (xs : List St) (w : World) (h : Cells w A (fl xs)) (hn : xs.length ≤ 1048576) :
    Calls Try.prog 7 #[.slice A xs.length c] w fun e w' => e = .returned (.slice (some ⟨w.heap.size, 0, none⟩) xs.length xs.length) ∧ w'.ownsRow w.heap.size 39 3 (.slice (some ⟨w.heap.size, 0, none⟩) xs.length xs.length) xs.length ((fl xs).map (Value.int .i64)) ∧ Below w.heap.size w w' := by
  obtain ⟨i0, hi0, hz0, hz1, hz2⟩ := info_parts stop_info
  go_enter Try.func7, Try.ntmps7
  go_wp2_with (at_make; refine wpList_make_full _ rfl _ _ 25 rfl w.heap.size 39 i0 _ 3 Try.underlying25 hi0 hz0 hz1 .i64 .i64 _ _ xs.length rfl rfl rfl rfl (by rw [hz2]; omega) (by unfold maxLen; omega) (Nat.le_refl _) ?_; intro w1 hown1 hg1)
  obtain ⟨L0, hL0⟩ : ∃ L, L = (madeCells (Value.agg #[.int .i64 0, .int .i64 0, .int .i64 0]).cells (xs.length * 3)).toList := ⟨_, rfl⟩
  rw [← hL0] at hown1
  clear hL0
  have hbel1 := (Below.refl w.heap.size w).grown hg1 (Nat.le_refl _) (fun k hk => by cases hk)
  clear hg1
  go_loopw [4] (fun i wr => ∃ k : Nat, ∃ L, k ≤ xs.length ∧ i = .int .i64 k ∧ wr.ownsRow w.heap.size 39 3 (.slice (some ⟨w.heap.size, 0, none⟩) xs.length xs.length) xs.length L ∧ (∀ j, j < k * 3 → L[j]? = some (.int .i64 ((fl xs).getD j 0))) ∧ Below w.heap.size w wr) (fun i _ => xs.length - (intOf i).toNat)
  case atStart => exact ⟨0, L0, Nat.zero_le _, rfl, hown1, fun j hj => by omega, hbel1⟩
  case round =>
    obtain ⟨k, L, hk, rfl, hown, hL, hbel⟩ := hrel
    have HL := Lib.hid hL
    clear hL
    by_cases hlt : k < xs.length
    · obtain ⟨b, o, hA, hb, c0, c1, c2⟩ := h.at3 hlt
      have d0 := (hbel.cell (p := ⟨b, o + k * 3, none⟩) hb).trans c0
      have d1 := (hbel.cell (p := ⟨b, o + k * 3 + 1, none⟩) hb).trans c1
      have d2 := (hbel.cell (p := ⟨b, o + k * 3 + 2, none⟩) hb).trans c2
      subst hA
      clear c0 c1 c2
      go_wp2_with fail
      refine (toStop_any _ _ _ _).mono ?_
      rintro e w2 ⟨rfl, hb2⟩
      have own2 := own_below hown hb2
      have lenL : L.length = xs.length * 3 := own2.1
      have bel2 := hbel.trans (hb2.mono hbel.size)
      obtain ⟨x0, e0⟩ : ∃ v, w2.cell? ⟨w.heap.size, k * 3, none⟩ = some v := by
        rw [own2.cellAt (k * 3) (by omega)]; exact ⟨_, List.getElem?_eq_getElem (by omega)⟩
      obtain ⟨x1, e1⟩ : ∃ v, w2.cell? ⟨w.heap.size, k * 3 + 1, none⟩ = some v := by
        rw [own2.cellAt (k * 3 + 1) (by omega)]; exact ⟨_, List.getElem?_eq_getElem (by omega)⟩
      obtain ⟨x2, e2⟩ : ∃ v, w2.cell? ⟨w.heap.size, k * 3 + 2, none⟩ = some v := by
        rw [own2.cellAt (k * 3 + 2) (by omega)]; exact ⟨_, List.getElem?_eq_getElem (by omega)⟩
      have f0 := own2.frozenAt (k * 3)
      have f1 := own2.frozenAt (k * 3 + 1)
      have f2 := own2.frozenAt (k * 3 + 2)
      have R := Lib.hid (And.intro own2 (And.intro bel2 lenL))
      clear hown hbel hb2 own2 bel2 lenL h hown1 hbel1 d0 d1 d2
      go_wp2_with fail
      obtain ⟨own2, bel2, lenL⟩ := R.out
      obtain ⟨q0, q1, q2⟩ := fl_at xs k
      refine ⟨⟨k + 1, _, by omega, by go_num, own_store3 own2 _ _ _, set3_at lenL hlt HL.out (by rw [q0]) (by rw [q1]) (by rw [q2]), ((bel2.setCell (by exact Nat.le_refl _) _).setCell (by exact Nat.le_refl _) _).setCell (by exact Nat.le_refl _) _⟩, by simp [intOf]; omega⟩
    · go_wp2_with fail
      go_ret
      have hk' : k = xs.length := by omega
      subst hk'
      have hLL := list_of_at (L := L) (zs := fl xs) (by rw [fl_len]; exact hown.1) (by rw [fl_len]; exact HL.out)
      exact ⟨rfl, by rw [← hLL]; exact hown, hbel⟩

set_option maxRecDepth 100000 in
set_option maxHeartbeats 400000 in
theorem eqStopS_yes (A B : Option Addr) (c d : Nat) (xs : List St) (w : World) (h : Cells w A (fl xs)) (h' : Cells w B (fl xs)) (hn : xs.length ≤ 1048576) :
    Calls Try.prog 9 #[.slice A xs.length c, .slice B xs.length d] w fun e w' => e = .returned (.bool true) ∧ Below w.heap.size w w' := by
  go_enter Try.func9, Try.ntmps9
  go_wp2_with fail
  go_loopw [5] (fun i wr => ∃ k : Nat, k ≤ xs.length ∧ i = .int .i64 k ∧ Below w.heap.size w wr) (fun i _ => xs.length - (intOf i).toNat)
  case atStart => exact ⟨0, Nat.zero_le _, rfl, Below.refl _ _⟩
  case round =>
    obtain ⟨k, hk, rfl, hbel⟩ := hrel
    by_cases hlt : k < xs.length
    · obtain ⟨b, o, hA, hb, c0, c1, c2⟩ := h.at3 hlt
      have d0 := (hbel.cell (p := ⟨b, o + k * 3, none⟩) hb).trans c0
      have d1 := (hbel.cell (p := ⟨b, o + k * 3 + 1, none⟩) hb).trans c1
      have d2 := (hbel.cell (p := ⟨b, o + k * 3 + 2, none⟩) hb).trans c2
      subst hA
      clear c0 c1 c2
      obtain ⟨b', o', hA', hb', c0, c1, c2⟩ := h'.at3 hlt
      have d0' := (hbel.cell (p := ⟨b', o' + k * 3, none⟩) hb').trans c0
      have d1' := (hbel.cell (p := ⟨b', o' + k * 3 + 1, none⟩) hb').trans c1
      have d2' := (hbel.cell (p := ⟨b', o' + k * 3 + 2, none⟩) hb').trans c2
      subst hA'
      clear c0 c1 c2
      go_wp2_with fail
      go_still_tail 8, (by kernel_rfl)
      change wpList _ _ _ _ _ wr.drew
      have hbel2 := hbel.drew
      clear hbel d0 d1 d2 d0' d1' d2' h h'
      generalize wr.drew = w2 at hbel2 ⊢
      go_wp2_with fail
      refine (eqStop_yes _ _ _ _).mono ?_
      rintro e w3 ⟨rfl, hb3⟩
      have hbel3 := hbel2.trans (hb3.mono hbel2.size)
      clear hb3 hbel2
      go_wp2_with fail
      exact ⟨⟨k + 1, by omega, by go_num, hbel3⟩, by simp [intOf]; omega⟩
    · go_wp2_with fail
      go_ret
      exact ⟨rfl, hbel⟩

/-- The numbers from k on. -/
def marks (k : Int) : Nat → List Int
  | 0 => []
  | n + 1 => k :: marks (k + 1) n
theorem marks_len (n : Nat) : ∀ k, (marks k n).length = n := by
  induction n with
  | zero => intro k; rfl
  | succ n ih => intro k; simp [marks, ih]
theorem marks_at (n : Nat) : ∀ k j, j < n → (marks k n).getD j 0 = k + j := by
  induction n with
  | zero => intro k j hj; omega
  | succ n ih =>
    intro k j hj
    cases j with
    | zero => simp [marks]
    | succ j => rw [marks, List.getD_cons_succ, ih (k + 1) j (by omega)]; omega

end Go.Proofs.Ytmpkdnikkganlaa
