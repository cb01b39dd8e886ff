import Derived.Test.YtgimheekaceifaaRunsX
import Derived.Test.YtgimheekaceifaaRunsV1
import Derived.Test.YtgimheekaceifaaRunsJ
namespace Go.Proofs.Ytgimheekaceifaa
open Go.RowKit

theorem fr_dropN (xs : List Rn) : ∀ k, fr (xs.drop k) = (fr xs).drop (k * 2) := by
  induction xs with
  | nil => intro k; simp [fr]
  | cons s xs ih =>
    intro k
    cases k with
    | zero => rfl
    | succ k => rw [List.drop_succ_cons, ih k, fr_cons, show (k + 1) * 2 = k * 2 + 2 by omega]; rfl
theorem Cells.takeI {w : World} {A : Option Addr} {zs : List Int} (h : Cells w A zs) (n : Nat) : Cells w A (zs.take n) := by
  rcases h with h | ⟨b, o, rfl, hb, hc⟩
  · exact .inl (by rw [h, List.take_nil])
  · refine .inr ⟨b, o, rfl, hb, fun j hj => ?_⟩
    rw [List.length_take] at hj
    rw [hc j (by omega), List.getD_eq_getElem?_getD, List.getD_eq_getElem?_getD, List.getElem?_take, if_pos (by omega)]
theorem Cells.takeR {w : World} {A : Option Addr} {xs : List Rn} (h : Cells w A (fr xs)) (n : Nat) : Cells w A (fr (xs.take n)) := by
  rw [fr_takeN]; exact h.takeI _
theorem Cells.dropI {w : World} {b o : Nat} {zs : List Int} (h : Cells w (some ⟨b, o, none⟩) zs) (n : Nat) : Cells w (some ⟨b, o + n, none⟩) (zs.drop n) := by
  rcases h with h | ⟨b', o', he, hb, hc⟩
  · exact .inl (by rw [h, List.drop_nil])
  · injection he with he
    injection he with h1 h2
    subst h1 h2
    refine .inr ⟨b, o + n, rfl, hb, fun j hj => ?_⟩
    rw [List.length_drop] at hj
    have := hc (n + j) (by omega)
    rw [Nat.add_assoc, this, List.getD_eq_getElem?_getD, List.getD_eq_getElem?_getD, List.getElem?_drop]
theorem Cells.dropR {w : World} {b o : Nat} {xs : List Rn} (h : Cells w (some ⟨b, o, none⟩) (fr xs)) (n : Nat) : Cells w (some ⟨b, o + n * 2, none⟩) (fr (xs.drop n)) := by
  rw [fr_dropN]; exact h.dropI _

set_option maxRecDepth 100000 in
set_option maxHeartbeats 400000 in
theorem sameInts_yes (A B : Option Addr) (c d : Nat) (zs : List Int) (w : World) (h : Cells w A zs) (h' : Cells w B zs) (hn : zs.length ≤ 1048576) :
    Calls Try.prog 57 #[.slice A zs.length c, .slice B zs.length d] w fun e w' => e = .returned (.bool true) ∧ Below w.heap.size w w' := by
  go_enter Try.func57, Try.ntmps57
  go_wp2_with fail
  go_loopw [5] (fun i wr => ∃ k : Nat, k ≤ zs.length ∧ i = .int .i64 k ∧ Below w.heap.size w wr) (fun i _ => zs.length - (intOf i).toNat)
  case atStart => exact ⟨0, Nat.zero_le _, rfl, Below.refl _ _⟩
  case round =>
    obtain ⟨k, hk, rfl, hbel⟩ := hrel
    by_cases hlt : k < zs.length
    · obtain ⟨b, o, hA, hb, c0⟩ := h.at1 hlt
      have d0 := (hbel.cell (p := ⟨b, o + k, none⟩) hb).trans c0
      subst hA
      clear c0
      obtain ⟨b', o', hA', hb', c0⟩ := h'.at1 hlt
      have d0' := (hbel.cell (p := ⟨b', o' + k, none⟩) hb').trans c0
      subst hA'
      clear c0
      have i1 : (k : Int) < (zs.length : Int) := by omega
      go_wp2_with fail
      go_quiet (fail)
      go_wp2_with fail
      exact ⟨⟨k + 1, by omega, by go_num, below_drewN' hbel _⟩, by simp [intOf]; omega⟩
    · go_wp2_with fail
      go_ret
      exact ⟨rfl, hbel⟩

set_option maxRecDepth 100000 in
set_option maxHeartbeats 400000 in
theorem sameRuns_yes (A B : Option Addr) (c d : Nat) (xs : List Rn) (w : World) (h : Cells w A (fr xs)) (h' : Cells w B (fr xs)) (hn : xs.length ≤ 1048576) :
    Calls Try.prog 34 #[.slice A xs.length c, .slice B xs.length d] w fun e w' => e = .returned (.bool true) ∧ Below w.heap.size w w' := by
  go_enter Try.func34, Try.ntmps34
  go_wp2_with fail
  go_loopw [5] (fun i wr => ∃ k : Nat, k ≤ xs.length ∧ i = .int .i64 k ∧ Below w.heap.size w wr) (fun i _ => xs.length - (intOf i).toNat)
  case atStart => exact ⟨0, Nat.zero_le _, rfl, Below.refl _ _⟩
  case round =>
    obtain ⟨k, hk, rfl, hbel⟩ := hrel
    by_cases hlt : k < xs.length
    · obtain ⟨b, o, hA, hb, c0, c1⟩ := h.at2 hlt
      have d0 := (hbel.cell (p := ⟨b, o + k * 2, none⟩) hb).trans c0
      have d1 := (hbel.cell (p := ⟨b, o + k * 2 + 1, none⟩) hb).trans c1
      subst hA
      clear c0 c1
      obtain ⟨b', o', hA', hb', c0, c1⟩ := h'.at2 hlt
      have d0' := (hbel.cell (p := ⟨b', o' + k * 2, none⟩) hb').trans c0
      have d1' := (hbel.cell (p := ⟨b', o' + k * 2 + 1, none⟩) hb').trans c1
      subst hA'
      clear c0 c1
      have i1 : (k : Int) < (xs.length : Int) := by omega
      go_wp2_with fail
      go_quiet (fail)
      go_wp2_with fail
      exact ⟨⟨k + 1, by omega, by go_num, below_drewN' hbel _⟩, by simp [intOf]; omega⟩
    · go_wp2_with fail
      go_ret
      exact ⟨rfl, hbel⟩

/-- A list of the call's own, told for the walks. -/
def GotI (ro : List Int) (w : World) (e : Ending) (w' : World) : Prop :=
  ∃ R rc, e = .returned (.tuple #[.slice R ro.length rc, .bool true]) ∧ Cells w' R ro ∧ ((R = none ∧ ro.length = 0 ∧ rc = 0) ∨ ∃ g, R = some ⟨g, 0, none⟩ ∧ ro.length ≤ rc ∧ rc ≤ 9223372036854775807) ∧ Below w.heap.size w w'
theorem IPair.got {ro : List Int} {w : World} {e : Ending} {w' : World} (h : IPair ro true w e w') : GotI ro w e w' := by
  obtain ⟨R, rc, rfl, ho, hb⟩ := h
  refine ⟨R, rc, rfl, ho.cells, ?_, hb⟩
  rcases ho.2 with ⟨h1, h2⟩ | ⟨g, cap, cur, h1, _, _, h2, h3, _⟩
  · injection h1 with a b c
    exact .inl ⟨a, h2, c⟩
  · injection h1 with a b c
    subst c
    exact .inr ⟨g, a, h2, by unfold maxLen at h3; omega⟩
theorem iRM_ro (A : Option Addr) (c : Nat) (xs : List Rn) (rest : Int) (ro : List Int) (w : World) (h : Cells w A (fr xs)) (hl : xs.length ≤ 1048576) (hv : ROk xs rest) (hro : ro = gRo xs rest) :
    Calls Try.prog 56 #[.slice A xs.length c, .int .i64 rest] w (GotI ro w) := by
  subst hro
  exact (iRM_yes A c xs rest w h hl hv).mono fun e w' h => h.got
theorem sRM_ro (A : Option Addr) (c : Nat) (xs : List Rn) (rest : Int) (ro : List Int) (w : World) (h : Cells w A (fr xs)) (hl : xs.length ≤ 1048576) (hv : ROk xs rest) (hro : ro = gRo xs rest) :
    Calls Try.prog 58 #[.slice A xs.length c, .int .i64 rest] w (GotI ro w) := by
  subst hro
  exact (sRM_yes A c xs rest w h hl hv).mono fun e w' h => h.got

/-- Runs of the call's own, told for the walks. -/
def GotR (ys : List Rn) (w : World) (e : Ending) (w' : World) : Prop :=
  ∃ R rc, e = .returned (.tuple #[.slice R ys.length rc, .bool true]) ∧ Cells w' R (fr ys) ∧ Below w.heap.size w w'
theorem RPair.got {ys : List Rn} {w : World} {e : Ending} {w' : World} (h : RPair ys true w e w') : GotR ys w e w' := by
  obtain ⟨R, rc, rfl, ho, hb⟩ := h
  exact ⟨R, rc, rfl, ho.cells, hb⟩
theorem iRL_yes (k : Int) (A : Option Addr) (c : Nat) (xs ys : List Rn) (w : World) (h : Cells w A (fr xs)) (hl : xs.length ≤ 1048576) (hv : RLc xs k) (hy : ys = shR xs k) :
    Calls Try.prog 37 #[.slice A xs.length c, .int .i64 k] w (GotR ys w) := by
  have := iRL_any k A c xs w h hl
  rw [rlL_yes hv, rlB_yes hv, ← hy] at this
  exact this.mono fun e w' h => h.got
theorem sRL_yes (k : Int) (A : Option Addr) (c : Nat) (xs ys : List Rn) (w : World) (h : Cells w A (fr xs)) (hl : xs.length ≤ 1048576) (hv : RLc xs k) (hy : ys = shR xs k) :
    Calls Try.prog 36 #[.slice A xs.length c, .int .i64 k] w (GotR ys w) := by
  have := sRL_any k A c xs w h hl
  rw [rlL_yes hv, rlB_yes hv, ← hy] at this
  exact this.mono fun e w' h => h.got
end Go.Proofs.Ytgimheekaceifaa
