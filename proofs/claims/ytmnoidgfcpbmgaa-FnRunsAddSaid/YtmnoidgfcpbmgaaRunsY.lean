import Derived.Test.YtmnoidgfcpbmgaaRunsX
import Derived.Test.YtmnoidgfcpbmgaaRunsV1
import Derived.Test.YtmnoidgfcpbmgaaRunsJ
import Derived.Test.YtmnoidgfcpbmgaaRunsU
namespace Go.Proofs.Ytmnoidgfcpbmgaa
open Go.RowKit
set_option maxRecDepth 100000 in
set_option maxHeartbeats 400000 in
theorem sameRuns_yes (A B : Option Addr) (c d : Nat) (xs : List Rn) (w : World) (h : Cells w A (fr xs)) (h' : Cells w B (fr xs)) (hn : xs.length ≤ 1048576) :
    Calls Try.prog 8 #[.slice A xs.length c, .slice B xs.length d] w fun e w' => e = .returned (.bool true) ∧ Below w.heap.size w w' := by
  go_enter Try.func8, Try.ntmps8
  go_wp2_with fail
  go_loopw [5] (fun i wr => ∃ k : Nat, k ≤ xs.length ∧ i = .int .i64 k ∧ Below w.heap.size w wr) (fun i _ => xs.length - (intOf i).toNat)
  case atStart => exact ⟨0, Nat.zero_le _, rfl, Below.refl _ _⟩
  case round =>
    obtain ⟨k, hk, rfl, hbel⟩ := hrel
    by_cases hlt : k < xs.length
    · obtain ⟨b, o, hA, hb, c0, c1⟩ := h.at2 hlt
      have d0 := (hbel.cell (p := ⟨b, o + k * 2, none⟩) hb).trans c0
      have d1 := (hbel.cell (p := ⟨b, o + k * 2 + 1, none⟩) hb).trans c1
      subst hA
      clear c0 c1
      obtain ⟨b', o', hA', hb', c0, c1⟩ := h'.at2 hlt
      have d0' := (hbel.cell (p := ⟨b', o' + k * 2, none⟩) hb').trans c0
      have d1' := (hbel.cell (p := ⟨b', o' + k * 2 + 1, none⟩) hb').trans c1
      subst hA'
      clear c0 c1
      have i1 : (k : Int) < (xs.length : Int) := by omega
      go_wp2_with fail
      go_quiet (fail)
      go_wp2_with fail
      exact ⟨⟨k + 1, by omega, by go_num, below_drewN' hbel _⟩, by simp [intOf]; omega⟩
    · go_wp2_with fail
      go_ret
      exact ⟨rfl, hbel⟩

theorem quiet_cell {w wr : World} (h : ∃ m', wr = w.drewN m') (p : Addr) : wr.cell? p = w.cell? p := by
  obtain ⟨m', e⟩ := h
  subst e
  rfl
set_option maxRecDepth 100000 in
set_option maxHeartbeats 400000 in
/-- sameRuns makes no memory: it draws alone. -/
theorem sameRuns_q (A B : Option Addr) (c d : Nat) (xs : List Rn) (w : World) (m : Nat) (h : Cells w A (fr xs)) (h' : Cells w B (fr xs)) (hn : xs.length ≤ 1048576) :
    Calls Try.prog 8 #[.slice A xs.length c, .slice B xs.length d] (w.drewN m) fun e w' => e = .returned (.bool true) ∧ ∃ m', w' = w.drewN m' := by
  go_enter Try.func8, Try.ntmps8
  go_wp2_with fail
  go_loopw [5] (fun i wr => ∃ k : Nat, k ≤ xs.length ∧ i = .int .i64 k ∧ ∃ m', wr = w.drewN m') (fun i _ => xs.length - (intOf i).toNat)
  case atStart => exact ⟨0, Nat.zero_le _, rfl, m, rfl⟩
  case round =>
    obtain ⟨k, hk, rfl, hbel⟩ := hrel
    have HQ := Lib.hid hbel
    by_cases hlt : k < xs.length
    · obtain ⟨b, o, hA, hb, c0, c1⟩ := h.at2 hlt
      have d0 := (quiet_cell hbel ⟨b, o + k * 2, none⟩).trans c0
      have d1 := (quiet_cell hbel ⟨b, o + k * 2 + 1, none⟩).trans c1
      subst hA
      clear c0 c1
      obtain ⟨b', o', hA', hb', c0, c1⟩ := h'.at2 hlt
      have d0' := (quiet_cell hbel ⟨b', o' + k * 2, none⟩).trans c0
      have d1' := (quiet_cell hbel ⟨b', o' + k * 2 + 1, none⟩).trans c1
      subst hA'
      clear c0 c1 hbel
      have i1 : (k : Int) < (xs.length : Int) := by omega
      go_wp2_with fail
      go_quiet (fail)
      go_wp2_with fail
      refine ⟨⟨k + 1, by omega, by go_num, ?_⟩, by simp [intOf]; omega⟩
      obtain ⟨m', e⟩ := HQ.out
      rw [e]
      exact ⟨_, World.drewN_drewN _ _ _⟩
    · clear hbel
      go_wp2_with fail
      go_ret
      exact ⟨rfl, HQ.out⟩

/-- A list of the call's own, told for the walks. -/
def GotI (ro : List Int) (w : World) (e : Ending) (w' : World) : Prop :=
  ∃ R rc, e = .returned (.tuple #[.slice R ro.length rc, .bool true]) ∧ Cells w' R ro ∧ ((R = none ∧ ro.length = 0 ∧ rc = 0) ∨ ∃ g, R = some ⟨g, 0, none⟩ ∧ ro.length ≤ rc ∧ rc ≤ 9223372036854775807) ∧ Below w.heap.size w w'
theorem IPair.got {ro : List Int} {w : World} {e : Ending} {w' : World} (h : IPair ro true w e w') : GotI ro w e w' := by
  obtain ⟨R, rc, rfl, ho, hb⟩ := h
  refine ⟨R, rc, rfl, ho.cells, ?_, hb⟩
  rcases ho.2 with ⟨h1, h2⟩ | ⟨g, cap, cur, h1, _, _, h2, h3, _⟩
  · injection h1 with a b c
    exact .inl ⟨a, h2, c⟩
  · injection h1 with a b c
    subst c
    exact .inr ⟨g, a, h2, by unfold maxLen at h3; omega⟩
theorem iRM_ro (A : Option Addr) (c : Nat) (xs : List Rn) (rest : Int) (ro : List Int) (w : World) (h : Cells w A (fr xs)) (hl : xs.length ≤ 1048576) (hv : ROk xs rest) (hro : ro = gRo xs rest) :
    Calls Try.prog 22 #[.slice A xs.length c, .int .i64 rest] w (GotI ro w) := by
  subst hro
  exact (iRM_yes A c xs rest w h hl hv).mono fun e w' h => h.got
/-- Runs of the call's own, told for the walks. -/
def GotR (ys : List Rn) (w : World) (e : Ending) (w' : World) : Prop :=
  ∃ R rc, e = .returned (.tuple #[.slice R ys.length rc, .bool true]) ∧ Cells w' R (fr ys) ∧ Below w.heap.size w w'
theorem RPair.got {ys : List Rn} {w : World} {e : Ending} {w' : World} (h : RPair ys true w e w') : GotR ys w e w' := by
  obtain ⟨R, rc, rfl, ho, hb⟩ := h
  exact ⟨R, rc, rfl, ho.cells, hb⟩
end Go.Proofs.Ytmnoidgfcpbmgaa
