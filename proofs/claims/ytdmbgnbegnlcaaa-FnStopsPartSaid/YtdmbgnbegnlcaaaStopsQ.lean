import Derived.Test.YtdmbgnbegnlcaaaStopsG
namespace Go.Proofs.Ytdmbgnbegnlcaaa
open Go.RowKit

set_option maxRecDepth 100000 in
set_option maxHeartbeats 400000 in
theorem sameStops_yes (A B : Option Addr) (c d : Nat) (xs : List St) (w : World) (h : Cells w A (fl xs)) (h' : Cells w B (fl xs)) (hn : xs.length ≤ 1048576) :
    Calls Try.prog 51 #[.slice A xs.length c, .slice B xs.length d] w fun e w' => e = .returned (.bool true) ∧ Below w.heap.size w w' := by
  go_enter Try.func51, Try.ntmps51
  go_wp2_with fail
  go_loopw [5] (fun i wr => ∃ k : Nat, k ≤ xs.length ∧ i = .int .i64 k ∧ Below w.heap.size w wr) (fun i _ => xs.length - (intOf i).toNat)
  case atStart => exact ⟨0, Nat.zero_le _, rfl, Below.refl _ _⟩
  case round =>
    obtain ⟨k, hk, rfl, hbel⟩ := hrel
    by_cases hlt : k < xs.length
    · obtain ⟨b, o, hA, hb, c0, c1, c2⟩ := h.at3 hlt
      have d0 := (hbel.cell (p := ⟨b, o + k * 3, none⟩) hb).trans c0
      have d1 := (hbel.cell (p := ⟨b, o + k * 3 + 1, none⟩) hb).trans c1
      have d2 := (hbel.cell (p := ⟨b, o + k * 3 + 2, none⟩) hb).trans c2
      subst hA
      clear c0 c1 c2
      obtain ⟨b', o', hA', hb', c0, c1, c2⟩ := h'.at3 hlt
      have d0' := (hbel.cell (p := ⟨b', o' + k * 3, none⟩) hb').trans c0
      have d1' := (hbel.cell (p := ⟨b', o' + k * 3 + 1, none⟩) hb').trans c1
      have d2' := (hbel.cell (p := ⟨b', o' + k * 3 + 2, none⟩) hb').trans c2
      subst hA'
      clear c0 c1 c2
      have i1 : (k : Int) < (xs.length : Int) := by omega
      go_wp2_with fail
      go_quiet (fail)
      go_wp2_with fail
      exact ⟨⟨k + 1, by omega, by go_num, below_drewN' hbel _⟩, by simp [intOf]; omega⟩
    · go_wp2_with fail
      go_ret
      exact ⟨rfl, hbel⟩
end Go.Proofs.Ytdmbgnbegnlcaaa
