import Derived.Test.YtdmbgnbegnlcaaaStopsG
namespace Go.Proofs.Ytdmbgnbegnlcaaa
open Go.RowKit

theorem own_kept {w w' : World} {base : Nat} {e : TypeId} {size n : Nat} {v : Value} {xs : List Value} {row : Option Nat} (h : w.ownsRow base e size v n xs) (hg : w.grownBy w' row) (hne : ∀ q, v.ownBlock = some q → some q ≠ row) : w'.ownsRow base e size v n xs := by
  refine h.kept hg ?_
  cases hv : v.ownBlock with
  | none => exact .inl rfl
  | some q => exact .inr (hne q hv)

set_option maxRecDepth 100000 in
theorem markS (B : Nat) (A : Option Addr) (c : Nat) (xs : List St) (w : World) (h : Own w B A c xs) (hn : xs.length ≤ 1048576) :
    Calls Try.prog 47 #[.slice A xs.length c, .int .i64 1] w fun e w' => e = .returned (.int .i64 (1 + (xs.length : Int) * 3)) ∧ w'.ownsRow B 43 3 (.slice A xs.length c) xs.length ((marks 1 (xs.length * 3)).map (Value.int .i64)) ∧ w.grownBy w' (Value.slice A xs.length c).ownBlock := by
  by_cases h0 : xs.length = 0
  · obtain rfl : xs = [] := List.eq_nil_of_length_eq_zero h0
    have HO := Lib.hid h
    clear h h0 hn
    go_enter Try.func47, Try.ntmps47
    go_wp2_with fail
    refine wp_loop_rounds 1 ?_
    rw [rounds_succ]
    go_wp2_with fail
    go_ret
    exact ⟨rfl, HO.out, World.grownBy.refl _ _⟩
  · rcases h.2 with ⟨_, h1⟩ | ⟨g, cap, cur, hv, _⟩
    · exact absurd h1 h0
    · have hA : A = some ⟨g, 0, none⟩ := by injection hv
      subst hA
      exact markStopS_any B g xs.length c _ w h hn

theorem heldS (B : Nat) (A : Option Addr) (n c : Nat) (w : World) (h : w.ownsRow B 43 3 (.slice A n c) n ((marks 1 (n * 3)).map (Value.int .i64))) (hn : n ≤ 1048576) :
    Calls Try.prog 48 #[.slice A n c, .int .i64 1] w fun e w' => e = .returned (.int .i64 (1 + (n : Int) * 3)) ∧ w = w' :=
  heldStopS_any A n c w (Cells.of_own h) hn
end Go.Proofs.Ytdmbgnbegnlcaaa
