import Derived.Test.YtmnoidgfcpbmgaaRunsC
namespace Go.Proofs.Ytmnoidgfcpbmgaa
open Go.RowKit

set_option maxRecDepth 100000 in
theorem markR (B : Nat) (A : Option Addr) (c : Nat) (xs : List Rn) (w : World) (h : ROwn w B A c xs) (hn : xs.length ≤ 1048576) :
    Calls Try.prog 14 #[.slice A xs.length c, .int .i64 1] w fun e w' => e = .returned (.int .i64 (1 + (xs.length : Int) * 2)) ∧ Marked w' B 25 2 A xs.length c ∧ w.grownBy w' (Value.slice A xs.length c).ownBlock := by
  by_cases h0 : xs.length = 0
  · obtain rfl : xs = [] := List.eq_nil_of_length_eq_zero h0
    have HO := Lib.hid h
    clear h h0 hn
    go_enter Try.func14, Try.ntmps14
    go_wp2_with fail
    refine wp_loop_rounds 1 ?_
    rw [rounds_succ]
    go_wp2_with fail
    go_ret
    exact ⟨rfl, HO.out, World.grownBy.refl _ _⟩
  · rcases h.2 with ⟨_, h1⟩ | ⟨g, cap, cur, hv, _⟩
    · exact absurd h1 h0
    · have hA : A = some ⟨g, 0, none⟩ := by injection hv
      subst hA
      exact markRunS_any B g xs.length c _ w h hn

theorem heldR (B : Nat) (A : Option Addr) (n c : Nat) (w : World) (h : Marked w B 25 2 A n c) (hn : n ≤ 1048576) :
    Calls Try.prog 15 #[.slice A n c, .int .i64 1] w fun e w' => e = .returned (.int .i64 (1 + (n : Int) * 2)) ∧ w = w' :=
  heldRunS_any A n c w (Cells.of_own h) hn

end Go.Proofs.Ytmnoidgfcpbmgaa
