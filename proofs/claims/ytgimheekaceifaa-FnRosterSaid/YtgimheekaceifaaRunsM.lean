import Derived.Test.YtgimheekaceifaaRunsC
namespace Go.Proofs.Ytgimheekaceifaa
open Go.RowKit

set_option maxRecDepth 100000 in
theorem markR (B : Nat) (A : Option Addr) (c : Nat) (xs : List Rn) (w : World) (h : ROwn w B A c xs) (hn : xs.length ≤ 1048576) :
    Calls Try.prog 38 #[.slice A xs.length c, .int .i64 1] w fun e w' => e = .returned (.int .i64 (1 + (xs.length : Int) * 2)) ∧ Marked w' B 33 2 A xs.length c ∧ w.grownBy w' (Value.slice A xs.length c).ownBlock := by
  by_cases h0 : xs.length = 0
  · obtain rfl : xs = [] := List.eq_nil_of_length_eq_zero h0
    have HO := Lib.hid h
    clear h h0 hn
    go_enter Try.func38, Try.ntmps38
    go_wp2_with fail
    refine wp_loop_rounds 1 ?_
    rw [rounds_succ]
    go_wp2_with fail
    go_ret
    exact ⟨rfl, HO.out, World.grownBy.refl _ _⟩
  · rcases h.2 with ⟨_, h1⟩ | ⟨g, cap, cur, hv, _⟩
    · exact absurd h1 h0
    · have hA : A = some ⟨g, 0, none⟩ := by injection hv
      subst hA
      exact markRunS_any B g xs.length c _ w h hn

theorem heldR (B : Nat) (A : Option Addr) (n c : Nat) (w : World) (h : Marked w B 33 2 A n c) (hn : n ≤ 1048576) :
    Calls Try.prog 39 #[.slice A n c, .int .i64 1] w fun e w' => e = .returned (.int .i64 (1 + (n : Int) * 2)) ∧ w = w' :=
  heldRunS_any A n c w (Cells.of_own h) hn

set_option maxRecDepth 100000 in
theorem markI (B : Nat) (A : Option Addr) (c : Nat) (m0 : Int) (zs : List Int) (w : World) (h : IOwn w B A c zs) (hn : zs.length ≤ 1048576) (hm0 : 1 ≤ m0) (hm1 : m0 ≤ 4000000) :
    Calls Try.prog 52 #[.slice A zs.length c, .int .i64 m0] w fun e w' => e = .returned (.int .i64 (m0 + (zs.length : Int))) ∧ w'.ownsRow B 3 1 (.slice A zs.length c) zs.length ((marks m0 (zs.length * 1)).map (Value.int .i64)) ∧ w.grownBy w' (Value.slice A zs.length c).ownBlock := by
  by_cases h0 : zs.length = 0
  · obtain rfl : zs = [] := List.eq_nil_of_length_eq_zero h0
    have HO := Lib.hid h
    clear h h0 hn
    go_enter Try.func52, Try.ntmps52
    go_wp2_with fail
    refine wp_loop_rounds 1 ?_
    rw [rounds_succ]
    go_wp2_with fail
    go_ret
    exact ⟨by simp, HO.out, World.grownBy.refl _ _⟩
  · rcases h.2 with ⟨_, h1⟩ | ⟨g, cap, cur, hv, _⟩
    · exact absurd h1 h0
    · have hA : A = some ⟨g, 0, none⟩ := by injection hv
      subst hA
      rw [Nat.mul_one]
      exact markIntS_any B g zs.length c m0 _ w h hn hm0 hm1

theorem heldI (B : Nat) (A : Option Addr) (n c : Nat) (w : World) (h : Marked w B 3 1 A n c) (hn : n ≤ 1048576) :
    Calls Try.prog 53 #[.slice A n c, .int .i64 1] w fun e w' => e = .returned (.int .i64 (1 + (n : Int))) ∧ w = w' := by
  have h' := Cells.of_own (zs := marks 1 (n * 1)) h
  rw [Nat.mul_one] at h'
  exact heldIntS_any A n c w h' hn
end Go.Proofs.Ytgimheekaceifaa
