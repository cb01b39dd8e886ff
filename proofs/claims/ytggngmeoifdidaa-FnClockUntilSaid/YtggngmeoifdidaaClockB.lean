import Derived.Test.YtggngmeoifdidaaClockA
import Derived.LoopTactic
import Derived.Deep.QuietTactic
import Derived.BigQuiet
import Derived.WalkSmall
namespace Go.Proofs.Ytggngmeoifdidaa
open Go.RowKit

theorem iClockLocal_yes (t a : Int) (w : World) (h1 : 0 ≤ t) (h2 : t ≤ 10000) (h3 : -720 ≤ a) (h4 : a ≤ 720) :
    Calls Try.prog 13 #[.int .i64 t, .int .i64 a] w fun e w' => e = .returned (.tuple #[.int .i64 ((t + a) % 1440), .bool true]) ∧ w = w' := by
  go_enter Try.func13, Try.ntmps13
  go_wp2_with (first | (go_at_call 25; refine (tvT _ _ h1 h2).mono ?_; rintro e w1 ⟨rfl, rfl⟩) | (go_at_call 26; refine (clockOf_any _ _ (by omega) (by omega)).mono ?_; rintro e w1 ⟨rfl, rfl⟩))
  go_ret2
  exact ⟨rfl, rfl⟩

theorem iClockLocal_no (t a : Int) (w : World) (h : t < 0 ∨ 10000 < t ∨ a < -720 ∨ 720 < a) :
    Calls Try.prog 13 #[.int .i64 t, .int .i64 a] w fun e w' => e = .returned (.tuple #[.int .i64 0, .bool false]) ∧ w = w' := by
  by_cases ht : t < 0 ∨ 10000 < t
  · clear h
    go_enter Try.func13, Try.ntmps13
    go_wp2_with ((go_at_call 25; refine (tvF _ _ ht).mono ?_; rintro e w1 ⟨rfl, rfl⟩))
    go_ret2
    exact ⟨rfl, rfl⟩
  · have h1 : 0 ≤ t := by omega
    have h2 : t ≤ 10000 := by omega
    have h3 : a < -720 ∨ 720 < a := by omega
    clear h ht
    by_cases h4 : a < -720
    · clear h3
      go_enter Try.func13, Try.ntmps13
      go_wp2_with ((go_at_call 25; refine (tvT _ _ h1 h2).mono ?_; rintro e w1 ⟨rfl, rfl⟩))
      go_ret2
      exact ⟨rfl, rfl⟩
    · have h5 : 720 < a := by omega
      clear h3
      go_enter Try.func13, Try.ntmps13
      go_wp2_with ((go_at_call 25; refine (tvT _ _ h1 h2).mono ?_; rintro e w1 ⟨rfl, rfl⟩))
      go_ret2
      exact ⟨rfl, rfl⟩

theorem sClockLocal_yes (t a : Int) (w : World) (h1 : 0 ≤ t) (h2 : t ≤ 10000) (h3 : -720 ≤ a) (h4 : a ≤ 720) :
    Calls Try.prog 12 #[.int .i64 t, .int .i64 a] w fun e w' => e = .returned (.tuple #[.int .i64 ((t + a) % 1440), .bool true]) ∧ w = w' := by
  go_enter Try.func12, Try.ntmps12
  go_wp2_with ((go_at_call 24; refine (inT _ _ _ _ (by assumption) (by assumption)).mono ?_; rintro e w1 ⟨rfl, rfl⟩))
  go_ret2
  exact ⟨by simp, rfl⟩

theorem sClockLocal_no (t a : Int) (w : World) (h : t < 0 ∨ 10000 < t ∨ a < -720 ∨ 720 < a) :
    Calls Try.prog 12 #[.int .i64 t, .int .i64 a] w fun e w' => e = .returned (.tuple #[.int .i64 0, .bool false]) ∧ w = w' := by
  by_cases ht : t < 0 ∨ 10000 < t
  · clear h
    go_enter Try.func12, Try.ntmps12
    go_wp2_with ((go_at_call 24; refine (inF _ _ _ _ ht).mono ?_; rintro e w1 ⟨rfl, rfl⟩))
    go_ret2
    exact ⟨rfl, rfl⟩
  · have h1 : 0 ≤ t := by omega
    have h2 : t ≤ 10000 := by omega
    have h3 : a < -720 ∨ 720 < a := by omega
    clear h ht
    go_enter Try.func12, Try.ntmps12
    go_wp2_with fail
    refine (inT _ _ _ _ h1 h2).mono ?_
    rintro e w1 ⟨rfl, rfl⟩
    go_wp2_with fail
    refine (inF _ _ _ _ h3).mono ?_
    rintro e w1 ⟨rfl, rfl⟩
    go_wp2_with fail
    go_ret2
    exact ⟨rfl, rfl⟩

theorem until_any (a b : Int) (w : World) (h1 : 0 ≤ a) (h2 : a < 1440) (h3 : 0 ≤ b) (h4 : b < 1440) :
    Calls Try.prog 27 #[.int .i64 a, .int .i64 b] w fun e w' => e = .returned (.int .i64 ((b - a) % 1440)) ∧ w = w' := by
  go_enter Try.func27, Try.ntmps27
  go_wp2_with ((go_at_call 26; refine (clockOf_any _ _ (by omega) (by omega)).mono ?_; rintro e w1 ⟨rfl, rfl⟩))
  go_ret
  exact ⟨rfl, rfl⟩

theorem iClockUntil_yes (a b : Int) (w : World) (h1 : 0 ≤ a) (h2 : a < 1440) (h3 : 0 ≤ b) (h4 : b < 1440) :
    Calls Try.prog 15 #[.int .i64 a, .int .i64 b] w fun e w' => e = .returned (.int .i64 ((b - a) % 1440)) ∧ w = w' := by
  go_enter Try.func15, Try.ntmps15
  go_wp2_with ((go_at_call 27; refine (until_any _ _ _ h1 h2 h3 h4).mono ?_; rintro e w1 ⟨rfl, rfl⟩))
  go_ret
  exact ⟨rfl, rfl⟩

theorem iClockUntil_no (a b : Int) (w : World) (h : a < 0 ∨ 1440 ≤ a ∨ b < 0 ∨ 1440 ≤ b) :
    Calls Try.prog 15 #[.int .i64 a, .int .i64 b] w fun e w' => e = .returned (.int .i64 (-1)) ∧ w = w' := by
  have : a < 0 ∨ (0 ≤ a ∧ 1440 ≤ a) ∨ (0 ≤ a ∧ a < 1440 ∧ b < 0) ∨ (0 ≤ a ∧ a < 1440 ∧ 0 ≤ b ∧ 1440 ≤ b) := by omega
  clear h
  rcases this with h | ⟨h, h2⟩ | ⟨h, h2, h3⟩ | ⟨h, h2, h3, h4⟩
  all_goals
    go_enter Try.func15, Try.ntmps15
    go_wp2_with fail
    go_ret
    exact ⟨rfl, rfl⟩

theorem sClockUntil_yes (a b : Int) (w : World) (h1 : 0 ≤ a) (h2 : a < 1440) (h3 : 0 ≤ b) (h4 : b < 1440) :
    Calls Try.prog 14 #[.int .i64 a, .int .i64 b] w fun e w' => e = .returned (.int .i64 ((b - a) % 1440)) ∧ w = w' := by
  go_enter Try.func14, Try.ntmps14
  go_wp2_with ((go_at_call 24; refine (inT _ _ _ _ (by assumption) (by omega)).mono ?_; rintro e w1 ⟨rfl, rfl⟩))
  go_ret
  exact ⟨by simp, rfl⟩

theorem sClockUntil_no (a b : Int) (w : World) (h : a < 0 ∨ 1440 ≤ a ∨ b < 0 ∨ 1440 ≤ b) :
    Calls Try.prog 14 #[.int .i64 a, .int .i64 b] w fun e w' => e = .returned (.int .i64 (-1)) ∧ w = w' := by
  by_cases ht : a < 0 ∨ 1439 < a
  · clear h
    go_enter Try.func14, Try.ntmps14
    go_wp2_with ((go_at_call 24; refine (inF _ _ _ _ ht).mono ?_; rintro e w1 ⟨rfl, rfl⟩))
    go_ret
    exact ⟨rfl, rfl⟩
  · have h1 : 0 ≤ a := by omega
    have h2 : a ≤ 1439 := by omega
    have h3 : b < 0 ∨ 1439 < b := by omega
    clear h ht
    go_enter Try.func14, Try.ntmps14
    go_wp2_with fail
    refine (inT _ _ _ _ h1 h2).mono ?_
    rintro e w1 ⟨rfl, rfl⟩
    go_wp2_with fail
    refine (inF _ _ _ _ h3).mono ?_
    rintro e w1 ⟨rfl, rfl⟩
    go_wp2_with fail
    go_ret
    exact ⟨rfl, rfl⟩

theorem two_yes (s : ByteArray) (w : World) (g0 : 0 < s.size) (g1 : 1 < s.size) (h1 : (48 : Int) ≤ (s[0].toNat : Int)) (h2 : (s[0].toNat : Int) ≤ 57) (h3 : (48 : Int) ≤ (s[1].toNat : Int)) (h4 : (s[1].toNat : Int) ≤ 57) :
    Calls Try.prog 32 #[.string s] w fun e w' => e = .returned (.tuple #[.int .i64 (((s[0].toNat : Int) - (48 : Int)) * (10 : Int) + ((s[1].toNat : Int) - (48 : Int))), .bool true]) ∧ Below w.heap.size w w' := by
  go_enter Try.func32, Try.ntmps32
  go_wp2_with fail
  go_quiet (fail)
  go_wp2_with fail
  go_ret2
  exact ⟨rfl, below_drewN (Below.refl _ _) _⟩

theorem two_no (s : ByteArray) (w : World) (hs : s.size = 2) (h : (s[0].toNat : Int) < 48 ∨ 57 < (s[0].toNat : Int) ∨ (s[1].toNat : Int) < 48 ∨ 57 < (s[1].toNat : Int)) :
    Calls Try.prog 32 #[.string s] w fun e w' => e = .returned (.tuple #[.int .i64 0, .bool false]) ∧ Below w.heap.size w w' := by
  have g0 : 0 < s.size := by omega
  have g1 : 1 < s.size := by omega
  have : (s[0].toNat : Int) < 48 ∨ (48 ≤ (s[0].toNat : Int) ∧ 57 < (s[0].toNat : Int)) ∨ (48 ≤ (s[0].toNat : Int) ∧ (s[0].toNat : Int) ≤ 57 ∧ (s[1].toNat : Int) < 48) ∨ (48 ≤ (s[0].toNat : Int) ∧ (s[0].toNat : Int) ≤ 57 ∧ 48 ≤ (s[1].toNat : Int) ∧ 57 < (s[1].toNat : Int)) := by omega
  clear hs h
  rcases this with h | ⟨h, h2⟩ | ⟨h, h2, h3⟩ | ⟨h, h2, h3, h4⟩
  all_goals
    go_enter Try.func32, Try.ntmps32
    go_wp2_with fail
    go_ret2
    exact ⟨rfl, Below.refl _ _⟩

end Go.Proofs.Ytggngmeoifdidaa
