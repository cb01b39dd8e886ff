import Derived.Test.YtggngmeoifdidaaClockD
namespace Go.Proofs.Ytggngmeoifdidaa
open Go.RowKit
set_option maxRecDepth 100000 in
theorem sClockFrom_yes (m : Nat) (s : ByteArray) (w : World) (h2 : m < 1440) (hs : s = ctext m) :
    Calls Try.prog 19 #[.string s] w fun e w' => e = .returned (.tuple #[.int .i64 m, .bool true]) ∧ Below w.heap.size w w' := by
  have HS := Lib.hid hs
  clear hs
  go_enter Try.func19, Try.ntmps19
  go_wp2_with fail
  go_loopw [4] (fun i wr => ∃ k : Nat, k ≤ m ∧ i = .int .i64 k ∧ Below w.heap.size w wr) (fun i _ => 1440 - (intOf i).toNat)
  case atStart => exact ⟨0, Nat.zero_le _, rfl, Below.refl _ _⟩
  case round =>
    obtain ⟨k, hk, rfl, hb⟩ := hrel
    by_cases hkm : k = m
    · have HE := Lib.hid (show ((ctext (k : Int)).toList == s.toList) = true from str_eq (by rw [HS.out, hkm]))
      have hk2 : k < 1440 := by omega
      have HM := Lib.hid hkm
      clear hkm
      have hmod := Lib.hid (show (k : Int) % 1440 = k by omega)
      go_wp2_with ((go_at_call 16; refine (sClockText_yes _ _ (by omega) (by omega)).mono ?_; rw [hmod.out]; rintro e w1 ⟨rfl, hb1⟩; have he := HE.out))
      go_ret2
      exact ⟨congrArg (fun n : Nat => Ending.returned (Value.tuple #[Value.int .i64 (n : Int), .bool true])) HM.out, hb.trans (hb1.mono hb.size)⟩
    · have HE := Lib.hid (show ((ctext (k : Int)).toList == s.toList) = false from str_ne <| by
        rw [HS.out]
        intro e
        have := ctext_inj k m (by omega) (by omega) (by omega) (by omega) e
        omega)
      have hk2 : k < m := by omega
      clear hkm
      have hmod := Lib.hid (show (k : Int) % 1440 = k by omega)
      go_wp2_with ((go_at_call 16; refine (sClockText_yes _ _ (by omega) (by omega)).mono ?_; rw [hmod.out]; rintro e w1 ⟨rfl, hb1⟩; have he := HE.out))
      go_roundw
      case rel => exact ⟨k + 1, by omega, by go_num, hb.trans (hb1.mono hb.size)⟩
      case measure => simp [intOf]; omega

set_option maxRecDepth 100000 in
theorem sClockFrom_no (s : ByteArray) (w : World) (hn : ∀ m, 0 ≤ m → m < 1440 → s ≠ ctext m) :
    Calls Try.prog 19 #[.string s] w fun e w' => e = .returned (.tuple #[.int .i64 0, .bool false]) ∧ Below w.heap.size w w' := by
  have HN := Lib.hid hn
  clear hn
  go_enter Try.func19, Try.ntmps19
  go_wp2_with fail
  go_loopw [4] (fun i wr => ∃ k : Nat, k ≤ 1440 ∧ i = .int .i64 k ∧ Below w.heap.size w wr) (fun i _ => 1440 - (intOf i).toNat)
  case atStart => exact ⟨0, Nat.zero_le _, rfl, Below.refl _ _⟩
  case round =>
    obtain ⟨k, hk, rfl, hb⟩ := hrel
    by_cases hk2 : k < 1440
    · have HE := Lib.hid (show ((ctext (k : Int)).toList == s.toList) = false from str_ne <| by
        intro e
        exact HN.out k (by omega) (by omega) e.symm)
      have hmod := Lib.hid (show (k : Int) % 1440 = k by omega)
      go_wp2_with ((go_at_call 16; refine (sClockText_yes _ _ (by omega) (by omega)).mono ?_; rw [hmod.out]; rintro e w1 ⟨rfl, hb1⟩; have he := HE.out))
      go_roundw
      case rel => exact ⟨k + 1, by omega, by go_num, hb.trans (hb1.mono hb.size)⟩
      case measure => simp [intOf]; omega
    · go_wp2_with fail
      go_ret2
      exact ⟨rfl, hb⟩
end Go.Proofs.Ytggngmeoifdidaa
