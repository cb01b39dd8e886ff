import Derived.Test.YtmnoidgfcpbmgaaRunsV
namespace Go.Proofs.Ytmnoidgfcpbmgaa
open Go.RowKit

set_option maxRecDepth 100000 in
set_option maxHeartbeats 1000000 in
theorem iRM_no (A : Option Addr) (c : Nat) (xs : List Rn) (rest : Int) (w : World) (h : Cells w A (fr xs)) (hl : xs.length ≤ 1048576) (hv : ¬ ROk xs rest) :
    Calls Try.prog 22 #[.slice A xs.length c, .int .i64 rest] w (IPair [] false w) := by
  by_cases h1 : RValid xs
  · have h2 : rest < 0 ∨ 600 < rest := by
      rcases Int.lt_or_le rest 0 with a | a
      · exact .inl a
      · rcases Int.lt_or_le 600 rest with b | b
        · exact .inr b
        · exact absurd ⟨h1, a, b⟩ hv
    have HT := Lib.hid h2
    have HV := Lib.hid h1
    clear hv h1 h2
    go_enter Try.func22, Try.ntmps22
    go_wp2_with fail
    have O0 := Lib.hid (IOwn.empty w w.heap.size (Nat.le_refl _))
    have B0 := Lib.hid ((Below.refl w.heap.size w).alloc (Nat.le_refl _) (.cells #[] 3))
    refine (iRV_yes (h.alloc _) hl HV.out).mono ?_
    rintro e w1 ⟨rfl, b1⟩
    have O1 := Lib.hid (O0.out.below b1)
    have B1 := Lib.hid (B0.out.trans (b1.mono (by simp)))
    clear b1 O0 B0
    go_wp2_with fail
    refine (rvF _ _ HT.out).mono ?_
    rintro e w2 ⟨rfl, rfl⟩
    go_wp2_with fail
    go_ret2
    exact ⟨_, _, rfl, O1.out, B1.out⟩
  · have HV := Lib.hid h1
    clear hv h1
    go_enter Try.func22, Try.ntmps22
    go_wp2_with fail
    have O0 := Lib.hid (IOwn.empty w w.heap.size (Nat.le_refl _))
    have B0 := Lib.hid ((Below.refl w.heap.size w).alloc (Nat.le_refl _) (.cells #[] 3))
    refine (iRV_no (h.alloc _) hl HV.out).mono ?_
    rintro e w1 ⟨rfl, b1⟩
    have O1 := Lib.hid (O0.out.below b1)
    have B1 := Lib.hid (B0.out.trans (b1.mono (by simp)))
    clear b1 O0 B0
    go_wp2_with fail
    go_ret2
    exact ⟨_, _, rfl, O1.out, B1.out⟩
theorem iRM_any (A : Option Addr) (c : Nat) (xs : List Rn) (rest : Int) (w : World) (h : Cells w A (fr xs)) (hl : xs.length ≤ 1048576) :
    Calls Try.prog 22 #[.slice A xs.length c, .int .i64 rest] w (IPair (rmL xs rest) (okB xs rest) w) := by
  by_cases hv : ROk xs rest
  · rw [rmL_yes hv, okB_yes hv]; exact iRM_yes A c xs rest w h hl hv
  · rw [rmL_no hv, okB_no hv]; exact iRM_no A c xs rest w h hl hv

theorem rtV_gRo {xs : List Rn} {rest : Int} (h : ROk xs rest) : rtV xs rest (gRo xs rest) = tlV xs rest := by
  rw [rtV_yes (roValid_gRo h), tlV_yes h, gRo_len, most_eq h.1 h.2.1]

set_option maxRecDepth 100000 in
set_option maxHeartbeats 1000000 in
theorem iTL_any (A : Option Addr) (c : Nat) (xs : List Rn) (rest : Int) (w : World) (h : Cells w A (fr xs)) (hl : xs.length ≤ 1048576) :
    Calls Try.prog 9 #[.slice A xs.length c, .int .i64 rest] w fun e w' => e = .returned (.int .i64 (tlV xs rest)) ∧ Below w.heap.size w w' := by
  by_cases hv : ROk xs rest
  · have HV := Lib.hid hv
    clear hv
    go_enter Try.func9, Try.ntmps9
    go_wp2_with fail
    refine (iRM_yes _ _ xs _ _ h hl HV.out).mono ?_
    rintro e w1 ⟨R, rc, rfl, ho, b1⟩
    have s1 := h.below b1
    clear h
    go_wp2_with fail
    refine (iRT_any _ _ _ _ xs _ (gRo xs rest) _ s1 ho.cells hl (by rw [gRo_len]; exact hl)).mono ?_
    rintro e w2 ⟨rfl, b2⟩
    go_wp2_with fail
    go_ret
    exact ⟨ret_int (rtV_gRo HV.out), b1.trans (b2.mono b1.size)⟩
  · have HV := Lib.hid hv
    clear hv
    go_enter Try.func9, Try.ntmps9
    go_wp2_with fail
    refine (iRM_no _ _ xs _ _ h hl HV.out).mono ?_
    rintro e w1 ⟨R, rc, rfl, ho, b1⟩
    go_wp2_with fail
    go_ret
    exact ⟨ret_int (tlV_no HV.out).symm, b1⟩

end Go.Proofs.Ytmnoidgfcpbmgaa
