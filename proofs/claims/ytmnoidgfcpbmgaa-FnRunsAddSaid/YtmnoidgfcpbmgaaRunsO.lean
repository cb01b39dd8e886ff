import Derived.Test.YtmnoidgfcpbmgaaRunsH
import Derived.Test.YtmnoidgfcpbmgaaRunsN
namespace Go.Proofs.Ytmnoidgfcpbmgaa
open Go.RowKit

open Classical in
/-- What TeamsPeak returns. -/
noncomputable def pkV (xs : List Rn) (rest : Int) : Int := if ROk xs rest then (pkTo xs rest xs.length).1 else 0
open Classical in
noncomputable def pkB (xs : List Rn) (rest : Int) : Bool := decide (ROk xs rest ∧ 0 < xs.length)
theorem pkV_yes {xs : List Rn} {rest : Int} (h : ROk xs rest) : pkV xs rest = (pkTo xs rest xs.length).1 := if_pos h
theorem pkV_no {xs : List Rn} {rest : Int} (h : ¬ ROk xs rest) : pkV xs rest = 0 := if_neg h
theorem pkB_no {xs : List Rn} {rest : Int} (h : ¬ ROk xs rest) : pkB xs rest = false := by simp [pkB, h]
theorem pkB_yes {xs : List Rn} {rest : Int} (h : ROk xs rest) : pkB xs rest = decide (0 < xs.length) := by simp [pkB, h]
theorem pk_num {xs : List Rn} {rest : Int} (h : ROk xs rest) : (0 < (pkTo xs rest xs.length).2) ↔ 0 < xs.length := by
  rw [pkTo_num]
  constructor
  · intro g
    rcases Nat.eq_zero_or_pos xs.length with z | z
    · rw [z] at g; simp [mostTo] at g
    · exact z
  · intro g; exact most_pos h.1 h.2.1 g
theorem pk_le (xs : List Rn) (rest : Int) (m : Nat) (hm : m ≤ xs.length) : (pkTo xs rest m).2 ≤ xs.length := by
  rw [pkTo_num]
  exact mostTo_le xs rest _ m fun i _ => busyTo_le xs rest _ _

theorem ret_ib {a a' : Int} {b b' : Bool} (h1 : a = a') (h2 : b = b') : Ending.returned (.tuple #[.int .i64 a, .bool b]) = .returned (.tuple #[.int .i64 a', .bool b']) := by rw [h1, h2]

/-- The best start of the reference behind k rounds. -/
def bst (xs : List Rn) (rest : Int) (k : Nat) : Int := if k = 0 then rs xs 0 else (pkTo xs rest k).1
theorem pkTo_pos {xs : List Rn} {rest : Int} (hv : RValid xs) (h0 : 0 ≤ rest) {k : Nat} (hk : 0 < k) (hl : 0 < xs.length) : 0 < (pkTo xs rest k).2 := by
  rw [pkTo_num]
  have := mostTo_ge xs rest k 0 hk
  have := busy_self hv h0 hl
  omega
theorem bst_busy {xs : List Rn} {rest : Int} (hv : RValid xs) (h0 : 0 ≤ rest) {k : Nat} (hk : 0 < k) (hl : 0 < xs.length) : busyTo xs rest (bst xs rest k) xs.length = (pkTo xs rest k).2 := by
  unfold bst
  rw [if_neg (by omega)]
  obtain ⟨j, hj, a, b, c⟩ := pkTo_at xs rest k (pkTo_pos hv h0 hk hl)
  rw [a, b]
theorem bst_step {xs : List Rn} {rest : Int} (hv : RValid xs) (h0 : 0 ≤ rest) {k : Nat} (hk : k < xs.length) :
    bst xs rest (k + 1) = if busyTo xs rest (bst xs rest k) xs.length < busyTo xs rest (rs xs k) xs.length then rs xs k else bst xs rest k := by
  rcases Nat.eq_zero_or_pos k with hz | hz
  · subst hz
    have e : bst xs rest 0 = rs xs 0 := rfl
    have := busy_self hv h0 hk
    rw [e, if_neg (by omega)]
    have h1 : pkTo xs rest (0 + 1) = (rs xs 0, busyTo xs rest (rs xs 0) xs.length) := if_pos this
    unfold bst
    rw [if_neg (by omega), h1]
  · rw [bst_busy hv h0 hz (by omega)]
    unfold bst
    rw [if_neg (show ¬ k + 1 = 0 by omega), if_neg (show ¬ k = 0 by omega)]
    simp only [pkTo]
    split <;> rfl

/-- What RestMost returns. -/
def RMc (xs : List Rn) (teams : Int) : Prop := RValid xs ∧ 1 ≤ teams ∧ teams ≤ 12
open Classical in
noncomputable def rmV (xs : List Rn) (teams : Int) : Int := if RMc xs teams then rmFrom xs teams 601 else -1
theorem rmV_yes {xs : List Rn} {teams : Int} (h : RMc xs teams) : rmV xs teams = rmFrom xs teams 601 := if_pos h
theorem rmV_no {xs : List Rn} {teams : Int} (h : ¬ RMc xs teams) : rmV xs teams = -1 := if_neg h

end Go.Proofs.Ytmnoidgfcpbmgaa
