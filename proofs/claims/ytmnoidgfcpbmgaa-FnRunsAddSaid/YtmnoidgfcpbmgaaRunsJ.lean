import Derived.Test.YtmnoidgfcpbmgaaRunsH
import Derived.StillTailTactics
import Derived.Deep.RegionHeld3
import Derived.Deep.AppendLies
namespace Go.Proofs.Ytmnoidgfcpbmgaa
open Go.RowKit

theorem cells2_new (w : World) (e : TypeId) (a b : Value) : ∀ j u, [a, b][j]? = some u → (w.alloc (.cells #[a, b] e)).cell? ((⟨w.heap.size, 0, none⟩ : Addr).add j) = some u := by
  intro j u hj
  match j, hj with
  | 0, hj => rw [← hj]; exact cell_new _ _ _ 0
  | 1, hj => rw [← hj]; exact cell_new _ _ _ 1
  | _ + 2, hj => simp at hj
theorem cells2_new' (w : World) (o : Obj) (e : TypeId) (a b : Value) : ∀ j u, [a, b][j]? = some u → ((w.alloc o).alloc (.cells #[a, b] e)).cell? ((⟨w.heap.size + 1, 0, none⟩ : Addr).add j) = some u := by
  have := cells2_new (w.alloc o) e a b
  simpa using this
theorem cells2_new'' (w : World) (o o' : Obj) (e : TypeId) (a b : Value) : ∀ j u, [a, b][j]? = some u → (((w.alloc o).alloc o').alloc (.cells #[a, b] e)).cell? ((⟨w.heap.size + 1 + 1, 0, none⟩ : Addr).add j) = some u := by
  have := cells2_new ((w.alloc o).alloc o') e a b
  simpa using this
theorem one2 (a b : Int) : ∀ u ∈ [Value.int .i64 a, Value.int .i64 b], u.oneCell' = true := by
  intro u hu
  simp at hu
  rcases hu with rfl | rfl <;> rfl

theorem fr_take (xs : List Rn) (k : Nat) (h : k < xs.length) : fr (xs.take (k + 1)) = fr (xs.take k) ++ [rs xs k, re xs k] := by
  have : xs.take (k + 1) = xs.take k ++ [xs.getD k rnz] := by
    rw [List.take_add_one]; simp [List.getElem?_eq_getElem h]
  rw [this, fr_append]; rfl
theorem fr_sh (xs : List Rn) (k : Int) (j : Nat) (hj : j < xs.length) : fr ((shR xs k).take (j + 1)) = fr ((shR xs k).take j) ++ [rs xs j + k, re xs j + k] := by
  rw [fr_take _ j (by rw [shR_len]; exact hj), (shR_at xs k hj).1, (shR_at xs k hj).2]

/-- Runs can be later by k. -/
def RLc (xs : List Rn) (k : Int) : Prop := RValid xs ∧ (0 < xs.length → -10000 ≤ k ∧ k ≤ 10000) ∧ RValid (shR xs k)
open Classical in
noncomputable def rlL (xs : List Rn) (k : Int) : List Rn := if RLc xs k then shR xs k else []
open Classical in
noncomputable def rlB (xs : List Rn) (k : Int) : Bool := decide (RLc xs k)
theorem rlL_yes {xs : List Rn} {k : Int} (h : RLc xs k) : rlL xs k = shR xs k := if_pos h
theorem rlL_no {xs : List Rn} {k : Int} (h : ¬ RLc xs k) : rlL xs k = [] := if_neg h
theorem rlB_yes {xs : List Rn} {k : Int} (h : RLc xs k) : rlB xs k = true := by simp [rlB, h]
theorem rlB_no {xs : List Rn} {k : Int} (h : ¬ RLc xs k) : rlB xs k = false := by simp [rlB, h]
theorem rlL_len (xs : List Rn) (k : Int) (hl : xs.length ≤ 1048576) : (rlL xs k).length ≤ 1048576 := by
  by_cases h : RLc xs k
  · rw [rlL_yes h, shR_len]; exact hl
  · rw [rlL_no h]; simp

end Go.Proofs.Ytmnoidgfcpbmgaa
