import Derived.Test.YtmnoidgfcpbmgaaRunsE
namespace Go.Proofs.Ytmnoidgfcpbmgaa
open Go.RowKit

/-- A block's cells. -/
def Blk (w : World) (b : Nat) (C : Array Value) (e : TypeId) : Prop := w.heap[b]? = some (.cells C e)
theorem Blk.lt {w : World} {b : Nat} {C : Array Value} {e : TypeId} (h : Blk w b C e) : b < w.heap.size := by
  rcases Nat.lt_or_ge b w.heap.size with h1 | h1
  · exact h1
  · unfold Blk at h; rw [Array.getElem?_eq_none h1] at h; cases h
theorem Blk.cell {w : World} {b : Nat} {C : Array Value} {e : TypeId} (h : Blk w b C e) (k : Nat) : w.cell? ⟨b, k, none⟩ = C[k]? := by
  unfold Blk at h; unfold World.cell?; rw [h]; rfl
theorem Blk.frozen {w : World} {b : Nat} {C : Array Value} {e : TypeId} (h : Blk w b C e) (k : Nat) : w.frozen? ⟨b, k, none⟩ = false := by
  unfold Blk at h; unfold World.frozen?; rw [h]; simp
theorem Blk.new (w : World) (C : Array Value) (e : TypeId) : Blk (w.alloc (.cells C e)) w.heap.size C e := by
  show (w.heap.push _)[w.heap.size]? = _
  simp
theorem Blk.set {w : World} {b : Nat} {C : Array Value} {e : TypeId} (h : Blk w b C e) (k : Nat) (v : Value) : Blk (w.setCell ⟨b, k, none⟩ v) b (C.setIfInBounds k v) e := by
  have hb := h.lt
  unfold Blk at h ⊢
  show (w.heap.modify b _)[b]? = _
  rw [Array.getElem?_modify, if_pos rfl, h]
  rfl
theorem Blk.below {w w' : World} {b : Nat} {C : Array Value} {e : TypeId} (h : Blk w b C e) (hb : Below w.heap.size w w') : Blk w' b C e := by
  have := h.lt
  unfold Blk at *
  rw [hb.block b this]; exact h
theorem Blk.drewN {w : World} {b : Nat} {C : Array Value} {e : TypeId} (h : Blk w b C e) (n : Nat) : Blk (w.drewN n) b C e := h

open Classical in
noncomputable def cB (xs : List Rn) (rest : Int) (ro : List Int) (i : Nat) (t : Int) : Bool := decide (Can xs rest ro i t)
theorem cB_yes {xs : List Rn} {rest : Int} {ro : List Int} {i : Nat} {t : Int} (h : Can xs rest ro i t) : cB xs rest ro i t = true := by simp [cB, h]
theorem cB_no {xs : List Rn} {rest : Int} {ro : List Int} {i : Nat} {t : Int} (h : ¬ Can xs rest ro i t) : cB xs rest ro i t = false := by simp [cB, h]

/-- A roster of runs with a rest. -/
def RoValid (xs : List Rn) (rest : Int) (ro : List Int) : Prop := ROk xs rest ∧ ro.length = xs.length ∧ ∀ i, i < xs.length → 0 ≤ ri ro i ∧ ri ro i ≤ 11 ∧ Can xs rest ro i (ri ro i)
open Classical in
noncomputable def roB (xs : List Rn) (rest : Int) (ro : List Int) : Bool := decide (RoValid xs rest ro)
theorem roB_yes {xs : List Rn} {rest : Int} {ro : List Int} (h : RoValid xs rest ro) : roB xs rest ro = true := by simp [roB, h]
theorem roB_no {xs : List Rn} {rest : Int} {ro : List Int} (h : ¬ RoValid xs rest ro) : roB xs rest ro = false := by simp [roB, h]

end Go.Proofs.Ytmnoidgfcpbmgaa
