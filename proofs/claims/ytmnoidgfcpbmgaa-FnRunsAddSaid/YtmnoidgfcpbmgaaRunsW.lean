import Derived.Test.YtmnoidgfcpbmgaaWords
import Derived.Test.YtmnoidgfcpbmgaaRunsMath
namespace Go.Proofs.Ytmnoidgfcpbmgaa
open Go.RowKit

/-- The cells of a list of runs. -/
def fr (xs : List Rn) : List Int := xs.flatMap fun s => [s.s, s.e]
theorem fr_cons (s : Rn) (xs : List Rn) : fr (s :: xs) = s.s :: s.e :: fr xs := rfl
theorem fr_len (xs : List Rn) : (fr xs).length = xs.length * 2 := by
  induction xs with
  | nil => rfl
  | cons s xs ih => rw [fr_cons]; simp [ih]; omega
theorem fr_at (xs : List Rn) : ∀ i, (fr xs).getD (i * 2) 0 = rs xs i ∧ (fr xs).getD (i * 2 + 1) 0 = re xs i := by
  induction xs with
  | nil => intro i; simp [fr, rs, re, rnz]
  | cons s xs ih =>
    intro i
    rw [fr_cons]
    cases i with
    | zero => simp [rs, re]
    | succ i =>
      have := ih i
      rw [show (i + 1) * 2 = i * 2 + 2 by omega]
      simpa [rs, re] using this
theorem fr_append (xs ys : List Rn) : fr (xs ++ ys) = fr xs ++ fr ys := by simp [fr]

theorem Cells.at2 {w : World} {A : Option Addr} {xs : List Rn} (h : Cells w A (fr xs)) {i : Nat} (hi : i < xs.length) :
    ∃ b o, A = some ⟨b, o, none⟩ ∧ b < w.heap.size ∧ w.cell? ⟨b, o + i * 2, none⟩ = some (.int .i64 (rs xs i)) ∧ w.cell? ⟨b, o + i * 2 + 1, none⟩ = some (.int .i64 (re xs i)) := by
  have hl := fr_len xs
  rcases h with h | ⟨b, o, rfl, hb, hc⟩
  · rw [h] at hl; simp at hl; omega
  · obtain ⟨e0, e1⟩ := fr_at xs i
    refine ⟨b, o, rfl, hb, ?_, ?_⟩
    · rw [hc (i * 2) (by omega), e0]
    · rw [← e1, ← hc (i * 2 + 1) (by omega)]; rfl

theorem Cells.at1 {w : World} {A : Option Addr} {zs : List Int} (h : Cells w A zs) {i : Nat} (hi : i < zs.length) :
    ∃ b o, A = some ⟨b, o, none⟩ ∧ b < w.heap.size ∧ w.cell? ⟨b, o + i, none⟩ = some (.int .i64 (ri zs i)) := by
  rcases h with h | ⟨b, o, rfl, hb, hc⟩
  · rw [h] at hi; simp at hi
  · exact ⟨b, o, rfl, hb, hc i hi⟩

/-- Two cells of an owned row written one behind the other. -/
theorem own_store2 {w : World} {base : Nat} {e : TypeId} {g n cap k : Nat} {L : List Value} (h : w.ownsRow base e 2 (.slice (some ⟨g, 0, none⟩) n cap) n L) (u0 u1 : Value) :
    ((w.setCell ⟨g, k * 2, none⟩ u0).setCell ⟨g, k * 2 + 1, none⟩ u1).ownsRow base e 2 (.slice (some ⟨g, 0, none⟩) n cap) n ((L.set (k * 2) u0).set (k * 2 + 1) u1) :=
  ((h.stored (k * 2) u0).1.stored (k * 2 + 1) u1).1

theorem grown_store2 (w : World) (g k : Nat) (u0 u1 : Value) : w.grownBy ((w.setCell ⟨g, k * 2, none⟩ u0).setCell ⟨g, k * 2 + 1, none⟩ u1) (some g) := by
  refine ⟨rfl, rfl, rfl, by simp [World.setCell], fun i _ hne => ?_⟩
  have hi : i ≠ g := fun e => hne (by rw [e])
  rw [Below.heap_setCell _ _ _ _ (by exact hi), Below.heap_setCell _ _ _ _ (by exact hi)]
theorem grown_store1 (w : World) (g k : Nat) (u0 : Value) : w.grownBy (w.setCell ⟨g, k, none⟩ u0) (some g) := by
  refine ⟨rfl, rfl, rfl, by simp [World.setCell], fun i _ hne => ?_⟩
  have hi : i ≠ g := fun e => hne (by rw [e])
  rw [Below.heap_setCell _ _ _ _ (by exact hi)]
theorem grown_trans' {a b c : World} {row : Option Nat} (h : a.grownBy b row) (k : b.grownBy c row) : a.grownBy c row :=
  ⟨k.os.trans h.os, k.tape.trans h.tape, k.output.trans h.output, Nat.le_trans h.size k.size, fun i hi hne => (k.block i (Nat.lt_of_lt_of_le hi h.size) hne).trans (h.block i hi hne)⟩

theorem set2_at {L : List Value} {k n : Nat} {f : Nat → Value} {u0 u1 : Value} (hl : L.length = n * 2) (hk : k < n) (h : ∀ j, j < k * 2 → L[j]? = some (f j)) (e0 : u0 = f (k * 2)) (e1 : u1 = f (k * 2 + 1)) :
    ∀ j, j < (k + 1) * 2 → ((L.set (k * 2) u0).set (k * 2 + 1) u1)[j]? = some (f j) := by
  intro j hj
  rcases Nat.lt_or_ge j (k * 2) with h1 | h1
  · rw [List.getElem?_set_ne (by omega), List.getElem?_set_ne (by omega)]
    exact h j h1
  · have : j = k * 2 ∨ j = k * 2 + 1 := by omega
    rcases this with rfl | rfl
    · rw [List.getElem?_set_ne (by omega), List.getElem?_set_self (by omega), e0]
    · rw [List.getElem?_set_self (by simp; omega), e1]
theorem set1_at {L : List Value} {k n : Nat} {f : Nat → Value} {u0 : Value} (hl : L.length = n) (hk : k < n) (h : ∀ j, j < k → L[j]? = some (f j)) (e0 : u0 = f k) :
    ∀ j, j < k + 1 → (L.set k u0)[j]? = some (f j) := by
  intro j hj
  rcases Nat.lt_or_ge j k with h1 | h1
  · rw [List.getElem?_set_ne (by omega)]
    exact h j h1
  · have : j = k := by omega
    subst this
    rw [List.getElem?_set_self (by omega), e0]

theorem list_of_at {L : List Value} {zs : List Int} (hl : L.length = zs.length) (h : ∀ j, j < zs.length → L[j]? = some (.int .i64 (zs.getD j 0))) : L = zs.map (Value.int .i64) := by
  apply List.ext_getElem?
  intro j
  rcases Nat.lt_or_ge j zs.length with h1 | h1
  · rw [h j h1]; simp [List.getElem?_eq_getElem h1]
  · rw [List.getElem?_eq_none (by omega), List.getElem?_eq_none (by simpa using h1)]
end Go.Proofs.Ytmnoidgfcpbmgaa
