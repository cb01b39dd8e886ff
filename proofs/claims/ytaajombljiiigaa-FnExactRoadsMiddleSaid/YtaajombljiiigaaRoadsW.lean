import Derived.Test.YtaajombljiiigaaWords
import Derived.Test.YtaajombljiiigaaRoadsMath
namespace Go.Proofs.Ytaajombljiiigaa
open Go.RowKit

/-- The cells of a list of roads. -/
def fd (xs : List Rd3) : List Int := xs.flatMap fun s => [s.a, s.b, s.m]
theorem fd_cons (s : Rd3) (xs : List Rd3) : fd (s :: xs) = s.a :: s.b :: s.m :: fd xs := rfl
theorem fd_len (xs : List Rd3) : (fd xs).length = xs.length * 3 := by
  induction xs with
  | nil => rfl
  | cons s xs ih => rw [fd_cons]; simp [ih]; omega
theorem fd_at (xs : List Rd3) : ∀ i, (fd xs).getD (i * 3) 0 = ra xs i ∧ (fd xs).getD (i * 3 + 1) 0 = rb xs i ∧ (fd xs).getD (i * 3 + 2) 0 = rm xs i := by
  induction xs with
  | nil => intro i; simp [fd, ra, rb, rm, rz3]
  | cons s xs ih =>
    intro i
    rw [fd_cons]
    cases i with
    | zero => simp [ra, rb, rm]
    | succ i =>
      have := ih i
      rw [show (i + 1) * 3 = i * 3 + 3 by omega]
      simpa [ra, rb, rm] using this
theorem fd_append (xs ys : List Rd3) : fd (xs ++ ys) = fd xs ++ fd ys := by simp [fd]

theorem Cells.at3 {w : World} {A : Option Addr} {xs : List Rd3} (h : Cells w A (fd xs)) {i : Nat} (hi : i < xs.length) :
    ∃ b o, A = some ⟨b, o, none⟩ ∧ b < w.heap.size ∧ w.cell? ⟨b, o + i * 3, none⟩ = some (.int .i64 (ra xs i)) ∧ w.cell? ⟨b, o + i * 3 + 1, none⟩ = some (.int .i64 (rb xs i)) ∧ w.cell? ⟨b, o + i * 3 + 2, none⟩ = some (.int .i64 (rm xs i)) := by
  have hl := fd_len xs
  rcases h with h | ⟨b, o, rfl, hb, hc⟩
  · rw [h] at hl; simp at hl; omega
  · obtain ⟨e0, e1, e2⟩ := fd_at xs i
    refine ⟨b, o, rfl, hb, ?_, ?_, ?_⟩
    · rw [hc (i * 3) (by omega), e0]
    · rw [← e1, ← hc (i * 3 + 1) (by omega)]; rfl
    · rw [← e2, ← hc (i * 3 + 2) (by omega)]; rfl

/-- Three cells of an owned row written one behind the other. -/
theorem own_store3 {w : World} {base : Nat} {e : TypeId} {g n cap k : Nat} {L : List Value} (h : w.ownsRow base e 3 (.slice (some ⟨g, 0, none⟩) n cap) n L) (u0 u1 u2 : Value) :
    (((w.setCell ⟨g, k * 3, none⟩ u0).setCell ⟨g, k * 3 + 1, none⟩ u1).setCell ⟨g, k * 3 + 2, none⟩ u2).ownsRow base e 3 (.slice (some ⟨g, 0, none⟩) n cap) n (((L.set (k * 3) u0).set (k * 3 + 1) u1).set (k * 3 + 2) u2) :=
  (((h.stored (k * 3) u0).1.stored (k * 3 + 1) u1).1.stored (k * 3 + 2) u2).1

theorem grown_store3 (w : World) (g k : Nat) (u0 u1 u2 : Value) : w.grownBy (((w.setCell ⟨g, k * 3, none⟩ u0).setCell ⟨g, k * 3 + 1, none⟩ u1).setCell ⟨g, k * 3 + 2, none⟩ u2) (some g) := by
  refine ⟨rfl, rfl, rfl, by simp [World.setCell], fun i _ hne => ?_⟩
  have hi : i ≠ g := fun e => hne (by rw [e])
  rw [Below.heap_setCell _ _ _ _ (by exact hi), Below.heap_setCell _ _ _ _ (by exact hi), Below.heap_setCell _ _ _ _ (by exact hi)]
theorem grown_trans' {a b c : World} {row : Option Nat} (h : a.grownBy b row) (k : b.grownBy c row) : a.grownBy c row :=
  ⟨k.os.trans h.os, k.tape.trans h.tape, k.output.trans h.output, Nat.le_trans h.size k.size, fun i hi hne => (k.block i (Nat.lt_of_lt_of_le hi h.size) hne).trans (h.block i hi hne)⟩

theorem set3_at {L : List Value} {k n : Nat} {f : Nat → Value} {u0 u1 u2 : Value} (hl : L.length = n * 3) (hk : k < n) (h : ∀ j, j < k * 3 → L[j]? = some (f j)) (e0 : u0 = f (k * 3)) (e1 : u1 = f (k * 3 + 1)) (e2 : u2 = f (k * 3 + 2)) :
    ∀ j, j < (k + 1) * 3 → (((L.set (k * 3) u0).set (k * 3 + 1) u1).set (k * 3 + 2) u2)[j]? = some (f j) := by
  intro j hj
  rcases Nat.lt_or_ge j (k * 3) with h1 | h1
  · rw [List.getElem?_set_ne (by omega), List.getElem?_set_ne (by omega), List.getElem?_set_ne (by omega)]
    exact h j h1
  · have : j = k * 3 ∨ j = k * 3 + 1 ∨ j = k * 3 + 2 := by omega
    rcases this with rfl | rfl | rfl
    · rw [List.getElem?_set_ne (by omega), List.getElem?_set_ne (by omega), List.getElem?_set_self (by omega), e0]
    · rw [List.getElem?_set_ne (by omega), List.getElem?_set_self (by simp; omega), e1]
    · rw [List.getElem?_set_self (by simp; omega), e2]

theorem list_of_at {L : List Value} {zs : List Int} (hl : L.length = zs.length) (h : ∀ j, j < zs.length → L[j]? = some (.int .i64 (zs.getD j 0))) : L = zs.map (Value.int .i64) := by
  apply List.ext_getElem?
  intro j
  rcases Nat.lt_or_ge j zs.length with h1 | h1
  · rw [h j h1]; simp [List.getElem?_eq_getElem h1]
  · rw [List.getElem?_eq_none (by omega), List.getElem?_eq_none (by simpa using h1)]
end Go.Proofs.Ytaajombljiiigaa
