import Derived.Test.YtmpkdnikkganlaaDrawB
namespace Go.Proofs.Ytmpkdnikkganlaa
open Go.RowKit

/-- What a drawing step leaves: of the blocks that were there only the reader's has turned. -/
structure Keeps (r : Nat) (w w' : World) : Prop where
  os : w'.os = w.os
  tape : w'.tape = w.tape
  output : w'.output = w.output
  size : w.heap.size ≤ w'.heap.size
  block : ∀ k, k < w.heap.size → k ≠ r → w'.heap[k]? = w.heap[k]?

theorem Only.keeps {r : Nat} {w w' : World} (h : Only r w w') : Keeps r w w' := ⟨h.os, h.tape, h.output, Nat.le_of_eq h.size.symm, fun k _ hk => h.block k hk⟩
theorem Keeps.refl (r : Nat) (w : World) : Keeps r w w := (Only.refl r w).keeps
theorem Keeps.trans {r : Nat} {a b c : World} (h : Keeps r a b) (k : Keeps r b c) : Keeps r a c :=
  ⟨k.os.trans h.os, k.tape.trans h.tape, k.output.trans h.output, Nat.le_trans h.size k.size, fun i hi hr => (k.block i (Nat.lt_of_lt_of_le hi h.size) hr).trans (h.block i hi hr)⟩
theorem Keeps.alloc {r : Nat} {a w : World} (h : Keeps r a w) (o : Obj) : Keeps r a (w.alloc o) :=
  h.trans ⟨rfl, rfl, rfl, by simp, fun k hk _ => Below.heap_alloc _ _ _ hk⟩
theorem Keeps.drew {r : Nat} {a w : World} (h : Keeps r a w) : Keeps r a w.drew := h.trans ⟨rfl, rfl, rfl, Nat.le_refl _, fun _ _ _ => rfl⟩
theorem Keeps.drewN {r : Nat} {a w : World} (h : Keeps r a w) (n : Nat) : Keeps r a (w.drewN n) := h.trans ⟨rfl, rfl, rfl, Nat.le_refl _, fun _ _ _ => rfl⟩
theorem Below.keeps {r : Nat} {w w' : World} (h : Below w.heap.size w w') : Keeps r w w' := ⟨h.os, h.tape, h.output, h.size, fun k hk _ => h.block k hk⟩
theorem Keeps.below {r B : Nat} {w w' : World} (h : Keeps r w w') (hB : B ≤ r) (hr : r ≤ w.heap.size) : Below B w w' := ⟨h.os, h.tape, h.output, h.size, fun k hk => h.block k (by omega) (by omega)⟩
theorem Keeps.cell {r : Nat} {w w' : World} (h : Keeps r w w') {p : Addr} (hp : p.block < w.heap.size) (hr : p.block ≠ r) : w'.cell? p = w.cell? p := World.cell?_of_block (w := w) (h.block p.block hp hr)

theorem Rd.alloc {w : World} {r : Nat} {b : Int} (h : Rd w r b) (o : Obj) : Rd (w.alloc o) r b := by
  have hr : r < w.heap.size := by
    obtain ⟨_, _, _, _, h1, _⟩ := h
    rcases Nat.lt_or_ge r w.heap.size with h | h
    · exact h
    · simp [Array.getElem?_eq_none h] at h1
  exact h.keep ((Below.refl _ _).alloc (by omega) o)

theorem Only.of_drew {r : Nat} {w w' : World} (h : Only r w.drew w') : Only r w w' := ⟨h.os, h.tape, h.output, h.size, h.block⟩
theorem Rd.drew {w : World} {r : Nat} {b : Int} (h : Rd w r b) : Rd w.drew r b := h

theorem Rd.lt {w : World} {r : Nat} {b : Int} (h : Rd w r b) : r < w.heap.size := by
  obtain ⟨_, _, _, _, h1, _⟩ := h
  rcases Nat.lt_or_ge r w.heap.size with h | h
  · exact h
  · simp [Array.getElem?_eq_none h] at h1

/-- A number between two others, and the reader some places farther. -/
def DrewInt (r : Nat) (b lo hi : Int) (w : World) (e : Ending) (w' : World) : Prop :=
  ∃ v : Int, e = .returned (.int .i64 v) ∧ lo ≤ v ∧ v ≤ hi ∧ Rd w' r b ∧ Keeps r w w'

/-- A cell of a row of integers that a literal made. -/
theorem lit_cell (w w' : World) (r : Nat) (C : Array Value) (e : TypeId) (lo hi : Int) (hC : ∀ i, i < C.size → ∃ t : Int, C[i]? = some (.int .i64 t) ∧ lo ≤ t ∧ t ≤ hi) (hr : r < w.heap.size)
    (hon : Only r (w.alloc (.cells C e)) w') (k : Nat) (hk : k < C.size) : ∃ t : Int, w'.cell? ⟨w.heap.size, k, none⟩ = some (.int .i64 t) ∧ lo ≤ t ∧ t ≤ hi := by
  obtain ⟨t, h1, h2⟩ := hC k hk
  refine ⟨t, ?_, h2⟩
  rw [World.cell?_of_block (w := w.alloc (.cells C e)) (hon.block w.heap.size (by omega)), ← h1]
  have h : (w.alloc (.cells C e)).heap[w.heap.size]? = some (.cells C e) := by
    show (w.heap.push _)[w.heap.size]? = _
    simp
  unfold World.cell?
  rw [h]; rfl

/-- What is owned from a block above the reader's stays so. -/
theorem own_only {w w' : World} {r base : Nat} {e : TypeId} {size n : Nat} {v : Value} {xs : List Value} (h : w.ownsRow base e size v n xs) (ho : Only r w w') (hr : r < base) : w'.ownsRow base e size v n xs := by
  refine ⟨h.1, ?_⟩
  rcases h.2 with h2 | ⟨g, cap, cur, hv, hg, hh, q⟩
  · exact .inl h2
  · exact .inr ⟨g, cap, cur, hv, hg, by rw [ho.block g (by omega)]; exact hh, q⟩
theorem Keeps.grown {r : Nat} {a w w' : World} {row : Option Nat} (h : Keeps r a w) (hg : w.grownBy w' row) (hrow : ∀ q, row = some q → a.heap.size ≤ q) : Keeps r a w' :=
  ⟨hg.os.trans h.os, hg.tape.trans h.tape, hg.output.trans h.output, Nat.le_trans h.size hg.size, fun k hk hr => (hg.block k (Nat.lt_of_lt_of_le hk h.size) (fun e => by have := hrow k e.symm; omega)).trans (h.block k hk hr)⟩
theorem Rd.grown {w w' : World} {r : Nat} {b : Int} {row : Option Nat} (h : Rd w r b) (hg : w.grownBy w' row) (hrow : ∀ q, row = some q → r < q) : Rd w' r b := by
  have hlt := h.lt
  exact h.keep ⟨hg.os, hg.tape, hg.output, hg.size, fun k hk => hg.block k (by omega) (fun e => by have := hrow k e.symm; omega)⟩
theorem Keeps.setCell {r : Nat} {a w : World} (h : Keeps r a w) {p : Addr} (hp : a.heap.size ≤ p.block) (u : Value) : Keeps r a (w.setCell p u) :=
  ⟨h.os, h.tape, h.output, by simpa [World.setCell] using h.size, fun k hk hr => (Below.heap_setCell _ _ _ _ (by omega)).trans (h.block k hk hr)⟩
theorem Rd.setCell {w : World} {r : Nat} {b : Int} (h : Rd w r b) {p : Addr} (hp : r < p.block) (u : Value) : Rd (w.setCell p u) r b :=
  h.keep ((Below.refl _ _).setCell (by omega) u)
end Go.Proofs.Ytmpkdnikkganlaa
