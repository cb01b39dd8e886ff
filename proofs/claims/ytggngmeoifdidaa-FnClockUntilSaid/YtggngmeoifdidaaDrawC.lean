import Derived.Test.YtggngmeoifdidaaDrawB
namespace Go.Proofs.Ytggngmeoifdidaa
open Go.RowKit

/-- What a drawing step leaves: of the blocks that were there only the reader's has turned. -/
structure Keeps (r : Nat) (w w' : World) : Prop where
  os : w'.os = w.os
  tape : w'.tape = w.tape
  output : w'.output = w.output
  size : w.heap.size ≤ w'.heap.size
  block : ∀ k, k < w.heap.size → k ≠ r → w'.heap[k]? = w.heap[k]?

theorem Only.keeps {r : Nat} {w w' : World} (h : Only r w w') : Keeps r w w' := ⟨h.os, h.tape, h.output, Nat.le_of_eq h.size.symm, fun k _ hk => h.block k hk⟩
theorem Keeps.refl (r : Nat) (w : World) : Keeps r w w := (Only.refl r w).keeps
theorem Keeps.trans {r : Nat} {a b c : World} (h : Keeps r a b) (k : Keeps r b c) : Keeps r a c :=
  ⟨k.os.trans h.os, k.tape.trans h.tape, k.output.trans h.output, Nat.le_trans h.size k.size, fun i hi hr => (k.block i (Nat.lt_of_lt_of_le hi h.size) hr).trans (h.block i hi hr)⟩
theorem Keeps.alloc {r : Nat} {a w : World} (h : Keeps r a w) (o : Obj) : Keeps r a (w.alloc o) :=
  h.trans ⟨rfl, rfl, rfl, by simp, fun k hk _ => Below.heap_alloc _ _ _ hk⟩
theorem Keeps.drew {r : Nat} {a w : World} (h : Keeps r a w) : Keeps r a w.drew := h.trans ⟨rfl, rfl, rfl, Nat.le_refl _, fun _ _ _ => rfl⟩
theorem Keeps.drewN {r : Nat} {a w : World} (h : Keeps r a w) (n : Nat) : Keeps r a (w.drewN n) := h.trans ⟨rfl, rfl, rfl, Nat.le_refl _, fun _ _ _ => rfl⟩
theorem Below.keeps {r : Nat} {w w' : World} (h : Below w.heap.size w w') : Keeps r w w' := ⟨h.os, h.tape, h.output, h.size, fun k hk _ => h.block k hk⟩
theorem Keeps.below {r B : Nat} {w w' : World} (h : Keeps r w w') (hB : B ≤ r) (hr : r ≤ w.heap.size) : Below B w w' := ⟨h.os, h.tape, h.output, h.size, fun k hk => h.block k (by omega) (by omega)⟩
theorem Keeps.cell {r : Nat} {w w' : World} (h : Keeps r w w') {p : Addr} (hp : p.block < w.heap.size) (hr : p.block ≠ r) : w'.cell? p = w.cell? p := World.cell?_of_block (w := w) (h.block p.block hp hr)

theorem Rd.alloc {w : World} {r : Nat} {b : Int} (h : Rd w r b) (o : Obj) : Rd (w.alloc o) r b := by
  have hr : r < w.heap.size := by
    obtain ⟨_, _, _, _, h1, _⟩ := h
    rcases Nat.lt_or_ge r w.heap.size with h | h
    · exact h
    · simp [Array.getElem?_eq_none h] at h1
  exact h.keep ((Below.refl _ _).alloc (by omega) o)

theorem Only.of_drew {r : Nat} {w w' : World} (h : Only r w.drew w') : Only r w w' := ⟨h.os, h.tape, h.output, h.size, h.block⟩
theorem Rd.drew {w : World} {r : Nat} {b : Int} (h : Rd w r b) : Rd w.drew r b := h

theorem Rd.lt {w : World} {r : Nat} {b : Int} (h : Rd w r b) : r < w.heap.size := by
  obtain ⟨_, _, _, _, h1, _⟩ := h
  rcases Nat.lt_or_ge r w.heap.size with h | h
  · exact h
  · simp [Array.getElem?_eq_none h] at h1

/-- A number between two others, and the reader some places farther. -/
def DrewInt (r : Nat) (b lo hi : Int) (w : World) (e : Ending) (w' : World) : Prop :=
  ∃ v : Int, e = .returned (.int .i64 v) ∧ lo ≤ v ∧ v ≤ hi ∧ Rd w' r b ∧ Keeps r w w'

/-- A cell of a row of integers that a literal made. -/
theorem lit_cell (w w' : World) (r : Nat) (C : Array Value) (e : TypeId) (lo hi : Int) (hC : ∀ i, i < C.size → ∃ t : Int, C[i]? = some (.int .i64 t) ∧ lo ≤ t ∧ t ≤ hi) (hr : r < w.heap.size)
    (hon : Only r (w.alloc (.cells C e)) w') (k : Nat) (hk : k < C.size) : ∃ t : Int, w'.cell? ⟨w.heap.size, k, none⟩ = some (.int .i64 t) ∧ lo ≤ t ∧ t ≤ hi := by
  obtain ⟨t, h1, h2⟩ := hC k hk
  refine ⟨t, ?_, h2⟩
  rw [World.cell?_of_block (w := w.alloc (.cells C e)) (hon.block w.heap.size (by omega)), ← h1]
  have h : (w.alloc (.cells C e)).heap[w.heap.size]? = some (.cells C e) := by
    show (w.heap.push _)[w.heap.size]? = _
    simp
  unfold World.cell?
  rw [h]; rfl

theorem time_any (r : Nat) (b : Int) (w : World) (h : Rd w r b) (hb : b ≤ 90000) :
    Calls Try.prog 33 #[.pointer (some ⟨r, 0, none⟩)] w (DrewInt r (b + 3) (-1) 10001 w) := by
  have hr := h.lt
  go_enter Try.func33, Try.ntmps33
  go_wp2_with fail
  refine (pick_any r b _ w h (by omega) (by omega)).mono ?_
  rintro e w1 ⟨v, rfl, hv0, hv1, hrd1, hon1⟩
  by_cases hz : v = 0
  · have hz' : (v == 0) = true := by simp [hz]
    clear hz
    go_wp2_with fail
    refine (pick_any r _ _ _ (hrd1.alloc _) (by omega) (by omega)).mono ?_
    rintro e w2 ⟨u, rfl, hu0, hu1, hrd2, hon2⟩
    obtain ⟨k, rfl⟩ := Int.eq_ofNat_of_zero_le hu0
    obtain ⟨t, ht, ht1, ht2⟩ := lit_cell w1 w2 r _ _ (-1) 10001 (by
      intro i hi
      simp at hi
      have : i = 0 ∨ i = 1 ∨ i = 2 ∨ i = 3 ∨ i = 4 := by omega
      rcases this with rfl | rfl | rfl | rfl | rfl <;> exact ⟨_, rfl, by decide, by decide⟩) (by have := hrd1.lt; omega) hon2 k (by simp; omega)
    have HK := Lib.hid ((hon1.keeps.alloc _).trans hon2.keeps)
    clear hon2
    have hk5 : k < 5 := by omega
    go_wp2_with fail
    go_ret
    exact ⟨t, rfl, ht1, ht2, hrd2.up (by omega), HK.out⟩
  · have hz' : (v == 0) = false := by simp [hz]
    clear hz
    go_wp2_with fail
    refine (pick_any r _ _ _ hrd1 (by omega) (by omega)).mono ?_
    rintro e w2 ⟨u, rfl, hu0, hu1, hrd2, hon2⟩
    go_wp2_with fail
    refine (pick_any r _ _ _ hrd2 (by omega) (by omega)).mono ?_
    rintro e w3 ⟨u', rfl, hu0', hu1', hrd3, hon3⟩
    have hm0 : 0 ≤ u * u' := Int.mul_nonneg hu0 hu0'
    have hm1 : u * u' ≤ 99 * 39 := Int.mul_le_mul (by omega) (by omega) hu0' (by omega)
    go_wp2_with fail
    go_ret
    exact ⟨u * u', rfl, by omega, by omega, hrd3.up (by omega), (hon1.trans (hon2.trans hon3)).keeps⟩
end Go.Proofs.Ytggngmeoifdidaa
