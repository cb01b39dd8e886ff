import Derived.Test.YtmnoidgfcpbmgaaRunsJ
import Derived.Maps.AppendAt
namespace Go.Proofs.Ytmnoidgfcpbmgaa
open Go.RowKit

theorem fr_set (xs : List Rn) : ∀ (k : Nat) (v : Rn), fr (xs.set k v) = ((fr xs).set (k * 2) v.s).set (k * 2 + 1) v.e := by
  induction xs with
  | nil => intro k v; simp [fr]
  | cons x xs ih =>
    intro k v
    cases k with
    | zero => simp [fr_cons]
    | succ k =>
      rw [List.set_cons_succ, fr_cons, fr_cons, ih k v, show (k + 1) * 2 = k * 2 + 2 by omega]
      rfl
theorem fr_pg (xs : List Rn) (i : Nat) : (fr xs).getD (i * 2) 0 = (pg xs i).s ∧ (fr xs).getD (i * 2 + 1) 0 = (pg xs i).e := fr_at xs i

/-- A pile of teams: its block g holds the things' slice and the order. -/
structure PileIs (w : World) (g : Nat) (F : Value) (A : Option Addr) (c : Nat) (xs : List Rn) : Prop where
  blk : Blk w g #[.slice A xs.length c, F] 62
  own : w.ownsRow 0 58 2 (.slice A xs.length c) xs.length ((fr xs).map (Value.int .i64))
  ne : (Value.slice A xs.length c).ownBlock ≠ some g

/-- Of the blocks that were there only g and q have turned. -/
structure Touch (g : Nat) (q : Option Nat) (w w' : World) : Prop where
  os : w'.os = w.os
  tape : w'.tape = w.tape
  output : w'.output = w.output
  size : w.heap.size ≤ w'.heap.size
  block : ∀ k, k < w.heap.size → k ≠ g → some k ≠ q → w'.heap[k]? = w.heap[k]?

section
variable {g : Nat} {q : Option Nat} {w w' w'' : World}
theorem Touch.refl (g : Nat) (q : Option Nat) (w : World) : Touch g q w w := ⟨rfl, rfl, rfl, Nat.le_refl _, fun _ _ _ _ => rfl⟩
theorem Touch.trans' {q' : Option Nat} (h : Touch g q w w') (k : Touch g q' w' w'') (hq : q' = q ∨ ∃ j, q' = some j ∧ w.heap.size ≤ j) : Touch g q w w'' :=
  ⟨k.os.trans h.os, k.tape.trans h.tape, k.output.trans h.output, Nat.le_trans h.size k.size, fun i hi h1 h2 => by
    have h3 : some i ≠ q' := by
      rcases hq with rfl | ⟨j, rfl, hj⟩
      · exact h2
      · intro e; injection e with e; omega
    exact (k.block i (Nat.lt_of_lt_of_le hi h.size) h1 h3).trans (h.block i hi h1 h2)⟩
theorem Touch.trans (h : Touch g q w w') (k : Touch g q w' w'') : Touch g q w w'' := h.trans' k (.inl rfl)
theorem Below.touch (h : Below w.heap.size w w') : Touch g q w w' := ⟨h.os, h.tape, h.output, h.size, fun k hk _ _ => h.block k hk⟩
theorem Touch.alloc (h : Touch g q w w') (o : Obj) : Touch g q w (w'.alloc o) :=
  h.trans (Below.touch ((Below.refl _ _).alloc (Nat.le_refl _) o))
theorem Touch.drew (h : Touch g q w w') : Touch g q w w'.drew := ⟨h.os, h.tape, h.output, h.size, h.block⟩
theorem Touch.drewN (h : Touch g q w w') (n : Nat) : Touch g q w (w'.drewN n) := ⟨h.os, h.tape, h.output, h.size, h.block⟩
theorem grown_touch {row : Option Nat} (h : w.grownBy w' row) (hr : row = some g ∨ row = q ∨ row = none) : Touch g q w w' :=
  ⟨h.os, h.tape, h.output, h.size, fun k hk h1 h2 => h.block k hk (by
    rcases hr with rfl | rfl | rfl
    · intro e; injection e with e; exact h1 e
    · exact h2
    · simp)⟩
theorem setCell_grown (w : World) (b o : Nat) (u : Value) : w.grownBy (w.setCell ⟨b, o, none⟩ u) (some b) := by
  refine ⟨rfl, rfl, rfl, by simp [World.setCell], fun i _ hne => ?_⟩
  have hi : i ≠ b := fun e => hne (by rw [e])
  rw [Below.heap_setCell _ _ _ _ (by exact hi)]
/-- What is touched lies above. -/
theorem Touch.below {B : Nat} (h : Touch g q w w') (hg : B ≤ g) (hq : ∀ j, q = some j → B ≤ j) (hB : B ≤ w.heap.size) : Below B w w' :=
  ⟨h.os, h.tape, h.output, h.size, fun k hk => h.block k (by omega) (by omega) (fun e => by have := hq k e.symm; omega)⟩
end

section
variable {w w' : World} {g : Nat} {F : Value} {A : Option Addr} {c : Nat} {xs : List Rn}
theorem PileIs.lt (h : PileIs w g F A c xs) : g < w.heap.size := h.blk.lt
theorem PileIs.row_lt (h : PileIs w g F A c xs) {j : Nat} (hj : (Value.slice A xs.length c).ownBlock = some j) : j < w.heap.size := (h.own.lt j hj).2
/-- A pile stays while other blocks turn. -/
theorem PileIs.kept (h : PileIs w g F A c xs) (hg : w'.heap[g]? = w.heap[g]?) (hq : ∀ j, (Value.slice A xs.length c).ownBlock = some j → w'.heap[j]? = w.heap[j]?) : PileIs w' g F A c xs := by
  refine ⟨by have := h.blk; unfold Blk at *; rw [hg]; exact this, ⟨h.own.1, ?_⟩, h.ne⟩
  rcases h.own.2 with h2 | ⟨g', cap, cur, hv, hg', hh, r⟩
  · exact .inl h2
  · exact .inr ⟨g', cap, cur, hv, hg', by rw [hq g' (by rw [hv]; rfl)]; exact hh, r⟩
theorem PileIs.below (h : PileIs w g F A c xs) (hb : Below w.heap.size w w') : PileIs w' g F A c xs :=
  h.kept (hb.block _ h.lt) fun _ hj => hb.block _ (h.row_lt hj)
theorem PileIs.touch {g' : Nat} {q' : Option Nat} (h : PileIs w g F A c xs) (ht : Touch g' q' w w') (h1 : g ≠ g') (h2 : some g ≠ q') (h3 : (Value.slice A xs.length c).ownBlock ≠ some g') (h4 : ∀ j, (Value.slice A xs.length c).ownBlock = some j → some j ≠ q') : PileIs w' g F A c xs :=
  h.kept (ht.block _ h.lt h1 h2) fun j hj => ht.block j (h.row_lt hj) (fun e => h3 (by rw [hj, e])) (h4 j hj)
theorem PileIs.len_le (h : PileIs w g F A c xs) : xs.length ≤ c ∨ xs.length = 0 := by
  rcases h.own.2 with ⟨_, h2⟩ | ⟨g', cap, cur, hv, _, _, h3, _⟩
  · exact .inr h2
  · injection hv with _ _ hc; exact .inl (by omega)
/-- The cells of thing i. -/
theorem PileIs.at (h : PileIs w g F A c xs) {i : Nat} (hi : i < xs.length) : ∃ a, A = some ⟨a, 0, none⟩ ∧ a ≠ g ∧ xs.length ≤ c ∧ c ≤ 9223372036854775807 ∧ a < w.heap.size := by
  rcases h.own.2 with ⟨_, h2⟩ | ⟨a, cap, cur, hv, _, hh, h3, h4, _⟩
  · omega
  · have hv' := hv
    injection hv with hA _ hc
    refine ⟨a, hA, fun e => h.ne (by rw [hv', e]; rfl), by omega, by unfold maxLen at h4; omega, ?_⟩
    rcases Nat.lt_or_ge a w.heap.size with k | k
    · exact k
    · simp [Array.getElem?_eq_none k] at hh
theorem PileIs.cell {a : Nat} (h : PileIs w g F (some ⟨a, 0, none⟩) c xs) {i : Nat} (hi : i < xs.length) : w.cell? ⟨a, i * 2, none⟩ = some (.int .i64 (pg xs i).s) ∧ w.cell? ⟨a, i * 2 + 1, none⟩ = some (.int .i64 (pg xs i).e) := by
  have hl := fr_len xs
  obtain ⟨e0, e1⟩ := fr_pg xs i
  have c0 := h.own.cellAt (i * 2) (by omega)
  have c1 := h.own.cellAt (i * 2 + 1) (by omega)
  rw [c0, c1]
  constructor
  · rw [← e0, List.getElem?_map, List.getD_eq_getElem?_getD, List.getElem?_eq_getElem (by omega)]; rfl
  · rw [← e1, List.getElem?_map, List.getD_eq_getElem?_getD, List.getElem?_eq_getElem (by omega)]; rfl
theorem PileIs.frozen {a : Nat} (h : PileIs w g F (some ⟨a, 0, none⟩) c xs) (j : Nat) : w.frozen? ⟨a, j, none⟩ = false := h.own.frozenAt j
/-- One thing is written. -/
theorem PileIs.set {a : Nat} (h : PileIs w g F (some ⟨a, 0, none⟩) c xs) (k : Nat) (v : Rn) :
    PileIs ((w.setCell ⟨a, k * 2, none⟩ (.int .i64 v.s)).setCell ⟨a, k * 2 + 1, none⟩ (.int .i64 v.e)) g F (some ⟨a, 0, none⟩) c (xs.set k v) := by
  have hne : a ≠ g := fun e => h.ne (by rw [e]; rfl)
  have h2 := own_store2 (k := k) h.own (.int .i64 v.s) (.int .i64 v.e)
  have e : ((((fr xs).map (Value.int .i64)).set (k * 2) (.int .i64 v.s)).set (k * 2 + 1) (.int .i64 v.e)) = (fr (xs.set k v)).map (Value.int .i64) := by
    rw [fr_set, List.map_set, List.map_set]
  rw [e] at h2
  refine ⟨?_, by rw [List.length_set]; exact h2, by rw [List.length_set]; exact h.ne⟩
  have hb := h.blk
  unfold Blk at *
  rw [List.length_set]
  rw [Below.heap_setCell _ _ _ _ (by show g ≠ a; exact fun e => hne e.symm), Below.heap_setCell _ _ _ _ (by show g ≠ a; exact fun e => hne e.symm)]
  exact hb
end

theorem Ready.perm {xs : List Rn} {rest now : Int} {ro : List Int} {i T : Nat} {B I : List Rn} (h : Ready xs rest ro i B I T now) {B' I' : List Rn} (hB : B'.Perm B) (hI : I'.Perm I) : Ready xs rest ro i B' I' T now where
  nd := ((hB.append hI).map Rn.s).nodup_iff.mpr h.nd
  rng t := by rw [((hB.append hI).map Rn.s).mem_iff]; exact h.rng t
  busy b hb := h.busy b (hB.mem_iff.mp hb)
  idle b hb := h.idle b (hI.mem_iff.mp hb)
  used := h.used
  len := by rw [hB.length_eq, hI.length_eq]; exact h.len
  few := h.few
end Go.Proofs.Ytmnoidgfcpbmgaa
