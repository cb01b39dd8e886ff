import Derived.Test.YtaajombljiiigaaRoadsN
import Derived.Maps.AppendAt
namespace Go.Proofs.Ytaajombljiiigaa
open Go.RowKit

/-- A pair of numbers. -/
structure Rn where
  s : Int
  e : Int

def rnz : Rn := ⟨0, 0⟩
/-- Start and end of run i. -/
def rs (xs : List Rn) (i : Nat) : Int := (xs.getD i rnz).s
def re (xs : List Rn) (i : Nat) : Int := (xs.getD i rnz).e

/-- The cells of a list of runs. -/
def fr (xs : List Rn) : List Int := xs.flatMap fun s => [s.s, s.e]
theorem fr_cons (s : Rn) (xs : List Rn) : fr (s :: xs) = s.s :: s.e :: fr xs := rfl
theorem fr_len (xs : List Rn) : (fr xs).length = xs.length * 2 := by
  induction xs with
  | nil => rfl
  | cons s xs ih => rw [fr_cons]; simp [ih]; omega
theorem fr_at (xs : List Rn) : ∀ i, (fr xs).getD (i * 2) 0 = rs xs i ∧ (fr xs).getD (i * 2 + 1) 0 = re xs i := by
  induction xs with
  | nil => intro i; simp [fr, rs, re, rnz]
  | cons s xs ih =>
    intro i
    rw [fr_cons]
    cases i with
    | zero => simp [rs, re]
    | succ i =>
      have := ih i
      rw [show (i + 1) * 2 = i * 2 + 2 by omega]
      simpa [rs, re] using this
theorem fr_append (xs ys : List Rn) : fr (xs ++ ys) = fr xs ++ fr ys := by simp [fr]

/-- Two cells of an owned row written one behind the other. -/
theorem own_store2 {w : World} {base : Nat} {e : TypeId} {g n cap k : Nat} {L : List Value} (h : w.ownsRow base e 2 (.slice (some ⟨g, 0, none⟩) n cap) n L) (u0 u1 : Value) :
    ((w.setCell ⟨g, k * 2, none⟩ u0).setCell ⟨g, k * 2 + 1, none⟩ u1).ownsRow base e 2 (.slice (some ⟨g, 0, none⟩) n cap) n ((L.set (k * 2) u0).set (k * 2 + 1) u1) :=
  ((h.stored (k * 2) u0).1.stored (k * 2 + 1) u1).1

/-- Thing i of a list of pairs. -/
def pg (xs : List Rn) (i : Nat) : Rn := xs.getD i rnz
/-- Two things exchanged. -/
def sw (xs : List Rn) (i j : Nat) : List Rn := (xs.set i (pg xs j)).set j (pg xs i)

theorem pg_set (xs : List Rn) (i : Nat) (v : Rn) (k : Nat) (hi : i < xs.length) : pg (xs.set i v) k = if k = i then v else pg xs k := by
  simp only [pg, List.getD_eq_getElem?_getD, List.getElem?_set]
  by_cases h : k = i
  · subst h; simp [hi]
  · rw [if_neg (fun e => h e.symm), if_neg h]
theorem sw_len (xs : List Rn) (i j : Nat) : (sw xs i j).length = xs.length := by simp [sw]
theorem pg_sw (xs : List Rn) (i j k : Nat) (hi : i < xs.length) (hj : j < xs.length) : pg (sw xs i j) k = if k = j then pg xs i else if k = i then pg xs j else pg xs k := by
  unfold sw
  rw [pg_set _ _ _ _ (by simpa using hj), pg_set _ _ _ _ hi]
theorem sw_perm (xs : List Rn) (i j : Nat) (hi : i < xs.length) (hj : j < xs.length) : (sw xs i j).Perm xs := by
  have h1 : pg xs i = xs[i] := by simp [pg, List.getElem?_eq_getElem hi]
  have h2 : pg xs j = xs[j] := by simp [pg, List.getElem?_eq_getElem hj]
  unfold sw
  rw [h1, h2]
  exact List.set_set_perm hi hj

section
variable (key : Rn → Int)
def Heap (xs : List Rn) : Prop := ∀ i, 0 < i → i < xs.length → key (pg xs ((i - 1) / 2)) ≤ key (pg xs i)
def UpInv (xs : List Rn) (a : Nat) : Prop :=
  (∀ i, 0 < i → i < xs.length → i ≠ a → key (pg xs ((i - 1) / 2)) ≤ key (pg xs i)) ∧
  (∀ i, 0 < i → i < xs.length → (i - 1) / 2 = a → 0 < a → key (pg xs ((a - 1) / 2)) ≤ key (pg xs i))
def DownInv (xs : List Rn) (a : Nat) : Prop :=
  (∀ i, 0 < i → i < xs.length → (i - 1) / 2 ≠ a → key (pg xs ((i - 1) / 2)) ≤ key (pg xs i)) ∧
  (∀ i, 0 < i → i < xs.length → (i - 1) / 2 = a → 0 < a → key (pg xs ((a - 1) / 2)) ≤ key (pg xs i))
end

section
variable {key : Rn → Int} {xs : List Rn}

theorem pg_append (xs : List Rn) (v : Rn) (i : Nat) (h : i < xs.length) : pg (xs ++ [v]) i = pg xs i := by
  simp only [pg, List.getD_eq_getElem?_getD]
  rw [List.getElem?_append_left h]

theorem up_start (h : Heap key xs) (v : Rn) : UpInv key (xs ++ [v]) xs.length := by
  refine ⟨fun i h0 h1 h2 => ?_, fun i h0 h1 h2 _ => ?_⟩
  · simp at h1
    rw [pg_append xs v i (by omega), pg_append xs v _ (by omega)]
    exact h i h0 (by omega)
  · simp at h1; omega

theorem up_top (h : UpInv key xs 0) : Heap key xs := fun i h0 h1 => h.1 i h0 h1 (by omega)
theorem up_done {a : Nat} (h : UpInv key xs a) (hd : ¬ key (pg xs a) < key (pg xs ((a - 1) / 2))) : Heap key xs := by
  intro i h0 h1
  by_cases he : i = a
  · subst he; omega
  · exact h.1 i h0 h1 he

theorem up_step {a : Nat} (h : UpInv key xs a) (ha : a < xs.length) (h0 : 0 < a) (hl : key (pg xs a) < key (pg xs ((a - 1) / 2))) : UpInv key (sw xs a ((a - 1) / 2)) ((a - 1) / 2) := by
  obtain ⟨p, hp⟩ : ∃ p, p = (a - 1) / 2 := ⟨_, rfl⟩
  rw [← hp] at hl ⊢
  have hpa : p < a := by omega
  have hpl : p < xs.length := by omega
  refine ⟨fun i i0 i1 i2 => ?_, fun i i0 i1 i2 i3 => ?_⟩
  · rw [sw_len] at i1
    rw [pg_sw xs a p _ ha hpl, pg_sw xs a p _ ha hpl]
    rw [if_neg i2]
    by_cases e1 : i = a
    · subst e1
      rw [if_pos hp.symm, if_pos rfl]
      omega
    · rw [if_neg e1]
      by_cases e2 : (i - 1) / 2 = p
      · rw [if_pos e2]
        have := h.1 i i0 i1 e1
        rw [e2] at this
        omega
      · rw [if_neg e2]
        by_cases e3 : (i - 1) / 2 = a
        · rw [if_pos e3]
          have := h.2 i i0 i1 e3 h0
          rw [← hp] at this
          exact this
        · rw [if_neg e3]
          exact h.1 i i0 i1 e1
  · rw [sw_len] at i1
    rw [pg_sw xs a p _ ha hpl, pg_sw xs a p _ ha hpl]
    rw [if_neg (by omega), if_neg (by omega), if_neg (by omega)]
    have k1 := h.1 p i3 hpl (by omega)
    by_cases e1 : i = a
    · rw [if_pos e1]; exact k1
    · rw [if_neg e1]
      have := h.1 i i0 i1 e1
      rw [i2] at this
      omega

theorem pg_take (xs : List Rn) (n i : Nat) (h : i < n) : pg (xs.take n) i = pg xs i := by
  simp only [pg, List.getD_eq_getElem?_getD, List.getElem?_take]
  rw [if_pos h]

theorem down_start {n : Nat} (h : Heap key xs) (hn : xs.length = n + 1) (v : Rn) : DownInv key ((xs.set 0 v).take n) 0 := by
  refine ⟨fun i h0 h1 h2 => ?_, fun i h0 h1 h2 h3 => by omega⟩
  have h1' : i < n := by simp at h1; omega
  rw [pg_take _ _ _ (by omega), pg_take _ _ _ h1', pg_set _ _ _ _ (by omega), pg_set _ _ _ _ (by omega), if_neg h2, if_neg (by omega)]
  exact h i h0 (by omega)

theorem down_done {a : Nat} (h : DownInv key xs a) (hd : ∀ i, (i = 2 * a + 1 ∨ i = 2 * a + 2) → i < xs.length → key (pg xs a) ≤ key (pg xs i)) : Heap key xs := by
  intro i h0 h1
  by_cases he : (i - 1) / 2 = a
  · rw [he]; exact hd i (by omega) h1
  · exact h.1 i h0 h1 he

theorem down_step {a l : Nat} (h : DownInv key xs a) (hl : l = 2 * a + 1 ∨ l = 2 * a + 2) (hll : l < xs.length) (hlt : key (pg xs l) < key (pg xs a)) (hd : ∀ i, (i = 2 * a + 1 ∨ i = 2 * a + 2) → i < xs.length → key (pg xs l) ≤ key (pg xs i)) :
    DownInv key (sw xs a l) l := by
  have ha : a < xs.length := by omega
  refine ⟨fun i i0 i1 i2 => ?_, fun i i0 i1 i2 i3 => ?_⟩
  · rw [sw_len] at i1
    rw [pg_sw xs a l _ ha hll, pg_sw xs a l _ ha hll]
    rw [if_neg i2]
    by_cases e1 : i = l
    · subst e1
      rw [if_pos (by omega), if_pos rfl]
      omega
    · rw [if_neg e1]
      by_cases e2 : (i - 1) / 2 = a
      · rw [if_pos e2, if_neg (by omega)]
        exact hd i (by omega) i1
      · rw [if_neg e2]
        by_cases e3 : i = a
        · subst e3
          rw [if_pos rfl]
          exact h.2 l (by omega) hll (by omega) i0
        · rw [if_neg e3]
          exact h.1 i i0 i1 e2
  · rw [sw_len] at i1
    rw [pg_sw xs a l _ ha hll, pg_sw xs a l _ ha hll]
    have e : (l - 1) / 2 = a := by omega
    rw [e, if_neg (by omega), if_pos rfl, if_neg (by omega), if_neg (by omega)]
    have := h.1 i i0 i1 (by omega)
    rw [i2] at this
    exact this

theorem heap_min (h : Heap key xs) : ∀ i, i < xs.length → key (pg xs 0) ≤ key (pg xs i) := by
  intro i
  induction i using Nat.strongRecOn with
  | _ i ih =>
    intro hi
    rcases Nat.eq_zero_or_pos i with h0 | h0
    · subst h0; exact Int.le_refl _
    · have h1 := ih ((i - 1) / 2) (by omega) (by omega)
      have h2 := h i h0 hi
      omega
theorem heap_min_mem (h : Heap key xs) (x : Rn) (hx : x ∈ xs) : key (pg xs 0) ≤ key x := by
  obtain ⟨i, hi, he⟩ := List.getElem_of_mem hx
  have := heap_min h i hi
  have e : pg xs i = x := by simp [pg, List.getElem?_eq_getElem hi, he]
  rw [e] at this
  exact this
theorem heap_nil : Heap key [] := fun i _ h => by simp at h

theorem last_perm {n : Nat} (hn : xs.length = n + 1) : (pg xs 0 :: (xs.set 0 (pg xs n)).take n).Perm xs := by
  match xs, hn with
  | x :: ys, hn =>
    simp at hn
    have h0 : pg (x :: ys) 0 = x := rfl
    rw [h0]
    refine List.Perm.cons x ?_
    rcases Nat.eq_zero_or_pos n with hz | hz
    · subst hz
      have : ys = [] := List.eq_nil_of_length_eq_zero hn
      subst this
      exact List.Perm.refl _
    · obtain ⟨m, rfl⟩ : ∃ m, n = m + 1 := ⟨n - 1, by omega⟩
      have hl : pg (x :: ys) (m + 1) = ys[m]'(by omega) := by
        simp [pg, List.getElem?_eq_getElem (show m < ys.length by omega)]
      rw [hl, List.set_cons_zero, List.take_succ_cons]
      have hys : ys = ys.take m ++ [ys[m]'(by omega)] := by
        have := List.take_append_getElem (l := ys) (i := m) (by omega)
        rw [this, List.take_of_length_le (by omega)]
      conv => rhs; rw [hys]
      exact (List.perm_append_comm (l₁ := ys.take m) (l₂ := [ys[m]'(by omega)])).symm
end

/-- A block's cells. -/
def Blk (w : World) (b : Nat) (C : Array Value) (e : TypeId) : Prop := w.heap[b]? = some (.cells C e)
theorem Blk.lt {w : World} {b : Nat} {C : Array Value} {e : TypeId} (h : Blk w b C e) : b < w.heap.size := by
  rcases Nat.lt_or_ge b w.heap.size with h1 | h1
  · exact h1
  · unfold Blk at h; rw [Array.getElem?_eq_none h1] at h; cases h
theorem Blk.cell {w : World} {b : Nat} {C : Array Value} {e : TypeId} (h : Blk w b C e) (k : Nat) : w.cell? ⟨b, k, none⟩ = C[k]? := by
  unfold Blk at h; unfold World.cell?; rw [h]; rfl
theorem Blk.frozen {w : World} {b : Nat} {C : Array Value} {e : TypeId} (h : Blk w b C e) (k : Nat) : w.frozen? ⟨b, k, none⟩ = false := by
  unfold Blk at h; unfold World.frozen?; rw [h]; simp
theorem Blk.new (w : World) (C : Array Value) (e : TypeId) : Blk (w.alloc (.cells C e)) w.heap.size C e := by
  show (w.heap.push _)[w.heap.size]? = _
  simp
theorem Blk.set {w : World} {b : Nat} {C : Array Value} {e : TypeId} (h : Blk w b C e) (k : Nat) (v : Value) : Blk (w.setCell ⟨b, k, none⟩ v) b (C.setIfInBounds k v) e := by
  have hb := h.lt
  unfold Blk at h ⊢
  show (w.heap.modify b _)[b]? = _
  rw [Array.getElem?_modify, if_pos rfl, h]
  rfl
theorem Blk.below {w w' : World} {b : Nat} {C : Array Value} {e : TypeId} (h : Blk w b C e) (hb : Below w.heap.size w w') : Blk w' b C e := by
  have := h.lt
  unfold Blk at *
  rw [hb.block b this]; exact h
theorem Blk.drewN {w : World} {b : Nat} {C : Array Value} {e : TypeId} (h : Blk w b C e) (n : Nat) : Blk (w.drewN n) b C e := h

theorem fr_set (xs : List Rn) : ∀ (k : Nat) (v : Rn), fr (xs.set k v) = ((fr xs).set (k * 2) v.s).set (k * 2 + 1) v.e := by
  induction xs with
  | nil => intro k v; simp [fr]
  | cons x xs ih =>
    intro k v
    cases k with
    | zero => simp [fr_cons]
    | succ k =>
      rw [List.set_cons_succ, fr_cons, fr_cons, ih k v, show (k + 1) * 2 = k * 2 + 2 by omega]
      rfl
theorem fr_pg (xs : List Rn) (i : Nat) : (fr xs).getD (i * 2) 0 = (pg xs i).s ∧ (fr xs).getD (i * 2 + 1) 0 = (pg xs i).e := fr_at xs i

/-- A heap of towns: its block g holds the slice. -/
structure HIs (w : World) (g : Nat) (A : Option Addr) (c : Nat) (xs : List Rn) : Prop where
  blk : Blk w g #[.slice A xs.length c] 65
  own : w.ownsRow 0 63 2 (.slice A xs.length c) xs.length ((fr xs).map (Value.int .i64))
  ne : (Value.slice A xs.length c).ownBlock ≠ some g

/-- Of the blocks that were there only g and q have turned. -/
structure Touch (g : Nat) (q : Option Nat) (w w' : World) : Prop where
  os : w'.os = w.os
  tape : w'.tape = w.tape
  output : w'.output = w.output
  size : w.heap.size ≤ w'.heap.size
  block : ∀ k, k < w.heap.size → k ≠ g → some k ≠ q → w'.heap[k]? = w.heap[k]?

section
variable {g : Nat} {q : Option Nat} {w w' w'' : World}
theorem Touch.refl (g : Nat) (q : Option Nat) (w : World) : Touch g q w w := ⟨rfl, rfl, rfl, Nat.le_refl _, fun _ _ _ _ => rfl⟩
theorem Touch.trans' {q' : Option Nat} (h : Touch g q w w') (k : Touch g q' w' w'') (hq : q' = q ∨ ∃ j, q' = some j ∧ w.heap.size ≤ j) : Touch g q w w'' :=
  ⟨k.os.trans h.os, k.tape.trans h.tape, k.output.trans h.output, Nat.le_trans h.size k.size, fun i hi h1 h2 => by
    have h3 : some i ≠ q' := by
      rcases hq with rfl | ⟨j, rfl, hj⟩
      · exact h2
      · intro e; injection e with e; omega
    exact (k.block i (Nat.lt_of_lt_of_le hi h.size) h1 h3).trans (h.block i hi h1 h2)⟩
theorem Touch.trans (h : Touch g q w w') (k : Touch g q w' w'') : Touch g q w w'' := h.trans' k (.inl rfl)
theorem Below.touch (h : Below w.heap.size w w') : Touch g q w w' := ⟨h.os, h.tape, h.output, h.size, fun k hk _ _ => h.block k hk⟩
theorem Touch.alloc (h : Touch g q w w') (o : Obj) : Touch g q w (w'.alloc o) :=
  h.trans (Below.touch ((Below.refl _ _).alloc (Nat.le_refl _) o))
theorem Touch.drew (h : Touch g q w w') : Touch g q w w'.drew := ⟨h.os, h.tape, h.output, h.size, h.block⟩
theorem Touch.drewN (h : Touch g q w w') (n : Nat) : Touch g q w (w'.drewN n) := ⟨h.os, h.tape, h.output, h.size, h.block⟩
theorem grown_touch {row : Option Nat} (h : w.grownBy w' row) (hr : row = some g ∨ row = q ∨ row = none) : Touch g q w w' :=
  ⟨h.os, h.tape, h.output, h.size, fun k hk h1 h2 => h.block k hk (by
    rcases hr with rfl | rfl | rfl
    · intro e; injection e with e; exact h1 e
    · exact h2
    · simp)⟩
theorem setCell_grown (w : World) (b o : Nat) (u : Value) : w.grownBy (w.setCell ⟨b, o, none⟩ u) (some b) := by
  refine ⟨rfl, rfl, rfl, by simp [World.setCell], fun i _ hne => ?_⟩
  have hi : i ≠ b := fun e => hne (by rw [e])
  rw [Below.heap_setCell _ _ _ _ (by exact hi)]
/-- What is touched lies above. -/
theorem Touch.below {B : Nat} (h : Touch g q w w') (hg : B ≤ g) (hq : ∀ j, q = some j → B ≤ j) (hB : B ≤ w.heap.size) : Below B w w' :=
  ⟨h.os, h.tape, h.output, h.size, fun k hk => h.block k (by omega) (by omega) (fun e => by have := hq k e.symm; omega)⟩
end

section
variable {w w' : World} {g : Nat} {A : Option Addr} {c : Nat} {xs : List Rn}
theorem HIs.lt (h : HIs w g A c xs) : g < w.heap.size := h.blk.lt
theorem HIs.row_lt (h : HIs w g A c xs) {j : Nat} (hj : (Value.slice A xs.length c).ownBlock = some j) : j < w.heap.size := (h.own.lt j hj).2
/-- A pile stays while other blocks turn. -/
theorem HIs.kept (h : HIs w g A c xs) (hg : w'.heap[g]? = w.heap[g]?) (hq : ∀ j, (Value.slice A xs.length c).ownBlock = some j → w'.heap[j]? = w.heap[j]?) : HIs w' g A c xs := by
  refine ⟨by have := h.blk; unfold Blk at *; rw [hg]; exact this, ⟨h.own.1, ?_⟩, h.ne⟩
  rcases h.own.2 with h2 | ⟨g', cap, cur, hv, hg', hh, r⟩
  · exact .inl h2
  · exact .inr ⟨g', cap, cur, hv, hg', by rw [hq g' (by rw [hv]; rfl)]; exact hh, r⟩
theorem HIs.below (h : HIs w g A c xs) (hb : Below w.heap.size w w') : HIs w' g A c xs :=
  h.kept (hb.block _ h.lt) fun _ hj => hb.block _ (h.row_lt hj)
theorem HIs.touch {g' : Nat} {q' : Option Nat} (h : HIs w g A c xs) (ht : Touch g' q' w w') (h1 : g ≠ g') (h2 : some g ≠ q') (h3 : (Value.slice A xs.length c).ownBlock ≠ some g') (h4 : ∀ j, (Value.slice A xs.length c).ownBlock = some j → some j ≠ q') : HIs w' g A c xs :=
  h.kept (ht.block _ h.lt h1 h2) fun j hj => ht.block j (h.row_lt hj) (fun e => h3 (by rw [hj, e])) (h4 j hj)
theorem HIs.len_le (h : HIs w g A c xs) : xs.length ≤ c ∨ xs.length = 0 := by
  rcases h.own.2 with ⟨_, h2⟩ | ⟨g', cap, cur, hv, _, _, h3, _⟩
  · exact .inr h2
  · injection hv with _ _ hc; exact .inl (by omega)
/-- The cells of thing i. -/
theorem HIs.at (h : HIs w g A c xs) {i : Nat} (hi : i < xs.length) : ∃ a, A = some ⟨a, 0, none⟩ ∧ a ≠ g ∧ xs.length ≤ c ∧ c ≤ 9223372036854775807 ∧ a < w.heap.size := by
  rcases h.own.2 with ⟨_, h2⟩ | ⟨a, cap, cur, hv, _, hh, h3, h4, _⟩
  · omega
  · have hv' := hv
    injection hv with hA _ hc
    refine ⟨a, hA, fun e => h.ne (by rw [hv', e]; rfl), by omega, by unfold maxLen at h4; omega, ?_⟩
    rcases Nat.lt_or_ge a w.heap.size with k | k
    · exact k
    · simp [Array.getElem?_eq_none k] at hh
theorem HIs.cell {a : Nat} (h : HIs w g (some ⟨a, 0, none⟩) c xs) {i : Nat} (hi : i < xs.length) : w.cell? ⟨a, i * 2, none⟩ = some (.int .i64 (pg xs i).s) ∧ w.cell? ⟨a, i * 2 + 1, none⟩ = some (.int .i64 (pg xs i).e) := by
  have hl := fr_len xs
  obtain ⟨e0, e1⟩ := fr_pg xs i
  have c0 := h.own.cellAt (i * 2) (by omega)
  have c1 := h.own.cellAt (i * 2 + 1) (by omega)
  rw [c0, c1]
  constructor
  · rw [← e0, List.getElem?_map, List.getD_eq_getElem?_getD, List.getElem?_eq_getElem (by omega)]; rfl
  · rw [← e1, List.getElem?_map, List.getD_eq_getElem?_getD, List.getElem?_eq_getElem (by omega)]; rfl
theorem HIs.frozen {a : Nat} (h : HIs w g (some ⟨a, 0, none⟩) c xs) (j : Nat) : w.frozen? ⟨a, j, none⟩ = false := h.own.frozenAt j
/-- One thing is written. -/
theorem HIs.set {a : Nat} (h : HIs w g (some ⟨a, 0, none⟩) c xs) (k : Nat) (v : Rn) :
    HIs ((w.setCell ⟨a, k * 2, none⟩ (.int .i64 v.s)).setCell ⟨a, k * 2 + 1, none⟩ (.int .i64 v.e)) g (some ⟨a, 0, none⟩) c (xs.set k v) := by
  have hne : a ≠ g := fun e => h.ne (by rw [e]; rfl)
  have h2 := own_store2 (k := k) h.own (.int .i64 v.s) (.int .i64 v.e)
  have e : ((((fr xs).map (Value.int .i64)).set (k * 2) (.int .i64 v.s)).set (k * 2 + 1) (.int .i64 v.e)) = (fr (xs.set k v)).map (Value.int .i64) := by
    rw [fr_set, List.map_set, List.map_set]
  rw [e] at h2
  refine ⟨?_, by rw [List.length_set]; exact h2, by rw [List.length_set]; exact h.ne⟩
  have hb := h.blk
  unfold Blk at *
  rw [List.length_set]
  rw [Below.heap_setCell _ _ _ _ (by show g ≠ a; exact fun e => hne e.symm), Below.heap_setCell _ _ _ _ (by show g ≠ a; exact fun e => hne e.symm)]
  exact hb
end
end Go.Proofs.Ytaajombljiiigaa
