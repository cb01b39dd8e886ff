import Derived.Test.YtmnoidgfcpbmgaaRunsG
import Derived.Test.YtmnoidgfcpbmgaaRunsK
/-
  Plain facts on rosters: less rest, parts, own teams, minutes: no program's text in sight.
-/
namespace Go.Proofs.Ytmnoidgfcpbmgaa

theorem Can.less {xs : List Rn} {rest rest' : Int} {ro : List Int} {i : Nat} {t : Int} (h : Can xs rest ro i t) (hr : rest' ≤ rest) : Can xs rest' ro i t :=
  fun k hk he => by have := h k hk he; omega
theorem RoValid.less {xs : List Rn} {rest : Int} {ro : List Int} (h : RoValid xs rest ro) (h1 : 1 ≤ rest) : RoValid xs (rest - 1) ro :=
  ⟨⟨h.1.1, by omega, by have := h.1.2.2; omega⟩, h.2.1, fun i hi => ⟨(h.2.2 i hi).1, (h.2.2 i hi).2.1, (h.2.2 i hi).2.2.less (by omega)⟩⟩
theorem RoValid.take {xs : List Rn} {rest : Int} {ro : List Int} (h : RoValid xs rest ro) (k : Nat) (hk : k ≤ xs.length) : RoValid (xs.take k) rest (ro.take k) := by
  have hl := h.2.1
  refine ⟨⟨h.1.1.take k, h.1.2⟩, by rw [List.length_take, List.length_take]; omega, fun i hi => ?_⟩
  rw [List.length_take] at hi
  obtain ⟨a, b, c⟩ := h.2.2 i (by omega)
  rw [ri_take ro k (by omega)]
  exact ⟨a, b, (can_take (by omega)).mpr c⟩

/-- The numbers from 0 on. -/
def upTo (n : Nat) : List Int := (List.range n).map fun (i : Nat) => (i : Int)
theorem upTo_len (n : Nat) : (upTo n).length = n := by simp [upTo]
theorem upTo_succ (n : Nat) : upTo (n + 1) = upTo n ++ [(n : Int)] := by simp [upTo, List.range_succ]
theorem ri_upTo {n i : Nat} (hi : i < n) : ri (upTo n) i = (i : Int) := by
  simp [ri, upTo, List.getD_eq_getElem?_getD, List.getElem?_map, hi]
theorem roValid_upTo {xs : List Rn} {rest : Int} (h : ROk xs rest) : RoValid xs rest (upTo xs.length) := by
  refine ⟨h, upTo_len _, fun i hi => ?_⟩
  have := h.1.1
  rw [ri_upTo hi]
  refine ⟨by omega, by omega, fun k hk he => ?_⟩
  rw [ri_upTo (by omega)] at he
  omega

theorem roValid_gRo {xs : List Rn} {rest : Int} (h : ROk xs rest) : RoValid xs rest (gRo xs rest) := by
  refine ⟨h, gRo_len _ _, fun i hi => ?_⟩
  obtain ⟨a, b, c⟩ := gRo_lt h.1 h.2.1 hi
  have := most_le_len xs rest
  have := h.1.1
  exact ⟨a, by omega, c⟩

/-- The minutes of team t in the first m runs. -/
def mnTo (xs : List Rn) (ro : List Int) (t : Int) : Nat → Int
  | 0 => 0
  | m + 1 => mnTo xs ro t m + if ri ro m = t then re xs m - rs xs m else 0
/-- The minutes of the twelve teams in the first m runs. -/
def mnL (xs : List Rn) (ro : List Int) (m : Nat) : List Int := (List.range 12).map fun (t : Nat) => mnTo xs ro (t : Int) m
theorem mnL_len (xs : List Rn) (ro : List Int) (m : Nat) : (mnL xs ro m).length = 12 := by simp [mnL]
theorem mnL_at (xs : List Rn) (ro : List Int) (m : Nat) {t : Nat} (ht : t < 12) : (mnL xs ro m).getD t 0 = mnTo xs ro (t : Int) m := by
  simp [mnL, List.getD_eq_getElem?_getD, List.getElem?_map, ht]
theorem mnL_zero (xs : List Rn) (ro : List Int) : mnL xs ro 0 = List.replicate 12 0 := by simp [mnL, mnTo]; rfl
theorem mnL_succ (xs : List Rn) (ro : List Int) (m : Nat) {t : Nat} (ht : t < 12) (h : ri ro m = (t : Int)) : mnL xs ro (m + 1) = (mnL xs ro m).set t (mnTo xs ro (t : Int) m + (re xs m - rs xs m)) := by
  apply List.ext_getElem
  · simp [mnL]
  · intro i h1 h2
    simp [mnL] at h1
    rw [List.getElem_set]
    simp only [mnL, List.getElem_map, List.getElem_range, mnTo, h]
    by_cases e : t = i
    · subst e; simp
    · rw [if_neg e, if_neg (by omega)]; omega
theorem mnTo_bounds {xs : List Rn} {ro : List Int} {t : Int} (hv : RValid xs) : ∀ m, m ≤ xs.length → 0 ≤ mnTo xs ro t m ∧ mnTo xs ro t m ≤ 10000 * (m : Int) := by
  intro m
  induction m with
  | zero => intro _; simp [mnTo]
  | succ m ih =>
    intro hm
    have h1 := ih (by omega)
    obtain ⟨a, b, c⟩ := hv.times (i := m) (by omega)
    simp only [mnTo]
    split <;> omega
theorem mnTo_pos {xs : List Rn} {ro : List Int} {t : Int} (hv : RValid xs) : ∀ m, m ≤ xs.length → (0 < mnTo xs ro t m ↔ ∃ j, j < m ∧ ri ro j = t) := by
  intro m
  induction m with
  | zero => intro _; simp [mnTo]
  | succ m ih =>
    intro hm
    have h1 := ih (by omega)
    have h2 := (mnTo_bounds (ro := ro) (t := t) hv m (by omega)).1
    obtain ⟨a, b, c⟩ := hv.times (i := m) (by omega)
    simp only [mnTo]
    by_cases e : ri ro m = t
    · rw [if_pos e]
      exact ⟨fun _ => ⟨m, by omega, e⟩, fun _ => by omega⟩
    · rw [if_neg e, Int.add_zero, h1]
      constructor
      · rintro ⟨j, hj, he⟩; exact ⟨j, by omega, he⟩
      · rintro ⟨j, hj, he⟩
        rcases Nat.lt_or_ge j m with g | g
        · exact ⟨j, g, he⟩
        · obtain rfl : j = m := by omega
          exact absurd he e

open Classical in
theorem count_diff (ro : List Int) (c : Nat) : ∀ m, (∀ k, k < m → 0 ≤ ri ro k ∧ ri ro k < (c : Int)) → sumTo (fun t => if ∃ j, j < m ∧ ri ro j = (t : Int) then 1 else 0) c = diffTo ro m := by
  intro m
  induction m with
  | zero =>
    intro _
    simp only [diffTo]
    exact (sumTo_congr (g := fun _ => 0) fun t _ => if_neg (by rintro ⟨j, hj, _⟩; omega)).trans (sumTo_zero c)
  | succ m ih =>
    intro h
    obtain ⟨hm0, hm1⟩ := h m (by omega)
    simp only [diffTo]
    rw [← ih (fun k hk => h k (by omega)), ← sumTo_at (∀ k, k < m → ri ro k ≠ ri ro m) (ri ro m) c hm0 hm1, ← sumTo_add]
    apply sumTo_congr
    intro t ht
    by_cases h1 : ∃ j, j < m ∧ ri ro j = (t : Int)
    · obtain ⟨j, hj, he⟩ := h1
      rw [if_pos ⟨j, by omega, he⟩, if_pos ⟨j, hj, he⟩, if_neg]
      rintro ⟨h2, h3⟩
      exact h2 j hj (by rw [he, h3])
    · rw [if_neg h1]
      by_cases h2 : ri ro m = (t : Int)
      · rw [if_pos ⟨m, by omega, h2⟩, if_pos ⟨fun k hk he => h1 ⟨k, hk, by rw [he, h2]⟩, h2⟩]
      · rw [if_neg, if_neg (fun g => h2 g.2)]
        rintro ⟨j, hj, he⟩
        rcases Nat.lt_or_ge j m with g | g
        · exact h1 ⟨j, g, he⟩
        · obtain rfl : j = m := by omega
          exact h2 he

/-- A sum over the first c teams. -/
def isum (f : Nat → Int) : Nat → Int
  | 0 => 0
  | c + 1 => isum f c + f c
theorem isum_congr {f g : Nat → Int} {c : Nat} (h : ∀ j, j < c → f j = g j) : isum f c = isum g c := by
  induction c with
  | zero => rfl
  | succ c ih => simp only [isum]; rw [ih (fun j hj => h j (by omega)), h c (by omega)]
theorem isum_add (f g : Nat → Int) (c : Nat) : isum (fun j => f j + g j) c = isum f c + isum g c := by
  induction c with
  | zero => rfl
  | succ c ih => simp only [isum]; omega
theorem isum_zero (c : Nat) : isum (fun _ => 0) c = 0 := by
  induction c with
  | zero => rfl
  | succ c ih => simp only [isum]; omega
theorem isum_at (x v : Int) (c : Nat) (h0 : 0 ≤ x) (h1 : x < c) : isum (fun j => if x = (j : Int) then v else 0) c = v := by
  induction c with
  | zero => omega
  | succ c ih =>
    simp only [isum]
    by_cases he : x = (c : Int)
    · rw [if_pos he, (isum_congr (g := fun _ => 0) fun j hj => if_neg (show ¬ x = (j : Int) by omega)).trans (isum_zero c)]; omega
    · rw [if_neg he, ih (by omega)]; omega

/-- All minutes of the first m runs. -/
def allTo (xs : List Rn) : Nat → Int
  | 0 => 0
  | m + 1 => allTo xs m + (re xs m - rs xs m)
theorem minutes_sum (xs : List Rn) (ro : List Int) : ∀ m, (∀ k, k < m → 0 ≤ ri ro k ∧ ri ro k < 12) → isum (fun t => mnTo xs ro (t : Int) m) 12 = allTo xs m := by
  intro m
  induction m with
  | zero => intro _; simp only [mnTo, allTo]; exact isum_zero 12
  | succ m ih =>
    intro h
    obtain ⟨hm0, hm1⟩ := h m (by omega)
    simp only [mnTo, allTo]
    rw [isum_add, ih (fun k hk => h k (by omega)), isum_at _ _ _ hm0 (by omega)]
theorem allTo_bounds {xs : List Rn} (hv : RValid xs) : ∀ m, m ≤ xs.length → 0 ≤ allTo xs m ∧ allTo xs m ≤ 10000 * (m : Int) := by
  intro m
  induction m with
  | zero => intro _; simp [allTo]
  | succ m ih =>
    intro hm
    have h1 := ih (by omega)
    obtain ⟨a, b, c⟩ := hv.times (i := m) (by omega)
    simp only [allTo]
    omega
end Go.Proofs.Ytmnoidgfcpbmgaa
