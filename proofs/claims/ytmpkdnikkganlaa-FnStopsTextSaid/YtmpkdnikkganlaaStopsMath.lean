/-
  Plain facts on stops and timetables: no program in sight.
-/
namespace Go.Proofs.Ytmpkdnikkganlaa

/-- A stop: its town, when a coach arrives and leaves. -/
structure St where
  t : Int
  a : Int
  l : Int

def stz : St := ⟨0, 0, 0⟩
def tw (xs : List St) (i : Nat) : Int := (xs.getD i stz).t
def ar (xs : List St) (i : Nat) : Int := (xs.getD i stz).a
def lv (xs : List St) (i : Nat) : Int := (xs.getD i stz).l

/-- When the coach leaves the stop before, -1 at the first. -/
def pv (xs : List St) : Nat → Int
  | 0 => -1
  | i + 1 => lv xs i

/-- Stop i fits behind those before it. -/
def ok (n : Int) (xs : List St) (i : Nat) : Prop :=
  0 ≤ tw xs i ∧ tw xs i ≤ n - 1 ∧ pv xs i < ar xs i ∧ ar xs i ≤ lv xs i ∧ lv xs i ≤ 10000 ∧ ∀ k, k < i → tw xs k ≠ tw xs i

/-- A timetable of n towns. -/
def Valid (n : Int) (xs : List St) : Prop := 1 ≤ n ∧ n ≤ 8 ∧ 2 ≤ xs.length ∧ xs.length ≤ 8 ∧ ∀ i, i < xs.length → ok n xs i

theorem ok_time {n : Int} {xs : List St} {m : Nat} (h : ∀ i, i < m → ok n xs i) : ∀ i, i < m → 0 ≤ ar xs i ∧ 0 ≤ lv xs i := by
  intro i
  induction i with
  | zero => intro hi; obtain ⟨_, _, h3, h4, _⟩ := h 0 hi; simp only [pv] at h3; omega
  | succ k ih => intro hi; obtain ⟨_, _, h3, h4, _⟩ := h (k + 1) hi; have := ih (by omega); simp only [pv] at h3; omega

theorem ok_pv {n : Int} {xs : List St} {m : Nat} (h : ∀ i, i < m → ok n xs i) : ∀ i, i ≤ m → -1 ≤ pv xs i ∧ pv xs i ≤ 10000 := by
  intro i hi
  cases i with
  | zero => simp [pv]
  | succ k => have h1 := ok_time h k (by omega); have h2 := (h k (by omega)).2.2.2.2.1; simp only [pv]; omega

/-- Times go up. -/
theorem ok_up {n : Int} {xs : List St} {m : Nat} (h : ∀ i, i < m → ok n xs i) : ∀ i j, i < j → j < m → lv xs i < ar xs j := by
  intro i j hij
  induction j with
  | zero => omega
  | succ k ih =>
    intro hj
    obtain ⟨_, _, h3, h4, _⟩ := h (k + 1) hj
    simp only [pv] at h3
    rcases Nat.lt_or_ge i k with h1 | h1
    · have h5 := ih h1 (by omega)
      have h6 := (h k (by omega)).2.2.2.1
      omega
    · have : i = k := by omega
      subst this; exact h3

theorem Valid.times {n : Int} {xs : List St} (h : Valid n xs) {i : Nat} (hi : i < xs.length) : 0 ≤ ar xs i ∧ ar xs i ≤ lv xs i ∧ lv xs i ≤ 10000 :=
  ⟨(ok_time h.2.2.2.2 i hi).1, (h.2.2.2.2 i hi).2.2.2.1, (h.2.2.2.2 i hi).2.2.2.2.1⟩

/-- The waits of the stops 1 to m. -/
def waitTo (xs : List St) : Nat → Int
  | 0 => 0
  | m + 1 => waitTo xs m + (lv xs (m + 1) - ar xs (m + 1))

theorem waitTo_bd {n : Int} {xs : List St} (h : Valid n xs) : ∀ m, m < xs.length → 0 ≤ waitTo xs m ∧ waitTo xs m ≤ 10000 * m := by
  intro m
  induction m with
  | zero => intro _; simp [waitTo]
  | succ m ih =>
    intro hm
    have h1 := ih (by omega)
    have h2 := h.times hm
    simp only [waitTo]
    omega

/-- The first index from k on, of m, with a town, or -1. -/
def atFrom (xs : List St) (t : Int) : Nat → Nat → Int
  | 0, _ => -1
  | m + 1, k => if tw xs k = t then k else atFrom xs t m (k + 1)
/-- The first index with a town, or -1. -/
def atV (xs : List St) (t : Int) : Int := atFrom xs t xs.length 0

/-- The last index below m at which the coach has arrived, or 0. -/
def whTo (xs : List St) (time : Int) : Nat → Nat
  | 0 => 0
  | m + 1 => if ar xs m ≤ time then m else whTo xs time m

theorem whTo_le (xs : List St) (time : Int) : ∀ m, whTo xs time m ≤ m := by
  intro m
  induction m with
  | zero => exact Nat.le_refl _
  | succ m ih => simp only [whTo]; split <;> omega
theorem whTo_lt (xs : List St) (time : Int) : ∀ m, 0 < m → whTo xs time m < m := by
  intro m
  induction m with
  | zero => intro h; omega
  | succ m ih =>
    intro _
    simp only [whTo]
    split
    · omega
    · have := whTo_le xs time m; omega

theorem whTo_eq {xs : List St} {time : Int} {i : Nat} (hi : ar xs i ≤ time) : ∀ m, i < m → (∀ j, i < j → j < m → time < ar xs j) → whTo xs time m = i := by
  intro m
  induction m with
  | zero => intro h; omega
  | succ m ih =>
    intro h1 h2
    simp only [whTo]
    rcases Nat.lt_or_ge i m with h3 | h3
    · rw [if_neg (by have := h2 m h3 (by omega); omega)]
      exact ih h3 (fun j hj hjm => h2 j hj (by omega))
    · obtain rfl : i = m := by omega
      rw [if_pos hi]

theorem ar_up {n : Int} {xs : List St} (h : Valid n xs) {i j : Nat} (hij : i < j) (hj : j < xs.length) : ar xs i < ar xs j := by
  have h1 := ok_up h.2.2.2.2 i j hij hj
  have h2 := h.times (i := i) (by omega)
  omega

end Go.Proofs.Ytmpkdnikkganlaa
