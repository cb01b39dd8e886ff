/-
  Plain facts on stops and timetables: no program in sight.
-/
namespace Go.Proofs.Ytdmbgnbegnlcaaa

/-- A stop: its town, when a coach arrives and leaves. -/
structure St where
  t : Int
  a : Int
  l : Int

def stz : St := ⟨0, 0, 0⟩
def tw (xs : List St) (i : Nat) : Int := (xs.getD i stz).t
def ar (xs : List St) (i : Nat) : Int := (xs.getD i stz).a
def lv (xs : List St) (i : Nat) : Int := (xs.getD i stz).l

/-- When the coach leaves the stop before, -1 at the first. -/
def pv (xs : List St) : Nat → Int
  | 0 => -1
  | i + 1 => lv xs i

/-- Stop i fits behind those before it. -/
def ok (n : Int) (xs : List St) (i : Nat) : Prop :=
  0 ≤ tw xs i ∧ tw xs i ≤ n - 1 ∧ pv xs i < ar xs i ∧ ar xs i ≤ lv xs i ∧ lv xs i ≤ 10000 ∧ ∀ k, k < i → tw xs k ≠ tw xs i

/-- A timetable of n towns. -/
def Valid (n : Int) (xs : List St) : Prop := 1 ≤ n ∧ n ≤ 8 ∧ 2 ≤ xs.length ∧ xs.length ≤ 8 ∧ ∀ i, i < xs.length → ok n xs i

theorem ok_time {n : Int} {xs : List St} {m : Nat} (h : ∀ i, i < m → ok n xs i) : ∀ i, i < m → 0 ≤ ar xs i ∧ 0 ≤ lv xs i := by
  intro i
  induction i with
  | zero => intro hi; obtain ⟨_, _, h3, h4, _⟩ := h 0 hi; simp only [pv] at h3; omega
  | succ k ih => intro hi; obtain ⟨_, _, h3, h4, _⟩ := h (k + 1) hi; have := ih (by omega); simp only [pv] at h3; omega

theorem ok_pv {n : Int} {xs : List St} {m : Nat} (h : ∀ i, i < m → ok n xs i) : ∀ i, i ≤ m → -1 ≤ pv xs i ∧ pv xs i ≤ 10000 := by
  intro i hi
  cases i with
  | zero => simp [pv]
  | succ k => have h1 := ok_time h k (by omega); have h2 := (h k (by omega)).2.2.2.2.1; simp only [pv]; omega

/-- Times go up. -/
theorem ok_up {n : Int} {xs : List St} {m : Nat} (h : ∀ i, i < m → ok n xs i) : ∀ i j, i < j → j < m → lv xs i < ar xs j := by
  intro i j hij
  induction j with
  | zero => omega
  | succ k ih =>
    intro hj
    obtain ⟨_, _, h3, h4, _⟩ := h (k + 1) hj
    simp only [pv] at h3
    rcases Nat.lt_or_ge i k with h1 | h1
    · have h5 := ih h1 (by omega)
      have h6 := (h k (by omega)).2.2.2.1
      omega
    · have : i = k := by omega
      subst this; exact h3

end Go.Proofs.Ytdmbgnbegnlcaaa
