/-
  Plain facts on roads: no program in sight.
-/
namespace Go.Proofs.Ytaajombljiiigaa

/-- A road: its two towns and its miles. -/
structure Rd3 where
  a : Int
  b : Int
  m : Int

def rz3 : Rd3 := ⟨0, 0, 0⟩
def ra (xs : List Rd3) (i : Nat) : Int := (xs.getD i rz3).a
def rb (xs : List Rd3) (i : Nat) : Int := (xs.getD i rz3).b
def rm (xs : List Rd3) (i : Nat) : Int := (xs.getD i rz3).m

/-- Road i is one, and no road before it joins its towns. -/
def dok (n : Int) (xs : List Rd3) (i : Nat) : Prop :=
  0 ≤ ra xs i ∧ ra xs i < rb xs i ∧ rb xs i < n ∧ 1 ≤ rm xs i ∧ rm xs i ≤ 99 ∧ ∀ k, k < i → ¬ (ra xs k = ra xs i ∧ rb xs k = rb xs i)
/-- Roads of n towns. -/
def DValid (n : Int) (xs : List Rd3) : Prop := 1 ≤ n ∧ n ≤ 8 ∧ xs.length ≤ 16 ∧ ∀ i, i < xs.length → dok n xs i
theorem dok_dec (n : Int) (xs : List Rd3) (i : Nat) : (0 ≤ ra xs i ∧ ra xs i < rb xs i ∧ rb xs i < n ∧ 1 ≤ rm xs i ∧ rm xs i ≤ 99) ∨ ¬ dok n xs i := by
  by_cases h : 0 ≤ ra xs i ∧ ra xs i < rb xs i ∧ rb xs i < n ∧ 1 ≤ rm xs i ∧ rm xs i ≤ 99
  · exact .inl h
  · exact .inr fun g => h ⟨g.1, g.2.1, g.2.2.1, g.2.2.2.1, g.2.2.2.2.1⟩

/-- Road k joins towns a and b. -/
def joins (xs : List Rd3) (a b : Int) (k : Nat) : Prop := (ra xs k = a ∧ rb xs k = b) ∨ (ra xs k = b ∧ rb xs k = a)
instance (xs : List Rd3) (a b : Int) (k : Nat) : Decidable (joins xs a b k) := by unfold joins; infer_instance
/-- The miles of the road between two towns among the first k roads. -/
def lk (xs : List Rd3) (a b : Int) : Nat → Option Int
  | 0 => none
  | k + 1 => if joins xs a b k then some (rm xs k) else lk xs a b k
theorem lk_some {xs : List Rd3} {a b : Int} : ∀ {k : Nat} {m : Int}, lk xs a b k = some m → ∃ j, j < k ∧ joins xs a b j ∧ m = rm xs j := by
  intro k
  induction k with
  | zero => intro m h; simp [lk] at h
  | succ k ih =>
    intro m h
    simp only [lk] at h
    split at h
    · rename_i hj
      injection h with h
      exact ⟨k, by omega, hj, h.symm⟩
    · obtain ⟨j, h1, h2, h3⟩ := ih h
      exact ⟨j, by omega, h2, h3⟩
theorem lk_none {xs : List Rd3} {a b : Int} : ∀ {k : Nat}, lk xs a b k = none ↔ ∀ j, j < k → ¬ joins xs a b j := by
  intro k
  induction k with
  | zero => simp [lk]
  | succ k ih =>
    simp only [lk]
    split
    · rename_i hj
      simp
      exact ⟨k, by omega, hj⟩
    · rename_i hj
      rw [ih]
      constructor
      · intro h j hlt
        rcases Nat.lt_or_ge j k with g | g
        · exact h j g
        · obtain rfl : j = k := by omega
          exact hj
      · intro h j hlt
        exact h j (by omega)
theorem joins_comm {xs : List Rd3} {a b : Int} {k : Nat} : joins xs a b k ↔ joins xs b a k := by unfold joins; constructor <;> (rintro (⟨h1, h2⟩ | ⟨h1, h2⟩) <;> simp [h1, h2])
theorem lk_comm (xs : List Rd3) (a b : Int) : ∀ k, lk xs a b k = lk xs b a k := by
  intro k
  induction k with
  | zero => rfl
  | succ k ih =>
    simp only [lk]
    by_cases h : joins xs a b k
    · rw [if_pos h, if_pos (joins_comm.1 h)]
    · rw [if_neg h, if_neg (fun g => h (joins_comm.2 g)), ih]
/-- No road before k joins the towns of road k. -/
def fresh (xs : List Rd3) (k : Nat) : Prop := ∀ j, j < k → ¬ (ra xs j = ra xs k ∧ rb xs j = rb xs k)
theorem lk_fresh {n : Int} {xs : List Rd3} {k : Nat} (hok : ∀ j, j < k → dok n xs j) (hab : ra xs k < rb xs k) : lk xs (ra xs k) (rb xs k) k = none ↔ fresh xs k := by
  rw [lk_none]
  constructor
  · intro h j hj g
    exact h j hj (.inl g)
  · intro h j hj g
    rcases g with g | g
    · exact h j hj g
    · have := (hok j hj).2.1
      omega
end Go.Proofs.Ytaajombljiiigaa
