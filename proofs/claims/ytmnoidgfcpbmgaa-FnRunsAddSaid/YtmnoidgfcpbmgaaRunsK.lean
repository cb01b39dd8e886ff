import Derived.Test.YtmnoidgfcpbmgaaRunsHeap
/-
  Plain facts on the greedy roster, busy teams, rests and changed runs: no program in sight.
-/
namespace Go.Proofs.Ytmnoidgfcpbmgaa

theorem nat_least {P : Nat → Prop} (h : ∃ t, P t) : ∃ t, P t ∧ ∀ s, s < t → ¬ P s := by
  obtain ⟨t, ht⟩ := h
  induction t using Nat.strongRecOn with
  | _ t ih =>
    by_cases hx : ∃ s, s < t ∧ P s
    · obtain ⟨s, hs, hp⟩ := hx
      exact ih s hs hp
    · exact ⟨t, ht, fun s hs hp => hx ⟨s, hs, hp⟩⟩

theorem diffTo_le (ro : List Int) (m : Nat) : diffTo ro m ≤ m := by
  induction m with
  | zero => simp [diffTo]
  | succ m ih => simp only [diffTo]; split <;> omega

theorem greedy_exists (xs : List Rn) (rest : Int) (m : Nat) : ∃ ro : List Int, ro.length = m ∧ Greedy xs rest ro m := by
  induction m with
  | zero => exact ⟨[], rfl, fun i hi => absurd hi (by omega)⟩
  | succ m ih =>
    obtain ⟨ro, rfl, hg⟩ := ih
    have hex : ∃ t : Nat, Can xs rest ro ro.length (t : Int) := ⟨ro.length, fun k hk he => by
      have h1 := (greedy_teams hg ro.length (Nat.le_refl _)).1 k hk
      have h2 := diffTo_le ro ro.length
      omega⟩
    obtain ⟨t, ht, hmin⟩ := nat_least hex
    refine ⟨ro ++ [(t : Int)], by simp, Greedy.snoc hg ⟨by omega, ht, fun s s0 s1 hc => ?_⟩⟩
    obtain ⟨u, rfl⟩ := Int.eq_ofNat_of_zero_le s0
    exact hmin u (by omega) hc

/-- The roster that gives each run the least team that can begin it. -/
noncomputable def gRo (xs : List Rn) (rest : Int) : List Int := Classical.choose (greedy_exists xs rest xs.length)
theorem gRo_len (xs : List Rn) (rest : Int) : (gRo xs rest).length = xs.length := (Classical.choose_spec (greedy_exists xs rest xs.length)).1
theorem gRo_greedy (xs : List Rn) (rest : Int) : Greedy xs rest (gRo xs rest) xs.length := (Classical.choose_spec (greedy_exists xs rest xs.length)).2
theorem gRo_eq {xs : List Rn} {rest : Int} {ro : List Int} (hl : ro.length = xs.length) (h : Greedy xs rest ro xs.length) : ro = gRo xs rest :=
  ri_ext (hl.trans (gRo_len xs rest).symm) fun i hi => Greedy.unique h (gRo_greedy xs rest) i (by omega)

/-- The least number of teams. -/
def most (xs : List Rn) (rest : Int) : Nat := mostTo xs rest xs.length

theorem most_eq {xs : List Rn} {rest : Int} (hv : RValid xs) (h0 : 0 ≤ rest) : diffTo (gRo xs rest) xs.length = most xs rest := least_eq (gRo_greedy xs rest) hv.2 h0
theorem busy_le_most {xs : List Rn} {rest : Int} (hv : RValid xs) (h0 : 0 ≤ rest) (t : Int) : busyTo xs rest t xs.length ≤ most xs rest := by
  rw [← most_eq hv h0]; exact busy_le_diff (gRo_greedy xs rest) t
theorem most_le_of {xs : List Rn} {rest : Int} {b : Nat} (h : ∀ i, i < xs.length → busyTo xs rest (rs xs i) xs.length ≤ b) : most xs rest ≤ b := mostTo_le xs rest b _ h
theorem most_ge (xs : List Rn) (rest : Int) {i : Nat} (hi : i < xs.length) : busyTo xs rest (rs xs i) xs.length ≤ most xs rest := mostTo_ge xs rest _ i hi
theorem most_le_len (xs : List Rn) (rest : Int) : most xs rest ≤ xs.length := most_le_of fun i _ => busyTo_le xs rest _ _
theorem gRo_lt {xs : List Rn} {rest : Int} (hv : RValid xs) (h0 : 0 ≤ rest) {i : Nat} (hi : i < xs.length) : 0 ≤ ri (gRo xs rest) i ∧ ri (gRo xs rest) i < (most xs rest : Int) ∧ Can xs rest (gRo xs rest) i (ri (gRo xs rest) i) := by
  refine ⟨(gRo_greedy xs rest i hi).1, ?_, (gRo_greedy xs rest i hi).2.1⟩
  rw [← most_eq hv h0]
  exact (greedy_teams (gRo_greedy xs rest) _ (Nat.le_refl _)).1 i hi

/-- Run k is on the road or at rest. -/
def Act (xs : List Rn) (rest t : Int) (k : Nat) : Prop := rs xs k ≤ t ∧ t < re xs k + rest

theorem busyTo_imp {xs ys : List Rn} {rest rest' t t' : Int} : ∀ m, (∀ k, k < m → Act xs rest t k → Act ys rest' t' k) → busyTo xs rest t m ≤ busyTo ys rest' t' m := by
  intro m
  induction m with
  | zero => intro _; simp [busyTo]
  | succ m ih =>
    intro h
    have h1 := ih (fun k hk => h k (by omega))
    have h2 := h m (by omega)
    simp only [busyTo]
    by_cases ha : rs xs m ≤ t ∧ t < re xs m + rest
    · have h3 : rs ys m ≤ t' ∧ t' < re ys m + rest' := h2 ha
      rw [if_pos ha, if_pos h3]; omega
    · rw [if_neg ha]; omega

theorem busyTo_pos {xs : List Rn} {rest t : Int} : ∀ m, 0 < busyTo xs rest t m → ∃ j, j < m ∧ Act xs rest t j ∧ ∀ k, j < k → k < m → ¬ Act xs rest t k := by
  intro m
  induction m with
  | zero => intro h; simp [busyTo] at h
  | succ m ih =>
    intro h
    by_cases ha : Act xs rest t m
    · exact ⟨m, by omega, ha, fun k h1 h2 => by omega⟩
    · have ha' : ¬ (rs xs m ≤ t ∧ t < re xs m + rest) := ha
      simp only [busyTo] at h
      rw [if_neg ha'] at h
      obtain ⟨j, hj, h1, h2⟩ := ih (by omega)
      refine ⟨j, by omega, h1, fun k k1 k2 => ?_⟩
      rcases Nat.lt_or_ge k m with h3 | h3
      · exact h2 k k1 h3
      · obtain rfl : k = m := by omega
        exact ha

/-- At the last start up to a time as many are busy. -/
theorem busy_at_start {xs : List Rn} {rest t : Int} (hv : RValid xs) (h : 0 < busyTo xs rest t xs.length) : ∃ j, j < xs.length ∧ rs xs j ≤ t ∧ busyTo xs rest t xs.length ≤ busyTo xs rest (rs xs j) xs.length := by
  obtain ⟨j, hj, ha, hlast⟩ := busyTo_pos _ h
  refine ⟨j, hj, ha.1, busyTo_imp _ fun k hk hak => ?_⟩
  have hkj : k ≤ j := by
    rcases Nat.lt_or_ge j k with h1 | h1
    · exact absurd hak (hlast k h1 hk)
    · exact h1
  have := rok_mono hv.2 k j hkj hj
  exact ⟨this, by have := hak.2; have := ha.1; omega⟩

theorem busy_self {xs : List Rn} {rest : Int} (hv : RValid xs) (h0 : 0 ≤ rest) {i : Nat} (hi : i < xs.length) : 0 < busyTo xs rest (rs xs i) xs.length := by
  have hlt := (hv.2 i hi).2.1
  have : ∀ m, i < m → 0 < busyTo xs rest (rs xs i) m := by
    intro m
    induction m with
    | zero => intro h; omega
    | succ m ih =>
      intro h
      simp only [busyTo]
      rcases Nat.lt_or_ge i m with h1 | h1
      · have := ih h1; omega
      · obtain rfl : i = m := by omega
        rw [if_pos ⟨Int.le_refl _, by omega⟩]; omega
  exact this _ hi
theorem most_pos {xs : List Rn} {rest : Int} (hv : RValid xs) (h0 : 0 ≤ rest) (h : 0 < xs.length) : 0 < most xs rest := by
  have := busy_self hv h0 h
  have := most_ge xs rest h
  omega

theorem most_rest {xs : List Rn} {rest rest' : Int} (h : rest ≤ rest') : most xs rest ≤ most xs rest' :=
  most_le_of fun i hi => Nat.le_trans (busyTo_imp _ fun k _ ha => ⟨ha.1, by have := ha.2; omega⟩) (most_ge xs rest' hi)

/-- The first start at which most are busy among the first m runs, and how many. -/
def pkTo (xs : List Rn) (rest : Int) : Nat → Int × Nat
  | 0 => (0, 0)
  | m + 1 => if (pkTo xs rest m).2 < busyTo xs rest (rs xs m) xs.length then (rs xs m, busyTo xs rest (rs xs m) xs.length) else pkTo xs rest m

theorem pkTo_num (xs : List Rn) (rest : Int) : ∀ m, (pkTo xs rest m).2 = mostTo xs rest m := by
  intro m
  induction m with
  | zero => rfl
  | succ m ih =>
    simp only [pkTo, mostTo]
    by_cases h : (pkTo xs rest m).2 < busyTo xs rest (rs xs m) xs.length
    · rw [if_pos h]; simp only; omega
    · rw [if_neg h]; omega
theorem pkTo_at (xs : List Rn) (rest : Int) : ∀ m, 0 < (pkTo xs rest m).2 → ∃ j, j < m ∧ (pkTo xs rest m).1 = rs xs j ∧ (pkTo xs rest m).2 = busyTo xs rest (rs xs j) xs.length ∧ ∀ k, k < j → busyTo xs rest (rs xs k) xs.length < (pkTo xs rest m).2 := by
  intro m
  induction m with
  | zero => intro h; simp [pkTo] at h
  | succ m ih =>
    by_cases h : (pkTo xs rest m).2 < busyTo xs rest (rs xs m) xs.length
    · have e : pkTo xs rest (m + 1) = (rs xs m, busyTo xs rest (rs xs m) xs.length) := by simp only [pkTo]; rw [if_pos h]
      rw [e]
      intro _
      refine ⟨m, by omega, rfl, rfl, fun k hk => ?_⟩
      have := mostTo_ge xs rest m k hk
      rw [pkTo_num] at h
      simp only
      omega
    · have e : pkTo xs rest (m + 1) = pkTo xs rest m := by simp only [pkTo]; rw [if_neg h]
      rw [e]
      intro h0
      obtain ⟨j, hj, a, b, c⟩ := ih h0
      exact ⟨j, by omega, a, b, c⟩

/-- Before the peak fewer are busy. -/
theorem pk_first {xs : List Rn} {rest t : Int} (hv : RValid xs) (hp : 0 < (pkTo xs rest xs.length).2) (ht : t < (pkTo xs rest xs.length).1) : busyTo xs rest t xs.length < most xs rest := by
  obtain ⟨j, hj, a, b, c⟩ := pkTo_at xs rest _ hp
  have hn := pkTo_num xs rest xs.length
  rcases Nat.eq_zero_or_pos (busyTo xs rest t xs.length) with hz | hz
  · unfold most; omega
  · obtain ⟨i, hi, h1, h2⟩ := busy_at_start hv hz
    have hij : i < j := by
      rcases Nat.lt_or_ge i j with g | g
      · exact g
      · have := rok_mono hv.2 j i g hi
        omega
    have := c i hij
    unfold most
    omega

/-- The greatest rest below n with which teams are enough, or -1. -/
def rmFrom (xs : List Rn) (teams : Int) : Nat → Int
  | 0 => -1
  | n + 1 => if (most xs (n : Int) : Int) ≤ teams then (n : Int) else rmFrom xs teams n
theorem rmFrom_cases (xs : List Rn) (teams : Int) : ∀ n, (rmFrom xs teams n = -1 ∧ ∀ u : Nat, u < n → teams < (most xs (u : Int) : Int)) ∨
    ∃ v : Nat, rmFrom xs teams n = (v : Int) ∧ v < n ∧ (most xs (v : Int) : Int) ≤ teams ∧ ∀ u : Nat, v < u → u < n → teams < (most xs (u : Int) : Int) := by
  intro n
  induction n with
  | zero => exact .inl ⟨rfl, fun u hu => by omega⟩
  | succ n ih =>
    simp only [rmFrom]
    by_cases h : (most xs (n : Int) : Int) ≤ teams
    · rw [if_pos h]; exact .inr ⟨n, rfl, by omega, h, fun u h1 h2 => by omega⟩
    · rw [if_neg h]
      rcases ih with ⟨a, b⟩ | ⟨v, a, b, c, d⟩
      · refine .inl ⟨a, fun u hu => ?_⟩
        rcases Nat.lt_or_ge u n with g | g
        · exact b u g
        · obtain rfl : u = n := by omega
          omega
      · refine .inr ⟨v, a, by omega, c, fun u h1 h2 => ?_⟩
        rcases Nat.lt_or_ge u n with g | g
        · exact d u h1 g
        · obtain rfl : u = n := by omega
          omega

/-- All times later. -/
def shR (xs : List Rn) (k : Int) : List Rn := xs.map fun x => ⟨x.s + k, x.e + k⟩
theorem shR_len (xs : List Rn) (k : Int) : (shR xs k).length = xs.length := by simp [shR]
theorem shR_at (xs : List Rn) (k : Int) {i : Nat} (hi : i < xs.length) : rs (shR xs k) i = rs xs i + k ∧ re (shR xs k) i = re xs i + k := by
  unfold rs re shR
  simp [List.getD_eq_getElem?_getD, List.getElem?_map, List.getElem?_eq_getElem hi]
theorem shR_back (xs : List Rn) (k : Int) : shR (shR xs k) (0 - k) = xs := by
  unfold shR
  rw [List.map_map]
  conv => rhs; rw [← List.map_id xs]
  apply List.map_congr_left
  intro x _
  show (⟨x.s + k + (0 - k), x.e + k + (0 - k)⟩ : Rn) = x
  have h1 : x.s + k + (0 - k) = x.s := by omega
  have h2 : x.e + k + (0 - k) = x.e := by omega
  rw [h1, h2]

theorem can_shift {xs : List Rn} {rest k : Int} {ro : List Int} {i : Nat} {t : Int} (hi : i < xs.length) : Can (shR xs k) rest ro i t ↔ Can xs rest ro i t := by
  constructor
  · intro h j hj he
    have := h j hj he
    rw [(shR_at xs k (show j < xs.length by omega)).2, (shR_at xs k hi).1] at this
    omega
  · intro h j hj he
    have := h j hj he
    rw [(shR_at xs k (show j < xs.length by omega)).2, (shR_at xs k hi).1]
    omega
theorem gRo_shift (xs : List Rn) (rest k : Int) : gRo (shR xs k) rest = gRo xs rest := by
  symm
  apply gRo_eq
  · rw [gRo_len, shR_len]
  · rw [shR_len]
    intro i hi
    obtain ⟨a, b, c⟩ := gRo_greedy xs rest i hi
    exact ⟨a, (can_shift hi).mpr b, fun t t0 t1 h => c t t0 t1 ((can_shift hi).mp h)⟩

theorem take_at (xs : List Rn) (k : Nat) {i : Nat} (hi : i < k) : rs (xs.take k) i = rs xs i ∧ re (xs.take k) i = re xs i := by
  unfold rs re
  rw [List.getD_eq_getElem?_getD, List.getElem?_take, if_pos hi, List.getD_eq_getElem?_getD]
  exact ⟨rfl, rfl⟩
theorem drop_at (xs : List Rn) (k i : Nat) : rs (xs.drop k) i = rs xs (k + i) ∧ re (xs.drop k) i = re xs (k + i) := by
  unfold rs re
  rw [List.getD_eq_getElem?_getD, List.getElem?_drop, List.getD_eq_getElem?_getD]
  exact ⟨rfl, rfl⟩
theorem ri_take (ro : List Int) (k : Nat) {i : Nat} (hi : i < k) : ri (ro.take k) i = ri ro i := by
  unfold ri
  rw [List.getD_eq_getElem?_getD, List.getElem?_take, if_pos hi, List.getD_eq_getElem?_getD]

theorem RValid.take {xs : List Rn} (h : RValid xs) (k : Nat) : RValid (xs.take k) := by
  refine ⟨by rw [List.length_take]; have := h.1; omega, fun i hi => ?_⟩
  rw [List.length_take] at hi
  obtain ⟨a, b, c⟩ := h.2 i (by omega)
  obtain ⟨e1, e2⟩ := take_at xs k (i := i) (by omega)
  refine ⟨?_, by rw [e1, e2]; exact b, by rw [e2]; exact c⟩
  rw [e1]
  cases i with
  | zero => exact a
  | succ i => simp only [rprev]; rw [(take_at xs k (i := i) (by omega)).1]; exact a
theorem RValid.drop {xs : List Rn} (h : RValid xs) (k : Nat) : RValid (xs.drop k) := by
  refine ⟨by rw [List.length_drop]; have := h.1; omega, fun i hi => ?_⟩
  rw [List.length_drop] at hi
  obtain ⟨a, b, c⟩ := h.2 (k + i) (by omega)
  obtain ⟨e1, e2⟩ := drop_at xs k i
  refine ⟨?_, by rw [e1, e2]; exact b, by rw [e2]; exact c⟩
  rw [e1]
  cases i with
  | zero => exact rok_start h.2 _ (by omega)
  | succ i => simp only [rprev]; rw [(drop_at xs k i).1]; exact rok_mono h.2 _ _ (by omega) (by omega)

theorem can_take {xs : List Rn} {rest : Int} {ro : List Int} {k i : Nat} {t : Int} (hi : i < k) : Can (xs.take k) rest (ro.take k) i t ↔ Can xs rest ro i t := by
  constructor
  · intro h j hj he
    have := h j hj (by rw [ri_take ro k (by omega)]; exact he)
    rw [(take_at xs k (show j < k by omega)).2, (take_at xs k hi).1] at this
    exact this
  · intro h j hj he
    rw [ri_take ro k (by omega)] at he
    rw [(take_at xs k (show j < k by omega)).2, (take_at xs k hi).1]
    exact h j hj he
theorem gRo_take (xs : List Rn) (rest : Int) (k : Nat) (hk : k ≤ xs.length) : gRo (xs.take k) rest = (gRo xs rest).take k := by
  symm
  have hl : (xs.take k).length = k := by rw [List.length_take]; omega
  apply gRo_eq
  · rw [List.length_take, gRo_len, hl]; omega
  · rw [hl]
    intro i hi
    obtain ⟨a, b, c⟩ := gRo_greedy xs rest i (by omega)
    rw [ri_take _ _ hi]
    exact ⟨a, (can_take hi).mpr b, fun t t0 t1 h => c t t0 t1 ((can_take hi).mp h)⟩

theorem busy_split (xs : List Rn) (rest t : Int) (k : Nat) : ∀ m, busyTo xs rest t (k + m) = busyTo xs rest t k + busyTo (xs.drop k) rest t m := by
  intro m
  induction m with
  | zero => simp [busyTo]
  | succ m ih =>
    rw [← Nat.add_assoc]
    simp only [busyTo]
    rw [ih, (drop_at xs k m).1, (drop_at xs k m).2]
    omega
theorem busy_take (xs : List Rn) (rest t : Int) (k : Nat) : ∀ m, m ≤ k → busyTo (xs.take k) rest t m = busyTo xs rest t m := by
  intro m
  induction m with
  | zero => intro _; rfl
  | succ m ih =>
    intro h
    simp only [busyTo]
    rw [ih (by omega), (take_at xs k (show m < k by omega)).1, (take_at xs k (show m < k by omega)).2]
theorem busy_parts (xs : List Rn) (rest t : Int) (k : Nat) (hk : k ≤ xs.length) : busyTo (xs.take k) rest t (xs.take k).length + busyTo (xs.drop k) rest t (xs.drop k).length = busyTo xs rest t xs.length := by
  rw [List.length_take, List.length_drop, show min k xs.length = k by omega, busy_take xs rest t k k (Nat.le_refl _), ← busy_split]
  congr 1
  omega

/-- The place of a further run. -/
def addAt (xs : List Rn) (s : Int) : Nat := (xs.takeWhile fun x => decide (x.s ≤ s)).length
theorem addAt_eq : ∀ (xs : List Rn) (s : Int) (k : Nat), k ≤ xs.length → (∀ j, j < k → rs xs j ≤ s) → (k < xs.length → s < rs xs k) → k = addAt xs s := by
  intro xs s
  induction xs with
  | nil => intro k h _ _; simpa [addAt] using h
  | cons x xs ih =>
    intro k h1 h2 h3
    cases k with
    | zero =>
      have := h3 (by simp)
      simp only [rs, List.getD_cons_zero] at this
      have hx : ¬ x.s ≤ s := by omega
      simp [addAt, hx]
    | succ k =>
      have h0 := h2 0 (by omega)
      simp only [rs, List.getD_cons_zero] at h0
      have := ih k (by simpa using h1) (fun j hj => by have := h2 (j + 1) (by omega); simpa [rs] using this) (fun hk => by have := h3 (by simp; omega); simpa [rs] using this)
      simp only [addAt, List.takeWhile_cons, h0, decide_true, if_true, List.length_cons] at this ⊢
      omega
theorem addAt_le (xs : List Rn) (s : Int) : addAt xs s ≤ xs.length := List.Sublist.length_le (List.takeWhile_sublist _)
/-- The runs with a run at its place. -/
def addR (xs : List Rn) (r : Rn) : List Rn := xs.take (addAt xs r.s) ++ (r :: xs.drop (addAt xs r.s))
theorem addR_len (xs : List Rn) (r : Rn) : (addR xs r).length = xs.length + 1 := by
  have := addAt_le xs r.s
  unfold addR
  simp
  omega
theorem busyTo_append (xs ys : List Rn) (rest t : Int) : ∀ m, busyTo (xs ++ ys) rest t (xs.length + m) = busyTo xs rest t xs.length + busyTo ys rest t m := by
  intro m
  have h1 : ∀ j, j ≤ xs.length → busyTo (xs ++ ys) rest t j = busyTo xs rest t j := by
    intro j
    induction j with
    | zero => intro _; rfl
    | succ j ih =>
      intro hj
      simp only [busyTo, rs, re, List.getD_eq_getElem?_getD]
      rw [ih (by omega), List.getElem?_append_left (by omega)]
  induction m with
  | zero => simp [busyTo, h1]
  | succ m ih =>
    rw [← Nat.add_assoc]
    simp only [busyTo, rs, re, List.getD_eq_getElem?_getD]
    rw [ih, List.getElem?_append_right (by omega), Nat.add_sub_cancel_left]
    omega
theorem busy_add (xs : List Rn) (r : Rn) (rest t : Int) : busyTo (addR xs r) rest t (addR xs r).length = busyTo xs rest t xs.length + if r.s ≤ t ∧ t < r.e + rest then 1 else 0 := by
  have hk := addAt_le xs r.s
  have h1 := busy_parts xs rest t (addAt xs r.s) hk
  have hd : (addR xs r).length = (xs.take (addAt xs r.s)).length + (1 + (xs.drop (addAt xs r.s)).length) := by simp [addR]; omega
  rw [hd]
  unfold addR
  rw [busyTo_append]
  have h2 := busyTo_append [r] (xs.drop (addAt xs r.s)) rest t (xs.drop (addAt xs r.s)).length
  simp only [List.length_cons, List.length_nil, List.singleton_append, Nat.zero_add] at h2
  rw [h2]
  have h3 : busyTo [r] rest t 1 = if r.s ≤ t ∧ t < r.e + rest then 1 else 0 := by simp [busyTo, rs, re]
  rw [h3]
  omega
theorem start_mem_add (xs : List Rn) (r : Rn) {i : Nat} (hi : i < xs.length) : ∃ j, j < (addR xs r).length ∧ rs (addR xs r) j = rs xs i := by
  have hk := addAt_le xs r.s
  rw [addR_len]
  have hmem : xs.getD i rnz ∈ addR xs r := by
    have h1 : xs.getD i rnz ∈ xs := by rw [List.getD_eq_getElem?_getD, List.getElem?_eq_getElem hi]; exact List.getElem_mem _
    rw [← List.take_append_drop (addAt xs r.s) xs, List.mem_append] at h1
    unfold addR
    rw [List.mem_append]
    rcases h1 with h1 | h1
    · left; simpa using h1
    · right; simp at h1 ⊢; exact .inr h1
  obtain ⟨j, hj, he⟩ := List.getElem_of_mem hmem
  rw [addR_len] at hj
  refine ⟨j, hj, ?_⟩
  unfold rs
  rw [List.getD_eq_getElem?_getD (l := addR xs r), List.getElem?_eq_getElem (by rw [addR_len]; exact hj), Option.getD_some, he]
/-- A further run needs at most one team more. -/
theorem most_add {xs : List Rn} {r : Rn} {rest : Int} (hv : RValid xs) (hv' : RValid (addR xs r)) (h0 : 0 ≤ rest) : most xs rest ≤ most (addR xs r) rest ∧ most (addR xs r) rest ≤ most xs rest + 1 := by
  constructor
  · refine most_le_of fun i hi => ?_
    obtain ⟨j, hj, he⟩ := start_mem_add xs r hi
    have h1 := most_ge (addR xs r) rest hj
    rw [he, busy_add] at h1
    omega
  · refine most_le_of fun i hi => ?_
    rw [busy_add]
    have := busy_le_most hv h0 (rs (addR xs r) i)
    split <;> omega
end Go.Proofs.Ytmnoidgfcpbmgaa
