/-
  Plain facts on runs, rosters and teams: no program in sight.
-/
namespace Go.Proofs.Ytmnoidgfcpbmgaa

/-- A run: its start and its end. -/
structure Rn where
  s : Int
  e : Int

def rnz : Rn := ⟨0, 0⟩
/-- Start and end of run i. -/
def rs (xs : List Rn) (i : Nat) : Int := (xs.getD i rnz).s
def re (xs : List Rn) (i : Nat) : Int := (xs.getD i rnz).e

/-- The start before run i, 0 before the first. -/
def rprev (xs : List Rn) : Nat → Int
  | 0 => 0
  | i + 1 => rs xs i

def rok (xs : List Rn) (i : Nat) : Prop := rprev xs i ≤ rs xs i ∧ rs xs i < re xs i ∧ re xs i ≤ 10000
def RValid (xs : List Rn) : Prop := xs.length ≤ 12 ∧ ∀ i, i < xs.length → rok xs i

theorem rok_start {xs : List Rn} {m : Nat} (h : ∀ i, i < m → rok xs i) : ∀ i, i < m → 0 ≤ rs xs i := by
  intro i
  induction i with
  | zero => intro hi; have := (h 0 hi).1; simpa [rprev] using this
  | succ k ih => intro hi; have h1 := ih (by omega); have h2 := (h (k + 1) hi).1; simp only [rprev] at h2; omega

theorem rok_mono {xs : List Rn} {m : Nat} (h : ∀ i, i < m → rok xs i) : ∀ i j, i ≤ j → j < m → rs xs i ≤ rs xs j := by
  intro i j hij
  induction j with
  | zero => intro _; have : i = 0 := by omega
            subst this; exact Int.le_refl _
  | succ k ih =>
    intro hj
    rcases Nat.lt_or_ge i (k + 1) with h1 | h1
    · have h2 := ih (by omega) (by omega)
      have h3 := (h (k + 1) hj).1
      simp only [rprev] at h3
      omega
    · have : i = k + 1 := by omega
      subst this; exact Int.le_refl _

/-- How many of the first m runs are on the road or at rest at a time. -/
def busyTo (xs : List Rn) (rest t : Int) : Nat → Nat
  | 0 => 0
  | m + 1 => busyTo xs rest t m + if rs xs m ≤ t ∧ t < re xs m + rest then 1 else 0

theorem busyTo_le (xs : List Rn) (rest t : Int) (m : Nat) : busyTo xs rest t m ≤ m := by
  induction m with
  | zero => simp [busyTo]
  | succ m ih => simp only [busyTo]; split <;> omega

/-- The greatest busy number at the starts of the first m runs, among len runs. -/
def mostTo (xs : List Rn) (rest : Int) : Nat → Nat
  | 0 => 0
  | m + 1 => max (mostTo xs rest m) (busyTo xs rest (rs xs m) xs.length)


/-- Number k of a list. -/
def ri (ro : List Int) (k : Nat) : Int := ro.getD k 0

/-- Team t can begin run i behind the runs that the roster gives it before. -/
def Can (xs : List Rn) (rest : Int) (ro : List Int) (i : Nat) (t : Int) : Prop := ∀ k, k < i → ri ro k = t → re xs k + rest ≤ rs xs i

/-- Each of the first m runs has the least team that can begin it. -/
def Greedy (xs : List Rn) (rest : Int) (ro : List Int) (m : Nat) : Prop :=
  ∀ i, i < m → 0 ≤ ri ro i ∧ Can xs rest ro i (ri ro i) ∧ ∀ t, 0 ≤ t → t < ri ro i → ¬ Can xs rest ro i t

theorem Can.congr {xs : List Rn} {rest : Int} {ro ro' : List Int} {i : Nat} {t : Int} (h : ∀ k, k < i → ri ro k = ri ro' k) (hc : Can xs rest ro i t) : Can xs rest ro' i t :=
  fun k hk he => hc k hk (by rw [h k hk]; exact he)

theorem Greedy.unique {xs : List Rn} {rest : Int} {ro ro' : List Int} {m : Nat} (h : Greedy xs rest ro m) (h' : Greedy xs rest ro' m) : ∀ i, i < m → ri ro i = ri ro' i := by
  intro i
  induction i using Nat.strongRecOn with
  | _ i ih =>
    intro hi
    have e : ∀ k, k < i → ri ro k = ri ro' k := fun k hk => ih k hk (by omega)
    have e' : ∀ k, k < i → ri ro' k = ri ro k := fun k hk => (e k hk).symm
    obtain ⟨a1, a2, a3⟩ := h i hi
    obtain ⟨b1, b2, b3⟩ := h' i hi
    rcases Int.lt_trichotomy (ri ro i) (ri ro' i) with hl | hl | hl
    · exact absurd (a2.congr e) (b3 _ a1 hl)
    · exact hl
    · exact absurd (b2.congr e') (a3 _ b1 hl)

theorem ri_ext {ro ro' : List Int} (hl : ro.length = ro'.length) (h : ∀ i, i < ro.length → ri ro i = ri ro' i) : ro = ro' := by
  apply List.ext_getElem hl
  intro i h1 h2
  have := h i h1
  simp only [ri, List.getD_eq_getElem?_getD, List.getElem?_eq_getElem h1, List.getElem?_eq_getElem h2, Option.getD_some] at this
  exact this

/-- Different numbers among the first m. -/
def diffTo (ro : List Int) : Nat → Nat
  | 0 => 0
  | i + 1 => diffTo ro i + if ∀ k, k < i → ri ro k ≠ ri ro i then 1 else 0

theorem greedy_teams {xs : List Rn} {rest : Int} {ro : List Int} {m : Nat} (h : Greedy xs rest ro m) : ∀ c, c ≤ m →
    (∀ i, i < c → ri ro i < (diffTo ro c : Int)) ∧ ∀ t : Int, 0 ≤ t → t < (diffTo ro c : Int) → ∃ k, k < c ∧ ri ro k = t := by
  intro c
  induction c with
  | zero => intro _; exact ⟨fun i hi => by omega, fun t h0 h1 => by simp [diffTo] at h1; omega⟩
  | succ c ih =>
    intro hc
    obtain ⟨ih1, ih2⟩ := ih (by omega)
    obtain ⟨a1, a2, a3⟩ := h c (by omega)
    have hbefore : ∀ t, 0 ≤ t → t < ri ro c → ∃ k, k < c ∧ ri ro k = t := by
      intro t h0 h1
      have := a3 t h0 h1
      simp only [Can] at this
      apply Classical.byContradiction
      intro hn
      apply this
      intro k hk he
      exact absurd ⟨k, hk, he⟩ hn
    by_cases hf : ∀ k, k < c → ri ro k ≠ ri ro c
    · have hd : diffTo ro (c + 1) = diffTo ro c + 1 := by simp only [diffTo]; rw [if_pos hf]
      have hv : ri ro c = (diffTo ro c : Int) := by
        rcases Int.lt_trichotomy (ri ro c) (diffTo ro c : Int) with hl | hl | hl
        · obtain ⟨k, hk, he⟩ := ih2 _ a1 hl
          exact absurd he (hf k hk)
        · exact hl
        · obtain ⟨k, hk, he⟩ := hbefore (diffTo ro c : Int) (by omega) hl
          have := ih1 k hk
          omega
      rw [hd]
      refine ⟨fun i hi => ?_, fun t h0 h1 => ?_⟩
      · rcases Nat.lt_or_ge i c with h2 | h2
        · have := ih1 i h2; omega
        · have : i = c := by omega
          subst this; omega
      · rcases Int.lt_or_le t (diffTo ro c : Int) with h2 | h2
        · obtain ⟨k, hk, he⟩ := ih2 t h0 h2
          exact ⟨k, by omega, he⟩
        · exact ⟨c, by omega, by omega⟩
    · have hd : diffTo ro (c + 1) = diffTo ro c := by simp only [diffTo]; rw [if_neg hf]; rfl
      rw [hd]
      have hx : ∃ k, k < c ∧ ri ro k = ri ro c := by
        apply Classical.byContradiction
        intro hn
        apply hf
        intro k hk he
        exact hn ⟨k, hk, he⟩
      obtain ⟨k0, hk0, he0⟩ := hx
      refine ⟨fun i hi => ?_, fun t h0 h1 => ?_⟩
      · rcases Nat.lt_or_ge i c with h2 | h2
        · exact ih1 i h2
        · have : i = c := by omega
          subst this; rw [← he0]; exact ih1 k0 hk0
      · obtain ⟨k, hk, he⟩ := ih2 t h0 h1
        exact ⟨k, by omega, he⟩

def sumTo (f : Nat → Nat) : Nat → Nat
  | 0 => 0
  | c + 1 => sumTo f c + f c

theorem sumTo_congr {f g : Nat → Nat} {c : Nat} (h : ∀ j, j < c → f j = g j) : sumTo f c = sumTo g c := by
  induction c with
  | zero => rfl
  | succ c ih => simp only [sumTo]; rw [ih (fun j hj => h j (by omega)), h c (by omega)]
theorem sumTo_add (f g : Nat → Nat) (c : Nat) : sumTo (fun j => f j + g j) c = sumTo f c + sumTo g c := by
  induction c with
  | zero => rfl
  | succ c ih => simp only [sumTo]; omega
theorem sumTo_zero (c : Nat) : sumTo (fun _ => 0) c = 0 := by
  induction c with
  | zero => rfl
  | succ c ih => simp only [sumTo]; omega
theorem sumTo_at (P : Prop) [Decidable P] (x : Int) (c : Nat) (h0 : 0 ≤ x) (h1 : x < c) : sumTo (fun j => if P ∧ x = (j : Int) then 1 else 0) c = if P then 1 else 0 := by
  by_cases hp : P
  · simp only [hp, true_and, if_true]
    induction c with
    | zero => omega
    | succ c ih =>
      simp only [sumTo]
      by_cases he : x = (c : Int)
      · rw [if_pos he]
        have : sumTo (fun j => if x = (j : Int) then 1 else 0) c = 0 := by
          exact (sumTo_congr (g := fun _ => 0) fun j hj => if_neg (show ¬ x = (j : Int) by omega)).trans (sumTo_zero c)
        omega
      · rw [if_neg he, ih (by omega)]
  · simp only [hp, false_and, if_false]
    exact sumTo_zero c
theorem sumTo_le {f : Nat → Nat} {c : Nat} (h : ∀ j, j < c → f j ≤ 1) : sumTo f c ≤ c := by
  induction c with
  | zero => exact Nat.le_refl _
  | succ c ih => simp only [sumTo]; have := ih (fun j hj => h j (by omega)); have := h c (by omega); omega
theorem sumTo_ge {f : Nat → Nat} {c v : Nat} (hv : v ≤ c) (h : ∀ j, j < v → 1 ≤ f j) : v ≤ sumTo f c := by
  induction c with
  | zero => omega
  | succ c ih =>
    simp only [sumTo]
    rcases Nat.lt_or_ge c v with h1 | h1
    · have hcv : v = c + 1 := by omega
      subst hcv
      have h2 : c ≤ sumTo f c := by
        clear ih
        have : ∀ d, d ≤ c → d ≤ sumTo f d := by
          intro d
          induction d with
          | zero => intro _; omega
          | succ d ihd => intro hd; simp only [sumTo]; have := ihd (by omega); have := h d (by omega); omega
        exact this c (Nat.le_refl _)
      have := h c (by omega)
      omega
    · have := ih h1; omega

/-- Of the first m runs those of team j that are busy at a time. -/
def cntT (xs : List Rn) (rest t : Int) (ro : List Int) (j : Nat) : Nat → Nat
  | 0 => 0
  | m + 1 => cntT xs rest t ro j m + if (rs xs m ≤ t ∧ t < re xs m + rest) ∧ ri ro m = (j : Int) then 1 else 0

theorem busy_sum (xs : List Rn) (rest t : Int) (ro : List Int) (c : Nat) : ∀ m, (∀ k, k < m → 0 ≤ ri ro k ∧ ri ro k < (c : Int)) → busyTo xs rest t m = sumTo (fun j => cntT xs rest t ro j m) c := by
  intro m
  induction m with
  | zero => intro _; simp only [busyTo, cntT]; exact (sumTo_zero c).symm
  | succ m ih =>
    intro h
    have hm := h m (by omega)
    simp only [busyTo, cntT]
    rw [sumTo_add, sumTo_at _ _ _ hm.1 hm.2, ih (fun k hk => h k (by omega))]

theorem cntT_zero {xs : List Rn} {rest t : Int} {ro : List Int} {j : Nat} : ∀ m, (∀ k, k < m → ¬ ((rs xs k ≤ t ∧ t < re xs k + rest) ∧ ri ro k = (j : Int))) → cntT xs rest t ro j m = 0 := by
  intro m
  induction m with
  | zero => intro _; rfl
  | succ m ih => intro h; simp only [cntT]; rw [if_neg (h m (by omega)), ih (fun k hk => h k (by omega))]
theorem cntT_pos {xs : List Rn} {rest t : Int} {ro : List Int} {j k : Nat} (hb : (rs xs k ≤ t ∧ t < re xs k + rest) ∧ ri ro k = (j : Int)) : ∀ m, k < m → 1 ≤ cntT xs rest t ro j m := by
  intro m
  induction m with
  | zero => intro h; omega
  | succ m ih =>
    intro h
    simp only [cntT]
    rcases Nat.lt_or_ge k m with h1 | h1
    · have := ih h1; omega
    · have : k = m := by omega
      subst this
      rw [if_pos hb]; omega

theorem cntT_one {xs : List Rn} {rest t : Int} {ro : List Int} {j n : Nat} (hr : ∀ i, i < n → Can xs rest ro i (ri ro i)) : ∀ m, m ≤ n → cntT xs rest t ro j m ≤ 1 := by
  intro m
  induction m with
  | zero => intro _; simp [cntT]
  | succ m ih =>
    intro hm
    simp only [cntT]
    by_cases hb : (rs xs m ≤ t ∧ t < re xs m + rest) ∧ ri ro m = (j : Int)
    · rw [if_pos hb, cntT_zero m ?_]
      · omega
      · intro k hk hk'
        have := hr m (by omega) k hk (by rw [hk'.2, hb.2])
        omega
    · rw [if_neg hb]; have := ih (by omega); omega

/-- At no time are more teams busy than a roster has. -/
theorem busy_le_diff {xs : List Rn} {rest : Int} {ro : List Int} {m : Nat} (h : Greedy xs rest ro m) (t : Int) : busyTo xs rest t m ≤ diffTo ro m := by
  rw [busy_sum xs rest t ro (diffTo ro m) m (fun k hk => ⟨(h k hk).1, (greedy_teams h m (Nat.le_refl _)).1 k hk⟩)]
  exact sumTo_le fun j _ => cntT_one (n := m) (fun i hi => (h i hi).2.1) m (Nat.le_refl _)

theorem busy_ge_team {xs : List Rn} {rest : Int} {ro : List Int} {m : Nat} (h : Greedy xs rest ro m) (hv : ∀ i, i < m → rok xs i) (h0 : 0 ≤ rest) (i : Nat) (hi : i < m) :
    ri ro i + 1 ≤ (busyTo xs rest (rs xs i) m : Int) := by
  obtain ⟨a1, a2, a3⟩ := h i hi
  have hlt := (greedy_teams h m (Nat.le_refl _)).1 i hi
  rw [busy_sum xs rest _ ro (diffTo ro m) m (fun k hk => ⟨(h k hk).1, (greedy_teams h m (Nat.le_refl _)).1 k hk⟩)]
  obtain ⟨v, hvv⟩ := Int.eq_ofNat_of_zero_le a1
  have : v + 1 ≤ sumTo (fun j => cntT xs rest (rs xs i) ro j m) (diffTo ro m) := by
    refine sumTo_ge (by omega) fun j hj => ?_
    rcases Nat.lt_or_ge j v with h1 | h1
    · have hc := a3 (j : Int) (by omega) (by omega)
      have hx : ∃ k, k < i ∧ ri ro k = (j : Int) ∧ rs xs i < re xs k + rest := by
        apply Classical.byContradiction
        intro hn
        apply hc
        intro k hk he
        rcases Int.lt_or_le (rs xs i) (re xs k + rest) with h2 | h2
        · exact absurd ⟨k, hk, he, h2⟩ hn
        · exact h2
      obtain ⟨k, hk, he, h2⟩ := hx
      exact cntT_pos ⟨⟨rok_mono hv k i (by omega) hi, h2⟩, he⟩ m (by omega)
    · have hj' : j = v := by omega
      subst hj'
      have := (hv i hi).2.1
      exact cntT_pos ⟨⟨Int.le_refl _, by omega⟩, hvv⟩ m hi
  omega

theorem mostTo_ge (xs : List Rn) (rest : Int) : ∀ m i, i < m → busyTo xs rest (rs xs i) xs.length ≤ mostTo xs rest m := by
  intro m
  induction m with
  | zero => intro i hi; omega
  | succ m ih =>
    intro i hi
    simp only [mostTo]
    rcases Nat.lt_or_ge i m with h1 | h1
    · have := ih i h1; omega
    · have : i = m := by omega
      subst this; omega
theorem mostTo_le (xs : List Rn) (rest : Int) (b : Nat) : ∀ m, (∀ i, i < m → busyTo xs rest (rs xs i) xs.length ≤ b) → mostTo xs rest m ≤ b := by
  intro m
  induction m with
  | zero => intro _; simp [mostTo]
  | succ m ih => intro h; simp only [mostTo]; have := ih (fun i hi => h i (by omega)); have := h m (by omega); omega

/-- The least number of teams is the greatest number of busy ones. -/
theorem least_eq {xs : List Rn} {rest : Int} {ro : List Int} (h : Greedy xs rest ro xs.length) (hv : ∀ i, i < xs.length → rok xs i) (h0 : 0 ≤ rest) : diffTo ro xs.length = mostTo xs rest xs.length := by
  apply Nat.le_antisymm
  · rcases Nat.eq_zero_or_pos (diffTo ro xs.length) with hz | hz
    · omega
    · obtain ⟨k, hk, he⟩ := (greedy_teams h _ (Nat.le_refl _)).2 ((diffTo ro xs.length : Int) - 1) (by omega) (by omega)
      have h1 := busy_ge_team h hv h0 k hk
      have h2 := mostTo_ge xs rest xs.length k hk
      omega
  · exact mostTo_le xs rest _ _ fun i _ => busy_le_diff h _
end Go.Proofs.Ytmnoidgfcpbmgaa
