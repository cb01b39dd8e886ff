import Derived.Test.YtmnoidgfcpbmgaaRunsMath
/-
  Plain facts on heaps (lists of pairs of numbers, ordered by a key): no program in sight.
-/
namespace Go.Proofs.Ytmnoidgfcpbmgaa

/-- Thing i of a list of pairs. -/
def pg (xs : List Rn) (i : Nat) : Rn := xs.getD i rnz
/-- Two things exchanged. -/
def sw (xs : List Rn) (i j : Nat) : List Rn := (xs.set i (pg xs j)).set j (pg xs i)

theorem pg_set (xs : List Rn) (i : Nat) (v : Rn) (k : Nat) (hi : i < xs.length) : pg (xs.set i v) k = if k = i then v else pg xs k := by
  simp only [pg, List.getD_eq_getElem?_getD, List.getElem?_set]
  by_cases h : k = i
  · subst h; simp [hi]
  · rw [if_neg (fun e => h e.symm), if_neg h]
theorem sw_len (xs : List Rn) (i j : Nat) : (sw xs i j).length = xs.length := by simp [sw]
theorem pg_sw (xs : List Rn) (i j k : Nat) (hi : i < xs.length) (hj : j < xs.length) : pg (sw xs i j) k = if k = j then pg xs i else if k = i then pg xs j else pg xs k := by
  unfold sw
  rw [pg_set _ _ _ _ (by simpa using hj), pg_set _ _ _ _ hi]
theorem sw_perm (xs : List Rn) (i j : Nat) (hi : i < xs.length) (hj : j < xs.length) : (sw xs i j).Perm xs := by
  have h1 : pg xs i = xs[i] := by simp [pg, List.getElem?_eq_getElem hi]
  have h2 : pg xs j = xs[j] := by simp [pg, List.getElem?_eq_getElem hj]
  unfold sw
  rw [h1, h2]
  exact List.set_set_perm hi hj

section
variable (key : Rn → Int)
def Heap (xs : List Rn) : Prop := ∀ i, 0 < i → i < xs.length → key (pg xs ((i - 1) / 2)) ≤ key (pg xs i)
def UpInv (xs : List Rn) (a : Nat) : Prop :=
  (∀ i, 0 < i → i < xs.length → i ≠ a → key (pg xs ((i - 1) / 2)) ≤ key (pg xs i)) ∧
  (∀ i, 0 < i → i < xs.length → (i - 1) / 2 = a → 0 < a → key (pg xs ((a - 1) / 2)) ≤ key (pg xs i))
def DownInv (xs : List Rn) (a : Nat) : Prop :=
  (∀ i, 0 < i → i < xs.length → (i - 1) / 2 ≠ a → key (pg xs ((i - 1) / 2)) ≤ key (pg xs i)) ∧
  (∀ i, 0 < i → i < xs.length → (i - 1) / 2 = a → 0 < a → key (pg xs ((a - 1) / 2)) ≤ key (pg xs i))
end

section
variable {key : Rn → Int} {xs : List Rn}

theorem pg_append (xs : List Rn) (v : Rn) (i : Nat) (h : i < xs.length) : pg (xs ++ [v]) i = pg xs i := by
  simp only [pg, List.getD_eq_getElem?_getD]
  rw [List.getElem?_append_left h]

theorem up_start (h : Heap key xs) (v : Rn) : UpInv key (xs ++ [v]) xs.length := by
  refine ⟨fun i h0 h1 h2 => ?_, fun i h0 h1 h2 _ => ?_⟩
  · simp at h1
    rw [pg_append xs v i (by omega), pg_append xs v _ (by omega)]
    exact h i h0 (by omega)
  · simp at h1; omega

theorem up_top (h : UpInv key xs 0) : Heap key xs := fun i h0 h1 => h.1 i h0 h1 (by omega)
theorem up_done {a : Nat} (h : UpInv key xs a) (hd : ¬ key (pg xs a) < key (pg xs ((a - 1) / 2))) : Heap key xs := by
  intro i h0 h1
  by_cases he : i = a
  · subst he; omega
  · exact h.1 i h0 h1 he

theorem up_step {a : Nat} (h : UpInv key xs a) (ha : a < xs.length) (h0 : 0 < a) (hl : key (pg xs a) < key (pg xs ((a - 1) / 2))) : UpInv key (sw xs a ((a - 1) / 2)) ((a - 1) / 2) := by
  obtain ⟨p, hp⟩ : ∃ p, p = (a - 1) / 2 := ⟨_, rfl⟩
  rw [← hp] at hl ⊢
  have hpa : p < a := by omega
  have hpl : p < xs.length := by omega
  refine ⟨fun i i0 i1 i2 => ?_, fun i i0 i1 i2 i3 => ?_⟩
  · rw [sw_len] at i1
    rw [pg_sw xs a p _ ha hpl, pg_sw xs a p _ ha hpl]
    rw [if_neg i2]
    by_cases e1 : i = a
    · subst e1
      rw [if_pos hp.symm, if_pos rfl]
      omega
    · rw [if_neg e1]
      by_cases e2 : (i - 1) / 2 = p
      · rw [if_pos e2]
        have := h.1 i i0 i1 e1
        rw [e2] at this
        omega
      · rw [if_neg e2]
        by_cases e3 : (i - 1) / 2 = a
        · rw [if_pos e3]
          have := h.2 i i0 i1 e3 h0
          rw [← hp] at this
          exact this
        · rw [if_neg e3]
          exact h.1 i i0 i1 e1
  · rw [sw_len] at i1
    rw [pg_sw xs a p _ ha hpl, pg_sw xs a p _ ha hpl]
    rw [if_neg (by omega), if_neg (by omega), if_neg (by omega)]
    have k1 := h.1 p i3 hpl (by omega)
    by_cases e1 : i = a
    · rw [if_pos e1]; exact k1
    · rw [if_neg e1]
      have := h.1 i i0 i1 e1
      rw [i2] at this
      omega

theorem pg_take (xs : List Rn) (n i : Nat) (h : i < n) : pg (xs.take n) i = pg xs i := by
  simp only [pg, List.getD_eq_getElem?_getD, List.getElem?_take]
  rw [if_pos h]

theorem down_start {n : Nat} (h : Heap key xs) (hn : xs.length = n + 1) (v : Rn) : DownInv key ((xs.set 0 v).take n) 0 := by
  refine ⟨fun i h0 h1 h2 => ?_, fun i h0 h1 h2 h3 => by omega⟩
  have h1' : i < n := by simp at h1; omega
  rw [pg_take _ _ _ (by omega), pg_take _ _ _ h1', pg_set _ _ _ _ (by omega), pg_set _ _ _ _ (by omega), if_neg h2, if_neg (by omega)]
  exact h i h0 (by omega)

theorem down_done {a : Nat} (h : DownInv key xs a) (hd : ∀ i, (i = 2 * a + 1 ∨ i = 2 * a + 2) → i < xs.length → key (pg xs a) ≤ key (pg xs i)) : Heap key xs := by
  intro i h0 h1
  by_cases he : (i - 1) / 2 = a
  · rw [he]; exact hd i (by omega) h1
  · exact h.1 i h0 h1 he

theorem down_step {a l : Nat} (h : DownInv key xs a) (hl : l = 2 * a + 1 ∨ l = 2 * a + 2) (hll : l < xs.length) (hlt : key (pg xs l) < key (pg xs a)) (hd : ∀ i, (i = 2 * a + 1 ∨ i = 2 * a + 2) → i < xs.length → key (pg xs l) ≤ key (pg xs i)) :
    DownInv key (sw xs a l) l := by
  have ha : a < xs.length := by omega
  refine ⟨fun i i0 i1 i2 => ?_, fun i i0 i1 i2 i3 => ?_⟩
  · rw [sw_len] at i1
    rw [pg_sw xs a l _ ha hll, pg_sw xs a l _ ha hll]
    rw [if_neg i2]
    by_cases e1 : i = l
    · subst e1
      rw [if_pos (by omega), if_pos rfl]
      omega
    · rw [if_neg e1]
      by_cases e2 : (i - 1) / 2 = a
      · rw [if_pos e2, if_neg (by omega)]
        exact hd i (by omega) i1
      · rw [if_neg e2]
        by_cases e3 : i = a
        · subst e3
          rw [if_pos rfl]
          exact h.2 l (by omega) hll (by omega) i0
        · rw [if_neg e3]
          exact h.1 i i0 i1 e2
  · rw [sw_len] at i1
    rw [pg_sw xs a l _ ha hll, pg_sw xs a l _ ha hll]
    have e : (l - 1) / 2 = a := by omega
    rw [e, if_neg (by omega), if_pos rfl, if_neg (by omega), if_neg (by omega)]
    have := h.1 i i0 i1 (by omega)
    rw [i2] at this
    exact this

theorem heap_min (h : Heap key xs) : ∀ i, i < xs.length → key (pg xs 0) ≤ key (pg xs i) := by
  intro i
  induction i using Nat.strongRecOn with
  | _ i ih =>
    intro hi
    rcases Nat.eq_zero_or_pos i with h0 | h0
    · subst h0; exact Int.le_refl _
    · have h1 := ih ((i - 1) / 2) (by omega) (by omega)
      have h2 := h i h0 hi
      omega
theorem heap_min_mem (h : Heap key xs) (x : Rn) (hx : x ∈ xs) : key (pg xs 0) ≤ key x := by
  obtain ⟨i, hi, he⟩ := List.getElem_of_mem hx
  have := heap_min h i hi
  have e : pg xs i = x := by simp [pg, List.getElem?_eq_getElem hi, he]
  rw [e] at this
  exact this
theorem heap_nil : Heap key [] := fun i _ h => by simp at h

theorem last_perm {n : Nat} (hn : xs.length = n + 1) : (pg xs 0 :: (xs.set 0 (pg xs n)).take n).Perm xs := by
  match xs, hn with
  | x :: ys, hn =>
    simp at hn
    have h0 : pg (x :: ys) 0 = x := rfl
    rw [h0]
    refine List.Perm.cons x ?_
    rcases Nat.eq_zero_or_pos n with hz | hz
    · subst hz
      have : ys = [] := List.eq_nil_of_length_eq_zero hn
      subst this
      exact List.Perm.refl _
    · obtain ⟨m, rfl⟩ : ∃ m, n = m + 1 := ⟨n - 1, by omega⟩
      have hl : pg (x :: ys) (m + 1) = ys[m]'(by omega) := by
        simp [pg, List.getElem?_eq_getElem (show m < ys.length by omega)]
      rw [hl, List.set_cons_zero, List.take_succ_cons]
      have hys : ys = ys.take m ++ [ys[m]'(by omega)] := by
        have := List.take_append_getElem (l := ys) (i := m) (by omega)
        rw [this, List.take_of_length_le (by omega)]
      conv => rhs; rw [hys]
      exact (List.perm_append_comm (l₁ := ys.take m) (l₂ := [ys[m]'(by omega)])).symm
end

/-- What the two heaps of teams tell before run i, at a time. -/
structure Stand (xs : List Rn) (rest : Int) (ro : List Int) (i : Nat) (B I : List Rn) (T : Nat) (now : Int) : Prop where
  nd : ((B ++ I).map Rn.s).Nodup
  rng : ∀ t : Int, t ∈ (B ++ I).map Rn.s ↔ 0 ≤ t ∧ t < (T : Int)
  busy : ∀ b ∈ B, (∃ k, k < i ∧ ri ro k = b.s ∧ b.e = re xs k + rest) ∧ ∀ k, k < i → ri ro k = b.s → re xs k + rest ≤ b.e
  idle : ∀ d ∈ I, ∀ k, k < i → ri ro k = d.s → re xs k + rest ≤ now
  used : ∀ k, k < i → 0 ≤ ri ro k ∧ ri ro k < (T : Int)
  len : B.length + I.length = T
  few : T ≤ i

theorem Stand.start (xs : List Rn) (rest now : Int) : Stand xs rest [] 0 [] [] 0 now where
  nd := List.nodup_nil
  rng t := by simp; try omega
  busy b hb := by simp at hb
  idle b hb := by simp at hb
  used k hk := by omega
  len := rfl
  few := Nat.le_refl _

section
variable {xs : List Rn} {rest now : Int} {ro : List Int} {i T : Nat} {B I : List Rn}

theorem Stand.later (h : Stand xs rest ro i B I T now) {now' : Int} (hn : now ≤ now') : Stand xs rest ro i B I T now' :=
  { h with idle := fun d hd k hk he => Int.le_trans (h.idle d hd k hk he) hn }

theorem Stand.perm (h : Stand xs rest ro i B I T now) {B' I' : List Rn} (hB : B'.Perm B) (hI : I'.Perm I) : Stand xs rest ro i B' I' T now where
  nd := ((hB.append hI).map Rn.s).nodup_iff.mpr h.nd
  rng t := by rw [((hB.append hI).map Rn.s).mem_iff]; exact h.rng t
  busy b hb := h.busy b (hB.mem_iff.mp hb)
  idle b hb := h.idle b (hI.mem_iff.mp hb)
  used := h.used
  len := by rw [hB.length_eq, hI.length_eq]; exact h.len
  few := h.few

/-- A team whose rest is over goes from the busy ones to the idle ones. -/
theorem Stand.move {b : Rn} (h : Stand xs rest ro i (b :: B) I T now) (hb : b.e ≤ now) : Stand xs rest ro i B (b :: I) T now where
  nd := by
    have : (B ++ b :: I).Perm ((b :: B) ++ I) := List.perm_middle
    exact (this.map Rn.s).nodup_iff.mpr h.nd
  rng t := by
    have : (B ++ b :: I).Perm ((b :: B) ++ I) := List.perm_middle
    rw [(this.map Rn.s).mem_iff]; exact h.rng t
  busy x hx := h.busy x (by simp [hx])
  idle x hx k hk he := by
    rcases List.mem_cons.mp hx with rfl | hx
    · exact Int.le_trans ((h.busy x (by simp)).2 k hk he) hb
    · exact h.idle x hx k hk he
  used := h.used
  len := by have := h.len; simp at this ⊢; omega
  few := h.few

/-- A new team. -/
theorem Stand.fresh (h : Stand xs rest ro i B [] T now) (hT : T < i + 1) (f : Int) : ((B ++ [(⟨(T : Int), f⟩ : Rn)]).map Rn.s).Nodup ∧ (∀ t : Int, t ∈ (B ++ [(⟨(T : Int), f⟩ : Rn)]).map Rn.s ↔ 0 ≤ t ∧ t < ((T + 1 : Nat) : Int)) := by
  have hnd := h.nd
  have hr := h.rng
  rw [List.append_nil] at hnd hr
  constructor
  · rw [List.map_append]
    refine List.nodup_append.mpr ⟨hnd, by simp, ?_⟩
    intro a ha b hb
    simp at hb
    subst hb
    have := (hr a).mp ha
    omega
  · intro t
    rw [List.map_append, List.mem_append, hr t]
    simp
    omega

end

/-- What the two heaps tell when run i gets its team: as before, but a team more may be there. -/
structure Ready (xs : List Rn) (rest : Int) (ro : List Int) (i : Nat) (B I : List Rn) (T : Nat) (now : Int) : Prop where
  nd : ((B ++ I).map Rn.s).Nodup
  rng : ∀ t : Int, t ∈ (B ++ I).map Rn.s ↔ 0 ≤ t ∧ t < (T : Int)
  busy : ∀ b ∈ B, (∃ k, k < i ∧ ri ro k = b.s ∧ b.e = re xs k + rest) ∧ ∀ k, k < i → ri ro k = b.s → re xs k + rest ≤ b.e
  idle : ∀ d ∈ I, ∀ k, k < i → ri ro k = d.s → re xs k + rest ≤ now
  used : ∀ k, k < i → 0 ≤ ri ro k ∧ ri ro k < (T : Int)
  len : B.length + I.length = T
  few : T ≤ i + 1

section
variable {xs : List Rn} {rest now : Int} {ro : List Int} {i T : Nat} {B I : List Rn}

theorem Stand.ready (h : Stand xs rest ro i B I T now) : Ready xs rest ro i B I T now := ⟨h.nd, h.rng, h.busy, h.idle, h.used, h.len, Nat.le_succ_of_le h.few⟩
theorem Stand.readyNew (h : Stand xs rest ro i B [] T now) (f : Int) : Ready xs rest ro i B [⟨(T : Int), f⟩] (T + 1) now := by
  have hf := h.few
  obtain ⟨a, b⟩ := h.fresh (by omega) f
  refine ⟨a, b, h.busy, ?_, fun k hk => ?_, by have := h.len; simp at this ⊢; omega, by omega⟩
  · intro d hd k hk he
    simp at hd
    subst hd
    have := h.used k hk
    simp at he
    omega
  · have := h.used k hk
    omega

theorem ri_snoc_lt (ro : List Int) (v : Int) (k : Nat) (h : k < ro.length) : ri (ro ++ [v]) k = ri ro k := by
  simp only [ri, List.getD_eq_getElem?_getD]
  rw [List.getElem?_append_left h]
theorem ri_snoc_eq (ro : List Int) (v : Int) : ri (ro ++ [v]) ro.length = v := by
  simp [ri]

/-- The least idle team is the least team that can begin the run. -/
theorem Ready.least {d : Rn} (h : Ready xs rest ro i B (d :: I) T now) (hnow : now = rs xs i) (hB : ∀ b ∈ B, now < b.e) (hI : ∀ x ∈ I, d.s ≤ x.s) :
    0 ≤ d.s ∧ Can xs rest ro i d.s ∧ ∀ t, 0 ≤ t → t < d.s → ¬ Can xs rest ro i t := by
  have hd : d.s ∈ (B ++ d :: I).map Rn.s := by simp
  have hr := (h.rng d.s).mp hd
  refine ⟨hr.1, fun k hk he => by rw [← hnow]; exact h.idle d (by simp) k hk he, fun t t0 t1 hc => ?_⟩
  have ht : t ∈ (B ++ d :: I).map Rn.s := (h.rng t).mpr ⟨t0, by omega⟩
  rw [List.map_append, List.mem_append] at ht
  rcases ht with ht | ht
  · obtain ⟨b, hb, rfl⟩ := List.mem_map.mp ht
    obtain ⟨⟨k, hk, he, hf⟩, _⟩ := h.busy b hb
    have := hc k hk he
    have := hB b hb
    omega
  · simp only [List.map_cons, List.mem_cons] at ht
    rcases ht with ht | ht
    · omega
    · obtain ⟨x, hx, rfl⟩ := List.mem_map.mp ht
      have := hI x hx
      omega

theorem Ready.take {d : Rn} (h : Ready xs rest ro i B (d :: I) T now) (hl : ro.length = i) (hnow : now = rs xs i) (hlt : rs xs i < re xs i) (h0 : 0 ≤ rest) :
    Stand xs rest (ro ++ [d.s]) (i + 1) (⟨d.s, re xs i + rest⟩ :: B) I T now := by
  have hd : d.s ∈ (B ++ d :: I).map Rn.s := by simp
  have hr := (h.rng d.s).mp hd
  have hnd := h.nd
  have hmid : (B ++ d :: I).Perm (d :: (B ++ I)) := List.perm_middle
  have hnd2 : ((d :: (B ++ I)).map Rn.s).Nodup := (hmid.map Rn.s).nodup_iff.mp hnd
  have hrng2 : ∀ t : Int, t ∈ (d :: (B ++ I)).map Rn.s ↔ 0 ≤ t ∧ t < (T : Int) := fun t => by rw [← (hmid.map Rn.s).mem_iff]; exact h.rng t
  have hne : ∀ x ∈ B ++ I, x.s ≠ d.s := by
    intro x hx he
    simp only [List.map_cons, List.nodup_cons] at hnd2
    exact hnd2.1 (by rw [← he]; exact List.mem_map_of_mem hx)
  have hat : ∀ k, k < i + 1 → (k < i ∧ ri (ro ++ [d.s]) k = ri ro k) ∨ (k = i ∧ ri (ro ++ [d.s]) k = d.s) := by
    intro k hk
    rcases Nat.lt_or_ge k i with h1 | h1
    · exact .inl ⟨h1, ri_snoc_lt _ _ _ (by omega)⟩
    · have : k = i := by omega
      subst this
      refine .inr ⟨rfl, ?_⟩
      have := ri_snoc_eq ro d.s
      rw [hl] at this
      exact this
  refine ⟨hnd2, hrng2, ?_, ?_, ?_, by have := h.len; simp at this ⊢; omega, h.few⟩
  · intro b hb
    rcases List.mem_cons.mp hb with rfl | hb
    · refine ⟨⟨i, by omega, ?_, rfl⟩, ?_⟩
      · rcases hat i (by omega) with ⟨h1, _⟩ | ⟨_, h1⟩
        · omega
        · exact h1
      · intro k hk he
        rcases hat k hk with ⟨h1, h2⟩ | ⟨h1, h2⟩
        · rw [h2] at he
          have := h.idle d (by simp) k h1 he
          show re xs k + rest ≤ re xs i + rest
          omega
        · subst h1; exact Int.le_refl _
    · have hbs := hne b (by simp [hb])
      obtain ⟨⟨k, hk, he, hf⟩, hall⟩ := h.busy b hb
      refine ⟨⟨k, by omega, ?_, hf⟩, ?_⟩
      · rw [ri_snoc_lt _ _ _ (by omega)]; exact he
      · intro k hk he
        rcases hat k hk with ⟨h1, h2⟩ | ⟨h1, h2⟩
        · rw [h2] at he; exact hall k h1 he
        · rw [h2] at he; exact absurd he.symm hbs
  · intro x hx k hk he
    have hxs := hne x (by simp [hx])
    rcases hat k hk with ⟨h1, h2⟩ | ⟨h1, h2⟩
    · rw [h2] at he; exact h.idle x (by simp [hx]) k h1 he
    · rw [h2] at he; exact absurd he.symm hxs
  · intro k hk
    rcases hat k hk with ⟨h1, h2⟩ | ⟨h1, h2⟩
    · rw [h2]; exact h.used k h1
    · rw [h2]; exact hr
end

theorem Greedy.snoc {xs : List Rn} {rest : Int} {ro : List Int} {v : Int} (h : Greedy xs rest ro ro.length) (hv : 0 ≤ v ∧ Can xs rest ro ro.length v ∧ ∀ t, 0 ≤ t → t < v → ¬ Can xs rest ro ro.length t) : Greedy xs rest (ro ++ [v]) (ro.length + 1) := by
  have hc : ∀ (i : Nat) (t : Int), i ≤ ro.length → (Can xs rest (ro ++ [v]) i t ↔ Can xs rest ro i t) := by
    intro i t hi
    constructor
    · intro hc k hk he
      exact hc k hk (by rw [ri_snoc_lt _ _ _ (by omega)]; exact he)
    · intro hc k hk he
      exact hc k hk (by rw [ri_snoc_lt _ _ _ (by omega)] at he; exact he)
  intro i hi
  rcases Nat.lt_or_ge i ro.length with h1 | h1
  · rw [ri_snoc_lt _ _ _ h1]
    obtain ⟨a, b, c⟩ := h i h1
    exact ⟨a, (hc i _ (by omega)).mpr b, fun t t0 t1 hh => c t t0 t1 ((hc i _ (by omega)).mp hh)⟩
  · have : i = ro.length := by omega
    subst this
    rw [ri_snoc_eq]
    obtain ⟨a, b, c⟩ := hv
    exact ⟨a, (hc _ _ (Nat.le_refl _)).mpr b, fun t t0 t1 hh => c t t0 t1 ((hc _ _ (Nat.le_refl _)).mp hh)⟩
end Go.Proofs.Ytmnoidgfcpbmgaa
