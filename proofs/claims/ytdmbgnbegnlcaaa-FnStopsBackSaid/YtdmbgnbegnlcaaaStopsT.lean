import Derived.Test.YtdmbgnbegnlcaaaStopsS
namespace Go.Proofs.Ytdmbgnbegnlcaaa
open Go.RowKit

/-- Stop i of one coach and stop k of another: both are there from T on. -/
def Com (a b : List St) (i k : Nat) (T : Int) : Prop := i < a.length ∧ k < b.length ∧ tw a i = tw b k ∧ max (ar a i) (ar b k) = T ∧ T ≤ lv a i ∧ T ≤ lv b k
/-- v is the earliest meeting, or -1. -/
def Mt (a b : List St) (v : Int) : Prop := (v = -1 ∧ ∀ i k T, ¬ Com a b i k T) ∨ (0 ≤ v ∧ (∃ i k, Com a b i k v) ∧ ∀ i k T, Com a b i k T → v ≤ T)

theorem mF_step {n : Int} {a b : List St} (ha : Valid n a) (hb : Valid n b) : ∀ m, m ≤ a.length → (mF a b m = -1 ∧ ∀ i k T, i < m → ¬ Com a b i k T) ∨ (0 ≤ mF a b m ∧ (∃ i k, Com a b i k (mF a b m)) ∧ ∀ i k T, i < m → Com a b i k T → mF a b m ≤ T) := by
  intro m
  induction m with
  | zero => intro _; exact .inl ⟨rfl, fun i k T h => by omega⟩
  | succ m ih =>
    intro hm
    have h1 := ih (by omega)
    have ta := ha.times (i := m) (by omega)
    rcases atV_cases b (tw a m) with ⟨k, hk, hat, hkt, -⟩ | ⟨hat, hno⟩
    · have e : mF a b (m + 1) = updK a b (mF a b m) m k := by
        show updM a b (mF a b m) m = _
        unfold updM; rw [hat, if_neg (by omega), Int.toNat_natCast]
      have uniq : ∀ k' T, Com a b m k' T → k' = k := fun k' T g => town_inj hb g.2.1 hk (by rw [hkt, ← g.2.2.1])
      obtain ⟨T, hT⟩ : ∃ T, max (ar a m) (ar b k) = T := ⟨_, rfl⟩
      rw [e, updK_T hT]
      have tb := hb.times hk
      by_cases c1 : T ≤ lv a m ∧ T ≤ lv b k
      · have hc : Com a b m k T := ⟨by omega, hk, hkt.symm, hT, c1.1, c1.2⟩
        rcases h1 with ⟨g1, g2⟩ | ⟨g0, ⟨i, k1, g1⟩, g2⟩
        · rw [if_pos ⟨c1.1, c1.2, .inl (by omega)⟩]
          refine .inr ⟨by omega, ⟨m, k, hc⟩, fun i' k' T' hi' hc' => ?_⟩
          rcases Nat.lt_or_ge i' m with q | q
          · exact absurd hc' (g2 _ _ _ q)
          · obtain rfl : i' = m := by omega
            have ek := uniq k' T' hc'
            rw [ek] at hc'
            have := hc'.2.2.2.1
            omega
        · by_cases c2 : T < mF a b m
          · rw [if_pos ⟨c1.1, c1.2, .inr c2⟩]
            refine .inr ⟨by omega, ⟨m, k, hc⟩, fun i' k' T' hi' hc' => ?_⟩
            rcases Nat.lt_or_ge i' m with q | q
            · have := g2 _ _ _ q hc'; omega
            · obtain rfl : i' = m := by omega
              have ek := uniq k' T' hc'
              rw [ek] at hc'
              have := hc'.2.2.2.1
              omega
          · rw [if_neg (by omega)]
            refine .inr ⟨g0, ⟨i, k1, g1⟩, fun i' k' T' hi' hc' => ?_⟩
            rcases Nat.lt_or_ge i' m with q | q
            · exact g2 _ _ _ q hc'
            · obtain rfl : i' = m := by omega
              have ek := uniq k' T' hc'
              rw [ek] at hc'
              have := hc'.2.2.2.1
              omega
      · rw [if_neg (fun g => c1 ⟨g.1, g.2.1⟩)]
        have hn : ∀ k' T', ¬ Com a b m k' T' := by
          intro k' T' hc'
          have ek := uniq k' T' hc'
          rw [ek] at hc'
          have e1 := hc'.2.2.2.1
          have e2 := hc'.2.2.2.2.1
          have e3 := hc'.2.2.2.2.2
          exact c1 ⟨by omega, by omega⟩
        rcases h1 with ⟨g1, g2⟩ | ⟨g0, g1, g2⟩
        · refine .inl ⟨g1, fun i' k' T' hi' => ?_⟩
          rcases Nat.lt_or_ge i' m with q | q
          · exact g2 _ _ _ q
          · obtain rfl : i' = m := by omega
            exact hn _ _
        · refine .inr ⟨g0, g1, fun i' k' T' hi' hc' => ?_⟩
          rcases Nat.lt_or_ge i' m with q | q
          · exact g2 _ _ _ q hc'
          · obtain rfl : i' = m := by omega
            exact absurd hc' (hn _ _)
    · have e : mF a b (m + 1) = mF a b m := by
        show updM a b (mF a b m) m = _
        unfold updM; rw [hat, if_pos (by omega)]
      have hn : ∀ k' T', ¬ Com a b m k' T' := fun k' T' hc' => hno k' hc'.2.1 hc'.2.2.1.symm
      rw [e]
      rcases h1 with ⟨g1, g2⟩ | ⟨g0, g1, g2⟩
      · refine .inl ⟨g1, fun i' k' T' hi' => ?_⟩
        rcases Nat.lt_or_ge i' m with q | q
        · exact g2 _ _ _ q
        · obtain rfl : i' = m := by omega
          exact hn _ _
      · refine .inr ⟨g0, g1, fun i' k' T' hi' hc' => ?_⟩
        rcases Nat.lt_or_ge i' m with q | q
        · exact g2 _ _ _ q hc'
        · obtain rfl : i' = m := by omega
          exact absurd hc' (hn _ _)

theorem mF_spec {n : Int} {a b : List St} (ha : Valid n a) (hb : Valid n b) : Mt a b (mF a b a.length) := by
  rcases mF_step ha hb a.length (Nat.le_refl _) with ⟨h1, h2⟩ | ⟨h0, h1, h2⟩
  · exact .inl ⟨h1, fun i k T g => h2 i k T g.1 g⟩
  · exact .inr ⟨h0, h1, fun i k T g => h2 i k T g.1 g⟩
theorem Mt.uniq {a b : List St} {u v : Int} (h : Mt a b u) (g : Mt a b v) : u = v := by
  rcases h with ⟨h1, h2⟩ | ⟨_, ⟨i, k, h1⟩, h2⟩ <;> rcases g with ⟨g1, g2⟩ | ⟨_, ⟨i', k', g1⟩, g2⟩
  · omega
  · exact absurd g1 (h2 _ _ _)
  · exact absurd h1 (g2 _ _ _)
  · have := h2 _ _ _ g1; have := g2 _ _ _ h1; omega
theorem Com.sym {a b : List St} {i k : Nat} {T : Int} (h : Com a b i k T) : Com b a k i T := ⟨h.2.1, h.1, h.2.2.1.symm, by have := h.2.2.2.1; omega, h.2.2.2.2.2, h.2.2.2.2.1⟩
theorem Mt.sym {a b : List St} {v : Int} (h : Mt a b v) : Mt b a v := by
  rcases h with ⟨h1, h2⟩ | ⟨h0, ⟨i, k, h1⟩, h2⟩
  · exact .inl ⟨h1, fun i k T g => h2 _ _ _ g.sym⟩
  · exact .inr ⟨h0, ⟨k, i, h1.sym⟩, fun i k T g => h2 _ _ _ g.sym⟩
theorem shAt (xs : List St) (k : Int) (j : Nat) (hj : j < xs.length) : tw (xs.map (sh k)) j = tw xs j ∧ ar (xs.map (sh k)) j = ar xs j + k ∧ lv (xs.map (sh k)) j = lv xs j + k := by
  have e : (xs.map (sh k)).getD j stz = sh k (xs.getD j stz) := by simp [List.getElem?_eq_getElem hj]
  unfold tw ar lv
  rw [e]
  exact ⟨rfl, rfl, rfl⟩
theorem Com.shift {a b : List St} {q : Int} {i k : Nat} {T : Int} (h : Com a b i k T) : Com (a.map (sh q)) (b.map (sh q)) i k (T + q) := by
  obtain ⟨h1, h2, h3, h4, h5, h6⟩ := h
  obtain ⟨a1, a2, a3⟩ := shAt a q i h1
  obtain ⟨b1, b2, b3⟩ := shAt b q k h2
  refine ⟨by simpa using h1, by simpa using h2, by rw [a1, b1]; exact h3, ?_, ?_, ?_⟩
  · rw [a2, b2]; omega
  · rw [a3]; omega
  · rw [b3]; omega
theorem Com.shiftBack {a b : List St} {q : Int} {i k : Nat} {T : Int} (h : Com (a.map (sh q)) (b.map (sh q)) i k T) : Com a b i k (T - q) := by
  obtain ⟨h1, h2, h3, h4, h5, h6⟩ := h
  have h1' : i < a.length := by simpa using h1
  have h2' : k < b.length := by simpa using h2
  obtain ⟨a1, a2, a3⟩ := shAt a q i h1'
  obtain ⟨b1, b2, b3⟩ := shAt b q k h2'
  rw [a1, b1] at h3
  rw [a2, b2] at h4
  rw [a3] at h5
  rw [b3] at h6
  exact ⟨h1', h2', h3, by omega, by omega, by omega⟩
theorem Mt.shift {a b : List St} {v q : Int} (hq : 0 ≤ q) (h0 : 0 ≤ v) (h : Mt a b v) : Mt (a.map (sh q)) (b.map (sh q)) (v + q) := by
  rcases h with ⟨h1, h2⟩ | ⟨_, ⟨i, k, h1⟩, h2⟩
  · omega
  · exact .inr ⟨by omega, ⟨i, k, h1.shift⟩, fun i k T g => by have := h2 _ _ _ g.shiftBack; omega⟩
/-- Where a coach is when it is at a stop. -/
theorem wh_at {n : Int} {xs : List St} (h : Valid n xs) {i : Nat} (hi : i < xs.length) {T : Int} (h1 : ar xs i ≤ T) (h2 : T ≤ lv xs i) : whTo xs T xs.length = i ∧ ar xs 0 ≤ T ∧ T ≤ lv xs (xs.length - 1) := by
  refine ⟨whTo_eq h1 _ hi (fun j g1 g2 => ?_), ?_, ?_⟩
  · have := ok_up h.2.2.2.2 i j g1 g2; omega
  · rcases Nat.eq_zero_or_pos i with rfl | g
    · exact h1
    · have := ar_up h g hi; omega
  · rcases Nat.lt_or_ge i (xs.length - 1) with g | g
    · have := ok_up h.2.2.2.2 i (xs.length - 1) g (by omega); have := h.times (i := xs.length - 1) (by omega); omega
    · obtain rfl : i = xs.length - 1 := by omega
      exact h2

theorem bkAt (xs : List St) (k : Int) (j : Nat) (hj : j < xs.length) : tw (xs.reverse.map (bk k)) j = tw xs (xs.length - 1 - j) ∧ ar (xs.reverse.map (bk k)) j = k - lv xs (xs.length - 1 - j) ∧ lv (xs.reverse.map (bk k)) j = k - ar xs (xs.length - 1 - j) := by
  have h2 : xs.length - 1 - j < xs.length := by omega
  have e : (xs.reverse.map (bk k)).getD j stz = bk k (xs.getD (xs.length - 1 - j) stz) := by
    rw [List.getD_eq_getElem?_getD, List.getD_eq_getElem?_getD, List.getElem?_map, List.getElem?_reverse hj, List.getElem?_eq_getElem h2]
    rfl
  unfold tw ar lv
  rw [e]
  exact ⟨rfl, rfl, rfl⟩
theorem bk_bk (xs : List St) (k : Int) : ((xs.reverse.map (bk k)).reverse).map (bk k) = xs := by
  rw [← List.map_reverse, List.reverse_reverse, List.map_map]
  conv => rhs; rw [← List.map_id xs]
  apply List.map_congr_left
  intro s _
  simp only [Function.comp, bk, id]
  obtain ⟨a, b, c⟩ := s
  simp only [St.mk.injEq, true_and]
  exact ⟨by omega, by omega⟩
theorem back_run (xs : List St) (k : Int) (h : 2 ≤ xs.length) : ar (xs.reverse.map (bk k)) ((xs.reverse.map (bk k)).length - 1) - lv (xs.reverse.map (bk k)) 0 = ar xs (xs.length - 1) - lv xs 0 := by
  have e : (xs.reverse.map (bk k)).length = xs.length := by simp
  rw [e, (bkAt xs k (xs.length - 1) (by omega)).2.1, (bkAt xs k 0 (by omega)).2.2]
  have : xs.length - 1 - (xs.length - 1) = 0 := by omega
  rw [this, Nat.sub_zero]
  omega
theorem back_wait (xs : List St) (k : Int) (h : 2 ≤ xs.length) : waitTo (xs.reverse.map (bk k)) ((xs.reverse.map (bk k)).length - 2) = waitTo xs (xs.length - 2) := by
  have e : (xs.reverse.map (bk k)).length = xs.length := by simp
  rw [e]
  have key : ∀ m, m ≤ xs.length - 2 → waitTo (xs.reverse.map (bk k)) m + waitTo xs (xs.length - 2 - m) = waitTo xs (xs.length - 2) := by
    intro m
    induction m with
    | zero => intro _; simp [waitTo]
    | succ m ih =>
      intro hm
      have h1 := ih (by omega)
      obtain ⟨q, hq⟩ : ∃ q, xs.length - 2 - m = q + 1 := ⟨xs.length - 2 - (m + 1), by omega⟩
      have hq' : xs.length - 2 - (m + 1) = q := by omega
      rw [hq] at h1
      rw [hq']
      obtain ⟨_, b2, b3⟩ := bkAt xs k (m + 1) (by omega)
      have hx : xs.length - 1 - (m + 1) = q + 1 := by omega
      rw [hx] at b2 b3
      simp only [waitTo] at h1 ⊢
      rw [b2, b3]
      omega
  have := key (xs.length - 2) (Nat.le_refl _)
  rw [Nat.sub_self] at this
  simpa [waitTo] using this

/-- A coach that goes back meets itself where half the turn lies in a stop. -/
def halfAt (xs : List St) (k : Int) (i : Nat) : Bool := decide (2 * ar xs i ≤ k) && decide (k ≤ 2 * lv xs i)
def halfTo (xs : List St) (k : Int) : Nat → Bool
  | 0 => false
  | i + 1 => halfTo xs k i || halfAt xs k i
theorem half_com (xs : List St) (k : Int) (hx : ∀ i, i < xs.length → ar xs i ≤ lv xs i) : ∀ m, m ≤ xs.length → halfTo xs k m = true → ∃ i j T, Com xs (xs.reverse.map (bk k)) i j T := by
  intro m
  induction m with
  | zero => intro _ h; simp [halfTo] at h
  | succ m ih =>
    intro hm h
    simp only [halfTo, Bool.or_eq_true] at h
    rcases h with h | h
    · exact ih (by omega) h
    · simp only [halfAt, Bool.and_eq_true, decide_eq_true_eq] at h
      have e : (xs.reverse.map (bk k)).length = xs.length := by simp
      obtain ⟨b1, b2, b3⟩ := bkAt xs k (xs.length - 1 - m) (by omega)
      have hx' : xs.length - 1 - (xs.length - 1 - m) = m := by omega
      rw [hx'] at b1 b2 b3
      have := hx m (by omega)
      exact ⟨m, xs.length - 1 - m, _, by omega, by omega, b1.symm, rfl, by omega, by omega⟩
theorem Mt.met {a b : List St} {v : Int} (h : Mt a b v) {i k : Nat} {T : Int} (hc : Com a b i k T) : ¬ v < 0 := by
  rcases h with ⟨_, h2⟩ | ⟨h0, _⟩
  · exact absurd hc (h2 _ _ _)
  · omega
theorem back_at_town {n : Int} {xs : List St} {k t : Int} (hv : Valid n xs) {i : Nat} (hi : i < xs.length) (ht : tw xs i = t) (hy : Valid n (xs.reverse.map (bk k))) : atV (xs.reverse.map (bk k)) t = (xs.length : Int) - 1 - i := by
  have e : (xs.reverse.map (bk k)).length = xs.length := by simp
  have hq := (bkAt xs k (xs.length - 1 - i) (by omega)).1
  have hx' : xs.length - 1 - (xs.length - 1 - i) = i := by omega
  rw [hx'] at hq
  have := atV_eq (xs := xs.reverse.map (bk k)) (t := t) (i := xs.length - 1 - i) (by omega) (hq.trans ht) (fun j hj he => by
    have := town_inj hy (i := j) (j := xs.length - 1 - i) (by omega) (by omega) (by rw [he, hq, ht])
    omega)
  rw [this]
  omega
end Go.Proofs.Ytdmbgnbegnlcaaa
