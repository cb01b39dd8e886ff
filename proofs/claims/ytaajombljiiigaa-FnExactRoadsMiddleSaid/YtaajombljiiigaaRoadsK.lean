/-
  Plain facts on distances over roads: no program in sight.
-/
import Derived.Test.YtaajombljiiigaaRoadsMath
namespace Go.Proofs.Ytaajombljiiigaa

/-- A way from town f to town v over roads, with its miles. -/
inductive Wk (xs : List Rd3) (f : Nat) : Nat → Nat → Prop
  | start : Wk xs f f 0
  | step {u v : Nat} {L : Nat} {m : Int} : Wk xs f u L → lk xs u v xs.length = some m → Wk xs f v (L + m.toNat)

/-- The distances from town f, 100000 for no way. -/
structure Dist (n : Nat) (xs : List Rd3) (f : Nat) (D : Nat → Int) : Prop where
  zero : D f = 0
  low : ∀ v, v < n → 0 ≤ D v
  high : ∀ v, v < n → D v ≤ 100000
  small : ∀ v, v < n → D v < 100000 → D v ≤ 693
  edge : ∀ u v m, u < n → v < n → lk xs (u : Int) (v : Int) xs.length = some m → D v ≤ D u + m
  tight : ∀ v, v < n → v ≠ f → D v < 100000 → ∃ u m, u < n ∧ lk xs (u : Int) (v : Int) xs.length = some m ∧ D v = D u + m

theorem lk_valid {n : Nat} {xs : List Rd3} (hv : DValid (n : Int) xs) {u v : Int} {m : Int} {k : Nat} (hk : k ≤ xs.length) (h : lk xs u v k = some m) : 1 ≤ m ∧ m ≤ 99 ∧ 0 ≤ u ∧ u < n ∧ 0 ≤ v ∧ v < n ∧ u ≠ v := by
  obtain ⟨j, j1, j2, rfl⟩ := lk_some h
  obtain ⟨h1, h2, h3, h4, h5, -⟩ := hv.2.2.2 j (by omega)
  rcases j2 with ⟨e1, e2⟩ | ⟨e1, e2⟩ <;> refine ⟨h4, h5, ?_, ?_, ?_, ?_, ?_⟩ <;> omega

theorem wk_lt {n : Nat} {xs : List Rd3} (hv : DValid (n : Int) xs) {f v L : Nat} (hf : f < n) (h : Wk xs f v L) : v < n := by
  induction h with
  | start => exact hf
  | step _ he _ => have := lk_valid hv (Nat.le_refl _) he; omega

theorem nat_min {P : Nat → Prop} (h : ∃ t, P t) : ∃ t, P t ∧ ∀ s, P s → t ≤ s := by
  obtain ⟨t, ht⟩ := h
  induction t using Nat.strongRecOn with
  | ind t ih =>
    by_cases g : ∃ s, s < t ∧ P s
    · obtain ⟨s, h1, h2⟩ := g
      exact ih s h1 h2
    · exact ⟨t, ht, fun s hp => by
        rcases Nat.lt_or_ge s t with q | q
        · exact absurd ⟨s, q, hp⟩ g
        · exact q⟩

open Classical in
/-- The least miles of a way, none for no way. -/
noncomputable def dmin (xs : List Rd3) (f v : Nat) : Option Nat := if h : ∃ L, Wk xs f v L then some (Classical.choose (nat_min h)) else none
theorem dmin_some {xs : List Rd3} {f v L : Nat} (h : dmin xs f v = some L) : Wk xs f v L ∧ ∀ s, Wk xs f v s → L ≤ s := by
  unfold dmin at h
  split at h
  · rename_i hh
    injection h with h
    rw [← h]
    exact Classical.choose_spec (nat_min hh)
  · cases h
theorem dmin_of {xs : List Rd3} {f v L : Nat} (h : Wk xs f v L) : ∃ M, dmin xs f v = some M ∧ M ≤ L := by
  unfold dmin
  rw [dif_pos ⟨L, h⟩]
  exact ⟨_, rfl, (Classical.choose_spec (nat_min ⟨L, h⟩)).2 L h⟩
theorem dmin_start (xs : List Rd3) (f : Nat) : dmin xs f f = some 0 := by
  obtain ⟨M, h1, h2⟩ := dmin_of (Wk.start (xs := xs) (f := f))
  rw [h1, Nat.le_zero.1 h2]
theorem dmin_edge {n : Nat} {xs : List Rd3} (hv : DValid (n : Int) xs) {f u v L : Nat} {m : Int} (h : dmin xs f u = some L) (he : lk xs (u : Int) (v : Int) xs.length = some m) : ∃ M, dmin xs f v = some M ∧ (M : Int) ≤ L + m := by
  have hm := lk_valid hv (Nat.le_refl _) he
  obtain ⟨M, h1, h2⟩ := dmin_of ((dmin_some h).1.step he)
  exact ⟨M, h1, by omega⟩
theorem dmin_tight {n : Nat} {xs : List Rd3} (hv : DValid (n : Int) xs) {f v L : Nat} (hf : f < n) (h : dmin xs f v = some L) (hne : v ≠ f) : ∃ u M m, u < n ∧ lk xs (u : Int) (v : Int) xs.length = some m ∧ dmin xs f u = some M ∧ (L : Int) = M + m := by
  obtain ⟨h1, h2⟩ := dmin_some h
  cases h1 with
  | start => exact absurd rfl hne
  | @step u _ K m hw he =>
    have hm := lk_valid hv (Nat.le_refl _) he
    obtain ⟨M, g1, g2⟩ := dmin_of hw
    have g3 := h2 _ ((dmin_some g1).1.step he)
    exact ⟨u, M, m, wk_lt hv hf hw, he, g1, by omega⟩

/-- How many of the first k towns are nearer than L. -/
def nearer (d : Nat → Option Nat) (L : Nat) : Nat → Nat
  | 0 => 0
  | k + 1 => nearer d L k + (match d k with | some M => if M < L then 1 else 0 | none => 0)
theorem nearer_le (d : Nat → Option Nat) (L : Nat) : ∀ k, nearer d L k ≤ k := by
  intro k
  induction k with
  | zero => exact Nat.le_refl _
  | succ k ih => simp only [nearer]; split <;> (try split) <;> omega
theorem nearer_mono (d : Nat → Option Nat) {L M : Nat} (h : L ≤ M) : ∀ k, nearer d L k ≤ nearer d M k := by
  intro k
  induction k with
  | zero => exact Nat.le_refl _
  | succ k ih =>
    simp only [nearer]
    split
    · split <;> split <;> omega
    · omega
theorem nearer_lt (d : Nat → Option Nat) {L M u : Nat} (h : L < M) (hu : d u = some L) : ∀ k, u < k → nearer d L k < nearer d M k := by
  intro k
  induction k with
  | zero => intro h; omega
  | succ k ih =>
    intro hk
    simp only [nearer]
    by_cases e : u = k
    · subst e
      rw [hu]
      have := nearer_mono d (Nat.le_of_lt h) u
      simp only [Nat.lt_irrefl, if_false]
      rw [if_pos h]
      omega
    · have := ih (by omega)
      split
      · split <;> split <;> omega
      · omega
theorem nearer_self (d : Nat → Option Nat) {L v : Nat} (hv : d v = some L) : ∀ k, v < k → nearer d L k + 1 ≤ k := by
  intro k
  induction k with
  | zero => intro h; omega
  | succ k ih =>
    intro hk
    simp only [nearer]
    by_cases e : v = k
    · subst e
      rw [hv]
      have := nearer_le d L v
      simp only [Nat.lt_irrefl, if_false]
      omega
    · have := ih (by omega)
      split
      · split <;> omega
      · omega
theorem dmin_rank {n : Nat} {xs : List Rd3} (hv : DValid (n : Int) xs) {f : Nat} (hf : f < n) : ∀ L v, dmin xs f v = some L → L ≤ 99 * nearer (dmin xs f) L n := by
  intro L
  induction L using Nat.strongRecOn with
  | ind L ih =>
    intro v h
    by_cases e : v = f
    · subst e
      rw [dmin_start] at h
      injection h with h
      omega
    · obtain ⟨u, M, m, h1, h2, h3, h4⟩ := dmin_tight hv hf h e
      have hm := lk_valid hv (Nat.le_refl _) h2
      have g1 := ih M (by omega) u h3
      have g2 := nearer_lt (dmin xs f) (show M < L by omega) h3 n h1
      omega
theorem dmin_small {n : Nat} {xs : List Rd3} (hv : DValid (n : Int) xs) {f v L : Nat} (hf : f < n) (hvn : v < n) (h : dmin xs f v = some L) : L ≤ 693 := by
  have h1 := dmin_rank hv hf L v h
  have h2 := nearer_self (dmin xs f) h n hvn
  have := hv.2.1
  omega

/-- The distance from f to v, 100000 for no way. -/
noncomputable def dst (xs : List Rd3) (f v : Nat) : Int := match dmin xs f v with | some L => (L : Int) | none => 100000
theorem dst_dist {n : Nat} {xs : List Rd3} (hv : DValid (n : Int) xs) {f : Nat} (hf : f < n) : Dist n xs f (dst xs f) := by
  refine ⟨?_, fun v hvn => ?_, fun v hvn => ?_, fun v hvn h => ?_, fun u v m hu hvn he => ?_, fun v hvn hne h => ?_⟩
  · unfold dst; rw [dmin_start]; rfl
  · unfold dst; split <;> omega
  · unfold dst
    split
    · rename_i L h; have := dmin_small hv hf hvn h; omega
    · omega
  · unfold dst at h ⊢
    split at h
    · rename_i L hL; have := dmin_small hv hf hvn hL; omega
    · omega
  · have hm := lk_valid hv (Nat.le_refl _) he
    unfold dst
    cases e : dmin xs f u with
    | some L =>
      obtain ⟨M, h1, h2⟩ := dmin_edge hv e he
      rw [h1]; exact h2
    | none =>
      simp only
      split
      · rename_i M hM; have := dmin_small hv hf hvn hM; omega
      · omega
  · unfold dst at h ⊢
    split at h
    · rename_i L hL
      obtain ⟨u, M, m, h1, h2, h3, h4⟩ := dmin_tight hv hf hL hne
      exact ⟨u, m, h1, h2, by rw [h3]; exact h4⟩
    · omega

/-- How many of the first k towns have a smaller number than L. -/
def rkn (D : Nat → Int) (L : Int) : Nat → Nat
  | 0 => 0
  | k + 1 => rkn D L k + if D k < L then 1 else 0
theorem rkn_le (D : Nat → Int) (L : Int) : ∀ k, rkn D L k ≤ k := by
  intro k
  induction k with
  | zero => exact Nat.le_refl _
  | succ k ih => simp only [rkn]; split <;> omega
theorem rkn_mono (D : Nat → Int) {L M : Int} (h : L ≤ M) : ∀ k, rkn D L k ≤ rkn D M k := by
  intro k
  induction k with
  | zero => exact Nat.le_refl _
  | succ k ih => simp only [rkn]; split <;> split <;> omega
theorem rkn_lt (D : Nat → Int) {M : Int} {u : Nat} (h : D u < M) : ∀ k, u < k → rkn D (D u) k < rkn D M k := by
  intro k
  induction k with
  | zero => intro h; omega
  | succ k ih =>
    intro hk
    simp only [rkn]
    by_cases e : u = k
    · subst e
      have := rkn_mono D (Int.le_of_lt h) u
      rw [if_neg (Int.lt_irrefl _), if_pos h]
      omega
    · have := ih (by omega)
      split <;> split <;> omega

/-- One road laid into the distances. -/
def rlx (O : Nat → Int) (a b : Nat) (m : Int) : Nat → Int := fun v => if v = b then min (O b) (min (O a) (O b + m) + m) else if v = a then min (O a) (O b + m) else O v
/-- What holds behind r rounds and k roads. -/
structure BF (n : Nat) (xs : List Rd3) (f : Nat) (D O : Nat → Int) (r k : Nat) : Prop where
  low : ∀ v, v < n → D v ≤ O v
  high : ∀ v, v < n → O v ≤ 100000
  done : ∀ v, v < n → D v < 100000 → rkn D (D v) n ≤ r → O v = D v
  soon : ∀ v, v < n → D v < 100000 → rkn D (D v) n ≤ r + 1 → ∀ u j, u < n → j < k → joins xs (u : Int) (v : Int) j → D v = D u + rm xs j → O v = D v

theorem bf_start {n : Nat} {xs : List Rd3} {f : Nat} {D O : Nat → Int} (hv : DValid (n : Int) xs) (h : Dist n xs f D) (hO : ∀ v, v < n → O v = if v = f then 0 else 100000) (hf : f < n) : BF n xs f D O 0 0 := by
  refine ⟨fun v hvn => ?_, fun v hvn => ?_, fun v hvn hs hr => ?_, fun v hvn hs hr u j hu hj => by omega⟩
  · rw [hO v hvn]
    split
    · rename_i e; rw [e, h.zero]; exact Int.le_refl _
    · exact h.high v hvn
  · rw [hO v hvn]; split <;> omega
  · by_cases e : v = f
    · rw [hO v hvn, if_pos e, e, h.zero]
    · obtain ⟨u, m, hu, he, hd⟩ := h.tight v hvn e hs
      have hm := lk_valid hv (Nat.le_refl _) he
      have := rkn_lt D (show D u < D v by omega) n hu
      omega
theorem lk_joins {n : Nat} {xs : List Rd3} (hv : DValid (n : Int) xs) {u v : Int} {j : Nat} (hj : j < xs.length) (h : joins xs u v j) : lk xs u v xs.length = some (rm xs j) := by
  cases e : lk xs u v xs.length with
  | none => exact absurd h (lk_none.1 e j hj)
  | some m =>
    obtain ⟨i, i1, i2, i3⟩ := lk_some e
    have key : ∀ p q, p < q → q < xs.length → joins xs u v p → joins xs u v q → False := by
      intro p q hpq hq h1 h2
      have o1 := hv.2.2.2 p (by omega)
      have o2 := hv.2.2.2 q hq
      have a1 := o1.2.1
      have a2 := o2.2.1
      refine o2.2.2.2.2.2 p hpq ?_
      rcases h1 with ⟨b1, b2⟩ | ⟨b1, b2⟩ <;> rcases h2 with ⟨c1, c2⟩ | ⟨c1, c2⟩ <;> constructor <;> omega
    rcases Nat.lt_trichotomy i j with g | g | g
    · exact (key i j g hj i2 h).elim
    · rw [i3, g]
    · exact (key j i g i1 h i2).elim
theorem bf_road {n : Nat} {xs : List Rd3} {f : Nat} {D O : Nat → Int} {r k a b : Nat} (hv : DValid (n : Int) xs) (h : Dist n xs f D) (g : BF n xs f D O r k) (hk : k < xs.length) (ha : ra xs k = (a : Int)) (hb : rb xs k = (b : Int)) :
    BF n xs f D (rlx O a b (rm xs k)) r (k + 1) := by
  obtain ⟨v1, v2, v3, v4, v5, -⟩ := hv.2.2.2 k hk
  have an : a < n := by omega
  have bn : b < n := by omega
  have hab : a ≠ b := by omega
  have e1 := lk_joins hv hk (show joins xs (a : Int) (b : Int) k from .inl ⟨ha, hb⟩)
  have e2 := lk_joins hv hk (show joins xs (b : Int) (a : Int) k from .inr ⟨ha, hb⟩)
  have f1 := h.edge a b _ an bn e1
  have f2 := h.edge b a _ bn an e2
  have la := g.low a an
  have lb := g.low b bn
  have low : ∀ v, v < n → D v ≤ rlx O a b (rm xs k) v := by
    intro v hvn
    have := g.low v hvn
    unfold rlx
    split
    · rename_i e; subst e; omega
    · split
      · rename_i e; subst e; omega
      · exact this
  have dec : ∀ v, rlx O a b (rm xs k) v ≤ O v := by
    intro v
    unfold rlx
    split
    · rename_i e; subst e; omega
    · split
      · rename_i e; subst e; omega
      · exact Int.le_refl _
  have keep : ∀ v, v < n → O v = D v → rlx O a b (rm xs k) v = D v := by
    intro v hvn e
    have p1 := low v hvn
    have p2 := dec v
    omega
  refine ⟨low, fun v hvn => Int.le_trans (dec v) (g.high v hvn), fun v hvn hs hr => keep v hvn (g.done v hvn hs hr), fun v hvn hs hr u j hu hj hjn hd => ?_⟩
  rcases Nat.lt_or_ge j k with q | q
  · exact keep v hvn (g.soon v hvn hs hr u j hu q hjn hd)
  · obtain rfl : j = k := by omega
    have hrk := rkn_lt D (show D u < D v by omega) n hu
    have hus : D u < 100000 := by omega
    have eu := g.done u hu hus (by omega)
    have p1 := low v hvn
    rcases hjn with ⟨q1, q2⟩ | ⟨q1, q2⟩
    · obtain rfl : u = a := by omega
      obtain rfl : v = b := by omega
      have : rlx O u v (rm xs j) v ≤ D v := by unfold rlx; rw [if_pos rfl]; omega
      omega
    · obtain rfl : v = a := by omega
      obtain rfl : u = b := by omega
      have : rlx O v u (rm xs j) v ≤ D v := by unfold rlx; rw [if_neg hab, if_pos rfl]; omega
      omega
theorem bf_round {n : Nat} {xs : List Rd3} {f : Nat} {D O : Nat → Int} {r : Nat} (hv : DValid (n : Int) xs) (h : Dist n xs f D) (g : BF n xs f D O r xs.length) (hf : f < n) : BF n xs f D O (r + 1) 0 := by
  refine ⟨g.low, g.high, fun v hvn hs hr => ?_, fun v hvn hs hr u j hu hj => by omega⟩
  by_cases e : v = f
  · refine g.done v hvn hs ?_
    have z : ∀ k, k ≤ n → rkn D 0 k = 0 := by
      intro k
      induction k with
      | zero => intro _; rfl
      | succ k ih =>
        intro hk
        have := h.low k (by omega)
        simp only [rkn]
        rw [ih (by omega), if_neg (by omega)]
    rw [e, h.zero, z n (Nat.le_refl _)]
    omega
  · obtain ⟨u, m, hu, he, hd⟩ := h.tight v hvn e hs
    obtain ⟨j, j1, j2, rfl⟩ := lk_some he
    exact g.soon v hvn hs hr u j hu j1 j2 hd
theorem bf_end {n : Nat} {xs : List Rd3} {f : Nat} {D O : Nat → Int} (h : Dist n xs f D) (g : BF n xs f D O n 0) : ∀ v, v < n → O v = D v := by
  intro v hvn
  by_cases e : D v < 100000
  · exact g.done v hvn e (rkn_le D _ n)
  · have h1 := h.high v hvn
    have h2 := g.low v hvn
    have h3 := g.high v hvn
    omega

/-- The greatest distance of the first k towns. -/
def mxTo (D : Nat → Int) : Nat → Int
  | 0 => 0
  | k + 1 => max (mxTo D k) (D k)
/-- The middle among the first k towns and its greatest distance. -/
def mid (M : Nat → Int) : Nat → Nat
  | 0 => 0
  | k + 1 => if M k < M (mid M k) then k else mid M k
end Go.Proofs.Ytaajombljiiigaa
