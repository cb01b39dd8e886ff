/-
  The search by a heap: plain facts, no program in sight.
-/
import Derived.Test.YtaajombljiiigaaRoadsK
import Derived.Test.YtaajombljiiigaaHeapW
namespace Go.Proofs.Ytaajombljiiigaa

/-- Town v is settled too. -/
def upS (S : Nat → Bool) (v : Nat) : Nat → Bool := fun t => if t = v then true else S t
/-- How many of the first k towns are settled. -/
def nS (S : Nat → Bool) : Nat → Nat
  | 0 => 0
  | k + 1 => nS S k + if S k then 1 else 0
theorem nS_le (S : Nat → Bool) : ∀ k, nS S k ≤ k := by
  intro k
  induction k with
  | zero => exact Nat.le_refl _
  | succ k ih => simp only [nS]; split <;> omega
theorem nS_up {S : Nat → Bool} {v : Nat} (h : S v = false) : ∀ k, nS (upS S v) k = nS S k + if v < k then 1 else 0 := by
  intro k
  induction k with
  | zero => simp [nS]
  | succ k ih =>
    simp only [nS]
    rw [ih]
    by_cases e : k = v
    · subst e
      simp [upS, h]
    · have e2 : upS S v k = S k := by simp [upS, e]
      rw [e2]
      by_cases hk : v < k
      · rw [if_pos hk, if_pos (show v < k + 1 by omega)]; omega
      · rw [if_neg hk, if_neg (show ¬ v < k + 1 by omega)]; omega
theorem nS_none : ∀ k, nS (fun _ => false) k = 0 := by
  intro k
  induction k with
  | zero => rfl
  | succ k ih => simp only [nS]; rw [ih]; rfl

/-- What holds between the rounds; Pd: roads that are not looked at yet. -/
structure DInv (n : Nat) (xs : List Rd3) (f : Nat) (D : Nat → Int) (S : Nat → Bool) (hs : List Rn) (Pd : Nat → Nat → Prop) : Prop where
  sd : ∀ v, S v = true → v < n ∧ D v < 100000
  hp : ∀ x ∈ hs, ∃ v : Nat, v < n ∧ x.s = (v : Int) ∧ D v ≤ x.e ∧ x.e ≤ 800
  st : S f = true ∨ ∃ x ∈ hs, x.s = (f : Int) ∧ x.e ≤ 0
  ed : ∀ (u v : Nat) (m : Int), S u = true → v < n → lk xs (u : Int) (v : Int) xs.length = some m → S v = true ∨ (∃ x ∈ hs, x.s = (v : Int) ∧ x.e ≤ D u + m) ∨ Pd u v

section
variable {n : Nat} {xs : List Rd3} {f : Nat} {D : Nat → Int} {S : Nat → Bool} {hs ys : List Rn} {Pd Pd' : Nat → Nat → Prop}
theorem dinv_start (h : Dist n xs f D) (hf : f < n) : DInv n xs f D (fun _ => false) [⟨(f : Int), 0⟩] Pd := by
  refine ⟨fun v hv => (by cases hv), fun x hx => ?_, .inr ⟨_, List.mem_singleton.2 rfl, rfl, Int.le_refl _⟩, fun u v m hu => (by cases hu)⟩
  rw [List.mem_singleton] at hx
  subst hx
  exact ⟨f, hf, rfl, by rw [h.zero]; exact Int.le_refl _, by show (0 : Int) ≤ 800; omega⟩
theorem DInv.mono (h : DInv n xs f D S hs Pd) (hP : ∀ u v : Nat, S u = true → Pd u v → Pd' u v) : DInv n xs f D S hs Pd' :=
  ⟨h.sd, h.hp, h.st, fun u v m hu hv he => (h.ed u v m hu hv he).imp_right fun g => g.imp_right (hP u v hu)⟩
/-- Each reachable town that is not settled has an entry before it. -/
theorem dinv_entry (hv : DValid (n : Int) xs) (hd : Dist n xs f D) (h : DInv n xs f D S hs (fun _ _ => False)) : ∀ (K : Nat) (v : Nat), (D v).toNat = K → v < n → S v = false → D v < 100000 → ∃ y ∈ hs, y.e ≤ D v := by
  intro K
  induction K using Nat.strongRecOn with
  | ind K ih =>
    intro v hK hvn hS hsm
    have hlow := hd.low v hvn
    by_cases e : v = f
    · subst e
      rcases h.st with g | ⟨x, hx, _, hx2⟩
      · rw [hS] at g; cases g
      · exact ⟨x, hx, by omega⟩
    · obtain ⟨u, m, hu, he, hdv⟩ := hd.tight v hvn e hsm
      have hm := lk_valid hv (Nat.le_refl _) he
      have hlu := hd.low u hu
      by_cases su : S u = true
      · rcases h.ed u v m su hvn he with g | ⟨x, hx, _, hx2⟩ | g
        · rw [hS] at g; cases g
        · exact ⟨x, hx, by omega⟩
        · exact g.elim
      · obtain ⟨y, hy, hy2⟩ := ih (D u).toNat (by omega) u rfl hu (by simpa using su) (by omega)
        exact ⟨y, hy, by omega⟩
/-- A settled town's entry is thrown away. -/
theorem dinv_skip {x : Rn} {v : Nat} (h : DInv n xs f D S hs Pd) (hp : (x :: ys).Perm hs) (hx : x.s = (v : Int)) (hS : S v = true) : DInv n xs f D S ys Pd := by
  refine ⟨h.sd, fun y hy => h.hp y (hp.subset (List.mem_cons_of_mem _ hy)), ?_, fun u t m hu ht he => ?_⟩
  · rcases h.st with g | ⟨y, hy, hy1, hy2⟩
    · exact .inl g
    · rcases List.mem_cons.1 (hp.mem_iff.2 hy) with e | e
      · subst e
        have : v = f := by omega
        exact .inl (this ▸ hS)
      · exact .inr ⟨y, e, hy1, hy2⟩
  · rcases h.ed u t m hu ht he with g | ⟨y, hy, hy1, hy2⟩ | g
    · exact .inl g
    · rcases List.mem_cons.1 (hp.mem_iff.2 hy) with e | e
      · subst e
        have : v = t := by omega
        exact .inl (this ▸ hS)
      · exact .inr (.inl ⟨y, e, hy1, hy2⟩)
    · exact .inr (.inr g)
/-- The nearest town that is not settled gets its distance. -/
theorem dinv_take {x : Rn} {v : Nat} (hv : DValid (n : Int) xs) (hd : Dist n xs f D) (h : DInv n xs f D S hs (fun _ _ => False)) (hp : (x :: ys).Perm hs) (hmin : ∀ y ∈ hs, x.e ≤ y.e) (hx : x.s = (v : Int)) (hS : S v = false) :
    v < n ∧ x.e = D v ∧ DInv n xs f D (upS S v) ys (fun u _ => u = v) := by
  obtain ⟨v', hv1, hv2, hv3, hv4⟩ := h.hp x (hp.subset (List.mem_cons_self ..))
  have hvv : v' = v := by omega
  subst hvv
  have hsm : D v' < 100000 := by omega
  obtain ⟨y, hy, hy2⟩ := dinv_entry hv hd h _ v' rfl hv1 hS hsm
  have := hmin y hy
  refine ⟨hv1, by omega, ⟨fun t ht => ?_, fun z hz => h.hp z (hp.subset (List.mem_cons_of_mem _ hz)), ?_, fun u t m hu ht he => ?_⟩⟩
  · unfold upS at ht
    split at ht
    · rename_i e; subst e; exact ⟨hv1, hsm⟩
    · exact h.sd t ht
  · by_cases e : f = v'
    · left; unfold upS; rw [if_pos e]
    · rcases h.st with g | ⟨z, hz, hz1, hz2⟩
      · left; unfold upS; rw [if_neg e]; exact g
      · rcases List.mem_cons.1 (hp.mem_iff.2 hz) with e2 | e2
        · subst e2; omega
        · exact .inr ⟨z, e2, hz1, hz2⟩
  · by_cases eu : u = v'
    · exact .inr (.inr eu)
    · have hu' : S u = true := by unfold upS at hu; rwa [if_neg eu] at hu
      by_cases et : t = v'
      · left; unfold upS; rw [if_pos et]
      · rcases h.ed u t m hu' ht he with g | ⟨z, hz, hz1, hz2⟩ | g
        · left; unfold upS; rw [if_neg et]; exact g
        · rcases List.mem_cons.1 (hp.mem_iff.2 hz) with e2 | e2
          · subst e2; omega
          · exact .inr (.inl ⟨z, e2, hz1, hz2⟩)
        · exact g.elim
/-- The next town of a road is laid into the heap. -/
theorem dinv_push {v t : Nat} {m : Int} (hv : DValid (n : Int) xs) (hd : Dist n xs f D) (h : DInv n xs f D S hs Pd) (ht : t < n) (he : lk xs (v : Int) (t : Int) xs.length = some m) (hS : S v = true) (hp : ys.Perm (hs ++ [⟨(t : Int), D v + m⟩])) (hP : ∀ u s, Pd u s → (u = v ∧ s = t) ∨ Pd' u s) :
    DInv n xs f D S ys Pd' := by
  have hm := lk_valid hv (Nat.le_refl _) he
  obtain ⟨hvn, hvs⟩ := h.sd v hS
  have h693 := hd.small v hvn hvs
  have hin : ∀ x ∈ hs, x ∈ ys := fun x hx => hp.mem_iff.2 (List.mem_append_left _ hx)
  refine ⟨h.sd, fun y hy => ?_, ?_, fun u s m' hu hs' he' => ?_⟩
  · rcases List.mem_append.1 (hp.mem_iff.1 hy) with g | g
    · exact h.hp y g
    · rw [List.mem_singleton] at g
      subst g
      exact ⟨t, ht, rfl, hd.edge v t m hvn ht he, by show D v + m ≤ 800; omega⟩
  · rcases h.st with g | ⟨z, hz, hz1⟩
    · exact .inl g
    · exact .inr ⟨z, hin z hz, hz1⟩
  · rcases h.ed u s m' hu hs' he' with g | ⟨z, hz, hz1⟩ | g
    · exact .inl g
    · exact .inr (.inl ⟨z, hin z hz, hz1⟩)
    · rcases hP u s g with ⟨e1, e2⟩ | g'
      · subst e1; subst e2
        rw [he] at he'
        injection he' with he'
        subst he'
        exact .inr (.inl ⟨_, hp.mem_iff.2 (List.mem_append_right _ (List.mem_singleton.2 rfl)), rfl, Int.le_refl _⟩)
      · exact .inr (.inr g')
/-- The next town of a road is settled. -/
theorem dinv_seen {v t : Nat} (h : DInv n xs f D S hs Pd) (ht : S t = true) (hP : ∀ u s, Pd u s → (u = v ∧ s = t) ∨ Pd' u s) : DInv n xs f D S hs Pd' := by
  refine ⟨h.sd, h.hp, h.st, fun u s m' hu hs' he' => ?_⟩
  rcases h.ed u s m' hu hs' he' with g | g | g
  · exact .inl g
  · exact .inr (.inl g)
  · rcases hP u s g with ⟨_, e2⟩ | g'
    · subst e2; exact .inl ht
    · exact .inr (.inr g')
theorem dinv_end (hv : DValid (n : Int) xs) (hd : Dist n xs f D) (h : DInv n xs f D S [] (fun _ _ => False)) : ∀ v, v < n → (S v = true ↔ D v < 100000) := by
  intro v hvn
  constructor
  · exact fun g => (h.sd v g).2
  · intro g
    cases e : S v with
    | true => rfl
    | false =>
      obtain ⟨y, hy, _⟩ := dinv_entry hv hd h _ v rfl hvn e g
      cases hy
end

/-- The distances of the settled towns, as a map. -/
def fm (n : Nat) (S : Nat → Bool) (D : Nat → Int) (z : Int) : Option Int := if 0 ≤ z ∧ z < n ∧ S z.toNat = true then some (D z.toNat) else none
theorem fm_at {n : Nat} {S : Nat → Bool} {D : Nat → Int} {v : Nat} (hv : v < n) : fm n S D (v : Int) = if S v = true then some (D v) else none := by
  unfold fm
  by_cases h : S v = true
  · rw [if_pos h, if_pos ⟨by omega, by omega, by simpa using h⟩]; simp
  · rw [if_neg h, if_neg (by rintro ⟨_, _, g⟩; exact h (by simpa using g))]
theorem fm_up {n : Nat} {S : Nat → Bool} {D : Nat → Int} {v : Nat} (hv : v < n) (z : Int) : (if z = (v : Int) then some (D v) else fm n S D z) = fm n (upS S v) D z := by
  by_cases e : z = (v : Int)
  · subst e
    rw [if_pos rfl, fm_at hv]
    simp [upS]
  · rw [if_neg e]
    unfold fm
    by_cases h : 0 ≤ z ∧ z < n
    · have e2 : upS S v z.toNat = S z.toNat := by unfold upS; rw [if_neg (by omega)]
      rw [e2]
    · rw [if_neg (fun g => h ⟨g.1, g.2.1⟩), if_neg (fun g => h ⟨g.1, g.2.1⟩)]
theorem fm_none (n : Nat) (D : Nat → Int) (z : Int) : fm n (fun _ => false) D z = none := by
  unfold fm; rw [if_neg (by rintro ⟨_, _, g⟩; cases g)]
end Go.Proofs.Ytaajombljiiigaa
