import Derived.Test.YtaajombljiiigaaRoadsW
import Derived.Maps.Views
import Derived.Maps.OwnSet
namespace Go.Proofs.Ytaajombljiiigaa
open Go.RowKit

/-- How a value of the outer map reads: the number of its block. -/
noncomputable def RB (v : Value) : Option (DataW Unit × List MemPlace) :=
  match v with
  | .map (some b) => some (.lit (.int .i64 (b : Int)), [])
  | .map none => some (.lit (.int .i64 (-1)), [])
  | _ => none
theorem RB_inv {v : Value} {b : Nat} {ps : List MemPlace} (h : RB v = some (.lit (.int .i64 (b : Int)), ps)) : v = .map (some b) := by
  unfold RB at h
  split at h
  · simp only [Option.some.injEq, Prod.mk.injEq, DataW.lit.injEq, Lit.int.injEq, true_and] at h
    have := h.1
    rw [Int.natCast_inj.1 this]
  · simp only [Option.some.injEq, Prod.mk.injEq, DataW.lit.injEq, Lit.int.injEq, true_and] at h
    omega
  · cases h
theorem RB_nil {v : Value} {ps : List MemPlace} (h : RB v = some (.lit (.int .i64 (-1)), ps)) : v = .map none := by
  unfold RB at h
  split at h
  · simp only [Option.some.injEq, Prod.mk.injEq, DataW.lit.injEq, Lit.int.injEq, true_and] at h
    omega
  · rfl
  · cases h
noncomputable abbrev RI : Value → Option (DataW Unit × List MemPlace) := plainElem (H := Unit) Try.prog 3
theorem keyI : Maps.Keyed Try.prog 3 := Maps.int_keyed Try.underlying3
theorem keyOfI {z : Int} (h : (Lit.int .i64 z).wf = true) : keyOf Try.prog 3 (.int .i64 z) = some (.int .i64 z) := Maps.keyOf_int_mk Try.underlying3 h
theorem isKey (z : Int) : WideAt.IsKeyLit (.int .i64 z) := trivial
theorem neI {a b : Int} (h : a ≠ b) : Lit.int .i64 a ≠ Lit.int .i64 b := fun e => h (by injection e)

/-- A map from towns to numbers, as a function. -/
def IMap (w : World) (b N : Nat) (f : Int → Option Int) : Prop := ∃ D, w.ownsMap Try.prog 3 RI b N D ∧ ∀ z, Maps.has D (.int .i64 z) = (f z).isSome ∧ D.atKey (.int .i64 z) (.lit (.int .i64 0)) = .lit (.int .i64 ((f z).getD 0))
theorem IMap.made (w : World) : IMap (w.alloc (.map #[] 0)) w.heap.size 0 (fun _ => none) := ⟨.map [], World.ownsMap_made w _ _ _, fun z => ⟨rfl, rfl⟩⟩
theorem IMap.mono {w : World} {b N N' : Nat} {f : Int → Option Int} (h : IMap w b N f) (hn : N ≤ N') : IMap w b N' f := by
  obtain ⟨D, h1, h2⟩ := h
  exact ⟨D, h1.mono hn, h2⟩
theorem IMap.lt {w : World} {b N : Nat} {f : Int → Option Int} (h : IMap w b N f) : b < w.heap.size := by obtain ⟨D, h1, _⟩ := h; exact h1.lt
theorem IMap.kept {w w' : World} {b N : Nat} {f : Int → Option Int} {row : Option Nat} (h : IMap w b N f) (hg : w.grownBy w' row) (hne : some b ≠ row) : IMap w' b N f := by
  obtain ⟨D, h1, h2⟩ := h
  exact ⟨D, h1.kept hg hne, h2⟩
theorem Below.grownNone {w w' : World} (hb : Below w.heap.size w w') : w.grownBy w' none := ⟨hb.os, hb.tape, hb.output, hb.size, fun k hk _ => hb.block k hk⟩
theorem IMap.below {w w' : World} {b N : Nat} {f : Int → Option Int} (h : IMap w b N f) (hb : Below w.heap.size w w') : IMap w' b N f := h.kept (Below.grownNone hb) (by simp)
theorem IMap.put {w w' : World} {b N : Nat} {f : Int → Option Int} {D : DataW Unit} (h1 : w.ownsMap Try.prog 3 RI b N D) (h2 : ∀ z, Maps.has D (.int .i64 z) = (f z).isSome ∧ D.atKey (.int .i64 z) (.lit (.int .i64 0)) = .lit (.int .i64 ((f z).getD 0)))
    {a m : Int} (h : w'.ownsMap Try.prog 3 RI b (N + 1) (D.put (.int .i64 a) (.lit (.int .i64 m)))) : IMap w' b (N + 1) (fun z => if z = a then some m else f z) := by
  refine ⟨_, h, fun z => ?_⟩
  try dsimp only
  by_cases e : z = a
  · subst e
    rw [if_pos rfl, Maps.has_put_same h1.isMap (isKey z), Maps.atKey_put_same h1.isMap (isKey z)]
    exact ⟨rfl, rfl⟩
  · rw [if_neg e, Maps.has_put_other (neI e), Maps.atKey_put_other (neI e)]
    exact h2 z
theorem wfZero : (Lit.int .i64 0).wf = true := by decide
/-- 'v, ok := m[z]'. -/
theorem IMap.look {w : World} {b N : Nat} {f : Int → Option Int} (h : IMap w b N f) {z : Int} (hz : (Lit.int .i64 z).wf = true) :
    (Instr.lookup 51 (.map (some b)) (.int .i64 z) true).run Try.prog w = .ok (.tuple #[.int .i64 ((f z).getD 0), .bool (f z).isSome]) w := by
  obtain ⟨D, h1, h2⟩ := h
  obtain ⟨v, ps, hrun, hv⟩ := h1.look_ok keyI Try.underlying51 (Try.zeroValue3 w) (plainElem_int Try.underlying3 wfZero) (keyOfI hz)
  rw [(h2 z).2] at hv
  obtain ⟨c, rfl, hc, _⟩ := plainElem_int_inv Try.underlying3 hv
  simp only [Prod.mk.injEq, DataW.lit.injEq, Lit.int.injEq, true_and] at hc
  rw [hrun, (h2 z).1, hc.1]
/-- 'm[z]'. -/
theorem IMap.look1 {w : World} {b N : Nat} {f : Int → Option Int} (h : IMap w b N f) {z : Int} (hz : (Lit.int .i64 z).wf = true) :
    (Instr.lookup 51 (.map (some b)) (.int .i64 z) false).run Try.prog w = .ok (.int .i64 ((f z).getD 0)) w := by
  obtain ⟨D, h1, h2⟩ := h
  obtain ⟨v, ps, hrun, hv⟩ := h1.lookup keyI Try.underlying51 (Try.zeroValue3 w) (plainElem_int Try.underlying3 wfZero) (keyOfI hz)
  rw [(h2 z).2] at hv
  obtain ⟨c, rfl, hc, _⟩ := plainElem_int_inv Try.underlying3 hv
  simp only [Prod.mk.injEq, DataW.lit.injEq, Lit.int.injEq, true_and] at hc
  rw [hrun, hc.1]

/-- The outer map of n towns. -/
def OutM (w : World) (b n : Nat) (bs : Nat → Nat) : Prop := ∃ N D, w.ownsMap Try.prog 3 RB b N D ∧ N ≤ n ∧ (∀ t : Nat, t < n → Maps.has D (.int .i64 t) = true ∧ D.atKey (.int .i64 t) (.lit (.int .i64 (-1))) = .lit (.int .i64 (bs t))) ∧ (∀ z : Int, z < 0 ∨ (n : Int) ≤ z → Maps.has D (.int .i64 z) = false)
theorem OutM.kept {w w' : World} {b n : Nat} {bs : Nat → Nat} {row : Option Nat} (h : OutM w b n bs) (hg : w.grownBy w' row) (h1 : some b ≠ row) : OutM w' b n bs := by
  obtain ⟨N, D, q1, q2, q3, q4⟩ := h
  exact ⟨N, D, q1.kept hg h1, q2, q3, q4⟩
theorem zeroM (w : World) : (zeroValue 51).run Try.prog w = .ok (.map none) w := Try.zeroValue51 w
theorem wf_town {t : Nat} (h : t < 100) : (Lit.int .i64 (t : Int)).wf = true := WalkArith.wf_i64 (by omega)
theorem OutM.look {w : World} {b n : Nat} {bs : Nat → Nat} (h : OutM w b n bs) {t : Nat} (ht : t < n) (hn : n ≤ 8) :
    (Instr.lookup 45 (.map (some b)) (.int .i64 (t : Int)) false).run Try.prog w = .ok (.map (some (bs t))) w := by
  obtain ⟨N, D, q1, q2, q3, q4⟩ := h
  obtain ⟨v, ps, hrun, hv⟩ := q1.lookup keyI Try.underlying45 (zeroM w) (zd := .lit (.int .i64 (-1))) (zp := []) rfl (keyOfI (wf_town (t := t) (by omega)))
  rw [(q3 t ht).2] at hv
  rw [hrun, RB_inv hv]
theorem OutM.look_none {w : World} {b n : Nat} {bs : Nat → Nat} (h : OutM w b n bs) {z : Int} (hz : z < 0 ∨ (n : Int) ≤ z) (hw : (Lit.int .i64 z).wf = true) :
    (Instr.lookup 45 (.map (some b)) (.int .i64 z) false).run Try.prog w = .ok (.map none) w := by
  obtain ⟨N, D, q1, q2, q3, q4⟩ := h
  obtain ⟨v, ps, hrun, hv⟩ := q1.lookup keyI Try.underlying45 (zeroM w) (zd := .lit (.int .i64 (-1))) (zp := []) rfl (keyOfI hw)
  rw [Maps.atKey_of_not_has (q4 z hz)] at hv
  rw [hrun, RB_nil hv]

/-- The map of roads, of the towns below n, with the first k roads laid in. -/
structure MB (w : World) (B b n k : Nat) (bs : Nat → Nat) (xs : List Rd3) : Prop where
  base : B ≤ b
  outer : OutM w b n bs
  inner : ∀ t : Nat, t < n → IMap w (bs t) k (fun z => lk xs t z k)
  apart : ∀ t, t < n → B ≤ bs t ∧ bs t ≠ b ∧ ∀ t', t' < n → bs t = bs t' → t = t'
section
variable {w w' : World} {B b n k : Nat} {bs : Nat → Nat} {xs : List Rd3}
theorem MB.kept {row : Option Nat} (h : MB w B b n k bs xs) (hg : w.grownBy w' row) (h1 : some b ≠ row) (h2 : ∀ t, t < n → some (bs t) ≠ row) : MB w' B b n k bs xs := by
  obtain ⟨N, D, q1, q2, q3, q4⟩ := h.outer
  exact ⟨h.base, ⟨N, D, q1.kept hg h1, q2, q3, q4⟩, fun t ht => (h.inner t ht).kept hg (h2 t ht), h.apart⟩
theorem MB.below (h : MB w B b n k bs xs) (hb : Below w.heap.size w w') : MB w' B b n k bs xs := h.kept (Below.grownNone hb) (by simp) (fun _ _ => by simp)
theorem MB.lt (h : MB w B b n k bs xs) : b < w.heap.size := by obtain ⟨N, D, q1, _⟩ := h.outer; exact q1.lt
theorem MB.made (w : World) (hB : B ≤ w.heap.size) (xs : List Rd3) : MB (w.alloc (.map #[] 0)) B w.heap.size 0 0 bs xs :=
  ⟨hB, ⟨0, .map [], World.ownsMap_made w _ _ _, Nat.le_refl _, fun t ht => by omega, fun z _ => rfl⟩, fun t ht => by omega, fun t ht => by omega⟩
theorem MB.town {N : Nat} {D : DataW Unit} (h : MB w B b n 0 bs xs) (q2 : N ≤ n) (q1 : w.ownsMap Try.prog 3 RB b N D)
    (q3 : ∀ t : Nat, t < n → Maps.has D (.int .i64 t) = true ∧ D.atKey (.int .i64 t) (.lit (.int .i64 (-1))) = .lit (.int .i64 (bs t))) (q4 : ∀ z : Int, z < 0 ∨ (n : Int) ≤ z → Maps.has D (.int .i64 z) = false)
    (o2 : w'.ownsMap Try.prog 3 RB b (N + 1) (D.put (.int .i64 (n : Int)) (.lit (.int .i64 (w.heap.size : Int))))) (g : (w.alloc (.map #[] 0)).grownBy w' (some b)) :
    MB w' B b (n + 1) 0 (fun j => if j = n then w.heap.size else bs j) xs := by
  have hb := h.lt
  have hB := h.base
  refine ⟨hB, ⟨N + 1, _, o2, by omega, fun t ht => ?_, fun z hz => ?_⟩, fun t ht => ?_, fun t ht => ?_⟩
  · try dsimp only
    by_cases e : t = n
    · subst e
      rw [Maps.has_put_same q1.isMap (isKey _), Maps.atKey_put_same q1.isMap (isKey _), if_pos rfl]
      exact ⟨rfl, rfl⟩
    · have ne : (t : Int) ≠ (n : Int) := by omega
      rw [Maps.has_put_other (neI ne), Maps.atKey_put_other (neI ne), if_neg e]
      exact q3 t (by omega)
  · have ne : z ≠ (n : Int) := by omega
    rw [Maps.has_put_other (neI ne)]
    exact q4 z (by omega)
  · try dsimp only
    by_cases e : t = n
    · rw [if_pos e]
      exact (IMap.made w).kept g (by intro e; injection e with e; omega)
    · rw [if_neg e]
      exact ((h.inner t (by omega)).kept (World.grownBy_alloc w (.map #[] 0) none) (by simp)).kept g (by intro e; injection e with e; exact (h.apart t (by omega)).2.1 e)
  · try dsimp only
    by_cases e : t = n
    · rw [if_pos e]
      refine ⟨by omega, by omega, fun t' ht' he => ?_⟩
      by_cases e' : t' = n
      · omega
      · rw [if_neg e'] at he
        have := (h.inner t' (by omega)).lt
        omega
    · rw [if_neg e]
      obtain ⟨p1, p2, p3⟩ := h.apart t (by omega)
      refine ⟨p1, p2, fun t' ht' he => ?_⟩
      by_cases e' : t' = n
      · rw [if_pos e'] at he
        have := (h.inner t (by omega)).lt
        omega
      · rw [if_neg e'] at he
        exact p3 t' (by omega) he
theorem IMap.congr {w : World} {b N : Nat} {f g : Int → Option Int} (h : IMap w b N f) (e : ∀ z, f z = g z) : IMap w b N g := by
  have : f = g := funext e
  exact this ▸ h
theorem MB.road {w1 : World} {x y : Nat} {D1 D2 : DataW Unit} (h : MB w B b n k bs xs) (hx : x < n) (hy : y < n) (hxy : x ≠ y) (ex : ra xs k = (x : Int)) (ey : rb xs k = (y : Int))
    (o1 : w.ownsMap Try.prog 3 RI (bs x) k D1) (f1 : ∀ z, Maps.has D1 (.int .i64 z) = (lk xs x z k).isSome ∧ D1.atKey (.int .i64 z) (.lit (.int .i64 0)) = .lit (.int .i64 ((lk xs x z k).getD 0)))
    (p1 : w1.ownsMap Try.prog 3 RI (bs x) (k + 1) (D1.put (.int .i64 (y : Int)) (.lit (.int .i64 (rm xs k))))) (g1 : w.grownBy w1 (some (bs x)))
    (o2 : w.ownsMap Try.prog 3 RI (bs y) k D2) (f2 : ∀ z, Maps.has D2 (.int .i64 z) = (lk xs y z k).isSome ∧ D2.atKey (.int .i64 z) (.lit (.int .i64 0)) = .lit (.int .i64 ((lk xs y z k).getD 0)))
    (p2 : w'.ownsMap Try.prog 3 RI (bs y) (k + 1) (D2.put (.int .i64 (x : Int)) (.lit (.int .i64 (rm xs k))))) (g2 : w1.grownBy w' (some (bs y))) :
    MB w' B b n (k + 1) bs xs := by
  have ax := h.apart x hx
  have ay := h.apart y hy
  have bxy : bs x ≠ bs y := fun e => hxy (ax.2.2 y hy e)
  obtain ⟨N, D, q1, q2, q3, q4⟩ := h.outer
  have sm : ∀ {i j : Nat}, i ≠ j → some i ≠ some j := fun hij e => hij (by injection e)
  refine ⟨h.base, ⟨N, D, (q1.kept g1 (sm (Ne.symm ax.2.1))).kept g2 (sm (Ne.symm ay.2.1)), q2, q3, q4⟩, fun t ht => ?_, h.apart⟩
  by_cases e1 : t = x
  · subst e1
    refine ((IMap.put o1 f1 p1).kept g2 (sm bxy)).congr fun z => ?_
    try dsimp only
    simp only [lk]
    by_cases hz : z = (y : Int)
    · rw [if_pos hz, if_pos (.inl ⟨ex, by rw [ey, hz]⟩)]
    · rw [if_neg hz, if_neg]
      rintro (⟨j1, j2⟩ | ⟨j1, j2⟩)
      · exact hz (by rw [← j2, ey])
      · omega
  · by_cases e2 : t = y
    · subst e2
      refine (IMap.put (o2.kept g1 (sm (Ne.symm bxy))) f2 p2).congr fun z => ?_
      try dsimp only
      simp only [lk]
      by_cases hz : z = (x : Int)
      · rw [if_pos hz, if_pos (.inr ⟨by rw [ex, hz], ey⟩)]
      · rw [if_neg hz, if_neg]
        rintro (⟨j1, j2⟩ | ⟨j1, j2⟩)
        · omega
        · exact hz (by rw [← j1, ex])
    · have n1 : bs t ≠ bs x := fun e => e1 ((h.apart t ht).2.2 x hx e)
      have n2 : bs t ≠ bs y := fun e => e2 ((h.apart t ht).2.2 y hy e)
      refine ((((h.inner t ht).kept g1 (sm n1)).kept g2 (sm n2)).mono (Nat.le_succ k)).congr fun z => ?_
      simp only [lk]
      rw [if_neg]
      rintro (⟨j1, j2⟩ | ⟨j1, j2⟩) <;> omega
end
end Go.Proofs.Ytaajombljiiigaa
