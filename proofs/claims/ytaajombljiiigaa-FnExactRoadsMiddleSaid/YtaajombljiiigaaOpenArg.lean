import Derived.Test.YtaajombljiiigaaWords
import Derived.Deep.Slices
import Derived.Deep.Fields
import Derived.ChangeSame
import Derived.OpenShut
namespace Go.Proofs.Ytaajombljiiigaa
open Go.RowKit Go.ChangeShapes Go.WideShapes Go.Deep

theorem list_choose {P : Nat → Int → Prop} : ∀ n : Nat, (∀ i, i < n → ∃ z, P i z) → ∃ zs : List Int, zs.length = n ∧ ∀ i, i < n → P i (zs.getD i 0) := by
  intro n
  induction n with
  | zero => intro _; exact ⟨[], rfl, fun i hi => by omega⟩
  | succ n ih =>
    intro h
    obtain ⟨zs, hl, hz⟩ := ih (fun i hi => h i (by omega))
    obtain ⟨z, hzn⟩ := h n (by omega)
    refine ⟨zs ++ [z], by simp [hl], fun i hi => ?_⟩
    rcases Nat.lt_or_ge i n with h1 | h1
    · have := hz i h1
      rw [List.getD_eq_getElem?_getD] at this ⊢
      rw [List.getElem?_append_left (by omega)]
      exact this
    · obtain rfl : i = n := by omega
      rw [List.getD_eq_getElem?_getD, List.getElem?_append_right (by omega), hl]
      simpa using hzn

/-- An argument that is a slice of structs of k integers: its cells, one behind the other. -/
theorem arg_structs {H : Type} {enc : TypeId × Value → H} {P : Program} {w : World} {t e : TypeId} {fs : Array Field} {k fuel len cap : Nat} {a : Option Addr} {x : DataW H × List MemPlace}
    (ht : P.underlying t = some (.slice e)) (he : P.underlying e = some (.struct fs)) (hone : oneCellFields P fs = true) (hC : P.cellsOf e = k) (hk : fs.size = k) (hk0 : 0 < k)
    (hint : ∀ (i : Nat) (f : Field), fs[i]? = some f → P.underlying f.type = some (.int .i64))
    (h : DataW.trod enc P w 0 (fun _ => true) true fuel t [.slice a len cap] = some x) :
    len ≤ cap ∧ cap ≤ maxLen ∧ ∃ zs : List Int, zs.length = len * k ∧ Cells w a zs ∧ ∀ i, i < len * k → (Lit.int .i64 (zs.getD i 0)).wf = true := by
  rcases open_slice ht h with ⟨h0, _⟩ | ⟨ad, len', cap', m, n, D, Pl, hcs, _, hl, hm, hmm, _, hi⟩
  · simp only [List.cons.injEq, Value.slice.injEq, and_true] at h0
    obtain ⟨rfl, rfl, rfl⟩ := h0
    exact ⟨Nat.le_refl _, Nat.zero_le _, [], by simp, Cells.nil, fun i hi => by omega⟩
  · simp only [List.cons.injEq, Value.slice.injEq, and_true] at hcs
    obtain ⟨rfl, rfl, rfl⟩ := hcs
    refine ⟨hl, hm, ?_⟩
    simp only [if_true] at hmm
    have key : ∀ i, i < len → ∀ j, j < k → ∃ z, w.cell? (ad.add (i * k + j)) = some (.int .i64 z) ∧ (Lit.int .i64 z).wf = true := by
      intro i hil j hj
      obtain ⟨cs', hc, ht'⟩ := hi i (by omega)
      rw [hC] at hc
      obtain ⟨ys, n', _, _, hlen, hyl, hf⟩ := DataW.trod_struct he ht'
      obtain ⟨_, hcl, hat⟩ := World.cells?_some hc
      have hjf : fs[j]? = some (fs[j]'(by omega)) := Array.getElem?_eq_getElem (by omega)
      obtain ⟨ho, hk1⟩ := hone_of hone j _ hjf
      have h1 := hf j _ hjf
      rw [ho, hk1] at h1
      have hone' : (cs'.drop j).take 1 = [cs'[j]'(by omega)] := by
        rw [List.drop_eq_getElem_cons (by omega)]
        rfl
      rw [hone'] at h1
      have hys : ys[j]? = some (ys[j]'(by omega)) := List.getElem?_eq_getElem (by omega)
      rw [hys] at h1
      obtain ⟨z, hz, _, hwf⟩ := DataW.trod_int (hint j _ hjf) h1
      refine ⟨z, ?_, hwf⟩
      have := hat j hj
      rw [Go.Deep.add_add] at this
      rw [this, List.getElem?_eq_getElem (by omega)]
      simp only [List.cons.injEq, and_true] at hz
      rw [hz]
    obtain ⟨zs, hzl, hz⟩ := list_choose (P := fun i z => w.cell? (ad.add i) = some (.int .i64 z) ∧ (Lit.int .i64 z).wf = true) (len * k) (fun i hi2 => by
      have h1 : i / k < len := by rw [Nat.div_lt_iff_lt_mul hk0]; exact hi2
      have h2 : i % k < k := Nat.mod_lt _ hk0
      have := key (i / k) h1 (i % k) h2
      rw [Nat.mul_comm, Nat.div_add_mod] at this
      exact this)
    refine ⟨zs, hzl, ?_, fun i hi2 => (hz i hi2).2⟩
    by_cases hp : 0 < zs.length
    · obtain ⟨b, o, rfl, hc⟩ := ints_at (a := ad) (k := .i64) (zs := zs) (fun i hi2 => (hz i (by omega)).1) hp
      exact .inr ⟨b, o, rfl, cell_lt (hc 0 hp), hc⟩
    · exact .inl (List.eq_nil_of_length_eq_zero (by omega))

theorem arg_ints {H : Type} {enc : TypeId × Value → H} {P : Program} {w : World} {t e : TypeId} {fuel len cap : Nat} {a : Option Addr} {x : DataW H × List MemPlace}
    (ht : P.underlying t = some (.slice e)) (he : P.underlying e = some (.int .i64)) (hC : P.cellsOf e = 1) (h : DataW.trod enc P w 0 (fun _ => true) true fuel t [.slice a len cap] = some x) :
    len ≤ cap ∧ cap ≤ maxLen ∧ ∃ zs : List Int, zs.length = len ∧ Cells w a zs ∧ ∀ i, i < len → (Lit.int .i64 (zs.getD i 0)).wf = true := by
  rcases open_ints ht he hC h with ⟨hcs, _⟩ | ⟨ad, l, c, zs, hcs, _, hl, hm, hz, _, hcell, hwz⟩
  · simp only [List.cons.injEq, Value.slice.injEq, and_true] at hcs
    obtain ⟨rfl, rfl, rfl⟩ := hcs
    exact ⟨Nat.le_refl _, Nat.zero_le _, [], by simp, Cells.nil, fun i hi => by omega⟩
  · simp only [List.cons.injEq, Value.slice.injEq, and_true] at hcs
    obtain ⟨rfl, rfl, rfl⟩ := hcs
    have hz' : zs.length = cap := by simpa using hz
    have hget : ∀ i, i < len → (zs.take len).getD i 0 = zs.getD i 0 := by
      intro i hi
      rw [List.getD_eq_getElem?_getD, List.getElem?_take, if_pos hi, ← List.getD_eq_getElem?_getD]
    refine ⟨hl, hm, zs.take len, by simp; omega, ?_, fun i hi => ?_⟩
    · by_cases hp : 0 < len
      · obtain ⟨b, o, rfl, hc⟩ := ints_at hcell (by omega)
        refine .inr ⟨b, o, rfl, cell_lt (hc 0 (by omega)), fun j hj => ?_⟩
        have hj' : j < len := by simp at hj; omega
        rw [hget j hj']
        exact hc j (by omega)
      · exact .inl (List.eq_nil_of_length_eq_zero (by simp; omega))
    · rw [hget i hi]
      apply hwz
      rw [List.getD_eq_getElem?_getD, List.getElem?_eq_getElem (by omega)]
      exact List.getElem_mem _
end Go.Proofs.Ytaajombljiiigaa
