import Derived.Test.YtaajombljiiigaaChecked
import Derived.WalkKit
import Derived.ProofKit
import Derived.Below
import Derived.Outline
import Derived.WalkSpells
import Derived.WalkLawsBesides
import Derived.WalkSmall
import Derived.Lib.Hide
import Derived.Laws.OwnMore
import Derived.Deep.Draws
import Derived.Deep.QuietTactic
import Derived.BigQuiet
import Derived.IntWalk
namespace Go.Proofs.Ytaajombljiiigaa
open Go.RowKit

theorem ret_int {k : IntKind} {a b : Int} (h : a = b) : Ending.returned (.int k a) = .returned (.int k b) := by rw [h]
theorem ret_str {a b : ByteArray} (h : a = b) : Ending.returned (.string a) = .returned (.string b) := by rw [h]
theorem ret_bool {a b : Bool} (h : a = b) : Ending.returned (.bool a) = .returned (.bool b) := by rw [h]

theorem cell_lt {w : World} {p : Addr} {v : Value} (h : w.cell? p = some v) : p.block < w.heap.size := World.block_lt_of_cell? w p h

theorem cell_new (w : World) (C : Array Value) (e : TypeId) (k : Nat) : (w.alloc (.cells C e)).cell? ⟨w.heap.size, k, none⟩ = C[k]? := by
  have h : (w.alloc (.cells C e)).heap[w.heap.size]? = some (.cells C e) := by
    show (w.heap.push _)[w.heap.size]? = _
    simp
  unfold World.cell?
  rw [h]; rfl

/-- The cells of a slice: integers. -/
def Cells (w : World) (A : Option Addr) (zs : List Int) : Prop :=
  zs = [] ∨ ∃ b o, A = some ⟨b, o, none⟩ ∧ b < w.heap.size ∧ ∀ j, j < zs.length → w.cell? ⟨b, o + j, none⟩ = some (.int .i64 (zs.getD j 0))

section
variable {w w' : World} {A : Option Addr} {zs : List Int}
theorem Cells.keep (h : Cells w A zs) (hs : w.heap.size ≤ w'.heap.size) (hk : ∀ a o, A = some ⟨a, o, none⟩ → a < w.heap.size → w'.heap[a]? = w.heap[a]?) : Cells w' A zs := by
  rcases h with h | ⟨b, o, rfl, hb, hc⟩
  · exact .inl h
  · exact .inr ⟨b, o, rfl, by omega, fun j hj => (World.cell?_of_block (w := w) (hk b o rfl hb)).trans (hc j hj)⟩
theorem Cells.below (h : Cells w A zs) (hb : Below w.heap.size w w') : Cells w' A zs := h.keep hb.size fun a _ _ ha => hb.block a ha
theorem Cells.alloc (h : Cells w A zs) (o : Obj) : Cells (w.alloc o) A zs := h.below ((Below.refl _ _).alloc (Nat.le_refl _) _)
theorem Cells.drewN (h : Cells w A zs) (n : Nat) : Cells (w.drewN n) A zs := h.below ⟨rfl, rfl, rfl, Nat.le_refl _, fun _ _ => rfl⟩
theorem Cells.nil : Cells w A [] := .inl rfl
theorem Cells.of_own {base : Nat} {e : TypeId} {size n c : Nat} (h : w.ownsRow base e size (.slice A n c) n (zs.map (Value.int .i64))) : Cells w A zs := by
  by_cases hz : zs = []
  · exact .inl hz
  · rcases h.2 with ⟨hv, hn⟩ | ⟨g, cap, cur, hv, hg, hh, hnc, hcm, hcs, ht⟩
    · subst hn
      have := h.1
      simp at this
      exact .inl this
    · have hA : A = some ⟨g, 0, none⟩ := by injection hv
      subst hA
      have hlt : g < w.heap.size := by
        rcases Nat.lt_or_ge g w.heap.size with h | h
        · exact h
        · simp [Array.getElem?_eq_none h] at hh
      refine .inr ⟨g, 0, rfl, hlt, fun j hj => ?_⟩
      have hx : (zs.map (Value.int .i64))[j]? = some (.int .i64 (zs.getD j 0)) := by
        simp [List.getElem?_eq_getElem hj]
      have := World.ownsRow.cells h (g := g) rfl j _ hx
      rw [← this]
      congr 1
      unfold Addr.add
      split <;> simp_all
end

/-- What is owned stays owned where no old block has turned. -/
theorem own_below {w w' : World} {base : Nat} {e : TypeId} {size n : Nat} {v : Value} {xs : List Value} (h : w.ownsRow base e size v n xs) (hb : Below w.heap.size w w') : w'.ownsRow base e size v n xs := by
  refine ⟨h.1, ?_⟩
  rcases h.2 with h2 | ⟨g, cap, cur, hv, hg, hh, r⟩
  · exact .inl h2
  · have hlt : g < w.heap.size := by
      rcases Nat.lt_or_ge g w.heap.size with h | h
      · exact h
      · simp [Array.getElem?_eq_none h] at hh
    exact .inr ⟨g, cap, cur, hv, hg, by rw [hb.block g hlt]; exact hh, r⟩
theorem own_base {w : World} {base base' : Nat} {e : TypeId} {size n : Nat} {v : Value} {xs : List Value} (h : w.ownsRow base e size v n xs) (hb : base' ≤ base) : w.ownsRow base' e size v n xs := by
  refine ⟨h.1, ?_⟩
  rcases h.2 with h2 | ⟨g, cap, cur, hv, hg, r⟩
  · exact .inl h2
  · exact .inr ⟨g, cap, cur, hv, by omega, r⟩
theorem below_drewN' {B : Nat} {a w : World} (h : Below B a w) (n : Nat) : Below B a (w.drewN n) := ⟨h.os, h.tape, h.output, h.size, h.block⟩
end Go.Proofs.Ytaajombljiiigaa
