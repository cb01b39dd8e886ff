import Derived.Test.YtaajombljiiigaaWords
namespace Go.Proofs.Ytaajombljiiigaa
open Go.RowKit

/-- A variable of numbers in a block of its own. -/
def BoxI (W : World) (g : Nat) (zs : List Int) : Prop := g < W.heap.size ∧ ∀ j, j < zs.length → W.cell? ⟨g, j, none⟩ = some (.int .i64 (zs.getD j 0))
theorem BoxI.new (w : World) (zs : List Int) (e : TypeId) (C : Array Value) (h : ∀ j, j < zs.length → C[j]? = some (.int .i64 (zs.getD j 0))) : BoxI (w.alloc (.cells C e)) w.heap.size zs :=
  ⟨by simp, fun j hj => (cell_new _ _ _ _).trans (h j hj)⟩
theorem BoxI.new2 (w : World) (a b : Int) (e : TypeId) : BoxI (w.alloc (.cells #[.int .i64 a, .int .i64 b] e)) w.heap.size [a, b] :=
  BoxI.new w [a, b] e _ fun j hj => by
    have hj2 : j < 2 := by simpa using hj
    match j, hj2 with
    | 0, _ => rfl
    | 1, _ => rfl
theorem BoxI.new3 (w : World) (a b c : Int) (e : TypeId) : BoxI (w.alloc (.cells #[.int .i64 a, .int .i64 b, .int .i64 c] e)) w.heap.size [a, b, c] :=
  BoxI.new w [a, b, c] e _ fun j hj => by
    have hj2 : j < 3 := by simpa using hj
    match j, hj2 with
    | 0, _ => rfl
    | 1, _ => rfl
    | 2, _ => rfl
theorem BoxI.below {W W' : World} {g : Nat} {zs : List Int} (h : BoxI W g zs) (hb : Below W.heap.size W W') : BoxI W' g zs :=
  ⟨Nat.lt_of_lt_of_le h.1 hb.size, fun j hj => (hb.cell (p := ⟨g, j, none⟩) h.1).trans (h.2 j hj)⟩
theorem BoxI.kept {W W' : World} {g : Nat} {zs : List Int} {row : Option Nat} (h : BoxI W g zs) (hg : W.grownBy W' row) (hne : some g ≠ row) : BoxI W' g zs :=
  ⟨Nat.lt_of_lt_of_le h.1 hg.size, fun j hj => (World.cell?_of_block (w := W) (hg.block g h.1 hne)).trans (h.2 j hj)⟩
theorem BoxI.two {W : World} {g : Nat} {a b : Int} (h : BoxI W g [a, b]) : W.cell? ⟨g, 0, none⟩ = some (.int .i64 a) ∧ W.cell? ⟨g, 1, none⟩ = some (.int .i64 b) :=
  ⟨h.2 0 (by simp), h.2 1 (by simp)⟩
theorem BoxI.three {W : World} {g : Nat} {a b c : Int} (h : BoxI W g [a, b, c]) : W.cell? ⟨g, 0, none⟩ = some (.int .i64 a) ∧ W.cell? ⟨g, 1, none⟩ = some (.int .i64 b) ∧ W.cell? ⟨g, 2, none⟩ = some (.int .i64 c) :=
  ⟨h.2 0 (by simp), h.2 1 (by simp), h.2 2 (by simp)⟩
end Go.Proofs.Ytaajombljiiigaa
