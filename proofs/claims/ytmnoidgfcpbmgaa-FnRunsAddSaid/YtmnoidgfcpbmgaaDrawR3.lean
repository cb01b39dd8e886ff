import Derived.Test.YtmnoidgfcpbmgaaDrawR2
namespace Go.Proofs.Ytmnoidgfcpbmgaa
open Go.RowKit

theorem quo19 {v : Int} (h0 : 0 ≤ v) (h1 : v < 20) : ∃ d : Int, Int.tdiv v 19 = d ∧ 0 ≤ d ∧ d ≤ 1 :=
  ⟨Int.tdiv v 19, rfl, by rw [Int.tdiv_eq_ediv_of_nonneg h0]; omega, by rw [Int.tdiv_eq_ediv_of_nonneg h0]; omega⟩

/-- What the law gets of a draw of runs and two numbers. -/
def GotRRI (w : World) (e : Ending) (w' : World) : Prop :=
  ∃ (g c : Nat) (xs : List Rn) (t u : Int), e = .returned (.tuple #[.slice (some ⟨g, 0, none⟩) xs.length c, .int .i64 t, .int .i64 u]) ∧ (Lit.int .i64 t).wf = true ∧ (Lit.int .i64 u).wf = true ∧ xs.length ≤ 7 ∧ xs.length ≤ c ∧ c ≤ 9223372036854775807 ∧ Cells w' (some ⟨g, 0, none⟩) (fr xs) ∧ Below w.heap.size w w'

end Go.Proofs.Ytmnoidgfcpbmgaa
