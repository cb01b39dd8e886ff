import Derived.Test.YtmnoidgfcpbmgaaDrawR
import Derived.Test.YtmnoidgfcpbmgaaDrawB
namespace Go.Proofs.Ytmnoidgfcpbmgaa
open Go.RowKit

theorem results3' {fn : Func} {t u v : Tmp} (h : fn.results = #[.tmp t, .tmp u, .tmp v]) (tmps : Array Value) (P : Program) (w : World) :
    (results fn tmps).run P w = .ok (.tuple #[tmps.getD t undef, tmps.getD u undef, tmps.getD v undef]) w := by simp [results, h]

/-- Runs and a rest, and the reader some places farther. -/
def DrewRR (r : Nat) (b : Int) (w : World) (e : Ending) (w' : World) : Prop :=
  ∃ (g c : Nat) (xs : List Rn) (t : Int), e = .returned (.tuple #[.slice (some ⟨g, 0, none⟩) xs.length c, .int .i64 t]) ∧ -1 ≤ t ∧ t ≤ 601 ∧ xs.length ≤ 7 ∧ xs.length ≤ c ∧ c ≤ 9223372036854775807 ∧ Cells w' (some ⟨g, 0, none⟩) (fr xs) ∧ w.heap.size ≤ g ∧ Rd w' r b ∧ Keeps r w w'

theorem Cells.keepR {w w' : World} {r g : Nat} {zs : List Int} (h : Cells w (some ⟨g, 0, none⟩) zs) (hk : Keeps r w w') (hr : r < g) : Cells w' (some ⟨g, 0, none⟩) zs :=
  h.keep hk.size fun a o e ha => hk.block a ha (by injection e with e; injection e with e1 e2; omega)

/-- What the law gets of a draw of runs and a number. -/
def GotRR (w : World) (e : Ending) (w' : World) : Prop :=
  ∃ (g c : Nat) (xs : List Rn) (t : Int), e = .returned (.tuple #[.slice (some ⟨g, 0, none⟩) xs.length c, .int .i64 t]) ∧ (Lit.int .i64 t).wf = true ∧ xs.length ≤ 7 ∧ xs.length ≤ c ∧ c ≤ 9223372036854775807 ∧ Cells w' (some ⟨g, 0, none⟩) (fr xs) ∧ Below w.heap.size w w'

end Go.Proofs.Ytmnoidgfcpbmgaa
