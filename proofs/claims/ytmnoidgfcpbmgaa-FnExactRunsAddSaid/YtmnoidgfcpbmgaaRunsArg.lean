import Derived.Test.YtmnoidgfcpbmgaaRunsW
import Derived.Test.YtmnoidgfcpbmgaaOpenArg
namespace Go.Proofs.Ytmnoidgfcpbmgaa
open Go.RowKit Go.ChangeShapes Go.WideShapes Go.Deep

theorem unfr : ∀ (n : Nat) (zs : List Int), zs.length = n * 2 → ∃ xs : List Rn, xs.length = n ∧ fr xs = zs := by
  intro n
  induction n with
  | zero => intro zs h; exact ⟨[], rfl, (List.eq_nil_of_length_eq_zero (by simpa using h)).symm⟩
  | succ n ih =>
    intro zs h
    match zs, h with
    | a :: b :: r, h =>
      obtain ⟨xs, h1, h2⟩ := ih r (by simp at h; omega)
      exact ⟨⟨a, b⟩ :: xs, by simp [h1], by rw [fr_cons, h2]⟩
    | [], h => simp at h
    | [_], h => simp at h; omega

theorem arg_runs {H : Type} {enc : TypeId × Value → H} {w : World} {fuel len cap : Nat} {a : Option Addr} {x : DataW H × List MemPlace}
    (h : DataW.trod enc Try.prog w 0 (fun _ => true) true fuel 33 [.slice a len cap] = some x) :
    ∃ xs : List Rn, xs.length = len ∧ Cells w a (fr xs) ∧ len ≤ 9223372036854775807 := by
  obtain ⟨h1, h2, zs, h3, h4, _⟩ := arg_structs (k := 2) Try.underlying33 Try.underlying34 (by kernel_rfl) (by kernel_rfl) rfl (by omega) (fun i f hf => by
    have hi : i < 2 := by
      rcases Nat.lt_or_ge i 2 with h | h
      · exact h
      · rw [Array.getElem?_eq_none (by exact h)] at hf; cases hf
    have : i = 0 ∨ i = 1 := by omega
    rcases this with rfl | rfl <;> (injection hf with hf; subst hf; exact Try.underlying3)) h
  obtain ⟨xs, h5, rfl⟩ := unfr len zs h3
  exact ⟨xs, h5, h4, by unfold maxLen at h2; omega⟩

theorem arg_intS {H : Type} {enc : TypeId × Value → H} {w : World} {fuel len cap : Nat} {a : Option Addr} {x : DataW H × List MemPlace}
    (h : DataW.trod enc Try.prog w 0 (fun _ => true) true fuel 45 [.slice a len cap] = some x) :
    ∃ xs : List Int, xs.length = len ∧ Cells w a xs ∧ len ≤ 9223372036854775807 := by
  obtain ⟨h1, h2, zs, h3, h4, _⟩ := arg_ints Try.underlying45 Try.underlying3 (by kernel_rfl) h
  exact ⟨zs, h3, h4, by unfold maxLen at h2; omega⟩
end Go.Proofs.Ytmnoidgfcpbmgaa
