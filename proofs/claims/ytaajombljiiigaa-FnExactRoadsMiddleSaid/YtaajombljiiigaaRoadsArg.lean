import Derived.Test.YtaajombljiiigaaRoadsW
import Derived.Test.YtaajombljiiigaaOpenArg
namespace Go.Proofs.Ytaajombljiiigaa
open Go.RowKit Go.ChangeShapes Go.WideShapes Go.Deep

theorem unfd : ∀ (n : Nat) (zs : List Int), zs.length = n * 3 → ∃ xs : List Rd3, xs.length = n ∧ fd xs = zs := by
  intro n
  induction n with
  | zero => intro zs h; exact ⟨[], rfl, (List.eq_nil_of_length_eq_zero (by simpa using h)).symm⟩
  | succ n ih =>
    intro zs h
    match zs, h with
    | a :: b :: c :: r, h =>
      obtain ⟨xs, h1, h2⟩ := ih r (by simp at h; omega)
      exact ⟨⟨a, b, c⟩ :: xs, by simp [h1], by rw [fd_cons, h2]⟩
    | [], h => simp at h
    | [_], h => simp at h; omega
    | [_, _], h => simp at h; omega

theorem arg_roads {H : Type} {enc : TypeId × Value → H} {w : World} {fuel len cap : Nat} {a : Option Addr} {x : DataW H × List MemPlace}
    (h : DataW.trod enc Try.prog w 0 (fun _ => true) true fuel 22 [.slice a len cap] = some x) :
    ∃ xs : List Rd3, xs.length = len ∧ Cells w a (fd xs) ∧ len ≤ 9223372036854775807 := by
  obtain ⟨h1, h2, zs, h3, h4, _⟩ := arg_structs (k := 3) Try.underlying22 Try.underlying33 (by kernel_rfl) (by kernel_rfl) rfl (by omega) (fun i f hf => by
    have hi : i < 3 := by
      rcases Nat.lt_or_ge i 3 with h | h
      · exact h
      · rw [Array.getElem?_eq_none (by exact h)] at hf; cases hf
    have : i = 0 ∨ i = 1 ∨ i = 2 := by omega
    rcases this with rfl | rfl | rfl <;> (injection hf with hf; subst hf; exact Try.underlying3)) h
  obtain ⟨xs, h5, rfl⟩ := unfd len zs h3
  exact ⟨xs, h5, h4, by unfold maxLen at h2; omega⟩
end Go.Proofs.Ytaajombljiiigaa
