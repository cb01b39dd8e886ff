import Derived.Test.YtmpkdnikkganlaaDrawB
namespace Go.Proofs.Ytmpkdnikkganlaa
open Go.RowKit Go.ChangeShapes Go.WideShapes

theorem arg_bytes {H : Type} {enc : TypeId × Value → H} {w : World} {fuel len cap : Nat} {a : Option Addr} {x : DataW H × List MemPlace}
    (h : DataW.trod enc Try.prog w 0 (fun _ => true) true fuel 29 [.slice a len cap] = some x) : Bytes w a len ∧ len ≤ cap ∧ cap ≤ maxLen := by
  rcases open_ints Try.underlying29 Try.underlying5 (by kernel_rfl) h with ⟨hcs, _⟩ | ⟨y, l, c, zs, hcs, _, hl, hm, hz, _, hcell, hwz⟩
  · simp only [List.cons.injEq, Value.slice.injEq, and_true] at hcs
    obtain ⟨rfl, rfl, rfl⟩ := hcs
    exact ⟨.inl rfl, Nat.le_refl _, Nat.zero_le _⟩
  · simp only [List.cons.injEq, Value.slice.injEq, and_true] at hcs
    obtain ⟨rfl, rfl, rfl⟩ := hcs
    exact Bytes.of_row (.inr ⟨y, rfl, hl, hm, by simpa using hz, hcell, hwz⟩)
end Go.Proofs.Ytmpkdnikkganlaa
