import Derived.Test.YtmpkdnikkganlaaStopsC
import Derived.Deep.LoopGhost
import Derived.KernelRfl
import Derived.Deep.RegionWith
namespace Go.Proofs.Ytmpkdnikkganlaa
open Go.RowKit

theorem fld0 (x y z : Value) (w : World) : (Instr.field 39 (.agg #[x, y, z]) 0).run Try.prog w = .ok x w := by kernel_rfl
theorem fld1 (x y z : Value) (w : World) : (Instr.field 39 (.agg #[x, y, z]) 1).run Try.prog w = .ok y w := by kernel_rfl
theorem fld2 (x y z : Value) (w : World) : (Instr.field 39 (.agg #[x, y, z]) 2).run Try.prog w = .ok z w := by kernel_rfl

theorem drop_at (xs : List St) (k : Nat) (h : k < xs.length) : xs.drop k = ⟨tw xs k, ar xs k, lv xs k⟩ :: xs.drop (k + 1) := by
  rw [List.drop_eq_getElem_cons h]
  have : (⟨tw xs k, ar xs k, lv xs k⟩ : St) = xs[k] := by simp [tw, ar, lv, List.getElem?_eq_getElem h]
  rw [this]

theorem Chain.head {w : World} {xs : List St} {k : Nat} {a : Option Addr} (h : Chain w (xs.drop k) a) (hk : k < xs.length) :
    ∃ b nx, a = some ⟨b, 0, none⟩ ∧ w.cell? ⟨b, 0, none⟩ = some (.int .i64 (tw xs k)) ∧ w.cell? ⟨b, 1, none⟩ = some (.int .i64 (ar xs k)) ∧ w.cell? ⟨b, 2, none⟩ = some (.int .i64 (lv xs k)) ∧ w.cell? ⟨b, 3, none⟩ = some (.pointer nx) ∧ Chain w (xs.drop (k + 1)) nx ∧ b < w.heap.size := by
  rw [drop_at xs k hk] at h
  obtain ⟨b, nx, h1, h2, h3⟩ := h
  refine ⟨b, nx, h1, ?_, ?_, ?_, ?_, h3, blk_lt h2⟩ <;> (unfold World.cell?; rw [h2]; rfl)
theorem Chain.last {w : World} {xs : List St} {k : Nat} {a : Option Addr} (h : Chain w (xs.drop k) a) (hk : xs.length ≤ k) : a = none := by
  rw [List.drop_eq_nil_of_le hk] at h
  exact h
theorem Chain.drew {w : World} {xs : List St} {a : Option Addr} (h : Chain w xs a) : Chain w.drew xs a := Chain.below (w := w) (w' := w.drew) ⟨rfl, rfl, rfl, Nat.le_refl _, fun _ _ => rfl⟩ h
theorem Chain.drewN {w : World} {xs : List St} {a : Option Addr} (h : Chain w xs a) (n : Nat) : Chain (w.drewN n) xs a := Chain.below (w := w) (w' := w.drewN n) ⟨rfl, rfl, rfl, Nat.le_refl _, fun _ _ => rfl⟩ h
theorem Chain.whole {w : World} {xs : List St} {a : Option Addr} (h : Chain w xs a) : Chain w (xs.drop 0) a := h

end Go.Proofs.Ytmpkdnikkganlaa
