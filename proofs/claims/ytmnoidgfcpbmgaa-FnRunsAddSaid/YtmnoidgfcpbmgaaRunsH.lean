import Derived.Test.YtmnoidgfcpbmgaaRunsG
import Derived.Test.YtmnoidgfcpbmgaaRunsK
import Derived.OwnWalk
namespace Go.Proofs.Ytmnoidgfcpbmgaa
open Go.RowKit

theorem own_formI {w : World} {B n : Nat} {e : TypeId} {size : Nat} {v : Value} {L : List Value} (h : w.ownsRow B e size v n L) : ∃ A c, v = .slice A n c := by
  rcases h.2 with ⟨h1, h2⟩ | ⟨g, cap, cur, h1, _⟩
  · subst h2; exact ⟨none, 0, h1⟩
  · exact ⟨_, _, h1⟩

theorem pair_ret {A : Option Addr} {c n n' : Nat} {b b' : Bool} (h1 : n = n') (h2 : b = b') : Ending.returned (.tuple #[.slice A n c, .bool b]) = .returned (.tuple #[.slice A n' c, .bool b']) := by rw [h1, h2]

/-- What a function that returns a list of numbers and a bool leaves. -/
def IPair (zs : List Int) (ok : Bool) (w : World) (e : Ending) (w' : World) : Prop := ∃ A c, e = .returned (.tuple #[.slice A zs.length c, .bool ok]) ∧ IOwn w' w.heap.size A c zs ∧ Below w.heap.size w w'
/-- What a function that returns runs and a bool leaves. -/
def RPair (xs : List Rn) (ok : Bool) (w : World) (e : Ending) (w' : World) : Prop := ∃ A c, e = .returned (.tuple #[.slice A xs.length c, .bool ok]) ∧ ROwn w' w.heap.size A c xs ∧ Below w.heap.size w w'

open Classical in
noncomputable def okB (xs : List Rn) (rest : Int) : Bool := decide (ROk xs rest)
theorem okB_yes {xs : List Rn} {rest : Int} (h : ROk xs rest) : okB xs rest = true := by simp [okB, h]
theorem okB_no {xs : List Rn} {rest : Int} (h : ¬ ROk xs rest) : okB xs rest = false := by simp [okB, h]
open Classical in
/-- What RosterMake returns. -/
noncomputable def rmL (xs : List Rn) (rest : Int) : List Int := if ROk xs rest then gRo xs rest else []
theorem rmL_yes {xs : List Rn} {rest : Int} (h : ROk xs rest) : rmL xs rest = gRo xs rest := if_pos h
theorem rmL_no {xs : List Rn} {rest : Int} (h : ¬ ROk xs rest) : rmL xs rest = [] := if_neg h
theorem rmL_len (xs : List Rn) (rest : Int) : (rmL xs rest).length ≤ 1048576 := by
  by_cases h : ROk xs rest
  · rw [rmL_yes h, gRo_len]; have := h.1.1; omega
  · rw [rmL_no h]; simp

open Classical in
/-- Number i stands nowhere among the first k. -/
noncomputable def frB (ro : List Int) (i k : Nat) : Bool := decide (∀ j, j < k → ri ro j ≠ ri ro i)
theorem frB_zero (ro : List Int) (i : Nat) : frB ro i 0 = true := by simp [frB]
theorem frB_hit {ro : List Int} {i k : Nat} (h : ri ro k = ri ro i) : frB ro i (k + 1) = false := by
  simp only [frB, decide_eq_false_iff_not]
  intro g
  exact g k (by omega) h
theorem frB_miss {ro : List Int} {i k : Nat} (h : ri ro k ≠ ri ro i) : frB ro i (k + 1) = frB ro i k := by
  simp only [frB]
  congr 1
  apply propext
  constructor
  · intro g j hj; exact g j (by omega)
  · intro g j hj
    rcases Nat.lt_or_ge j k with a | a
    · exact g j a
    · obtain rfl : j = k := by omega
      exact h
theorem frB_off {ro : List Int} {i k : Nat} (h : frB ro i k = false) : frB ro i (k + 1) = false := by
  simp only [frB, decide_eq_false_iff_not] at h ⊢
  intro g
  exact h fun j hj => g j (by omega)
theorem diffTo_yes {ro : List Int} {i : Nat} (h : frB ro i i = true) : diffTo ro (i + 1) = diffTo ro i + 1 := by
  simp only [frB, decide_eq_true_eq] at h
  simp only [diffTo]
  rw [if_pos h]
theorem diffTo_no {ro : List Int} {i : Nat} (h : frB ro i i = false) : diffTo ro (i + 1) = diffTo ro i := by
  simp only [frB, decide_eq_false_iff_not] at h
  simp only [diffTo]
  rw [if_neg h]
  rfl

open Classical in
/-- What RosterTeams returns. -/
noncomputable def rtV (xs : List Rn) (rest : Int) (ro : List Int) : Int := if RoValid xs rest ro then ((diffTo ro ro.length : Nat) : Int) else -1
theorem rtV_yes {xs : List Rn} {rest : Int} {ro : List Int} (h : RoValid xs rest ro) : rtV xs rest ro = ((diffTo ro ro.length : Nat) : Int) := if_pos h
theorem rtV_no {xs : List Rn} {rest : Int} {ro : List Int} (h : ¬ RoValid xs rest ro) : rtV xs rest ro = -1 := if_neg h

section
variable {A R : Option Addr} {c rc : Nat} {xs : List Rn} {rest : Int} {ro : List Int} {w : World}
theorem iRoV_yes (h : Cells w A (fr xs)) (hr : Cells w R ro) (hl : xs.length ≤ 1048576) (hrl : ro.length ≤ 1048576) (hv : RoValid xs rest ro) :
    Calls Try.prog 33 #[.slice A xs.length c, .int .i64 rest, .slice R ro.length rc] w fun e w' => e = .returned (.bool true) ∧ Below w.heap.size w w' := by
  rw [← roB_yes hv]; exact iRoV_any A R c rc xs rest ro w h hr hl hrl
theorem iRoV_no (h : Cells w A (fr xs)) (hr : Cells w R ro) (hl : xs.length ≤ 1048576) (hrl : ro.length ≤ 1048576) (hv : ¬ RoValid xs rest ro) :
    Calls Try.prog 33 #[.slice A xs.length c, .int .i64 rest, .slice R ro.length rc] w fun e w' => e = .returned (.bool false) ∧ Below w.heap.size w w' := by
  rw [← roB_no hv]; exact iRoV_any A R c rc xs rest ro w h hr hl hrl
end
open Classical in
/-- What TeamsLeast returns. -/
noncomputable def tlV (xs : List Rn) (rest : Int) : Int := if ROk xs rest then ((most xs rest : Nat) : Int) else -1
theorem tlV_yes {xs : List Rn} {rest : Int} (h : ROk xs rest) : tlV xs rest = ((most xs rest : Nat) : Int) := if_pos h
theorem tlV_no {xs : List Rn} {rest : Int} (h : ¬ ROk xs rest) : tlV xs rest = -1 := if_neg h

end Go.Proofs.Ytmnoidgfcpbmgaa
