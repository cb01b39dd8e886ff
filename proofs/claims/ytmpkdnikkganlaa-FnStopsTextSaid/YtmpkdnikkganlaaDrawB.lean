import Derived.Test.YtmpkdnikkganlaaDraw
namespace Go.Proofs.Ytmpkdnikkganlaa
open Go.RowKit

/-- A slice of bytes that can be read. -/
def Bytes (w : World) (a : Option Addr) (len : Nat) : Prop :=
  len = 0 ∨ ∃ ab ao, a = some ⟨ab, ao, none⟩ ∧ ab < w.heap.size ∧ ∀ i, i < len → ∃ v : Int, 0 ≤ v ∧ v < 256 ∧ w.cell? ⟨ab, ao + i, none⟩ = some (.int .u8 v)

theorem Bytes.of_row {w : World} {a : Option Addr} {len cap : Nat} {zs : List Int}
    (h : (a = none ∧ len = 0 ∧ cap = 0 ∧ zs = []) ∨ ∃ x, a = some x ∧ len ≤ cap ∧ cap ≤ maxLen ∧ zs.length = cap ∧ (∀ i, i < zs.length → w.cell? (x.add i) = some (.int .u8 (zs.getD i 0))) ∧ ∀ n ∈ zs, (Lit.int .u8 n).wf = true) :
    Bytes w a len ∧ len ≤ cap ∧ cap ≤ maxLen := by
  rcases h with ⟨rfl, rfl, rfl, rfl⟩ | ⟨x, rfl, h1, h2, h3, h4, h5⟩
  · exact ⟨.inl rfl, Nat.le_refl _, Nat.zero_le _⟩
  · refine ⟨?_, h1, h2⟩
    by_cases hl : len = 0
    · exact .inl hl
    · obtain ⟨b, off, rfl, hc⟩ := ints_at h4 (by omega)
      refine .inr ⟨b, off, rfl, ?_, fun i hi => ?_⟩
      · have := hc 0 (by omega)
        unfold World.cell? at this
        rcases Nat.lt_or_ge b w.heap.size with h | h
        · exact h
        · simp [Array.getElem?_eq_none h] at this
      · have hm : zs.getD i 0 ∈ zs := by
          rw [List.getD_eq_getElem?_getD, List.getElem?_eq_getElem (by omega)]
          exact List.getElem_mem _
        have hw := bounds_u8 (h5 _ hm)
        exact ⟨zs.getD i 0, by omega, by omega, hc i (by omega)⟩

/-- What l6Open leaves: a reader in a new block. -/
def Opened (w : World) (e : Ending) (w' : World) : Prop := e = .returned (.pointer (some ⟨w.heap.size, 0, none⟩)) ∧ Rd w' w.heap.size 0 ∧ Below w.heap.size w w' ∧ w'.heap.size = w.heap.size + 1

theorem open_short (a : Option Addr) (len cap : Nat) (w : World) (hl : len ≤ 2000) :
    Calls Try.prog 22 #[.slice a len cap] w fun e w' => e = .returned (.pointer (some ⟨w.heap.size, 0, none⟩)) ∧ w' = w.alloc (.cells #[.slice a len cap, .int .i64 0] 72) := by
  go_enter Try.func22, Try.ntmps22
  go_wp2_with fail
  go_ret
  exact ⟨rfl, rfl⟩

theorem open_long (ab ao len cap : Nat) (w : World) (hl : 2000 < len) (hc : len ≤ cap) (hm : cap ≤ 9223372036854775807) :
    Calls Try.prog 22 #[.slice (some ⟨ab, ao, none⟩) len cap] w fun e w' => e = .returned (.pointer (some ⟨w.heap.size, 0, none⟩)) ∧ w' = w.alloc (.cells #[.slice (some ⟨ab, ao, none⟩) 2000 cap, .int .i64 0] 72) := by
  go_enter Try.func22, Try.ntmps22
  go_wp2_with fail
  go_ret
  exact ⟨rfl, rfl⟩

theorem rd_new (w : World) (a : Option Addr) (len cap : Nat) (h : Bytes w a len) (hl : len ≤ 2000) : Rd (w.alloc (.cells #[.slice a len cap, .int .i64 0] 72)) w.heap.size 0 := by
  refine ⟨a, len, cap, 0, ?_, Int.le_refl _, Int.le_refl _, hl, ?_⟩
  · show (w.heap.push _)[w.heap.size]? = _
    simp
  · rcases h with h | ⟨ab, ao, rfl, hlt, hv⟩
    · exact .inl h
    · refine .inr ⟨ab, ao, rfl, hlt, fun i hi => ?_⟩
      obtain ⟨v, v0, v1, v2⟩ := hv i hi
      exact ⟨v, v0, v1, by rw [← v2]; exact World.cell?_of_block (w := w) (Below.heap_alloc _ _ _ hlt)⟩

theorem open_any (a : Option Addr) (len cap : Nat) (w : World) (h : Bytes w a len) (hc : len ≤ cap) (hm : cap ≤ maxLen) :
    Calls Try.prog 22 #[.slice a len cap] w (Opened w) := by
  by_cases hl : len ≤ 2000
  · refine (open_short a len cap w hl).mono ?_
    rintro e w' ⟨rfl, rfl⟩
    exact ⟨rfl, rd_new w a len cap h hl, (Below.refl _ _).alloc (Nat.le_refl _) _, by simp⟩
  · rcases h with h | ⟨ab, ao, rfl, hlt, hv⟩
    · omega
    · refine (open_long ab ao len cap w (by omega) hc (by unfold maxLen at hm; omega)).mono ?_
      rintro e w' ⟨rfl, rfl⟩
      exact ⟨rfl, rd_new w _ 2000 cap (.inr ⟨ab, ao, rfl, hlt, fun i hi => hv i (by omega)⟩) (by omega), (Below.refl _ _).alloc (Nat.le_refl _) _, by simp⟩
end Go.Proofs.Ytmpkdnikkganlaa
