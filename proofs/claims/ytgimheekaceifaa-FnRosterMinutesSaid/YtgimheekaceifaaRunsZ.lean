import Derived.Test.YtgimheekaceifaaRunsY
import Derived.Test.YtgimheekaceifaaRunsQ
namespace Go.Proofs.Ytgimheekaceifaa
open Go.RowKit

/-- One of the first k numbers is n. -/
def haB (zs : List Int) (n : Int) : Nat → Bool
  | 0 => false
  | k + 1 => haB zs n k || (ri zs k == n)
theorem haB_iff {zs : List Int} {n : Int} : ∀ k, haB zs n k = true ↔ ∃ j, j < k ∧ ri zs j = n := by
  intro k
  induction k with
  | zero => simp [haB]
  | succ k ih =>
    simp only [haB, Bool.or_eq_true, beq_iff_eq, ih]
    constructor
    · rintro (⟨j, h1, h2⟩ | h)
      · exact ⟨j, by omega, h2⟩
      · exact ⟨k, by omega, h⟩
    · rintro ⟨j, h1, h2⟩
      rcases Nat.lt_or_ge j k with g | g
      · exact .inl ⟨j, g, h2⟩
      · exact .inr (by rw [show k = j by omega]; exact h2)

set_option maxRecDepth 100000 in
set_option maxHeartbeats 400000 in
theorem hasInt_any (A : Option Addr) (c : Nat) (zs : List Int) (n : Int) (w : World) (h : Cells w A zs) (hn : zs.length ≤ 1048576) :
    Calls Try.prog 67 #[.slice A zs.length c, .int .i64 n] w fun e w' => e = .returned (.bool (haB zs n zs.length)) ∧ Below w.heap.size w w' := by
  go_enter Try.func67, Try.ntmps67
  go_wp2_with fail
  go_loopw [5] (fun i wr => ∃ k : Nat, k ≤ zs.length ∧ i = .int .i64 k ∧ haB zs n k = false ∧ Below w.heap.size w wr) (fun i _ => zs.length - (intOf i).toNat)
  case atStart => exact ⟨0, Nat.zero_le _, rfl, rfl, Below.refl _ _⟩
  case round =>
    obtain ⟨k, hk, rfl, hf, hbel⟩ := hrel
    have HF := Lib.hid hf
    clear hf
    by_cases hlt : k < zs.length
    · obtain ⟨b, o, hA, hb, c0⟩ := h.at1 hlt
      have d0 := (hbel.cell (p := ⟨b, o + k, none⟩) hb).trans c0
      subst hA
      clear c0
      have i1 : (k : Int) < (zs.length : Int) := by omega
      by_cases he : ri zs k = n
      · have he' : (ri zs k == n) = true := by simp [he]
        have HT := Lib.hid (show haB zs n zs.length = true from (haB_iff _).mpr ⟨k, hlt, he⟩)
        clear he
        go_wp2_with fail
        go_ret
        exact ⟨ret_bool HT.out.symm, hbel⟩
      · have he' : (ri zs k == n) = false := by simp [he]
        have HN := Lib.hid (show haB zs n (k + 1) = false by simp [haB, HF.out, he])
        clear he
        go_wp2_with fail
        exact ⟨⟨k + 1, by omega, by go_num, HN.out, hbel⟩, by simp [intOf]; omega⟩
    · obtain rfl : k = zs.length := by omega
      go_wp2_with fail
      go_ret
      exact ⟨ret_bool HF.out.symm, hbel⟩

set_option maxRecDepth 100000 in
set_option maxHeartbeats 400000 in
theorem sumOf_any (A : Option Addr) (c : Nat) (zs : List Int) (w : World) (h : Cells w A zs) (hn : zs.length ≤ 12) (hb : ∀ j, j < zs.length → 0 ≤ ri zs j ∧ ri zs j ≤ 200000) :
    Calls Try.prog 68 #[.slice A zs.length c] w fun e w' => e = .returned (.int .i64 (isum (ri zs) zs.length)) ∧ Below w.heap.size w w' := by
  have HBD := Lib.hid hb
  have hsum : ∀ k, k ≤ zs.length → 0 ≤ isum (ri zs) k ∧ isum (ri zs) k ≤ 200000 * (k : Int) := by
    intro k
    induction k with
    | zero => intro _; simp [isum]
    | succ k ih =>
      intro hk
      have h1 := ih (by omega)
      have h2 := hb k (by omega)
      simp only [isum]
      omega
  have HS := Lib.hid hsum
  clear hb hsum
  go_enter Try.func68, Try.ntmps68
  go_wp2_with fail
  go_loopw [3, 4] (fun s i wr => ∃ k : Nat, k ≤ zs.length ∧ s = .int .i64 (isum (ri zs) k) ∧ i = .int .i64 k ∧ Below w.heap.size w wr) (fun _ i _ => zs.length - (intOf i).toNat)
  case atStart => exact ⟨0, Nat.zero_le _, rfl, rfl, Below.refl _ _⟩
  case round =>
    obtain ⟨k, hk, rfl, rfl, hbel⟩ := hrel
    by_cases hlt : k < zs.length
    · obtain ⟨b, o, hA, hb, c0⟩ := h.at1 hlt
      have d0 := (hbel.cell (p := ⟨b, o + k, none⟩) hb).trans c0
      subst hA
      clear c0
      have i1 : (k : Int) < (zs.length : Int) := by omega
      obtain ⟨s0, s1⟩ := HS.out k hk
      obtain ⟨z0, z1⟩ := HBD.out k hlt
      have E := Lib.hid (show isum (ri zs) (k + 1) = isum (ri zs) k + ri zs k from rfl)
      obtain ⟨s, hs⟩ : ∃ s, s = isum (ri zs) k := ⟨_, rfl⟩
      rw [← hs] at s0 s1 E ⊢
      clear hs
      go_wp2_with fail
      exact ⟨⟨k + 1, by omega, by rw [E.out], by go_num, hbel⟩, by simp [intOf]; omega⟩
    · obtain rfl : k = zs.length := by omega
      go_wp2_with fail
      go_ret
      exact ⟨rfl, hbel⟩

theorem iMin_yes (A R : Option Addr) (c rc : Nat) (xs : List Rn) (rest : Int) (ro zs : List Int) (w : World) (h : Cells w A (fr xs)) (hr : Cells w R ro) (hl : xs.length ≤ 1048576) (hrl : ro.length ≤ 1048576) (hv : RoValid xs rest ro) (hz : zs = mnL xs ro xs.length) :
    Calls Try.prog 51 #[.slice A xs.length c, .int .i64 rest, .slice R ro.length rc] w (GotI zs w) := by
  have := iMin_any A R c rc xs rest ro w h hr hl hrl
  rw [mrL_yes hv, roB_yes hv, ← hz] at this
  exact this.mono fun e w' h => h.got
theorem sMin_yes (A R : Option Addr) (c rc : Nat) (xs : List Rn) (rest : Int) (ro zs : List Int) (w : World) (h : Cells w A (fr xs)) (hr : Cells w R ro) (hl : xs.length ≤ 1048576) (hrl : ro.length ≤ 1048576) (hv : RoValid xs rest ro) (hz : zs = mnL xs ro xs.length) :
    Calls Try.prog 50 #[.slice A xs.length c, .int .i64 rest, .slice R ro.length rc] w (GotI zs w) := by
  have := sMin_any A R c rc xs rest ro w h hr hl hrl
  rw [mrL_yes hv, roB_yes hv, ← hz] at this
  exact this.mono fun e w' h => h.got
end Go.Proofs.Ytgimheekaceifaa
