import Derived.Test.YtaajombljiiigaaRoadsC
namespace Go.Proofs.Ytaajombljiiigaa
open Go.RowKit

section
variable {n : Int} {A : Option Addr} {c : Nat} {xs : List Rd3} {w : World}
theorem sDV_yes (h : Cells w A (fd xs)) (hl : xs.length ≤ 1048576) (hv : DValid n xs) :
    Calls Try.prog 11 #[.int .i64 n, .slice A xs.length c] w fun e w' => e = .returned (.bool true) ∧ Below w.heap.size w w' := by
  rw [← dvB_yes hv]; exact sDV_any n A c xs w h hl
theorem sDV_no (h : Cells w A (fd xs)) (hl : xs.length ≤ 1048576) (hv : ¬ DValid n xs) :
    Calls Try.prog 11 #[.int .i64 n, .slice A xs.length c] w fun e w' => e = .returned (.bool false) ∧ Below w.heap.size w w' := by
  rw [← dvB_no hv]; exact sDV_any n A c xs w h hl
theorem iMap_yes (h : Cells w A (fd xs)) (hl : xs.length ≤ 1048576) (hv : DValid n xs) :
    Calls Try.prog 31 #[.int .i64 n, .slice A xs.length c] w fun e w' => ∃ (b N : Nat) (bs : Nat → Nat), n = (N : Int) ∧ e = .returned (.tuple #[.map (some b), .bool true]) ∧ MB w' w.heap.size b N xs.length bs xs ∧ Below w.heap.size w w' := by
  refine (iMap_any n A c xs w h hl).mono ?_
  rintro e w' ⟨hb, ⟨_, b, N, bs, h1, h2, h3⟩ | ⟨h1, _⟩⟩
  · exact ⟨b, N, bs, h1, h2, h3, hb⟩
  · exact absurd hv h1
theorem iMap_no (h : Cells w A (fd xs)) (hl : xs.length ≤ 1048576) (hv : ¬ DValid n xs) :
    Calls Try.prog 31 #[.int .i64 n, .slice A xs.length c] w fun e w' => e = .returned (.tuple #[.map none, .bool false]) ∧ Below w.heap.size w w' := by
  refine (iMap_any n A c xs w h hl).mono ?_
  rintro e w' ⟨hb, ⟨h1, _⟩ | ⟨_, h1⟩⟩
  · exact absurd h1 hv
  · exact ⟨h1, hb⟩
theorem iDV_yes (h : Cells w A (fd xs)) (hl : xs.length ≤ 1048576) (hv : DValid n xs) :
    Calls Try.prog 13 #[.int .i64 n, .slice A xs.length c] w fun e w' => e = .returned (.bool true) ∧ Below w.heap.size w w' := by
  have HV := Lib.hid hv
  clear hv
  go_enter Try.func13, Try.ntmps13
  go_wp2_with fail
  refine (iMap_yes h hl HV.out).mono ?_
  rintro e w1 ⟨b, N, bs, -, rfl, -, b1⟩
  go_wp2_with fail
  go_ret
  exact ⟨rfl, b1⟩
theorem iDV_no (h : Cells w A (fd xs)) (hl : xs.length ≤ 1048576) (hv : ¬ DValid n xs) :
    Calls Try.prog 13 #[.int .i64 n, .slice A xs.length c] w fun e w' => e = .returned (.bool false) ∧ Below w.heap.size w w' := by
  have HV := Lib.hid hv
  clear hv
  go_enter Try.func13, Try.ntmps13
  go_wp2_with fail
  refine (iMap_no h hl HV.out).mono ?_
  rintro e w1 ⟨rfl, b1⟩
  go_wp2_with fail
  go_ret
  exact ⟨rfl, b1⟩
end
theorem iDV_any (n : Int) (A : Option Addr) (c : Nat) (xs : List Rd3) (w : World) (h : Cells w A (fd xs)) (hl : xs.length ≤ 1048576) :
    Calls Try.prog 13 #[.int .i64 n, .slice A xs.length c] w fun e w' => e = .returned (.bool (dvB n xs)) ∧ Below w.heap.size w w' := by
  by_cases hv : DValid n xs
  · rw [dvB_yes hv]; exact iDV_yes h hl hv
  · rw [dvB_no hv]; exact iDV_no h hl hv

/-- The miles of the first k roads. -/
def smM (xs : List Rd3) : Nat → Int
  | 0 => 0
  | k + 1 => smM xs k + rm xs k
theorem smM_le {n : Int} {xs : List Rd3} (hv : DValid n xs) : ∀ k, k ≤ xs.length → 0 ≤ smM xs k ∧ smM xs k ≤ 99 * k := by
  intro k
  induction k with
  | zero => intro _; simp [smM]
  | succ k ih =>
    intro hk
    obtain ⟨h1, h2⟩ := ih (by omega)
    obtain ⟨-, -, -, h3, h4, -⟩ := hv.2.2.2 k hk
    simp only [smM]
    omega
open Classical in
noncomputable def lenV (n : Int) (xs : List Rd3) : Int := if DValid n xs then smM xs xs.length else -1
theorem lenV_yes {n : Int} {xs : List Rd3} (h : DValid n xs) : lenV n xs = smM xs xs.length := if_pos h
theorem lenV_no {n : Int} {xs : List Rd3} (h : ¬ DValid n xs) : lenV n xs = -1 := if_neg h

set_option maxRecDepth 100000 in
set_option maxHeartbeats 1000000 in
theorem sLen_any (n : Int) (A : Option Addr) (c : Nat) (xs : List Rd3) (w : World) (h : Cells w A (fd xs)) (hl : xs.length ≤ 1048576) :
    Calls Try.prog 15 #[.int .i64 n, .slice A xs.length c] w fun e w' => e = .returned (.int .i64 (lenV n xs)) ∧ Below w.heap.size w w' := by
  by_cases hv : DValid n xs
  · have HV := Lib.hid hv
    have h16 := hv.2.2.1
    rw [lenV_yes hv]
    clear hv
    go_enter Try.func15, Try.ntmps15
    go_wp2_with fail
    refine (sDV_yes h hl HV.out).mono ?_
    rintro e w1 ⟨rfl, b1⟩
    have B1 := Lib.hid b1
    have h1 := h.below b1
    clear b1 h
    go_wp2_with fail
    go_loop [5, 6] (fun s i => ∃ k : Nat, k ≤ xs.length ∧ s = .int .i64 (smM xs k) ∧ i = .int .i64 k) (fun _ i => xs.length - (intOf i).toNat)
    case atStart => exact ⟨0, Nat.zero_le _, rfl, rfl⟩
    case round =>
      obtain ⟨k, hk, rfl, rfl⟩ := hrel
      obtain ⟨z1, z2⟩ := smM_le HV.out k hk
      by_cases hlt : k < xs.length
      · obtain ⟨y1, y2⟩ := smM_le HV.out (k + 1) hlt
        obtain ⟨b, o, rfl, hb, -, -, c2⟩ := h1.at3 hlt
        have e5 : IntKind.i64.wrap (smM xs k + rm xs k) = smM xs (k + 1) := IntWalk.i64_in _ (by simp only [smM] at y1 y2; omega)
        go_wp2_with fail
        go_round
        case rel => exact ⟨k + 1, by omega, rfl, by go_num⟩
        case measure => simp [intOf]; omega
      · obtain rfl : k = xs.length := by omega
        go_wp2_with fail
        go_ret
        exact ⟨rfl, B1.out⟩
  · have HV := Lib.hid hv
    rw [lenV_no hv]
    clear hv
    go_enter Try.func15, Try.ntmps15
    go_wp2_with fail
    refine (sDV_no h hl HV.out).mono ?_
    rintro e w1 ⟨rfl, b1⟩
    go_wp2_with fail
    go_ret
    exact ⟨rfl, b1⟩

set_option maxRecDepth 100000 in
set_option maxHeartbeats 1000000 in
theorem iLen_any (n : Int) (A : Option Addr) (c : Nat) (xs : List Rd3) (w : World) (h : Cells w A (fd xs)) (hl : xs.length ≤ 1048576) :
    Calls Try.prog 16 #[.int .i64 n, .slice A xs.length c] w fun e w' => e = .returned (.int .i64 (lenV n xs)) ∧ Below w.heap.size w w' := by
  by_cases hv : DValid n xs
  · have HV := Lib.hid hv
    have h16 := hv.2.2.1
    rw [lenV_yes hv]
    clear hv
    go_enter Try.func16, Try.ntmps16
    go_wp2_with fail
    refine (iDV_yes h hl HV.out).mono ?_
    rintro e w1 ⟨rfl, b1⟩
    have B1 := Lib.hid b1
    clear b1
    go_wp2_with fail
    go_loopw [5, 14] (fun s i wr => ∃ k : Nat, k ≤ xs.length ∧ s = .int .i64 (smM xs k) ∧ i = .int .i64 k ∧ Below w.heap.size w wr) (fun _ i _ => xs.length - (intOf i).toNat)
    case atStart => exact ⟨0, Nat.zero_le _, rfl, rfl, B1.out⟩
    case round =>
      obtain ⟨k, hk, rfl, rfl, hbel⟩ := hrel
      obtain ⟨z1, z2⟩ := smM_le HV.out k hk
      by_cases hlt : k < xs.length
      · obtain ⟨y1, y2⟩ := smM_le HV.out (k + 1) hlt
        obtain ⟨b, o, rfl, hb, c0, c1, c2⟩ := (h.below hbel).at3 hlt
        have HB := Lib.hid hbel
        have e5 : IntKind.i64.wrap (smM xs k + rm xs k) = smM xs (k + 1) := IntWalk.i64_in _ (by simp only [smM] at y1 y2; omega)
        clear hbel
        go_wp2_with fail
        exact ⟨⟨k + 1, by omega, rfl, by go_num, HB.out.alloc HB.out.size _⟩, by simp [intOf]; omega⟩
      · obtain rfl : k = xs.length := by omega
        go_wp2_with fail
        go_ret
        exact ⟨rfl, hbel⟩
  · have HV := Lib.hid hv
    rw [lenV_no hv]
    clear hv
    go_enter Try.func16, Try.ntmps16
    go_wp2_with fail
    refine (iDV_no h hl HV.out).mono ?_
    rintro e w1 ⟨rfl, b1⟩
    go_wp2_with fail
    go_ret
    exact ⟨rfl, b1⟩
end Go.Proofs.Ytaajombljiiigaa
