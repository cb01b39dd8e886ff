import Derived.Test.YtdmbgnbegnlcaaaStopsC
import Derived.Deep.LoopGhost
import Derived.KernelRfl
import Derived.Deep.RegionWith
namespace Go.Proofs.Ytdmbgnbegnlcaaa
open Go.RowKit

theorem fld0 (x y z : Value) (w : World) : (Instr.field 43 (.agg #[x, y, z]) 0).run Try.prog w = .ok x w := by kernel_rfl
theorem fld1 (x y z : Value) (w : World) : (Instr.field 43 (.agg #[x, y, z]) 1).run Try.prog w = .ok y w := by kernel_rfl
theorem fld2 (x y z : Value) (w : World) : (Instr.field 43 (.agg #[x, y, z]) 2).run Try.prog w = .ok z w := by kernel_rfl

theorem drop_at (xs : List St) (k : Nat) (h : k < xs.length) : xs.drop k = ⟨tw xs k, ar xs k, lv xs k⟩ :: xs.drop (k + 1) := by
  rw [List.drop_eq_getElem_cons h]
  have : (⟨tw xs k, ar xs k, lv xs k⟩ : St) = xs[k] := by simp [tw, ar, lv, List.getElem?_eq_getElem h]
  rw [this]

theorem Chain.head {w : World} {xs : List St} {k : Nat} {a : Option Addr} (h : Chain w (xs.drop k) a) (hk : k < xs.length) :
    ∃ b nx, a = some ⟨b, 0, none⟩ ∧ w.cell? ⟨b, 0, none⟩ = some (.int .i64 (tw xs k)) ∧ w.cell? ⟨b, 1, none⟩ = some (.int .i64 (ar xs k)) ∧ w.cell? ⟨b, 2, none⟩ = some (.int .i64 (lv xs k)) ∧ w.cell? ⟨b, 3, none⟩ = some (.pointer nx) ∧ Chain w (xs.drop (k + 1)) nx ∧ b < w.heap.size := by
  rw [drop_at xs k hk] at h
  obtain ⟨b, nx, h1, h2, h3⟩ := h
  refine ⟨b, nx, h1, ?_, ?_, ?_, ?_, h3, blk_lt h2⟩ <;> (unfold World.cell?; rw [h2]; rfl)
theorem Chain.last {w : World} {xs : List St} {k : Nat} {a : Option Addr} (h : Chain w (xs.drop k) a) (hk : xs.length ≤ k) : a = none := by
  rw [List.drop_eq_nil_of_le hk] at h
  exact h
theorem Chain.drew {w : World} {xs : List St} {a : Option Addr} (h : Chain w xs a) : Chain w.drew xs a := Chain.below (w := w) (w' := w.drew) ⟨rfl, rfl, rfl, Nat.le_refl _, fun _ _ => rfl⟩ h
theorem Chain.drewN {w : World} {xs : List St} {a : Option Addr} (h : Chain w xs a) (n : Nat) : Chain (w.drewN n) xs a := Chain.below (w := w) (w' := w.drewN n) ⟨rfl, rfl, rfl, Nat.le_refl _, fun _ _ => rfl⟩ h
theorem Chain.whole {w : World} {xs : List St} {a : Option Addr} (h : Chain w xs a) : Chain w (xs.drop 0) a := h

set_option maxRecDepth 100000 in
set_option maxHeartbeats 1000000 in
theorem last_any (xs : List St) (a : Option Addr) (w : World) (h : Chain w xs a) (hx : 1 ≤ xs.length) :
    Calls Try.prog 66 #[.pointer a] w fun e w' => e = .returned (.agg #[.int .i64 (tw xs (xs.length - 1)), .int .i64 (ar xs (xs.length - 1)), .int .i64 (lv xs (xs.length - 1))]) ∧ Below w.heap.size w w' := by
  have h' : Chain (w.alloc (.cells #[.int .i64 0, .int .i64 0, .int .i64 0] 43)) xs a := h.below ((Below.refl _ _).alloc (Nat.le_refl _) _)
  clear h
  go_enter Try.func66, Try.ntmps66
  go_wp2_with fail
  go_loopg [0] xs.length (fun gk p wr => ∃ k a', k < xs.length ∧ gk = xs.length - k ∧ p = .pointer a' ∧ Chain wr (xs.drop k) a' ∧ wr = w.alloc (.cells #[.int .i64 0, .int .i64 0, .int .i64 0] 43))
  case atStart => exact ⟨0, a, by omega, by omega, rfl, h'.whole, rfl⟩
  case round =>
    obtain ⟨k, a', hk, rfl, rfl, hch, rfl⟩ := hrel
    obtain ⟨b, nx, rfl, c0, c1, c2, c3, hnx, hb⟩ := hch.head hk
    clear hch h'
    by_cases hlt : k + 1 < xs.length
    · obtain ⟨b', nx', rfl, -, -, -, -, -, -⟩ := hnx.head hlt
      go_wp2_with fail
      go_roundg (xs.length - (k + 1))
      case rel => exact ⟨k + 1, _, hlt, rfl, rfl, hnx, rfl⟩
      case measure => omega
    · obtain rfl := hnx.last (by omega)
      obtain rfl : k = xs.length - 1 := by omega
      go_wp2_with fail
      exact bodyPost_ret (v := .agg #[.int .i64 (tw xs (xs.length - 1)), .int .i64 (ar xs (xs.length - 1)), .int .i64 (lv xs (xs.length - 1))]) (by simp [results, Try.results66, go_sem]) rfl ⟨rfl, (Below.refl _ _).alloc (Nat.le_refl _) _⟩

set_option maxRecDepth 100000 in
set_option maxHeartbeats 1000000 in
theorem sRun_yes (n : Int) (A : Option Addr) (c : Nat) (xs : List St) (w : World) (h : Cells w A (fl xs)) (hl : xs.length ≤ 1048576) (hv : Valid n xs) :
    Calls Try.prog 29 #[.int .i64 n, .slice A xs.length c] w fun e w' => e = .returned (.int .i64 (ar xs (xs.length - 1) - lv xs 0)) ∧ Below w.heap.size w w' := by
  have l2 := hv.2.2.1
  have t0 := hv.times (i := 0) (by omega)
  have t1 := hv.times (i := xs.length - 1) (by omega)
  go_enter Try.func29, Try.ntmps29
  go_wp2_with fail
  refine (sValid_yes h hl hv).mono ?_
  rintro e w1 ⟨rfl, b1⟩
  have h1 := h.below b1
  obtain ⟨b, o, rfl, hb, -, -, d2⟩ := h1.at3 (i := 0) (by omega)
  obtain ⟨b', o', hA, -, -, d1, -⟩ := h1.at3 (i := xs.length - 1) (by omega)
  injection hA with hA
  injection hA with hA1 hA2
  subst hA1 hA2
  simp only [Nat.zero_mul, Nat.add_zero] at d2
  have HV := Lib.hid hv
  clear hv h h1
  have i0 : (0 : Int) < (xs.length : Int) := by omega
  have e1 : IntKind.i64.wrap ((xs.length : Int) - 1) = (xs.length : Int) - 1 := IntWalk.i64_in _ (by omega)
  have e2 : 0 ≤ (xs.length : Int) - 1 := by omega
  have e2' : (1 : Int) ≤ (xs.length : Int) := by omega
  have e3 : ((xs.length : Int) - 1).toNat = xs.length - 1 := by omega
  have e4 : (xs.length : Int) - 1 < (xs.length : Int) := by omega
  have e5 : IntKind.i64.wrap (ar xs (xs.length - 1) - lv xs 0) = ar xs (xs.length - 1) - lv xs 0 := IntWalk.i64_in _ (by omega)
  go_wp2_with fail
  go_quiet (fail)
  clear e1 e3 e5
  go_wp2_with fail
  go_ret
  exact ⟨rfl, below_drewN' b1 _⟩

theorem sRun_no (n : Int) (A : Option Addr) (c : Nat) (xs : List St) (w : World) (h : Cells w A (fl xs)) (hl : xs.length ≤ 1048576) (hv : ¬ Valid n xs) :
    Calls Try.prog 29 #[.int .i64 n, .slice A xs.length c] w fun e w' => e = .returned (.int .i64 (-1)) ∧ Below w.heap.size w w' := by
  go_enter Try.func29, Try.ntmps29
  go_wp2_with fail
  refine (sValid_no h hl hv).mono ?_
  rintro e w1 ⟨rfl, b1⟩
  clear hv h
  go_wp2_with fail
  go_ret
  exact ⟨rfl, b1⟩

theorem iRun_no (n : Int) (A : Option Addr) (c : Nat) (xs : List St) (w : World) (h : Cells w A (fl xs)) (hl : xs.length ≤ 1048576) (hv : ¬ Valid n xs) :
    Calls Try.prog 30 #[.int .i64 n, .slice A xs.length c] w fun e w' => e = .returned (.int .i64 (-1)) ∧ Below w.heap.size w w' := by
  go_enter Try.func30, Try.ntmps30
  go_wp2_with fail
  refine (link_no h hl hv).mono ?_
  rintro e w1 ⟨rfl, b1⟩
  clear hv h
  go_wp2_with fail
  go_ret
  exact ⟨rfl, b1⟩

set_option maxRecDepth 100000 in
set_option maxHeartbeats 1000000 in
theorem iRun_yes (n : Int) (A : Option Addr) (c : Nat) (xs : List St) (w : World) (h : Cells w A (fl xs)) (hl : xs.length ≤ 1048576) (hv : Valid n xs) :
    Calls Try.prog 30 #[.int .i64 n, .slice A xs.length c] w fun e w' => e = .returned (.int .i64 (ar xs (xs.length - 1) - lv xs 0)) ∧ Below w.heap.size w w' := by
  have l2 := hv.2.2.1
  have t0 := hv.times (i := 0) (by omega)
  have t1 := hv.times (i := xs.length - 1) (by omega)
  go_enter Try.func30, Try.ntmps30
  go_wp2_with fail
  refine (link_yes h hl hv).mono ?_
  rintro e w1 ⟨b, rfl, hch, b1⟩
  clear hv h
  obtain ⟨b', nx, hA, -, -, d2, -, -, hb⟩ := hch.whole.head (by omega)
  injection hA with hA
  injection hA with hA1 hA2
  subst hA1
  have HC := Lib.hid hch
  clear hch
  have e5 : IntKind.i64.wrap (ar xs (xs.length - 1) - lv xs 0) = ar xs (xs.length - 1) - lv xs 0 := IntWalk.i64_in _ (by omega)
  go_wp2_with fail
  have HD := Lib.hid (show Chain w1.drew xs (some ⟨b, 0, none⟩) from HC.out.drew)
  have fa := fld1
  have fb := fld2
  have BD := Lib.hid (show Below w.heap.size w w1.drew from b1.drew)
  have hb' : b < w1.drew.heap.size := hb
  have d2x : w1.drew.cell? ⟨b, 2, none⟩ = some (.int .i64 (lv xs 0)) := d2
  go_region_with (go_at_call 66; refine (last_any xs _ _ HD.out (by omega)).mono ?_; rintro e w2 ⟨rfl, b2⟩; have d2' := (b2.cell (p := ⟨b, 2, none⟩) hb').trans d2x; have B2 := Lib.hid (BD.out.trans (b2.mono BD.out.size)); clear b2)
  all_goals
    clear e5
    go_wp2_with fail
    go_ret
    exact ⟨rfl, B2.out⟩
end Go.Proofs.Ytdmbgnbegnlcaaa
