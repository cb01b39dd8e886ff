import Derived.Test.YtdmbgnbegnlcaaaStopsD
namespace Go.Proofs.Ytdmbgnbegnlcaaa
open Go.RowKit

theorem sWait_no (n : Int) (A : Option Addr) (c : Nat) (xs : List St) (w : World) (h : Cells w A (fl xs)) (hl : xs.length ≤ 1048576) (hv : ¬ Valid n xs) :
    Calls Try.prog 31 #[.int .i64 n, .slice A xs.length c] w fun e w' => e = .returned (.int .i64 (-1)) ∧ Below w.heap.size w w' := by
  go_enter Try.func31, Try.ntmps31
  go_wp2_with fail
  refine (sValid_no h hl hv).mono ?_
  rintro e w1 ⟨rfl, b1⟩
  clear hv h
  go_wp2_with fail
  go_ret
  exact ⟨rfl, b1⟩

theorem iWait_no (n : Int) (A : Option Addr) (c : Nat) (xs : List St) (w : World) (h : Cells w A (fl xs)) (hl : xs.length ≤ 1048576) (hv : ¬ Valid n xs) :
    Calls Try.prog 32 #[.int .i64 n, .slice A xs.length c] w fun e w' => e = .returned (.int .i64 (-1)) ∧ Below w.heap.size w w' := by
  go_enter Try.func32, Try.ntmps32
  go_wp2_with fail
  refine (link_no h hl hv).mono ?_
  rintro e w1 ⟨rfl, b1⟩
  clear hv h
  go_wp2_with fail
  go_ret
  exact ⟨rfl, b1⟩

set_option maxRecDepth 100000 in
set_option maxHeartbeats 1000000 in
theorem sWait_yes (n : Int) (A : Option Addr) (c : Nat) (xs : List St) (w : World) (h : Cells w A (fl xs)) (hl : xs.length ≤ 1048576) (hv : Valid n xs) :
    Calls Try.prog 31 #[.int .i64 n, .slice A xs.length c] w fun e w' => e = .returned (.int .i64 (waitTo xs (xs.length - 2))) ∧ Below w.heap.size w w' := by
  have l2 := hv.2.2.1
  have l8 := hv.2.2.2.1
  go_enter Try.func31, Try.ntmps31
  go_wp2_with fail
  refine (sValid_yes h hl hv).mono ?_
  rintro e w1 ⟨rfl, b1⟩
  have HV := Lib.hid hv
  clear hv
  go_wp2_with fail
  go_loopw [5, 6] (fun s i wr => ∃ k : Nat, k + 2 ≤ xs.length ∧ s = .int .i64 (waitTo xs k) ∧ i = .int .i64 ((k : Int) + 1) ∧ Below w.heap.size w wr) (fun _ i _ => xs.length - (intOf i).toNat)
  case atStart => exact ⟨0, by omega, rfl, rfl, b1⟩
  case round =>
    obtain ⟨k, hk, rfl, rfl, hbel⟩ := hrel
    by_cases hlt : k + 2 < xs.length
    · have t0 := HV.out.times (i := k + 1) (by omega)
      have bd := waitTo_bd HV.out k (by omega)
      have bd' : waitTo xs k ≤ 80000 := by omega
      have bd'' := bd.1
      obtain ⟨u0, u1, u2⟩ := t0
      clear bd
      obtain ⟨b, o, rfl, hb, -, c1, c2⟩ := h.at3 (i := k + 1) (by omega)
      have d1 := (hbel.cell (p := ⟨b, o + (k + 1) * 3 + 1, none⟩) hb).trans c1
      have d2 := (hbel.cell (p := ⟨b, o + (k + 1) * 3 + 2, none⟩) hb).trans c2
      clear c1 c2
      have e0 : (k : Int) + 1 < (xs.length : Int) := by omega
      have e1 : 0 ≤ (k : Int) + 1 := by omega
      have e2 : ((k : Int) + 1).toNat = k + 1 := by omega
      have e3 : IntKind.i64.wrap (waitTo xs k + lv xs (k + 1)) = waitTo xs k + lv xs (k + 1) := IntWalk.i64_in _ (by omega)
      have e4 : IntKind.i64.wrap (waitTo xs k + lv xs (k + 1) - ar xs (k + 1)) = waitTo xs k + lv xs (k + 1) - ar xs (k + 1) := IntWalk.i64_in _ (by omega)
      go_wp2_with fail
      go_quiet (fail)
      clear e2 e3 e4
      go_wp2_with fail
      exact ⟨⟨k + 1, by omega, by show _ = Value.int .i64 (waitTo xs k + (lv xs (k + 1) - ar xs (k + 1))); go_num, by go_num, below_drewN' hbel _⟩, by simp [intOf]; omega⟩
    · go_wp2_with fail
      go_ret
      have : k = xs.length - 2 := by omega
      exact ⟨ret_int (by rw [this]), hbel⟩

set_option maxRecDepth 100000 in
set_option maxHeartbeats 1000000 in
theorem iWait_yes (n : Int) (A : Option Addr) (c : Nat) (xs : List St) (w : World) (h : Cells w A (fl xs)) (hl : xs.length ≤ 1048576) (hv : Valid n xs) :
    Calls Try.prog 32 #[.int .i64 n, .slice A xs.length c] w fun e w' => e = .returned (.int .i64 (waitTo xs (xs.length - 2))) ∧ Below w.heap.size w w' := by
  have l2 := hv.2.2.1
  have l8 := hv.2.2.2.1
  go_enter Try.func32, Try.ntmps32
  go_wp2_with fail
  refine (link_yes h hl hv).mono ?_
  rintro e w1 ⟨b, rfl, hch, b1⟩
  have HV := Lib.hid hv
  clear hv h
  obtain ⟨b', nx, hA, -, -, -, c3, hnx, hb⟩ := hch.whole.head (by omega)
  injection hA with hA
  injection hA with hA1 hA2
  subst hA1
  clear hch
  go_wp2_with fail
  go_loopg [6, 7] xs.length (fun gk s p wr => ∃ k a, k + 2 ≤ xs.length ∧ gk = xs.length - k ∧ s = .int .i64 (waitTo xs k) ∧ p = .pointer a ∧ Chain wr (xs.drop (k + 1)) a ∧ Below w.heap.size w wr)
  case atStart => exact ⟨0, nx, by omega, by omega, rfl, rfl, hnx, b1⟩
  case round =>
    obtain ⟨k, a, hk, rfl, rfl, rfl, hch, hbel⟩ := hrel
    obtain ⟨q, nx2, rfl, -, d1, d2, d3, hn2, hq⟩ := hch.head (by omega)
    clear hnx hch b1
    by_cases hlt : k + 2 < xs.length
    · have t0 := HV.out.times (i := k + 1) (by omega)
      have bd := waitTo_bd HV.out k (by omega)
      have bd' : waitTo xs k ≤ 80000 := by omega
      have bd'' := bd.1
      obtain ⟨u0, u1, u2⟩ := t0
      clear bd
      obtain ⟨q', nx3, rfl, -, -, -, -, -, -⟩ := hn2.head (by omega)
      have e3 : IntKind.i64.wrap (lv xs (k + 1) - ar xs (k + 1)) = lv xs (k + 1) - ar xs (k + 1) := IntWalk.i64_in _ (by omega)
      have e4 : IntKind.i64.wrap (waitTo xs k + (lv xs (k + 1) - ar xs (k + 1))) = waitTo xs k + (lv xs (k + 1) - ar xs (k + 1)) := IntWalk.i64_in _ (by omega)
      have HN := Lib.hid hn2
      clear hn2
      go_wp2_with fail
      go_quiet (fail)
      clear e3 e4
      go_wp2_with fail
      go_roundg (xs.length - (k + 1))
      case rel => exact ⟨k + 1, _, by omega, rfl, rfl, rfl, HN.out.drewN _, below_drewN' hbel _⟩
      case measure => omega
    · obtain rfl := hn2.last (by omega)
      go_wp2_with fail
      go_ret
      have : k = xs.length - 2 := by omega
      exact ⟨ret_int (by rw [this]), hbel⟩

set_option maxRecDepth 100000 in
set_option maxHeartbeats 1000000 in
theorem l2At_any (A : Option Addr) (c : Nat) (xs : List St) (t : Int) (w : World) (h : Cells w A (fl xs)) (hl : xs.length ≤ 1048576) :
    Calls Try.prog 67 #[.slice A xs.length c, .int .i64 t] w fun e w' => e = .returned (.int .i64 (atV xs t)) ∧ w = w' := by
  go_enter Try.func67, Try.ntmps67
  go_wp2_with fail
  go_loop [5] (fun i => ∃ k : Nat, k ≤ xs.length ∧ i = .int .i64 k ∧ atFrom xs t (xs.length - k) k = atV xs t) (fun i => xs.length - (intOf i).toNat)
  case atStart => exact ⟨0, Nat.zero_le _, rfl, rfl⟩
  case round =>
    obtain ⟨k, hk, rfl, hat⟩ := hrel
    have HAT := Lib.hid hat
    clear hat
    by_cases hlt : k < xs.length
    · obtain ⟨b, o, rfl, hb, c0, -, -⟩ := h.at3 hlt
      have ek : xs.length - k = (xs.length - (k + 1)) + 1 := by omega
      have HEK := Lib.hid ek
      clear ek
      by_cases he : tw xs k = t
      · have he' : (tw xs k == t) = true := by simp [he]
        have HE := Lib.hid he
        clear he
        go_wp2_with fail
        go_ret
        refine ⟨ret_int ?_, rfl⟩
        rw [← HAT.out, HEK.out, atFrom, if_pos HE.out]
      · have he' : (tw xs k == t) = false := by simp [he]
        have HE := Lib.hid he
        clear he
        go_wp2_with fail
        go_round
        case rel => exact ⟨k + 1, by omega, by go_num, by rw [← HAT.out, HEK.out, atFrom, if_neg HE.out]⟩
        case measure => simp [intOf]; omega
    · go_wp2_with fail
      go_ret
      refine ⟨ret_int ?_, rfl⟩
      rw [← HAT.out, show xs.length - k = 0 by omega, atFrom]

theorem sAt_no (n t : Int) (A : Option Addr) (c : Nat) (xs : List St) (w : World) (h : Cells w A (fl xs)) (hl : xs.length ≤ 1048576) (hv : ¬ Valid n xs) :
    Calls Try.prog 33 #[.int .i64 n, .slice A xs.length c, .int .i64 t] w fun e w' => e = .returned (.int .i64 (-1)) ∧ Below w.heap.size w w' := by
  go_enter Try.func33, Try.ntmps33
  go_wp2_with fail
  refine (sValid_no h hl hv).mono ?_
  rintro e w1 ⟨rfl, b1⟩
  clear hv h
  go_wp2_with fail
  go_ret
  exact ⟨rfl, b1⟩
theorem sAt_yes (n t : Int) (A : Option Addr) (c : Nat) (xs : List St) (w : World) (h : Cells w A (fl xs)) (hl : xs.length ≤ 1048576) (hv : Valid n xs) :
    Calls Try.prog 33 #[.int .i64 n, .slice A xs.length c, .int .i64 t] w fun e w' => e = .returned (.int .i64 (atV xs t)) ∧ Below w.heap.size w w' := by
  go_enter Try.func33, Try.ntmps33
  go_wp2_with fail
  refine (sValid_yes h hl hv).mono ?_
  rintro e w1 ⟨rfl, b1⟩
  have h1 := h.below b1
  clear hv h
  go_wp2_with fail
  refine (l2At_any _ _ xs _ _ h1 hl).mono ?_
  rintro e w2 ⟨rfl, rfl⟩
  go_wp2_with fail
  go_ret
  exact ⟨rfl, b1⟩

theorem iAt_no (n t : Int) (A : Option Addr) (c : Nat) (xs : List St) (w : World) (h : Cells w A (fl xs)) (hl : xs.length ≤ 1048576) (hv : ¬ Valid n xs) :
    Calls Try.prog 34 #[.int .i64 n, .slice A xs.length c, .int .i64 t] w fun e w' => e = .returned (.int .i64 (-1)) ∧ Below w.heap.size w w' := by
  go_enter Try.func34, Try.ntmps34
  go_wp2_with fail
  refine (link_no h hl hv).mono ?_
  rintro e w1 ⟨rfl, b1⟩
  clear hv h
  go_wp2_with fail
  refine wp_loop_rounds 1 ?_
  rw [rounds_succ]
  go_wp2_with fail
  go_ret
  exact ⟨rfl, b1⟩
set_option maxRecDepth 100000 in
set_option maxHeartbeats 1000000 in
theorem iAt_yes (n t : Int) (A : Option Addr) (c : Nat) (xs : List St) (w : World) (h : Cells w A (fl xs)) (hl : xs.length ≤ 1048576) (hv : Valid n xs) :
    Calls Try.prog 34 #[.int .i64 n, .slice A xs.length c, .int .i64 t] w fun e w' => e = .returned (.int .i64 (atV xs t)) ∧ Below w.heap.size w w' := by
  go_enter Try.func34, Try.ntmps34
  go_wp2_with fail
  refine (link_yes h hl hv).mono ?_
  rintro e w1 ⟨b, rfl, hch, b1⟩
  clear hv h
  have HCH := Lib.hid hch
  clear hch
  go_wp2_with fail
  go_loopg [7, 8] (xs.length + 1) (fun gk i p wr => ∃ k a, k ≤ xs.length ∧ gk = xs.length + 1 - k ∧ i = .int .i64 (k : Int) ∧ p = .pointer a ∧ atFrom xs t (xs.length - k) k = atV xs t ∧ Chain w1 (xs.drop k) a ∧ wr = w1)
  case atStart => exact ⟨0, _, by omega, by omega, rfl, rfl, rfl, HCH.out.whole, rfl⟩
  case round =>
    obtain ⟨k, a, hk, rfl, rfl, rfl, hat, hch, rfl⟩ := hrel
    have HAT := Lib.hid hat
    clear hat
    by_cases hlt : k < xs.length
    · obtain ⟨q, nx2, rfl, d0, -, -, d3, hn2, hq⟩ := hch.head hlt
      have ek : xs.length - k = (xs.length - (k + 1)) + 1 := by omega
      have HEK := Lib.hid ek
      have HN := Lib.hid hn2
      clear ek hch hn2
      by_cases he : tw xs k = t
      · have he' : (tw xs k == t) = true := by simp [he]
        have HE := Lib.hid he
        clear he
        go_wp2_with fail
        go_ret
        refine ⟨ret_int ?_, b1⟩
        rw [← HAT.out, HEK.out, atFrom, if_pos HE.out]
      · have he' : (tw xs k == t) = false := by simp [he]
        have HE := Lib.hid he
        clear he
        go_wp2_with fail
        go_roundg (xs.length - k)
        case rel => exact ⟨k + 1, _, by omega, by omega, by go_num, rfl, by rw [← HAT.out, HEK.out, atFrom, if_neg HE.out], HN.out, rfl⟩
        case measure => omega
    · obtain rfl := hch.last (by omega)
      go_wp2_with fail
      go_ret
      refine ⟨ret_int ?_, b1⟩
      rw [← HAT.out, show xs.length - k = 0 by omega, atFrom]
end Go.Proofs.Ytdmbgnbegnlcaaa
