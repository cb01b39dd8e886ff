import Derived.Test.YtaajombljiiigaaHeapW
import Derived.RegionTactic
import Derived.Deep.RegionHeld3
namespace Go.Proofs.Ytaajombljiiigaa
open Go.RowKit

set_option maxRecDepth 100000 in
set_option maxHeartbeats 1000000 in
theorem less_any (g a c i j : Nat) (xs : List Rn) (w : World) (h : HIs w g (some ⟨a, 0, none⟩) c xs) (hi : i < xs.length) (hj : j < xs.length) (hn : xs.length ≤ 1000) :
    Calls Try.prog 64 #[.slice (some ⟨a, 0, none⟩) xs.length c, .int .i64 (i : Int), .int .i64 (j : Int)] w fun e w' => e = .returned (.bool (decide ((pg xs i).e < (pg xs j).e))) ∧ ∃ m, w' = w.drewN m := by
  obtain ⟨x0, x1⟩ := h.cell hi
  obtain ⟨y0, y1⟩ := h.cell hj
  have i1 : (i : Int) < (xs.length : Int) := by omega
  have i2 : (j : Int) < (xs.length : Int) := by omega
  clear h
  go_enter Try.func64, Try.ntmps64
  go_wp2_with fail
  go_quiet (fail)
  go_wp2_with fail
  go_ret
  exact ⟨rfl, _, rfl⟩

theorem HIs.drew {w : World} {g c : Nat} {A : Option Addr} {xs : List Rn} (h : HIs w g A c xs) : HIs w.drew g A c xs := h.below (Below.refl _ _).drew
theorem HIs.drewN {w : World} {g c : Nat} {A : Option Addr} {xs : List Rn} (h : HIs w g A c xs) (m : Nat) : HIs (w.drewN m) g A c xs := h.below ⟨rfl, rfl, rfl, Nat.le_refl _, fun _ _ => rfl⟩

set_option maxRecDepth 100000 in
set_option maxHeartbeats 2000000 in
theorem swap_any (g a c i j : Nat) (xs : List Rn) (w : World) (h : HIs w g (some ⟨a, 0, none⟩) c xs) (hi : i < xs.length) (hj : j < xs.length) (hle : i ≤ j) (hn : xs.length ≤ 1000) :
    Calls Try.prog 67 #[.slice (some ⟨a, 0, none⟩) xs.length c, .int .i64 (i : Int), .int .i64 (j : Int)] w fun e w' => e = .returned (.tuple #[]) ∧ HIs w' g (some ⟨a, 0, none⟩) c (sw xs i j) ∧ Touch g (some a) w w' := by
  obtain ⟨x0, x1⟩ := h.cell hi
  obtain ⟨y0, y1⟩ := h.cell hj
  have z0 := h.frozen (i * 2)
  have z1 := h.frozen (i * 2 + 1)
  have z2 := h.frozen (j * 2)
  have z3 := h.frozen (j * 2 + 1)
  have i1 : (i : Int) < (xs.length : Int) := by omega
  have i2 : (j : Int) < (xs.length : Int) := by omega
  have H := Lib.hid h
  clear h
  rcases Nat.lt_or_ge i j with hij | hij
  · go_enter Try.func67, Try.ntmps67
    go_wp2_with fail
    go_region
    have P6 := ((H.out.set i (pg xs j)).set j (pg xs i)).drew
    have T6 : Touch g (some a) w _ := (((((Touch.refl g (some a) w).trans (grown_touch (setCell_grown w a (i * 2) (.int .i64 (pg xs j).s)) (.inr (.inl rfl)))).trans (grown_touch (setCell_grown _ a (i * 2 + 1) (.int .i64 (pg xs j).e)) (.inr (.inl rfl)))).trans (grown_touch (setCell_grown _ a (j * 2) (.int .i64 (pg xs i).s)) (.inr (.inl rfl)))).trans (grown_touch (setCell_grown _ a (j * 2 + 1) (.int .i64 (pg xs i).e)) (.inr (.inl rfl)))).drew
    have R := Lib.hid (And.intro P6 T6)
    clear P6 T6 x0 x1 y0 y1 z0 z1 z2 z3
    go_wp2_with fail
    go_end0
    exact ⟨rfl, by have := R.out.1; simpa [sw] using this, R.out.2⟩
  · obtain rfl : i = j := by omega
    go_enter Try.func67, Try.ntmps67
    go_wp2_with fail
    go_region
    have P6 := ((H.out.set i (pg xs i)).set i (pg xs i)).drew
    have T6 : Touch g (some a) w _ := (((((Touch.refl g (some a) w).trans (grown_touch (setCell_grown w a (i * 2) (.int .i64 (pg xs i).s)) (.inr (.inl rfl)))).trans (grown_touch (setCell_grown _ a (i * 2 + 1) (.int .i64 (pg xs i).e)) (.inr (.inl rfl)))).trans (grown_touch (setCell_grown _ a (i * 2) (.int .i64 (pg xs i).s)) (.inr (.inl rfl)))).trans (grown_touch (setCell_grown _ a (i * 2 + 1) (.int .i64 (pg xs i).e)) (.inr (.inl rfl)))).drew
    have R := Lib.hid (And.intro P6 T6)
    clear P6 T6 x0 x1 y0 y1 z0 z1 z2 z3
    go_wp2_with fail
    go_end0
    exact ⟨rfl, by have := R.out.1; simpa [sw] using this, R.out.2⟩

theorem wrap_chk (a : Array TypeId) (t : TypeId) (p : Addr) (s u : String) (w : World) : (Builtin.ssaWrapNilChk_ a t #[.pointer (some p), strVal s, strVal u]).run Try.prog w = .ok (.pointer (some p)) w := rfl
theorem meth_val (nm : String) (f : Nat) (g : Nat) (v : Value) (w : World) (hk : ((Try.prog.info? 61).bind (fun i => i.methods.find? (fun m => m.name == nm))).map (fun m => (m.path, m.func)) = some (#[], some (f, false))) (h : w.cell? ⟨g, 0, none⟩ = some v) :
    (method 194 61 (.pointer (some ⟨g, 0, none⟩)) nm).run Try.prog w = .ok (f, v) w := by
  obtain ⟨m, hm, hmm⟩ := Option.map_eq_some_iff.1 hk
  obtain ⟨I, hI, hf⟩ := Option.bind_eq_some_iff.1 hm
  simp only [Prod.mk.injEq] at hmm
  obtain ⟨h1, h2⟩ := hmm
  unfold method
  simp [typeInfo, hI, hf, follow, h1, h2, receiverAt, Place.get, asAddr, wrap_chk, loadVar, run_underlying Try.underlying61, Try.isAgg65, h, go_sem]

/-- The heap as a value with methods. -/
abbrev hv (g : Nat) : Value := .iface 61 (.pointer (some ⟨g, 0, none⟩))
theorem mLen (g : Nat) (v : Value) (w : World) (h : w.cell? ⟨g, 0, none⟩ = some v) : (method 194 61 (.pointer (some ⟨g, 0, none⟩)) "Len").run Try.prog w = .ok (42, v) w := meth_val _ _ _ _ _ (by kernel_rfl) h
theorem mLess (g : Nat) (v : Value) (w : World) (h : w.cell? ⟨g, 0, none⟩ = some v) : (method 194 61 (.pointer (some ⟨g, 0, none⟩)) "Less").run Try.prog w = .ok (64, v) w := meth_val _ _ _ _ _ (by kernel_rfl) h
theorem mSwap (g : Nat) (v : Value) (w : World) (h : w.cell? ⟨g, 0, none⟩ = some v) : (method 194 61 (.pointer (some ⟨g, 0, none⟩)) "Swap").run Try.prog w = .ok (67, v) w := meth_val _ _ _ _ _ (by kernel_rfl) h
theorem mPop (g : Nat) (w : World) : (method 194 61 (.pointer (some ⟨g, 0, none⟩)) "Pop").run Try.prog w = .ok (65, .pointer (some ⟨g, 0, none⟩)) w := by kernel_rfl
theorem mPush (g : Nat) (w : World) : (method 194 61 (.pointer (some ⟨g, 0, none⟩)) "Push").run Try.prog w = .ok (66, .pointer (some ⟨g, 0, none⟩)) w := by kernel_rfl

theorem len_any (A : Option Addr) (n c : Nat) (w : World) : Calls Try.prog 42 #[.slice A n c] w fun e w' => e = .returned (.int .i64 n) ∧ w = w' := by
  go_enter Try.func42, Try.ntmps42
  go_wp2_with fail
  go_ret
  exact ⟨rfl, rfl⟩

theorem sw_comm (xs : List Rn) (i j : Nat) : sw xs i j = sw xs j i := by
  unfold sw
  by_cases h : i = j
  · rw [h]
  · rw [List.set_comm _ _ h]

set_option maxRecDepth 100000 in
set_option maxHeartbeats 2000000 in
/-- up: the heap is one again. -/
theorem up_any (g a c k : Nat) (xs : List Rn) (w : World) (h : HIs w g (some ⟨a, 0, none⟩) c xs) (hk : k < xs.length) (hn : xs.length ≤ 1000) (hu : UpInv Rn.e xs k) :
    Calls Try.prog 46 #[hv g, .int .i64 (k : Int)] w fun e w' => e = .returned (.tuple #[]) ∧ ∃ ys, HIs w' g (some ⟨a, 0, none⟩) c ys ∧ Heap Rn.e ys ∧ ys.Perm xs ∧ Touch g (some a) w w' := by
  have H0 := Lib.hid h
  have U0 := Lib.hid hu
  clear h hu
  go_enter Try.func46, Try.ntmps46
  go_wp2_with fail
  go_loopw [1] (fun p wr => ∃ (j : Nat) (ys : List Rn), p = .int .i64 (j : Int) ∧ ys.length = xs.length ∧ j < xs.length ∧ HIs wr g (some ⟨a, 0, none⟩) c ys ∧ UpInv Rn.e ys j ∧ ys.Perm xs ∧ Touch g (some a) w wr) (fun p _ => (intOf p).toNat)
  case atStart => exact ⟨k, xs, rfl, rfl, hk, H0.out, U0.out, List.Perm.refl _, Touch.refl _ _ _⟩
  case round =>
    obtain ⟨j, ys, rfl, hyl, hj, hH, hU, hP, hT⟩ := hrel
    have HY := Lib.hid hyl
    have HH := Lib.hid hH
    have HU := Lib.hid hU
    have HP := Lib.hid hP
    have HT := Lib.hid hT
    have q0 := hH.blk.cell 0
    simp at q0
    have yl : j < ys.length := by omega
    have yl2 : ys.length ≤ 1000 := by omega
    have ml := mLess g _ wr q0
    have ms := fun v w' hh => mSwap g v w' hh
    clear hyl hH hU hP hT H0 U0
    by_cases h0 : 0 < j
    · obtain ⟨u, hu⟩ : ∃ u : Nat, u = (j - 1) / 2 := ⟨_, rfl⟩
      have eu : ((j : Int) - 1) / 2 = (u : Int) := by omega
      have eu2 : Int.tdiv ((j : Int) - 1) 2 = (u : Int) := by rw [Int.tdiv_eq_ediv_of_nonneg (by omega)]; exact eu
      have hul : u < j := by omega
      have hu2 : u < ys.length := by omega
      have une : ((u : Int) == (j : Int)) = false := by rw [beq_eq_false_iff_ne]; omega
      have HUU := Lib.hid hu
      clear hu
      go_wp2_with fail
      refine (less_any g a c j u ys wr HH.out yl hu2 yl2).mono ?_
      rintro e w5 ⟨rfl, m5, rfl⟩
      have P5 := Lib.hid (HH.out.drewN m5)
      have T5 := Lib.hid (HT.out.drewN m5)
      generalize hx : wr.drewN m5 = w5 at P5 T5 ⊢
      have q1 := P5.out.blk.cell 0
      simp at q1
      have ms5 := mSwap g _ w5 q1
      clear q0 ml ms hx HH HT
      by_cases hk : (pg ys j).e < (pg ys u).e
      · have HK := Lib.hid hk
        have dk : decide ((pg ys j).e < (pg ys u).e) = true := by simp; omega
        clear hk
        go_wp2_with fail
        refine (swap_any g a c u j ys w5 P5.out hu2 yl (by omega) yl2).mono ?_
        rintro e w6 ⟨rfl, P6, T6⟩
        go_wp2_with fail
        refine ⟨⟨u, sw ys u j, by go_num, by rw [sw_len]; exact HY.out, by omega, P6, ?_, (sw_perm ys u j hu2 yl).trans HP.out, T5.out.trans T6⟩, by simp [intOf]; omega⟩
        have := up_step HU.out yl h0 (by rw [← HUU.out]; exact HK.out)
        rw [← HUU.out] at this
        rw [sw_comm]
        exact this
      · have dk : decide ((pg ys j).e < (pg ys u).e) = false := by simp; omega
        have HK := Lib.hid hk
        clear hk
        go_wp2_with fail
        go_end0
        exact ⟨rfl, ys, P5.out, up_done HU.out (by rw [← HUU.out]; exact Int.not_lt.mpr HK.out), HP.out, T5.out⟩
    · obtain rfl : j = 0 := by omega
      go_wp2_with fail
      go_end0
      exact ⟨rfl, ys, HH.out, up_top HU.out, HP.out, HT.out⟩
end Go.Proofs.Ytaajombljiiigaa
