import Derived.Test.YtaajombljiiigaaRoadsD
namespace Go.Proofs.Ytaajombljiiigaa
open Go.RowKit

/-- Road j is the one from lo to hi. -/
def mt (xs : List Rd3) (lo hi : Int) (j : Nat) : Prop := ra xs j = lo ∧ rb xs j = hi
/-- Where the road between a and b stands, or -1. -/
def Found (xs : List Rd3) (a b r : Int) : Prop := (r = -1 ∧ ∀ j, j < xs.length → ¬ mt xs (min a b) (max a b) j) ∨ ∃ j : Nat, j < xs.length ∧ r = (j : Int) ∧ mt xs (min a b) (max a b) j ∧ ∀ l, l < j → ¬ mt xs (min a b) (max a b) l

theorem mt_succ {xs : List Rd3} {lo hi : Int} {k : Nat} (h : ∀ j, j < k → ¬ mt xs lo hi j) (hk : ¬ mt xs lo hi k) : ∀ j, j < k + 1 → ¬ mt xs lo hi j := by
  intro j hj
  rcases Nat.lt_or_ge j k with g | g
  · exact h j g
  · obtain rfl : j = k := by omega
    exact hk

set_option maxRecDepth 100000 in
set_option maxHeartbeats 1000000 in
theorem find_any (a b : Int) (A : Option Addr) (c : Nat) (xs : List Rd3) (w : World) (h : Cells w A (fd xs)) (hl : xs.length ≤ 1048576) :
    Calls Try.prog 33 #[.slice A xs.length c, .int .i64 a, .int .i64 b] w fun e w' => ∃ r : Int, e = .returned (.int .i64 r) ∧ Found xs a b r ∧ w = w' := by
  unfold Found
  go_enter Try.func33, Try.ntmps33
  go_wp2_with fail
  go_loop [7] (fun i => ∃ k : Nat, k ≤ xs.length ∧ i = .int .i64 k ∧ ∀ j, j < k → ¬ mt xs (min a b) (max a b) j) (fun i => xs.length - (intOf i).toNat)
  case atStart => exact ⟨0, Nat.zero_le _, rfl, fun j hj => by omega⟩
  case round =>
    obtain ⟨k, hk, rfl, hno⟩ := hrel
    have HN := Lib.hid hno
    clear hno
    by_cases hlt : k < xs.length
    · obtain ⟨bb, o, rfl, hb, c0, c1, -⟩ := h.at3 hlt
      rcases (show a < b ∨ a = b ∨ b < a by omega) with hab | hab | hab
      · skip
        have m1 : min a b = a := by omega
        have m2 : max a b = b := by omega
        have HM := Lib.hid (And.intro m1 m2)
        rw [m1, m2] at HN ⊢
        clear m1 m2
        by_cases q1 : ra xs k = a
        · have e1 : (ra xs k == a) = true := by simp [q1]
          by_cases q2 : rb xs k = b
          · have e2 : (rb xs k == b) = true := by simp [q2]
            have Q := Lib.hid (And.intro q1 q2)
            clear q1 q2
            go_wp2_with fail
            go_ret
            exact ⟨_, rfl, .inr ⟨k, hlt, rfl, by first | exact Q.out | (rw [HM.out.1, HM.out.2]; exact Q.out), by first | exact HN.out | (rw [HM.out.1, HM.out.2]; exact HN.out)⟩, rfl⟩
          · have e2 : (rb xs k == b) = false := by simp [q2]
            have Q := Lib.hid (show ¬ mt xs a b k from fun g => q2 g.2)
            clear q1 q2
            go_wp2_with fail
            go_round
            case rel => exact ⟨k + 1, by omega, by go_num, mt_succ HN.out Q.out⟩
            case measure => simp [intOf]; omega
        · have e1 : (ra xs k == a) = false := by simp [q1]
          have Q := Lib.hid (show ¬ mt xs a b k from fun g => q1 g.1)
          clear q1
          go_wp2_with fail
          go_round
          case rel => exact ⟨k + 1, by omega, by go_num, mt_succ HN.out Q.out⟩
          case measure => simp [intOf]; omega
      · skip
        subst hab
        have m1 : min a a = a := by omega
        have m2 : max a a = a := by omega
        have HM := Lib.hid (And.intro m1 m2)
        rw [m1, m2] at HN ⊢
        clear m1 m2
        by_cases q1 : ra xs k = a
        · have e1 : (ra xs k == a) = true := by simp [q1]
          by_cases q2 : rb xs k = a
          · have e2 : (rb xs k == a) = true := by simp [q2]
            have Q := Lib.hid (And.intro q1 q2)
            clear q1 q2
            go_wp2_with fail
            go_ret
            exact ⟨_, rfl, .inr ⟨k, hlt, rfl, by first | exact Q.out | (rw [HM.out.1, HM.out.2]; exact Q.out), by first | exact HN.out | (rw [HM.out.1, HM.out.2]; exact HN.out)⟩, rfl⟩
          · have e2 : (rb xs k == a) = false := by simp [q2]
            have Q := Lib.hid (show ¬ mt xs a a k from fun g => q2 g.2)
            clear q1 q2
            go_wp2_with fail
            go_round
            case rel => exact ⟨k + 1, by omega, by go_num, mt_succ HN.out Q.out⟩
            case measure => simp [intOf]; omega
        · have e1 : (ra xs k == a) = false := by simp [q1]
          have Q := Lib.hid (show ¬ mt xs a a k from fun g => q1 g.1)
          clear q1
          go_wp2_with fail
          go_round
          case rel => exact ⟨k + 1, by omega, by go_num, mt_succ HN.out Q.out⟩
          case measure => simp [intOf]; omega
      · skip
        have m1 : min a b = b := by omega
        have m2 : max a b = a := by omega
        have HM := Lib.hid (And.intro m1 m2)
        rw [m1, m2] at HN ⊢
        clear m1 m2
        by_cases q1 : ra xs k = b
        · have e1 : (ra xs k == b) = true := by simp [q1]
          by_cases q2 : rb xs k = a
          · have e2 : (rb xs k == a) = true := by simp [q2]
            have Q := Lib.hid (And.intro q1 q2)
            clear q1 q2
            go_wp2_with fail
            go_ret
            exact ⟨_, rfl, .inr ⟨k, hlt, rfl, by first | exact Q.out | (rw [HM.out.1, HM.out.2]; exact Q.out), by first | exact HN.out | (rw [HM.out.1, HM.out.2]; exact HN.out)⟩, rfl⟩
          · have e2 : (rb xs k == a) = false := by simp [q2]
            have Q := Lib.hid (show ¬ mt xs b a k from fun g => q2 g.2)
            clear q1 q2
            go_wp2_with fail
            go_round
            case rel => exact ⟨k + 1, by omega, by go_num, mt_succ HN.out Q.out⟩
            case measure => simp [intOf]; omega
        · have e1 : (ra xs k == b) = false := by simp [q1]
          have Q := Lib.hid (show ¬ mt xs b a k from fun g => q1 g.1)
          clear q1
          go_wp2_with fail
          go_round
          case rel => exact ⟨k + 1, by omega, by go_num, mt_succ HN.out Q.out⟩
          case measure => simp [intOf]; omega
    · obtain rfl : k = xs.length := by omega
      go_wp2_with fail
      go_ret
      exact ⟨_, rfl, .inl ⟨rfl, HN.out⟩, rfl⟩

open Classical in
/-- The miles of the road between two towns, or -1. -/
noncomputable def dirV (n : Int) (xs : List Rd3) (a b : Int) : Int := if DValid n xs then (lk xs a b xs.length).getD (-1) else -1
theorem dirV_yes {n : Int} {xs : List Rd3} {a b : Int} (h : DValid n xs) : dirV n xs a b = (lk xs a b xs.length).getD (-1) := if_pos h
theorem dirV_no {n : Int} {xs : List Rd3} {a b : Int} (h : ¬ DValid n xs) : dirV n xs a b = -1 := if_neg h
theorem joins_mt {n : Int} {xs : List Rd3} (hv : DValid n xs) {a b : Int} {j : Nat} (hj : j < xs.length) : joins xs a b j ↔ mt xs (min a b) (max a b) j := by
  have := (hv.2.2.2 j hj).2.1
  unfold joins mt
  constructor
  · rintro (⟨h1, h2⟩ | ⟨h1, h2⟩) <;> omega
  · rintro ⟨h1, h2⟩
    rcases Int.le_total a b with h | h
    · left; omega
    · right; omega
theorem dok_one {n : Int} {xs : List Rd3} (hv : DValid n xs) {lo hi : Int} {i j : Nat} (hi' : i < xs.length) (hj : j < xs.length) (h1 : mt xs lo hi i) (h2 : mt xs lo hi j) : i = j := by
  rcases Nat.lt_trichotomy i j with g | g | g
  · exact absurd ⟨h1.1.trans h2.1.symm, h1.2.trans h2.2.symm⟩ ((hv.2.2.2 j hj).2.2.2.2.2 i g)
  · exact g
  · exact absurd ⟨h2.1.trans h1.1.symm, h2.2.trans h1.2.symm⟩ ((hv.2.2.2 i hi').2.2.2.2.2 j g)
theorem found_lk {n : Int} {xs : List Rd3} (hv : DValid n xs) {a b r : Int} (h : Found xs a b r) : (r = -1 ∧ lk xs a b xs.length = none) ∨ ∃ j : Nat, j < xs.length ∧ r = (j : Int) ∧ lk xs a b xs.length = some (rm xs j) ∧ mt xs (min a b) (max a b) j := by
  rcases h with ⟨h1, h2⟩ | ⟨j, h1, h2, h3, h4⟩
  · exact .inl ⟨h1, lk_none.2 fun j hj g => h2 j hj ((joins_mt hv hj).1 g)⟩
  · refine .inr ⟨j, h1, h2, ?_, h3⟩
    cases e : lk xs a b xs.length with
    | none => exact absurd ((joins_mt hv h1).2 h3) (lk_none.1 e j h1)
    | some m =>
      obtain ⟨i, i1, i2, i3⟩ := lk_some e
      rw [i3, dok_one hv i1 h1 ((joins_mt hv i1).1 i2) h3]

set_option maxRecDepth 100000 in
set_option maxHeartbeats 1000000 in
theorem sDir_any (n a b : Int) (A : Option Addr) (c : Nat) (xs : List Rd3) (w : World) (h : Cells w A (fd xs)) (hl : xs.length ≤ 1048576) :
    Calls Try.prog 17 #[.int .i64 n, .slice A xs.length c, .int .i64 a, .int .i64 b] w fun e w' => e = .returned (.int .i64 (dirV n xs a b)) ∧ Below w.heap.size w w' := by
  by_cases hv : DValid n xs
  · have HV := Lib.hid hv
    have DV := Lib.hid (dirV_yes (a := a) (b := b) hv)
    clear hv
    rw [DV.out]
    go_enter Try.func17, Try.ntmps17
    go_wp2_with fail
    refine (find_any a b A c xs w h hl).mono ?_
    rintro e _ ⟨r, rfl, hf, rfl⟩
    rcases found_lk HV.out hf with ⟨rfl, hn⟩ | ⟨j, hj, rfl, hs, -⟩
    · have HN := Lib.hid hn
      clear hn hf
      go_wp2_with fail
      refine (sDV_yes h hl HV.out).mono ?_
      rintro e w1 ⟨rfl, b1⟩
      go_wp2_with fail
      go_ret
      exact ⟨ret_int (by rw [HN.out]; rfl), b1⟩
    · have HS := Lib.hid hs
      clear hs hf
      go_wp2_with fail
      refine (sDV_yes h hl HV.out).mono ?_
      rintro e w1 ⟨rfl, b1⟩
      obtain ⟨bb, o, rfl, hb, -, -, c2⟩ := (h.below b1).at3 hj
      have i1 : (j : Int) < (xs.length : Int) := by omega
      go_wp2_with fail
      go_ret
      exact ⟨ret_int (by rw [HS.out]; rfl), b1⟩
  · have HV := Lib.hid hv
    have DV := Lib.hid (dirV_no (a := a) (b := b) hv)
    clear hv
    rw [DV.out]
    go_enter Try.func17, Try.ntmps17
    go_wp2_with fail
    refine (find_any a b A c xs w h hl).mono ?_
    rintro e _ ⟨r, rfl, hf, rfl⟩
    go_wp2_with fail
    refine (sDV_no h hl HV.out).mono ?_
    rintro e w1 ⟨rfl, b1⟩
    go_wp2_with fail
    go_ret
    exact ⟨rfl, b1⟩

theorem look_nil (z : Int) (hz : (Lit.int .i64 z).wf = true) (W : World) : (Instr.lookup 51 (.map none) (.int .i64 z) true).run Try.prog W = .ok (.tuple #[.int .i64 0, .bool false]) W := by
  exact Maps.look_nil true keyI Try.underlying51 (Try.zeroValue3 W) (keyOfI hz)

set_option maxRecDepth 100000 in
set_option maxHeartbeats 1000000 in
theorem iDir_any (n a b : Int) (A : Option Addr) (c : Nat) (xs : List Rd3) (w : World) (h : Cells w A (fd xs)) (hl : xs.length ≤ 1048576) (wa : (Lit.int .i64 a).wf = true) (wb : (Lit.int .i64 b).wf = true) :
    Calls Try.prog 18 #[.int .i64 n, .slice A xs.length c, .int .i64 a, .int .i64 b] w fun e w' => e = .returned (.int .i64 (dirV n xs a b)) ∧ Below w.heap.size w w' := by
  by_cases hv : DValid n xs
  · have HV := Lib.hid hv
    have DV := Lib.hid (dirV_yes (a := a) (b := b) hv)
    have n8 := hv.2.1
    clear hv
    rw [DV.out]
    go_enter Try.func18, Try.ntmps18
    go_wp2_with fail
    refine (iMap_yes h hl HV.out).mono ?_
    rintro e w1 ⟨mb, N, bs, rfl, rfl, hM, b1⟩
    have HB := Lib.hid b1
    by_cases ha : 0 ≤ a ∧ a < (N : Int)
    · obtain ⟨x, rfl⟩ := Int.eq_ofNat_of_zero_le ha.1
      have L1 := hM.outer.look (t := x) (by omega) (by omega)
      have L2 := (hM.inner x (by omega)).look wb
      obtain ⟨q, hq⟩ : ∃ q, q = lk xs x b xs.length := ⟨_, rfl⟩
      rw [← hq] at L2
      have HQ := Lib.hid hq
      clear hM b1 hq
      cases q with
      | none =>
        go_wp2_with fail
        go_ret
        exact ⟨ret_int (by rw [← HQ.out]; rfl), HB.out⟩
      | some m =>
        go_wp2_with fail
        go_ret
        exact ⟨ret_int (by rw [← HQ.out]; rfl), HB.out⟩
    · have L1 := hM.outer.look_none (z := a) (by omega) wa
      have L2 := look_nil b wb w1
      have HN := Lib.hid (show lk xs a b xs.length = none from lk_none.2 fun j hj g => by
        obtain ⟨u1, u2, u3, -⟩ := HV.out.2.2.2 j hj
        rcases g with ⟨g1, g2⟩ | ⟨g1, g2⟩ <;> omega)
      clear hM b1
      go_wp2_with fail
      go_ret
      exact ⟨ret_int (by rw [HN.out]; rfl), HB.out⟩
  · have HV := Lib.hid hv
    have DV := Lib.hid (dirV_no (a := a) (b := b) hv)
    clear hv
    rw [DV.out]
    go_enter Try.func18, Try.ntmps18
    go_wp2_with fail
    refine (iMap_no h hl HV.out).mono ?_
    rintro e w1 ⟨rfl, b1⟩
    go_wp2_with fail
    go_ret
    exact ⟨rfl, b1⟩
end Go.Proofs.Ytaajombljiiigaa
