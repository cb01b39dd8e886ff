import Derived.Test.YtmpkdnikkganlaaStopsB
import Derived.Laws.BitsAllLaws
import Derived.Laws.Bits64
namespace Go.Proofs.Ytmpkdnikkganlaa
open Go.RowKit

/-- The cells of a node of the linked list. -/
def node (s : St) (nx : Option Addr) : Array Value := #[.int .i64 s.t, .int .i64 s.a, .int .i64 s.l, .pointer nx]

/-- A linked list of stops. -/
def Chain (w : World) : List St → Option Addr → Prop
  | [], a => a = none
  | s :: xs, a => ∃ b nx, a = some ⟨b, 0, none⟩ ∧ w.heap[b]? = some (.cells (node s nx) 46 (0, 0)) ∧ Chain w xs nx

theorem blk_lt {w : World} {b : Nat} {o : Obj} (h : w.heap[b]? = some o) : b < w.heap.size := by
  rcases Nat.lt_or_ge b w.heap.size with h1 | h1
  · exact h1
  · simp [Array.getElem?_eq_none h1] at h

theorem Chain.below {w w' : World} (hb : Below w.heap.size w w') : ∀ {xs : List St} {a : Option Addr}, Chain w xs a → Chain w' xs a := by
  intro xs
  induction xs with
  | nil => intro a h; exact h
  | cons s xs ih =>
    intro a h
    obtain ⟨b, nx, h1, h2, h3⟩ := h
    exact ⟨b, nx, h1, (hb.block b (blk_lt h2)).trans h2, ih h3⟩

/-- Nodes that lead from block a to block b. -/
def Seg (w : World) : List St → Nat → Nat → Prop
  | [], a, b => a = b
  | s :: xs, a, b => ∃ c, a < c ∧ w.heap[a]? = some (.cells (node s (some ⟨c, 0, none⟩)) 46 (0, 0)) ∧ Seg w xs c b

theorem Seg.le {w : World} : ∀ {xs : List St} {a b : Nat}, Seg w xs a b → a ≤ b := by
  intro xs
  induction xs with
  | nil => intro a b h; exact Nat.le_of_eq h
  | cons s xs ih => intro a b h; obtain ⟨c, h1, _, h3⟩ := h; have := ih h3; omega

theorem Seg.keep {w w' : World} : ∀ {xs : List St} {a b : Nat}, Seg w xs a b → (∀ k, k < b → k < w.heap.size → w'.heap[k]? = w.heap[k]?) → Seg w' xs a b := by
  intro xs
  induction xs with
  | nil => intro a b h _; exact h
  | cons s xs ih =>
    intro a b h hk
    obtain ⟨c, h1, h2, h3⟩ := h
    have := h3.le
    exact ⟨c, h1, (hk a (by omega) (blk_lt h2)).trans h2, ih h3 hk⟩

theorem Seg.snoc {w : World} : ∀ {xs : List St} {a b c : Nat} {s : St}, Seg w xs a b → b < c → w.heap[b]? = some (.cells (node s (some ⟨c, 0, none⟩)) 46 (0, 0)) → Seg w (xs ++ [s]) a c := by
  intro xs
  induction xs with
  | nil => intro a b c s h hbc hn; obtain rfl : a = b := h; exact ⟨c, hbc, hn, rfl⟩
  | cons x xs ih =>
    intro a b c s h hbc hn
    obtain ⟨d, h1, h2, h3⟩ := h
    exact ⟨d, h1, h2, ih h3 hbc hn⟩

theorem Seg.chain {w : World} : ∀ {xs : List St} {a b : Nat} {s : St}, Seg w xs a b → w.heap[b]? = some (.cells (node s none) 46 (0, 0)) → Chain w (xs ++ [s]) (some ⟨a, 0, none⟩) := by
  intro xs
  induction xs with
  | nil => intro a b s h hn; obtain rfl : a = b := h; exact ⟨a, none, rfl, hn, rfl⟩
  | cons x xs ih =>
    intro a b s h hn
    obtain ⟨d, h1, h2, h3⟩ := h
    exact ⟨a, _, rfl, h2, ih h3 hn⟩

/-- What linkStops leaves. -/
def LinkPost (n : Int) (xs : List St) (w : World) (e : Ending) (w' : World) : Prop :=
  Below w.heap.size w w' ∧ ((Valid n xs ∧ ∃ b, e = .returned (.pointer (some ⟨b, 0, none⟩)) ∧ Chain w' xs (some ⟨b, 0, none⟩)) ∨ (¬ Valid n xs ∧ e = .returned (.pointer none)))

/-- The towns of the first k stops as bits. -/
def Mask (xs : List St) (k : Nat) (m : Nat) : Prop := m < 256 ∧ ∀ t : Nat, t < 8 → (m.testBit t = true ↔ ∃ j, j < k ∧ tw xs j = (t : Int))

theorem Mask.zero (xs : List St) : Mask xs 0 0 := ⟨by decide, fun t _ => by simp⟩

theorem mask_and {m t : Nat} : (m &&& (1 <<< t) = 0) ↔ m.testBit t = false := by
  rw [Nat.one_shiftLeft]
  constructor
  · intro h0
    have := congrArg (fun x => Nat.testBit x t) h0
    simpa [Nat.testBit_and, Nat.testBit_two_pow] using this
  · intro h0
    apply Nat.eq_of_testBit_eq
    intro i
    simp only [Nat.testBit_and, Nat.testBit_two_pow, Nat.zero_testBit, Bool.and_eq_false_iff, decide_eq_false_iff_not]
    by_cases hi : t = i
    · left; rw [← hi]; exact h0
    · exact .inr hi

theorem Mask.snoc {xs : List St} {k m t : Nat} (h : Mask xs k m) (ht : t < 8) (he : tw xs k = (t : Int)) : Mask xs (k + 1) (m ||| (1 <<< t)) := by
  rw [Nat.one_shiftLeft]
  refine ⟨?_, fun u hu => ?_⟩
  · have : 2 ^ t < 2 ^ 8 := Nat.pow_lt_pow_right (by omega) ht
    exact Nat.or_lt_two_pow (n := 8) h.1 this
  · simp only [Nat.testBit_or, Nat.testBit_two_pow, Bool.or_eq_true, decide_eq_true_eq]
    rw [h.2 u hu]
    constructor
    · rintro (⟨j, hj, e⟩ | h1)
      · exact ⟨j, by omega, e⟩
      · exact ⟨k, by omega, by rw [he, h1]⟩
    · rintro ⟨j, hj, e⟩
      rcases Nat.lt_or_ge j k with h1 | h1
      · exact .inl ⟨j, h1, e⟩
      · obtain rfl : j = k := by omega
        exact .inr (by omega)

theorem pow_wrap (t : Nat) (ht : t < 8) : IntKind.u64.wrap ((2 : Int) ^ t) = ((1 <<< t : Nat) : Int) := by
  have h8 : t = 0 ∨ t = 1 ∨ t = 2 ∨ t = 3 ∨ t = 4 ∨ t = 5 ∨ t = 6 ∨ t = 7 := by omega
  rcases h8 with rfl | rfl | rfl | rfl | rfl | rfl | rfl | rfl <;> rfl
theorem shl_lt (t : Nat) (ht : t < 8) : 1 <<< t < 18446744073709551616 := by
  have h8 : t = 0 ∨ t = 1 ∨ t = 2 ∨ t = 3 ∨ t = 4 ∨ t = 5 ∨ t = 6 ∨ t = 7 := by omega
  rcases h8 with rfl | rfl | rfl | rfl | rfl | rfl | rfl | rfl <;> decide

theorem mask_hit {xs : List St} {k m : Nat} (h : Mask xs k m) (h0 : 0 ≤ tw xs k) (h8 : tw xs k < 8) (hx : ∃ j, j < k ∧ tw xs j = tw xs k) :
    (bits .and .u64 (m : Int) (IntKind.u64.wrap (2 ^ (tw xs k).toNat)) != 0) = true := by
  obtain ⟨t, ht⟩ := Int.eq_ofNat_of_zero_le h0
  rw [ht] at hx h8 ⊢
  rw [Int.toNat_natCast, pow_wrap t (by omega), u64_and_nat _ _ (by have := h.1; omega) (shl_lt t (by omega))]
  have hb := (h.2 t (by omega)).2 hx
  rw [bne_iff_ne]
  intro he
  have : m &&& 1 <<< t = 0 := by omega
  rw [mask_and] at this
  rw [this] at hb
  cases hb

theorem mask_miss {xs : List St} {k m : Nat} (h : Mask xs k m) (h0 : 0 ≤ tw xs k) (h8 : tw xs k < 8) (hx : ∀ j, j < k → tw xs j ≠ tw xs k) :
    (bits .and .u64 (m : Int) (IntKind.u64.wrap (2 ^ (tw xs k).toNat)) != 0) = false := by
  obtain ⟨t, ht⟩ := Int.eq_ofNat_of_zero_le h0
  rw [ht] at hx h8 ⊢
  rw [Int.toNat_natCast, pow_wrap t (by omega), u64_and_nat _ _ (by have := h.1; omega) (shl_lt t (by omega))]
  have : m &&& 1 <<< t = 0 := by
    rw [mask_and]
    cases hb : m.testBit t with
    | false => rfl
    | true =>
      obtain ⟨j, hj, e⟩ := (h.2 t (by omega)).1 hb
      exact absurd e (hx j hj)
  rw [this]
  rfl

theorem mask_next {xs : List St} {k m : Nat} (h : Mask xs k m) (h0 : 0 ≤ tw xs k) (h8 : tw xs k < 8) :
    ∃ m' : Nat, bits .or .u64 (m : Int) (IntKind.u64.wrap (2 ^ (tw xs k).toNat)) = (m' : Int) ∧ Mask xs (k + 1) m' := by
  obtain ⟨t, ht⟩ := Int.eq_ofNat_of_zero_le h0
  rw [ht] at h8
  refine ⟨m ||| 1 <<< t, ?_, h.snoc (by omega) ht⟩
  rw [ht, Int.toNat_natCast, pow_wrap t (by omega), u64_or_nat _ _ (by have := h.1; omega) (shl_lt t (by omega))]

/-- The state of the loop behind k stops: the head's block H, the last node's block. -/
def Built (xs : List St) (H k lb : Nat) (wr : World) : Prop :=
  ∃ (ini : List St) (lst : St), stz :: xs.take k = ini ++ [lst] ∧ Seg wr ini H lb ∧ wr.heap[lb]? = some (.cells (node lst none) 46 (0, 0))

theorem blk_alloc_new (w : World) (o : Obj) : (w.alloc o).heap[w.heap.size]? = some o := by
  show (w.heap.push _)[w.heap.size]? = _
  simp

theorem take_snoc' (xs : List St) (k : Nat) (h : k < xs.length) : xs.take (k + 1) = xs.take k ++ [⟨tw xs k, ar xs k, lv xs k⟩] := by
  rw [List.take_succ_eq_append_getElem h]
  have : (⟨tw xs k, ar xs k, lv xs k⟩ : St) = xs[k] := by simp [tw, ar, lv, List.getElem?_eq_getElem h]
  rw [this]

theorem Built.step {xs : List St} {H k lb : Nat} {wr : World} (h : Built xs H k lb wr) (hk : k < xs.length) (o : Obj) :
    Built xs H (k + 1) (wr.heap.size + 1) (((wr.setCell ⟨lb, 3, none⟩ (.pointer (some ⟨wr.heap.size + 1, 0, none⟩))).alloc o).alloc (.cells #[.int .i64 (tw xs k), .int .i64 (ar xs k), .int .i64 (lv xs k), .pointer none] 46)) := by
  obtain ⟨ini, lst, he, hs, hb⟩ := h
  have hlt := blk_lt hb
  obtain ⟨w1, hw1⟩ : ∃ w1, w1 = wr.setCell ⟨lb, 3, none⟩ (.pointer (some ⟨wr.heap.size + 1, 0, none⟩)) := ⟨_, rfl⟩
  have hsz : w1.heap.size = wr.heap.size := by rw [hw1]; simp [World.setCell]
  have hl : w1.heap[lb]? = some (.cells (node lst (some ⟨wr.heap.size + 1, 0, none⟩)) 46 (0, 0)) := by
    rw [hw1]
    simp only [World.setCell, Array.getElem?_modify, hb]
    simp [node]
  have hf : ∀ j, j ≠ lb → w1.heap[j]? = wr.heap[j]? := fun j hj => by rw [hw1]; exact Below.heap_setCell _ _ _ _ hj
  rw [← hw1]
  clear hw1
  refine ⟨ini ++ [lst], ⟨tw xs k, ar xs k, lv xs k⟩, by rw [take_snoc' xs k hk, ← List.cons_append, he], ?_, ?_⟩
  · refine (hs.keep (fun j hj hj2 => ?_)).snoc (by omega) ?_
    · rw [Below.heap_alloc _ _ _ (by simp; omega), Below.heap_alloc _ _ _ (by omega), hf j (by omega)]
    · rw [Below.heap_alloc _ _ _ (by simp; omega), Below.heap_alloc _ _ _ (by omega)]; exact hl
  · have := blk_alloc_new (w1.alloc o) (.cells #[.int .i64 (tw xs k), .int .i64 (ar xs k), .int .i64 (lv xs k), .pointer none] 46)
    simp only [World.size_alloc, hsz] at this
    exact this

theorem Built.cell {xs : List St} {H k lb : Nat} {wr : World} (h : Built xs H k lb wr) : wr.cell? ⟨lb, 3, none⟩ = some (.pointer none) ∧ wr.frozen? ⟨lb, 3, none⟩ = false ∧ lb < wr.heap.size ∧ H ≤ lb := by
  obtain ⟨ini, lst, he, hs, hb⟩ := h
  exact ⟨by unfold World.cell?; rw [hb]; rfl, by unfold World.frozen?; rw [hb]; simp, blk_lt hb, hs.le⟩

/-- At the end the head's next is the list. -/
theorem Built.done {xs : List St} {H lb : Nat} {wr : World} (h : Built xs H xs.length lb wr) (hx : xs ≠ []) : ∃ b, wr.cell? ⟨H, 3, none⟩ = some (.pointer (some ⟨b, 0, none⟩)) ∧ Chain wr xs (some ⟨b, 0, none⟩) := by
  obtain ⟨ini, lst, he, hs, hb⟩ := h
  rw [List.take_length] at he
  cases ini with
  | nil => simp at he; exact absurd he.2 hx
  | cons i ini =>
    simp only [List.cons_append, List.cons.injEq] at he
    obtain ⟨c, h1, h2, h3⟩ := hs
    refine ⟨c, by unfold World.cell?; rw [h2]; rfl, ?_⟩
    rw [he.2]
    exact h3.chain hb

set_option maxRecDepth 100000 in
set_option maxHeartbeats 1000000 in
theorem link_any (n : Int) (A : Option Addr) (c : Nat) (xs : List St) (w : World) (h : Cells w A (fl xs)) (hl : xs.length ≤ 1048576) :
    Calls Try.prog 17 #[.int .i64 n, .slice A xs.length c] w (LinkPost n xs w) := by
  by_cases g1 : n < 1
  · have H := Lib.hid (show ¬ Valid n xs from fun hv => by have := hv.1; omega)
    go_enter Try.func17, Try.ntmps17
    go_wp2_with fail
    go_ret
    exact ⟨Below.refl _ _, .inr ⟨H.out, rfl⟩⟩
  · by_cases g2 : 8 < n
    · have H := Lib.hid (show ¬ Valid n xs from fun hv => by have := hv.2.1; omega)
      go_enter Try.func17, Try.ntmps17
      go_wp2_with fail
      go_ret
      exact ⟨Below.refl _ _, .inr ⟨H.out, rfl⟩⟩
    · by_cases g3 : xs.length < 2
      · have H := Lib.hid (show ¬ Valid n xs from fun hv => by have := hv.2.2.1; omega)
        go_enter Try.func17, Try.ntmps17
        go_wp2_with fail
        go_ret
        exact ⟨Below.refl _ _, .inr ⟨H.out, rfl⟩⟩
      · by_cases g4 : 8 < xs.length
        · have H := Lib.hid (show ¬ Valid n xs from fun hv => by have := hv.2.2.2.1; omega)
          go_enter Try.func17, Try.ntmps17
          go_wp2_with fail
          go_ret
          exact ⟨Below.refl _ _, .inr ⟨H.out, rfl⟩⟩
        · have g1' : 1 ≤ n := by omega
          have g2' : n ≤ 8 := by omega
          have g3' : 2 ≤ xs.length := by omega
          have g4' : xs.length ≤ 8 := by omega
          clear g1 g2 g3 g4
          have k0 : decide (n < 1) = false := by simp; omega
          have k1 : decide (8 < n) = false := by simp; omega
          have k2 : decide ((xs.length : Int) < 2) = false := by simp; omega
          have k3 : decide (8 < (xs.length : Int)) = false := by simp; omega
          go_enter Try.func17, Try.ntmps17
          go_wp2_with fail
          clear k0 k1 k2 k3
          go_loopw [6, 7, 8, 32] (fun p l s i wr => ∃ k lb m : Nat, k ≤ xs.length ∧ p = .pointer (some ⟨lb, 0, none⟩) ∧ l = .int .i64 (pv xs k) ∧ s = .int .u64 m ∧ i = .int .i64 k ∧ (∀ j, j < k → ok n xs j) ∧ Mask xs k m ∧ Built xs w.heap.size k lb wr ∧ Below w.heap.size w wr) (fun _ _ _ i _ => xs.length - (intOf i).toNat)
          case atStart => exact ⟨0, w.heap.size, 0, Nat.zero_le _, rfl, rfl, rfl, rfl, fun j hj => by omega, Mask.zero _, ⟨[], stz, rfl, rfl, by show (w.heap.push _)[w.heap.size]? = _; simp; rfl⟩, (Below.refl _ _).alloc (Nat.le_refl _) _⟩
          case round =>
            obtain ⟨k, lb, m, hk, rfl, rfl, rfl, rfl, hok, hmask, hbuilt, hbel⟩ := hrel
            obtain ⟨p1, p2⟩ := ok_pv hok k (Nat.le_refl _)
            have HOK := Lib.hid hok
            have HM := Lib.hid hmask
            have HB := Lib.hid hbuilt
            clear hok hmask hbuilt
            by_cases hlt : k < xs.length
            · obtain ⟨b, o, hA, hb, c0, c1, c2⟩ := h.at3 hlt
              have d0 := (hbel.cell (p := ⟨b, o + k * 3, none⟩) hb).trans c0
              have d1 := (hbel.cell (p := ⟨b, o + k * 3 + 1, none⟩) hb).trans c1
              have d2 := (hbel.cell (p := ⟨b, o + k * 3 + 2, none⟩) hb).trans c2
              subst hA
              clear c0 c1 c2
              by_cases q1 : tw xs k < 0
              · go_wp2_with fail
                go_ret
                exact ⟨hbel.alloc hbel.size _, .inr ⟨fun hv => by have := (hv.2.2.2.2 k hlt).1; omega, rfl⟩⟩
              · by_cases q2 : n ≤ tw xs k
                · go_wp2_with fail
                  go_ret
                  exact ⟨hbel.alloc hbel.size _, .inr ⟨fun hv => by have := (hv.2.2.2.2 k hlt).2.1; omega, rfl⟩⟩
                · have e1 : decide (tw xs k < 0) = false := by simp; omega
                  have e2 : decide (n ≤ tw xs k) = false := by simp; omega
                  by_cases q3 : ∃ j, j < k ∧ tw xs j = tw xs k
                  · have e3 := mask_hit HM.out (by omega) (by omega) q3
                    have Q3 := Lib.hid q3
                    clear q3
                    go_wp2_with fail
                    go_ret
                    exact ⟨hbel.alloc hbel.size _, .inr ⟨fun hv => by obtain ⟨j, hj, e⟩ := Q3.out; exact (hv.2.2.2.2 k hlt).2.2.2.2.2 j hj e, rfl⟩⟩
                  · have q3' : ∀ j, j < k → tw xs j ≠ tw xs k := fun j hj e => q3 ⟨j, hj, e⟩
                    have e3 := mask_miss HM.out (by omega) (by omega) q3'
                    have Q3 := Lib.hid q3'
                    clear q3 q3'
                    by_cases q4 : 0 ≤ ar xs k ∧ ar xs k ≤ 10000
                    · obtain ⟨q4, q4'⟩ := q4
                      by_cases q5 : 0 ≤ lv xs k ∧ lv xs k ≤ 10000
                      · obtain ⟨q5, q5'⟩ := q5
                        by_cases q6 : lv xs k < ar xs k
                        · go_wp2_with fail
                          refine (tvT _ _ q4 q4').mono ?_
                          rintro e w1 ⟨rfl, rfl⟩
                          go_wp2_with fail
                          refine (tvT _ _ q5 q5').mono ?_
                          rintro e w1 ⟨rfl, rfl⟩
                          go_wp2_with fail
                          go_ret
                          exact ⟨hbel.alloc hbel.size _, .inr ⟨fun hv => by have := (hv.2.2.2.2 k hlt).2.2.2.1; omega, rfl⟩⟩
                        · have e6 : decide (lv xs k < ar xs k) = false := by simp; omega
                          by_cases q7 : ar xs k ≤ pv xs k
                          · go_wp2_with fail
                            refine (tvT _ _ q4 q4').mono ?_
                            rintro e w1 ⟨rfl, rfl⟩
                            go_wp2_with fail
                            refine (tvT _ _ q5 q5').mono ?_
                            rintro e w1 ⟨rfl, rfl⟩
                            go_wp2_with fail
                            go_ret
                            exact ⟨hbel.alloc hbel.size _, .inr ⟨fun hv => by have := (hv.2.2.2.2 k hlt).2.2.1; omega, rfl⟩⟩
                          · have e7 : decide (ar xs k ≤ pv xs k) = false := by simp; omega
                            obtain ⟨z1, z2, z3, z4⟩ := HB.out.cell
                            obtain ⟨m', hm', hmask'⟩ := mask_next HM.out (by omega) (by omega)
                            have HM' := Lib.hid hmask'
                            clear hmask'
                            go_wp2_with fail
                            refine (tvT _ _ q4 q4').mono ?_
                            rintro e w1 ⟨rfl, rfl⟩
                            go_wp2_with fail
                            refine (tvT _ _ q5 q5').mono ?_
                            rintro e w1 ⟨rfl, rfl⟩
                            go_wp2_with fail
                            refine ⟨⟨k + 1, wr.heap.size + 1, m', by omega, rfl, rfl, rfl, by go_num, ?_, HM'.out, HB.out.step hlt _, ((hbel.setCell (p := ⟨lb, 3, none⟩) z4 _).alloc (by have := hbel.size; simpa [World.setCell] using this) _).alloc (by have := hbel.size; simp [World.setCell]; omega) _⟩, by simp [intOf]; omega⟩
                            intro j hj
                            rcases Nat.lt_or_ge j k with h1 | h1
                            · exact HOK.out j h1
                            · obtain rfl : j = k := by omega
                              exact ⟨by omega, by omega, by omega, by omega, by omega, Q3.out⟩
                      · go_wp2_with fail
                        refine (tvT _ _ q4 q4').mono ?_
                        rintro e w1 ⟨rfl, rfl⟩
                        go_wp2_with fail
                        refine (tvF _ _ (by omega)).mono ?_
                        rintro e w1 ⟨rfl, rfl⟩
                        go_wp2_with fail
                        go_ret
                        exact ⟨hbel.alloc hbel.size _, .inr ⟨fun hv => q5 ⟨by have := ok_time hv.2.2.2.2 k hlt; omega, (hv.2.2.2.2 k hlt).2.2.2.2.1⟩, rfl⟩⟩
                    · go_wp2_with fail
                      refine (tvF _ _ (by omega)).mono ?_
                      rintro e w1 ⟨rfl, rfl⟩
                      go_wp2_with fail
                      go_ret
                      exact ⟨hbel.alloc hbel.size _, .inr ⟨fun hv => q4 ⟨(ok_time hv.2.2.2.2 k hlt).1, by have := hv.2.2.2.2 k hlt; unfold ok at this; omega⟩, rfl⟩⟩
            · obtain rfl : k = xs.length := by omega
              obtain ⟨b, hb, hch⟩ := HB.out.done (by intro e; rw [e] at g3'; simp at g3')
              have HC := Lib.hid hch
              clear hch
              go_wp2_with fail
              go_ret
              exact ⟨hbel, .inl ⟨⟨g1', g2', g3', g4', HOK.out⟩, b, rfl, HC.out⟩⟩
theorem link_yes {n : Int} {A : Option Addr} {c : Nat} {xs : List St} {w : World} (h : Cells w A (fl xs)) (hl : xs.length ≤ 1048576) (hv : Valid n xs) :
    Calls Try.prog 17 #[.int .i64 n, .slice A xs.length c] w fun e w' => ∃ b, e = .returned (.pointer (some ⟨b, 0, none⟩)) ∧ Chain w' xs (some ⟨b, 0, none⟩) ∧ Below w.heap.size w w' := by
  refine (link_any n A c xs w h hl).mono ?_
  rintro e w' ⟨hb, ⟨_, b, h1, h2⟩ | ⟨h1, _⟩⟩
  · exact ⟨b, h1, h2, hb⟩
  · exact absurd hv h1
theorem link_no {n : Int} {A : Option Addr} {c : Nat} {xs : List St} {w : World} (h : Cells w A (fl xs)) (hl : xs.length ≤ 1048576) (hv : ¬ Valid n xs) :
    Calls Try.prog 17 #[.int .i64 n, .slice A xs.length c] w fun e w' => e = .returned (.pointer none) ∧ Below w.heap.size w w' := by
  refine (link_any n A c xs w h hl).mono ?_
  rintro e w' ⟨hb, ⟨h1, _⟩ | ⟨_, h1⟩⟩
  · exact absurd h1 hv
  · exact ⟨h1, hb⟩

theorem iValid_any (n : Int) (A : Option Addr) (c : Nat) (xs : List St) (w : World) (h : Cells w A (fl xs)) (hl : xs.length ≤ 1048576) :
    Calls Try.prog 37 #[.int .i64 n, .slice A xs.length c] w fun e w' => e = .returned (.bool (vB n xs)) ∧ Below w.heap.size w w' := by
  by_cases hv : Valid n xs
  · have H := Lib.hid hv
    clear hv
    go_enter Try.func37, Try.ntmps37
    go_wp2_with fail
    refine (link_yes h hl H.out).mono ?_
    rintro e w1 ⟨b, rfl, hch, hb1⟩
    have HC := Lib.hid hch
    clear hch
    go_wp2_with fail
    go_ret
    exact ⟨ret_bool (vB_yes H.out).symm, hb1⟩
  · have H := Lib.hid hv
    clear hv
    go_enter Try.func37, Try.ntmps37
    go_wp2_with fail
    refine (link_no h hl H.out).mono ?_
    rintro e w1 ⟨rfl, hb1⟩
    go_wp2_with fail
    go_ret
    exact ⟨ret_bool (vB_no H.out).symm, hb1⟩
end Go.Proofs.Ytmpkdnikkganlaa
