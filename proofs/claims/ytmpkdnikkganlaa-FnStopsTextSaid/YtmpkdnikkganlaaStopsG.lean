import Derived.Test.YtmpkdnikkganlaaStopsE
import Derived.Test.YtmpkdnikkganlaaStopsA
import Derived.OwnWalk
import Derived.Deep.RegionHeld3
namespace Go.Proofs.Ytmpkdnikkganlaa
open Go.RowKit

/-- A slice of stops of the call's own, from block B on. -/
def Own (w : World) (B : Nat) (A : Option Addr) (c : Nat) (xs : List St) : Prop := w.ownsRow B 39 3 (.slice A xs.length c) xs.length ((fl xs).map (Value.int .i64))

theorem Own.cells {w : World} {B : Nat} {A : Option Addr} {c : Nat} {xs : List St} (h : Own w B A c xs) : Cells w A (fl xs) := Cells.of_own h
theorem Own.below {w w' : World} {B : Nat} {A : Option Addr} {c : Nat} {xs : List St} (h : Own w B A c xs) (hb : Below w.heap.size w w') : Own w' B A c xs := own_below h hb
theorem Own.base {w : World} {B B' : Nat} {A : Option Addr} {c : Nat} {xs : List St} (h : Own w B A c xs) (hb : B' ≤ B) : Own w B' A c xs := own_base h hb
theorem Own.empty (w : World) (B : Nat) (hb : B ≤ w.heap.size) : Own (w.alloc (.cells #[] 39)) B (some ⟨w.heap.size, 0, none⟩) 0 [] :=
  World.ownsRow_made w #[] 0 hb (Nat.zero_le _) rfl

/-- What a value that owns a row looks like. -/
theorem own_form {w : World} {B n : Nat} {e : TypeId} {v : Value} {L : List Value} (h : w.ownsRow B e 3 v n L) : ∃ A c, v = .slice A n c := by
  rcases h.2 with ⟨h1, h2⟩ | ⟨g, cap, cur, h1, _⟩
  · subst h2; exact ⟨none, 0, h1⟩
  · exact ⟨_, _, h1⟩

/-- What a function that returns a slice of stops leaves. -/
def ListPost (xs : List St) (w : World) (e : Ending) (w' : World) : Prop := ∃ A c, e = .returned (.slice A xs.length c) ∧ Own w' w.heap.size A c xs ∧ Below w.heap.size w w'
def PairPost (xs : List St) (ok : Bool) (w : World) (e : Ending) (w' : World) : Prop := ∃ A c, e = .returned (.tuple #[.slice A xs.length c, .bool ok]) ∧ Own w' w.heap.size A c xs ∧ Below w.heap.size w w'

theorem fl_take (xs : List St) (k : Nat) (h : k < xs.length) : fl (xs.take (k + 1)) = fl (xs.take k) ++ [tw xs k, ar xs k, lv xs k] := by
  rw [take_snoc' xs k h, fl_append]; rfl

theorem cells3_new (w : World) (e : TypeId) (a b c : Value) : ∀ j u, [a, b, c][j]? = some u → (w.alloc (.cells #[a, b, c] e)).cell? ((⟨w.heap.size, 0, none⟩ : Addr).add j) = some u := by
  intro j u hj
  match j, hj with
  | 0, hj => rw [← hj]; exact cell_new _ _ _ 0
  | 1, hj => rw [← hj]; exact cell_new _ _ _ 1
  | 2, hj => rw [← hj]; exact cell_new _ _ _ 2
  | _ + 3, hj => simp at hj
theorem one3 (a b c : Int) : ∀ u ∈ [Value.int .i64 a, Value.int .i64 b, Value.int .i64 c], u.oneCell' = true := by
  intro u hu
  simp at hu
  rcases hu with rfl | rfl | rfl <;> rfl

set_option maxRecDepth 100000 in
set_option maxHeartbeats 1000000 in
theorem list_any (xs : List St) (a : Option Addr) (w : World) (h : Chain w xs a) (hl : xs.length ≤ 1048576) :
    Calls Try.prog 36 #[.pointer a] w (ListPost xs w) := by
  obtain ⟨i0, hi0, hz0, hz1, hz2⟩ := info_parts stop_info
  have HCH := Lib.hid h
  clear h
  go_enter Try.func36, Try.ntmps36
  go_wp2_with fail
  go_loopg [0, 3] (xs.length + 1) (fun gk p s wr => ∃ k a', k ≤ xs.length ∧ gk = xs.length + 1 - k ∧ p = .pointer a' ∧ Chain w (xs.drop k) a' ∧ wr.ownsRow w.heap.size 39 3 s k ((fl (xs.take k)).map (Value.int .i64)) ∧ Below w.heap.size w wr)
  case atStart => exact ⟨0, a, by omega, by omega, rfl, HCH.out.whole, Own.empty w _ (Nat.le_refl _), (Below.refl _ _).alloc (Nat.le_refl _) _⟩
  case round =>
    obtain ⟨k, a', hk, rfl, rfl, hch, hown, hbel⟩ := hrel
    by_cases hlt : k < xs.length
    · obtain ⟨b, nx, rfl, c0, c1, c2, c3, hnx, hb⟩ := hch.head hlt
      have d0 := (hbel.cell (p := ⟨b, 0, none⟩) hb).trans c0
      have d1 := (hbel.cell (p := ⟨b, 1, none⟩) hb).trans c1
      have d2 := (hbel.cell (p := ⟨b, 2, none⟩) hb).trans c2
      have HN := Lib.hid hnx
      clear c0 c1 c2 hnx hch
      go_wp2_with (at_builtin; refine wpList_append_own _ rfl _ _ 25 rfl w.heap.size 39 i0 _ 3 24 Try.underlying25 hi0 hz0 hz1 hz2 rfl (by decide) _ _ _ rfl (hown.alloc _) ⟨wr.heap.size, 0, none⟩ 1 1 [.int .i64 (tw xs k), .int .i64 (ar xs k), .int .i64 (lv xs k)] rfl rfl (cells3_new _ _ _ _ _) (one3 _ _ _) (by unfold maxLen; omega) (by omega) (by have := hbel.size; simp; omega) ?_; intro v' w1 hown' hgrow _; have bel1 := (hbel.alloc hbel.size _).grown hgrow (by have := hbel.size; simp; omega) (fun q hq => (hown.lt q hq).1); have d3 := (bel1.cell (p := ⟨b, 3, none⟩) hb).trans c3; have R := Lib.hid (And.intro hown' bel1); clear hown' hgrow bel1)
      obtain ⟨hown', bel1⟩ := R.out
      go_roundg (xs.length - k)
      case rel => exact ⟨k + 1, nx, by omega, by omega, rfl, HN.out, by rw [fl_take xs k hlt]; simpa using hown', bel1⟩
      case measure => omega
    · obtain rfl := hch.last (by omega)
      obtain rfl : k = xs.length := by omega
      obtain ⟨A, c, rfl⟩ := own_form hown
      rw [List.take_length] at hown
      have R := Lib.hid (And.intro hown hbel)
      clear hown hbel hch
      go_wp2_with fail
      go_ret
      exact ⟨A, c, rfl, R.out.1, R.out.2⟩

theorem iValid_yes {n : Int} {A : Option Addr} {c : Nat} {xs : List St} {w : World} (h : Cells w A (fl xs)) (hl : xs.length ≤ 1048576) (hv : Valid n xs) :
    Calls Try.prog 37 #[.int .i64 n, .slice A xs.length c] w fun e w' => e = .returned (.bool true) ∧ Below w.heap.size w w' := by
  rw [← vB_yes hv]; exact iValid_any n A c xs w h hl
theorem iValid_no {n : Int} {A : Option Addr} {c : Nat} {xs : List St} {w : World} (h : Cells w A (fl xs)) (hl : xs.length ≤ 1048576) (hv : ¬ Valid n xs) :
    Calls Try.prog 37 #[.int .i64 n, .slice A xs.length c] w fun e w' => e = .returned (.bool false) ∧ Below w.heap.size w w' := by
  rw [← vB_no hv]; exact iValid_any n A c xs w h hl

theorem checked_yes (n : Int) (xs : List St) (a : Option Addr) (w : World) (h : Chain w xs a) (hl : xs.length ≤ 1048576) (hv : Valid n xs) :
    Calls Try.prog 25 #[.pointer a, .int .i64 n] w (PairPost xs true w) := by
  go_enter Try.func25, Try.ntmps25
  go_wp2_with fail
  refine (list_any xs a w h hl).mono ?_
  rintro e w1 ⟨A, c, rfl, own1, b1⟩
  have cl1 := own1.cells
  have HO := Lib.hid own1
  clear own1 h
  go_wp2_with fail
  refine (iValid_yes cl1 hl hv).mono ?_
  rintro e w2 ⟨rfl, b2⟩
  have R := Lib.hid (And.intro (HO.out.below b2) (b1.trans (b2.mono b1.size)))
  clear HO b1 b2 cl1 hv
  go_wp2_with fail
  go_ret2
  exact ⟨A, c, rfl, R.out.1, R.out.2⟩

theorem checked_no (n : Int) (xs : List St) (a : Option Addr) (w : World) (h : Chain w xs a) (hl : xs.length ≤ 1048576) (hv : ¬ Valid n xs) :
    Calls Try.prog 25 #[.pointer a, .int .i64 n] w (PairPost [] false w) := by
  go_enter Try.func25, Try.ntmps25
  go_wp2_with fail
  refine (list_any xs a w h hl).mono ?_
  rintro e w1 ⟨A, c, rfl, own1, b1⟩
  have cl1 := own1.cells
  clear own1 h
  go_wp2_with fail
  refine (iValid_no cl1 hl hv).mono ?_
  rintro e w2 ⟨rfl, b2⟩
  have R := Lib.hid (b1.trans (b2.mono b1.size))
  clear b1 b2 cl1 hv
  go_wp2_with fail
  go_ret2
  exact ⟨_, _, rfl, Own.empty w2 _ R.out.size, R.out.alloc R.out.size _⟩

theorem chain_cons {w : World} {xs : List St} {f : Option Addr} (h : Chain w xs f) (s : St) : Chain (w.alloc (.cells #[.int .i64 s.t, .int .i64 s.a, .int .i64 s.l, .pointer f] 46)) (s :: xs) (some ⟨w.heap.size, 0, none⟩) :=
  ⟨w.heap.size, f, rfl, blk_alloc_new _ _, h.below ((Below.refl _ _).alloc (Nat.le_refl _) _)⟩

/-- What a function that returns a linked list leaves. -/
def ChainPost (xs : List St) (w : World) (e : Ending) (w' : World) : Prop := ∃ a, e = .returned (.pointer a) ∧ Chain w' xs a ∧ Below w.heap.size w w'

theorem rev_take (xs : List St) (k : Nat) (h : k < xs.length) : (xs.take (k + 1)).reverse = ⟨tw xs k, ar xs k, lv xs k⟩ :: (xs.take k).reverse := by
  rw [take_snoc' xs k h]; simp

theorem later_fn (k : Int) (kb : Nat) (t a l : Int) (w : World) (hk : w.cell? ⟨kb, 0, none⟩ = some (.int .i64 k)) (b1 : 0 ≤ a) (b2 : a ≤ 10000) (b3 : 0 ≤ l) (b4 : l ≤ 10000) (b5 : -10000 ≤ k) (b6 : k ≤ 10000) (hkb : kb < w.heap.size) :
    Calls Try.prog 24 #[.agg #[.int .i64 t, .int .i64 a, .int .i64 l], .pointer (some ⟨kb, 0, none⟩)] w fun e w' => e = .returned (.agg #[.int .i64 t, .int .i64 (a + k), .int .i64 (l + k)]) ∧ Below w.heap.size w w' := by
  go_enter Try.func24, Try.ntmps24
  go_wp2_with fail
  exact bodyPost_ret (v := .agg #[.int .i64 t, .int .i64 (a + k), .int .i64 (l + k)]) (by simp [results, Try.results24, go_sem]) rfl ⟨rfl, ((Below.refl _ _).alloc (Nat.le_refl _) _).alloc (by simp) _⟩

theorem held4 {w : World} {b : Nat} {v0 v1 v2 v3 : Value} (hb : b < w.heap.size) (h : w.cell? ⟨b, 0, none⟩ = some v0 ∧ w.cell? ⟨b, 1, none⟩ = some v1 ∧ w.cell? ⟨b, 2, none⟩ = some v2 ∧ w.cell? ⟨b, 3, none⟩ = some v3) (o : Obj) :
    (w.alloc o).cell? ⟨b, 0, none⟩ = some v0 ∧ (w.alloc o).cell? ⟨b, 1, none⟩ = some v1 ∧ (w.alloc o).cell? ⟨b, 2, none⟩ = some v2 ∧ (w.alloc o).cell? ⟨b, 3, none⟩ = some v3 := by
  have hk : ∀ j, (w.alloc o).cell? ⟨b, j, none⟩ = w.cell? ⟨b, j, none⟩ := fun j => World.cell?_of_block (w := w) (Below.heap_alloc _ _ _ hb)
  rw [hk, hk, hk, hk]; exact h

def sh (k : Int) (s : St) : St := ⟨s.t, s.a + k, s.l + k⟩
def bk (k : Int) (s : St) : St := ⟨s.t, k - s.l, k - s.a⟩
def InDay (s : St) : Prop := 0 ≤ s.a ∧ s.a ≤ 10000 ∧ 0 ≤ s.l ∧ s.l ≤ 10000

set_option maxRecDepth 100000 in
set_option maxHeartbeats 1000000 in
theorem eachLater (k : Int) (kb : Nat) (b5 : -10000 ≤ k) (b6 : k ≤ 10000) : ∀ (xs : List St) (a : Option Addr) (w : World), Chain w xs a → (∀ s ∈ xs, InDay s) → w.cell? ⟨kb, 0, none⟩ = some (.int .i64 k) → kb < w.heap.size →
    Calls Try.prog 23 #[.pointer a, .func (.func 24) #[] #[.pointer (some ⟨kb, 0, none⟩)]] w (ChainPost (xs.map (sh k)) w) := by
  intro xs
  induction xs with
  | nil =>
    intro a w h _ _ _
    obtain rfl : a = none := h
    go_enter Try.func23, Try.ntmps23
    go_wp2_with fail
    go_ret
    exact ⟨none, rfl, rfl, Below.refl _ _⟩
  | cons s xs ih =>
    intro a w h hd hk hkb
    have IH := Lib.hid ih
    clear ih
    obtain ⟨b, nx, rfl, hn, hnx⟩ := h
    have hb := blk_lt hn
    obtain ⟨q1, q2, q3, q4⟩ := hd s (by simp)
    have HD := Lib.hid (show ∀ s ∈ xs, InDay s from fun x hx => hd x (by simp [hx]))
    have c0 : w.drew.cell? ⟨b, 0, none⟩ = some (.int .i64 s.t) := by show w.cell? _ = _; unfold World.cell?; rw [hn]; rfl
    have c1 : w.drew.cell? ⟨b, 1, none⟩ = some (.int .i64 s.a) := by show w.cell? _ = _; unfold World.cell?; rw [hn]; rfl
    have c2 : w.drew.cell? ⟨b, 2, none⟩ = some (.int .i64 s.l) := by show w.cell? _ = _; unfold World.cell?; rw [hn]; rfl
    have c3 : w.drew.cell? ⟨b, 3, none⟩ = some (.pointer nx) := by show w.cell? _ = _; unfold World.cell?; rw [hn]; rfl
    have H0 := Lib.hid (And.intro c0 (And.intro c1 (And.intro c2 c3)))
    have HN := Lib.hid hnx.drew
    have HK := Lib.hid (show w.drew.cell? ⟨kb, 0, none⟩ = some (.int .i64 k) from hk)
    have BD := Lib.hid (show Below w.heap.size w w.drew from (Below.refl _ _).drew)
    have hbD : b < w.drew.heap.size := hb
    have hkD : kb < w.drew.heap.size := hkb
    clear hn hnx hd c0 c1 c2 c3 hk
    go_enter Try.func23, Try.ntmps23
    go_wp2_with fail
    go_region_held3 (fun W => W.cell? ⟨b, 0, none⟩ = some (.int .i64 s.t) ∧ W.cell? ⟨b, 1, none⟩ = some (.int .i64 s.a) ∧ W.cell? ⟨b, 2, none⟩ = some (.int .i64 s.l) ∧ W.cell? ⟨b, 3, none⟩ = some (.pointer nx)) (first | exact H0.out | exact H1.out | exact H2.out | exact held4 hb2 H2.out _) (first
      | (go_at_call 24; refine (later_fn k kb _ _ _ _ HK.out q1 q2 q3 q4 b5 b6 hkD).mono ?_; rintro e w1 ⟨rfl, x1⟩; have H1 := Lib.hid (And.intro ((x1.cell (p := ⟨b, 0, none⟩) hbD).trans H0.out.1) (And.intro ((x1.cell (p := ⟨b, 1, none⟩) hbD).trans H0.out.2.1) (And.intro ((x1.cell (p := ⟨b, 2, none⟩) hbD).trans H0.out.2.2.1) ((x1.cell (p := ⟨b, 3, none⟩) hbD).trans H0.out.2.2.2)))); have HN1 := Lib.hid (HN.out.below x1); have HK1 := Lib.hid ((x1.cell (p := ⟨kb, 0, none⟩) hkD).trans HK.out); have hb1 : b < w1.heap.size := Nat.lt_of_lt_of_le hbD x1.size; have hk1 : kb < w1.heap.size := Nat.lt_of_lt_of_le hkD x1.size; have B1 := Lib.hid (BD.out.trans (x1.mono BD.out.size)); clear x1)
      | (go_at_call 23; refine (IH.out nx w1 HN1.out HD.out HK1.out hk1).mono ?_; rintro e w2 ⟨a2, rfl, ch2, x2⟩; have H2 := Lib.hid (And.intro ((x2.cell (p := ⟨b, 0, none⟩) hb1).trans H1.out.1) (And.intro ((x2.cell (p := ⟨b, 1, none⟩) hb1).trans H1.out.2.1) (And.intro ((x2.cell (p := ⟨b, 2, none⟩) hb1).trans H1.out.2.2.1) ((x2.cell (p := ⟨b, 3, none⟩) hb1).trans H1.out.2.2.2)))); have hb2 : b < w2.heap.size := Nat.lt_of_lt_of_le hb1 x2.size; have C2 := Lib.hid ch2; have B2 := Lib.hid (B1.out.trans (x2.mono B1.out.size)); clear x2 ch2))
    all_goals
      go_wp2_with fail
      go_ret
      exact ⟨_, rfl, chain_cons C2.out (sh k s), B2.out.alloc B2.out.size _⟩

end Go.Proofs.Ytmpkdnikkganlaa
