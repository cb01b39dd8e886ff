import Derived.Test.YtaajombljiiigaaRoadsE
namespace Go.Proofs.Ytaajombljiiigaa
open Go.RowKit

/-- A slice of roads of the call's own, from block B on. -/
def DOwn (w : World) (B : Nat) (A : Option Addr) (c : Nat) (xs : List Rd3) : Prop := w.ownsRow B 36 3 (.slice A xs.length c) xs.length ((fd xs).map (Value.int .i64))
/-- A row that holds the numbers from 1 on. -/
def Marked (w : World) (B : Nat) (e : TypeId) (size : Nat) (A : Option Addr) (n c : Nat) : Prop := w.ownsRow B e size (.slice A n c) n ((marks 1 (n * size)).map (Value.int .i64))
theorem own_kept {w w' : World} {base : Nat} {e : TypeId} {size n : Nat} {v : Value} {xs : List Value} {row : Option Nat} (h : w.ownsRow base e size v n xs) (hg : w.grownBy w' row) (hne : ∀ q, v.ownBlock = some q → some q ≠ row) : w'.ownsRow base e size v n xs := by
  refine h.kept hg ?_
  cases hv : v.ownBlock with
  | none => exact .inl rfl
  | some q => exact .inr (hne q hv)
section
variable {w w' : World} {B : Nat} {A : Option Addr} {c : Nat} {xs : List Rd3}
theorem DOwn.cells (h : DOwn w B A c xs) : Cells w A (fd xs) := Cells.of_own h
theorem DOwn.below (h : DOwn w B A c xs) (hb : Below w.heap.size w w') : DOwn w' B A c xs := own_below h hb
theorem DOwn.base {B' : Nat} (h : DOwn w B A c xs) (hb : B' ≤ B) : DOwn w B' A c xs := own_base h hb
theorem DOwn.kept {row : Option Nat} (h : DOwn w B A c xs) (hg : w.grownBy w' row) (hne : ∀ q, (Value.slice A xs.length c).ownBlock = some q → some q ≠ row) : DOwn w' B A c xs := own_kept h hg hne
theorem Marked.below {e : TypeId} {size n : Nat} (h : Marked w B e size A n c) (hb : Below w.heap.size w w') : Marked w' B e size A n c := own_below h hb
theorem DOwn.empty (w : World) (B : Nat) (hb : B ≤ w.heap.size) : DOwn (w.alloc (.cells #[] 36)) B (some ⟨w.heap.size, 0, none⟩) 0 [] :=
  World.ownsRow_made w #[] 0 hb (Nat.zero_le _) rfl
end
theorem toRoadS_own (A : Option Addr) (c : Nat) (xs : List Rd3) (w : World) (h : Cells w A (fd xs)) (hn : xs.length ≤ 1048576) :
    Calls Try.prog 12 #[.slice A xs.length c] w fun e w' => e = .returned (.slice (some ⟨w.heap.size, 0, none⟩) xs.length xs.length) ∧ DOwn w' w.heap.size (some ⟨w.heap.size, 0, none⟩) xs.length xs ∧ Below w.heap.size w w' := toRoadS_any A c xs w h hn

theorem own_formI {w : World} {B n : Nat} {e : TypeId} {size : Nat} {v : Value} {L : List Value} (h : w.ownsRow B e size v n L) : ∃ A c, v = .slice A n c := by
  rcases h.2 with ⟨h1, h2⟩ | ⟨g, cap, cur, h1, _⟩
  · subst h2; exact ⟨none, 0, h1⟩
  · exact ⟨_, _, h1⟩
theorem pair_ret {A : Option Addr} {c n n' : Nat} {b b' : Bool} (h1 : n = n') (h2 : b = b') : Ending.returned (.tuple #[.slice A n c, .bool b]) = .returned (.tuple #[.slice A n' c, .bool b']) := by rw [h1, h2]
/-- Roads of the call's own and a bool. -/
def DPair (xs : List Rd3) (ok : Bool) (w : World) (e : Ending) (w' : World) : Prop := ∃ A c, e = .returned (.tuple #[.slice A xs.length c, .bool ok]) ∧ DOwn w' w.heap.size A c xs ∧ Below w.heap.size w w'
theorem ints_one (xs : List Int) : ∀ u ∈ xs.map (Value.int .i64), u.oneCell' = true := by
  intro u hu
  obtain ⟨x, _, rfl⟩ := List.mem_map.1 hu
  rfl
theorem cells3_new (w : World) (e : TypeId) (a b c : Value) : ∀ j u, [a, b, c][j]? = some u → (w.alloc (.cells #[a, b, c] e)).cell? ((⟨w.heap.size, 0, none⟩ : Addr).add j) = some u := by
  intro j u hj
  match j, hj with
  | 0, hj => rw [← hj]; exact cell_new _ _ _ 0
  | 1, hj => rw [← hj]; exact cell_new _ _ _ 1
  | 2, hj => rw [← hj]; exact cell_new _ _ _ 2
  | _ + 3, hj => simp at hj
theorem one3 (a b c : Int) : ∀ u ∈ [Value.int .i64 a, Value.int .i64 b, Value.int .i64 c], u.oneCell' = true := by
  intro u hu
  simp at hu
  rcases hu with rfl | rfl | rfl <;> rfl

set_option maxRecDepth 100000 in
theorem markD (B : Nat) (A : Option Addr) (c : Nat) (xs : List Rd3) (w : World) (h : DOwn w B A c xs) (hn : xs.length ≤ 1048576) :
    Calls Try.prog 22 #[.slice A xs.length c, .int .i64 1] w fun e w' => e = .returned (.int .i64 (1 + (xs.length : Int) * 3)) ∧ Marked w' B 36 3 A xs.length c ∧ w.grownBy w' (Value.slice A xs.length c).ownBlock := by
  by_cases h0 : xs.length = 0
  · obtain rfl : xs = [] := List.eq_nil_of_length_eq_zero h0
    have HO := Lib.hid h
    clear h h0 hn
    go_enter Try.func22, Try.ntmps22
    go_wp2_with fail
    refine wp_loop_rounds 1 ?_
    rw [rounds_succ]
    go_wp2_with fail
    go_ret
    exact ⟨rfl, HO.out, World.grownBy.refl _ _⟩
  · rcases h.2 with ⟨_, h1⟩ | ⟨g, cap, cur, hv, _⟩
    · exact absurd h1 h0
    · have hA : A = some ⟨g, 0, none⟩ := by injection hv
      subst hA
      exact markRoadS_any B g xs.length c _ w h hn
theorem heldD (B : Nat) (A : Option Addr) (n c : Nat) (w : World) (h : Marked w B 36 3 A n c) (hn : n ≤ 1048576) :
    Calls Try.prog 23 #[.slice A n c, .int .i64 1] w fun e w' => e = .returned (.int .i64 (1 + (n : Int) * 3)) ∧ w = w' :=
  heldRoadS_any A n c w (Cells.of_own h) hn
end Go.Proofs.Ytaajombljiiigaa
