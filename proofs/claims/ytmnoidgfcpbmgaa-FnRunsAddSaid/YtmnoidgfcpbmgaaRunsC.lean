import Derived.Test.YtmnoidgfcpbmgaaRunsB
import Derived.Test.YtmnoidgfcpbmgaaIns
namespace Go.Proofs.Ytmnoidgfcpbmgaa
open Go.RowKit

open Classical in
/-- Whether the list are runs, as a bool. -/
noncomputable def rvB (xs : List Rn) : Bool := decide (RValid xs)
theorem rvB_yes {xs : List Rn} (h : RValid xs) : rvB xs = true := by simp [rvB, h]
theorem rvB_no {xs : List Rn} (h : ¬ RValid xs) : rvB xs = false := by simp [rvB, h]

theorem rok_prev {xs : List Rn} {m : Nat} (h : ∀ i, i < m → rok xs i) : ∀ i, i ≤ m → 0 ≤ rprev xs i ∧ rprev xs i ≤ 10000 := by
  intro i hi
  cases i with
  | zero => simp [rprev]
  | succ k => have h1 := rok_start h k (by omega); obtain ⟨_, h2, h3⟩ := h k (by omega); simp only [rprev]; omega

theorem RValid.times {xs : List Rn} (h : RValid xs) {i : Nat} (hi : i < xs.length) : 0 ≤ rs xs i ∧ rs xs i < re xs i ∧ re xs i ≤ 10000 :=
  ⟨rok_start h.2 i hi, (h.2 i hi).2.1, (h.2 i hi).2.2⟩

/-- A slice of runs of the call's own, from block B on. -/
def ROwn (w : World) (B : Nat) (A : Option Addr) (c : Nat) (xs : List Rn) : Prop := w.ownsRow B 25 2 (.slice A xs.length c) xs.length ((fr xs).map (Value.int .i64))
/-- A slice of numbers of the call's own, from block B on. -/
def IOwn (w : World) (B : Nat) (A : Option Addr) (c : Nat) (zs : List Int) : Prop := w.ownsRow B 3 1 (.slice A zs.length c) zs.length (zs.map (Value.int .i64))
/-- A row that holds the numbers from 1 on. -/
def Marked (w : World) (B : Nat) (e : TypeId) (size : Nat) (A : Option Addr) (n c : Nat) : Prop := w.ownsRow B e size (.slice A n c) n ((marks 1 (n * size)).map (Value.int .i64))

theorem own_kept {w w' : World} {base : Nat} {e : TypeId} {size n : Nat} {v : Value} {xs : List Value} {row : Option Nat} (h : w.ownsRow base e size v n xs) (hg : w.grownBy w' row) (hne : ∀ q, v.ownBlock = some q → some q ≠ row) : w'.ownsRow base e size v n xs := by
  refine h.kept hg ?_
  cases hv : v.ownBlock with
  | none => exact .inl rfl
  | some q => exact .inr (hne q hv)

section
variable {w w' : World} {B : Nat} {A : Option Addr} {c : Nat}
theorem ROwn.cells {xs : List Rn} (h : ROwn w B A c xs) : Cells w A (fr xs) := Cells.of_own h
theorem IOwn.cells {zs : List Int} (h : IOwn w B A c zs) : Cells w A zs := Cells.of_own h
theorem ROwn.below {xs : List Rn} (h : ROwn w B A c xs) (hb : Below w.heap.size w w') : ROwn w' B A c xs := own_below h hb
theorem IOwn.below {zs : List Int} (h : IOwn w B A c zs) (hb : Below w.heap.size w w') : IOwn w' B A c zs := own_below h hb
theorem Marked.below {e : TypeId} {size n : Nat} (h : Marked w B e size A n c) (hb : Below w.heap.size w w') : Marked w' B e size A n c := own_below h hb
theorem ROwn.base {B' : Nat} {xs : List Rn} (h : ROwn w B A c xs) (hb : B' ≤ B) : ROwn w B' A c xs := own_base h hb
theorem IOwn.base {B' : Nat} {zs : List Int} (h : IOwn w B A c zs) (hb : B' ≤ B) : IOwn w B' A c zs := own_base h hb
theorem ROwn.kept {xs : List Rn} {row : Option Nat} (h : ROwn w B A c xs) (hg : w.grownBy w' row) (hne : ∀ q, (Value.slice A xs.length c).ownBlock = some q → some q ≠ row) : ROwn w' B A c xs := own_kept h hg hne
theorem IOwn.kept {zs : List Int} {row : Option Nat} (h : IOwn w B A c zs) (hg : w.grownBy w' row) (hne : ∀ q, (Value.slice A zs.length c).ownBlock = some q → some q ≠ row) : IOwn w' B A c zs := own_kept h hg hne
theorem ROwn.empty (w : World) (B : Nat) (hb : B ≤ w.heap.size) : ROwn (w.alloc (.cells #[] 25)) B (some ⟨w.heap.size, 0, none⟩) 0 [] :=
  World.ownsRow_made w #[] 0 hb (Nat.zero_le _) rfl
theorem IOwn.empty (w : World) (B : Nat) (hb : B ≤ w.heap.size) : IOwn (w.alloc (.cells #[] 3)) B (some ⟨w.heap.size, 0, none⟩) 0 [] :=
  World.ownsRow_made w #[] 0 hb (Nat.zero_le _) rfl
end

theorem toRunS_own (A : Option Addr) (c : Nat) (xs : List Rn) (w : World) (h : Cells w A (fr xs)) (hn : xs.length ≤ 1048576) :
    Calls Try.prog 11 #[.slice A xs.length c] w fun e w' => e = .returned (.slice (some ⟨w.heap.size, 0, none⟩) xs.length xs.length) ∧ ROwn w' w.heap.size (some ⟨w.heap.size, 0, none⟩) xs.length xs ∧ Below w.heap.size w w' := toRunS_any A c xs w h hn
theorem inTq (n lo hi : Int) (w : World) (m : Nat) (h1 : lo ≤ n) (h2 : n ≤ hi) :
    Calls Try.prog 27 #[.int .i64 n, .int .i64 lo, .int .i64 hi] (w.drewN m) fun e w'' => e = .returned (.bool true) ∧ ∃ m', w'' = w.drewN m' :=
  Calls.quiet_of_same ((inT n lo hi _ h1 h2).mono fun _ _ ⟨a, b⟩ => ⟨a, b.symm⟩)
theorem inFq (n lo hi : Int) (w : World) (m : Nat) (h1 : n < lo ∨ hi < n) :
    Calls Try.prog 27 #[.int .i64 n, .int .i64 lo, .int .i64 hi] (w.drewN m) fun e w'' => e = .returned (.bool false) ∧ ∃ m', w'' = w.drewN m' :=
  Calls.quiet_of_same ((inF n lo hi _ h1).mono fun _ _ ⟨a, b⟩ => ⟨a, b.symm⟩)

set_option maxRecDepth 100000 in
set_option maxHeartbeats 1000000 in
theorem sRV_any (A : Option Addr) (c : Nat) (xs : List Rn) (w : World) (h : Cells w A (fr xs)) (hl : xs.length ≤ 1048576) :
    Calls Try.prog 21 #[.slice A xs.length c] w fun e w' => e = .returned (.bool (rvB xs)) ∧ Below w.heap.size w w' := by
  go_enter Try.func21, Try.ntmps21
  go_wp2_with fail
  go_loopw [3, 4] (fun l i wr => ∃ k : Nat, k ≤ xs.length ∧ l = .int .i64 (rprev xs k) ∧ i = .int .i64 k ∧ (∀ j, j < k → rok xs j) ∧ Below w.heap.size w wr) (fun _ i _ => xs.length - (intOf i).toNat)
  case atStart => exact ⟨0, Nat.zero_le _, rfl, rfl, fun j hj => by omega, Below.refl _ _⟩
  case round =>
    obtain ⟨k, hk, rfl, rfl, hok, hbel⟩ := hrel
    obtain ⟨p1, p2⟩ := rok_prev hok k (Nat.le_refl _)
    have HOK := Lib.hid hok
    clear hok
    by_cases hlt : k < xs.length
    · obtain ⟨b, o, hA, hb, c0, c1⟩ := h.at2 hlt
      have d0 := (hbel.cell (p := ⟨b, o + k * 2, none⟩) hb).trans c0
      have d1 := (hbel.cell (p := ⟨b, o + k * 2 + 1, none⟩) hb).trans c1
      subst hA
      clear c0 c1
      have i1 : (k : Int) < (xs.length : Int) := by omega
      by_cases q1 : rprev xs k ≤ rs xs k ∧ rs xs k ≤ 10000
      · have e5 : IntKind.i64.wrap (rs xs k + 1) = rs xs k + 1 := IntWalk.i64_in _ (by omega)
        by_cases q2 : rs xs k + 1 ≤ re xs k ∧ re xs k ≤ 10000
        · go_wp2_with fail
          go_quiet (first
            | (go_at_call_of 27 (rprev xs k); exact inTq _ _ _ _ _ q1.1 q1.2)
            | (go_at_call_of 27 (re xs k); exact inTq _ _ _ _ _ q2.1 q2.2))
          go_wp2_with fail
          refine ⟨⟨k + 1, by omega, by rfl, by go_num, ?_, below_drewN' hbel _⟩, by simp [intOf]; omega⟩
          intro j hj
          rcases Nat.lt_or_ge j k with h1 | h1
          · exact HOK.out j h1
          · obtain rfl : j = k := by omega
            exact ⟨q1.1, by omega, q2.2⟩
        · go_wp2_with fail
          go_quiet (first
            | (go_at_call_of 27 (rprev xs k); exact inTq _ _ _ _ _ q1.1 q1.2)
            | (go_at_call_of 27 (re xs k); exact inFq _ _ _ _ _ (by omega)))
          go_wp2_with fail
          go_ret
          exact ⟨ret_bool (rvB_no fun hv => q2 (by obtain ⟨_, a2, a3⟩ := hv.2 k hlt; omega)).symm, below_drewN' hbel _⟩
      · go_wp2_with fail
        go_quiet ((go_at_call_of 27 (rprev xs k); exact inFq _ _ _ _ _ (by omega)))
        go_wp2_with fail
        go_ret
        exact ⟨ret_bool (rvB_no fun hv => q1 (by obtain ⟨a1, a2, a3⟩ := hv.2 k hlt; omega)).symm, below_drewN' hbel _⟩
    · go_wp2_with fail
      go_ret
      have : k = xs.length := by omega
      subst this
      refine ⟨ret_bool ?_, hbel⟩
      by_cases h12 : xs.length ≤ 12
      · rw [rvB_yes ⟨h12, HOK.out⟩]; simp; omega
      · rw [rvB_no (fun hv => h12 hv.1)]; simp; omega
end Go.Proofs.Ytmnoidgfcpbmgaa
