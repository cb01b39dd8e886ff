import Derived.Test.YtggngmeoifdidaaChecked
import Derived.WalkKit
import Derived.ProofKit
import Derived.Below
import Derived.Outline
import Derived.WalkSpells
import Derived.WalkLawsBesides
import Derived.Lib.Hide
import Derived.Laws.BytesArg
namespace Go.Proofs.Ytggngmeoifdidaa
open Go.RowKit

theorem ret_int {k : IntKind} {a b : Int} (h : a = b) : Ending.returned (.int k a) = .returned (.int k b) := by rw [h]
theorem ret_str {a b : ByteArray} (h : a = b) : Ending.returned (.string a) = .returned (.string b) := by rw [h]

/-- The clock of a minute of the day, as five bytes. -/
def ctext (c : Int) : ByteArray := strOfNums [48 + c / 60 / 10, 48 + c / 60 % 10, 46, 48 + c % 60 / 10, 48 + c % 10]

theorem inT (n lo hi : Int) (w : World) (h1 : lo ≤ n) (h2 : n ≤ hi) :
    Calls Try.prog 24 #[.int .i64 n, .int .i64 lo, .int .i64 hi] w fun e w' => e = .returned (.bool true) ∧ w = w' := by
  go_enter Try.func24, Try.ntmps24
  go_wp2
  go_ret
  exact ⟨rfl, rfl⟩

theorem inF (n lo hi : Int) (w : World) (h1 : n < lo ∨ hi < n) :
    Calls Try.prog 24 #[.int .i64 n, .int .i64 lo, .int .i64 hi] w fun e w' => e = .returned (.bool false) ∧ w = w' := by
  by_cases h : n < lo
  · clear h1
    go_enter Try.func24, Try.ntmps24
    go_wp2
    go_ret
    exact ⟨rfl, rfl⟩
  · have h2 : decide (n ≤ hi) = false := by simp; omega
    clear h1
    go_enter Try.func24, Try.ntmps24
    go_wp2
    go_ret
    exact ⟨rfl, rfl⟩

theorem tvT (n : Int) (w : World) (h1 : 0 ≤ n) (h2 : n ≤ 10000) :
    Calls Try.prog 25 #[.int .i64 n] w fun e w' => e = .returned (.bool true) ∧ w = w' := by
  go_enter Try.func25, Try.ntmps25
  go_wp2
  go_ret
  exact ⟨rfl, rfl⟩

theorem tvF (n : Int) (w : World) (h1 : n < 0 ∨ 10000 < n) :
    Calls Try.prog 25 #[.int .i64 n] w fun e w' => e = .returned (.bool false) ∧ w = w' := by
  by_cases h : n < 0
  · clear h1
    go_enter Try.func25, Try.ntmps25
    go_wp2
    go_ret
    exact ⟨rfl, rfl⟩
  · have h2 : decide (n ≤ 10000) = false := by simp; omega
    clear h1
    go_enter Try.func25, Try.ntmps25
    go_wp2
    go_ret
    exact ⟨rfl, rfl⟩

theorem clockOf_any (m : Int) (w : World) (h1 : -100000 ≤ m) (h2 : m ≤ 100000) :
    Calls Try.prog 26 #[.int .i64 m] w fun e w' => e = .returned (.int .i64 (m % 1440)) ∧ w = w' := by
  by_cases h : 0 ≤ m
  · go_enter Try.func26, Try.ntmps26
    go_wp2
    go_ret
    exact ⟨rfl, rfl⟩
  · have e1 : m.tmod 1440 = - ((-m) % 1440) := by
      have : m = - (-m) := by omega
      rw [this, Int.neg_tmod, Int.tmod_eq_emod_of_nonneg (by omega)]; simp
    have b1 : -1440 < m.tmod 1440 := by rw [e1]; omega
    have b2 : m.tmod 1440 ≤ 0 := by rw [e1]; omega
    have E := Lib.hid e1
    clear e1
    by_cases hz : m.tmod 1440 < 0
    · go_enter Try.func26, Try.ntmps26
      go_wp2
      go_ret
      exact ⟨ret_int (by have := E.out; omega), rfl⟩
    · go_enter Try.func26, Try.ntmps26
      go_wp2
      go_ret
      exact ⟨ret_int (by have := E.out; omega), rfl⟩

theorem cell_new (w : World) (C : Array Value) (e : TypeId) (k : Nat) : (w.alloc (.cells C e)).cell? ⟨w.heap.size, k, none⟩ = C[k]? := by
  have h : (w.alloc (.cells C e)).heap[w.heap.size]? = some (.cells C e) := by
    show (w.heap.push _)[w.heap.size]? = _
    simp
  unfold World.cell?
  rw [h]; rfl

theorem str_cat (xs ys : List Int) : strOfNums xs ++ strOfNums ys = strOfNums (xs ++ ys) := by
  apply ByteArray.ext; simp [strOfNums, ByteArray.data_append]

theorem conv5 (w : World) (a b c d e : Int) :
    (convert 29 9 (.slice (some ⟨w.heap.size, 0, none⟩) 5 5)).run Try.prog (w.alloc (.cells #[.int .u8 a, .int .u8 b, .int .u8 c, .int .u8 d, .int .u8 e] 5))
      = .ok (.string (strOfNums [a, b, c, d, e])) (w.alloc (.cells #[.int .u8 a, .int .u8 b, .int .u8 c, .int .u8 d, .int .u8 e] 5)) := by
  refine run_convert_bytes_arg _ 29 5 Try.underlying29 Try.underlying5 _ 0 5 5 [a, b, c, d, e] rfl ?_ 9 Try.underlying9
  intro i hi
  have : i = 0 ∨ i = 1 ∨ i = 2 ∨ i = 3 ∨ i = 4 := by omega
  rcases this with rfl | rfl | rfl | rfl | rfl <;> rw [cell_new] <;> rfl

theorem conv1 (w : World) (a : Int) :
    (convert 29 9 (.slice (some ⟨w.heap.size, 0, none⟩) 1 1)).run Try.prog (w.alloc (.cells #[.int .u8 a] 5))
      = .ok (.string (strOfNums [a])) (w.alloc (.cells #[.int .u8 a] 5)) := by
  refine run_convert_bytes_arg _ 29 5 Try.underlying29 Try.underlying5 _ 0 1 1 [a] rfl ?_ 9 Try.underlying9
  intro i hi
  obtain rfl : i = 0 := by omega
  rw [cell_new]; rfl

theorem text_any (c : Int) (w : World) (h1 : 0 ≤ c) (h2 : c < 1440) :
    Calls Try.prog 29 #[.int .i64 c] w fun e w' => e = .returned (.string (ctext c)) ∧ Below w.heap.size w w' := by
  have kc := fun a b c d e => conv5 w a b c d e
  go_enter Try.func29, Try.ntmps29
  go_wp2
  go_ret
  exact ⟨rfl, (Below.refl _ _).alloc (Nat.le_refl _) _⟩

theorem dec_one (c : Int) (w : World) (h1 : 0 ≤ c) (h2 : c < 10) :
    Calls Try.prog 35 #[.int .i64 c] w fun e w' => e = .returned (.string (strOfNums [48 + c])) ∧ Below w.heap.size w w' := by
  have kc := fun a => conv1 w a
  go_enter Try.func35, Try.ntmps35
  go_wp2_with fail
  go_ret
  exact ⟨rfl, (Below.refl _ _).alloc (Nat.le_refl _) _⟩

theorem two_any (c : Int) (w : World) (h1 : 0 ≤ c) (h2 : c < 100) :
    Calls Try.prog 28 #[.int .i64 c] w fun e w' => e = .returned (.string (strOfNums [48 + c / 10, 48 + c % 10])) ∧ Below w.heap.size w w' := by
  go_enter Try.func28, Try.ntmps28
  go_wp2_with fail
  refine (dec_one _ _ (by omega) (by omega)).mono ?_
  rintro e w1 ⟨rfl, hb1⟩
  go_wp2_with fail
  refine (dec_one _ _ (by omega) (by omega)).mono ?_
  rintro e w2 ⟨rfl, hb2⟩
  go_wp2_with fail
  go_ret
  exact ⟨ret_str (str_cat _ _), hb1.trans (hb2.mono hb1.size)⟩

theorem iClockText_yes (c : Int) (w : World) (h1 : 0 ≤ c) (h2 : c ≤ 10000) :
    Calls Try.prog 17 #[.int .i64 c] w fun e w' => e = .returned (.string (ctext (c % 1440))) ∧ Below w.heap.size w w' := by
  go_enter Try.func17, Try.ntmps17
  go_wp2_with fail
  refine (tvT _ _ h1 h2).mono ?_
  rintro e w1 ⟨rfl, rfl⟩
  go_wp2_with fail
  refine (clockOf_any _ _ (by omega) (by omega)).mono ?_
  rintro e w1 ⟨rfl, rfl⟩
  go_wp2_with fail
  refine (text_any _ _ (by omega) (by omega)).mono ?_
  rintro e w1 ⟨rfl, hb1⟩
  go_wp2_with fail
  go_ret
  exact ⟨rfl, hb1⟩

theorem iClockText_no (c : Int) (w : World) (h1 : c < 0 ∨ 10000 < c) :
    Calls Try.prog 17 #[.int .i64 c] w fun e w' => e = .returned (.string ByteArray.empty) ∧ w = w' := by
  go_enter Try.func17, Try.ntmps17
  go_wp2_with fail
  refine (tvF _ _ h1).mono ?_
  rintro e w1 ⟨rfl, rfl⟩
  go_wp2_with fail
  go_ret
  exact ⟨rfl, rfl⟩

theorem sClockText_no (c : Int) (w : World) (h1 : c < 0 ∨ 10000 < c) :
    Calls Try.prog 16 #[.int .i64 c] w fun e w' => e = .returned (.string ByteArray.empty) ∧ w = w' := by
  go_enter Try.func16, Try.ntmps16
  go_wp2_with fail
  refine (inF _ _ _ _ h1).mono ?_
  rintro e w1 ⟨rfl, rfl⟩
  go_wp2_with fail
  go_ret
  exact ⟨rfl, rfl⟩

theorem sClockText_yes (c : Int) (w : World) (h1 : 0 ≤ c) (h2 : c ≤ 10000) :
    Calls Try.prog 16 #[.int .i64 c] w fun e w' => e = .returned (.string (ctext (c % 1440))) ∧ Below w.heap.size w w' := by
  go_enter Try.func16, Try.ntmps16
  go_wp2_with fail
  refine (inT _ _ _ _ h1 h2).mono ?_
  rintro e w1 ⟨rfl, rfl⟩
  go_wp2_with fail
  refine (two_any _ _ (by omega) (by omega)).mono ?_
  rintro e w1 ⟨rfl, hb1⟩
  go_wp2_with fail
  refine (two_any _ _ (by omega) (by omega)).mono ?_
  rintro e w2 ⟨rfl, hb2⟩
  go_wp2_with fail
  go_ret
  refine ⟨ret_str ?_, hb1.trans (hb2.mono hb1.size)⟩
  rw [show (⟨#[46]⟩ : ByteArray) = strOfNums [46] from rfl, str_cat, str_cat]
  unfold ctext
  congr 1
  simp
end Go.Proofs.Ytggngmeoifdidaa
