import Derived.Test.YtmpkdnikkganlaaIns
import Derived.Laws.BytesArg
namespace Go.Proofs.Ytmpkdnikkganlaa
open Go.RowKit


/-- The clock of a minute of the day, as five bytes. -/
def ctext (c : Int) : ByteArray := strOfNums [48 + c / 60 / 10, 48 + c / 60 % 10, 46, 48 + c % 60 / 10, 48 + c % 10]





theorem clockOf_any (m : Int) (w : World) (h1 : -100000 ≤ m) (h2 : m ≤ 100000) :
    Calls Try.prog 29 #[.int .i64 m] w fun e w' => e = .returned (.int .i64 (m % 1440)) ∧ w = w' := by
  by_cases h : 0 ≤ m
  · go_enter Try.func29, Try.ntmps29
    go_wp2
    go_ret
    exact ⟨rfl, rfl⟩
  · have e1 : m.tmod 1440 = - ((-m) % 1440) := by
      have : m = - (-m) := by omega
      rw [this, Int.neg_tmod, Int.tmod_eq_emod_of_nonneg (by omega)]; simp
    have b1 : -1440 < m.tmod 1440 := by rw [e1]; omega
    have b2 : m.tmod 1440 ≤ 0 := by rw [e1]; omega
    have E := Lib.hid e1
    clear e1
    by_cases hz : m.tmod 1440 < 0
    · go_enter Try.func29, Try.ntmps29
      go_wp2
      go_ret
      exact ⟨ret_int (by have := E.out; omega), rfl⟩
    · go_enter Try.func29, Try.ntmps29
      go_wp2
      go_ret
      exact ⟨ret_int (by have := E.out; omega), rfl⟩


theorem str_cat (xs ys : List Int) : strOfNums xs ++ strOfNums ys = strOfNums (xs ++ ys) := by
  apply ByteArray.ext; simp [strOfNums, ByteArray.data_append]

theorem conv5 (w : World) (a b c d e : Int) :
    (convert 29 9 (.slice (some ⟨w.heap.size, 0, none⟩) 5 5)).run Try.prog (w.alloc (.cells #[.int .u8 a, .int .u8 b, .int .u8 c, .int .u8 d, .int .u8 e] 5))
      = .ok (.string (strOfNums [a, b, c, d, e])) (w.alloc (.cells #[.int .u8 a, .int .u8 b, .int .u8 c, .int .u8 d, .int .u8 e] 5)) := by
  refine run_convert_bytes_arg _ 29 5 Try.underlying29 Try.underlying5 _ 0 5 5 [a, b, c, d, e] rfl ?_ 9 Try.underlying9
  intro i hi
  have : i = 0 ∨ i = 1 ∨ i = 2 ∨ i = 3 ∨ i = 4 := by omega
  rcases this with rfl | rfl | rfl | rfl | rfl <;> rw [cell_new] <;> rfl

theorem conv1 (w : World) (a : Int) :
    (convert 29 9 (.slice (some ⟨w.heap.size, 0, none⟩) 1 1)).run Try.prog (w.alloc (.cells #[.int .u8 a] 5))
      = .ok (.string (strOfNums [a])) (w.alloc (.cells #[.int .u8 a] 5)) := by
  refine run_convert_bytes_arg _ 29 5 Try.underlying29 Try.underlying5 _ 0 1 1 [a] rfl ?_ 9 Try.underlying9
  intro i hi
  obtain rfl : i = 0 := by omega
  rw [cell_new]; rfl

theorem text_any (c : Int) (w : World) (h1 : 0 ≤ c) (h2 : c < 1440) :
    Calls Try.prog 30 #[.int .i64 c] w fun e w' => e = .returned (.string (ctext c)) ∧ Below w.heap.size w w' := by
  have kc := fun a b c d e => conv5 w a b c d e
  go_enter Try.func30, Try.ntmps30
  go_wp2
  go_ret
  exact ⟨rfl, (Below.refl _ _).alloc (Nat.le_refl _) _⟩

theorem dec_one (c : Int) (w : World) (h1 : 0 ≤ c) (h2 : c < 10) :
    Calls Try.prog 14 #[.int .i64 c] w fun e w' => e = .returned (.string (strOfNums [48 + c])) ∧ Below w.heap.size w w' := by
  have kc := fun a => conv1 w a
  go_enter Try.func14, Try.ntmps14
  go_wp2_with fail
  go_ret
  exact ⟨rfl, (Below.refl _ _).alloc (Nat.le_refl _) _⟩

theorem two_any (c : Int) (w : World) (h1 : 0 ≤ c) (h2 : c < 100) :
    Calls Try.prog 27 #[.int .i64 c] w fun e w' => e = .returned (.string (strOfNums [48 + c / 10, 48 + c % 10])) ∧ Below w.heap.size w w' := by
  go_enter Try.func27, Try.ntmps27
  go_wp2_with fail
  refine (dec_one _ _ (by omega) (by omega)).mono ?_
  rintro e w1 ⟨rfl, hb1⟩
  go_wp2_with fail
  refine (dec_one _ _ (by omega) (by omega)).mono ?_
  rintro e w2 ⟨rfl, hb2⟩
  go_wp2_with fail
  go_ret
  exact ⟨ret_str (str_cat _ _), hb1.trans (hb2.mono hb1.size)⟩

theorem iClockText_yes (c : Int) (w : World) (h1 : 0 ≤ c) (h2 : c ≤ 10000) :
    Calls Try.prog 18 #[.int .i64 c] w fun e w' => e = .returned (.string (ctext (c % 1440))) ∧ Below w.heap.size w w' := by
  go_enter Try.func18, Try.ntmps18
  go_wp2_with fail
  refine (tvT _ _ h1 h2).mono ?_
  rintro e w1 ⟨rfl, rfl⟩
  go_wp2_with fail
  refine (clockOf_any _ _ (by omega) (by omega)).mono ?_
  rintro e w1 ⟨rfl, rfl⟩
  go_wp2_with fail
  refine (text_any _ _ (by omega) (by omega)).mono ?_
  rintro e w1 ⟨rfl, hb1⟩
  go_wp2_with fail
  go_ret
  exact ⟨rfl, hb1⟩

theorem iClockText_no (c : Int) (w : World) (h1 : c < 0 ∨ 10000 < c) :
    Calls Try.prog 18 #[.int .i64 c] w fun e w' => e = .returned (.string ByteArray.empty) ∧ w = w' := by
  go_enter Try.func18, Try.ntmps18
  go_wp2_with fail
  refine (tvF _ _ h1).mono ?_
  rintro e w1 ⟨rfl, rfl⟩
  go_wp2_with fail
  go_ret
  exact ⟨rfl, rfl⟩

theorem sClockText_no (c : Int) (w : World) (h1 : c < 0 ∨ 10000 < c) :
    Calls Try.prog 15 #[.int .i64 c] w fun e w' => e = .returned (.string ByteArray.empty) ∧ w = w' := by
  go_enter Try.func15, Try.ntmps15
  go_wp2_with fail
  refine (inF _ _ _ _ h1).mono ?_
  rintro e w1 ⟨rfl, rfl⟩
  go_wp2_with fail
  go_ret
  exact ⟨rfl, rfl⟩

theorem sClockText_yes (c : Int) (w : World) (h1 : 0 ≤ c) (h2 : c ≤ 10000) :
    Calls Try.prog 15 #[.int .i64 c] w fun e w' => e = .returned (.string (ctext (c % 1440))) ∧ Below w.heap.size w w' := by
  go_enter Try.func15, Try.ntmps15
  go_wp2_with fail
  refine (inT _ _ _ _ h1 h2).mono ?_
  rintro e w1 ⟨rfl, rfl⟩
  go_wp2_with fail
  refine (two_any _ _ (by omega) (by omega)).mono ?_
  rintro e w1 ⟨rfl, hb1⟩
  go_wp2_with fail
  refine (two_any _ _ (by omega) (by omega)).mono ?_
  rintro e w2 ⟨rfl, hb2⟩
  go_wp2_with fail
  go_ret
  refine ⟨ret_str ?_, hb1.trans (hb2.mono hb1.size)⟩
  rw [show (⟨#[46]⟩ : ByteArray) = strOfNums [46] from rfl, str_cat, str_cat]
  unfold ctext
  congr 1
  simp
end Go.Proofs.Ytmpkdnikkganlaa
