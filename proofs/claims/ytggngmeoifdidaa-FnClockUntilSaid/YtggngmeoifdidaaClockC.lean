import Derived.Test.YtggngmeoifdidaaClockB
namespace Go.Proofs.Ytggngmeoifdidaa
open Go.RowKit

/-- The byte of a string at a place, as a number; 0 behind its end. -/
def bt (s : ByteArray) (i : Nat) : Int := ((s.data[i]?.getD 0).toNat : Int)

theorem bt_get (s : ByteArray) (i : Nat) (h : i < s.size) : ((s[i]).toNat : Int) = bt s i := by
  unfold bt
  rw [Array.getElem?_eq_getElem (by exact h)]
  rfl

theorem bt_extract (s : ByteArray) (a b i : Nat) (h : a + i < b) (hb : b ≤ s.size) : bt (s.extract a b) i = bt s (a + i) := by
  unfold bt
  simp [ByteArray.data_extract, Array.getElem?_extract, show i < b - a by omega]
  have hb' : b ≤ s.data.size := hb
  rw [if_pos (by omega)]

theorem size_extract (s : ByteArray) (a b : Nat) (hb : b ≤ s.size) : (s.extract a b).size = b - a := by
  rw [ByteArray.size_extract]; omega

theorem twoD_yes (s : ByteArray) (w : World) (hs : s.size = 2) (h1 : 48 ≤ bt s 0) (h2 : bt s 0 ≤ 57) (h3 : 48 ≤ bt s 1) (h4 : bt s 1 ≤ 57) :
    Calls Try.prog 32 #[.string s] w fun e w' => e = .returned (.tuple #[.int .i64 ((bt s 0 - 48) * 10 + (bt s 1 - 48)), .bool true]) ∧ Below w.heap.size w w' := by
  have := two_yes s w (by omega) (by omega) (by rw [bt_get]; exact h1) (by rw [bt_get]; exact h2) (by rw [bt_get]; exact h3) (by rw [bt_get]; exact h4)
  rw [bt_get s 0, bt_get s 1] at this
  exact this

theorem twoD_no (s : ByteArray) (w : World) (hs : s.size = 2) (h : bt s 0 < 48 ∨ 57 < bt s 0 ∨ bt s 1 < 48 ∨ 57 < bt s 1) :
    Calls Try.prog 32 #[.string s] w fun e w' => e = .returned (.tuple #[.int .i64 0, .bool false]) ∧ Below w.heap.size w w' :=
  two_no s w hs (by rw [bt_get s 0, bt_get s 1]; exact h)

theorem iFrom_len (s : ByteArray) (w : World) (h : ((s.size : Int) != 5) = true) :
    Calls Try.prog 20 #[.string s] w fun e w' => e = .returned (.tuple #[.int .i64 0, .bool false]) ∧ Below w.heap.size w w' := by
  go_enter Try.func20, Try.ntmps20
  go_wp2_with fail
  go_ret2
  exact ⟨rfl, Below.refl _ _⟩

theorem iFrom_dot (s : ByteArray) (w : World) (h : ((s.size : Int) != 5) = false) (g : 2 < s.size) (hd : ((s[2].toNat : Int) != 46) = true) :
    Calls Try.prog 20 #[.string s] w fun e w' => e = .returned (.tuple #[.int .i64 0, .bool false]) ∧ Below w.heap.size w w' := by
  go_enter Try.func20, Try.ntmps20
  go_wp2_with fail
  go_ret2
  exact ⟨rfl, Below.refl _ _⟩

theorem iFrom_h0 (s : ByteArray) (w : World) (h : ((s.size : Int) != 5) = false) (g : 2 < s.size) (hd : ((s[2].toNat : Int) != 46) = false)
    (hn : bt s 0 < 48 ∨ 57 < bt s 0 ∨ bt s 1 < 48 ∨ 57 < bt s 1) :
    Calls Try.prog 20 #[.string s] w fun e w' => e = .returned (.tuple #[.int .i64 0, .bool false]) ∧ Below w.heap.size w w' := by
  go_enter Try.func20, Try.ntmps20
  go_wp2_with fail
  refine (twoD_no _ _ (size_extract s 0 2 (by omega)) ?_).mono ?_
  · rw [bt_extract s 0 2 0 (by omega) (by omega), bt_extract s 0 2 1 (by omega) (by omega)]; exact hn
  rintro e w1 ⟨rfl, hb⟩
  go_wp2_with fail
  go_ret2
  exact ⟨rfl, hb⟩

theorem iFrom_h1 (s : ByteArray) (w : World) (h : ((s.size : Int) != 5) = false) (g : 2 < s.size) (hd : ((s[2].toNat : Int) != 46) = false)
    (h1 : 48 ≤ bt s 0) (h2 : bt s 0 ≤ 57) (h3 : 48 ≤ bt s 1) (h4 : bt s 1 ≤ 57) (hn : 23 < (bt s 0 - 48) * 10 + (bt s 1 - 48)) :
    Calls Try.prog 20 #[.string s] w fun e w' => e = .returned (.tuple #[.int .i64 0, .bool false]) ∧ Below w.heap.size w w' := by
  have x0 := bt_extract s 0 2 0 (by omega) (by omega)
  have x1 := bt_extract s 0 2 1 (by omega) (by omega)
  have X0 := Lib.hid x0
  have X1 := Lib.hid x1
  clear x0 x1
  go_enter Try.func20, Try.ntmps20
  go_wp2_with fail
  refine (twoD_yes _ _ (size_extract s 0 2 (by omega)) (by rw [X0.out]; exact h1) (by rw [X0.out]; exact h2) (by rw [X1.out]; exact h3) (by rw [X1.out]; exact h4)).mono ?_
  rw [X0.out, X1.out]
  rintro e w1 ⟨rfl, hb⟩
  go_wp2_with fail
  go_ret2
  exact ⟨rfl, hb⟩

theorem iFrom_m0 (s : ByteArray) (w : World) (h : ((s.size : Int) != 5) = false) (g : 2 < s.size) (hs : s.size ≤ 5) (hs' : 5 ≤ s.size) (hd : ((s[2].toNat : Int) != 46) = false)
    (h1 : 48 ≤ bt s 0) (h2 : bt s 0 ≤ 57) (h3 : 48 ≤ bt s 1) (h4 : bt s 1 ≤ 57) (hh : (bt s 0 - 48) * 10 + (bt s 1 - 48) ≤ 23)
    (hn : bt s 3 < 48 ∨ 57 < bt s 3 ∨ bt s 4 < 48 ∨ 57 < bt s 4) :
    Calls Try.prog 20 #[.string s] w fun e w' => e = .returned (.tuple #[.int .i64 0, .bool false]) ∧ Below w.heap.size w w' := by
  have x0 := bt_extract s 0 2 0 (by omega) (by omega)
  have x1 := bt_extract s 0 2 1 (by omega) (by omega)
  have X0 := Lib.hid x0
  have X1 := Lib.hid x1
  clear x0 x1
  go_enter Try.func20, Try.ntmps20
  go_wp2_with fail
  refine (twoD_yes _ _ (size_extract s 0 2 (by omega)) (by rw [X0.out]; exact h1) (by rw [X0.out]; exact h2) (by rw [X1.out]; exact h3) (by rw [X1.out]; exact h4)).mono ?_
  rw [X0.out, X1.out]
  rintro e w1 ⟨rfl, hb⟩
  go_wp2_with fail
  refine (twoD_no _ _ ?_ ?_).mono ?_
  · rw [size_extract s _ _ (by omega)]; omega
  · rw [bt_extract s _ _ 0 (by omega) (by omega), bt_extract s _ _ 1 (by omega) (by omega)]; exact hn
  rintro e w2 ⟨rfl, hb2⟩
  go_wp2_with fail
  go_ret2
  exact ⟨rfl, hb.trans (hb2.mono hb.size)⟩

theorem iFrom_m1 (s : ByteArray) (w : World) (h : ((s.size : Int) != 5) = false) (g : 2 < s.size) (hs : s.size ≤ 5) (hs' : 5 ≤ s.size) (hd : ((s[2].toNat : Int) != 46) = false)
    (h1 : 48 ≤ bt s 0) (h2 : bt s 0 ≤ 57) (h3 : 48 ≤ bt s 1) (h4 : bt s 1 ≤ 57) (hh : (bt s 0 - 48) * 10 + (bt s 1 - 48) ≤ 23)
    (k1 : 48 ≤ bt s 3) (k2 : bt s 3 ≤ 57) (k3 : 48 ≤ bt s 4) (k4 : bt s 4 ≤ 57) (hn : 59 < (bt s 3 - 48) * 10 + (bt s 4 - 48)) :
    Calls Try.prog 20 #[.string s] w fun e w' => e = .returned (.tuple #[.int .i64 0, .bool false]) ∧ Below w.heap.size w w' := by
  have X0 := Lib.hid (bt_extract s 0 2 0 (by omega) (by omega))
  have X1 := Lib.hid (bt_extract s 0 2 1 (by omega) (by omega))
  have Y0 := Lib.hid (bt_extract s 3 s.size 0 (by omega) (by omega))
  have Y1 := Lib.hid (bt_extract s 3 s.size 1 (by omega) (by omega))
  go_enter Try.func20, Try.ntmps20
  go_wp2_with fail
  refine (twoD_yes _ _ (size_extract s 0 2 (by omega)) (by rw [X0.out]; exact h1) (by rw [X0.out]; exact h2) (by rw [X1.out]; exact h3) (by rw [X1.out]; exact h4)).mono ?_
  rw [X0.out, X1.out]
  rintro e w1 ⟨rfl, hb⟩
  go_wp2_with fail
  refine (twoD_yes _ _ (by rw [size_extract s _ _ (by omega)]; omega) (by rw [Y0.out]; exact k1) (by rw [Y0.out]; exact k2) (by rw [Y1.out]; exact k3) (by rw [Y1.out]; exact k4)).mono ?_
  rw [Y0.out, Y1.out]
  rintro e w2 ⟨rfl, hb2⟩
  go_wp2_with fail
  go_ret2
  exact ⟨rfl, hb.trans (hb2.mono hb.size)⟩

theorem iFrom_ok (s : ByteArray) (w : World) (h : ((s.size : Int) != 5) = false) (g : 2 < s.size) (hs : s.size ≤ 5) (hs' : 5 ≤ s.size) (hd : ((s[2].toNat : Int) != 46) = false)
    (h1 : 48 ≤ bt s 0) (h2 : bt s 0 ≤ 57) (h3 : 48 ≤ bt s 1) (h4 : bt s 1 ≤ 57) (hh : (bt s 0 - 48) * 10 + (bt s 1 - 48) ≤ 23)
    (k1 : 48 ≤ bt s 3) (k2 : bt s 3 ≤ 57) (k3 : 48 ≤ bt s 4) (k4 : bt s 4 ≤ 57) (hn : (bt s 3 - 48) * 10 + (bt s 4 - 48) ≤ 59) :
    Calls Try.prog 20 #[.string s] w fun e w' => e = .returned (.tuple #[.int .i64 (((bt s 0 - 48) * 10 + (bt s 1 - 48)) * 60 + ((bt s 3 - 48) * 10 + (bt s 4 - 48))), .bool true]) ∧ Below w.heap.size w w' := by
  have X0 := Lib.hid (bt_extract s 0 2 0 (by omega) (by omega))
  have X1 := Lib.hid (bt_extract s 0 2 1 (by omega) (by omega))
  have Y0 := Lib.hid (bt_extract s 3 s.size 0 (by omega) (by omega))
  have Y1 := Lib.hid (bt_extract s 3 s.size 1 (by omega) (by omega))
  go_enter Try.func20, Try.ntmps20
  go_wp2_with fail
  refine (twoD_yes _ _ (size_extract s 0 2 (by omega)) (by rw [X0.out]; exact h1) (by rw [X0.out]; exact h2) (by rw [X1.out]; exact h3) (by rw [X1.out]; exact h4)).mono ?_
  rw [X0.out, X1.out]
  rintro e w1 ⟨rfl, hb⟩
  go_wp2_with fail
  refine (twoD_yes _ _ (by rw [size_extract s _ _ (by omega)]; omega) (by rw [Y0.out]; exact k1) (by rw [Y0.out]; exact k2) (by rw [Y1.out]; exact k3) (by rw [Y1.out]; exact k4)).mono ?_
  rw [Y0.out, Y1.out]
  rintro e w2 ⟨rfl, hb2⟩
  go_wp2_with fail
  go_ret2
  exact ⟨rfl, hb.trans (hb2.mono hb.size)⟩
end Go.Proofs.Ytggngmeoifdidaa
