import Derived.Test.YtggngmeoifdidaaClockC
namespace Go.Proofs.Ytggngmeoifdidaa
open Go.RowKit

theorem str_eq {a b : ByteArray} (h : a = b) : (a.toList == b.toList) = true := by rw [h]; simp
theorem str_inj {a b : ByteArray} (h : a.toList = b.toList) : a = b := by
  rw [ByteArray.toList_eq, ByteArray.toList_eq] at h
  exact ByteArray.ext (Array.toList_inj.1 h)
theorem str_ne {a b : ByteArray} (h : a ≠ b) : (a.toList == b.toList) = false := by
  rw [beq_eq_false_iff_ne]
  exact fun e => h (str_inj e)

theorem ofNat_toNat (n : Int) (h1 : 0 ≤ n) (h2 : n < 256) : ((UInt8.ofNat n.toNat).toNat : Int) = n := by
  simp [UInt8.toNat_ofNat]; omega

theorem ctext_size (m : Int) : (ctext m).size = 5 := rfl
theorem bt_ctext (m : Int) (h1 : 0 ≤ m) (h2 : m < 1440) :
    bt (ctext m) 0 = 48 + m / 60 / 10 ∧ bt (ctext m) 1 = 48 + m / 60 % 10 ∧ bt (ctext m) 2 = 46 ∧ bt (ctext m) 3 = 48 + m % 60 / 10 ∧ bt (ctext m) 4 = 48 + m % 10 := by
  refine ⟨?_, ?_, ?_, ?_, ?_⟩
  all_goals
    refine (ofNat_toNat _ ?_ ?_) <;> omega

theorem bt_ext (s t : ByteArray) (h : s.size = 5) (h' : t.size = 5) (e : ∀ i, i < 5 → bt s i = bt t i) : s = t := by
  apply ByteArray.ext
  apply Array.ext
  · exact h.trans h'.symm
  · intro i h1 h2
    have hi : i < 5 := by have : s.data.size = 5 := h; omega
    have := e i hi
    unfold bt at this
    rw [Array.getElem?_eq_getElem h1, Array.getElem?_eq_getElem h2] at this
    simp at this
    exact UInt8.toNat_inj.1 (by omega)

theorem bt_lt (s : ByteArray) (i : Nat) : 0 ≤ bt s i ∧ bt s i < 256 := by
  unfold bt
  have := UInt8.toNat_lt (s.data[i]?.getD 0)
  omega

theorem ctext_inj (m k : Int) (h1 : 0 ≤ m) (h2 : m < 1440) (h3 : 0 ≤ k) (h4 : k < 1440) (e : ctext m = ctext k) : m = k := by
  have a := bt_ctext m h1 h2
  have b := bt_ctext k h3 h4
  rw [e] at a
  obtain ⟨a0, a1, _, a3, a4⟩ := a
  obtain ⟨b0, b1, _, b3, b4⟩ := b
  omega

theorem iClockFrom_yes (m : Int) (w : World) (h1 : 0 ≤ m) (h2 : m < 1440) :
    Calls Try.prog 20 #[.string (ctext m)] w fun e w' => e = .returned (.tuple #[.int .i64 m, .bool true]) ∧ Below w.heap.size w w' := by
  obtain ⟨a0, a1, a2, a3, a4⟩ := bt_ctext m h1 h2
  have hs : (ctext m).size = 5 := ctext_size m
  generalize ctext m = s at *
  refine (iFrom_ok s w (by rw [hs]; rfl) (by omega) (by omega) (by omega) (by rw [bt_get s 2, a2]; rfl) (by omega) (by omega) (by omega) (by omega) (by omega) (by omega) (by omega) (by omega) (by omega) (by omega)).mono ?_
  rintro e w' ⟨rfl, hb⟩
  refine ⟨?_, hb⟩
  have : ((bt s 0 - 48) * 10 + (bt s 1 - 48)) * 60 + ((bt s 3 - 48) * 10 + (bt s 4 - 48)) = m := by rw [a0, a1, a3, a4]; omega
  rw [this]

theorem iClockFrom_no (s : ByteArray) (w : World) (hn : ∀ m, 0 ≤ m → m < 1440 → s ≠ ctext m) :
    Calls Try.prog 20 #[.string s] w fun e w' => e = .returned (.tuple #[.int .i64 0, .bool false]) ∧ Below w.heap.size w w' := by
  by_cases hs : s.size = 5
  · have hl : ((s.size : Int) != 5) = false := by rw [hs]; rfl
    by_cases hd : bt s 2 = 46
    · have hd' : ((s[2].toNat : Int) != 46) = false := by rw [bt_get s 2, hd]; rfl
      by_cases c1 : bt s 0 < 48 ∨ 57 < bt s 0 ∨ bt s 1 < 48 ∨ 57 < bt s 1
      · exact iFrom_h0 s w hl (by omega) hd' c1
      by_cases c2 : 23 < (bt s 0 - 48) * 10 + (bt s 1 - 48)
      · exact iFrom_h1 s w hl (by omega) hd' (by omega) (by omega) (by omega) (by omega) c2
      by_cases c3 : bt s 3 < 48 ∨ 57 < bt s 3 ∨ bt s 4 < 48 ∨ 57 < bt s 4
      · exact iFrom_m0 s w hl (by omega) (by omega) (by omega) hd' (by omega) (by omega) (by omega) (by omega) (by omega) c3
      by_cases c4 : 59 < (bt s 3 - 48) * 10 + (bt s 4 - 48)
      · exact iFrom_m1 s w hl (by omega) (by omega) (by omega) hd' (by omega) (by omega) (by omega) (by omega) (by omega) (by omega) (by omega) (by omega) (by omega) c4
      exfalso
      have b := bt_ctext (((bt s 0 - 48) * 10 + (bt s 1 - 48)) * 60 + ((bt s 3 - 48) * 10 + (bt s 4 - 48))) (by omega) (by omega)
      refine hn _ (by omega) (by omega) (bt_ext s _ hs (ctext_size (((bt s 0 - 48) * 10 + (bt s 1 - 48)) * 60 + ((bt s 3 - 48) * 10 + (bt s 4 - 48)))) ?_)
      obtain ⟨b0, b1, b2, b3, b4⟩ := b
      intro i hi
      have : i = 0 ∨ i = 1 ∨ i = 2 ∨ i = 3 ∨ i = 4 := by omega
      rcases this with rfl | rfl | rfl | rfl | rfl
      · rw [b0]; omega
      · rw [b1]; omega
      · rw [b2]; omega
      · rw [b3]; omega
      · rw [b4]; omega
    · exact iFrom_dot s w hl (by omega) (by rw [bt_get s 2]; simpa using hd)
  · exact iFrom_len s w (by simp; omega)
end Go.Proofs.Ytggngmeoifdidaa
