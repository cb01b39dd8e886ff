import Derived.Test.YtdmbgnbegnlcaaaStopsE
namespace Go.Proofs.Ytdmbgnbegnlcaaa
open Go.RowKit

theorem atFrom_cases (xs : List St) (t : Int) : ∀ m k, (∃ i : Nat, k ≤ i ∧ i < k + m ∧ atFrom xs t m k = (i : Int) ∧ tw xs i = t ∧ ∀ j, k ≤ j → j < i → tw xs j ≠ t) ∨ (atFrom xs t m k = -1 ∧ ∀ j, k ≤ j → j < k + m → tw xs j ≠ t) := by
  intro m
  induction m with
  | zero => intro k; exact .inr ⟨rfl, fun j h1 h2 => by omega⟩
  | succ m ih =>
    intro k
    simp only [atFrom]
    by_cases h : tw xs k = t
    · rw [if_pos h]
      exact .inl ⟨k, Nat.le_refl _, by omega, rfl, h, fun j h1 h2 => by omega⟩
    · rw [if_neg h]
      rcases ih (k + 1) with ⟨i, h1, h2, h3, h4, h5⟩ | ⟨h1, h2⟩
      · refine .inl ⟨i, by omega, by omega, h3, h4, fun j g1 g2 => ?_⟩
        rcases Nat.lt_or_ge k j with g | g
        · exact h5 j (by omega) g2
        · obtain rfl : j = k := by omega
          exact h
      · refine .inr ⟨h1, fun j g1 g2 => ?_⟩
        rcases Nat.lt_or_ge k j with g | g
        · exact h2 j (by omega) (by omega)
        · obtain rfl : j = k := by omega
          exact h
theorem atV_cases (xs : List St) (t : Int) : (∃ i : Nat, i < xs.length ∧ atV xs t = (i : Int) ∧ tw xs i = t ∧ ∀ j, j < i → tw xs j ≠ t) ∨ (atV xs t = -1 ∧ ∀ j, j < xs.length → tw xs j ≠ t) := by
  rcases atFrom_cases xs t xs.length 0 with ⟨i, _, h2, h3, h4, h5⟩ | ⟨h1, h2⟩
  · exact .inl ⟨i, by omega, h3, h4, fun j hj => h5 j (Nat.zero_le _) hj⟩
  · exact .inr ⟨h1, fun j hj => h2 j (Nat.zero_le _) (by omega)⟩
theorem atV_eq {xs : List St} {t : Int} {i : Nat} (hi : i < xs.length) (ht : tw xs i = t) (hn : ∀ j, j < i → tw xs j ≠ t) : atV xs t = (i : Int) := by
  rcases atV_cases xs t with ⟨q, h1, h2, h3, h4⟩ | ⟨_, h2⟩
  · rcases Nat.lt_trichotomy q i with h | h | h
    · exact absurd h3 (hn q h)
    · rw [h2, h]
    · exact absurd ht (h4 i h)
  · exact absurd ht (h2 i hi)
theorem town_inj {n : Int} {xs : List St} (h : Valid n xs) {i j : Nat} (hi : i < xs.length) (hj : j < xs.length) (he : tw xs i = tw xs j) : i = j := by
  rcases Nat.lt_trichotomy i j with g | g | g
  · exact absurd he ((h.2.2.2.2 j hj).2.2.2.2.2 i g)
  · exact g
  · exact absurd he.symm ((h.2.2.2.2 i hi).2.2.2.2.2 j g)

/-- The earliest meeting so far, with stop i of the first looked at, stop k of the second in its town. -/
def updK (a b : List St) (B : Int) (i k : Nat) : Int :=
  if max (ar a i) (ar b k) ≤ lv a i ∧ max (ar a i) (ar b k) ≤ lv b k ∧ (B < 0 ∨ max (ar a i) (ar b k) < B) then max (ar a i) (ar b k) else B
def updM (a b : List St) (B : Int) (i : Nat) : Int := if atV b (tw a i) < 0 then B else updK a b B i (atV b (tw a i)).toNat
/-- The earliest meeting of the first i stops of a coach with those of another one, or -1. -/
def mF (a b : List St) : Nat → Int
  | 0 => -1
  | i + 1 => updM a b (mF a b i) i

theorem updK_bd {a b : List St} {B : Int} {i k : Nat} (h1 : -1 ≤ B) (h2 : B ≤ 10000) (h3 : 0 ≤ ar a i) (h4 : ar a i ≤ 10000) (h5 : ar b k ≤ 10000) : -1 ≤ updK a b B i k ∧ updK a b B i k ≤ 10000 := by
  unfold updK; split <;> omega
theorem mF_bd {n : Int} {a b : List St} (ha : Valid n a) (hb : Valid n b) : ∀ i, i ≤ a.length → -1 ≤ mF a b i ∧ mF a b i ≤ 10000 := by
  intro i
  induction i with
  | zero => intro _; simp [mF]
  | succ i ih =>
    intro hi
    have h1 := ih (by omega)
    have t1 := ha.times (i := i) (by omega)
    simp only [mF, updM]
    split
    · exact h1
    · rename_i hk
      rcases atV_cases b (tw a i) with ⟨q, h2, h3, _⟩ | ⟨h2, _⟩
      · have t2 := hb.times h2
        rw [h3, Int.toNat_natCast]
        exact updK_bd h1.1 h1.2 t1.1 (by omega) (by omega)
      · omega

theorem updK_T {a b : List St} {B T : Int} {i k : Nat} (h : max (ar a i) (ar b k) = T) : updK a b B i k = if T ≤ lv a i ∧ T ≤ lv b k ∧ (B < 0 ∨ T < B) then T else B := by unfold updK; rw [h]

set_option maxRecDepth 100000 in
set_option maxHeartbeats 4000000 in
theorem sMeet_yes (n : Int) (A A' : Option Addr) (c c' : Nat) (a b : List St) (w : World) (h : Cells w A (fl a)) (h' : Cells w A' (fl b)) (hl : a.length ≤ 1048576) (hl' : b.length ≤ 1048576) (ha : Valid n a) (hb : Valid n b) :
    Calls Try.prog 42 #[.int .i64 n, .slice A a.length c, .slice A' b.length c'] w fun e w' => e = .returned (.tuple #[.int .i64 (if mF a b a.length < 0 then 0 else mF a b a.length), .bool (!decide (mF a b a.length < 0))]) ∧ Below w.heap.size w w' := by
  have HVA := Lib.hid ha
  have HVB := Lib.hid hb
  clear ha hb
  go_enter Try.func42, Try.ntmps42
  go_wp2_with fail
  go_loopw [8, 9] (fun q i wr => ∃ j : Nat, j ≤ a.length ∧ q = .int .i64 (mF a b j) ∧ i = .int .i64 j ∧ Below w.heap.size w wr) (fun _ i _ => a.length - (intOf i).toNat)
  case atStart => exact ⟨0, Nat.zero_le _, rfl, rfl, Below.refl _ _⟩
  case round =>
    obtain ⟨i, hi, rfl, rfl, hbel⟩ := hrel
    have mb := mF_bd HVA.out HVB.out i hi
    obtain ⟨mb1, mb2⟩ := mb
    by_cases hlt : i < a.length
    · have ta := HVA.out.times hlt
      obtain ⟨ta1, ta2, ta3⟩ := ta
      go_wp2_with fail
      refine (sValid_yes (h.below hbel) hl HVA.out).mono ?_
      rintro e w1 ⟨rfl, b1⟩
      have bel1 := hbel.trans (b1.mono hbel.size)
      clear b1 hbel
      go_wp2_with fail
      refine (sValid_yes (h'.below bel1) hl' HVB.out).mono ?_
      rintro e w2 ⟨rfl, b2⟩
      have bel2 := bel1.trans (b2.mono bel1.size)
      clear b2 bel1
      obtain ⟨g, o, hA, hg, c0, c1, c2⟩ := h.at3 hlt
      subst hA
      have d0 := (bel2.cell (p := ⟨g, o + i * 3, none⟩) hg).trans c0
      have d1 := (bel2.cell (p := ⟨g, o + i * 3 + 1, none⟩) hg).trans c1
      have d2 := (bel2.cell (p := ⟨g, o + i * 3 + 2, none⟩) hg).trans c2
      clear c0 c1 c2
      go_wp2_with fail
      refine (l2At_any _ _ b _ _ (h'.below bel2) hl').mono ?_
      rintro e _ ⟨rfl, rfl⟩
      have HUP := Lib.hid (show mF a b (i + 1) = updM a b (mF a b i) i from rfl)
      rcases atV_cases b (tw a i) with ⟨k, hk, hat, -, -⟩ | ⟨hat, -⟩
      · rw [hat]
        have HUP := Lib.hid (show mF a b (i + 1) = updK a b (mF a b i) i k from HUP.out.trans (by unfold updM; rw [hat, if_neg (by omega), Int.toNat_natCast]))
        clear hat
        have tb := HVB.out.times hk
        obtain ⟨tb1, tb2, tb3⟩ := tb
        obtain ⟨g', o', hA', hg', c0, c1, c2⟩ := h'.at3 hk
        subst hA'
        have q1 := (bel2.cell (p := ⟨g', o' + k * 3 + 1, none⟩) hg').trans c1
        have q2 := (bel2.cell (p := ⟨g', o' + k * 3 + 2, none⟩) hg').trans c2
        clear c0 c1 c2
        have i1 : (i : Int) < (a.length : Int) := by omega
        have i2 : (k : Int) < (b.length : Int) := by omega
        by_cases hm : ar a i < ar b k
        · have HT := Lib.hid (show max (ar a i) (ar b k) = ar b k by omega)
          have hm' : max (ar a i) (ar b k) = ar b k := HT.out
          go_wp2_with fail
          go_quiet (fail)
          have HUP := Lib.hid (show _ = _ from HUP.out.trans (updK_T hm'))
          clear hm' HT
          obtain ⟨T, hT⟩ : ∃ T, T = ar b k := ⟨_, rfl⟩
          rw [← hT] at HUP tb1 tb2 hm ⊢
          clear hT
          by_cases h1 : T ≤ lv a i
          · by_cases h2 : T ≤ lv b k
            · by_cases h3 : mF a b i < 0
              · have E := Lib.hid (show mF a b (i + 1) = T from HUP.out.trans (by rw [if_pos ⟨h1, h2, .inl h3⟩]))
                have f3 : decide (mF a b i < 0) = true := decide_eq_true h3
                first
                | (exfalso; omega)
                | (go_wp2_with fail
                   exact ⟨⟨i + 1, by omega, by rw [E.out], by go_num, below_drewN' bel2 _⟩, by simp [intOf]; omega⟩)
              · have f3 : decide (mF a b i < 0) = false := decide_eq_false h3
                by_cases h4 : T < mF a b i
                · have E := Lib.hid (show mF a b (i + 1) = T from HUP.out.trans (by rw [if_pos ⟨h1, h2, .inr h4⟩]))
                  first
                  | (exfalso; omega)
                  | (go_wp2_with fail
                     exact ⟨⟨i + 1, by omega, by rw [E.out], by go_num, below_drewN' bel2 _⟩, by simp [intOf]; omega⟩)
                · have E := Lib.hid (show mF a b (i + 1) = mF a b i from HUP.out.trans (by rw [if_neg (by omega)]))
                  have f4 : decide (T < mF a b i) = false := decide_eq_false h4
                  first
                  | (exfalso; omega)
                  | (go_wp2_with fail
                     exact ⟨⟨i + 1, by omega, by rw [E.out], by go_num, below_drewN' bel2 _⟩, by simp [intOf]; omega⟩)
            · have E := Lib.hid (show mF a b (i + 1) = mF a b i from HUP.out.trans (by rw [if_neg (by omega)]))
              have f2 : decide (T ≤ lv b k) = false := decide_eq_false h2
              first
              | (exfalso; omega)
              | (go_wp2_with fail
                 exact ⟨⟨i + 1, by omega, by rw [E.out], by go_num, below_drewN' bel2 _⟩, by simp [intOf]; omega⟩)
          · have E := Lib.hid (show mF a b (i + 1) = mF a b i from HUP.out.trans (by rw [if_neg (by omega)]))
            have f1 : decide (T ≤ lv a i) = false := decide_eq_false h1
            first
            | (exfalso; omega)
            | (go_wp2_with fail
               exact ⟨⟨i + 1, by omega, by rw [E.out], by go_num, below_drewN' bel2 _⟩, by simp [intOf]; omega⟩)
        · have HT := Lib.hid (show max (ar a i) (ar b k) = ar a i by omega)
          have hm' : max (ar a i) (ar b k) = ar a i := HT.out
          go_wp2_with fail
          go_quiet (fail)
          have HUP := Lib.hid (show _ = _ from HUP.out.trans (updK_T hm'))
          clear hm' HT
          obtain ⟨T, hT⟩ : ∃ T, T = ar a i := ⟨_, rfl⟩
          rw [← hT] at HUP ta1 ta2 hm ⊢
          clear hT
          by_cases h1 : T ≤ lv a i
          · by_cases h2 : T ≤ lv b k
            · by_cases h3 : mF a b i < 0
              · have E := Lib.hid (show mF a b (i + 1) = T from HUP.out.trans (by rw [if_pos ⟨h1, h2, .inl h3⟩]))
                have f3 : decide (mF a b i < 0) = true := decide_eq_true h3
                first
                | (exfalso; omega)
                | (go_wp2_with fail
                   exact ⟨⟨i + 1, by omega, by rw [E.out], by go_num, below_drewN' bel2 _⟩, by simp [intOf]; omega⟩)
              · have f3 : decide (mF a b i < 0) = false := decide_eq_false h3
                by_cases h4 : T < mF a b i
                · have E := Lib.hid (show mF a b (i + 1) = T from HUP.out.trans (by rw [if_pos ⟨h1, h2, .inr h4⟩]))
                  first
                  | (exfalso; omega)
                  | (go_wp2_with fail
                     exact ⟨⟨i + 1, by omega, by rw [E.out], by go_num, below_drewN' bel2 _⟩, by simp [intOf]; omega⟩)
                · have E := Lib.hid (show mF a b (i + 1) = mF a b i from HUP.out.trans (by rw [if_neg (by omega)]))
                  have f4 : decide (T < mF a b i) = false := decide_eq_false h4
                  first
                  | (exfalso; omega)
                  | (go_wp2_with fail
                     exact ⟨⟨i + 1, by omega, by rw [E.out], by go_num, below_drewN' bel2 _⟩, by simp [intOf]; omega⟩)
            · have E := Lib.hid (show mF a b (i + 1) = mF a b i from HUP.out.trans (by rw [if_neg (by omega)]))
              have f2 : decide (T ≤ lv b k) = false := decide_eq_false h2
              first
              | (exfalso; omega)
              | (go_wp2_with fail
                 exact ⟨⟨i + 1, by omega, by rw [E.out], by go_num, below_drewN' bel2 _⟩, by simp [intOf]; omega⟩)
          · have E := Lib.hid (show mF a b (i + 1) = mF a b i from HUP.out.trans (by rw [if_neg (by omega)]))
            have f1 : decide (T ≤ lv a i) = false := decide_eq_false h1
            first
            | (exfalso; omega)
            | (go_wp2_with fail
               exact ⟨⟨i + 1, by omega, by rw [E.out], by go_num, below_drewN' bel2 _⟩, by simp [intOf]; omega⟩)
      · rw [hat]
        have E := Lib.hid (show mF a b (i + 1) = mF a b i from HUP.out.trans (by unfold updM; rw [hat]; rfl))
        clear hat
        go_wp2_with fail
        exact ⟨⟨i + 1, by omega, by rw [E.out], by go_num, bel2⟩, by simp [intOf]; omega⟩
    · obtain rfl : i = a.length := by omega
      by_cases h3 : mF a b a.length < 0
      · have f3 : decide (mF a b a.length < 0) = true := decide_eq_true h3
        go_wp2_with fail
        go_ret2
        exact ⟨rfl, hbel⟩
      · have f3 : decide (mF a b a.length < 0) = false := decide_eq_false h3
        go_wp2_with fail
        go_ret2
        exact ⟨rfl, hbel⟩
end Go.Proofs.Ytdmbgnbegnlcaaa
