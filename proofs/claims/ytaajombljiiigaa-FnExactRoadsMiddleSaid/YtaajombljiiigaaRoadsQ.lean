import Derived.Test.YtaajombljiiigaaRoadsP
import Derived.BigRegion
import Derived.Deep.RegionLaw
import Derived.Deep.AppendLies
import Derived.StillTailTactics
namespace Go.Proofs.Ytaajombljiiigaa
open Go.RowKit

theorem sw_take (xs : List Rn) (i j n : Nat) (hi : i < n) (hj : j < n) : (sw xs i j).take n = sw (xs.take n) i j := by
  unfold sw
  rw [pg_take _ _ _ hi, pg_take _ _ _ hj, List.take_set, List.take_set]

set_option maxRecDepth 100000 in
set_option maxHeartbeats 2000000 in
/-- down: the front of the list is a heap again; the last thing stays. -/
theorem down_any (g a c n : Nat) (xs : List Rn) (w : World) (h : HIs w g (some ⟨a, 0, none⟩) c xs) (hl : xs.length = n + 1) (hn : xs.length ≤ 1000) (hd : DownInv Rn.e (xs.take n) 0) :
    Calls Try.prog 45 #[hv g, .int .i64 (0 : Int), .int .i64 (n : Int)] w fun e w' => (∃ v : Value, e = .returned v) ∧ ∃ ys : List Rn, ys.length = n + 1 ∧ HIs w' g (some ⟨a, 0, none⟩) c ys ∧ Heap Rn.e (ys.take n) ∧ ys.Perm xs ∧ pg ys n = pg xs n ∧ Touch g (some a) w w' := by
  have H0 := Lib.hid h
  have D0 := Lib.hid hd
  have HLX := Lib.hid hl
  have hn1 : n ≤ 999 := by omega
  clear h hd hl hn
  go_enter Try.func45, Try.ntmps45
  go_wp2_with fail
  go_loopw [7] (fun p wr => ∃ (i : Nat) (ys : List Rn), p = .int .i64 (i : Int) ∧ ys.length = n + 1 ∧ i ≤ n ∧ HIs wr g (some ⟨a, 0, none⟩) c ys ∧ DownInv Rn.e (ys.take n) i ∧ ys.Perm xs ∧ pg ys n = pg xs n ∧ Touch g (some a) w wr) (fun p _ => 1000 - (intOf p).toNat)
  case atStart => exact ⟨0, xs, rfl, HLX.out, by omega, H0.out, D0.out, List.Perm.refl _, rfl, Touch.refl _ _ _⟩
  case round =>
    obtain ⟨i, ys, rfl, hyl, hi, hH, hU, hP, hL, hT⟩ := hrel
    have HY := Lib.hid hyl
    have PX := Lib.hid hH
    have HU := Lib.hid hU
    have HP := Lib.hid hP
    have HL := Lib.hid hL
    have TX := Lib.hid hT
    have qX := hH.blk.cell 0
    simp at qX
    have yl2 : ys.length ≤ 1000 := by omega
    have yl3 : n + 1 ≤ ys.length := by omega
    have ml := mLess g _ wr qX
    clear hyl hH hU hP hT hL H0 D0
    have hn0 : ¬ (2 * (i : Int) + 1) < 0 := by omega
    by_cases h1 : 2 * i + 1 < n
    · by_cases h2 : 2 * i + 2 < n
      · go_wp2_with fail
        refine (less_any g a c (2 * i + 2) (2 * i + 1) ys wr PX.out (by omega) (by omega) yl2).mono ?_
        rintro e w4 ⟨rfl, m4, rfl⟩
        have P4 := Lib.hid (PX.out.drewN m4)
        have T4 := Lib.hid (TX.out.drewN m4)
        generalize hx : wr.drewN m4 = w4 at P4 T4 ⊢
        have q4 := P4.out.blk.cell 0
        simp at q4
        have ml4 := mLess g _ w4 q4
        clear qX ml hx PX TX
        have PX := P4
        have TX := T4
        have qX := q4
        clear P4 T4 q4
        by_cases hc : (pg ys (2 * i + 2)).e < (pg ys (2 * i + 1)).e
        · have HC := Lib.hid hc
          have dc : decide ((pg ys (2 * i + 2)).e < (pg ys (2 * i + 1)).e) = true := by simp; omega
          clear hc
          go_wp2_with fail
          refine (less_any g a c (2 * i + 2) i ys _ PX.out (by omega) (by omega) yl2).mono ?_
          rintro e w5 ⟨rfl, m5, rfl⟩
          have P5 := Lib.hid (PX.out.drewN m5)
          have T5 := Lib.hid (TX.out.drewN m5)
          generalize hx : World.drewN _ m5 = w5 at P5 T5 ⊢
          have q1 := P5.out.blk.cell 0
          simp at q1
          have ms5 := mSwap g _ w5 q1
          clear qX hx PX TX
          by_cases hk : (pg ys (2 * i + 2)).e < (pg ys i).e
          · have HK := Lib.hid hk
            have dk : decide ((pg ys (2 * i + 2)).e < (pg ys i).e) = true := by simp; omega
            clear hk
            go_wp2_with fail
            refine (swap_any g a c i (2 * i + 2) ys w5 P5.out (by omega) (by omega) (by omega) yl2).mono ?_
            rintro e w6 ⟨rfl, P6, T6⟩
            go_wp2_with fail
            refine ⟨⟨2 * i + 2, sw ys i (2 * i + 2), by go_num, by rw [sw_len]; exact HY.out, by omega, P6, ?_, (sw_perm ys i (2 * i + 2) (by omega) (by omega)).trans HP.out, ?_, T5.out.trans T6⟩, by simp [intOf]; omega⟩
            · rw [sw_take _ _ _ _ (by omega) (by omega)]
              refine down_step HU.out (.inr rfl) (by rw [List.length_take]; omega) (by rw [pg_take _ _ _ (by omega), pg_take _ _ _ (by omega)]; exact HK.out) ?_
              intro k hk1 hk2
              rw [List.length_take] at hk2
              rw [pg_take _ _ _ (by omega), pg_take _ _ _ (by omega)]
              have := HC.out; rcases hk1 with rfl | rfl <;> omega
            · rw [pg_sw _ _ _ _ (by omega) (by omega), if_neg (by omega), if_neg (by omega)]; exact HL.out
          · have dk : decide ((pg ys (2 * i + 2)).e < (pg ys i).e) = false := by simp; omega
            have HK := Lib.hid hk
            clear hk
            go_wp2_with fail
            go_ret
            refine ⟨⟨_, rfl⟩, ys, HY.out, P5.out, down_done HU.out ?_, HP.out, HL.out, T5.out⟩
            intro k hk1 hk2
            rw [List.length_take] at hk2
            rw [pg_take _ _ _ (by omega), pg_take _ _ _ (by omega)]
            have hk9 := HK.out
            have hk8 : (pg ys (2 * i + 2)).e ≤ (pg ys k).e := by
              have := HC.out; rcases hk1 with rfl | rfl <;> omega
            omega
        · have HC := Lib.hid hc
          have dc : decide ((pg ys (2 * i + 2)).e < (pg ys (2 * i + 1)).e) = false := by simp; omega
          clear hc
          go_wp2_with fail
          refine (less_any g a c (2 * i + 1) i ys _ PX.out (by omega) (by omega) yl2).mono ?_
          rintro e w5 ⟨rfl, m5, rfl⟩
          have P5 := Lib.hid (PX.out.drewN m5)
          have T5 := Lib.hid (TX.out.drewN m5)
          generalize hx : World.drewN _ m5 = w5 at P5 T5 ⊢
          have q1 := P5.out.blk.cell 0
          simp at q1
          have ms5 := mSwap g _ w5 q1
          clear qX hx PX TX
          by_cases hk : (pg ys (2 * i + 1)).e < (pg ys i).e
          · have HK := Lib.hid hk
            have dk : decide ((pg ys (2 * i + 1)).e < (pg ys i).e) = true := by simp; omega
            clear hk
            go_wp2_with fail
            refine (swap_any g a c i (2 * i + 1) ys w5 P5.out (by omega) (by omega) (by omega) yl2).mono ?_
            rintro e w6 ⟨rfl, P6, T6⟩
            go_wp2_with fail
            refine ⟨⟨2 * i + 1, sw ys i (2 * i + 1), by go_num, by rw [sw_len]; exact HY.out, by omega, P6, ?_, (sw_perm ys i (2 * i + 1) (by omega) (by omega)).trans HP.out, ?_, T5.out.trans T6⟩, by simp [intOf]; omega⟩
            · rw [sw_take _ _ _ _ (by omega) (by omega)]
              refine down_step HU.out (.inl rfl) (by rw [List.length_take]; omega) (by rw [pg_take _ _ _ (by omega), pg_take _ _ _ (by omega)]; exact HK.out) ?_
              intro k hk1 hk2
              rw [List.length_take] at hk2
              rw [pg_take _ _ _ (by omega), pg_take _ _ _ (by omega)]
              have := HC.out; rcases hk1 with rfl | rfl <;> omega
            · rw [pg_sw _ _ _ _ (by omega) (by omega), if_neg (by omega), if_neg (by omega)]; exact HL.out
          · have dk : decide ((pg ys (2 * i + 1)).e < (pg ys i).e) = false := by simp; omega
            have HK := Lib.hid hk
            clear hk
            go_wp2_with fail
            go_ret
            refine ⟨⟨_, rfl⟩, ys, HY.out, P5.out, down_done HU.out ?_, HP.out, HL.out, T5.out⟩
            intro k hk1 hk2
            rw [List.length_take] at hk2
            rw [pg_take _ _ _ (by omega), pg_take _ _ _ (by omega)]
            have hk9 := HK.out
            have hk8 : (pg ys (2 * i + 1)).e ≤ (pg ys k).e := by
              have := HC.out; rcases hk1 with rfl | rfl <;> omega
            omega
      · go_wp2_with fail
        refine (less_any g a c (2 * i + 1) i ys _ PX.out (by omega) (by omega) yl2).mono ?_
        rintro e w5 ⟨rfl, m5, rfl⟩
        have P5 := Lib.hid (PX.out.drewN m5)
        have T5 := Lib.hid (TX.out.drewN m5)
        generalize hx : World.drewN _ m5 = w5 at P5 T5 ⊢
        have q1 := P5.out.blk.cell 0
        simp at q1
        have ms5 := mSwap g _ w5 q1
        clear qX hx PX TX
        by_cases hk : (pg ys (2 * i + 1)).e < (pg ys i).e
        · have HK := Lib.hid hk
          have dk : decide ((pg ys (2 * i + 1)).e < (pg ys i).e) = true := by simp; omega
          clear hk
          go_wp2_with fail
          refine (swap_any g a c i (2 * i + 1) ys w5 P5.out (by omega) (by omega) (by omega) yl2).mono ?_
          rintro e w6 ⟨rfl, P6, T6⟩
          go_wp2_with fail
          refine ⟨⟨2 * i + 1, sw ys i (2 * i + 1), by go_num, by rw [sw_len]; exact HY.out, by omega, P6, ?_, (sw_perm ys i (2 * i + 1) (by omega) (by omega)).trans HP.out, ?_, T5.out.trans T6⟩, by simp [intOf]; omega⟩
          · rw [sw_take _ _ _ _ (by omega) (by omega)]
            refine down_step HU.out (.inl rfl) (by rw [List.length_take]; omega) (by rw [pg_take _ _ _ (by omega), pg_take _ _ _ (by omega)]; exact HK.out) ?_
            intro k hk1 hk2
            rw [List.length_take] at hk2
            rw [pg_take _ _ _ (by omega), pg_take _ _ _ (by omega)]
            obtain rfl : k = 2 * i + 1 := by omega
            exact Int.le_refl _
          · rw [pg_sw _ _ _ _ (by omega) (by omega), if_neg (by omega), if_neg (by omega)]; exact HL.out
        · have dk : decide ((pg ys (2 * i + 1)).e < (pg ys i).e) = false := by simp; omega
          have HK := Lib.hid hk
          clear hk
          go_wp2_with fail
          go_ret
          refine ⟨⟨_, rfl⟩, ys, HY.out, P5.out, down_done HU.out ?_, HP.out, HL.out, T5.out⟩
          intro k hk1 hk2
          rw [List.length_take] at hk2
          rw [pg_take _ _ _ (by omega), pg_take _ _ _ (by omega)]
          have hk9 := HK.out
          have hk8 : (pg ys (2 * i + 1)).e ≤ (pg ys k).e := by
            obtain rfl : k = 2 * i + 1 := by omega
            exact Int.le_refl _
          omega
    · go_wp2_with fail
      go_ret
      refine ⟨⟨_, rfl⟩, ys, HY.out, PX.out, down_done HU.out ?_, HP.out, HL.out, TX.out⟩
      intro k hk1 hk2
      rw [List.length_take] at hk2
      omega

end Go.Proofs.Ytaajombljiiigaa
