import Derived.Test.YtaajombljiiigaaRoadsT
import Derived.Test.YtaajombljiiigaaRoadsN
import Derived.Test.YtaajombljiiigaaRoadsD
namespace Go.Proofs.Ytaajombljiiigaa
open Go.RowKit

theorem nS_full {S : Nat → Bool} : ∀ {k : Nat}, nS S k = k ↔ ∀ v, v < k → S v = true := by
  intro k
  induction k with
  | zero => exact ⟨fun _ v hv => by omega, fun _ => rfl⟩
  | succ k ih =>
    simp only [nS]
    have hk := nS_le S k
    constructor
    · intro h v hv
      have h1 : S k = true := by
        cases e : S k with
        | true => rfl
        | false => simp [e] at h; omega
      simp [h1] at h
      by_cases e : v = k
      · rw [e]; exact h1
      · exact ih.1 h v (by omega)
    · intro h
      rw [ih.2 (fun v hv => h v (by omega)), if_pos (h k (by omega))]
theorem mxTo_lt {D : Nat → Int} {c : Int} (hc : 0 < c) : ∀ {k : Nat}, mxTo D k < c ↔ ∀ v, v < k → D v < c := by
  intro k
  induction k with
  | zero => exact ⟨fun _ v hv => by omega, fun _ => hc⟩
  | succ k ih =>
    simp only [mxTo]
    constructor
    · intro h v hv
      by_cases e : v = k
      · rw [e]; omega
      · exact ih.1 (by omega) v (by omega)
    · intro h
      have h1 := ih.2 (fun v hv => h v (by omega))
      have h2 := h k (by omega)
      omega
theorem wh_nS {N : Nat} {xs : List Rd3} {S : Nat → Bool} (hS : ∀ v, v < N → (S v = true ↔ dst xs 0 v < 100000)) : nS S N = N ↔ mxTo (dst xs 0) N < 100000 := by
  rw [nS_full, mxTo_lt (by omega)]
  exact ⟨fun h v hv => (hS v hv).1 (h v hv), fun h v hv => (hS v hv).2 (h v hv)⟩

theorem wk_trans {xs : List Rd3} {f u v L K : Nat} (h : Wk xs f u L) (k : Wk xs u v K) : ∃ J, Wk xs f v J := by
  induction k with
  | start => exact ⟨_, h⟩
  | step _ he ih => obtain ⟨J, hJ⟩ := ih; exact ⟨_, hJ.step he⟩
theorem wk_rev {xs : List Rd3} {f v L : Nat} (h : Wk xs f v L) : ∃ K, Wk xs v f K := by
  induction h with
  | start => exact ⟨_, .start⟩
  | step _ he ih =>
    obtain ⟨K, hK⟩ := ih
    rw [lk_comm] at he
    exact wk_trans (Wk.start.step he) hK
theorem dst_wk {n : Nat} {xs : List Rd3} (hv : DValid (n : Int) xs) {f v : Nat} (hf : f < n) (hvn : v < n) : dst xs f v < 100000 ↔ ∃ L, Wk xs f v L := by
  unfold dst
  constructor
  · intro h
    split at h
    · rename_i L hL; exact ⟨L, (dmin_some hL).1⟩
    · omega
  · rintro ⟨L, hL⟩
    obtain ⟨M, h1, _⟩ := dmin_of hL
    have := dmin_small hv hf hvn h1
    rw [h1]
    show (M : Int) < 100000
    omega
/-- If there is a way from the first town to each, there is one between any two. -/
theorem dst_all {n : Nat} {xs : List Rd3} (hv : DValid (n : Int) xs) (h : mxTo (dst xs 0) n < 100000) {f v : Nat} (hf : f < n) (hvn : v < n) : dst xs f v < 100000 := by
  have h0 : 0 < n := by omega
  obtain ⟨L, hL⟩ := (dst_wk hv h0 hf).1 ((mxTo_lt (by omega)).1 h f hf)
  obtain ⟨K, hK⟩ := (dst_wk hv h0 hvn).1 ((mxTo_lt (by omega)).1 h v hvn)
  obtain ⟨R, hR⟩ := wk_rev hL
  exact (dst_wk hv hf hvn).2 (wk_trans hR hK)

/-- The greatest distance among those of the first k towns that are marked. -/
def mxS (D : Nat → Int) (P : Nat → Bool) : Nat → Int
  | 0 => 0
  | k + 1 => if P k then max (mxS D P k) (D k) else mxS D P k
theorem mxS_none {D : Nat → Int} {P : Nat → Bool} : ∀ {k : Nat}, (∀ v, v < k → P v = false) → mxS D P k = 0 := by
  intro k
  induction k with
  | zero => intro _; rfl
  | succ k ih => intro h; simp only [mxS]; rw [h k (by omega), ih (fun v hv => h v (by omega))]; rfl
theorem mxS_all {D : Nat → Int} {P : Nat → Bool} : ∀ {k : Nat}, (∀ v, v < k → P v = true) → mxS D P k = mxTo D k := by
  intro k
  induction k with
  | zero => intro _; rfl
  | succ k ih => intro h; simp only [mxS, mxTo]; rw [if_pos (h k (by omega)), ih (fun v hv => h v (by omega))]
theorem mxS_up {D : Nat → Int} {P Q : Nat → Bool} {t : Nat} (hP : P t = false) (hQ : ∀ v, Q v = upS P t v) : ∀ k, mxS D Q k = if t < k then max (mxS D P k) (D t) else mxS D P k := by
  intro k
  induction k with
  | zero => simp [mxS]
  | succ k ih =>
    simp only [mxS]
    rw [ih, hQ k]
    by_cases e : k = t
    · subst e
      simp [upS, hP]
    · have e2 : upS P t k = P k := by simp [upS, e]
      rw [e2]
      by_cases hk : t < k
      · rw [if_pos hk, if_pos (show t < k + 1 by omega)]
        split <;> omega
      · rw [if_neg hk, if_neg (show ¬ t < k + 1 by omega)]
theorem mxS_range {D : Nat → Int} {P : Nat → Bool} {n : Nat} (h : ∀ v, v < n → 0 ≤ D v ∧ D v ≤ 100000) : ∀ k, k ≤ n → 0 ≤ mxS D P k ∧ mxS D P k ≤ 100000 := by
  intro k
  induction k with
  | zero => intro _; simp [mxS]
  | succ k ih =>
    intro hk
    have := ih (by omega)
    have := h k (by omega)
    simp only [mxS]
    split <;> omega

set_option maxRecDepth 100000 in
set_option maxHeartbeats 1000000 in
theorem iWh_any (n : Int) (A : Option Addr) (c : Nat) (xs : List Rd3) (w : World) (h : Cells w A (fd xs)) (hl : xs.length ≤ 1048576) :
    Calls Try.prog 25 #[.int .i64 n, .slice A xs.length c] w fun e w' => e = .returned (.bool (whB n xs)) ∧ Below w.heap.size w w' := by
  by_cases hv : DValid n xs
  · have HV := Lib.hid hv
    clear hv
    go_enter Try.func25, Try.ntmps25
    go_wp2_with fail
    refine (iMap_yes h hl HV.out).mono ?_
    rintro e w1 ⟨b, N, bs, rfl, rfl, hM, b1⟩
    have HM := Lib.hid hM
    have B1 := Lib.hid b1
    have n1 : 0 < N := by have := HV.out.1; omega
    have n8 : N ≤ 8 := by have := HV.out.2.1; omega
    clear hM b1
    go_wp2_with fail
    refine (dist_any N 0 b w.heap.size bs xs w1 HM.out HV.out n1).mono ?_
    rintro e w2 ⟨b', S, rfl, hS, hsm, b2⟩
    have hw := wh_nS hS
    have B2 := Lib.hid (B1.out.trans (b2.mono B1.out.size))
    have LN := fun ty => hsm.len ty
    clear hS hsm b2
    by_cases q : nS S N = N
    · have W := Lib.hid (whB_yes HV.out (hw.1 q))
      rw [q] at LN
      clear q hw
      go_wp2_with fail
      go_ret
      exact ⟨by rw [W.out]; rfl, B2.out⟩
    · have W := Lib.hid (whB_no (N := N) (xs := xs) (fun g => q (hw.2 g)))
      have q2 : ((nS S N : Int) == (N : Int)) = false := by rw [beq_eq_false_iff_ne]; omega
      clear hw
      go_wp2_with fail
      go_ret
      exact ⟨by rw [W.out]; rfl, B2.out⟩
  · have HV := Lib.hid hv
    have W := Lib.hid (whB_bad hv)
    clear hv
    rw [W.out]
    go_enter Try.func25, Try.ntmps25
    go_wp2_with fail
    refine (iMap_no h hl HV.out).mono ?_
    rintro e w1 ⟨rfl, b1⟩
    go_wp2_with fail
    go_ret
    exact ⟨rfl, b1⟩

set_option maxRecDepth 100000 in
set_option maxHeartbeats 4000000 in
theorem iMi_any (n : Int) (A : Option Addr) (c : Nat) (xs : List Rd3) (w : World) (h : Cells w A (fd xs)) (hl : xs.length ≤ 1048576) :
    Calls Try.prog 29 #[.int .i64 n, .slice A xs.length c] w fun e w' => e = midE n xs ∧ Below w.heap.size w w' := by
  by_cases hw : whB n xs = true
  · have hv : DValid n xs := by
      by_cases g : DValid n xs
      · exact g
      · rw [whB_bad g] at hw; cases hw
    obtain ⟨N, rfl⟩ := Int.eq_ofNat_of_zero_le (show 0 ≤ n by have := hv.1; omega)
    have n1 : 0 < N := by have := hv.1; omega
    have n8 : N ≤ 8 := by have := hv.2.1; omega
    have hmx : mxTo (dst xs 0) N < 100000 := by
      by_cases g : mxTo (dst xs 0) N < 100000
      · exact g
      · rw [whB_no g] at hw; cases hw
    have HV := Lib.hid hv
    have HW := Lib.hid hw
    have HALL := Lib.hid (show ∀ f v, f < N → v < N → dst xs f v < 100000 from fun f v hf hvn => dst_all hv hmx hf hvn)
    have HE := Lib.hid (show midE (N : Int) xs = .returned (.tuple #[.int .i64 (mid (gr xs N) N), .int .i64 (gr xs N (mid (gr xs N) N)), .bool true]) by unfold midE; rw [if_pos hw]; rfl)
    clear hv hw hmx
    rw [HE.out]
    obtain ⟨M, hM⟩ : ∃ M, M = gr xs N := ⟨_, rfl⟩
    have HM := Lib.hid (show ∀ f, mxTo (dst xs f) N = M f from fun f => by rw [hM]; rfl)
    rw [← hM]
    clear hM HE
    go_enter Try.func29, Try.ntmps29
    go_wp2_with fail
    refine (iWh_any (N : Int) A c xs w h hl).mono ?_
    rintro e w1 ⟨rfl, b1⟩
    rw [HW.out]
    have h1 := h.below b1
    have B1 := Lib.hid b1
    clear b1
    go_wp2_with fail
    refine (iMap_yes h1 hl HV.out).mono ?_
    rintro e w2 ⟨b, N', bs, hNN, rfl, hMB, b2⟩
    have hNN : N' = N := by omega
    subst hNN
    have HMB := Lib.hid hMB
    have B2 := Lib.hid (B1.out.trans (b2.mono B1.out.size))
    clear hMB b2 h1
    go_wp2_with fail
    go_loopw [9, 10, 26] (fun p l i wr => ∃ (k : Nat) (L : Int), k ≤ N' ∧ p = .int .i64 ((mid M k : Nat) : Int) ∧ l = .int .i64 L ∧ i = .int .i64 (k : Int) ∧ ((k = 0 ∧ L = 0) ∨ (0 < k ∧ L = M (mid M k))) ∧ Below w2.heap.size w2 wr) (fun _ _ i _ => N' - (intOf i).toNat)
    case atStart => exact ⟨0, 0, Nat.zero_le _, rfl, rfl, rfl, .inl ⟨rfl, rfl⟩, Below.refl _ _⟩
    case round =>
      obtain ⟨k, L, hk, rfl, rfl, rfl, hL, hbel⟩ := hrel
      have HL := Lib.hid hL
      have BE := Lib.hid hbel
      clear hL hbel
      by_cases hlt : k < N'
      · have MBK := Lib.hid (HMB.out.below BE.out)
        go_wp2_with fail
        refine (dist_any N' k b w1.heap.size bs xs wr MBK.out HV.out hlt).mono ?_
        rintro e w3 ⟨b', S, rfl, hS, hsm, b3⟩
        have hd := dst_dist HV.out hlt
        have SALL := Lib.hid (show ∀ v, v < N' → S v = true from fun v hv => (hS v hv).2 (HALL.out k v hlt hv))
        have hMk := HM.out k
        obtain ⟨D, hD⟩ : ∃ D, D = dst xs k := ⟨_, rfl⟩
        rw [← hD] at hd hMk hsm
        have RGE := Lib.hid (fun P => mxS_range (D := D) (P := P) (n := N') (fun v hv => ⟨hd.low v hv, hd.high v hv⟩) N' (Nat.le_refl _))
        have RGD := Lib.hid (fun v hv => And.intro (hd.low v hv) (hd.high v hv))
        have HMK := Lib.hid hMk
        have B3 := Lib.hid (BE.out.trans (b3.mono BE.out.size))
        obtain ⟨N1, D1, q0, q1, q2, q3⟩ := hsm
        have Q2 := Lib.hid q2
        clear hS hd hMk hD b3 q0 q2 q3 MBK
        go_wp2_with (first
          | (at_range; refine wpList_range_own _ rfl _ 51 rfl 3 3 keyI Try.underlying51 RI b' N1 D1 rfl q1 ?_; intro w4 r4 g4 s4; have R4 := Lib.hid (And.intro r4 (And.intro g4 s4)); clear r4 g4 s4))
        go_frame
        have BL := Lib.hid q1.lt
        have SZ3 := Lib.hid B3.out.size
        have RG4 : Hid (IRng w4 b' w3.heap.size (fm N' S D) (fun z => (fm N' S D z).isSome) (Maps.size D1)) := Lib.hid ⟨_, D1, _, R4.out.1, Q2.out, fun z => (Q2.out z).1, fun z hz => hz⟩
        have B4 := Lib.hid (B3.out.grown R4.out.2.1 B3.out.size (fun q hq => by cases hq))
        go_loopg [12] (Maps.size D1) (fun gk p wx => ∃ (lf : Int → Bool), IRng wx b' w3.heap.size (fm N' S D) lf gk ∧ p = .int .i64 (mxS D (fun t => !lf (t : Int)) N') ∧ Below w2.heap.size w2 wx)
        case atStart =>
          refine ⟨_, RG4.out, ?_, B4.out⟩
          rw [mxS_none (fun v hv => by rw [fm_at hv, if_pos (SALL.out v hv)]; rfl)]
        case round =>
          obtain ⟨lf, hRG, rfl, hbel⟩ := hrel
          obtain ⟨N2, D2, left, hrg, hf2, hl2, hs2⟩ := hRG
          have HF2 := Lib.hid hf2
          have HL2 := Lib.hid hl2
          have HS2 := Lib.hid hs2
          have BX := Lib.hid hbel
          obtain ⟨G, hG⟩ : ∃ G, G = mxS D (fun t => !lf (t : Int)) N' := ⟨_, rfl⟩
          have hGr := RGE.out (fun t => !lf (t : Int))
          rw [← hG] at hGr ⊢
          have HG := Lib.hid hG
          obtain ⟨G0, G1⟩ := hGr
          clear hf2 hl2 hs2 hbel hG RG4 B4 R4 B3 q1
          go_wp2_with (first
            | (at_next; refine wpList_next_ranges_ii _ rfl _ rfl 3 3 .i64 .i64 keyI Try.underlying3 Try.underlying3 b' w3.heap.size N2 _ _ _ rfl hrg ?_ ?_))
          · intro _ hl0
            have hGM : G = M k := by
              rw [HG.out, ← HMK.out]
              refine mxS_all (fun v hv => ?_)
              rw [← HL2.out, hl0]
              rfl
            clear hl0 hrg
            by_cases hk0 : k = 0
            · subst hk0
              have HGM := Lib.hid hGM
              clear hGM
              go_wp2_with fail
              refine ⟨⟨1, G, by omega, ?_, rfl, rfl, .inr ⟨by omega, ?_⟩, BX.out⟩, by simp [intOf]; omega⟩
              · rw [show mid M 1 = 0 by simp [mid]]
              · rw [HGM.out, show mid M 1 = 0 by simp [mid]]
            · have hL2 : L = M (mid M k) := by
                rcases HL.out with e | e
                · exact absurd e.1 hk0
                · exact e.2
              have kz : ((k : Int) == 0) = false := by rw [beq_eq_false_iff_ne]; omega
              have HGM := Lib.hid hGM
              have HL2 := Lib.hid hL2
              by_cases q : G < L
              · have S1 := Lib.hid (show mid M (k + 1) = k by simp only [mid]; rw [if_pos (by rw [← hL2, ← hGM]; exact q)])
                clear hGM hL2 hk0
                go_wp2_with fail
                exact ⟨⟨k + 1, G, by omega, by rw [S1.out], rfl, by go_num, .inr ⟨by omega, by rw [S1.out, HGM.out]⟩, BX.out⟩, by simp [intOf]; omega⟩
              · have S1 := Lib.hid (show mid M (k + 1) = mid M k by simp only [mid]; rw [if_neg (by rw [← hL2, ← hGM]; exact q)])
                have q' : decide (G < L) = false := by simp; omega
                clear hGM hL2 hk0
                go_wp2_with fail
                exact ⟨⟨k + 1, L, by omega, by rw [S1.out], rfl, by go_num, .inr ⟨by omega, by rw [S1.out, HL2.out]⟩, BX.out⟩, by simp [intOf]; omega⟩
          · intro x cc w5 cnt5 hwx hwc hlx hat hrg5 hlt5 hg5 hs5 hen
            have hlfx : lf x = true := by rw [← HL2.out]; exact hlx
            obtain ⟨m, hm⟩ := Option.isSome_iff_exists.1 (HS2.out x hlfx)
            have hcc : cc = m := by
              have e1 := (HF2.out x).2
              rw [hat, hm] at e1
              simp only [DataW.lit.injEq, Lit.int.injEq, true_and] at e1
              simpa using e1
            subst hcc
            have hmm := hm
            unfold fm at hmm
            split at hmm
            · rename_i hx
              obtain ⟨t, rfl⟩ := Int.eq_ofNat_of_zero_le hx.1
              have htN : t < N' := by omega
              injection hmm with hmm
              have hmm : cc = D t := by rw [← hmm]; rfl
              subst hmm
              obtain ⟨c0, c1⟩ := RGD.out t htN
              have RG5 := Lib.hid (IRng.step HF2.out HL2.out HS2.out hrg5)
              have UP := Lib.hid (mxS_up (D := D) (P := fun s : Nat => !lf (s : Int)) (Q := fun s : Nat => !(lf (s : Int) && !decide ((s : Int) = (t : Int)))) (t := t) (by simp [hlfx]) (fun v => by
                unfold upS
                by_cases e : v = t
                · subst e; simp
                · rw [if_neg e]
                  have e3 : ¬ ((v : Int) = (t : Int)) := by omega
                  simp [e3]) N')
              have B5 := Lib.hid (BX.out.grown hg5 BX.out.size (fun q hq => by injection hq with hq; have := SZ3.out; omega))
              have LT5 := Lib.hid hlt5
              clear hlfx hm hlx hat hrg5 hg5 hs5 hx hlt5 hrg
              go_wp2_with fail
              all_goals
                go_roundg cnt5
                case rel => exact ⟨_, RG5.out, int_eq (by rw [UP.out, if_pos htN, ← HG.out]; omega), B5.out⟩
                case measure => exact LT5.out
            · cases hmm
      · obtain rfl : k = N' := by omega
        have hL2 : L = M (mid M k) := by
          rcases HL.out with e | e
          · omega
          · exact e.2
        have HL2 := Lib.hid hL2
        clear hL2
        go_wp2_with fail
        go_ret3
        exact ⟨by rw [HL2.out]; rfl, B2.out.trans (BE.out.mono B2.out.size)⟩
  · have W := Lib.hid (show whB n xs = false by simpa using hw)
    have HE := Lib.hid (show midE n xs = .returned (.tuple #[.int .i64 0, .int .i64 0, .bool false]) by unfold midE; rw [if_neg hw])
    clear hw
    rw [HE.out]
    go_enter Try.func29, Try.ntmps29
    go_wp2_with fail
    refine (iWh_any n A c xs w h hl).mono ?_
    rintro e w1 ⟨rfl, b1⟩
    rw [W.out]
    go_wp2_with fail
    go_ret3
    exact ⟨rfl, b1⟩

noncomputable def mdT (n : Int) (xs : List Rd3) : Int := ((mid (gr xs n.toNat) n.toNat : Nat) : Int)
noncomputable def mdG (n : Int) (xs : List Rd3) : Int := gr xs n.toNat (mid (gr xs n.toNat) n.toNat)
theorem midE_yes {n : Int} {xs : List Rd3} (h : whB n xs = true) : midE n xs = .returned (.tuple #[.int .i64 (mdT n xs), .int .i64 (mdG n xs), .bool true]) := by unfold midE; rw [if_pos h]; rfl
theorem midE_no {n : Int} {xs : List Rd3} (h : ¬ whB n xs = true) : midE n xs = .returned (.tuple #[.int .i64 0, .int .i64 0, .bool false]) := by unfold midE; rw [if_neg h]
theorem sMi_yes (n : Int) (A : Option Addr) (c : Nat) (xs : List Rd3) (w : World) (h : Cells w A (fd xs)) (hl : xs.length ≤ 1048576) (hw : whB n xs = true) : Calls Try.prog 28 #[.int .i64 n, .slice A xs.length c] w fun e w' => e = .returned (.tuple #[.int .i64 (mdT n xs), .int .i64 (mdG n xs), .bool true]) ∧ Below w.heap.size w w' := by
  rw [← midE_yes hw]; exact sMi_any n A c xs w h hl
theorem sMi_no (n : Int) (A : Option Addr) (c : Nat) (xs : List Rd3) (w : World) (h : Cells w A (fd xs)) (hl : xs.length ≤ 1048576) (hw : ¬ whB n xs = true) : Calls Try.prog 28 #[.int .i64 n, .slice A xs.length c] w fun e w' => e = .returned (.tuple #[.int .i64 0, .int .i64 0, .bool false]) ∧ Below w.heap.size w w' := by
  rw [← midE_no hw]; exact sMi_any n A c xs w h hl
theorem iMi_yes (n : Int) (A : Option Addr) (c : Nat) (xs : List Rd3) (w : World) (h : Cells w A (fd xs)) (hl : xs.length ≤ 1048576) (hw : whB n xs = true) : Calls Try.prog 29 #[.int .i64 n, .slice A xs.length c] w fun e w' => e = .returned (.tuple #[.int .i64 (mdT n xs), .int .i64 (mdG n xs), .bool true]) ∧ Below w.heap.size w w' := by
  rw [← midE_yes hw]; exact iMi_any n A c xs w h hl
theorem iMi_no (n : Int) (A : Option Addr) (c : Nat) (xs : List Rd3) (w : World) (h : Cells w A (fd xs)) (hl : xs.length ≤ 1048576) (hw : ¬ whB n xs = true) : Calls Try.prog 29 #[.int .i64 n, .slice A xs.length c] w fun e w' => e = .returned (.tuple #[.int .i64 0, .int .i64 0, .bool false]) ∧ Below w.heap.size w w' := by
  rw [← midE_no hw]; exact iMi_any n A c xs w h hl
end Go.Proofs.Ytaajombljiiigaa
