import Derived.Test.YtgimheekaceifaaRunsG
import Derived.Test.YtgimheekaceifaaRunsK
import Derived.OwnWalk
namespace Go.Proofs.Ytgimheekaceifaa
open Go.RowKit

theorem own_formI {w : World} {B n : Nat} {e : TypeId} {size : Nat} {v : Value} {L : List Value} (h : w.ownsRow B e size v n L) : ∃ A c, v = .slice A n c := by
  rcases h.2 with ⟨h1, h2⟩ | ⟨g, cap, cur, h1, _⟩
  · subst h2; exact ⟨none, 0, h1⟩
  · exact ⟨_, _, h1⟩

theorem pair_ret {A : Option Addr} {c n n' : Nat} {b b' : Bool} (h1 : n = n') (h2 : b = b') : Ending.returned (.tuple #[.slice A n c, .bool b]) = .returned (.tuple #[.slice A n' c, .bool b']) := by rw [h1, h2]

/-- What a function that returns a list of numbers and a bool leaves. -/
def IPair (zs : List Int) (ok : Bool) (w : World) (e : Ending) (w' : World) : Prop := ∃ A c, e = .returned (.tuple #[.slice A zs.length c, .bool ok]) ∧ IOwn w' w.heap.size A c zs ∧ Below w.heap.size w w'
/-- What a function that returns runs and a bool leaves. -/
def RPair (xs : List Rn) (ok : Bool) (w : World) (e : Ending) (w' : World) : Prop := ∃ A c, e = .returned (.tuple #[.slice A xs.length c, .bool ok]) ∧ ROwn w' w.heap.size A c xs ∧ Below w.heap.size w w'

open Classical in
noncomputable def okB (xs : List Rn) (rest : Int) : Bool := decide (ROk xs rest)
theorem okB_yes {xs : List Rn} {rest : Int} (h : ROk xs rest) : okB xs rest = true := by simp [okB, h]
theorem okB_no {xs : List Rn} {rest : Int} (h : ¬ ROk xs rest) : okB xs rest = false := by simp [okB, h]
open Classical in
/-- What RosterMake returns. -/
noncomputable def rmL (xs : List Rn) (rest : Int) : List Int := if ROk xs rest then gRo xs rest else []
theorem rmL_yes {xs : List Rn} {rest : Int} (h : ROk xs rest) : rmL xs rest = gRo xs rest := if_pos h
theorem rmL_no {xs : List Rn} {rest : Int} (h : ¬ ROk xs rest) : rmL xs rest = [] := if_neg h
theorem rmL_len (xs : List Rn) (rest : Int) : (rmL xs rest).length ≤ 1048576 := by
  by_cases h : ROk xs rest
  · rw [rmL_yes h, gRo_len]; have := h.1.1; omega
  · rw [rmL_no h]; simp

set_option maxRecDepth 100000 in
set_option maxHeartbeats 1000000 in
theorem sRM_yes (A : Option Addr) (c : Nat) (xs : List Rn) (rest : Int) (w : World) (h : Cells w A (fr xs)) (hl : xs.length ≤ 1048576) (hv : ROk xs rest) :
    Calls Try.prog 58 #[.slice A xs.length c, .int .i64 rest] w (IPair (gRo xs rest) true w) := by
  obtain ⟨i0, hi0, hz0, hz1, hz2⟩ := info_parts int_info
  obtain ⟨hv, r0, r1⟩ := hv
  have HV := Lib.hid hv
  have h12 := hv.1
  clear hv
  go_enter Try.func58, Try.ntmps58
  go_wp2_with fail
  have O0 := Lib.hid (IOwn.empty w w.heap.size (Nat.le_refl _))
  have B0 := Lib.hid ((Below.refl w.heap.size w).alloc (Nat.le_refl _) (.cells #[] 3))
  refine (sOk_yes (h.alloc _) hl ⟨HV.out, r0, r1⟩).mono ?_
  rintro e w1 ⟨rfl, b1⟩
  have O1 := Lib.hid (O0.out.below b1)
  have B1 := Lib.hid (B0.out.trans (b1.mono (by simp)))
  clear b1 O0 B0
  go_wp2_with fail
  go_loopw [6, 7] (fun o i wr => ∃ (k : Nat) (ro : List Int), k ≤ xs.length ∧ ro.length = k ∧ i = .int .i64 k ∧ wr.ownsRow w.heap.size 3 1 o k (ro.map (Value.int .i64)) ∧ Greedy xs rest ro k ∧ Below w.heap.size w wr) (fun _ i _ => xs.length - (intOf i).toNat)
  case atStart => exact ⟨0, [], Nat.zero_le _, rfl, rfl, O1.out, fun i hi => absurd hi (by omega), B1.out⟩
  case round =>
    obtain ⟨k, ro, hk, hrl, rfl, hown, hg, hbel⟩ := hrel
    clear O1 B1
    obtain ⟨R, rc, rfl⟩ := own_formI hown
    subst hrl
    have HO := Lib.hid (show IOwn wr w.heap.size R rc ro from hown)
    have HG := Lib.hid hg
    have HB := Lib.hid hbel
    clear hown hg hbel
    by_cases hlt : ro.length < xs.length
    · have hs := HB.out.size
      go_wp2_with fail
      go_loopw [8] (fun t wi => ∃ tn : Nat, tn ≤ ro.length ∧ t = .int .i64 tn ∧ (∀ s : Nat, s < tn → ¬ Can xs rest ro ro.length (s : Int)) ∧ Below wr.heap.size wr wi) (fun t _ => ro.length - (intOf t).toNat)
      case atStart => exact ⟨0, Nat.zero_le _, rfl, fun s hs => absurd hs (by omega), Below.refl _ _⟩
      case round =>
        obtain ⟨tn, htn, rfl, hno, hbi⟩ := hrel
        have HN := Lib.hid hno
        have HI := Lib.hid hbi
        clear hno hbi
        have si := HI.out.size
        go_wp2_with fail
        refine (sCan _ _ _ _ xs _ ro ro.length _ _ ((h.below HB.out).below HI.out) (HO.out.cells.below HI.out) HV.out r0 (by omega) hlt (Nat.le_refl _) (by omega)).mono ?_
        rintro e w2 ⟨rfl, b2⟩
        by_cases hc : Can xs rest ro ro.length (tn : Int)
        · have ec := cB_yes hc
          have HC := Lib.hid hc
          have O2 : w2.ownsRow w.heap.size 3 1 (.slice R ro.length rc) ro.length (ro.map (Value.int .i64)) := (HO.out.below HI.out).below b2
          have B2 := Lib.hid (HB.out.trans ((HI.out.trans (b2.mono HI.out.size)).mono hs))
          have s2 := b2.size
          clear hc b2 HO HI
          go_wp2_with (at_builtin; refine wpList_append_own _ rfl _ _ 44 rfl w.heap.size 3 i0 _ 1 8 Try.underlying44 hi0 hz0 hz1 hz2 rfl (by decide) _ _ _ rfl (O2.alloc _) ⟨w2.heap.size, 0, none⟩ 1 1 [.int .i64 tn] rfl rfl (cell_one_new _ _ _) (ints_oneCell .i64 [(tn : Int)]) (by unfold maxLen; omega) (by omega) (by simp; omega) ?_; intro v' w5 hown' hgrow _; have R5 := Lib.hid (And.intro hown' ((B2.out.alloc (by omega) _).grown hgrow (by simp; omega) (fun q hq => (O2.lt q hq).1))); clear hown' hgrow)
          have hgs : Greedy xs rest (ro ++ [(tn : Int)]) (ro.length + 1) := Greedy.snoc HG.out ⟨by omega, HC.out, fun s s0 s1 hcs => by obtain ⟨u, rfl⟩ := Int.eq_ofNat_of_zero_le s0; exact HN.out u (by omega) hcs⟩
          exact ⟨⟨ro.length + 1, ro ++ [(tn : Int)], by omega, by simp, by go_num, by rw [List.map_append]; exact R5.out.1, hgs, R5.out.2⟩, by simp [intOf]; omega⟩
        · have ec := cB_no hc
          have hne : tn < ro.length := by
            rcases Nat.lt_or_ge tn ro.length with g | g
            · exact g
            · exfalso
              apply hc
              intro j hj he
              have h1 := (greedy_teams HG.out ro.length (Nat.le_refl _)).1 j hj
              have h2 := diffTo_le ro ro.length
              omega
          have HC := Lib.hid hc
          have B2 := Lib.hid (HI.out.trans (b2.mono HI.out.size))
          clear hc b2
          go_wp2_with fail
          exact ⟨⟨tn + 1, by omega, by go_num, fun s hs => by
            rcases Nat.lt_or_ge s tn with g | g
            · exact HN.out s g
            · obtain rfl : s = tn := by omega
              exact HC.out, B2.out⟩, by simp [intOf]; omega⟩
    · have hke : ro.length = xs.length := by omega
      have hge : ro = gRo xs rest := gRo_eq hke (by rw [← hke]; exact HG.out)
      have HE := Lib.hid hge
      clear hge hke
      go_wp2_with fail
      go_ret2
      exact ⟨R, rc, pair_ret (by rw [← HE.out]) rfl, by rw [← HE.out]; exact HO.out, HB.out⟩

theorem sRM_no (A : Option Addr) (c : Nat) (xs : List Rn) (rest : Int) (w : World) (h : Cells w A (fr xs)) (hl : xs.length ≤ 1048576) (hv : ¬ ROk xs rest) :
    Calls Try.prog 58 #[.slice A xs.length c, .int .i64 rest] w (IPair [] false w) := by
  have HV := Lib.hid hv
  clear hv
  go_enter Try.func58, Try.ntmps58
  go_wp2_with fail
  have O0 := Lib.hid (IOwn.empty w w.heap.size (Nat.le_refl _))
  have B0 := Lib.hid ((Below.refl w.heap.size w).alloc (Nat.le_refl _) (.cells #[] 3))
  refine (sOk_no (h.alloc _) hl HV.out).mono ?_
  rintro e w1 ⟨rfl, b1⟩
  have O1 := Lib.hid (O0.out.below b1)
  have B1 := Lib.hid (B0.out.trans (b1.mono (by simp)))
  clear b1 O0 B0
  go_wp2_with fail
  go_ret2
  exact ⟨_, _, rfl, O1.out, B1.out⟩
theorem sRM_any (A : Option Addr) (c : Nat) (xs : List Rn) (rest : Int) (w : World) (h : Cells w A (fr xs)) (hl : xs.length ≤ 1048576) :
    Calls Try.prog 58 #[.slice A xs.length c, .int .i64 rest] w (IPair (rmL xs rest) (okB xs rest) w) := by
  by_cases hv : ROk xs rest
  · rw [rmL_yes hv, okB_yes hv]; exact sRM_yes A c xs rest w h hl hv
  · rw [rmL_no hv, okB_no hv]; exact sRM_no A c xs rest w h hl hv

open Classical in
/-- Number i stands nowhere among the first k. -/
noncomputable def frB (ro : List Int) (i k : Nat) : Bool := decide (∀ j, j < k → ri ro j ≠ ri ro i)
theorem frB_zero (ro : List Int) (i : Nat) : frB ro i 0 = true := by simp [frB]
theorem frB_hit {ro : List Int} {i k : Nat} (h : ri ro k = ri ro i) : frB ro i (k + 1) = false := by
  simp only [frB, decide_eq_false_iff_not]
  intro g
  exact g k (by omega) h
theorem frB_miss {ro : List Int} {i k : Nat} (h : ri ro k ≠ ri ro i) : frB ro i (k + 1) = frB ro i k := by
  simp only [frB]
  congr 1
  apply propext
  constructor
  · intro g j hj; exact g j (by omega)
  · intro g j hj
    rcases Nat.lt_or_ge j k with a | a
    · exact g j a
    · obtain rfl : j = k := by omega
      exact h
theorem frB_off {ro : List Int} {i k : Nat} (h : frB ro i k = false) : frB ro i (k + 1) = false := by
  simp only [frB, decide_eq_false_iff_not] at h ⊢
  intro g
  exact h fun j hj => g j (by omega)
theorem diffTo_yes {ro : List Int} {i : Nat} (h : frB ro i i = true) : diffTo ro (i + 1) = diffTo ro i + 1 := by
  simp only [frB, decide_eq_true_eq] at h
  simp only [diffTo]
  rw [if_pos h]
theorem diffTo_no {ro : List Int} {i : Nat} (h : frB ro i i = false) : diffTo ro (i + 1) = diffTo ro i := by
  simp only [frB, decide_eq_false_iff_not] at h
  simp only [diffTo]
  rw [if_neg h]
  rfl

set_option maxRecDepth 100000 in
set_option maxHeartbeats 1000000 in
theorem sDiff (R : Option Addr) (rc : Nat) (ro : List Int) (w : World) (h : Cells w R ro) (hl : ro.length ≤ 1048576) :
    Calls Try.prog 83 #[.slice R ro.length rc] w fun e w' => e = .returned (.int .i64 (diffTo ro ro.length : Nat)) ∧ Below w.heap.size w w' := by
  go_enter Try.func83, Try.ntmps83
  go_wp2_with fail
  go_loopw [3, 4] (fun n i wr => ∃ k : Nat, k ≤ ro.length ∧ n = .int .i64 (diffTo ro k : Nat) ∧ i = .int .i64 k ∧ Below w.heap.size w wr) (fun _ i _ => ro.length - (intOf i).toNat)
  case atStart => exact ⟨0, Nat.zero_le _, rfl, rfl, Below.refl _ _⟩
  case round =>
    obtain ⟨i, hi, rfl, rfl, hbel⟩ := hrel
    have hdl := diffTo_le ro i
    by_cases hlt : i < ro.length
    · have h1 := h.below hbel
      have HB := Lib.hid hbel
      clear hbel
      obtain ⟨d, hd⟩ : ∃ d, d = diffTo ro i := ⟨_, rfl⟩
      rw [← hd] at hdl ⊢
      have HD := Lib.hid hd
      clear hd
      go_wp2_with fail
      go_loopw [5, 6] (fun f k wi => ∃ kk : Nat, kk ≤ i ∧ f = .bool (frB ro i kk) ∧ k = .int .i64 kk ∧ Below wr.heap.size wr wi) (fun _ k _ => i - (intOf k).toNat)
      case atStart => exact ⟨0, Nat.zero_le _, by rw [frB_zero], rfl, Below.refl _ _⟩
      case round =>
        obtain ⟨k, hk, rfl, rfl, hbi⟩ := hrel
        by_cases hlk : k < i
        · obtain ⟨g, q, hR, hg, z0⟩ := h1.at1 (i := k) (by omega)
          obtain ⟨g', q', hR', -, z1⟩ := h1.at1 (i := i) hlt
          rw [hR] at hR'
          injection hR' with hR'
          injection hR' with hA1 hA2
          subst hA1 hA2
          have d0 := (hbi.cell (p := ⟨g, q + k, none⟩) hg).trans z0
          have d1 := (hbi.cell (p := ⟨g, q + i, none⟩) hg).trans z1
          subst hR
          have HI := Lib.hid hbi
          clear z0 z1 hbi
          have i1 : (k : Int) < (ro.length : Int) := by omega
          have i2 : (i : Int) < (ro.length : Int) := by omega
          cases hf : frB ro i k with
          | true =>
            have HF := Lib.hid hf
            clear hf
            by_cases he : ri ro k = ri ro i
            · have be : (ri ro k != ri ro i) = false := by simp [he]
              have E := Lib.hid (frB_hit he)
              clear he
              go_wp2_with fail
              go_quiet (fail)
              go_wp2_with fail
              exact ⟨⟨k + 1, by omega, by rw [E.out], by go_num, below_drewN' HI.out _⟩, by simp [intOf]; omega⟩
            · have be : (ri ro k != ri ro i) = true := by simp [he]
              have E := Lib.hid ((frB_miss he).trans HF.out)
              clear he
              go_wp2_with fail
              go_quiet (fail)
              go_wp2_with fail
              exact ⟨⟨k + 1, by omega, by rw [E.out], by go_num, below_drewN' HI.out _⟩, by simp [intOf]; omega⟩
          | false =>
            have E := Lib.hid (frB_off hf)
            clear hf
            go_wp2_with fail
            go_quiet (fail)
            go_wp2_with fail
            exact ⟨⟨k + 1, by omega, by rw [E.out], by go_num, below_drewN' HI.out _⟩, by simp [intOf]; omega⟩
        · obtain rfl : k = i := by omega
          cases hf : frB ro k k with
          | true =>
            have E := Lib.hid (diffTo_yes hf)
            clear hf
            go_wp2_with fail
            exact ⟨⟨k + 1, by omega, by rw [E.out, ← HD.out]; go_num, by go_num, HB.out.trans (hbi.mono HB.out.size)⟩, by simp [intOf]; omega⟩
          | false =>
            have E := Lib.hid (diffTo_no hf)
            clear hf
            go_wp2_with fail
            exact ⟨⟨k + 1, by omega, by rw [E.out, ← HD.out], by go_num, HB.out.trans (hbi.mono HB.out.size)⟩, by simp [intOf]; omega⟩
    · go_wp2_with fail
      go_ret
      obtain rfl : i = ro.length := by omega
      exact ⟨rfl, hbel⟩

open Classical in
/-- What RosterTeams returns. -/
noncomputable def rtV (xs : List Rn) (rest : Int) (ro : List Int) : Int := if RoValid xs rest ro then ((diffTo ro ro.length : Nat) : Int) else -1
theorem rtV_yes {xs : List Rn} {rest : Int} {ro : List Int} (h : RoValid xs rest ro) : rtV xs rest ro = ((diffTo ro ro.length : Nat) : Int) := if_pos h
theorem rtV_no {xs : List Rn} {rest : Int} {ro : List Int} (h : ¬ RoValid xs rest ro) : rtV xs rest ro = -1 := if_neg h

section
variable {A R : Option Addr} {c rc : Nat} {xs : List Rn} {rest : Int} {ro : List Int} {w : World}
theorem sRoV_yes (h : Cells w A (fr xs)) (hr : Cells w R ro) (hl : xs.length ≤ 1048576) (hrl : ro.length ≤ 1048576) (hv : RoValid xs rest ro) :
    Calls Try.prog 42 #[.slice A xs.length c, .int .i64 rest, .slice R ro.length rc] w fun e w' => e = .returned (.bool true) ∧ Below w.heap.size w w' := by
  rw [← roB_yes hv]; exact sRoV_any A R c rc xs rest ro w h hr hl hrl
theorem sRoV_no (h : Cells w A (fr xs)) (hr : Cells w R ro) (hl : xs.length ≤ 1048576) (hrl : ro.length ≤ 1048576) (hv : ¬ RoValid xs rest ro) :
    Calls Try.prog 42 #[.slice A xs.length c, .int .i64 rest, .slice R ro.length rc] w fun e w' => e = .returned (.bool false) ∧ Below w.heap.size w w' := by
  rw [← roB_no hv]; exact sRoV_any A R c rc xs rest ro w h hr hl hrl
theorem iRoV_yes (h : Cells w A (fr xs)) (hr : Cells w R ro) (hl : xs.length ≤ 1048576) (hrl : ro.length ≤ 1048576) (hv : RoValid xs rest ro) :
    Calls Try.prog 44 #[.slice A xs.length c, .int .i64 rest, .slice R ro.length rc] w fun e w' => e = .returned (.bool true) ∧ Below w.heap.size w w' := by
  rw [← roB_yes hv]; exact iRoV_any A R c rc xs rest ro w h hr hl hrl
theorem iRoV_no (h : Cells w A (fr xs)) (hr : Cells w R ro) (hl : xs.length ≤ 1048576) (hrl : ro.length ≤ 1048576) (hv : ¬ RoValid xs rest ro) :
    Calls Try.prog 44 #[.slice A xs.length c, .int .i64 rest, .slice R ro.length rc] w fun e w' => e = .returned (.bool false) ∧ Below w.heap.size w w' := by
  rw [← roB_no hv]; exact iRoV_any A R c rc xs rest ro w h hr hl hrl
end

theorem sRT_any (A R : Option Addr) (c rc : Nat) (xs : List Rn) (rest : Int) (ro : List Int) (w : World) (h : Cells w A (fr xs)) (hr : Cells w R ro) (hl : xs.length ≤ 1048576) (hrl : ro.length ≤ 1048576) :
    Calls Try.prog 48 #[.slice A xs.length c, .int .i64 rest, .slice R ro.length rc] w fun e w' => e = .returned (.int .i64 (rtV xs rest ro)) ∧ Below w.heap.size w w' := by
  by_cases hv : RoValid xs rest ro
  · have HV := Lib.hid hv
    clear hv
    go_enter Try.func48, Try.ntmps48
    go_wp2_with fail
    refine (sRoV_yes h hr hl hrl HV.out).mono ?_
    rintro e w1 ⟨rfl, b1⟩
    go_wp2_with fail
    refine (sDiff R rc ro w1 (hr.below b1) hrl).mono ?_
    rintro e w2 ⟨rfl, b2⟩
    go_wp2_with fail
    go_ret
    exact ⟨ret_int (rtV_yes HV.out).symm, b1.trans (b2.mono b1.size)⟩
  · have HV := Lib.hid hv
    clear hv
    go_enter Try.func48, Try.ntmps48
    go_wp2_with fail
    refine (sRoV_no h hr hl hrl HV.out).mono ?_
    rintro e w1 ⟨rfl, b1⟩
    go_wp2_with fail
    go_ret
    exact ⟨ret_int (rtV_no HV.out).symm, b1⟩

open Classical in
/-- What TeamsLeast returns. -/
noncomputable def tlV (xs : List Rn) (rest : Int) : Int := if ROk xs rest then ((most xs rest : Nat) : Int) else -1
theorem tlV_yes {xs : List Rn} {rest : Int} (h : ROk xs rest) : tlV xs rest = ((most xs rest : Nat) : Int) := if_pos h
theorem tlV_no {xs : List Rn} {rest : Int} (h : ¬ ROk xs rest) : tlV xs rest = -1 := if_neg h

set_option maxRecDepth 100000 in
set_option maxHeartbeats 1000000 in
theorem sTL_any (A : Option Addr) (c : Nat) (xs : List Rn) (rest : Int) (w : World) (h : Cells w A (fr xs)) (hl : xs.length ≤ 1048576) :
    Calls Try.prog 54 #[.slice A xs.length c, .int .i64 rest] w fun e w' => e = .returned (.int .i64 (tlV xs rest)) ∧ Below w.heap.size w w' := by
  by_cases hv : ROk xs rest
  · have HV := Lib.hid hv
    have h12 := hv.1.1
    clear hv
    go_enter Try.func54, Try.ntmps54
    go_wp2_with fail
    refine (sOk_yes h hl HV.out).mono ?_
    rintro e w1 ⟨rfl, b1⟩
    have s1 := h.below b1
    clear h
    go_wp2_with fail
    go_loopw [5, 6] (fun m i wr => ∃ k : Nat, k ≤ xs.length ∧ m = .int .i64 (mostTo xs rest k : Nat) ∧ i = .int .i64 k ∧ Below w1.heap.size w1 wr) (fun _ i _ => xs.length - (intOf i).toNat)
    case atStart => exact ⟨0, Nat.zero_le _, rfl, rfl, Below.refl _ _⟩
    case round =>
      obtain ⟨k, hk, rfl, rfl, hbel⟩ := hrel
      by_cases hlt : k < xs.length
      · obtain ⟨b, o, hA, hb, c0, -⟩ := s1.at2 hlt
        have d0 := (hbel.cell (p := ⟨b, o + k * 2, none⟩) hb).trans c0
        have s2 := s1.below hbel
        subst hA
        have HB := Lib.hid hbel
        clear c0 hbel
        have E := Lib.hid (show mostTo xs rest (k + 1) = max (mostTo xs rest k) (busyTo xs rest (rs xs k) xs.length) from rfl)
        generalize hm : mostTo xs rest k = m at *
        go_wp2_with fail
        refine (sBusy _ _ xs _ _ _ s2 HV.out.1 HV.out.2.1 (by have := HV.out.2.2; omega)).mono ?_
        rintro e w2 ⟨rfl, b2⟩
        generalize hq : busyTo xs rest (rs xs k) xs.length = q at *
        have B2 := Lib.hid (HB.out.trans (b2.mono HB.out.size))
        clear b2 HB
        by_cases hmq : m < q
        · go_wp2_with fail
          exact ⟨⟨k + 1, by omega, by rw [E.out]; go_num, by go_num, B2.out⟩, by simp [intOf]; omega⟩
        · go_wp2_with fail
          exact ⟨⟨k + 1, by omega, by rw [E.out]; go_num, by go_num, B2.out⟩, by simp [intOf]; omega⟩
      · go_wp2_with fail
        go_ret
        obtain rfl : k = xs.length := by omega
        exact ⟨ret_int (by rw [tlV_yes HV.out]; rfl), b1.trans (hbel.mono b1.size)⟩
  · have HV := Lib.hid hv
    clear hv
    go_enter Try.func54, Try.ntmps54
    go_wp2_with fail
    refine (sOk_no h hl HV.out).mono ?_
    rintro e w1 ⟨rfl, b1⟩
    go_wp2_with fail
    go_ret
    exact ⟨ret_int (tlV_no HV.out).symm, b1⟩
end Go.Proofs.Ytgimheekaceifaa
