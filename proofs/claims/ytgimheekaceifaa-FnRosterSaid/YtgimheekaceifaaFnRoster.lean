/-
  For every input laws.FnRoster returns true and leaves its arguments as they were (Rows.FnRosterSaid). Condition: none beyond the given row.
-/
import Derived.Test.YtgimheekaceifaaRows
import Derived.WalkKit
import Derived.ProofKit
import Derived.OpenShut
import Derived.ShutString
import Derived.ChangeOld
import Derived.Below
import Derived.Lib.SmallJoins
import Derived.Test.YtgimheekaceifaaEnter
import Derived.Test.YtgimheekaceifaaOpenB
import Derived.Test.YtgimheekaceifaaDrawR5
import Derived.Test.YtgimheekaceifaaRunsY
import Derived.Test.YtgimheekaceifaaRunsN
import Derived.Deep.RegionHeld3
namespace Go.Proofs.Ytgimheekaceifaa.fnRoster
open Go.ChangeShapes Go.WideShapes Go.ChangeAt Go.RowKit Go.Joins
open Go.ChangeMaps (open_string shut_string)
set_option linter.unusedVariables false

theorem own : ownKnob Try.prog.godebug = none := by kernel_rfl
theorem laidOut : laidOutB Try.prog = true := by kernel_rfl

theorem iRoV_at {A R : Option Addr} {c rc n : Nat} {ys : List Rn} {rest : Int} {zs : List Int} {w : World} (h1 : ys.length = n) (h2 : zs.length = n) (h : Cells w A (fr ys)) (hr : Cells w R zs) (hn : n ≤ 1048576) (hv : RoValid ys rest zs) :
    Calls Try.prog 44 #[.slice A n c, .int .i64 rest, .slice R n rc] w fun e w' => e = .returned (.bool true) ∧ Below w.heap.size w w' := by
  have := iRoV_yes (c := c) (rc := rc) h hr (by omega) (by omega) hv
  rw [h1, h2] at this
  exact this
set_option maxRecDepth 100000 in
set_option maxHeartbeats 12000000 in
theorem walk (A0 : Option Addr) (len0 cap0 : Nat) (A1 : Option Addr) (len1 cap1 : Nat) (w : World) (s0 : Bytes w A0 len0) (m0 : len0 ≤ cap0) (q0 : cap0 ≤ maxLen) (s1 : Bytes w A1 len1) (m1 : len1 ≤ cap1) (q1 : cap1 ≤ maxLen) :
    Calls Try.prog 10 #[.slice A0 len0 cap0, .slice A1 len1 cap1] w fun e w' => e = .returned (.bool true) ∧ Below w.heap.size w w' := by
  by_cases hl : 1048576 < len0
  · go_enter Try.func10, Try.ntmps10
    go_wp2_with fail
    go_ret
    exact ⟨rfl, Below.refl _ _⟩
  · by_cases hl1 : 1048576 < len1
    · go_enter Try.func10, Try.ntmps10
      go_wp2_with fail
      go_ret
      exact ⟨rfl, Below.refl _ _⟩
    · have hl1' : len1 ≤ 1048576 := by omega
      clear hl1
      go_enter Try.func10, Try.ntmps10
      go_wp2_with fail
      refine (drawRoster A0 len0 cap0 w s0 m0 q0).mono ?_
      rintro e w1 ⟨g, c, xs, rest, R, rc, ro, rfl, hwf, l7, c1, c2, r8, hRf, hcl, hcr, b1⟩
      have hl' : xs.length ≤ 1048576 := by omega
      have B1 := Lib.hid b1
      have CL1 := Lib.hid hcl
      clear b1 hcl s0 m0 q0 s1 m1 q1
      have CR1 := Lib.hid hcr
      have HRF := Lib.hid hRf
      have rl' : ro.length ≤ 1048576 := by omega
      clear hcr hRf
      by_cases hv : RoValid xs rest ro
      · have HV := Lib.hid hv
        obtain ⟨⟨-, r0, r1⟩, hll, -⟩ := hv
        have HLL := Lib.hid hll
        clear hll
        go_wp2_with fail
        refine (iRoV_yes CL1.out CR1.out hl' rl' HV.out).mono ?_
        rintro e w2 ⟨rfl, b2⟩
        have B2 := Lib.hid (B1.out.trans (b2.mono B1.out.size))
        have CL2 := Lib.hid (CL1.out.below b2)
        have CR2 := Lib.hid (CR1.out.below b2)
        clear b2 B1 CL1 CR1
        go_wp2_with fail
        refine (sRoV_yes CL2.out CR2.out hl' rl' HV.out).mono ?_
        rintro e w3 ⟨rfl, b3⟩
        have B3 := Lib.hid (B2.out.trans (b3.mono B2.out.size))
        have CL3 := Lib.hid (CL2.out.below b3)
        have CR3 := Lib.hid (CR2.out.below b3)
        clear b3 B2 CL2 CR2
        obtain ⟨m, hm⟩ : ∃ m : Nat, m = len1 % (xs.length + 1) := ⟨_, rfl⟩
        have hmle : m ≤ xs.length := by have := Nat.mod_lt len1 (show 0 < xs.length + 1 by omega); omega
        have em : (len1 : Int) % ((xs.length : Int) + 1) = (m : Int) := by rw [hm]; rfl
        have em' : Int.tmod (len1 : Int) ((xs.length : Int) + 1) = (m : Int) := by rw [hm]; rfl
        have ez : ¬ ((xs.length : Int) + 1 = 0) := by omega
        have ez' : ((xs.length : Int) + 1 == 0) = false := by rw [beq_eq_false_iff_ne]; omega
        clear hm
        obtain ⟨i0, hi0, hz0, hz1, hz2⟩ := info_parts int_info
        obtain ⟨ys, hy⟩ : ∃ ys, ys = xs.take m := ⟨_, rfl⟩
        obtain ⟨zs, hz⟩ : ∃ zs, zs = ro.take m := ⟨_, rfl⟩
        have HYL := Lib.hid (show ys.length = m by rw [hy, List.length_take]; omega)
        have HZL := Lib.hid (show zs.length = m by rw [hz, List.length_take]; have := HLL.out; omega)
        have HVT := Lib.hid (show RoValid ys rest zs by rw [hy, hz]; exact HV.out.take m hmle)
        have HVU := Lib.hid (show RoValid xs rest (upTo xs.length) from roValid_upTo HV.out.1)
        have HY := Lib.hid hy
        have HZ := Lib.hid hz
        have m6 : m ≤ 1048576 := by omega
        have hmle' : (m : Int) ≤ (xs.length : Int) := by omega
        have hmc : m ≤ c := by omega
        have hmcI : (m : Int) ≤ (c : Int) := by omega
        have hmr : m ≤ ro.length := by have := HLL.out; omega
        have hmrI : (m : Int) ≤ (ro.length : Int) := by omega
        clear hy hz
        have hs3 := B3.out.size
        have O3 := Lib.hid (IOwn.empty w3 w3.heap.size (Nat.le_refl _))
        have E3 := Lib.hid ((Below.refl w3.heap.size w3).alloc (Nat.le_refl _) (.cells #[] 3))
        go_wp2_with fail
        go_loopw [11, 12] (fun o i wr => ∃ k : Nat, k ≤ xs.length ∧ i = .int .i64 k ∧ wr.ownsRow w3.heap.size 3 1 o k ((upTo k).map (Value.int .i64)) ∧ Below w3.heap.size w3 wr) (fun _ i _ => xs.length - (intOf i).toNat)
        case atStart => exact ⟨0, Nat.zero_le _, rfl, O3.out, E3.out⟩
        case round =>
          obtain ⟨k, hk, rfl, hown, hbel⟩ := hrel
          have HB := Lib.hid hbel
          clear hbel O3 E3
          obtain ⟨OA, oc, rfl⟩ := own_formI hown
          have hsB := HB.out.size
          by_cases hlt : k < xs.length
          · have i1 : (k : Int) < (xs.length : Int) := by omega
            go_wp2_with (at_builtin; refine wpList_append_own _ rfl _ _ 44 rfl w3.heap.size 3 i0 _ 1 8 Try.underlying44 hi0 hz0 hz1 hz2 rfl (by decide) _ _ _ rfl (hown.alloc _) ⟨wr.heap.size, 0, none⟩ 1 1 [.int .i64 k] rfl rfl (cell_one_new _ _ _) (ints_oneCell .i64 [(k : Int)]) (by unfold maxLen; omega) (by omega) (by simp; omega) ?_; intro v' w5 hown' hgrow _; have R5 := Lib.hid (And.intro hown' ((HB.out.alloc (by omega) _).grown hgrow (by simp; omega) (fun q hq => (hown.lt q hq).1))); clear hown' hgrow)
            exact ⟨⟨k + 1, by omega, by go_num, by rw [upTo_succ, List.map_append]; exact R5.out.1, R5.out.2⟩, by simp [intOf]; omega⟩
          · obtain rfl : k = xs.length := by omega
            have CO0 := Lib.hid (show Cells wr.drew OA (upTo xs.length) from Cells.drewR (Cells.of_own hown))
            have CL0 := Lib.hid (show Cells wr.drew (some ⟨g, 0, none⟩) (fr xs) from (CL3.out.below HB.out).drewR)
            have CR0 := Lib.hid (show Cells wr.drew R ro from (CR3.out.below HB.out).drewR)
            have C0 := Lib.hid ((B3.out.trans (HB.out.mono B3.out.size)).drew)
            clear HB B3 CL3 CR3 hown
            have hRF := HRF.out
            rcases hRF with ⟨hR, hR0, hRc⟩ | ⟨g', hR, hR0, hRc⟩
            · have hm0 : m = 0 := by omega
              have hro : ro = [] := List.eq_nil_of_length_eq_zero hR0
              have hxs : xs = [] := List.eq_nil_of_length_eq_zero (by have := HLL.out; omega)
              subst hR hRc hm0 hro hxs
              clear hmle hmle' hmc hmr hmrI hmcI CO0 CL0 CR0 HVT HVU HYL HZL HY HZ
              by_cases hz0 : rest = 0
              · subst hz0
                go_wp2_with fail
                refine wp_region_any (by kernel_rfl) ?_
                try (change wpAny _ _ _ _ _ _ _ (World.drew _))
                refine wpAny_take (i := 0) (v := ?_) rfl (by kernel_rfl) (by kernel_rfl) (by kernel_rfl) (fun _ _ _ h => h) (Or.inl ⟨by kernel_rfl, ?_⟩) ?_
                rotate_left
                · intro w; go_simp; first | done | (with_reducible rfl)
                refine wpAny_take (i := 1) (v := ?_) rfl (by kernel_rfl) (by kernel_rfl) (by kernel_rfl) (fun _ _ _ h => h) (Or.inl ⟨by kernel_rfl, ?_⟩) ?_
                rotate_left
                · intro w; go_simp; first | done | (with_reducible rfl)
                refine wpAny_take (i := 2) (v := ?_) rfl (by kernel_rfl) (by kernel_rfl) (by kernel_rfl) (fun _ _ _ h => h) (Or.inl ⟨by kernel_rfl, ?_⟩) ?_
                rotate_left
                · intro w; go_simp; first | done | (with_reducible rfl)
                refine wpAny_take (i := 3) (v := undef) rfl (by kernel_rfl) (by kernel_rfl) (by kernel_rfl) (fun _ _ _ h => h) (Or.inr ⟨by kernel_rfl, rfl⟩) ?_
                refine wpAny_take (i := 4) (v := undef) rfl (by kernel_rfl) (by kernel_rfl) (by kernel_rfl) (fun _ _ _ h => h) (Or.inr ⟨by kernel_rfl, rfl⟩) ?_
                refine wpAny_take (i := 5) (v := undef) rfl (by kernel_rfl) (by kernel_rfl) (by kernel_rfl) (fun _ _ _ h => h) (Or.inr ⟨by kernel_rfl, rfl⟩) ?_
                refine wpAny_take (i := 6) (v := undef) rfl (by kernel_rfl) (by kernel_rfl) (by kernel_rfl) (fun _ _ _ h => h) (Or.inr ⟨by kernel_rfl, rfl⟩) ?_
                refine wpAny_take (i := 7) (v := undef) rfl (by kernel_rfl) (by kernel_rfl) (by kernel_rfl) (fun _ _ _ h => h) (Or.inr ⟨by kernel_rfl, rfl⟩) ?_
                refine wpAny_take (i := 8) (v := ?_) rfl (by kernel_rfl) (by kernel_rfl) (by kernel_rfl) (fun _ _ _ h => h) (Or.inl ⟨by kernel_rfl, ?_⟩) ?_
                rotate_left
                · intro w; go_simp; first | done | (with_reducible rfl)
                refine wpAny_take (i := 9) (v := ?_) rfl (by kernel_rfl) (by kernel_rfl) (by kernel_rfl) (fun _ _ _ h => h) (Or.inl ⟨by kernel_rfl, ?_⟩) ?_
                rotate_left
                · intro w; go_simp; first | done | (with_reducible rfl)
                refine wpAny_take (i := 10) (v := ?_) rfl (by kernel_rfl) (by kernel_rfl) (by kernel_rfl) (fun _ _ _ h => h) (Or.inl ⟨by kernel_rfl, ?_⟩) ?_
                rotate_left
                · intro w; go_simp; first | done | (with_reducible rfl)
                refine wpAny_take (i := 11) (v := ?_) rfl (by kernel_rfl) (by kernel_rfl) (by kernel_rfl) (fun _ _ _ h => h) (Or.inl ⟨by kernel_rfl, ?_⟩) ?_
                rotate_left
                · intro w; go_simp; first | done | (with_reducible rfl)
                refine wpAny_take (i := 12) (v := ?_) rfl (by kernel_rfl) (by kernel_rfl) (by kernel_rfl) (fun _ _ _ h => h) (Or.inl ⟨by kernel_rfl, ?_⟩) ?_
                rotate_left
                · intro w; go_simp; first | done | (with_reducible rfl)
                refine wpAny_take (i := 13) (v := ?_) rfl (by kernel_rfl) (by kernel_rfl) (by kernel_rfl) (fun _ _ _ h => h) (Or.inl ⟨by kernel_rfl, ?_⟩) ?_
                rotate_left
                · intro w; go_simp; first | done | (with_reducible rfl)
                refine wpAny_take (i := 14) (v := ?_) rfl (by kernel_rfl) (by kernel_rfl) (by kernel_rfl) (fun _ _ _ h => h) (Or.inl ⟨by kernel_rfl, ?_⟩) ?_
                rotate_left
                · intro w; go_simp; first | done | (with_reducible rfl)
                refine wpAny_take (i := 15) (v := ?_) rfl (by kernel_rfl) (by kernel_rfl) (by kernel_rfl) (fun _ _ _ h => h) (Or.inl ⟨by kernel_rfl, ?_⟩) ?_
                rotate_left
                · intro w; go_simp; first | done | (with_reducible rfl)
                refine wpAny_take (i := 16) (v := ?_) rfl (by kernel_rfl) (by kernel_rfl) (by kernel_rfl) (fun _ _ _ h => h) (Or.inl ⟨by kernel_rfl, ?_⟩) ?_
                rotate_left
                · intro w; go_simp; first | done | (with_reducible rfl)
                refine wpAny_ready (rs := [17]) (by kernel_rfl) (by simp) ?_
                refine AllReady.cons rfl (fun K hK => ?_) AllReady.nil
                go_simp
                refine (iRoV_at (ys := []) (zs := []) rfl rfl Cells.nil Cells.nil (by omega) HV.out).mono ?_
                rintro e v1 ⟨rfl, x1⟩
                have C1 := Lib.hid (C0.out.trans (x1.mono C0.out.size)); clear x1
                refine hK _ _ ?_
                clear hK K
                refine wpAny_take (i := 18) (v := ?_) rfl (by kernel_rfl) (by kernel_rfl) (by kernel_rfl) (fun _ _ _ h => h) (Or.inl ⟨by kernel_rfl, ?_⟩) ?_
                rotate_left
                · intro w; go_simp; first | done | (with_reducible rfl)
                refine wpAny_take (i := 19) (v := ?_) rfl (by kernel_rfl) (by kernel_rfl) (by kernel_rfl) (fun _ _ _ h => h) (Or.inl ⟨by kernel_rfl, ?_⟩) ?_
                rotate_left
                · intro w; go_simp; first | done | (with_reducible rfl)
                refine wpAny_take (i := 20) (v := ?_) rfl (by kernel_rfl) (by kernel_rfl) (by kernel_rfl) (fun _ _ _ h => h) (Or.inl ⟨by kernel_rfl, ?_⟩) ?_
                rotate_left
                · intro w; go_simp; first | done | (with_reducible rfl)
                refine wpAny_take (i := 21) (v := ?_) rfl (by kernel_rfl) (by kernel_rfl) (by kernel_rfl) (fun _ _ _ h => h) (Or.inl ⟨by kernel_rfl, ?_⟩) ?_
                rotate_left
                · intro w; go_simp; first | done | (with_reducible rfl)
                refine wpAny_take (i := 22) (v := ?_) rfl (by kernel_rfl) (by kernel_rfl) (by kernel_rfl) (fun _ _ _ h => h) (Or.inl ⟨by kernel_rfl, ?_⟩) ?_
                rotate_left
                · intro w; go_simp; first | done | (with_reducible rfl)
                refine wpAny_ready (rs := [23]) (by kernel_rfl) (by simp) ?_
                refine AllReady.cons rfl (fun K hK => ?_) AllReady.nil
                go_simp
                refine (iRoV_at (ys := []) (zs := []) rfl rfl Cells.nil Cells.nil (by omega) HV.out).mono ?_
                rintro e v2 ⟨rfl, x2⟩
                have C2 := Lib.hid (C1.out.trans (x2.mono C1.out.size)); clear x2
                refine hK _ _ ?_
                clear hK K
                refine wpAny_take (i := 24) (v := ?_) rfl (by kernel_rfl) (by kernel_rfl) (by kernel_rfl) (fun _ _ _ h => h) (Or.inl ⟨by kernel_rfl, ?_⟩) ?_
                rotate_left
                · intro w; go_simp; first | done | (with_reducible rfl)
                refine wpAny_take (i := 25) (v := ?_) rfl (by kernel_rfl) (by kernel_rfl) (by kernel_rfl) (fun _ _ _ h => h) (Or.inl ⟨by kernel_rfl, ?_⟩) ?_
                rotate_left
                · intro w; go_simp; first | done | (with_reducible rfl)
                refine wpAny_done (by kernel_rfl) ?_ _
                go_simp
                go_wp2_with fail
                go_ret
                exact ⟨rfl, C2.out⟩
              · have HV1 := Lib.hid (show RoValid [] (rest - 1) [] from HV.out.less (by omega))
                have dz : (rest == 0) = false := by simp [hz0]
                have e1 : IntKind.i64.wrap (rest - 1) = rest - 1 := IntWalk.i64_in _ (by omega)
                clear hz0
                go_wp2_with fail
                go_region_held3 (fun _ => True) (exact trivial) (first
                  | (have hh := C2.out; clear hh; go_at_call 44; refine (iRoV_at (ys := []) (zs := []) rfl rfl Cells.nil Cells.nil (by omega) HV.out).mono ?_; rintro e v3 ⟨rfl, x3⟩; have C3 := Lib.hid (C2.out.trans (x3.mono C2.out.size)); clear x3)
                  | (have hh := C1.out; clear hh; go_at_call 44; refine (iRoV_at (ys := []) (zs := []) rfl rfl Cells.nil Cells.nil (by omega) HV.out).mono ?_; rintro e v2 ⟨rfl, x2⟩; have C2 := Lib.hid (C1.out.trans (x2.mono C1.out.size)); clear x2)
                  | (have hh := C0.out; clear hh; go_at_call 44; refine (iRoV_at (ys := []) (zs := []) rfl rfl Cells.nil Cells.nil (by omega) HV1.out).mono ?_; rintro e v1 ⟨rfl, x1⟩; have C1 := Lib.hid (C0.out.trans (x1.mono C0.out.size)); clear x1))
                all_goals
                  go_wp2_with fail
                  go_ret
                  exact ⟨rfl, C3.out⟩
            · subst hR
              have hrcI : (m : Int) ≤ (rc : Int) := by omega
              have hrc : m ≤ rc := by omega
              by_cases hz0 : rest = 0
              · subst hz0
                go_wp2_with fail
                refine wp_region_any (by kernel_rfl) ?_
                try (change wpAny _ _ _ _ _ _ _ (World.drew _))
                refine wpAny_take (i := 0) (v := ?_) rfl (by kernel_rfl) (by kernel_rfl) (by kernel_rfl) (fun _ _ _ h => h) (Or.inl ⟨by kernel_rfl, ?_⟩) ?_
                rotate_left
                · intro w; go_simp; first | done | (with_reducible rfl)
                refine wpAny_take (i := 1) (v := ?_) rfl (by kernel_rfl) (by kernel_rfl) (by kernel_rfl) (fun _ _ _ h => h) (Or.inl ⟨by kernel_rfl, ?_⟩) ?_
                rotate_left
                · intro w; go_simp; first | done | (with_reducible rfl)
                refine wpAny_take (i := 2) (v := ?_) rfl (by kernel_rfl) (by kernel_rfl) (by kernel_rfl) (fun _ _ _ h => h) (Or.inl ⟨by kernel_rfl, ?_⟩) ?_
                rotate_left
                · intro w; go_simp; first | done | (with_reducible rfl)
                refine wpAny_take (i := 3) (v := undef) rfl (by kernel_rfl) (by kernel_rfl) (by kernel_rfl) (fun _ _ _ h => h) (Or.inr ⟨by kernel_rfl, rfl⟩) ?_
                refine wpAny_take (i := 4) (v := undef) rfl (by kernel_rfl) (by kernel_rfl) (by kernel_rfl) (fun _ _ _ h => h) (Or.inr ⟨by kernel_rfl, rfl⟩) ?_
                refine wpAny_take (i := 5) (v := undef) rfl (by kernel_rfl) (by kernel_rfl) (by kernel_rfl) (fun _ _ _ h => h) (Or.inr ⟨by kernel_rfl, rfl⟩) ?_
                refine wpAny_take (i := 6) (v := undef) rfl (by kernel_rfl) (by kernel_rfl) (by kernel_rfl) (fun _ _ _ h => h) (Or.inr ⟨by kernel_rfl, rfl⟩) ?_
                refine wpAny_take (i := 7) (v := undef) rfl (by kernel_rfl) (by kernel_rfl) (by kernel_rfl) (fun _ _ _ h => h) (Or.inr ⟨by kernel_rfl, rfl⟩) ?_
                refine wpAny_take (i := 8) (v := ?_) rfl (by kernel_rfl) (by kernel_rfl) (by kernel_rfl) (fun _ _ _ h => h) (Or.inl ⟨by kernel_rfl, ?_⟩) ?_
                rotate_left
                · intro w; go_simp; first | done | (with_reducible rfl)
                refine wpAny_take (i := 9) (v := ?_) rfl (by kernel_rfl) (by kernel_rfl) (by kernel_rfl) (fun _ _ _ h => h) (Or.inl ⟨by kernel_rfl, ?_⟩) ?_
                rotate_left
                · intro w; go_simp; first | done | (with_reducible rfl)
                refine wpAny_take (i := 10) (v := ?_) rfl (by kernel_rfl) (by kernel_rfl) (by kernel_rfl) (fun _ _ _ h => h) (Or.inl ⟨by kernel_rfl, ?_⟩) ?_
                rotate_left
                · intro w; go_simp; first | done | (with_reducible rfl)
                refine wpAny_take (i := 11) (v := ?_) rfl (by kernel_rfl) (by kernel_rfl) (by kernel_rfl) (fun _ _ _ h => h) (Or.inl ⟨by kernel_rfl, ?_⟩) ?_
                rotate_left
                · intro w; go_simp; first | done | (with_reducible rfl)
                refine wpAny_take (i := 12) (v := ?_) rfl (by kernel_rfl) (by kernel_rfl) (by kernel_rfl) (fun _ _ _ h => h) (Or.inl ⟨by kernel_rfl, ?_⟩) ?_
                rotate_left
                · intro w; go_simp; first | done | (with_reducible rfl)
                refine wpAny_take (i := 13) (v := ?_) rfl (by kernel_rfl) (by kernel_rfl) (by kernel_rfl) (fun _ _ _ h => h) (Or.inl ⟨by kernel_rfl, ?_⟩) ?_
                rotate_left
                · intro w; go_simp; first | done | (with_reducible rfl)
                refine wpAny_take (i := 14) (v := ?_) rfl (by kernel_rfl) (by kernel_rfl) (by kernel_rfl) (fun _ _ _ h => h) (Or.inl ⟨by kernel_rfl, ?_⟩) ?_
                rotate_left
                · intro w; go_simp; first | done | (with_reducible rfl)
                refine wpAny_take (i := 15) (v := ?_) rfl (by kernel_rfl) (by kernel_rfl) (by kernel_rfl) (fun _ _ _ h => h) (Or.inl ⟨by kernel_rfl, ?_⟩) ?_
                rotate_left
                · intro w; go_simp; first | done | (with_reducible rfl)
                refine wpAny_take (i := 16) (v := ?_) rfl (by kernel_rfl) (by kernel_rfl) (by kernel_rfl) (fun _ _ _ h => h) (Or.inl ⟨by kernel_rfl, ?_⟩) ?_
                rotate_left
                · intro w; go_simp; first | done | (with_reducible rfl)
                refine wpAny_ready (rs := [17]) (by kernel_rfl) (by simp) ?_
                refine AllReady.cons rfl (fun K hK => ?_) AllReady.nil
                go_simp
                refine (iRoV_at HYL.out HZL.out (by rw [HY.out]; exact CL0.out.takeR _) (by rw [HZ.out]; exact CR0.out.takeI _) m6 HVT.out).mono ?_
                rintro e v1 ⟨rfl, x1⟩
                have CL1 := Lib.hid (CL0.out.below x1); have CR1 := Lib.hid (CR0.out.below x1); have CO1 := Lib.hid (CO0.out.below x1); have C1 := Lib.hid (C0.out.trans (x1.mono C0.out.size)); clear x1
                refine hK _ _ ?_
                clear hK K
                refine wpAny_take (i := 18) (v := ?_) rfl (by kernel_rfl) (by kernel_rfl) (by kernel_rfl) (fun _ _ _ h => h) (Or.inl ⟨by kernel_rfl, ?_⟩) ?_
                rotate_left
                · intro w; go_simp; first | done | (with_reducible rfl)
                refine wpAny_take (i := 19) (v := ?_) rfl (by kernel_rfl) (by kernel_rfl) (by kernel_rfl) (fun _ _ _ h => h) (Or.inl ⟨by kernel_rfl, ?_⟩) ?_
                rotate_left
                · intro w; go_simp; first | done | (with_reducible rfl)
                refine wpAny_take (i := 20) (v := ?_) rfl (by kernel_rfl) (by kernel_rfl) (by kernel_rfl) (fun _ _ _ h => h) (Or.inl ⟨by kernel_rfl, ?_⟩) ?_
                rotate_left
                · intro w; go_simp; first | done | (with_reducible rfl)
                refine wpAny_take (i := 21) (v := ?_) rfl (by kernel_rfl) (by kernel_rfl) (by kernel_rfl) (fun _ _ _ h => h) (Or.inl ⟨by kernel_rfl, ?_⟩) ?_
                rotate_left
                · intro w; go_simp; first | done | (with_reducible rfl)
                refine wpAny_take (i := 22) (v := ?_) rfl (by kernel_rfl) (by kernel_rfl) (by kernel_rfl) (fun _ _ _ h => h) (Or.inl ⟨by kernel_rfl, ?_⟩) ?_
                rotate_left
                · intro w; go_simp; first | done | (with_reducible rfl)
                refine wpAny_ready (rs := [23]) (by kernel_rfl) (by simp) ?_
                refine AllReady.cons rfl (fun K hK => ?_) AllReady.nil
                go_simp
                refine (iRoV_at rfl (upTo_len _) CL1.out CO1.out hl' HVU.out).mono ?_
                rintro e v2 ⟨rfl, x2⟩
                have CL2 := Lib.hid (CL1.out.below x2); have CR2 := Lib.hid (CR1.out.below x2); have CO2 := Lib.hid (CO1.out.below x2); have C2 := Lib.hid (C1.out.trans (x2.mono C1.out.size)); clear x2
                refine hK _ _ ?_
                clear hK K
                refine wpAny_take (i := 24) (v := ?_) rfl (by kernel_rfl) (by kernel_rfl) (by kernel_rfl) (fun _ _ _ h => h) (Or.inl ⟨by kernel_rfl, ?_⟩) ?_
                rotate_left
                · intro w; go_simp; first | done | (with_reducible rfl)
                refine wpAny_take (i := 25) (v := ?_) rfl (by kernel_rfl) (by kernel_rfl) (by kernel_rfl) (fun _ _ _ h => h) (Or.inl ⟨by kernel_rfl, ?_⟩) ?_
                rotate_left
                · intro w; go_simp; first | done | (with_reducible rfl)
                refine wpAny_done (by kernel_rfl) ?_ _
                go_simp
                go_wp2_with fail
                go_ret
                exact ⟨rfl, C2.out⟩
              · have HV1 := Lib.hid (show RoValid xs (rest - 1) ro from HV.out.less (by omega))
                have dz : (rest == 0) = false := by simp [hz0]
                have e1 : IntKind.i64.wrap (rest - 1) = rest - 1 := IntWalk.i64_in _ (by omega)
                clear hz0
                go_wp2_with fail
                go_region_held3 (fun _ => True) (exact trivial) (first
                  | (have hh := C2.out; clear hh; go_at_call 44; refine (iRoV_at rfl (upTo_len _) CL2.out CO2.out hl' HVU.out).mono ?_; rintro e v3 ⟨rfl, x3⟩; have CL3 := Lib.hid (CL2.out.below x3); have CR3 := Lib.hid (CR2.out.below x3); have CO3 := Lib.hid (CO2.out.below x3); have C3 := Lib.hid (C2.out.trans (x3.mono C2.out.size)); clear x3)
                  | (have hh := C1.out; clear hh; go_at_call 44; refine (iRoV_at HYL.out HZL.out (by rw [HY.out]; exact CL1.out.takeR _) (by rw [HZ.out]; exact CR1.out.takeI _) m6 HVT.out).mono ?_; rintro e v2 ⟨rfl, x2⟩; have CL2 := Lib.hid (CL1.out.below x2); have CR2 := Lib.hid (CR1.out.below x2); have CO2 := Lib.hid (CO1.out.below x2); have C2 := Lib.hid (C1.out.trans (x2.mono C1.out.size)); clear x2)
                  | (have hh := C0.out; clear hh; go_at_call 44; refine (iRoV_yes CL0.out CR0.out hl' rl' HV1.out).mono ?_; rintro e v1 ⟨rfl, x1⟩; have CL1 := Lib.hid (CL0.out.below x1); have CR1 := Lib.hid (CR0.out.below x1); have CO1 := Lib.hid (CO0.out.below x1); have C1 := Lib.hid (C0.out.trans (x1.mono C0.out.size)); clear x1))
                all_goals
                  go_wp2_with fail
                  go_ret
                  exact ⟨rfl, C3.out⟩
      · have HV := Lib.hid hv
        clear hv
        go_wp2_with fail
        refine (iRoV_no CL1.out CR1.out hl' rl' HV.out).mono ?_
        rintro e w2 ⟨rfl, b2⟩
        have B2 := Lib.hid (B1.out.trans (b2.mono B1.out.size))
        have CL2 := Lib.hid (CL1.out.below b2)
        have CR2 := Lib.hid (CR1.out.below b2)
        clear b2 B1 CL1 CR1
        go_wp2_with fail
        refine (sRoV_no CL2.out CR2.out hl' rl' HV.out).mono ?_
        rintro e w3 ⟨rfl, b3⟩
        have B3 := Lib.hid (B2.out.trans (b3.mono B2.out.size))
        clear b3 B2 CL2 CR2
        go_wp2_with fail
        go_ret
        exact ⟨rfl, B3.out⟩

set_option maxRecDepth 100000 in
theorem lifted (os : Os) (started : os.Started) (H : Type) (enc : TypeId × Value → H) :
    ReturnsInHanded {} Try.checked os 10 .any (Rows.fnRosterSpec.pre6 enc Try.prog Try.f10 Rows.fnRosterRow.domain false) (Rows.fnRosterSpec.post enc Try.prog Try.f10 false true false false) := by
  refine returnsInHanded_of_change (C := Try.checked) own started (by kernel_rfl) Try.func10
    (ChangeSpec.witness6 (enc := enc) (C := Try.checked) false ⟨#[], #[.slice none 0 0, .slice none 0 0], []⟩ 8 (by kernel_rfl) (by kernel_rfl) (by kernel_rfl) (by kernel_rfl)) ?_
  intro W base args ds gs before hval0 hW hcnd _
  have hval : ∀ (j : Nat) t v, Try.f10.params[j]? = some t → args[j]? = some v → Value.okWide Try.prog W .any base t v := hval0
  have hW' := hW
  obtain ⟨p, q, hA0, hV, rfl, hfz, hnd⟩ := hW
  have hA : DataW.TrodAll enc Try.prog W 0 (fun _ => true) true Try.f10.params.toList args.toList ds p := hA0
  rw [Try.params10] at hA hval
  obtain ⟨v0, vs0, d0, ds0, p0, q0, hargs, rfl, rfl, h0, r0⟩ := trodAll_cons hA
  obtain ⟨v1, vs1, d1, ds1, p1, q1, rfl, rfl, rfl, h1, r1⟩ := trodAll_cons r0
  obtain ⟨rfl, rfl, rfl⟩ := trodAll_nil r1
  obtain rfl : args = #[v0, v1] := by cases args; simp_all
  obtain ⟨rfl, rfl⟩ := trodVars_none hV
  obtain ⟨A0, len0, cap0, rfl⟩ := okWide_slice Try.underlying31 (hval 0 31 v0 rfl rfl)
  have k0 := h0
  have lt0 : ∀ x ∈ p0, x.block < W.heap.size := by obtain ⟨m, hm⟩ := k0; exact DataW.trod_lt m _ _ _ hm
  obtain ⟨s0, m0, g0⟩ : Bytes W A0 len0 ∧ len0 ≤ cap0 ∧ cap0 ≤ maxLen := by
    obtain ⟨fuel, hf⟩ := h0
    exact arg_bytes hf
  obtain ⟨A1, len1, cap1, rfl⟩ := okWide_slice Try.underlying31 (hval 1 31 v1 rfl rfl)
  have k1 := h1
  have lt1 : ∀ x ∈ p1, x.block < W.heap.size := by obtain ⟨m, hm⟩ := k1; exact DataW.trod_lt m _ _ _ hm
  obtain ⟨s1, m1, g1⟩ : Bytes W A1 len1 ∧ len1 ≤ cap1 ∧ cap1 ≤ maxLen := by
    obtain ⟨fuel, hf⟩ := h1
    exact arg_bytes hf
  clear hA0 hval0
  simp only [List.append_nil] at hW'
  refine (walk A0 len0 cap0 A1 len1 cap1 W s0 m0 g0 s1 m1 g1).mono fun e W' ⟨he, bel⟩ => ?_
  subst he
  exact ⟨_, rfl, _, _, _, [], _, [], hW', (trodAll_cons_mk (shut_bool Try.underlying4 _) trodAll_mk0), (trodAll_cons_mk (Below.trod laidOut (by kernel_rfl) (of_decide_eq_true (by kernel_rfl)) k0 bel lt0) (trodAll_cons_mk (Below.trod laidOut (by kernel_rfl) (of_decide_eq_true (by kernel_rfl)) k1 bel lt1) trodAll_mk0)), rfl, bel.frame _, fun h => by cases h⟩

set_option maxRecDepth 100000 in
theorem closed : joinedFacts Try.prog 10 Try.f10 Rows.fnRosterSpec Rows.fnRosterRow = true := by
  unfold joinedFacts
  rw [enter_ok, lifts_ok, make_ok]
  kernel_rfl

theorem over : Rows.fnRosterRow.holds Try.pinned (OpenSpec.ofChange Rows.fnRosterSpec) :=
  OpenClaim.holds_of_wide 10 Try.f10 rfl rfl rfl rfl rfl rfl rfl ⟨rfl, rfl, rfl, rfl, rfl⟩ rfl rfl rfl rfl rfl (by kernel_rfl) Try.func10 closed
    (of_decide_eq_true (by kernel_rfl)) (by unfold Func.isWrapper; first | (rw [if_pos (by decide +kernel)]; kernel_rfl) | (rw [if_neg (by decide +kernel)]; exact ⟨rfl, rfl⟩))
    (fun os started H enc _ => lifted os started H enc)

theorem proved : Rows.FnRosterSaid :=
  over
#print axioms proved
end Go.Proofs.Ytgimheekaceifaa.fnRoster
