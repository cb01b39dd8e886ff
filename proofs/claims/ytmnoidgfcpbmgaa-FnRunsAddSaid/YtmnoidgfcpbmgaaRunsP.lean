import Derived.Test.YtmnoidgfcpbmgaaRunsH
import Derived.Maps.OwnSet
import Derived.Maps.OwnOps
namespace Go.Proofs.Ytmnoidgfcpbmgaa
open Go.RowKit Go.Maps

theorem lawInt : Keyed Try.prog 3 := int_keyed Try.underlying3
theorem zeroInt (w : World) : (zeroValue 3).run Try.prog w = .ok (.int .i64 0) w := by kernel_rfl

/-- A map whose keys are the first k numbers of a list. -/
def SetIs (D : DataW Unit) (ro : List Int) (k : Nat) : Prop :=
  (∀ t : Int, Maps.has D (.int .i64 t) = true ↔ ∃ j, j < k ∧ ri ro j = t) ∧ Maps.size D = diffTo ro k

theorem SetIs.zero (ro : List Int) : SetIs (.map []) ro 0 := by
  refine ⟨fun t => ?_, rfl⟩
  constructor
  · intro h; simp [Maps.has] at h
  · rintro ⟨j, hj, _⟩; omega

theorem keyI (t : Int) : WideAt.IsKeyLit (.int .i64 t) := by trivial

theorem SetIs.step {D : DataW Unit} {ro : List Int} {k : Nat} (h : SetIs D ro k) (hT : Tidy D) (d : DataW Unit) : SetIs (D.put (.int .i64 (ri ro k)) d) ro (k + 1) := by
  obtain ⟨h1, h2⟩ := h
  refine ⟨fun t => ?_, ?_⟩
  · by_cases e : t = ri ro k
    · subst e
      rw [has_put_same hT.isMap (keyI _)]
      exact ⟨fun _ => ⟨k, by omega, rfl⟩, fun _ => rfl⟩
    · rw [has_put_other (by intro g; injection g with _ g; exact e g), h1 t]
      constructor
      · rintro ⟨j, hj, he⟩; exact ⟨j, by omega, he⟩
      · rintro ⟨j, hj, he⟩
        rcases Nat.lt_or_ge j k with g | g
        · exact ⟨j, g, he⟩
        · obtain rfl : j = k := by omega
          exact absurd he.symm e
  · rw [size_put hT, h2]
    simp only [diffTo]
    by_cases hf : ∀ j, j < k → ri ro j ≠ ri ro k
    · have : ¬ Maps.has D (.int .i64 (ri ro k)) = true := fun g => by
        obtain ⟨j, hj, he⟩ := (h1 _).mp g
        exact hf j hj he
      rw [if_pos hf, if_neg this]
    · have : Maps.has D (.int .i64 (ri ro k)) = true := by
        apply (h1 _).mpr
        apply Classical.byContradiction
        intro hn
        apply hf
        intro j hj he
        exact hn ⟨j, hj, he⟩
      rw [if_neg hf, if_pos this]
      omega

set_option maxRecDepth 100000 in
set_option maxHeartbeats 1000000 in
theorem iRT_any (A R : Option Addr) (c rc : Nat) (xs : List Rn) (rest : Int) (ro : List Int) (w : World) (h : Cells w A (fr xs)) (hr : Cells w R ro) (hl : xs.length ≤ 1048576) (hrl : ro.length ≤ 1048576) :
    Calls Try.prog 23 #[.slice A xs.length c, .int .i64 rest, .slice R ro.length rc] w fun e w' => e = .returned (.int .i64 (rtV xs rest ro)) ∧ Below w.heap.size w w' := by
  have hmm := @run_makeMap Try.prog
  by_cases hv : RoValid xs rest ro
  · have HV := Lib.hid hv
    clear hv
    go_enter Try.func23, Try.ntmps23
    go_wp2_with fail
    refine (iRoV_yes h hr hl hrl HV.out).mono ?_
    rintro e w1 ⟨rfl, b1⟩
    have s1 := hr.below b1
    clear h hr
    go_wp2_with fail
    go_loopw [18] (fun i wr => ∃ (k : Nat) (D : DataW Unit), k ≤ ro.length ∧ i = .int .i64 k ∧ wr.ownsMap Try.prog 3 (plainElem Try.prog 3) w1.heap.size k D ∧ SetIs D ro k ∧ Below w1.heap.size w1 wr) (fun i _ => ro.length - (intOf i).toNat)
    case atStart => exact ⟨0, .map [], Nat.zero_le _, rfl, World.ownsMap_made _ _ _ _, SetIs.zero ro, (Below.refl _ _).alloc (Nat.le_refl _) _⟩
    case round =>
      obtain ⟨k, D, hk, rfl, hown, hset, hbel⟩ := hrel
      have HS := Lib.hid hset
      clear hset
      by_cases hlt : k < ro.length
      · obtain ⟨g, q, hR, hg, z0⟩ := s1.at1 hlt
        have d0 := (hbel.cell (p := ⟨g, q + k, none⟩) hg).trans z0
        subst hR
        have wfk : (Lit.int .i64 (ri ro k)).wf = true := by
          have hb := HV.out.2.2 k (by have := HV.out.2.1; omega)
          exact WalkArith.wf_i64 (by omega)
        have HT := Lib.hid (hown.tidy lawInt)
        have hkey : keyOf Try.prog 3 (.int .i64 (ri ro k)) = some (.int .i64 (ri ro k)) := keyOf_int_mk Try.underlying3 wfk
        clear z0
        go_wp2_with (first
          | (at_lookup; refine wpList_lookup_own_int _ rfl _ _ 66 rfl 3 3 .i64 lawInt Try.underlying66 Try.underlying3 (zeroInt _) w1.heap.size k _ rfl hown _ _ rfl hkey ?_; intro c' hat hwc)
          | (at_mapUpdate; refine wpList_mapUpdate_own _ rfl _ _ _ 66 rfl 3 3 lawInt Try.underlying66 _ w1.heap.size k _ rfl hown (by unfold maxLen; omega) _ _ _ rfl rfl hkey _ [] (plainElem_int Try.underlying3 (wrap64_wf _)) ?_; intro w2 hown1 hgrow1))
        go_roundw
        case rel => exact ⟨k + 1, _, by omega, by go_num, hown1, HS.out.step HT.out _, hbel.grown hgrow1 hbel.size (fun j hj => by cases hj; exact Nat.le_refl _)⟩
        case measure => simp [intOf]; omega
      · obtain rfl : k = ro.length := by omega
        go_wp2_with (at_len; refine wpList_len_own _ rfl _ 66 rfl 3 3 Try.underlying66 _ w1.heap.size _ _ rfl hown ?_)
        go_ret
        exact ⟨ret_int (by rw [rtV_yes HV.out, HS.out.2]), b1.trans (hbel.mono b1.size)⟩
  · have HV := Lib.hid hv
    clear hv
    go_enter Try.func23, Try.ntmps23
    go_wp2_with fail
    refine (iRoV_no h hr hl hrl HV.out).mono ?_
    rintro e w1 ⟨rfl, b1⟩
    go_wp2_with fail
    go_ret
    exact ⟨ret_int (rtV_no HV.out).symm, b1⟩
end Go.Proofs.Ytmnoidgfcpbmgaa
