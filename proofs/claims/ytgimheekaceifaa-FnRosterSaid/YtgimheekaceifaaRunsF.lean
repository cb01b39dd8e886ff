import Derived.Test.YtgimheekaceifaaRunsE
namespace Go.Proofs.Ytgimheekaceifaa
open Go.RowKit

/-- A block's cells. -/
def Blk (w : World) (b : Nat) (C : Array Value) (e : TypeId) : Prop := w.heap[b]? = some (.cells C e)
theorem Blk.lt {w : World} {b : Nat} {C : Array Value} {e : TypeId} (h : Blk w b C e) : b < w.heap.size := by
  rcases Nat.lt_or_ge b w.heap.size with h1 | h1
  · exact h1
  · unfold Blk at h; rw [Array.getElem?_eq_none h1] at h; cases h
theorem Blk.cell {w : World} {b : Nat} {C : Array Value} {e : TypeId} (h : Blk w b C e) (k : Nat) : w.cell? ⟨b, k, none⟩ = C[k]? := by
  unfold Blk at h; unfold World.cell?; rw [h]; rfl
theorem Blk.frozen {w : World} {b : Nat} {C : Array Value} {e : TypeId} (h : Blk w b C e) (k : Nat) : w.frozen? ⟨b, k, none⟩ = false := by
  unfold Blk at h; unfold World.frozen?; rw [h]; simp
theorem Blk.new (w : World) (C : Array Value) (e : TypeId) : Blk (w.alloc (.cells C e)) w.heap.size C e := by
  show (w.heap.push _)[w.heap.size]? = _
  simp
theorem Blk.set {w : World} {b : Nat} {C : Array Value} {e : TypeId} (h : Blk w b C e) (k : Nat) (v : Value) : Blk (w.setCell ⟨b, k, none⟩ v) b (C.setIfInBounds k v) e := by
  have hb := h.lt
  unfold Blk at h ⊢
  show (w.heap.modify b _)[b]? = _
  rw [Array.getElem?_modify, if_pos rfl, h]
  rfl
theorem Blk.below {w w' : World} {b : Nat} {C : Array Value} {e : TypeId} (h : Blk w b C e) (hb : Below w.heap.size w w') : Blk w' b C e := by
  have := h.lt
  unfold Blk at *
  rw [hb.block b this]; exact h
theorem Blk.drewN {w : World} {b : Nat} {C : Array Value} {e : TypeId} (h : Blk w b C e) (n : Nat) : Blk (w.drewN n) b C e := h

open Classical in
noncomputable def cB (xs : List Rn) (rest : Int) (ro : List Int) (i : Nat) (t : Int) : Bool := decide (Can xs rest ro i t)
theorem cB_yes {xs : List Rn} {rest : Int} {ro : List Int} {i : Nat} {t : Int} (h : Can xs rest ro i t) : cB xs rest ro i t = true := by simp [cB, h]
theorem cB_no {xs : List Rn} {rest : Int} {ro : List Int} {i : Nat} {t : Int} (h : ¬ Can xs rest ro i t) : cB xs rest ro i t = false := by simp [cB, h]

set_option maxRecDepth 100000 in
set_option maxHeartbeats 1000000 in
theorem sCan (A R : Option Addr) (c rc : Nat) (xs : List Rn) (rest : Int) (ro : List Int) (i : Nat) (t : Int) (w : World) (h : Cells w A (fr xs)) (hr : Cells w R ro) (hv : RValid xs) (r0 : 0 ≤ rest) (r1 : rest ≤ 1000) (hi : i < xs.length) (hil : i ≤ ro.length) (hrl : ro.length ≤ 1048576) :
    Calls Try.prog 81 #[.slice A xs.length c, .int .i64 rest, .slice R ro.length rc, .int .i64 i, .int .i64 t] w fun e w' => e = .returned (.bool (cB xs rest ro i t)) ∧ Below w.heap.size w w' := by
  have HV := Lib.hid hv
  have h12 := hv.1
  clear hv
  go_enter Try.func81, Try.ntmps81
  go_wp2_with fail
  go_loopw [11] (fun i' wr => ∃ k : Nat, k ≤ i ∧ i' = .int .i64 k ∧ (∀ j, j < k → ri ro j = t → re xs j + rest ≤ rs xs i) ∧ Below w.heap.size w wr) (fun i' _ => i - (intOf i').toNat)
  case atStart => exact ⟨0, Nat.zero_le _, rfl, fun j hj => by omega, Below.refl _ _⟩
  case round =>
    obtain ⟨k, hk, rfl, hok, hbel⟩ := hrel
    have HOK := Lib.hid hok
    clear hok
    by_cases hlt : k < i
    · obtain ⟨b, o, hA, hb, -, c1⟩ := h.at2 (i := k) (by omega)
      obtain ⟨b', o', hA', -, c0, -⟩ := h.at2 (i := i) hi
      rw [hA] at hA'
      injection hA' with hA'
      injection hA' with hA1 hA2
      subst hA1 hA2
      obtain ⟨g, q, hR, hg, z0⟩ := hr.at1 (i := k) (by omega)
      have d0 := (hbel.cell (p := ⟨b, o + i * 2, none⟩) hb).trans c0
      have d1 := (hbel.cell (p := ⟨b, o + k * 2 + 1, none⟩) hb).trans c1
      have d2 := (hbel.cell (p := ⟨g, q + k, none⟩) hg).trans z0
      subst hA hR
      obtain ⟨u0, u1, u2⟩ := HV.out.times (i := k) (by omega)
      obtain ⟨v0, v1, v2⟩ := HV.out.times (i := i) hi
      clear c0 c1 z0
      have i1 : (k : Int) < (xs.length : Int) := by omega
      have i2 : (k : Int) < (ro.length : Int) := by omega
      have i3 : (i : Int) < (xs.length : Int) := by omega
      have e5 : IntKind.i64.wrap (re xs k + rest) = re xs k + rest := IntWalk.i64_in _ (by omega)
      by_cases q1 : ri ro k = t
      · have be : (ri ro k == t) = true := by simp [q1]
        have HQ := Lib.hid q1
        clear q1
        by_cases q2 : rs xs i < re xs k + rest
        · go_wp2_with fail
          go_quiet (fail)
          go_wp2_with fail
          go_ret
          exact ⟨ret_bool (cB_no fun hc => by have := hc k hlt HQ.out; omega).symm, below_drewN' hbel _⟩
        · go_wp2_with fail
          go_quiet (fail)
          go_wp2_with fail
          refine ⟨⟨k + 1, by omega, by go_num, ?_, below_drewN' hbel _⟩, by simp [intOf]; omega⟩
          intro j hj he
          rcases Nat.lt_or_ge j k with g1 | g1
          · exact HOK.out j g1 he
          · obtain rfl : j = k := by omega
            omega
      · have be : (ri ro k == t) = false := by simp [q1]
        have HQ := Lib.hid q1
        clear q1
        go_wp2_with fail
        go_quiet (fail)
        go_wp2_with fail
        refine ⟨⟨k + 1, by omega, by go_num, ?_, below_drewN' hbel _⟩, by simp [intOf]; omega⟩
        intro j hj he
        rcases Nat.lt_or_ge j k with g1 | g1
        · exact HOK.out j g1 he
        · obtain rfl : j = k := by omega
          exact absurd he HQ.out
    · go_wp2_with fail
      go_ret
      have : k = i := by omega
      subst this
      exact ⟨ret_bool (cB_yes HOK.out).symm, hbel⟩

/-- A roster of runs with a rest. -/
def RoValid (xs : List Rn) (rest : Int) (ro : List Int) : Prop := ROk xs rest ∧ ro.length = xs.length ∧ ∀ i, i < xs.length → 0 ≤ ri ro i ∧ ri ro i ≤ 11 ∧ Can xs rest ro i (ri ro i)
open Classical in
noncomputable def roB (xs : List Rn) (rest : Int) (ro : List Int) : Bool := decide (RoValid xs rest ro)
theorem roB_yes {xs : List Rn} {rest : Int} {ro : List Int} (h : RoValid xs rest ro) : roB xs rest ro = true := by simp [roB, h]
theorem roB_no {xs : List Rn} {rest : Int} {ro : List Int} (h : ¬ RoValid xs rest ro) : roB xs rest ro = false := by simp [roB, h]

set_option maxRecDepth 100000 in
set_option maxHeartbeats 1000000 in
theorem sRoV_any (A R : Option Addr) (c rc : Nat) (xs : List Rn) (rest : Int) (ro : List Int) (w : World) (h : Cells w A (fr xs)) (hr : Cells w R ro) (hl : xs.length ≤ 1048576) (hrl : ro.length ≤ 1048576) :
    Calls Try.prog 42 #[.slice A xs.length c, .int .i64 rest, .slice R ro.length rc] w fun e w' => e = .returned (.bool (roB xs rest ro)) ∧ Below w.heap.size w w' := by
  by_cases g1 : ROk xs rest
  · have HG := Lib.hid g1
    obtain ⟨-, r0, r1⟩ := g1
    by_cases g2 : ro.length = xs.length
    · have HL := Lib.hid g2
      have n1 : ((ro.length : Int) != (xs.length : Int)) = false := by simp [g2]
      have h12 := HG.out.1.1
      clear g2
      go_enter Try.func42, Try.ntmps42
      go_wp2_with fail
      refine (sOk_yes h hl HG.out).mono ?_
      rintro e w1 ⟨rfl, b1⟩
      have s1 := h.below b1
      have t1 := hr.below b1
      clear h hr
      go_wp2_with fail
      go_loopw [7] (fun i' wr => ∃ k : Nat, k ≤ ro.length ∧ i' = .int .i64 k ∧ (∀ j, j < k → 0 ≤ ri ro j ∧ ri ro j ≤ 11 ∧ Can xs rest ro j (ri ro j)) ∧ Below w1.heap.size w1 wr) (fun i' _ => ro.length - (intOf i').toNat)
      case atStart => exact ⟨0, Nat.zero_le _, rfl, fun j hj => by omega, Below.refl _ _⟩
      case round =>
        obtain ⟨k, hk, rfl, hok, hbel⟩ := hrel
        have HOK := Lib.hid hok
        clear hok
        by_cases hlt : k < ro.length
        · obtain ⟨g, q, hR, hg, z0⟩ := t1.at1 hlt
          have d2 := (hbel.cell (p := ⟨g, q + k, none⟩) hg).trans z0
          have s2 := s1.below hbel
          have t2 := t1.below hbel
          subst hR
          clear z0
          go_wp2_with fail
          by_cases q1 : 0 ≤ ri ro k ∧ ri ro k ≤ 11
          · refine (inT _ _ _ _ q1.1 q1.2).mono ?_
            rintro e w2 ⟨rfl, rfl⟩
            go_wp2_with fail
            refine (sCan _ _ _ _ xs _ ro k _ _ s2 t2 HG.out.1 r0 (by omega) (by have := HL.out; omega) (by omega) hrl).mono ?_
            rintro e w2 ⟨rfl, b2⟩
            by_cases q2 : Can xs rest ro k (ri ro k)
            · have ec := cB_yes q2
              have HQ := Lib.hid q2
              clear q2
              go_wp2_with fail
              refine ⟨⟨k + 1, by omega, by go_num, ?_, hbel.trans (b2.mono hbel.size)⟩, by simp [intOf]; omega⟩
              intro j hj
              rcases Nat.lt_or_ge j k with f1 | f1
              · exact HOK.out j f1
              · obtain rfl : j = k := by omega
                exact ⟨q1.1, q1.2, HQ.out⟩
            · have ec := cB_no q2
              have HQ := Lib.hid q2
              clear q2
              go_wp2_with fail
              go_ret
              exact ⟨ret_bool (roB_no fun hv => HQ.out (hv.2.2 k (by have := HL.out; omega)).2.2).symm, b1.trans ((hbel.trans (b2.mono hbel.size)).mono b1.size)⟩
          · refine (inF _ _ _ _ (by omega)).mono ?_
            rintro e w2 ⟨rfl, rfl⟩
            go_wp2_with fail
            go_ret
            exact ⟨ret_bool (roB_no fun hv => q1 (by have h9 := HL.out; exact ⟨(hv.2.2 k (by omega)).1, (hv.2.2 k (by omega)).2.1⟩)).symm, b1.trans (hbel.mono b1.size)⟩
        · go_wp2_with fail
          go_ret
          have : k = ro.length := by omega
          subst this
          exact ⟨ret_bool (roB_yes ⟨HG.out, HL.out, fun i hi => HOK.out i (by have := HL.out; omega)⟩).symm, b1.trans (hbel.mono b1.size)⟩
    · have n1 : ((ro.length : Int) != (xs.length : Int)) = true := by simp; omega
      have H := Lib.hid (roB_no (xs := xs) (rest := rest) (ro := ro) fun hv => g2 hv.2.1)
      go_enter Try.func42, Try.ntmps42
      go_wp2_with fail
      refine (sOk_yes h hl HG.out).mono ?_
      rintro e w1 ⟨rfl, b1⟩
      go_wp2_with fail
      go_ret
      exact ⟨ret_bool H.out.symm, b1⟩
  · have H := Lib.hid (roB_no (xs := xs) (rest := rest) (ro := ro) fun hv => g1 hv.1)
    go_enter Try.func42, Try.ntmps42
    go_wp2_with fail
    refine (sOk_no h hl g1).mono ?_
    rintro e w1 ⟨rfl, b1⟩
    go_wp2_with fail
    go_ret
    exact ⟨ret_bool H.out.symm, b1⟩
end Go.Proofs.Ytgimheekaceifaa
