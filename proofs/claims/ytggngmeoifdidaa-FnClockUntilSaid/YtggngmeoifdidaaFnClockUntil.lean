/-
  For every input laws.FnClockUntil returns true and leaves its arguments as they were (Rows.FnClockUntilSaid). Condition: none beyond the given row.
-/
import Derived.Test.YtggngmeoifdidaaRows
import Derived.WalkKit
import Derived.ProofKit
import Derived.OpenShut
import Derived.ShutString
import Derived.ChangeOld
import Derived.Below
import Derived.Test.YtggngmeoifdidaaClockE
import Derived.Test.YtggngmeoifdidaaDrawU
namespace Go.Proofs.Ytggngmeoifdidaa.fnClockUntil
open Go.ChangeShapes Go.WideShapes Go.ChangeAt Go.RowKit
open Go.ChangeMaps (open_string shut_string)
set_option linter.unusedVariables false

theorem own : ownKnob Try.prog.godebug = none := by kernel_rfl
theorem laidOut : laidOutB Try.prog = true := by kernel_rfl

/-- WHAT THE WALK IS TOLD OF A SLICE OF INTEGERS THAT CAME IN: it is nil; or it leads to a row of 'cap' cells, the numbers 'zs' (the first 'len' are its elements, the rest its spare room), each fitting its kind. -/
def IsRow (k : IntKind) (w : World) (a : Option Addr) (len cap : Nat) (zs : List Int) : Prop :=
  (a = none ∧ len = 0 ∧ cap = 0 ∧ zs = []) ∨
  ∃ x, a = some x ∧ len ≤ cap ∧ cap ≤ maxLen ∧ zs.length = cap ∧ (∀ i, i < zs.length → w.cell? (x.add i) = some (.int k (zs.getD i 0))) ∧ ∀ n ∈ zs, (Lit.int k n).wf = true

set_option maxRecDepth 100000 in
set_option maxHeartbeats 1000000 in
theorem walk (a0 : Option Addr) (len0 cap0 : Nat) (z0 : List Int) (a1 : Option Addr) (len1 cap1 : Nat) (z1 : List Int) (w : World) (w0 : IsRow .u8 w a0 len0 cap0 z0) (w1 : IsRow .u8 w a1 len1 cap1 z1) :
    Calls Try.prog 7 #[.slice a0 len0 cap0, .slice a1 len1 cap1] w fun e w' => e = .returned (.bool true) ∧ Below w.heap.size w w' := by
  obtain ⟨hB, hc0, hm0⟩ := Bytes.of_row w0
  obtain ⟨-, hc1, hm1⟩ := Bytes.of_row w1
  clear w0 w1
  unfold maxLen at hm1
  by_cases hl : 1048576 < len0
  · go_enter Try.func7, Try.ntmps7
    go_wp2_with fail
    go_ret
    exact ⟨rfl, Below.refl _ _⟩
  · by_cases hl1 : 1048576 < len1
    · go_enter Try.func7, Try.ntmps7
      go_wp2_with fail
      go_ret
      exact ⟨rfl, Below.refl _ _⟩
    · have hl1' : len1 ≤ 1048576 := by omega
      have hl0' : len0 ≤ 1048576 := by omega
      clear hl hl1 hm1 hc1
      have hd : decide (len1 > 1048576) = false := by simp; omega
      go_enter Try.func7, Try.ntmps7
      go_wp2_with fail
      refine (drawClockUntil a0 len0 cap0 w hB hc0 hm0).mono ?_
      rintro e w1 ⟨f, t, rfl, hf0, hf1, ht0, ht1, hb1⟩
      by_cases hv : f < 0 ∨ 1440 ≤ f
      · go_wp2_with fail
        refine (iClockUntil_no _ _ _ (by omega)).mono ?_
        rintro e w2 ⟨rfl, rfl⟩
        go_wp2_with fail
        refine (sClockUntil_no _ _ _ (by omega)).mono ?_
        rintro e w2 ⟨rfl, rfl⟩
        go_wp2_with fail
        go_ret
        exact ⟨rfl, hb1⟩
      · have h1 : 0 ≤ f := by omega
        have h2 : f < 1440 := by omega
        have h4 : t < 1440 := by omega
        clear hv
        obtain ⟨c, hc⟩ : ∃ c : Int, c = (len1 : Int) * 7 % 1440 := ⟨_, rfl⟩
        have c1 : 0 ≤ c := by omega
        have c2 : c < 1440 := by omega
        have e1 : (t - f) % 1440 = 0 ∧ (f - t) % 1440 = 0 ∧ f = t ∨ 1 ≤ (t - f) % 1440 ∧ 1440 ≤ (t - f) % 1440 + (f - t) % 1440 ∧ (t - f) % 1440 + (f - t) % 1440 ≤ 1440 := by omega
        have e2 : (c - f) % 1440 + (t - c) % 1440 = (t - f) % 1440 ∨ (c - f) % 1440 + (t - c) % 1440 = (t - f) % 1440 + 1440 := by omega
        have HC := Lib.hid hc
        have E1 := Lib.hid e1
        have E2 := Lib.hid e2
        clear hc e1 e2
        have o1 : 0 ≤ (t - f) % 1440 := by omega
        have o2 : (t - f) % 1440 < 1440 := by omega
        have b1 : 0 ≤ (f - t) % 1440 := by omega
        have b2 : (f - t) % 1440 < 1440 := by omega
        have x1 : 0 ≤ (c - f) % 1440 := by omega
        have x2 : (c - f) % 1440 < 1440 := by omega
        have y1 : 0 ≤ (t - c) % 1440 := by omega
        have y2 : (t - c) % 1440 < 1440 := by omega
        go_wp2_with fail
        refine (iClockUntil_yes _ _ _ h1 h2 ht0 h4).mono ?_
        rintro e w2 ⟨rfl, rfl⟩
        go_wp2_with fail
        refine (sClockUntil_yes _ _ _ h1 h2 ht0 h4).mono ?_
        rintro e w2 ⟨rfl, rfl⟩
        go_wp2_with fail
        refine (iClockUntil_yes _ _ _ ht0 h4 h1 h2).mono ?_
        rintro e w2 ⟨rfl, rfl⟩
        go_wp2_with fail
        rw [← HC.out]
        refine (iClockUntil_yes _ _ _ h1 h2 c1 c2).mono ?_
        rintro e w2 ⟨rfl, rfl⟩
        go_wp2_with fail
        refine (iClockUntil_yes _ _ _ c1 c2 ht0 h4).mono ?_
        rintro e w2 ⟨rfl, rfl⟩
        have E1' := E1.out
        have E2' := E2.out
        clear HC E1 E2
        generalize (t - f) % 1440 = o at *
        generalize (f - t) % 1440 = b at *
        generalize (c - f) % 1440 = x at *
        generalize (t - c) % 1440 = y at *
        rcases E1' with ⟨p1, p2, p3⟩ | ⟨p1, p2, p3⟩ <;> rcases E2' with q | q
        · subst p1 p2 p3
          have q' : ((x + y == 0) : Bool) = true := by simp [q]
          clear q
          go_wp2_with fail
          go_ret
          exact ⟨rfl, hb1⟩
        · subst p1 p2 p3
          have q' : ((x + y == 0) : Bool) = false := by simp; omega
          have q'' : ((x + y == 1440) : Bool) = true := by simp; omega
          clear q
          go_wp2_with fail
          go_ret
          exact ⟨rfl, hb1⟩
        · have p4 : (o == 0) = false := by simp; omega
          have p5 : (o + b == 1440) = true := by simp; omega
          have q' : (x + y == o) = true := by simp [q]
          clear q
          go_wp2_with fail
          go_ret
          exact ⟨rfl, hb1⟩
        · have p4 : (o == 0) = false := by simp; omega
          have p5 : (o + b == 1440) = true := by simp; omega
          have q' : (x + y == o) = false := by simp; omega
          have q'' : (x + y == o + 1440) = true := by simp [q]
          clear q
          go_wp2_with fail
          go_ret
          exact ⟨rfl, hb1⟩

set_option maxRecDepth 100000 in
theorem lifted (os : Os) (started : os.Started) (H : Type) (enc : TypeId × Value → H) :
    ReturnsInHanded {} Try.checked os 7 .any (Rows.fnClockUntilSpec.pre6 enc Try.prog Try.f7 Rows.fnClockUntilRow.domain false) (Rows.fnClockUntilSpec.post enc Try.prog Try.f7 false true false false) := by
  refine returnsInHanded_of_change (C := Try.checked) own started (by kernel_rfl) Try.func7
    (ChangeSpec.witness6 (enc := enc) (C := Try.checked) false ⟨#[], #[.slice none 0 0, .slice none 0 0], []⟩ 8 (by kernel_rfl) (by kernel_rfl) (by kernel_rfl) (by kernel_rfl)) ?_
  intro W base args ds gs before hval0 hW hcnd _
  have hval : ∀ (j : Nat) t v, Try.f7.params[j]? = some t → args[j]? = some v → Value.okWide Try.prog W .any base t v := hval0
  have hW' := hW
  obtain ⟨p, q, hA0, hV, rfl, hfz, hnd⟩ := hW
  have hA : DataW.TrodAll enc Try.prog W 0 (fun _ => true) true Try.f7.params.toList args.toList ds p := hA0
  rw [Try.params7] at hA hval
  obtain ⟨v0, vs0, d0, ds0, p0, q0, hargs, rfl, rfl, h0, r0⟩ := trodAll_cons hA
  obtain ⟨v1, vs1, d1, ds1, p1, q1, rfl, rfl, rfl, h1, r1⟩ := trodAll_cons r0
  obtain ⟨rfl, rfl, rfl⟩ := trodAll_nil r1
  obtain rfl : args = #[v0, v1] := by cases args; simp_all
  obtain ⟨rfl, rfl⟩ := trodVars_none hV
  obtain ⟨a0, len0, cap0, rfl⟩ := okWide_slice Try.underlying29 (hval 0 29 v0 rfl rfl)
  have k0 := h0
  have lt0 : ∀ x ∈ p0, x.block < W.heap.size := by obtain ⟨m, hm⟩ := k0; exact DataW.trod_lt m _ _ _ hm
  obtain ⟨z0, w0⟩ : ∃ zs, IsRow .u8 W a0 len0 cap0 zs := by
    obtain ⟨fuel, hf⟩ := h0
    rcases open_ints Try.underlying29 Try.underlying5 (by kernel_rfl) hf with ⟨hcs, _⟩ | ⟨x, l, c, zs, hcs, _, hl, hm, hz, _, hcell, hwz⟩
    · simp [Value.cells] at hcs
      obtain ⟨rfl, rfl, rfl⟩ := hcs
      exact ⟨[], .inl ⟨rfl, rfl, rfl, rfl⟩⟩
    · simp [Value.cells] at hcs
      obtain ⟨rfl, rfl, rfl⟩ := hcs
      exact ⟨zs, .inr ⟨_, rfl, hl, hm, by simpa using hz, hcell, hwz⟩⟩
  obtain ⟨a1, len1, cap1, rfl⟩ := okWide_slice Try.underlying29 (hval 1 29 v1 rfl rfl)
  have k1 := h1
  have lt1 : ∀ x ∈ p1, x.block < W.heap.size := by obtain ⟨m, hm⟩ := k1; exact DataW.trod_lt m _ _ _ hm
  obtain ⟨z1, w1⟩ : ∃ zs, IsRow .u8 W a1 len1 cap1 zs := by
    obtain ⟨fuel, hf⟩ := h1
    rcases open_ints Try.underlying29 Try.underlying5 (by kernel_rfl) hf with ⟨hcs, _⟩ | ⟨x, l, c, zs, hcs, _, hl, hm, hz, _, hcell, hwz⟩
    · simp [Value.cells] at hcs
      obtain ⟨rfl, rfl, rfl⟩ := hcs
      exact ⟨[], .inl ⟨rfl, rfl, rfl, rfl⟩⟩
    · simp [Value.cells] at hcs
      obtain ⟨rfl, rfl, rfl⟩ := hcs
      exact ⟨zs, .inr ⟨_, rfl, hl, hm, by simpa using hz, hcell, hwz⟩⟩
  clear hA0 hval0
  refine (walk a0 len0 cap0 z0 a1 len1 cap1 z1 W w0 w1).mono fun e W' ⟨he, bel⟩ => ?_
  subst he
  exact ⟨_, rfl, _, _, _, [], _, [], hW', trodAll_mk1 (shut_bool Try.underlying4 _), (trodAll_cons_mk (Below.trod laidOut (by kernel_rfl) (of_decide_eq_true (by kernel_rfl)) k0 bel lt0) (trodAll_cons_mk (Below.trod laidOut (by kernel_rfl) (of_decide_eq_true (by kernel_rfl)) k1 bel lt1) trodAll_mk0)), rfl, bel.frame _, fun h => by cases h⟩

theorem over : Rows.fnClockUntilRow.holds Try.pinned (OpenSpec.ofChange Rows.fnClockUntilSpec) :=
  OpenClaim.holds_of_wide 7 Try.f7 rfl rfl rfl rfl rfl rfl rfl ⟨rfl, rfl, rfl, rfl, rfl⟩ rfl rfl rfl rfl rfl (by kernel_rfl) Try.func7 (by kernel_rfl)
    (of_decide_eq_true (by kernel_rfl)) (by unfold Func.isWrapper; first | (rw [if_pos (by decide +kernel)]; kernel_rfl) | (rw [if_neg (by decide +kernel)]; exact ⟨rfl, rfl⟩))
    (fun os started H enc _ => lifted os started H enc)

theorem proved : Rows.FnClockUntilSaid := over
#print axioms proved
end Go.Proofs.Ytggngmeoifdidaa.fnClockUntil
