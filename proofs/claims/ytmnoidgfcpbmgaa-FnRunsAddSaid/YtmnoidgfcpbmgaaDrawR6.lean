import Derived.Test.YtmnoidgfcpbmgaaDrawR3
namespace Go.Proofs.Ytmnoidgfcpbmgaa
open Go.RowKit

/-- What the law gets of a draw of runs and a run. -/
def GotRA (w : World) (e : Ending) (w' : World) : Prop :=
  ∃ (g c : Nat) (xs : List Rn) (t u : Int), e = .returned (.tuple #[.slice (some ⟨g, 0, none⟩) xs.length c, .agg #[.int .i64 t, .int .i64 u]]) ∧ (Lit.int .i64 t).wf = true ∧ (Lit.int .i64 u).wf = true ∧ xs.length ≤ 7 ∧ xs.length ≤ c ∧ c ≤ 9223372036854775807 ∧ Cells w' (some ⟨g, 0, none⟩) (fr xs) ∧ Below w.heap.size w w'

theorem Bytes.below {w w' : World} {a : Option Addr} {len : Nat} (h : Bytes w a len) (hb : Below w.heap.size w w') : Bytes w' a len := by
  rcases h with h | ⟨ab, ao, ha, hl, hc⟩
  · exact .inl h
  · refine .inr ⟨ab, ao, ha, Nat.lt_of_lt_of_le hl hb.size, fun i hi => ?_⟩
    obtain ⟨v, v0, v1, hv⟩ := hc i hi
    exact ⟨v, v0, v1, (hb.cell (p := ⟨ab, ao + i, none⟩) hl).trans hv⟩

theorem drawRunsAdd (a : Option Addr) (len cap : Nat) (w : World) (h : Bytes w a len) (hc : len ≤ cap) (hm : cap ≤ maxLen) :
    Calls Try.prog 5 #[.slice a len cap] w (GotRA w) := by
  go_enter Try.func5, Try.ntmps5
  go_wp2_with fail
  obtain ⟨wa, hwa⟩ : ∃ wa, wa = w.alloc (.cells #[.int .i64 0, .int .i64 0] 25) := ⟨_, rfl⟩
  have BA := Lib.hid (show Below w.heap.size w wa by rw [hwa]; exact (Below.refl _ _).alloc (Nat.le_refl _) _)
  have HA : wa.heap[w.heap.size]? = some (.cells #[.int .i64 0, .int .i64 0] 25 (0, 0)) := by rw [hwa]; exact heap_alloc_new w _
  have sa : w.heap.size < wa.heap.size := by rw [hwa]; simp
  rw [← hwa]
  have h1 : Bytes wa a len := h.below BA.out
  clear hwa h
  refine (open_any a len cap wa h1 hc hm).mono ?_
  rintro e w1 ⟨rfl, hrd1, hb1, hs1⟩
  have S1 := Lib.hid hs1
  have B1 := Lib.hid hb1
  have H1 := Lib.hid ((hb1.block _ sa).trans HA)
  clear hs1 hb1 h1 HA
  go_wp2_with fail
  refine (l91Runs_any _ _ _ hrd1 (by omega)).mono ?_
  rintro e w2 ⟨g, c, xs, rfl, l7, c1, c2, hcl, hg, hrd2, hk2⟩
  have hs2 := hk2.size
  have C2 := Lib.hid hcl
  have K2 := Lib.hid hk2
  clear hcl hk2
  go_wp2_with fail
  refine (pick_any _ _ _ _ hrd2 (by omega) (by omega)).mono ?_
  rintro e w3 ⟨v3, rfl, v30, v31, hrd3, hon3⟩
  have C3 := Lib.hid (C2.out.keepR hon3.keeps (by have := S1.out; omega))
  have K3 := Lib.hid (K2.out.trans hon3.keeps)
  clear hon3 C2 K2
  go_wp2_with fail
  refine (pick_any _ _ _ _ hrd3 (by omega) (by omega)).mono ?_
  rintro e w4 ⟨v4, rfl, v40, v41, hrd4, hon4⟩
  have C4 := Lib.hid (C3.out.keepR hon4.keeps (by have := S1.out; omega))
  have K4 := Lib.hid (K3.out.trans hon4.keeps)
  have R := Lib.hid (And.intro C4.out (BA.out.trans ((B1.out.trans (K4.out.below (Nat.le_refl _) (by have := S1.out; omega))).mono BA.out.size)))
  have H4 := (K4.out.block w.heap.size (by have := S1.out; omega) (by omega)).trans H1.out
  obtain ⟨m0, f0⟩ := cells_of_block H4 0
  obtain ⟨m1, f1⟩ := cells_of_block H4 1
  clear hon4 C3 K3 C4 K4 B1 H4 H1 hrd2 hrd3 hrd4
  go_wp2_with fail
  have e1 := World.cell?_setCell_same _ _ (.int .i64 (v3 + v4)) (show (w4.setCell ⟨w.heap.size, 0, none⟩ (.int .i64 v3)).cell? ⟨w.heap.size, 1, none⟩ = some _ from (World.cell?_setCell_other _ _ _ _ (by simp)).trans m1)
  have e0 : ((w4.setCell ⟨w.heap.size, 0, none⟩ (.int .i64 v3)).setCell ⟨w.heap.size, 1, none⟩ (.int .i64 (v3 + v4))).cell? ⟨w.heap.size, 0, none⟩ = some (.int .i64 v3) := (World.cell?_setCell_other _ _ _ _ (by simp)).trans (World.cell?_setCell_same _ _ _ m0)
  have RR := Lib.hid (And.intro (show Cells ((w4.setCell ⟨w.heap.size, 0, none⟩ (.int .i64 v3)).setCell ⟨w.heap.size, 1, none⟩ (.int .i64 (v3 + v4))) (some ⟨g, 0, none⟩) (fr xs) from R.out.1.keep (by simp [World.setCell]) (fun x o hx _ => by injection hx with hx; injection hx with hx; rw [Below.heap_setCell _ _ _ _ (by have := S1.out; show x ≠ w.heap.size; omega), Below.heap_setCell _ _ _ _ (by have := S1.out; show x ≠ w.heap.size; omega)])) (((R.out.2).setCell (p := ⟨w.heap.size, 0, none⟩) (Nat.le_refl _) (.int .i64 v3)).setCell (p := ⟨w.heap.size, 1, none⟩) (Nat.le_refl _) (.int .i64 (v3 + v4))))
  generalize (w4.setCell ⟨w.heap.size, 0, none⟩ (.int .i64 v3)).setCell ⟨w.heap.size, 1, none⟩ (.int .i64 (v3 + v4)) = W6 at e0 e1 RR ⊢
  exact bodyPost_ret (v := .tuple #[.slice (some ⟨g, 0, none⟩) xs.length c, .agg #[.int .i64 v3, .int .i64 (v3 + v4)]]) (by simp [results, Try.results5, go_sem, e0, e1]) rfl ⟨g, c, xs, _, _, rfl, WalkArith.wf_i64 (by omega), WalkArith.wf_i64 (by omega), l7, c1, c2, RR.out.1, RR.out.2⟩
end Go.Proofs.Ytmnoidgfcpbmgaa
