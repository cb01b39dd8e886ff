import Derived.Test.YtaajombljiiigaaRoadsG
namespace Go.Proofs.Ytaajombljiiigaa
open Go.RowKit

/-- The block of the one new road, behind other memory. -/
theorem news3 {w : World} {B : Nat} {r : Rd3} (hb : w.heap[B]? = some (.cells #[.int .i64 r.a, .int .i64 r.b, .int .i64 r.m] 36 (0, 0))) :
    ∀ j u, [Value.int .i64 r.a, Value.int .i64 r.b, Value.int .i64 r.m][j]? = some u → w.cell? ((⟨B, 0, none⟩ : Addr).add j) = some u :=
  World.news_of_block (cs := #[.int .i64 r.a, .int .i64 r.b, .int .i64 r.m]) hb

theorem heap2 (w : World) (o o' : Obj) : ((w.alloc o).alloc o').drew.heap[w.heap.size + 1]? = some o' := by
  have := heap_alloc_new (w.alloc o) o'
  show ((w.alloc o).alloc o').heap[w.heap.size + 1]? = some o'
  simpa using this
theorem heap3 (w : World) (o o' : Obj) : ((w.alloc o).alloc o').drew.heap[w.heap.size]? = some o := by
  show ((w.alloc o).alloc o').heap[w.heap.size]? = some o
  rw [Below.heap_alloc _ _ _ (by simp)]
  exact heap_alloc_new w o

set_option maxRecDepth 100000 in
set_option maxHeartbeats 4000000 in
theorem sDA_any (n : Int) (ad : Addr) (c : Nat) (xs : List Rd3) (r : Rd3) (w : World) (h : Cells w (some ad) (fd xs)) (hl : xs.length ≤ 1048576) :
    Calls Try.prog 19 #[.int .i64 n, .slice (some ad) xs.length c, .agg #[.int .i64 r.a, .int .i64 r.b, .int .i64 r.m]] w (DPair (daL n xs r) (daB n xs r) w) := by
  obtain ⟨i0, hi0, hz0, hz1, hz2⟩ := info_parts road_info
  go_enter Try.func19, Try.ntmps19
  go_wp2_with fail
  obtain ⟨w1, hw1⟩ : ∃ w1, w1 = w.alloc (.cells #[.int .i64 r.a, .int .i64 r.b, .int .i64 r.m] 36) := ⟨_, rfl⟩
  have B1 := Lib.hid (show Below w.heap.size w w1 by rw [hw1]; exact (Below.refl _ _).alloc (Nat.le_refl _) _)
  have BX := Lib.hid (show BoxI w1 w.heap.size [r.a, r.b, r.m] by rw [hw1]; exact BoxI.new3 w _ _ _ _)
  have C1 := Lib.hid (show Cells w1 (some ad) (fd xs) by rw [hw1]; exact h.alloc _)
  rw [← hw1]
  clear hw1 h
  have hs1 := B1.out.size
  have X0 := Lib.hid BX.out
  have E0 := Lib.hid (DOwn.empty w1 w1.heap.size (Nat.le_refl _))
  have D0 := Lib.hid (Below.refl w1.heap.size w1)
  have C0 := Lib.hid C1.out
  clear BX C1
  have hs2 : w.heap.size < w1.heap.size := X0.out.1
  have EE := Lib.hid (show DOwn ((w1.alloc (.cells #[.int .i64 r.a, .int .i64 r.b, .int .i64 r.m] 36)).alloc (.cells #[] 36)) w1.heap.size (some ⟨w1.heap.size + 1, 0, none⟩) 0 [] by
    have k := DOwn.empty (w1.alloc (.cells #[.int .i64 r.a, .int .i64 r.b, .int .i64 r.m] 36)) w1.heap.size (by simp)
    rwa [World.size_alloc] at k)
  go_region_held3 (fun W => W.cell? ⟨w.heap.size, 0, none⟩ = some (.int .i64 r.a) ∧ W.cell? ⟨w.heap.size, 1, none⟩ = some (.int .i64 r.b) ∧ W.cell? ⟨w.heap.size, 2, none⟩ = some (.int .i64 r.m))
    (first | exact X3.out.three | exact X1.out.three | exact (X1.out.below ((Below.refl _ _).alloc (Nat.le_refl _) _)).three | exact (X0.out.below (Below.refl _ _).drew).three | exact (X0.out.below (((Below.refl _ _).alloc (Nat.le_refl _) _).drew)).three | exact (X0.out.below ((((Below.refl _ _).alloc (Nat.le_refl _) _).alloc (by simp) _).drew)).three)
    (first
      | (have hh := K1.out; clear hh; refine step_append_own (by rfl) _ _ _ (by rfl) w1.heap.size 36 i0 _ 3 24 Try.underlying25 hi0 hz0 hz1 hz2 rfl (by omega) _ (0 + xs.length) _ (by rfl) (K1.out.1.alloc _) ⟨w2.heap.size, 0, none⟩ 1 1 [.int .i64 r.a, .int .i64 r.b, .int .i64 r.m] (by rfl) rfl (news3 (heap_alloc_new w2 _)) (one3 _ _ _) (by unfold maxLen; omega) (by omega) (K1.out.2.alloc K1.out.2.size _).size ?_; intro v2 w3 o2 g2; have Z := Lib.hid (And.intro o2 ((K1.out.2.alloc K1.out.2.size _).grown g2 (K1.out.2.alloc K1.out.2.size _).size (fun q hq => (K1.out.1.lt q hq).1))); have X3 := Lib.hid ((X1.out.below ((Below.refl _ _).alloc (Nat.le_refl _) _)).kept g2 (fun e => by have := (K1.out.1.lt _ e.symm).1; omega)); clear o2 g2)
      | (have hh := K2.out; clear hh; refine step_append_own (by rfl) _ _ _ (by rfl) w1.heap.size 36 i0 _ 3 24 Try.underlying25 hi0 hz0 hz1 hz2 rfl (by omega) _ (0 + xs.length) _ (by rfl) K2.out.1 ⟨w1.heap.size + 1, 0, none⟩ 1 1 [.int .i64 r.a, .int .i64 r.b, .int .i64 r.m] (by rfl) rfl (news3 H2.out) (one3 _ _ _) (by unfold maxLen; omega) (by omega) K2.out.2.size ?_; intro v2 w3 o2 g2; have Z := Lib.hid (And.intro o2 (K2.out.2.grown g2 K2.out.2.size (fun q hq => (K2.out.1.lt q hq).1))); have X3 := Lib.hid (X1.out.kept g2 (fun e => by have := (K2.out.1.lt _ e.symm).1; omega)); clear o2 g2)
      | (have hh := K3.out; clear hh; refine step_append_own (by rfl) _ _ _ (by rfl) w1.heap.size 36 i0 _ 3 24 Try.underlying25 hi0 hz0 hz1 hz2 rfl (by omega) _ (0 + xs.length) _ (by rfl) K3.out.1 ⟨w1.heap.size, 0, none⟩ 1 1 [.int .i64 r.a, .int .i64 r.b, .int .i64 r.m] (by rfl) rfl (news3 H3.out) (one3 _ _ _) (by unfold maxLen; omega) (by omega) K3.out.2.size ?_; intro v2 w3 o2 g2; have Z := Lib.hid (And.intro o2 (K3.out.2.grown g2 K3.out.2.size (fun q hq => (K3.out.1.lt q hq).1))); have X3 := Lib.hid (X1.out.kept g2 (fun e => by have := (K3.out.1.lt _ e.symm).1; omega)); clear o2 g2)
      | (refine step_append_own (by rfl) _ _ _ (by rfl) w1.heap.size 36 i0 _ 3 24 Try.underlying25 hi0 hz0 hz1 hz2 rfl (by omega) _ 0 _ (by rfl) (World.ownsRow.drew E0.out) ad xs.length c ((fd xs).map (Value.int .i64)) (by rfl) (by rw [List.length_map, fd_len]) (((C0.out.alloc _).drewN 1).news ad rfl) (ints_one _) (by unfold maxLen; omega) (by omega) ((D0.out.alloc (Nat.le_refl _) _).drew).size ?_; intro v1 w2 o1 g1; have X1 := Lib.hid ((X0.out.below (((Below.refl _ _).alloc (Nat.le_refl _) _).drew)).kept g1 (fun e => by have := (World.ownsRow.lt E0.out _ e.symm).1; omega)); have K1 := Lib.hid (And.intro o1 (((D0.out.alloc (Nat.le_refl _) _).drew).grown g1 ((D0.out.alloc (Nat.le_refl _) _).drew).size (fun q hq => (World.ownsRow.lt E0.out q hq).1))); clear o1 g1)
      | (refine step_append_own (by rfl) _ _ _ (by rfl) w1.heap.size 36 i0 _ 3 24 Try.underlying25 hi0 hz0 hz1 hz2 rfl (by omega) _ 0 _ (by rfl) (World.ownsRow.drew (World.ownsRow.alloc E0.out _)) ad xs.length c ((fd xs).map (Value.int .i64)) (by rfl) (by rw [List.length_map, fd_len]) ((((C0.out.alloc _).alloc _).drewN 1).news ad rfl) (ints_one _) (by unfold maxLen; omega) (by omega) (((D0.out.alloc (Nat.le_refl _) _).alloc (by simp) _).drew).size ?_; intro v1 w2 o1 g1; have X1 := Lib.hid ((X0.out.below ((((Below.refl _ _).alloc (Nat.le_refl _) _).alloc (by simp) _).drew)).kept g1 (fun e => by have := (World.ownsRow.lt E0.out _ e.symm).1; omega)); have H2 := Lib.hid ((g1.block (w1.heap.size + 1) (by show w1.heap.size + 1 < ((w1.alloc _).alloc _).heap.size; simp) (fun e => by have e' : some (w1.heap.size + 1) = some w1.heap.size := e; injection e' with e'; omega)).trans (heap2 _ _ _)); have K2 := Lib.hid (And.intro o1 ((((D0.out.alloc (Nat.le_refl _) _).alloc (by simp) _).drew).grown g1 (((D0.out.alloc (Nat.le_refl _) _).alloc (by simp) _).drew).size (fun q hq => (World.ownsRow.lt E0.out q hq).1))); clear o1 g1)
      | (refine step_append_own (by rfl) _ _ _ (by rfl) w1.heap.size 36 i0 _ 3 24 Try.underlying25 hi0 hz0 hz1 hz2 rfl (by omega) _ 0 _ (by rfl) (World.ownsRow.drew EE.out) ad xs.length c ((fd xs).map (Value.int .i64)) (by rfl) (by rw [List.length_map, fd_len]) ((((C0.out.alloc _).alloc _).drewN 1).news ad rfl) (ints_one _) (by unfold maxLen; omega) (by omega) (((D0.out.alloc (Nat.le_refl _) _).alloc (by simp) _).drew).size ?_; intro v1 w2 o1 g1; have X1 := Lib.hid ((X0.out.below ((((Below.refl _ _).alloc (Nat.le_refl _) _).alloc (by simp) _).drew)).kept g1 (fun e => by have := (World.ownsRow.lt EE.out _ e.symm).1; omega)); have H3 := Lib.hid ((g1.block w1.heap.size (by show w1.heap.size < ((w1.alloc _).alloc _).heap.size; simp; omega) (fun e => by have e' : some w1.heap.size = some (w1.heap.size + 1) := e; injection e' with e'; omega)).trans (heap3 _ _ _)); have K3 := Lib.hid (And.intro o1 ((((D0.out.alloc (Nat.le_refl _) _).alloc (by simp) _).drew).grown g1 (((D0.out.alloc (Nat.le_refl _) _).alloc (by simp) _).drew).size (fun q hq => (World.ownsRow.lt EE.out q hq).1))); clear o1 g1))
  all_goals
    have Z1 := Z.out.1
    obtain ⟨A', c', e2⟩ := own_formI Z1
    subst e2
    obtain ⟨ts, hts⟩ : ∃ ts, ts = xs ++ [r] := ⟨_, rfl⟩
    have O3 := Lib.hid (show DOwn w3 w.heap.size A' c' ts by
      have e : (fd ts).map (Value.int .i64) = (fd []).map (Value.int .i64) ++ (fd xs).map (Value.int .i64) ++ [.int .i64 r.a, .int .i64 r.b, .int .i64 r.m] := by
        rw [hts, fd_append]; simp [fd]
      have el : 0 + xs.length + 1 = ts.length := by rw [hts]; simp
      rw [el] at Z1
      unfold DOwn
      rw [e]
      exact own_base Z1 hs1)
    have B3 := Lib.hid (B1.out.trans (Z.out.2.mono hs1))
    have HT := Lib.hid hts
    have la : ts.length ≤ 2000000 := by rw [hts]; simp; omega
    have el : 0 + xs.length + 1 = ts.length := by rw [hts]; simp
    rw [el]
    clear Z Z1 hts el
    go_wp2_with fail
    by_cases hv2 : DValid n ts
    · have HV2 := Lib.hid hv2
      clear hv2
      refine (sDV_big n _ _ ts _ O3.out.cells la).mono ?_
      rintro e w4 ⟨rfl, b4⟩
      rw [dvB_yes HV2.out]
      have R2 := Lib.hid (And.intro (O3.out.below b4) (B3.out.trans (b4.mono B3.out.size)))
      have Y := Lib.hid (show DValid n (xs ++ [r]) from HT.out ▸ HV2.out)
      clear b4
      go_wp2_with fail
      go_ret2
      exact ⟨A', c', pair_ret (by rw [daL_yes Y.out, ← HT.out]) (by simp [daB_yes Y.out]), by rw [daL_yes Y.out, ← HT.out]; exact R2.out.1, R2.out.2⟩
    · have HV2 := Lib.hid hv2
      clear hv2
      refine (sDV_big n _ _ ts _ O3.out.cells la).mono ?_
      rintro e w4 ⟨rfl, b4⟩
      rw [dvB_no HV2.out]
      have R2 := Lib.hid (B3.out.trans (b4.mono B3.out.size))
      have N := Lib.hid (show ¬ DValid n (xs ++ [r]) from fun g => HV2.out (HT.out ▸ g))
      clear b4
      go_wp2_with fail
      go_ret2
      exact ⟨_, _, pair_ret (by simp [daL_no N.out]) (by simp [daB_no N.out]), by rw [daL_no N.out]; exact DOwn.empty w4 _ R2.out.size, R2.out.alloc R2.out.size _⟩
end Go.Proofs.Ytaajombljiiigaa
