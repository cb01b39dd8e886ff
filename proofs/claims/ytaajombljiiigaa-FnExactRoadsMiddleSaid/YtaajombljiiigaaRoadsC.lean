import Derived.Test.YtaajombljiiigaaRoadsM
import Derived.Test.YtaajombljiiigaaRoadsB
namespace Go.Proofs.Ytaajombljiiigaa
open Go.RowKit

/-- What mapRoads leaves. -/
def MapPost (n : Int) (xs : List Rd3) (w : World) (e : Ending) (w' : World) : Prop :=
  Below w.heap.size w w' ∧ ((DValid n xs ∧ ∃ (b N : Nat) (bs : Nat → Nat), n = (N : Int) ∧ e = .returned (.tuple #[.map (some b), .bool true]) ∧ MB w' w.heap.size b N xs.length bs xs) ∨ (¬ DValid n xs ∧ e = .returned (.tuple #[.map none, .bool false])))

set_option maxRecDepth 100000 in
set_option maxHeartbeats 2000000 in
theorem iMap_any (n : Int) (A : Option Addr) (c : Nat) (xs : List Rd3) (w : World) (h : Cells w A (fd xs)) (hl : xs.length ≤ 1048576) :
    Calls Try.prog 31 #[.int .i64 n, .slice A xs.length c] w (MapPost n xs w) := by
  by_cases hv : 1 ≤ n ∧ n ≤ 8 ∧ xs.length ≤ 16
  · obtain ⟨n1, n8, h16⟩ := hv
    obtain ⟨N, rfl⟩ := Int.eq_ofNat_of_zero_le (show 0 ≤ n by omega)
    have m1 : 1 ≤ N := by omega
    have m8 : N ≤ 8 := by omega
    have mk1 := fun W => run_makeMap (P := Try.prog) 45 W
    have mk2 := fun W => run_makeMap (P := Try.prog) 51 W
    go_enter Try.func31, Try.ntmps31
    go_wp2_with fail
    go_loopw [25] (fun i wr => ∃ t : Nat, t ≤ N ∧ i = .int .i64 t ∧ (∃ bs, MB wr w.heap.size w.heap.size t 0 bs xs) ∧ Below w.heap.size w wr) (fun i _ => N - (intOf i).toNat)
    case atStart => exact ⟨0, Nat.zero_le _, rfl, ⟨fun _ => 0, MB.made w (Nat.le_refl _) xs⟩, (Below.refl _ _).alloc (Nat.le_refl _) _⟩
    case round =>
      obtain ⟨t, ht, rfl, hm, hbel⟩ := hrel
      by_cases hlt : t < N
      · obtain ⟨bs, hM⟩ := hm
        obtain ⟨N0, D, q1, q2, q3, q4⟩ := hM.outer
        have HM := Lib.hid hM
        have HQ := Lib.hid (And.intro q3 q4)
        have HB := Lib.hid hbel
        have hs := hbel.size
        clear hM q3 q4 hbel
        go_wp2_with (first | (at_mapUpdate; refine wpList_mapUpdate_own _ rfl _ _ _ 45 rfl 3 51 keyI Try.underlying45 RB w.heap.size N0 D rfl (q1.alloc _) (by unfold maxLen; omega) _ _ (.int .i64 (t : Int)) rfl rfl (keyOfI (wf_town (t := t) (by omega))) (.lit (.int .i64 (wr.heap.size : Int))) [] rfl ?_; intro w1 o1 g1; have R1 := Lib.hid (And.intro o1 g1); clear o1 g1))
        exact ⟨⟨t + 1, by omega, by go_num, ⟨_, HM.out.town q2 q1 HQ.out.1 HQ.out.2 R1.out.1 R1.out.2⟩, (HB.out.alloc hs _).grown R1.out.2 (by simp; omega) (fun q hq => by injection hq with hq; omega)⟩, by simp [intOf]; omega⟩
      · obtain rfl : t = N := by omega
        obtain ⟨bs, hM⟩ := hm
        have HM := Lib.hid hM
        have HB := Lib.hid hbel
        clear hM hbel
        clear mk1 mk2
        go_wp2_with fail
        go_loopw [34] (fun i ws => ∃ k : Nat, k ≤ xs.length ∧ i = .int .i64 k ∧ (∀ j, j < k → dok t xs j) ∧ MB ws w.heap.size w.heap.size t k bs xs ∧ Below w.heap.size w ws) (fun i _ => xs.length - (intOf i).toNat)
        case atStart => exact ⟨0, Nat.zero_le _, rfl, fun j hj => by omega, HM.out, HB.out⟩
        case round =>
          obtain ⟨k, hk, rfl, hok, hM, hbel⟩ := hrel
          have HOK := Lib.hid hok
          have HB2 := Lib.hid hbel
          clear hok HM HB
          by_cases hkl : k < xs.length
          · obtain ⟨b, o, hA, hb, c0, c1, c2⟩ := (h.below hbel).at3 hkl
            subst hA
            have hs := hbel.size
            clear hbel
            have B1 := Lib.hid (HB2.out.alloc hs (.cells #[.int .i64 (ra xs k), .int .i64 (rb xs k), .int .i64 (rm xs k)] 36))
            have M1 := Lib.hid (hM.below ((Below.refl wr.heap.size wr).alloc (Nat.le_refl _) (.cells #[.int .i64 (ra xs k), .int .i64 (rb xs k), .int .i64 (rm xs k)] 36)))
            have HI := Lib.hid hM.inner
            clear hM
            by_cases p : 0 ≤ ra xs k ∧ ra xs k < rb xs k ∧ rb xs k < (t : Int) ∧ 1 ≤ rm xs k ∧ rm xs k ≤ 99
            · obtain ⟨p1, p2, p3, p4, p5⟩ := p
              have P := Lib.hid (And.intro p1 (And.intro p2 (And.intro p3 (And.intro p4 p5))))
              obtain ⟨x, hx⟩ := Int.eq_ofNat_of_zero_le p1
              obtain ⟨y, hy⟩ := Int.eq_ofNat_of_zero_le (show 0 ≤ rb xs k by omega)
              obtain ⟨m, hm⟩ : ∃ m, m = rm xs k := ⟨_, rfl⟩
              have HX := Lib.hid hx
              have HY := Lib.hid hy
              have HM2 := Lib.hid hm
              rw [hx] at c0 p1 p2
              rw [hy] at c1 p2 p3
              rw [← hm] at c2 p4 p5
              have BX := Lib.hid (BoxI.new3 wr (x : Int) (y : Int) m 36)
              rw [hx, hy, ← hm] at B1 M1
              have xt : x < t := by omega
              have yt : y < t := by omega
              have HBN := Lib.hid (show ∀ z, z < t → bs z ≠ wr.heap.size from fun z hz e => by
                have h1 := (HI.out z hz).lt
                omega)
              have L1 := M1.out.outer.look xt m8
              have L2 := (M1.out.inner x xt).look (z := (y : Int)) (wf_town (t := y) (by omega))
              clear hx hy hm
              by_cases q : lk xs x y k = none
              · rw [q] at L2
                obtain ⟨D1, o1, f1⟩ := M1.out.inner x xt
                obtain ⟨D2, o2, f2⟩ := M1.out.inner y yt
                have F1 := Lib.hid f1
                have F2 := Lib.hid f2
                have O1 := Lib.hid o1
                have O2 := Lib.hid o2
                have Q := Lib.hid q
                have bxy := Lib.hid (show bs x ≠ bs y from fun e => by have := (M1.out.apart x xt).2.2 y yt e; omega)
                clear q f1 f2 o1 o2
                go_wp2_with (first
                  | (at_mapUpdate; have hh := R1.out; clear hh; refine wpList_mapUpdate_own _ rfl _ _ _ 51 rfl 3 3 keyI Try.underlying51 RI (bs y) k D2 rfl (O2.out.kept R1.out.2 (fun e => bxy.out (by injection e with e; exact e.symm))) (by unfold maxLen; omega) _ _ (.int .i64 (x : Int)) rfl rfl (keyOfI (wf_town (t := x) (by omega))) (.lit (.int .i64 m)) [] (plainElem_int Try.underlying3 (WalkArith.wf_i64 (by omega))) ?_; intro w3 p2 g2; have R2 := Lib.hid (And.intro p2 g2); clear p2 g2)
                  | (at_mapUpdate; refine wpList_mapUpdate_own _ rfl _ _ _ 51 rfl 3 3 keyI Try.underlying51 RI (bs x) k D1 rfl O1.out (by unfold maxLen; omega) _ _ (.int .i64 (y : Int)) rfl rfl (keyOfI (wf_town (t := y) (by omega))) (.lit (.int .i64 m)) [] (plainElem_int Try.underlying3 (WalkArith.wf_i64 (by omega))) ?_; intro w2 p1 g1; have L3 := (M1.out.outer.kept g1 (fun e => (M1.out.apart x xt).2.1 (by injection e with e; exact e.symm))).look yt m8; obtain ⟨y0, y1, y2⟩ := (BX.out.kept g1 (fun e => HBN.out x xt (by injection e with e; exact e.symm))).three; have R1 := Lib.hid (And.intro p1 g1); clear p1 g1))
                refine ⟨⟨k + 1, by omega, by go_num, dok_succ HOK.out ?_, ?_, ?_⟩, by simp [intOf]; omega⟩
                · obtain ⟨u1, u2, u3, u4, u5⟩ := P.out
                  refine ⟨u1, u2, u3, u4, u5, ?_⟩
                  exact (lk_fresh HOK.out u2).1 (by rw [HX.out, HY.out]; exact Q.out)
                · have e1 := HM2.out
                  exact M1.out.road xt yt (by omega) HX.out HY.out O1.out F1.out (e1 ▸ R1.out.1) R1.out.2 O2.out F2.out (e1 ▸ R2.out.1) R2.out.2
                · exact (B1.out.grown R1.out.2 B1.out.size (fun q hq => by injection hq with hq; have := (M1.out.apart x xt).1; omega)).grown R2.out.2 (Nat.le_trans B1.out.size R1.out.2.size) (fun q hq => by injection hq with hq; have := (M1.out.apart y yt).1; omega)
              · obtain ⟨mm, hmm⟩ := Option.ne_none_iff_exists'.1 q
                rw [hmm] at L2
                have N := Lib.hid (show ¬ DValid (t : Int) xs from fun g => q (by rw [← HX.out, ← HY.out]; exact (lk_fresh HOK.out P.out.2.1).2 (g.2.2.2 k hkl).2.2.2.2.2))
                clear q hmm
                go_wp2_with fail
                go_ret2
                exact ⟨B1.out, .inr ⟨N.out, rfl⟩⟩
            · have N := Lib.hid (show ¬ DValid (t : Int) xs from fun g => p (by obtain ⟨u1, u2, u3, u4, u5, _⟩ := g.2.2.2 k hkl; exact ⟨u1, u2, u3, u4, u5⟩))
              by_cases a1 : ra xs k < 0
              · clear p
                go_wp2_with fail
                go_ret2
                exact ⟨B1.out, .inr ⟨N.out, rfl⟩⟩
              · by_cases a2 : rb xs k ≤ ra xs k
                · clear p
                  go_wp2_with fail
                  go_ret2
                  exact ⟨B1.out, .inr ⟨N.out, rfl⟩⟩
                · by_cases a3 : (t : Int) ≤ rb xs k
                  · clear p
                    go_wp2_with fail
                    go_ret2
                    exact ⟨B1.out, .inr ⟨N.out, rfl⟩⟩
                  · by_cases a4 : rm xs k < 1
                    · clear p
                      go_wp2_with fail
                      go_ret2
                      exact ⟨B1.out, .inr ⟨N.out, rfl⟩⟩
                    · have a5 : 99 < rm xs k := by omega
                      clear p
                      go_wp2_with fail
                      go_ret2
                      exact ⟨B1.out, .inr ⟨N.out, rfl⟩⟩
          · obtain rfl : k = xs.length := by omega
            have HM3 := Lib.hid hM
            clear hM hbel
            go_wp2_with fail
            go_ret2
            exact ⟨HB2.out, .inl ⟨⟨n1, n8, h16, HOK.out⟩, w.heap.size, t, bs, rfl, rfl, HM3.out⟩⟩
  · have N := Lib.hid (show ¬ DValid n xs from fun g => hv ⟨g.1, g.2.1, g.2.2.1⟩)
    by_cases a1 : n < 1
    · clear hv
      go_enter Try.func31, Try.ntmps31
      go_wp2_with fail
      go_ret2
      exact ⟨Below.refl _ _, .inr ⟨N.out, rfl⟩⟩
    · by_cases a2 : 8 < n
      · clear hv
        go_enter Try.func31, Try.ntmps31
        go_wp2_with fail
        go_ret2
        exact ⟨Below.refl _ _, .inr ⟨N.out, rfl⟩⟩
      · have a3 : 16 < xs.length := by omega
        have a4 : (16 : Int) < (xs.length : Int) := by omega
        clear hv
        go_enter Try.func31, Try.ntmps31
        go_wp2_with fail
        go_ret2
        exact ⟨Below.refl _ _, .inr ⟨N.out, rfl⟩⟩
end Go.Proofs.Ytaajombljiiigaa
