import Derived.Test.YtmpkdnikkganlaaStopsQ
import Derived.Test.YtmpkdnikkganlaaClockT
import Derived.Test.YtmpkdnikkganlaaDrawK
import Derived.Test.YtmpkdnikkganlaaJoinS
import Derived.Deep.AppendLies
import Derived.Deep.RegionHeld3
import Derived.StillTailTactics
namespace Go.Proofs.Ytmpkdnikkganlaa
open Go.RowKit

/-- The five bytes of a clock, as numbers. -/
def cl (c : Int) : List Int := [48 + c / 60 / 10, 48 + c / 60 % 10, 46, 48 + c % 60 / 10, 48 + c % 10]
/-- The bytes of stop i. -/
def ws (xs : List St) (i : Nat) : List Int := [48 + tw xs i, 58] ++ cl (ar xs i % 1440) ++ [45] ++ cl (lv xs i % 1440)
/-- The bytes of the first k stops, with a space between. -/
def tl (xs : List St) : Nat → List Int
  | 0 => []
  | k + 1 => tl xs k ++ (if k = 0 then [] else [32]) ++ ws xs k
theorem tl_len (xs : List St) (k : Nat) : (tl xs k).length ≤ 14 * k := by
  induction k with
  | zero => simp [tl]
  | succ k ih => simp only [tl, List.length_append]; have : (ws xs k).length = 13 := rfl; split <;> simp <;> omega

/-- The words of the first k stops. -/
def wds (xs : List St) (k : Nat) : List ByteArray := (List.range k).map fun i => strOfNums (ws xs i)
theorem wds_len (xs : List St) (k : Nat) : (wds xs k).length = k := by simp [wds]
theorem wds_succ (xs : List St) (k : Nat) : wds xs (k + 1) = wds xs k ++ [strOfNums (ws xs k)] := by simp [wds, List.range_succ]

theorem son_list (xs : List Int) : (strOfNums xs).data.toList = xs.map fun n => UInt8.ofNat n.toNat := by simp [strOfNums]
theorem join_snoc (sep : List UInt8) : ∀ (ls : List (List UInt8)) (x : List UInt8), Lib.join (ls ++ [x]) sep = Lib.join ls sep ++ (if ls = [] then [] else sep) ++ x := by
  intro ls x
  cases ls with
  | nil => simp [Lib.join_one, Lib.join_nil]
  | cons y r =>
    rw [List.cons_append, Lib.join_cons, Lib.join_cons]
    simp [Lib.joinTail, List.append_assoc]
theorem join_wds (xs : List St) : ∀ k, Lib.join ((wds xs k).map (·.data.toList)) (strOfNums [32]).data.toList = (tl xs k).map fun n => UInt8.ofNat n.toNat := by
  intro k
  induction k with
  | zero => rfl
  | succ k ih =>
    rw [wds_succ, List.map_append, List.map_cons, List.map_nil, join_snoc, ih, son_list, son_list]
    simp only [tl, List.map_append]
    congr 1
    congr 1
    cases k with
    | zero => simp [wds]
    | succ k => simp [wds, List.range_succ]

theorem str_info : (Try.prog.info? 9).map (fun i => (i.zero, i.size, i.bytes)) = some (some (.string ByteArray.empty), 1, 16) := by kernel_rfl

theorem word_is (xs : List St) (k : Nat) : ((((strOfNums [48 + tw xs k] ++ strOfNums [58]) ++ ctext (ar xs k % 1440)) ++ strOfNums [45]) ++ ctext (lv xs k % 1440)) = strOfNums (ws xs k) := by
  unfold ctext ws cl
  rw [str_cat, str_cat, str_cat, str_cat]
  rfl

theorem cat_run (a b : ByteArray) (h : a.size ≤ 1000 ∧ b.size ≤ 1000) : ∃ s, s = a ++ b ∧ s.size ≤ a.size + b.size ∧ ∀ W, (Op.stringOp .add a b).run Try.prog W = .ok (.string s) W :=
  ⟨a ++ b, rfl, by rw [ByteArray.size_append]; exact Nat.le_refl _, fun W => run_string_add_sum W a b (by omega)⟩
theorem son_size (xs : List Int) : (strOfNums xs).size = xs.length := by simp [strOfNums, ByteArray.size]
theorem ctext_size (c : Int) : (ctext c).size = 5 := son_size _

theorem Keeps.grown' {r : Nat} {a w w' : World} {row : Option Nat} (h : Keeps r a w) (hg : w.grownBy w' row) (hrow : ∀ q, row = some q → q = r ∨ a.heap.size ≤ q) : Keeps r a w' :=
  ⟨hg.os.trans h.os, hg.tape.trans h.tape, hg.output.trans h.output, Nat.le_trans h.size hg.size, fun k hk hr => (hg.block k (Nat.lt_of_lt_of_le hk h.size) (fun e => by have := hrow k e.symm; omega)).trans (h.block k hk hr)⟩
/-- Where an owned row of words that is not empty lies. -/
theorem own_words {w : World} {B n : Nat} {v : Value} {ws : List ByteArray} (h : w.ownsRow B 9 1 v n (ws.map Value.string)) (h0 : 0 < n) :
    ∃ g cp, v = .slice (some ⟨g, 0, none⟩) n cp ∧ n ≤ cp ∧ (∀ (j : Nat) x, ws[j]? = some x → w.cell? ⟨g, 0 + j, none⟩ = some (.string x)) ∧ g < w.heap.size := by
  have hc := fun g hg => World.ownsRow.cells h (g := g) hg
  have hl := World.ownsRow.lt h
  rcases h.2 with ⟨_, h1⟩ | ⟨g, cap, cur, rfl, hb, hg, h2, h3, _⟩
  · omega
  · refine ⟨g, cap, rfl, h2, fun j x hx => ?_, (hl g rfl).2⟩
    have := hc g rfl j (.string x) (by rw [List.getElem?_map, hx]; rfl)
    rwa [Addr.add_lit] at this

/-- The rest of a node: its clocks and its next one. -/
def Node3 (W : World) (b : Nat) (a l : Int) (nx : Option Addr) : Prop := b < W.heap.size ∧ W.cell? ⟨b, 1, none⟩ = some (.int .i64 a) ∧ W.cell? ⟨b, 2, none⟩ = some (.int .i64 l) ∧ W.cell? ⟨b, 3, none⟩ = some (.pointer nx)
theorem Node3.below {W W' : World} {b : Nat} {a l : Int} {nx : Option Addr} (h : Node3 W b a l nx) (hb : Below W.heap.size W W') : Node3 W' b a l nx :=
  ⟨Nat.lt_of_lt_of_le h.1 hb.size, (hb.cell (p := ⟨b, 1, none⟩) h.1).trans h.2.1, (hb.cell (p := ⟨b, 2, none⟩) h.1).trans h.2.2.1, (hb.cell (p := ⟨b, 3, none⟩) h.1).trans h.2.2.2⟩
theorem Node3.alloc {W : World} {b : Nat} {a l : Int} {nx : Option Addr} (h : Node3 W b a l nx) (o : Obj) : Node3 (W.alloc o) b a l nx := h.below ((Below.refl _ _).alloc (Nat.le_refl _) o)
theorem Node3.grown {W W' : World} {b : Nat} {a l : Int} {nx : Option Addr} {row : Option Nat} (h : Node3 W b a l nx) (hg : W.grownBy W' row) (hne : some b ≠ row) : Node3 W' b a l nx :=
  have k := fun j : Nat => World.cell?_of_block (w := W) (a := ⟨b, j, none⟩) (hg.block b h.1 hne)
  ⟨Nat.lt_of_lt_of_le h.1 hg.size, (k 1).trans h.2.1, (k 2).trans h.2.2.1, (k 3).trans h.2.2.2⟩

set_option maxRecDepth 100000 in
set_option maxHeartbeats 1000000 in
theorem iText_yes (n : Int) (A : Option Addr) (c : Nat) (xs : List St) (w : World) (h : Cells w A (fl xs)) (hl : xs.length ≤ 1048576) (hv : Valid n xs) :
    Calls Try.prog 8 #[.int .i64 n, .slice A xs.length c] w fun e w' => e = .returned (.string (strOfNums (tl xs xs.length))) ∧ Below w.heap.size w w' := by
  obtain ⟨i0, hi0, hz0, hz1, hz2⟩ := info_parts str_info
  have HV := Lib.hid hv
  have h8 := hv.2.2.2.1
  clear hv
  go_enter Try.func8, Try.ntmps8
  go_wp2_with fail
  refine (link_yes (h.alloc _) hl HV.out).mono ?_
  rintro e w1 ⟨b0, rfl, hch, b1⟩
  have HCH := Lib.hid hch
  have hm1 : w1.heap[w.heap.size]? = some (.cells #[] 9) := by
    rw [b1.block w.heap.size (by simp)]
    show (w.heap.push _)[w.heap.size]? = _
    simp
  have O1 : w1.ownsRow w.heap.size 9 1 (.slice (some ⟨w.heap.size, 0, none⟩) 0 0) 0 [] := own_below (World.ownsRow_made w #[] 0 (Nat.le_refl _) (Nat.zero_le _) rfl) b1
  have HO := Lib.hid O1
  have HM := Lib.hid hm1
  have B1 := Lib.hid (((Below.refl w.heap.size w).alloc (Nat.le_refl _) (.cells #[] 9)).trans (b1.mono (by simp)))
  have s1 : w.heap.size < w1.heap.size := by have := b1.size; simp at this; omega
  clear hch O1 hm1 b1 h
  go_wp2_with fail
  go_loopg [5, 6] (xs.length + 1) (fun gk v p wr => ∃ k a', k ≤ xs.length ∧ gk = xs.length + 1 - k ∧ p = .pointer a' ∧ Chain w1 (xs.drop k) a' ∧ wr.ownsRow w.heap.size 9 1 v k ((wds xs k).map Value.string) ∧ (∀ q, v.ownBlock = some q → q = w.heap.size ∨ w1.heap.size ≤ q) ∧ Keeps w.heap.size w1 wr)
  case atStart => exact ⟨0, _, by omega, by omega, rfl, HCH.out.whole, HO.out, fun q hq => .inl (by injection hq with hq; exact hq.symm), Keeps.refl _ _⟩
  case round =>
    obtain ⟨k, a', hk, rfl, rfl, hch, hown, hq, hkp⟩ := hrel
    have HQ := Lib.hid hq
    have sk := hkp.size
    clear hq
    by_cases hlt : k < xs.length
    · obtain ⟨b, nx, rfl, c0, c1, c2, c3, hnx, hb⟩ := hch.head hlt
      have hne : b ≠ w.heap.size := by
        intro e
        subst e
        have : w1.cell? ⟨w.heap.size, 0, none⟩ = none := by unfold World.cell?; rw [HM.out]; rfl
        rw [this] at c0
        cases c0
      have d0 := (hkp.cell (p := ⟨b, 0, none⟩) hb hne).trans c0
      have d1 := (hkp.cell (p := ⟨b, 1, none⟩) hb hne).trans c1
      have d2 := (hkp.cell (p := ⟨b, 2, none⟩) hb hne).trans c2
      have d3 := (hkp.cell (p := ⟨b, 3, none⟩) hb hne).trans c3
      have HN := Lib.hid hnx
      have HK := Lib.hid hkp
      have HO2 := Lib.hid hown
      have hbr : b < wr.heap.size := by omega
      obtain ⟨t1, t2, t3⟩ := HV.out.times hlt
      obtain ⟨g1, g2, _⟩ := HV.out.2.2.2.2 k hlt
      have g3 := HV.out.2.1
      have kc := fun a => conv1 wr a
      have hb1 : b < w1.heap.size := hb
      have HNE := Lib.hid (show ∀ q : Option Nat, q = u5.ownBlock → some b ≠ q from fun q hq he => by subst hq; have := HQ.out b he.symm; omega)
      clear c0 c1 c2 c3 hnx hch hkp hown
      go_wp2_with fail
      obtain ⟨W5, hW5⟩ : ∃ W5, W5 = (wr.alloc (.cells #[.int .u8 (48 + tw xs k)] 5)) := ⟨_, rfl⟩
      have Q5 := Lib.hid (show Below wr.heap.size wr W5 by rw [hW5]; exact (Below.refl _ _).alloc (Nat.le_refl _) _)
      rw [← hW5]
      have D0 := Lib.hid Q5.out.drew
      have E0 := Lib.hid ((show Node3 wr b (ar xs k) (lv xs k) nx from ⟨hbr, d1, d2, d3⟩).below D0.out)
      obtain ⟨S1, e1, z1, r1⟩ := cat_run (strOfNums [48 + tw xs k]) { data := #[58] } ⟨by rw [son_size]; simp, by decide⟩
      rw [son_size] at z1
      have z1' : S1.size ≤ 2 := z1
      obtain ⟨S2, e2, z2, r2⟩ := cat_run S1 (ctext (ar xs k % 1440)) ⟨by omega, by rw [ctext_size]; omega⟩
      rw [ctext_size] at z2
      obtain ⟨S3, e3, z3, r3⟩ := cat_run S2 { data := #[45] } ⟨by omega, by decide⟩
      have z3' : S3.size ≤ S2.size + 1 := z3
      obtain ⟨S4, e4, z4, r4⟩ := cat_run S3 (ctext (lv xs k % 1440)) ⟨by omega, by rw [ctext_size]; omega⟩
      have HS := Lib.hid (show S4 = strOfNums (ws xs k) by rw [e4, e3, e2, e1]; exact word_is xs k)
      clear hW5 Q5 d0 d1 d2 d3 kc e1 e2 e3 e4 z1 z1' z2 z3 z3' z4
      go_region_held3 (fun W => W.cell? ⟨b, 1, none⟩ = some (.int .i64 (ar xs k)) ∧ W.cell? ⟨b, 2, none⟩ = some (.int .i64 (lv xs k)) ∧ W.cell? ⟨b, 3, none⟩ = some (.pointer nx)) (first | exact E3.out.2 | exact E2.out.2 | exact E1.out.2 | exact E0.out.2 | exact (E2.out.alloc _).2) (first
        | (have hh := E1.out; clear hh; go_at_call 18; refine (iClockText_yes (lv xs k) _ (by omega) (by omega)).mono ?_; rintro e v2 ⟨rfl, x2⟩; have D2 := Lib.hid (D1.out.trans (x2.mono D1.out.size)); have E2 := Lib.hid (E1.out.below x2); have O2 := Lib.hid (own_below HO2.out D2.out); have s2 := D2.out.size; clear x2)
        | (go_at_call 18; refine (iClockText_yes (ar xs k) _ (by omega) (by omega)).mono ?_; rintro e v1 ⟨rfl, x1⟩; have D1 := Lib.hid (D0.out.trans (x1.mono D0.out.size)); have E1 := Lib.hid (E0.out.below x1); clear x1)
        | (refine step_append_lies _ (by rfl) _ _ _ (by rfl) w.heap.size 9 i0 _ 1 16 Try.underlying42 hi0 hz0 hz1 hz2 rfl (by omega) _ _ _ (by rfl) (O2.out.alloc _) ⟨v2.heap.size, 0, none⟩ 1 1 [.string S4] (by rfl) (by rfl) (World.news_of_block (cs := #[.string S4]) (t := 9) (fr := (0, 0)) (heap_alloc_new v2 _)) (by simp [Value.oneCell']) (by omega) (by unfold maxLen; omega) (by omega) (by simp; omega) (v2.heap.size + 1) (by simp) ?_; intro gg cap w3 hown' hgrow hat hlt'; have E3 := Lib.hid ((E2.out.alloc _).grown hgrow (HNE.out _ rfl)); have R3 := Lib.hid (And.intro hown' (And.intro hgrow (And.intro hat hlt'))); clear hown' hgrow hat hlt'))
      obtain ⟨-, -, -, f3⟩ := E3.out
      have f3' := f3
      go_wp2_with fail
      obtain ⟨ow3, gr3, at3, lt3⟩ := R3.out
      go_roundg (xs.length + 1 - (k + 1))
      case rel =>
        refine ⟨k + 1, _, by omega, rfl, rfl, HN.out, ?_, ?_, ?_⟩
        · rw [wds_succ, List.map_append, ← HS.out]; exact ow3
        · intro q hq
          injection hq with hq
          subst hq
          rcases at3 with h | h
          · exact HQ.out _ h
          · right; have h1 := D2.out.size; show w1.heap.size ≤ gg; omega
        · exact ((HK.out.trans (Below.keeps D2.out)).alloc _).grown' gr3 (fun q hq => HQ.out q hq)
      case measure => omega
    · obtain rfl := hch.last (by omega)
      obtain rfl : k = xs.length := by omega
      have hx2 := HV.out.2.2.1
      obtain ⟨g, cp, rfl, hcap, hcell, hg⟩ := own_words hown (by omega)
      have B9 := Lib.hid (hkp.below (B := w.heap.size) (Nat.le_refl _) (by omega))
      have JJ := Lib.hid (Try.strings_Join g 0 cp (wds xs xs.length) { data := #[32] } wr hcell hg (by rw [wds_len]; omega) (by rw [wds_len]; exact hcap) (by
        have h := congrArg List.length (join_wds xs xs.length)
        have h2 := tl_len xs xs.length
        rw [List.length_map] at h
        exact Nat.le_trans (Nat.le_of_eq h) (by omega)))
      clear hkp hown hcell hch
      go_wp2_with fail
      have J2 := JJ.out
      rw [wds_len] at J2
      refine J2.mono ?_
      rintro e w9 ⟨rfl, b9⟩
      have B10 := Lib.hid (B1.out.trans (B9.out.trans (b9.mono (Nat.le_trans B1.out.size B9.out.size))))
      clear b9 JJ J2
      go_wp2_with fail
      go_ret
      exact ⟨ret_str (by have h := join_wds xs xs.length; apply ByteArray.ext; simp only [strOfNums]; rw [← h]; rfl), B10.out⟩
end Go.Proofs.Ytmpkdnikkganlaa
