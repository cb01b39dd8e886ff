import Derived.Test.YtaajombljiiigaaRoadsU
import Derived.StillTailTactics
import Derived.Deep.RegionHeld3
import Derived.Deep.AppendLies
namespace Go.Proofs.Ytaajombljiiigaa
open Go.RowKit

/-- append onto an owned row, as a step of a drawn region. -/
theorem step_append_own {P : Program} {w : World} {ops : Array Oper} {o : Oper} {a : Go.Act} {K : Go.Act → World → Prop} {Q : Exit → Go.Act → World → Prop} {E : Prop} (hgd : o.guard = none) (s x : Operand) (t : TypeId)
    (ho : o.op = .call { callee := .builtin .append, args := #[s, x], argTypes := #[t, t] })
    (base : Nat) (e : TypeId) (i : TypeInfo) (z : Value) (size bytes : Nat) (ht : P.underlying t = some (.slice e)) (hi : P.info? e = some i) (hz : i.zero = some z)
    (hsize : i.size = size) (hby : i.bytes = bytes) (hzs : z.cells.size = size) (hsz : 0 < size)
    (v : Value) (n : Nat) (xs : List Value) (hs : a.eval s = v) (hown : w.ownsRow base e size v n xs)
    (ad : Addr) (m c : Nat) (news : List Value) (hx : a.eval x = .slice (some ad) m c) (hl : news.length = m * size) (hnews : ∀ j u, news[j]? = some u → w.cell? (ad.add j) = some u) (h1 : ∀ u ∈ news, u.oneCell' = true)
    (h63 : n + m ≤ maxLen) (hbytes : (n + m) * bytes ≤ 140737488355328) (hbase : base ≤ w.heap.size)
    (h : ∀ v' w', w'.ownsRow base e size v' (n + m) (xs ++ news) → w.grownBy w' v.ownBlock → K (a.put o.dst v') w') :
    if Region.wanted o (yielded ops a.tmps) = true then Oper.wp P o a w K Q else E := by
  have hw : Region.wanted o (yielded ops a.tmps) = true := by simp [Region.wanted, hgd]
  rw [if_pos hw]
  exact wp_append_own w s x t ho base e i z size bytes ht hi hz hsize hby hzs hsz v n xs hs hown ad m c news hx hl hnews h1 h63 hbytes hbase fun v' w' h2 h3 _ => h v' w' h2 h3

theorem ra_left {xs ys : List Rd3} {i : Nat} (h : i < xs.length) : ra (xs ++ ys) i = ra xs i ∧ rb (xs ++ ys) i = rb xs i ∧ rm (xs ++ ys) i = rm xs i := by
  have e : (xs ++ ys).getD i rz3 = xs.getD i rz3 := by rw [List.getD_eq_getElem?_getD, List.getElem?_append_left h, List.getD_eq_getElem?_getD]
  unfold ra rb rm
  rw [e]
  exact ⟨rfl, rfl, rfl⟩
theorem dok_left {n : Int} {xs ys : List Rd3} {i : Nat} (h : i < xs.length) : dok n (xs ++ ys) i ↔ dok n xs i := by
  unfold dok
  obtain ⟨e1, e2, e3⟩ := ra_left (ys := ys) h
  rw [e1, e2, e3]
  constructor
  · rintro ⟨h1, h2, h3, h4, h5, h6⟩
    refine ⟨h1, h2, h3, h4, h5, fun k hk => ?_⟩
    have := h6 k hk
    obtain ⟨f1, f2, _⟩ := ra_left (ys := ys) (show k < xs.length by omega)
    rwa [f1, f2] at this
  · rintro ⟨h1, h2, h3, h4, h5, h6⟩
    refine ⟨h1, h2, h3, h4, h5, fun k hk => ?_⟩
    obtain ⟨f1, f2, _⟩ := ra_left (ys := ys) (show k < xs.length by omega)
    rw [f1, f2]
    exact h6 k hk
theorem DValid.left {n : Int} {xs : List Rd3} {r : Rd3} (h : DValid n (xs ++ [r])) : DValid n xs := by
  obtain ⟨h1, h2, h3, h4⟩ := h
  rw [List.length_append] at h3 h4
  exact ⟨h1, h2, by simp at h3; omega, fun i hi => (dok_left hi).1 (h4 i (by simp; omega))⟩

open Classical in
noncomputable def daL (n : Int) (xs : List Rd3) (r : Rd3) : List Rd3 := if DValid n (xs ++ [r]) then xs ++ [r] else []
open Classical in
noncomputable def daB (n : Int) (xs : List Rd3) (r : Rd3) : Bool := decide (DValid n (xs ++ [r]))
section
variable {n : Int} {xs : List Rd3} {r : Rd3}
theorem daL_yes (h : DValid n (xs ++ [r])) : daL n xs r = xs ++ [r] := if_pos h
theorem daL_no (h : ¬ DValid n (xs ++ [r])) : daL n xs r = [] := if_neg h
theorem daB_yes (h : DValid n (xs ++ [r])) : daB n xs r = true := by simp [daB, h]
theorem daB_no (h : ¬ DValid n (xs ++ [r])) : daB n xs r = false := by simp [daB, h]
end
theorem daL_len (n : Int) (xs : List Rd3) (r : Rd3) : (daL n xs r).length ≤ 1048576 := by
  by_cases h : DValid n (xs ++ [r])
  · rw [daL_yes h]; have := h.2.2.1; omega
  · rw [daL_no h]; simp

theorem box_cells {w : World} {r : Rd3} : Cells (w.alloc (.cells #[.int .i64 r.a, .int .i64 r.b, .int .i64 r.m] 36)) (some ⟨w.heap.size, 0, none⟩) (fd [r]) := by
  refine .inr ⟨w.heap.size, 0, rfl, by simp, fun j hj => ?_⟩
  have hj3 : j < 3 := by simpa [fd] using hj
  rw [Nat.zero_add, cell_new]
  match j, hj3 with
  | 0, _ => rfl
  | 1, _ => rfl
  | 2, _ => rfl

/-- The two parts that impl.RoadsAdd lays together. -/
theorem concat2 (A : Option Addr) (c : Nat) (xs : List Rd3) (r : Rd3) (wx : World) (hy : Cells wx A (fd xs)) (hA : A = none → xs.length = 0 ∧ c = 0) (hl : xs.length ≤ 1048576) :
    Calls Try.prog 34 #[.slice (some ⟨wx.heap.size + 1, 0, none⟩) 2 2] ((wx.alloc (.cells #[.int .i64 r.a, .int .i64 r.b, .int .i64 r.m] 36)).alloc (.cells #[.slice A xs.length c, .slice (some ⟨wx.heap.size, 0, none⟩) 1 1] 25)) fun e w' => ∃ A' c', e = .returned (.slice A' (xs ++ [r]).length c') ∧ DOwn w' wx.heap.size A' c' (xs ++ [r]) ∧ Below wx.heap.size wx w' := by
  have B1 := (Below.refl wx.heap.size wx).alloc (Nat.le_refl _) (.cells #[.int .i64 r.a, .int .i64 r.b, .int .i64 r.m] 36)
  have B2 := B1.alloc (by simp) (.cells #[.slice A xs.length c, .slice (some ⟨wx.heap.size, 0, none⟩) 1 1] 25)
  have e : catR [⟨A, c, xs⟩, ⟨some ⟨wx.heap.size, 0, none⟩, 1, [r]⟩] = xs ++ [r] := by simp [catR]
  have hs : (wx.alloc (.cells #[.int .i64 r.a, .int .i64 r.b, .int .i64 r.m] 36)).heap.size = wx.heap.size + 1 := by simp
  have cell : ∀ k, ((wx.alloc (.cells #[.int .i64 r.a, .int .i64 r.b, .int .i64 r.m] 36)).alloc (.cells #[.slice A xs.length c, .slice (some ⟨wx.heap.size, 0, none⟩) 1 1] 25)).cell? ⟨wx.heap.size + 1, k, none⟩ = (#[.slice A xs.length c, .slice (some ⟨wx.heap.size, 0, none⟩) 1 1] : Array Value)[k]? := by
    intro k
    have := cell_new (wx.alloc (.cells #[.int .i64 r.a, .int .i64 r.b, .int .i64 r.m] 36)) #[.slice A xs.length c, .slice (some ⟨wx.heap.size, 0, none⟩) 1 1] 25 k
    rwa [hs] at this
  have hp : PcAt ((wx.alloc (.cells #[.int .i64 r.a, .int .i64 r.b, .int .i64 r.m] 36)).alloc (.cells #[.slice A xs.length c, .slice (some ⟨wx.heap.size, 0, none⟩) 1 1] 25)) (wx.heap.size + 1) [⟨A, c, xs⟩, ⟨some ⟨wx.heap.size, 0, none⟩, 1, [r]⟩] := by
    refine ⟨by simp, fun j hj => ?_⟩
    have hj3 : j < 2 := by simpa using hj
    match j, hj3 with
    | 0, _ => exact ⟨cell 0, hA, hy.below B2⟩
    | 1, _ => exact ⟨cell 1, (fun g : some (⟨wx.heap.size, 0, none⟩ : Addr) = none => nomatch g), box_cells.alloc _⟩
  have K := concat_any (wx.heap.size + 1) 2 _ _ hp (by rw [e]; simp; omega) (by simp)
  rw [e] at K
  refine K.mono ?_
  rintro ed w' ⟨A', c', rfl, ow, x⟩
  exact ⟨A', c', rfl, ow.base (by simp; omega), B2.trans (x.mono B2.size)⟩

set_option maxRecDepth 100000 in
set_option maxHeartbeats 1000000 in
theorem iDA_any (n : Int) (A : Option Addr) (c : Nat) (xs : List Rd3) (r : Rd3) (w : World) (h : Cells w A (fd xs)) (hA : A = none → xs.length = 0 ∧ c = 0) (hl : xs.length ≤ 1048576) :
    Calls Try.prog 21 #[.int .i64 n, .slice A xs.length c, .agg #[.int .i64 r.a, .int .i64 r.b, .int .i64 r.m]] w (DPair (daL n xs r) (daB n xs r) w) := by
  by_cases hv : DValid n xs
  · have HV := Lib.hid hv
    have h16 := hv.2.2.1
    clear hv
    go_enter Try.func21, Try.ntmps21
    go_wp2_with fail
    have B0 := Lib.hid ((Below.refl w.heap.size w).alloc (Nat.le_refl _) (.cells #[.int .i64 r.a, .int .i64 r.b, .int .i64 r.m] 36))
    refine (iDV_yes (h.alloc _) hl HV.out).mono ?_
    rintro e w1 ⟨rfl, b1⟩
    obtain ⟨x0, x1, x2⟩ := ((BoxI.new3 w r.a r.b r.m 36).below b1).three
    have C1 := Lib.hid ((h.alloc (.cells #[.int .i64 r.a, .int .i64 r.b, .int .i64 r.m] 36)).below b1)
    have B1 := Lib.hid (B0.out.trans (b1.mono (by simp)))
    have HA := Lib.hid hA
    clear b1 h B0 hA
    go_wp2_with fail
    refine (concat2 A c xs r w1 C1.out HA.out hl).mono ?_
    rintro e w2 ⟨A', c', rfl, ow, x⟩
    obtain ⟨ts, hts⟩ : ∃ ts, ts = xs ++ [r] := ⟨_, rfl⟩
    rw [← hts] at ow ⊢
    have R := Lib.hid (And.intro (ow.base (B' := w.heap.size) B1.out.size) (B1.out.trans (x.mono B1.out.size)))
    have HT := Lib.hid hts
    have la : ts.length ≤ 1048576 := by rw [hts]; simp; omega
    clear ow x hts x0 x1 x2
    go_wp2_with fail
    by_cases hv2 : DValid n ts
    · have HV2 := Lib.hid hv2
      clear hv2
      refine (iDV_yes R.out.1.cells la HV2.out).mono ?_
      rintro e w3 ⟨rfl, b3⟩
      have R2 := Lib.hid (And.intro (R.out.1.below b3) (R.out.2.trans (b3.mono R.out.2.size)))
      have Y := Lib.hid (show DValid n (xs ++ [r]) from HT.out ▸ HV2.out)
      clear b3
      go_wp2_with fail
      go_ret2
      exact ⟨A', c', pair_ret (by rw [daL_yes Y.out, ← HT.out]) (by simp [daB_yes Y.out]), by rw [daL_yes Y.out, ← HT.out]; exact R2.out.1, R2.out.2⟩
    · have HV2 := Lib.hid hv2
      clear hv2
      refine (iDV_no R.out.1.cells la HV2.out).mono ?_
      rintro e w3 ⟨rfl, b3⟩
      have R2 := Lib.hid (R.out.2.trans (b3.mono R.out.2.size))
      have N := Lib.hid (show ¬ DValid n (xs ++ [r]) from fun g => HV2.out (HT.out ▸ g))
      clear b3
      go_wp2_with fail
      go_ret2
      exact ⟨_, _, pair_ret (by simp [daL_no N.out]) (by simp [daB_no N.out]), by rw [daL_no N.out]; exact DOwn.empty w3 _ R2.out.size, R2.out.alloc R2.out.size _⟩
  · have N := Lib.hid (show ¬ DValid n (xs ++ [r]) from fun g => hv g.left)
    have HV := Lib.hid hv
    clear hv
    go_enter Try.func21, Try.ntmps21
    go_wp2_with fail
    have B0 := Lib.hid ((Below.refl w.heap.size w).alloc (Nat.le_refl _) (.cells #[.int .i64 r.a, .int .i64 r.b, .int .i64 r.m] 36))
    refine (iDV_no (h.alloc _) hl HV.out).mono ?_
    rintro e w1 ⟨rfl, b1⟩
    have B1 := Lib.hid (B0.out.trans (b1.mono (by simp)))
    clear b1 h B0
    go_wp2_with fail
    go_ret2
    exact ⟨_, _, pair_ret (by simp [daL_no N.out]) (by simp [daB_no N.out]), by rw [daL_no N.out]; exact DOwn.empty w1 _ B1.out.size, B1.out.alloc B1.out.size _⟩
end Go.Proofs.Ytaajombljiiigaa
