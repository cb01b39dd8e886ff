import Derived.Test.YtaajombljiiigaaRoadsR
import Derived.Test.YtaajombljiiigaaRoadsS
import Derived.Maps.RangeWalk
import Derived.Deep.LoopGhost
namespace Go.Proofs.Ytaajombljiiigaa
open Go.RowKit

theorem some_ne {i j : Nat} (h : i ≠ j) : some i ≠ some j := fun e => h (by injection e)
theorem hold {p : Prop} (h : Hid p) : p := h.out
theorem own_same {w w' : World} {b n : Nat} {D : DataW Unit} {R : Value → Option (DataW Unit × List MemPlace)} {k : TypeId} {P : Program} (h : w.ownsMap P k R b n D) (e : w'.heap[b]? = w.heap[b]?) : w'.ownsMap P k R b n D := by
  obtain ⟨es, clock, hb, r⟩ := h
  exact ⟨es, clock, e.trans hb, r⟩

/-- A map from towns to numbers, as a function, with its size. -/
def SMap (w : World) (b s : Nat) (f : Int → Option Int) : Prop := ∃ N D, N ≤ s ∧ w.ownsMap Try.prog 3 RI b N D ∧ (∀ z, Maps.has D (.int .i64 z) = (f z).isSome ∧ D.atKey (.int .i64 z) (.lit (.int .i64 0)) = .lit (.int .i64 ((f z).getD 0))) ∧ Maps.size D = s
theorem SMap.made (w : World) : SMap (w.alloc (.map #[] 0)) w.heap.size 0 (fun _ => none) := ⟨0, .map [], Nat.le_refl _, World.ownsMap_made w _ _ _, fun z => ⟨rfl, rfl⟩, rfl⟩
theorem SMap.imap {w : World} {b s : Nat} {f : Int → Option Int} (h : SMap w b s f) : IMap w b s f := by
  obtain ⟨N, D, h0, h1, h2, _⟩ := h
  exact ⟨D, h1.mono h0, h2⟩
theorem SMap.lt {w : World} {b s : Nat} {f : Int → Option Int} (h : SMap w b s f) : b < w.heap.size := h.imap.lt
theorem SMap.same {w w' : World} {b s : Nat} {f : Int → Option Int} (h : SMap w b s f) (e : w'.heap[b]? = w.heap[b]?) : SMap w' b s f := by
  obtain ⟨N, D, h0, h1, h2⟩ := h
  exact ⟨N, D, h0, own_same h1 e, h2⟩
theorem SMap.congr {w : World} {b s : Nat} {f g : Int → Option Int} (h : SMap w b s f) (e : ∀ z, f z = g z) : SMap w b s g := by
  have : f = g := funext e
  exact this ▸ h
theorem SMap.put {w w' : World} {b s N : Nat} {f : Int → Option Int} {D : DataW Unit} (h0 : N ≤ s) (h1 : w.ownsMap Try.prog 3 RI b N D) (h2 : ∀ z, Maps.has D (.int .i64 z) = (f z).isSome ∧ D.atKey (.int .i64 z) (.lit (.int .i64 0)) = .lit (.int .i64 ((f z).getD 0))) (h3 : Maps.size D = s)
    {a m : Int} (hn : f a = none) (h : w'.ownsMap Try.prog 3 RI b (N + 1) (D.put (.int .i64 a) (.lit (.int .i64 m)))) : SMap w' b (s + 1) (fun z => if z = a then some m else f z) := by
  refine ⟨_, _, by omega, h, fun z => ?_, ?_⟩
  · try dsimp only
    by_cases e : z = a
    · subst e
      rw [if_pos rfl, Maps.has_put_same h1.isMap (isKey z), Maps.atKey_put_same h1.isMap (isKey z)]
      exact ⟨rfl, rfl⟩
    · rw [if_neg e, Maps.has_put_other (neI e), Maps.atKey_put_other (neI e)]
      exact h2 z
  · rw [Maps.size_put (h1.tidy keyI), (h2 a).1, hn, h3]
    rfl
theorem SMap.len {w : World} {b s : Nat} {f : Int → Option Int} (h : SMap w b s f) (ty : TypeId) : (Builtin.len_ #[51] ty #[.map (some b)]).run Try.prog w = .ok (.int .i64 (s : Int)) w := by
  obtain ⟨N, D, h0, h1, h2, h3⟩ := h
  rw [h1.len Try.underlying51, h3]

/-- A round over a map from towns to numbers; lf: what is still to come. -/
def IRng (w : World) (b r : Nat) (f : Int → Option Int) (lf : Int → Bool) (cnt : Nat) : Prop :=
  ∃ N D left, w.ranges Try.prog 3 RI b r N D left cnt ∧ (∀ z, Maps.has D (.int .i64 z) = (f z).isSome ∧ D.atKey (.int .i64 z) (.lit (.int .i64 0)) = .lit (.int .i64 ((f z).getD 0))) ∧ (∀ z, left (.int .i64 z) = lf z) ∧ (∀ z, lf z = true → (f z).isSome = true)
theorem ranges_same {w w' : World} {P : Program} {k : TypeId} {R : Value → Option (DataW Unit × List MemPlace)} {b r n : Nat} {D : DataW Unit} {left : Lit → Bool} {cnt : Nat} (h : w.ranges P k R b r n D left cnt) (e1 : w'.heap[b]? = w.heap[b]?) (e2 : w'.heap[r]? = w.heap[r]?) : w'.ranges P k R b r n D left cnt := by
  obtain ⟨es, clock, since, seen, c0, h1, h2, h3, h4, h5, h6⟩ := h
  exact ⟨es, clock, since, seen, c0, e1.trans h1, h2, h3, h4, e2.trans h5, h6⟩
theorem IRng.same {w w' : World} {b r cnt : Nat} {f : Int → Option Int} {lf : Int → Bool} (h : IRng w b r f lf cnt) (e1 : w'.heap[b]? = w.heap[b]?) (e2 : w'.heap[r]? = w.heap[r]?) : IRng w' b r f lf cnt := by
  obtain ⟨N, D, left, h1, h2⟩ := h
  exact ⟨N, D, left, ranges_same h1 e1 e2, h2⟩
theorem sameKey_int (z x : Int) : (Lit.int .i64 z).sameKey (.int .i64 x) = decide (z = x) := by
  by_cases e : z = x
  · subst e; rw [WideAt.sameKey_self (isKey z)]; simp
  · rw [Maps.sameKey_ne (neI e)]; simp [e]
theorem IRng.step {w' : World} {b r N cnt : Nat} {f : Int → Option Int} {lf : Int → Bool} {D : DataW Unit} {left : Lit → Bool} {x : Int}
    (h2 : ∀ z, Maps.has D (.int .i64 z) = (f z).isSome ∧ D.atKey (.int .i64 z) (.lit (.int .i64 0)) = .lit (.int .i64 ((f z).getD 0))) (h3 : ∀ z, left (.int .i64 z) = lf z) (h4 : ∀ z, lf z = true → (f z).isSome = true)
    (h : w'.ranges Try.prog 3 RI b r N D (fun z => left z && !z.sameKey (.int .i64 x)) cnt) : IRng w' b r f (fun z => lf z && !decide (z = x)) cnt := by
  refine ⟨N, D, _, h, h2, fun z => ?_, fun z hz => ?_⟩
  · rw [h3, sameKey_int]
  · exact h4 z (by simp at hz; exact hz.1)

theorem Blk.touch {w w' : World} {b g : Nat} {q : Option Nat} {C : Array Value} {e : TypeId} (h : Blk w b C e) (ht : Touch g q w w') (h1 : b ≠ g) (h2 : some b ≠ q) : Blk w' b C e := by
  have hb := h.lt
  unfold Blk at *
  rw [ht.block b hb h1 h2]; exact h

theorem HIs.grown {w w' : World} {g a c : Nat} {xs : List Rn} {row : Option Nat} (h : HIs w g (some ⟨a, 0, none⟩) c xs) (hg : w.grownBy w' row) (h1 : some g ≠ row) (h2 : some a ≠ row) : HIs w' g (some ⟨a, 0, none⟩) c xs :=
  h.kept (hg.block g h.lt h1) fun j hj => hg.block j (h.row_lt hj) (fun e => h2 (by rw [← e, ← hj]; rfl))
theorem BoxI.touch {w w' : World} {g q : Nat} {p : Option Nat} {zs : List Int} (h : BoxI w q zs) (ht : Touch g p w w') (h1 : q ≠ g) (h2 : some q ≠ p) : BoxI w' q zs := by
  obtain ⟨l, c⟩ := h
  refine ⟨Nat.lt_of_lt_of_le l ht.size, fun j hj => ?_⟩
  rw [← c j hj]
  unfold World.cell?
  rw [ht.block q l h1 h2]
theorem dist_start (w : World) (f : Int) : SMap (((w.alloc (.map #[] 0)).alloc (.cells #[.int .i64 f, .int .i64 0] 63)).alloc (.cells #[.slice (some ⟨w.heap.size + 1, 0, none⟩) 1 1] 65)) w.heap.size 0 (fun _ => none) ∧
    HIs (((w.alloc (.map #[] 0)).alloc (.cells #[.int .i64 f, .int .i64 0] 63)).alloc (.cells #[.slice (some ⟨w.heap.size + 1, 0, none⟩) 1 1] 65)) (w.heap.size + 1 + 1) (some ⟨w.heap.size + 1, 0, none⟩) 1 [⟨f, 0⟩] ∧
    Below w.heap.size w (((w.alloc (.map #[] 0)).alloc (.cells #[.int .i64 f, .int .i64 0] 63)).alloc (.cells #[.slice (some ⟨w.heap.size + 1, 0, none⟩) 1 1] 65)) := by
  have s1 : (w.alloc (.map #[] 0)).heap.size = w.heap.size + 1 := by simp
  have s2 : ((w.alloc (.map #[] 0)).alloc (.cells #[.int .i64 f, .int .i64 0] 63)).heap.size = w.heap.size + 1 + 1 := by simp
  obtain ⟨wa, hwa⟩ : ∃ wa, wa = w.alloc (.map #[] 0) := ⟨_, rfl⟩
  have SM := SMap.made w
  rw [← hwa] at s1 s2 SM ⊢
  obtain ⟨wb, hwb⟩ : ∃ wb, wb = wa.alloc (.cells #[.int .i64 f, .int .i64 0] 63) := ⟨_, rfl⟩
  have BB : Below wa.heap.size wa wb := by rw [hwb]; exact (Below.refl _ _).alloc (Nat.le_refl _) _
  have R1 : Blk wb (w.heap.size + 1) #[.int .i64 f, .int .i64 0] 63 := by rw [hwb, ← s1]; exact Blk.new wa _ _
  rw [← hwb] at s2 ⊢
  obtain ⟨wc, hwc⟩ : ∃ wc, wc = wb.alloc (.cells #[.slice (some ⟨w.heap.size + 1, 0, none⟩) 1 1] 65) := ⟨_, rfl⟩
  have BC : Below wb.heap.size wb wc := by rw [hwc]; exact (Below.refl _ _).alloc (Nat.le_refl _) _
  have R2 : Blk wc (w.heap.size + 1 + 1) #[.slice (some ⟨w.heap.size + 1, 0, none⟩) 1 1] 65 := by rw [hwc, ← s2]; exact Blk.new wb _ _
  rw [← hwc]
  have R1' := R1.below BC
  have hba : Below w.heap.size w wa := by rw [hwa]; exact (Below.refl _ _).alloc (Nat.le_refl _) _
  have hb : Below w.heap.size w wc := (hba.trans (BB.mono (by omega))).trans (BC.mono (by omega))
  refine ⟨?_, ⟨R2, ⟨rfl, .inr ⟨w.heap.size + 1, 1, _, rfl, Nat.zero_le _, R1', Nat.le_refl _, by unfold maxLen; omega, rfl, rfl⟩⟩, ?_⟩, hb⟩
  · exact (SM.same (BB.block _ (by omega))).same (BC.block _ (by omega))
  · intro e; injection e with e; have e2 : w.heap.size + 1 = w.heap.size + 1 + 1 := e; omega

/-- What holds of the world between the rounds. -/
structure DSt (w wr : World) (g b a c : Nat) (N : Nat) (D : Nat → Int) (S : Nat → Bool) (hs : List Rn) : Prop where
  sm : SMap wr b (nS S N) (fm N S D)
  hi : HIs wr g (some ⟨a, 0, none⟩) c hs
  hh : Heap Rn.e hs
  ba : w.heap.size ≤ a
  bg : w.heap.size ≤ g
  bb : w.heap.size ≤ b
  ab : a ≠ b
  gb : g ≠ b
  bel : Below w.heap.size w wr
theorem DSt.ag {w wr : World} {g b a c N : Nat} {D : Nat → Int} {S : Nat → Bool} {hs : List Rn} (h : DSt w wr g b a c N D S hs) : a ≠ g := fun e => h.hi.ne (by rw [e]; rfl)
theorem DSt.al {w wr : World} {g b a c N : Nat} {D : Nat → Int} {S : Nat → Bool} {hs : List Rn} (h : DSt w wr g b a c N D S hs) : a < wr.heap.size := h.hi.row_lt rfl
/-- Blocks beside turn. -/
theorem DSt.grown {w wr w' : World} {g b a c N : Nat} {D : Nat → Int} {S : Nat → Bool} {hs : List Rn} {row : Option Nat} (h : DSt w wr g b a c N D S hs) (hg : wr.grownBy w' row) (h1 : some g ≠ row) (h2 : some a ≠ row) (h3 : some b ≠ row) (h4 : ∀ q, row = some q → w.heap.size ≤ q) : DSt w w' g b a c N D S hs :=
  ⟨h.sm.same (hg.block b h.sm.lt h3), h.hi.grown hg h1 h2, h.hh, h.ba, h.bg, h.bb, h.ab, h.gb, h.bel.grown hg h.bel.size h4⟩
theorem DSt.alloc {w wr : World} {g b a c N : Nat} {D : Nat → Int} {S : Nat → Bool} {hs : List Rn} (h : DSt w wr g b a c N D S hs) (o : Obj) : DSt w (wr.alloc o) g b a c N D S hs :=
  h.grown (World.grownBy_alloc wr o none) (by simp) (by simp) (by simp) (by simp)
/-- The heap turns. -/
theorem DSt.touch {w wr w' : World} {g b a c a' c' N : Nat} {D : Nat → Int} {S : Nat → Bool} {hs ys : List Rn} (h : DSt w wr g b a c N D S hs) (ht : Touch g (some a) wr w') (hi : HIs w' g (some ⟨a', 0, none⟩) c' ys) (hh : Heap Rn.e ys) (ha : a' = a ∨ wr.heap.size ≤ a') : DSt w w' g b a' c' N D S ys := by
  have hs := h.bel.size
  have hl := h.sm.lt
  refine ⟨h.sm.same (ht.block b hl (Ne.symm h.gb) (by intro e; injection e with e; exact h.ab e.symm)), hi, hh, ?_, h.bg, h.bb, ?_, h.gb, h.bel.trans (ht.below h.bg (fun j hj => by injection hj with hj; have := h.ba; omega) hs)⟩
  · rcases ha with rfl | e
    · exact h.ba
    · omega
  · rcases ha with rfl | e
    · exact h.ab
    · omega

set_option maxRecDepth 100000 in
set_option maxHeartbeats 4000000 in
theorem dist_any (N f b0 B : Nat) (bs : Nat → Nat) (xs : List Rd3) (w : World) (hM : MB w B b0 N xs.length bs xs) (hv : DValid (N : Int) xs) (hf : f < N) :
    Calls Try.prog 36 #[.map (some b0), .int .i64 (f : Int)] w fun e w' => ∃ (b : Nat) (S : Nat → Bool), e = .returned (.map (some b)) ∧ (∀ v, v < N → (S v = true ↔ dst xs f v < 100000)) ∧ SMap w' b (nS S N) (fm N S (dst xs f)) ∧ Below w.heap.size w w' := by
  have n8 : N ≤ 8 := by have := hv.2.1; omega
  have HD := Lib.hid (dst_dist hv hf)
  obtain ⟨D, hD⟩ : ∃ D, D = dst xs f := ⟨_, rfl⟩
  rw [← hD] at HD ⊢
  clear hD
  have HM := Lib.hid hM
  have HV := Lib.hid hv
  have HF := Lib.hid hf
  clear hM hv
  have mk := fun W => run_makeMap (P := Try.prog) 51 W
  go_enter Try.func36, Try.ntmps36
  go_wp2_with fail
  obtain ⟨s1, s2, s3⟩ := dist_start w (f : Int)
  obtain ⟨b, hb⟩ : ∃ b, b = w.heap.size := ⟨_, rfl⟩
  obtain ⟨g, hg⟩ : ∃ g, g = w.heap.size + 1 + 1 := ⟨_, rfl⟩
  have ST0 : DSt w (((w.alloc (.map #[] 0)).alloc (.cells #[.int .i64 f, .int .i64 0] 63)).alloc (.cells #[.slice (some ⟨w.heap.size + 1, 0, none⟩) 1 1] 65)) g b (w.heap.size + 1) 1 N D (fun _ => false) [⟨(f : Int), 0⟩] :=
    ⟨by rw [nS_none, hb]; exact s1.congr fun z => (fm_none N D z).symm, by rw [hg]; exact s2, fun i h0 h1 => by simp at h1; omega, by omega, by omega, by omega, by omega, by omega, s3⟩
  have ST0 := Lib.hid ST0
  clear s1 s2 s3
  generalize (((w.alloc (.map #[] 0)).alloc (.cells #[.int .i64 f, .int .i64 0] 63)).alloc (.cells #[.slice (some ⟨w.heap.size + 1, 0, none⟩) 1 1] 65)) = ws at ST0 ⊢
  rw [← hg]
  rw [show Value.map (some w.heap.size) = Value.map (some b) by rw [hb]]
  have HBB := Lib.hid hb
  have HGG := Lib.hid hg
  clear mk hb hg
  go_loopg [9] 801 (fun gk _ wr => ∃ (S : Nat → Bool) (hs : List Rn) (a c : Nat), gk = (8 - nS S N) * 100 + hs.length ∧ DSt w wr g b a c N D S hs ∧ DInv N xs f D S hs (fun _ _ => False) ∧ hs.length ≤ 1 + 8 * nS S N)
  case atStart => exact ⟨_, _, _, _, by rw [nS_none]; rfl, ST0.out, dinv_start HD.out HF.out, by simp⟩
  case round =>
    obtain ⟨S, hs, a, c, rfl, hST, hI, hlen⟩ := hrel
    clear ST0
    have ST := Lib.hid hST
    have HI := Lib.hid hI
    have hn8 := nS_le S N
    have c0 := hST.hi.blk.cell 0
    simp at c0
    have HL := Lib.hid hlen
    have hs100 : hs.length ≤ 65 := by omega
    clear hST hI
    by_cases h0 : 0 < hs.length
    · obtain ⟨n, hn⟩ : ∃ n, hs.length = n + 1 := ⟨hs.length - 1, by omega⟩
      have HN := Lib.hid hn
      have i0 : (0 : Int) < (hs.length : Int) := by omega
      obtain ⟨v, d, hx⟩ : ∃ v d, pg hs 0 = ⟨v, d⟩ := ⟨_, _, rfl⟩
      obtain ⟨v', hv1, hv2, hv3, hv4⟩ := HI.out.hp (pg hs 0) (by
        have : pg hs 0 = hs[0]'h0 := by simp [pg, List.getElem?_eq_getElem h0]
        rw [this]; exact List.getElem_mem _)
      rw [hx] at hv2 hv3 hv4
      simp only at hv2 hv3 hv4
      subst hv2
      have HX := Lib.hid hx
      clear hn hx
      go_wp2_with fail
      refine (len_any _ _ _ wr).mono ?_
      rintro e wx ⟨rfl, rfl⟩
      go_wp2_with fail
      refine (hpop_any g a c n hs wr ST.out.hi ST.out.hh HN.out (by omega)).mono ?_
      rintro e w1 ⟨rfl, ys, P1, H1, Q1, T1⟩
      rw [HX.out] at Q1 ⊢
      have ST1 := Lib.hid (ST.out.touch T1 P1 H1 (.inl rfl))
      have HMIN := Lib.hid (show ∀ y ∈ hs, d ≤ y.e from fun y hy => by have := heap_min_mem ST.out.hh y hy; rw [HX.out] at this; exact this)
      have Q1' := Lib.hid Q1
      have TA := fun t W => ta_town (.agg #[.int .i64 (v' : Int), .int .i64 d]) t W
      have wl := hv1
      have SF := Lib.hid (ST1.out.sm.lt)
      clear P1 H1 T1 Q1 c0 ST
      have ST2 := Lib.hid (ST1.out.alloc (.cells #[.int .i64 (v' : Int), .int .i64 d] 63))
      have BX := BoxI.new2 w1 (v' : Int) d 63
      obtain ⟨y0, y1⟩ := BX.two
      have BX := Lib.hid BX
      have LK := ST2.out.sm.imap.look (z := (v' : Int)) (wf_town (by omega))
      rw [fm_at hv1] at LK
      have QL := Q1'.out.length_eq
      rw [List.length_cons] at QL
      have QL := Lib.hid QL
      by_cases hS : S v' = true
      · rw [if_pos hS] at LK
        have HS := Lib.hid hS
        clear hS
        go_wp2_with fail
        go_roundg ((8 - nS S N) * 100 + ys.length)
        case rel => exact ⟨S, ys, a, c, rfl, ST2.out, dinv_skip HI.out Q1'.out rfl HS.out, by have := QL.out; have := HL.out; omega⟩
        case measure => have := QL.out; omega
      · rw [if_neg hS] at LK
        obtain ⟨-, hdd, hI2⟩ := dinv_take HV.out HD.out HI.out Q1'.out HMIN.out rfl (by simpa using hS)
        simp only at hdd
        have HDD := Lib.hid hdd
        have HI2 := Lib.hid hI2
        have hSf : S v' = false := by simpa using hS
        have NU := Lib.hid (show nS (upS S v') N = nS S N + 1 by rw [nS_up hSf, if_pos hv1])
        have FN := Lib.hid (show fm N S D (v' : Int) = none by rw [fm_at hv1, if_neg hS])
        have d0 : 0 ≤ d := by have := HD.out.low v' hv1; omega
        obtain ⟨N1, D1, q0, q1, q2, q3⟩ := ST2.out.sm
        have Q2 := Lib.hid (And.intro q2 q3)
        obtain ⟨DD, oD, fD⟩ := HM.out.inner v' hv1
        have OD := Lib.hid oD
        have FD := Lib.hid fD
        have BV := Lib.hid oD.lt
        have hN1 : N1 ≤ 8 := by omega
        have n18 : nS S N ≤ 8 := by omega
        have hqa : w1.heap.size ≠ a := by have := ST1.out.al; omega
        have hqg : g < w1.heap.size := ST1.out.hi.lt
        have hqb : w1.heap.size ≠ b := by have := ST1.out.sm.lt; omega
        have hbq : w.heap.size ≤ w1.heap.size := ST1.out.bel.size
        have QF := Lib.hid (And.intro hqa (And.intro hqg (And.intro hqb hbq)))
        have ABN := Lib.hid (And.intro ST1.out.ab ST1.out.gb)
        clear hS hSf hdd hI2 q2 q3 oD fD hqa hqg hqb hbq
        go_wp2_with (first
          | (at_range; have hh := R3.out; clear hh; refine wpList_range_own _ rfl _ 51 rfl 3 3 keyI Try.underlying51 RI (bs v') xs.length DD rfl (own_same OD.out (ST3.out.bel.block _ BV.out)) ?_; intro w4 r4 g4 s4; have R4 := Lib.hid (And.intro r4 (And.intro g4 s4)); clear r4 g4 s4)
          | (at_mapUpdate; refine wpList_mapUpdate_own _ rfl _ _ _ 51 rfl 3 3 keyI Try.underlying51 RI b N1 D1 rfl q1 (by unfold maxLen; omega) _ _ (.int .i64 (v' : Int)) rfl rfl (keyOfI (wf_town (t := v') (by omega))) (.lit (.int .i64 d)) [] (plainElem_int Try.underlying3 (WalkArith.wf_i64 (by omega))) ?_; intro w3 o3 g3; have ST3 : Hid (DSt w w3 g b a c N D (upS S v') ys) := Lib.hid ⟨by rw [NU.out]; exact (SMap.put q0 q1 Q2.out.1 Q2.out.2 FN.out o3).congr (fun z => by rw [HDD.out]; exact fm_up wl z), ST2.out.hi.grown g3 (some_ne ABN.out.2) (some_ne ABN.out.1), ST2.out.hh, ST2.out.ba, ST2.out.bg, ST2.out.bb, ST2.out.ab, ST2.out.gb, ST2.out.bel.grown g3 ST2.out.bel.size (fun q hq => by injection hq with hq; have := ST2.out.bb; omega)⟩; have BX3 := BX.out.kept g3 (some_ne QF.out.2.2.1); obtain ⟨y0', y1'⟩ := BX3.two; have BX3 := Lib.hid BX3; have LM := (HM.out.below (ST3.out.bel)).outer.look wl n8; have R3 := Lib.hid (And.intro o3 g3); clear o3 g3 LK))
        clear y0 y1 y0' y1' LM q1 TA
        go_frame
        have SZ3 := Lib.hid (And.intro ST3.out.bel.size (And.intro ST3.out.al (And.intro ST3.out.hi.lt (And.intro ST3.out.sm.lt BX3.out.1))))
        have ST4 := Lib.hid (ST3.out.grown R4.out.2.1 (by simp) (by simp) (by simp) (by simp))
        have BX4 := Lib.hid (BX3.out.kept R4.out.2.1 (by simp))
        have RG4 : Hid (IRng w4 (bs v') w3.heap.size (fun z => lk xs (v' : Int) z xs.length) (fun z => (lk xs (v' : Int) z xs.length).isSome) (Maps.size DD)) := Lib.hid ⟨_, DD, _, R4.out.1, FD.out, fun z => (FD.out z).1, fun z hz => hz⟩
        go_loopg [10] (Maps.size DD) (fun gk _ wr => ∃ (lf : Int → Bool) (hs' : List Rn) (a' c' : Nat), IRng wr (bs v') w3.heap.size (fun z => lk xs (v' : Int) z xs.length) lf gk ∧ DSt w wr g b a' c' N D (upS S v') hs' ∧ w3.heap.size ≠ a' ∧ w1.heap.size ≠ a' ∧ w3.heap.size < wr.heap.size ∧ BoxI wr w1.heap.size [(v' : Int), d] ∧ DInv N xs f D (upS S v') hs' (fun u t => u = v' ∧ lf (t : Int) = true) ∧ hs'.length + nS (fun t => lf (t : Int)) N ≤ 8 * (nS S N + 1))
        case atStart =>
          refine ⟨_, ys, a, c, RG4.out, ST4.out, ?_, QF.out.1, ?_, BX4.out, ?_, ?_⟩
          · have := SZ3.out.2.1; omega
          · have := R4.out.2.2; omega
          · refine ⟨HI2.out.sd, HI2.out.hp, HI2.out.st, fun u t m hu ht he => ?_⟩
            rcases HI2.out.ed u t m hu ht he with e | e | e
            · exact .inl e
            · exact .inr (.inl e)
            · refine .inr (.inr ⟨e, ?_⟩)
              rw [e] at he
              rw [he]; rfl
          · have := nS_le (fun t : Nat => (lk xs (v' : Int) (t : Int) xs.length).isSome) N
            have := QL.out
            have := HL.out
            omega
        case round =>
          obtain ⟨lf, hs', a', c', hRG, hST', hra, hqa, hrs, hBX, hDI, hcn⟩ := hrel
          obtain ⟨N2, D2, left, hrg, hf2, hl2, hs2⟩ := hRG
          have HF2 := Lib.hid hf2
          have HL2 := Lib.hid hl2
          have HS2 := Lib.hid hs2
          have STR := Lib.hid hST'
          have RA := Lib.hid (And.intro hra (And.intro hqa hrs))
          have BXR := Lib.hid hBX
          have DIR := Lib.hid hDI
          have CN := Lib.hid hcn
          clear hf2 hl2 hs2 hST' hra hqa hrs hBX hDI hcn RG4 ST4 BX4 R4
          go_wp2_with (first
            | (at_next; refine wpList_next_ranges_ii _ rfl _ rfl 3 3 .i64 .i64 keyI Try.underlying3 Try.underlying3 (bs v') w3.heap.size N2 _ _ _ rfl hrg ?_ ?_))
          · intro _ hl0
            go_wp2_with fail
            go_roundg ((8 - nS (upS S v') N) * 100 + hs'.length)
            case rel =>
              refine ⟨upS S v', hs', a', c', rfl, STR.out, DIR.out.mono (fun u t _ h => ?_), ?_⟩
              · have := h.2
                rw [← HL2.out, hl0] at this
                cases this
              · have := CN.out
                rw [NU.out]
                omega
            case measure =>
              have := CN.out
              have h1 := nS_le (upS S v') N
              rw [NU.out] at h1 ⊢
              omega
          · intro x cc w5 cnt5 hwx hwc hlx hat hrg5 hlt hg5 hs5 hen
            have hlfx : lf x = true := by rw [← HL2.out]; exact hlx
            obtain ⟨m, hm⟩ := Option.isSome_iff_exists.1 (HS2.out x hlfx)
            try dsimp only at hm
            have hcc : cc = m := by
              have e1 := (HF2.out x).2
              rw [hat] at e1
              try dsimp only at e1
              rw [hm] at e1
              simp only [DataW.lit.injEq, Lit.int.injEq, true_and] at e1
              simpa using e1
            subst hcc
            have hmv := lk_valid HV.out (Nat.le_refl _) hm
            obtain ⟨t, rfl⟩ := Int.eq_ofNat_of_zero_le (show 0 ≤ x by omega)
            have htN : t < N := by omega
            have c1 : 1 ≤ cc := hmv.1
            have c99 : cc ≤ 99 := hmv.2.1
            have LT := Lib.hid hlt
            have HM5 := Lib.hid hm
            have LFX := Lib.hid hlfx
            have rg : g < w3.heap.size := SZ3.out.2.2.1
            have ST5 := Lib.hid (STR.out.grown hg5 (some_ne (by omega)) (some_ne (fun e => RA.out.1 e.symm)) (some_ne (by have := SZ3.out.2.2.2.1; omega)) (fun q hq => by injection hq with hq; have := SZ3.out.1; omega))
            have BX5 := BXR.out.kept hg5 (some_ne (by have := SZ3.out.2.2.2.2; omega))
            obtain ⟨y0, y1⟩ := BX5.two
            have BX5 := Lib.hid BX5
            have RG5 := Lib.hid (IRng.step (f := fun z => lk xs (v' : Int) z xs.length) HF2.out HL2.out HS2.out hrg5)
            have SZ5 := Lib.hid (show w5.heap.size = wr.heap.size from hs5)
            have LK := ST5.out.sm.imap.look (z := (t : Int)) (wf_town (by omega))
            rw [fm_at htN] at LK
            have NLF := Lib.hid (show nS (fun s : Nat => lf (s : Int) && !decide ((s : Int) = (t : Int))) N + 1 = nS (fun s : Nat => lf (s : Int)) N from by
              have e1 := nS_up (S := fun s : Nat => lf (s : Int) && !decide ((s : Int) = (t : Int))) (v := t) (by simp) N
              have e2 : upS (fun s : Nat => lf (s : Int) && !decide ((s : Int) = (t : Int))) t = fun s : Nat => lf (s : Int) := by
                funext s
                unfold upS
                by_cases e : s = t
                · rw [if_pos e, e]; exact hlfx.symm
                · rw [if_neg e]
                  have e3 : ¬ ((s : Int) = (t : Int)) := by omega
                  simp [e3]
              rw [e2, if_pos htN] at e1
              exact e1.symm)
            have PDX := Lib.hid (show ∀ u s : Nat, (u = v' ∧ lf (s : Int) = true) → (u = v' ∧ s = t) ∨ (u = v' ∧ (lf (s : Int) && !decide ((s : Int) = (t : Int))) = true) from fun u s h => by
              by_cases e : s = t
              · exact .inl ⟨h.1, e⟩
              · refine .inr ⟨h.1, ?_⟩
                have e3 : ¬ ((s : Int) = (t : Int)) := by omega
                simp [h.2, e3])
            clear hrg hrg5 hat hlx hlfx hm hmv hg5 hs5 hlt
            by_cases hSt : upS S v' t = true
            · rw [if_pos hSt] at LK
              have HST := Lib.hid hSt
              clear hSt
              go_wp2_with fail
              go_roundg cnt5
              case rel =>
                refine ⟨_, hs', a', c', RG5.out, ST5.out, RA.out.1, RA.out.2.1, ?_, BX5.out, dinv_seen (v := v') (t := t) DIR.out HST.out PDX.out, ?_⟩
                · rw [SZ5.out]; exact RA.out.2.2
                · have := NLF.out
                  have := CN.out
                  omega
              case measure => exact LT.out
            · rw [if_neg hSt] at LK
              clear hSt
              have hl64 : hs'.length ≤ 990 := by have := CN.out; omega
              have hsl := CN.out
              go_wp2_with fail
              refine (hpush_any g a' c' hs' ⟨(t : Int), d + cc⟩ w5 ST5.out.hi ST5.out.hh hl64).mono ?_
              rintro e w6 ⟨rfl, a6, c6, zs, P6, H6, Q6, T6, A6⟩
              have ST6 := Lib.hid (ST5.out.touch T6 P6 H6 A6)
              have e1 : w6.heap[bs v']? = w5.heap[bs v']? := T6.block _ (by have := BV.out; have := ST5.out.bel.size; omega) (by have := BV.out; have := ST5.out.bg; omega) (some_ne (by have := BV.out; have := ST5.out.ba; omega))
              have e2 : w6.heap[w3.heap.size]? = w5.heap[w3.heap.size]? := T6.block _ (by have := RA.out.2.2; have := SZ5.out; omega) (by omega) (some_ne RA.out.1)
              have RG6 := Lib.hid (RG5.out.same e1 e2)
              have BX6 := Lib.hid (BX5.out.touch T6 (by have := QF.out.2.1; omega) (some_ne RA.out.2.1))
              have TS := Lib.hid T6.size
              have QQ6 := Lib.hid Q6
              have AA6 := Lib.hid A6
              clear P6 H6 T6 A6 Q6 e1 e2
              go_wp2_with fail
              go_roundg cnt5
              case rel =>
                have ql := QQ6.out.length_eq
                rw [List.length_append, List.length_singleton] at ql
                have s5 := SZ5.out
                have s6 := TS.out
                refine ⟨_, zs, a6, c6, RG6.out, ST6.out, ?_, ?_, by have := RA.out.2.2; omega, BX6.out, dinv_push (v := v') (t := t) (m := cc) HV.out HD.out DIR.out htN HM5.out (by unfold upS; rw [if_pos rfl]) (by rw [← HDD.out]; exact QQ6.out) PDX.out, ?_⟩
                · rcases AA6.out with e | e
                  · rw [e]; exact RA.out.1
                  · have := RA.out.2.2; omega
                · rcases AA6.out with e | e
                  · rw [e]; exact RA.out.2.1
                  · have := RA.out.2.2; have := SZ3.out.2.2.2.2; omega
                · have := NLF.out
                  omega
              case measure => exact LT.out
    · go_wp2_with fail
      refine (len_any _ _ _ wr).mono ?_
      rintro e wx ⟨rfl, rfl⟩
      have hs0 : hs = [] := List.eq_nil_of_length_eq_zero (by omega)
      subst hs0
      go_wp2_with fail
      go_ret
      exact ⟨b, S, rfl, dinv_end HV.out HD.out HI.out, ST.out.sm, ST.out.bel⟩

end Go.Proofs.Ytaajombljiiigaa
