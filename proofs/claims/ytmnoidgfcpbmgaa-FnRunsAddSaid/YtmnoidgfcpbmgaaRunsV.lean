import Derived.Test.YtmnoidgfcpbmgaaRunsV1
import Derived.Test.YtmnoidgfcpbmgaaRunsO
import Derived.Test.YtmnoidgfcpbmgaaRunsP
import Derived.Deep.LoopGhost
import Derived.Maps.AppendAt
namespace Go.Proofs.Ytmnoidgfcpbmgaa
open Go.RowKit

/-- The two piles and the roster, apart from one another, all above block B. -/
structure Office (w : World) (B gb gi : Nat) (Ab Ai : Option Addr) (cb ci : Nat) (xb xi : List Rn) : Prop where
  pb : PileIs w gb (.func (.func 29) #[] #[]) Ab cb xb
  pi : PileIs w gi (.func (.func 30) #[] #[]) Ai ci xi
  hb : Heap Rn.e xb
  hi : Heap Rn.s xi
  ne : gb ≠ gi
  lb : B ≤ gb
  li : B ≤ gi
  rb : ∀ j, (Value.slice Ab xb.length cb).ownBlock = some j → B ≤ j ∧ j ≠ gi
  ri : ∀ j, (Value.slice Ai xi.length ci).ownBlock = some j → B ≤ j ∧ j ≠ gb
  rr : ∀ j, (Value.slice Ab xb.length cb).ownBlock = some j → (Value.slice Ai xi.length ci).ownBlock ≠ some j

section
variable {w w' : World} {B gb gi : Nat} {Ab Ai : Option Addr} {cb ci : Nat} {xb xi : List Rn}
theorem Office.below (h : Office w B gb gi Ab Ai cb ci xb xi) (hb : Below w.heap.size w w') : Office w' B gb gi Ab Ai cb ci xb xi :=
  { h with pb := h.pb.below hb, pi := h.pi.below hb }
/-- The busy pile turns. -/
theorem Office.busy (h : Office w B gb gi Ab Ai cb ci xb xi) (hB : B ≤ w.heap.size) {a c : Nat} {ys : List Rn} (hp : PileIs w' gb (.func (.func 29) #[] #[]) (some ⟨a, 0, none⟩) c ys) (hh : Heap Rn.e ys)
    (ht : Touch gb (Value.slice Ab xb.length cb).ownBlock w w') (ha : (Value.slice Ab xb.length cb).ownBlock = some a ∨ w.heap.size ≤ a) : Office w' B gb gi (some ⟨a, 0, none⟩) Ai c ci ys xi ∧ Below B w w' := by
  have hgi := h.pi.lt
  refine ⟨⟨hp, h.pi.touch ht (fun e => h.ne e.symm) (fun e => (h.rb gi e.symm).2 rfl) (fun e => (h.ri gb e).2 rfl) (fun j hj e => h.rr j e.symm hj), hh, h.hi, h.ne, h.lb, h.li, ?_, h.ri, ?_⟩, ?_⟩
  · intro j hj
    have hj' : a = j := by injection hj
    subst hj'
    rcases ha with e | e
    · exact h.rb a e
    · exact ⟨by omega, by omega⟩
  · intro j hj
    have hj' : a = j := by injection hj
    subst hj'
    rcases ha with e | e
    · exact h.rr a e
    · intro e2
      have := h.pi.row_lt e2
      omega
  · exact ht.below h.lb (fun j hj => (h.rb j hj).1) hB
/-- The idle pile turns. -/
theorem Office.idle (h : Office w B gb gi Ab Ai cb ci xb xi) (hB : B ≤ w.heap.size) {a c : Nat} {ys : List Rn} (hp : PileIs w' gi (.func (.func 30) #[] #[]) (some ⟨a, 0, none⟩) c ys) (hh : Heap Rn.s ys)
    (ht : Touch gi (Value.slice Ai xi.length ci).ownBlock w w') (ha : (Value.slice Ai xi.length ci).ownBlock = some a ∨ w.heap.size ≤ a) : Office w' B gb gi Ab (some ⟨a, 0, none⟩) cb c xb ys ∧ Below B w w' := by
  have hgb := h.pb.lt
  refine ⟨⟨h.pb.touch ht h.ne (fun e => (h.ri gb e.symm).2 rfl) (fun e => (h.rb gi e).2 rfl) (fun j hj e => h.rr j hj e.symm), hp, h.hb, hh, h.ne, h.lb, h.li, h.rb, ?_, ?_⟩, ?_⟩
  · intro j hj
    have hj' : a = j := by injection hj
    subst hj'
    rcases ha with e | e
    · exact h.ri a e
    · exact ⟨by omega, by omega⟩
  · intro j hj e2
    have hj' : a = j := by injection e2
    subst hj'
    rcases ha with e | e
    · exact h.rr a hj e
    · have := h.pb.row_lt hj
      omega
  · exact ht.below h.li (fun j hj => (h.ri j hj).1) hB
/-- A pile with things has a row. -/
theorem PileIs.some' {g c : Nat} {F : Value} {A : Option Addr} {xs : List Rn} (h : PileIs w g F A c xs) (hx : 0 < xs.length) : ∃ a, A = some ⟨a, 0, none⟩ := by
  obtain ⟨a, ha, _⟩ := h.at hx
  exact ⟨a, ha⟩
end

/-- The row of the roster, apart from the piles. -/
def RosRow (w : World) (R : Option Addr) (rc : Nat) (ro : List Int) (B : Nat) (gb gi : Nat) (Ab Ai : Option Addr) (cb ci : Nat) (xb xi : List Rn) : Prop :=
  IOwn w B R rc ro ∧ ∀ j, (Value.slice R ro.length rc).ownBlock = some j → j ≠ gb ∧ j ≠ gi ∧ (Value.slice Ab xb.length cb).ownBlock ≠ some j ∧ (Value.slice Ai xi.length ci).ownBlock ≠ some j

theorem IOwn.touch {w w' : World} {B g : Nat} {q : Option Nat} {R : Option Addr} {rc : Nat} {ro : List Int} (h : IOwn w B R rc ro) (ht : Touch g q w w') (hne : ∀ j, (Value.slice R ro.length rc).ownBlock = some j → j ≠ g ∧ some j ≠ q) : IOwn w' B R rc ro := by
  refine ⟨h.1, ?_⟩
  rcases h.2 with h2 | ⟨g', cap, cur, hv, hg', hh, r⟩
  · exact .inl h2
  · have hlt : g' < w.heap.size := by
      rcases Nat.lt_or_ge g' w.heap.size with h | h
      · exact h
      · simp [Array.getElem?_eq_none h] at hh
    have := hne g' (by rw [hv]; rfl)
    exact .inr ⟨g', cap, cur, hv, hg', by rw [ht.block g' hlt this.1 this.2]; exact hh, r⟩

section
variable {w w' : World} {B gb gi rc : Nat} {R Ab Ai : Option Addr} {cb ci : Nat} {xb xi : List Rn} {ro : List Int}
theorem RosRow.busy (h : RosRow w R rc ro B gb gi Ab Ai cb ci xb xi) (ht : Touch gb (Value.slice Ab xb.length cb).ownBlock w w') {a c : Nat} {ys : List Rn} (ha : (Value.slice Ab xb.length cb).ownBlock = some a ∨ w.heap.size ≤ a) : RosRow w' R rc ro B gb gi (some ⟨a, 0, none⟩) Ai c ci ys xi := by
  refine ⟨h.1.touch ht fun j hj => ⟨(h.2 j hj).1, fun e => (h.2 j hj).2.2.1 e.symm⟩, fun j hj => ⟨(h.2 j hj).1, (h.2 j hj).2.1, ?_, (h.2 j hj).2.2.2⟩⟩
  intro e
  have e' : a = j := by injection e
  subst e'
  rcases ha with g | g
  · exact (h.2 a hj).2.2.1 g
  · have := (World.ownsRow.lt h.1 a hj).2
    omega
theorem RosRow.idle (h : RosRow w R rc ro B gb gi Ab Ai cb ci xb xi) (ht : Touch gi (Value.slice Ai xi.length ci).ownBlock w w') {a c : Nat} {ys : List Rn} (ha : (Value.slice Ai xi.length ci).ownBlock = some a ∨ w.heap.size ≤ a) : RosRow w' R rc ro B gb gi Ab (some ⟨a, 0, none⟩) cb c xb ys := by
  refine ⟨h.1.touch ht fun j hj => ⟨(h.2 j hj).2.1, fun e => (h.2 j hj).2.2.2 e.symm⟩, fun j hj => ⟨(h.2 j hj).1, (h.2 j hj).2.1, (h.2 j hj).2.2.1, ?_⟩⟩
  intro e
  have e' : a = j := by injection e
  subst e'
  rcases ha with g | g
  · exact (h.2 a hj).2.2.2 g
  · have := (World.ownsRow.lt h.1 a hj).2
    omega
theorem RosRow.below (h : RosRow w R rc ro B gb gi Ab Ai cb ci xb xi) (hb : Below w.heap.size w w') : RosRow w' R rc ro B gb gi Ab Ai cb ci xb xi := ⟨h.1.below hb, h.2⟩

/-- The block of the run at hand, apart from the piles. -/
def GrOk (w : World) (gr : Nat) (a b : Int) (Ab Ai : Option Addr) (cb ci : Nat) (xb xi : List Rn) : Prop :=
  Blk w gr #[.int .i64 a, .int .i64 b] 25 ∧ (Value.slice Ab xb.length cb).ownBlock ≠ some gr ∧ (Value.slice Ai xi.length ci).ownBlock ≠ some gr
theorem GrOk.below {gr : Nat} {p q : Int} (h : GrOk w gr p q Ab Ai cb ci xb xi) (hb : Below w.heap.size w w') : GrOk w' gr p q Ab Ai cb ci xb xi := ⟨h.1.below hb, h.2⟩
theorem GrOk.busy {gr : Nat} {p q : Int} (h : GrOk w gr p q Ab Ai cb ci xb xi) (ht : Touch gb (Value.slice Ab xb.length cb).ownBlock w w') (hg : gr ≠ gb) {a c : Nat} {ys : List Rn} (ha : (Value.slice Ab xb.length cb).ownBlock = some a ∨ w.heap.size ≤ a) : GrOk w' gr p q (some ⟨a, 0, none⟩) Ai c ci ys xi := by
  have hlt := h.1.lt
  refine ⟨h.1.touch ht hg (fun e => h.2.1 e.symm), ?_, h.2.2⟩
  intro e
  have e' : a = gr := by injection e
  subst e'
  rcases ha with g | g
  · exact h.2.1 g
  · omega
theorem GrOk.idle {gr : Nat} {p q : Int} (h : GrOk w gr p q Ab Ai cb ci xb xi) (ht : Touch gi (Value.slice Ai xi.length ci).ownBlock w w') (hg : gr ≠ gi) {a c : Nat} {ys : List Rn} (ha : (Value.slice Ai xi.length ci).ownBlock = some a ∨ w.heap.size ≤ a) : GrOk w' gr p q Ab (some ⟨a, 0, none⟩) cb c xb ys := by
  have hlt := h.1.lt
  refine ⟨h.1.touch ht hg (fun e => h.2.2 e.symm), h.2.1, ?_⟩
  intro e
  have e' : a = gr := by injection e
  subst e'
  rcases ha with g | g
  · exact h.2.2 g
  · omega

/-- All that the round carries. -/
structure Bench (w0 w : World) (gb gi gr : Nat) (p q : Int) (R : Option Addr) (rc : Nat) (ro : List Int) (Ab Ai : Option Addr) (cb ci : Nat) (xb xi : List Rn) : Prop where
  off : Office w w0.heap.size gb gi Ab Ai cb ci xb xi
  ros : RosRow w R rc ro w0.heap.size gb gi Ab Ai cb ci xb xi
  run : GrOk w gr p q Ab Ai cb ci xb xi
  bel : Below w0.heap.size w0 w
  nb : gr ≠ gb
  ni : gr ≠ gi
variable {w0 : World} {gr : Nat} {p q : Int}
theorem Bench.below (h : Bench w0 w gb gi gr p q R rc ro Ab Ai cb ci xb xi) (hb : Below w.heap.size w w') : Bench w0 w' gb gi gr p q R rc ro Ab Ai cb ci xb xi :=
  ⟨h.off.below hb, h.ros.below hb, h.run.below hb, h.bel.trans (hb.mono h.bel.size), h.nb, h.ni⟩
theorem Bench.drewN (h : Bench w0 w gb gi gr p q R rc ro Ab Ai cb ci xb xi) (n : Nat) : Bench w0 (w.drewN n) gb gi gr p q R rc ro Ab Ai cb ci xb xi :=
  h.below (w' := w.drewN n) ⟨rfl, rfl, rfl, Nat.le_refl _, fun _ _ => rfl⟩
theorem Bench.busy (h : Bench w0 w gb gi gr p q R rc ro Ab Ai cb ci xb xi) {a c : Nat} {ys : List Rn} (hp : PileIs w' gb (.func (.func 29) #[] #[]) (some ⟨a, 0, none⟩) c ys) (hh : Heap Rn.e ys)
    (ht : Touch gb (Value.slice Ab xb.length cb).ownBlock w w') (ha : (Value.slice Ab xb.length cb).ownBlock = some a ∨ w.heap.size ≤ a) : Bench w0 w' gb gi gr p q R rc ro (some ⟨a, 0, none⟩) Ai c ci ys xi :=
  ⟨(h.off.busy h.bel.size hp hh ht ha).1, h.ros.busy ht ha, h.run.busy ht h.nb ha, h.bel.trans (h.off.busy h.bel.size hp hh ht ha).2, h.nb, h.ni⟩
theorem Bench.idle (h : Bench w0 w gb gi gr p q R rc ro Ab Ai cb ci xb xi) {a c : Nat} {ys : List Rn} (hp : PileIs w' gi (.func (.func 30) #[] #[]) (some ⟨a, 0, none⟩) c ys) (hh : Heap Rn.s ys)
    (ht : Touch gi (Value.slice Ai xi.length ci).ownBlock w w') (ha : (Value.slice Ai xi.length ci).ownBlock = some a ∨ w.heap.size ≤ a) : Bench w0 w' gb gi gr p q R rc ro Ab (some ⟨a, 0, none⟩) cb c xb ys :=
  ⟨(h.off.idle h.bel.size hp hh ht ha).1, h.ros.idle ht ha, h.run.idle ht h.ni ha, h.bel.trans (h.off.idle h.bel.size hp hh ht ha).2, h.nb, h.ni⟩
/-- The roster grows. -/
theorem Bench.grow (h : Bench w0 w gb gi gr p q R rc ro Ab Ai cb ci xb xi) (hgr : ∀ j, (Value.slice R ro.length rc).ownBlock = some j → j ≠ gr) {R' : Option Addr} {rc' : Nat} {ro' : List Int} (hg : w.grownBy w' (Value.slice R ro.length rc).ownBlock) (ho : IOwn w' w0.heap.size R' rc' ro')
    (hloc : (Value.slice R' ro'.length rc').ownBlock = (Value.slice R ro.length rc).ownBlock ∨ (Value.slice R' ro'.length rc').ownBlock = some w.heap.size) : Bench w0 w' gb gi gr p q R' rc' ro' Ab Ai cb ci xb xi := by
  have hrow : ∀ b, b < w.heap.size → (∀ j, (Value.slice R ro.length rc).ownBlock = some j → j ≠ b) → w'.heap[b]? = w.heap[b]? := fun b hb hne => hg.block b hb (fun e => hne b e.symm rfl)
  have hpb := h.off.pb.kept (w' := w') (hrow gb h.off.pb.lt fun j hj => (h.ros.2 j hj).1) (fun b hb => hrow b (h.off.pb.row_lt hb) fun j hj e => (h.ros.2 j hj).2.2.1 (by rw [hb, e]))
  have hpi := h.off.pi.kept (w' := w') (hrow gi h.off.pi.lt fun j hj => (h.ros.2 j hj).2.1) (fun b hb => hrow b (h.off.pi.row_lt hb) fun j hj e => (h.ros.2 j hj).2.2.2 (by rw [hb, e]))
  refine ⟨{ h.off with pb := hpb, pi := hpi }, ⟨ho, fun j hj => ?_⟩, ⟨?_, h.run.2⟩, ?_, h.nb, h.ni⟩
  · rcases hloc with e | e
    · exact h.ros.2 j (by rw [← e]; exact hj)
    · have e2 : j = w.heap.size := by rw [e] at hj; injection hj with hj; exact hj.symm
      have l1 := h.off.pb.lt
      have l2 := h.off.pi.lt
      refine ⟨by omega, by omega, fun g => ?_, fun g => ?_⟩
      · have := h.off.pb.row_lt g; omega
      · have := h.off.pi.row_lt g; omega
  · have hlt := h.run.1.lt
    have := h.run.1
    unfold Blk at *
    rw [hrow gr hlt (fun j hj => hgr j hj)]
    exact this
  · refine h.bel.grown hg h.bel.size fun j hj => (World.ownsRow.lt h.ros.1 j hj).1
end

theorem team_field (a b : Value) (w : World) : Sem.run Try.prog (Instr.field 58 (.agg #[a, b]) 0) w = .ok a w := by kernel_rfl

set_option maxRecDepth 100000 in
set_option maxHeartbeats 4000000 in
theorem iRM_yes (A : Option Addr) (c : Nat) (xs : List Rn) (rest : Int) (w : World) (h : Cells w A (fr xs)) (hl : xs.length ≤ 1048576) (hv : ROk xs rest) :
    Calls Try.prog 22 #[.slice A xs.length c, .int .i64 rest] w (IPair (gRo xs rest) true w) := by
  obtain ⟨i0, hi0, hz0, hz1, hz2⟩ := info_parts int_info
  obtain ⟨hv, r0, r1⟩ := hv
  have HV := Lib.hid hv
  have h12 := hv.1
  clear hv
  go_enter Try.func22, Try.ntmps22
  go_wp2_with fail
  have O0 := Lib.hid (IOwn.empty w w.heap.size (Nat.le_refl _))
  have B0 := Lib.hid ((Below.refl w.heap.size w).alloc (Nat.le_refl _) (.cells #[] 3))
  refine (iRV_yes (h.alloc _) hl HV.out).mono ?_
  rintro e w1 ⟨rfl, b1⟩
  have O1 := Lib.hid (O0.out.below b1)
  have B1 := Lib.hid (B0.out.trans (b1.mono (by simp)))
  have sz1 : w.heap.size < w1.heap.size := by have := b1.size; simp at this; omega
  clear b1 O0 B0
  go_wp2_with fail
  refine (rvT _ _ r0 r1).mono ?_
  rintro e w2 ⟨rfl, rfl⟩
  go_wp2_with fail
  have OFF : Hid (Office ((w1.alloc (.cells #[.slice none 0 0, .func (.func 29) #[] #[]] 62)).alloc (.cells #[.slice none 0 0, .func (.func 30) #[] #[]] 62)) w.heap.size w1.heap.size (w1.heap.size + 1) none none 0 0 [] []) := Lib.hid (by
    have p0 : PileIs (w1.alloc (.cells #[.slice none 0 0, .func (.func 29) #[] #[]] 62)) w1.heap.size (.func (.func 29) #[] #[]) none 0 [] := ⟨Blk.new w1 _ _, World.ownsRow_nil _ _ _ _, by simp [Value.ownBlock]⟩
    have p1 : PileIs ((w1.alloc (.cells #[.slice none 0 0, .func (.func 29) #[] #[]] 62)).alloc (.cells #[.slice none 0 0, .func (.func 30) #[] #[]] 62)) (w1.heap.size + 1) (.func (.func 30) #[] #[]) none 0 [] := ⟨by have := Blk.new (w1.alloc (.cells #[.slice none 0 0, .func (.func 29) #[] #[]] 62)) #[.slice none 0 0, .func (.func 30) #[] #[]] 62; simpa using this, World.ownsRow_nil _ _ _ _, by simp [Value.ownBlock]⟩
    exact ⟨p0.below ((Below.refl _ _).alloc (Nat.le_refl _) _), p1, heap_nil, heap_nil, by omega, by omega, by omega, by simp [Value.ownBlock], by simp [Value.ownBlock], by simp [Value.ownBlock]⟩)
  have O2 := Lib.hid (show IOwn ((w1.alloc (.cells #[.slice none 0 0, .func (.func 29) #[] #[]] 62)).alloc (.cells #[.slice none 0 0, .func (.func 30) #[] #[]] 62)) w.heap.size (some ⟨w.heap.size, 0, none⟩) 0 [] from O1.out.below (((Below.refl _ _).alloc (Nat.le_refl _) _).alloc (by simp) _))
  have B2 := Lib.hid (show Below w.heap.size w ((w1.alloc (.cells #[.slice none 0 0, .func (.func 29) #[] #[]] 62)).alloc (.cells #[.slice none 0 0, .func (.func 30) #[] #[]] 62)) from (B1.out.alloc (by omega) _).alloc (by simp; omega) _)
  clear O1 B1
  go_loopw [6, 9, 29] (fun o tm i wr => ∃ (k T : Nat) (ro : List Int) (R : Option Addr) (rc : Nat) (Ab Ai : Option Addr) (cb ci : Nat) (xb xi : List Rn), k ≤ xs.length ∧ ro.length = k ∧ o = .slice R ro.length rc ∧ tm = .int .i64 T ∧ i = .int .i64 k ∧ T ≤ k ∧
      RosRow wr R rc ro w.heap.size w1.heap.size (w1.heap.size + 1) Ab Ai cb ci xb xi ∧ Office wr w.heap.size w1.heap.size (w1.heap.size + 1) Ab Ai cb ci xb xi ∧ Stand xs rest ro k xb xi T (rprev xs k) ∧ Greedy xs rest ro k ∧ Below w.heap.size w wr) (fun _ _ i _ => xs.length - (intOf i).toNat)
  case atStart => exact ⟨0, 0, [], some ⟨w.heap.size, 0, none⟩, 0, none, none, 0, 0, [], [], Nat.zero_le _, rfl, rfl, rfl, rfl, Nat.le_refl _, ⟨O2.out, fun j hj => by
      have hj' : w.heap.size = j := by injection hj
      exact ⟨by omega, by omega, by simp [Value.ownBlock], by simp [Value.ownBlock]⟩⟩, OFF.out, Stand.start _ _ _, fun i hi => absurd hi (by omega), B2.out⟩
  case round =>
    obtain ⟨k, T, ro, R, rc, Ab, Ai, cb, ci, xb, xi, hk, hrl, rfl, rfl, rfl, hTk, hros, hoff, hst, hgr, hbel⟩ := hrel
    subst hrl
    have ROS := Lib.hid hros
    have OFFR := Lib.hid hoff
    have ST := Lib.hid hst
    have GR := Lib.hid hgr
    have BEL := Lib.hid hbel
    clear O2 OFF B2 hros hoff hst hgr hbel
    by_cases hlt : ro.length < xs.length
    · have sz := BEL.out.size
      obtain ⟨b, o, hA, hb, c0, c1⟩ := h.at2 hlt
      have d0 := (BEL.out.cell (p := ⟨b, o + ro.length * 2, none⟩) hb).trans c0
      have d1 := (BEL.out.cell (p := ⟨b, o + ro.length * 2 + 1, none⟩) hb).trans c1
      obtain ⟨u0, u1, u2⟩ := HV.out.times hlt
      have RP := Lib.hid (HV.out.2 ro.length hlt).1
      have i2 : (ro.length : Int) < (xs.length : Int) := by omega
      subst hA
      clear c0 c1
      go_wp2_with fail
      have BN := Lib.hid (show Bench w (wr.alloc (.cells #[.int .i64 (rs xs ro.length), .int .i64 (re xs ro.length)] 25)) w1.heap.size (w1.heap.size + 1) wr.heap.size (rs xs ro.length) (re xs ro.length) R rc ro Ab Ai cb ci xb xi from by
        have b0 : Below wr.heap.size wr (wr.alloc (.cells #[.int .i64 (rs xs ro.length), .int .i64 (re xs ro.length)] 25)) := (Below.refl _ _).alloc (Nat.le_refl _) _
        have l1 := OFFR.out.pb.lt
        have l2 := OFFR.out.pi.lt
        exact ⟨OFFR.out.below b0, ROS.out.below b0, ⟨Blk.new wr _ _, fun e => by have := OFFR.out.pb.row_lt e; omega, fun e => by have := OFFR.out.pi.row_lt e; omega⟩, BEL.out.alloc (by omega) _, by omega, by omega⟩)
      have RN := Lib.hid (show ∀ j, (Value.slice R ro.length rc).ownBlock = some j → j ≠ wr.heap.size from fun j hj e => by have := (World.ownsRow.lt ROS.out.1 j hj).2; omega)
      have ST1 := Lib.hid (ST.out.later RP.out)
      have k12 : ro.length < 12 := by omega
      have g1 : w1.heap.size < wr.heap.size := OFFR.out.pb.lt
      obtain ⟨wg, hwg⟩ : ∃ wg, wg = wr.alloc (.cells #[.int .i64 (rs xs ro.length), .int .i64 (re xs ro.length)] 25) := ⟨_, rfl⟩
      rw [← hwg] at BN ⊢
      obtain ⟨gr, hgr⟩ : ∃ gr, gr = wr.heap.size := ⟨_, rfl⟩
      rw [← hgr] at BN RN ⊢
      clear hwg hgr d0 d1 OFFR ROS ST BEL g1 sz
      go_loopg [33] (xb.length + 1) (fun gk _ wi => ∃ (Ab Ai : Option Addr) (cb ci : Nat) (xb xi : List Rn), gk = xb.length + 1 ∧ Bench w wi w1.heap.size (w1.heap.size + 1) gr (rs xs ro.length) (re xs ro.length) R rc ro Ab Ai cb ci xb xi ∧ Stand xs rest ro ro.length xb xi T (rs xs ro.length))
      case atStart => exact ⟨Ab, Ai, cb, ci, xb, xi, rfl, BN.out, ST1.out⟩
      case round =>
        obtain ⟨Ab', Ai', cb', ci', xb', xi', rfl, hbn, hst⟩ := hrel
        clear BN ST1
        have BN := Lib.hid hbn
        have ST := Lib.hid hst
        have hlen := hst.len
        clear hbn hst
        have p0 := BN.out.off.pb.blk.cell 0
        simp at p0
        have m1 : xb'.length ≤ 100 := by have := ST.out.few; omega
        have m2 : xi'.length ≤ 100 := by have := ST.out.few; omega
        clear hlen
        by_cases hmv : 0 < xb'.length ∧ (pg xb' 0).e ≤ rs xs ro.length
        · obtain ⟨hz, hc⟩ := hmv
          obtain ⟨a, hA, -, lc1, lc2, -⟩ := BN.out.off.pb.at hz
          subst hA
          have x1 : wr.cell? ⟨a, 1, none⟩ = some (.int .i64 (pg xb' 0).e) := by
            have := (BN.out.off.pb.cell hz).2
            rw [Nat.zero_mul] at this
            exact this
          have q0 := BN.out.run.1.cell 0
          simp at q0
          obtain ⟨n, hn⟩ : ∃ n, xb'.length = n + 1 := ⟨xb'.length - 1, by omega⟩
          have HN := Lib.hid hn
          obtain ⟨m, hm⟩ : ∃ m, m = xb'.length := ⟨_, rfl⟩
          rw [← hm] at p0 hz
          clear hn hm
          have z1 : (0 : Int) < (m : Int) := by omega
          have z2 : decide ((0 : Int) < (m : Int)) = true := by simp; omega
          go_wp2_with fail
          go_quiet (fail)
          have BQ := BN.out.drewN nq
          generalize wr.drewN nq = wq at BQ ⊢
          have BQ' := Lib.hid BQ
          clear BQ BN p0 x1 q0 z1 z2 lc1 lc2
          go_wp2_with fail
          refine (pop_busy w1.heap.size a cb' n xb' wq BQ'.out.off.pb BQ'.out.off.hb HN.out m1).mono ?_
          rintro e wp ⟨rfl, ysb, pb2, hb2, hpm, ht2⟩
          have BP := Lib.hid (BQ'.out.busy pb2 hb2 ht2 (.inl rfl))
          have PM := Lib.hid hpm
          clear pb2 hb2 hpm ht2 BQ'
          go_wp2_with fail
          refine (push_idle (w1.heap.size + 1) ci' Ai' xi' (pg xb' 0) wp BP.out.off.pi BP.out.off.hi m2).mono ?_
          rintro e wz ⟨rfl, ai, ci2, ysi, pi2, hi2, hpi, ht3, ha3⟩
          have BZ := Lib.hid (BP.out.idle pi2 hi2 ht3 ha3)
          have ST2 := Lib.hid (((ST.out.perm PM.out (List.Perm.refl _)).move hc).perm (List.Perm.refl _) (hpi.trans List.perm_append_comm))
          clear pi2 hi2 hpi ht3 ha3 BP
          go_wp2_with fail
          go_roundg (ysb.length + 1)
          case rel => exact ⟨some ⟨a, 0, none⟩, some ⟨ai, 0, none⟩, cb', ci2, ysb, ysi, rfl, BZ.out, ST2.out⟩
          case measure => have := PM.out.length_eq; simp at this; omega
        · have hor : xb' = [] ∨ (0 < xb'.length ∧ rs xs ro.length < (pg xb' 0).e) := by
            rcases Nat.eq_zero_or_pos xb'.length with z | z
            · exact .inl (List.eq_nil_of_length_eq_zero z)
            · exact .inr ⟨z, by omega⟩
          clear hmv
          have ALL := Lib.hid (show ∀ x ∈ xb', rs xs ro.length < x.e from fun x hx => by
            rcases hor with rfl | ⟨_, hc⟩
            · simp at hx
            · have := heap_min_mem BN.out.off.hb x hx
              omega)
          rcases hor with hz | ⟨hz, hc⟩
          focus
            rw [show xb'.length = 0 by rw [hz]; rfl] at p0
            go_wp2_with fail
            go_quiet (fail)
          rotate_left
          focus
            obtain ⟨a, hA, -, lc1, lc2, -⟩ := BN.out.off.pb.at hz
            subst hA
            have x1 : wr.cell? ⟨a, 1, none⟩ = some (.int .i64 (pg xb' 0).e) := by
              have := (BN.out.off.pb.cell hz).2
              rw [Nat.zero_mul] at this
              exact this
            have q0 := BN.out.run.1.cell 0
            simp at q0
            obtain ⟨m, hm⟩ : ∃ m, m = xb'.length := ⟨_, rfl⟩
            rw [← hm] at p0 hz
            clear hm
            have z1 : (0 : Int) < (m : Int) := by omega
            have z2 : decide ((0 : Int) < (m : Int)) = true := by simp; omega
            have z3 : decide ((pg xb' 0).e ≤ rs xs ro.length) = false := by simp; omega
            go_wp2_with fail
            go_quiet (fail)
            clear x1 q0
          all_goals
            have BQ := BN.out.drewN nq
            generalize wr.drewN nq = wq at BQ ⊢
            have BQ' := Lib.hid BQ
            clear BQ BN p0
            have p1 := BQ'.out.off.pi.blk.cell 0
            simp at p1
            by_cases hiz : xi'.length = 0
            focus
              have hnil : xi' = [] := List.eq_nil_of_length_eq_zero hiz
              subst hnil
              simp at p1
              go_wp2_with fail
              refine (push_idle (w1.heap.size + 1) ci' Ai' [] ⟨T, 0⟩ wq BQ'.out.off.pi BQ'.out.off.hi (by simp)).mono ?_
              rintro e wz ⟨rfl, ai, ci2, ysi, pi2, hi2, hpi, ht3, ha3⟩
              have BZ := Lib.hid (BQ'.out.idle pi2 hi2 ht3 ha3)
              have hy : ysi = [⟨T, 0⟩] := by simpa using hpi
              have RD := Lib.hid (show Ready xs rest ro ro.length xb' ysi (T + 1) (rs xs ro.length) by rw [hy]; exact ST.out.readyNew 0)
              obtain ⟨n2, hn2⟩ : ∃ n2, ysi.length = n2 + 1 := ⟨0, by rw [hy]; rfl⟩
              have m3 : ysi.length ≤ 100 := by rw [hy]; simp
              have HN2 := Lib.hid hn2
              clear hy pi2 hi2 hpi ht3 ha3 BQ' ST p1 hn2
              go_wp2_with fail
            rotate_left
            focus
              obtain ⟨ai, hAi, -, -, -, -⟩ := BQ'.out.off.pi.at (i := 0) (by omega)
              subst hAi
              obtain ⟨ci2, hci⟩ : ∃ ci2, ci2 = ci' := ⟨_, rfl⟩
              obtain ⟨ysi, hys⟩ : ∃ ysi, ysi = xi' := ⟨_, rfl⟩
              obtain ⟨wz, hwz⟩ : ∃ wz, wz = wq := ⟨_, rfl⟩
              subst hci hys hwz
              have BZ := BQ'
              have RD := Lib.hid ST.out.ready
              obtain ⟨n2, hn2⟩ : ∃ n2, ysi.length = n2 + 1 := ⟨ysi.length - 1, by omega⟩
              have m3 : ysi.length ≤ 100 := m2
              have HN2 := Lib.hid hn2
              obtain ⟨m, hm⟩ : ∃ m, m = ysi.length := ⟨_, rfl⟩
              rw [← hm] at p1 hiz
              have hiz' : ¬ (m : Int) = 0 := by omega
              clear hn2 hm BQ' ST
              go_wp2_with fail
            all_goals
              refine (pop_idle (w1.heap.size + 1) ai ci2 n2 ysi wz BZ.out.off.pi BZ.out.off.hi HN2.out m3).mono ?_
              rintro e wy ⟨rfl, yd, pd, hdh, hpm, ht4⟩
              have LEI := Lib.hid (show ∀ x ∈ yd, (pg ysi 0).s ≤ x.s from fun x hx => heap_min_mem BZ.out.off.hi x (hpm.mem_iff.mp (List.mem_cons_of_mem _ hx)))
              have BY := Lib.hid (BZ.out.idle pd hdh ht4 (.inl rfl))
              have R2 := Lib.hid (RD.out.perm (List.Perm.refl xb') hpm)
              obtain ⟨d, hd⟩ : ∃ d, d = pg ysi 0 := ⟨_, rfl⟩
              rw [← hd] at R2 LEI ⊢
              have LE := Lib.hid (R2.out.least rfl ALL.out LEI.out)
              have OY : wy.ownsRow w.heap.size 3 1 (.slice R ro.length rc) ro.length (ro.map (Value.int .i64)) := BY.out.ros.1
              have sy := BY.out.bel.size
              clear hd pd hdh hpm ht4 BZ RD LEI
              have e7 : IntKind.i64.wrap (re xs ro.length + rest) = re xs ro.length + rest := IntWalk.i64_in _ (by omega)
              go_wp2_with fail
              rw [team_field]
              go_wp2_with (at_builtin; refine wpList_append_own_at _ rfl _ _ 45 rfl w.heap.size 3 i0 _ 1 8 Try.underlying45 hi0 hz0 hz1 hz2 rfl (by decide) _ _ _ rfl (OY.alloc _) ⟨wy.heap.size, 0, none⟩ 1 1 [.int .i64 d.s] rfl rfl (cell_one_new _ _ _) (ints_oneCell .i64 [d.s]) (by unfold maxLen; omega) (by omega) (by simp; omega) ?_; intro v' w5 hown' hgrow hnil hloc; clear hnil; obtain ⟨R', rc', rfl⟩ := own_formI hown'; have BG := Lib.hid ((BY.out.below ((Below.refl _ _).alloc (Nat.le_refl _) _)).grow RN.out (ro' := ro ++ [d.s]) hgrow (by unfold IOwn; rw [List.length_append, List.map_append]; exact hown') (by rw [List.length_append]; exact hloc)); have y1 := BG.out.run.1.cell 1; simp at y1; clear hown' hgrow hloc BY OY)
              refine (push_busy w1.heap.size _ _ xb' ⟨d.s, re xs ro.length + rest⟩ w5 BG.out.off.pb BG.out.off.hb m1).mono ?_
              rintro e w7 ⟨rfl, ab, cb2, yb, pb3, hb3, hpb, ht5, ha5⟩
              have BF := Lib.hid (BG.out.busy pb3 hb3 ht5 ha5)
              have S3 := Lib.hid ((R2.out.take rfl rfl u1 r0).perm (hpb.trans List.perm_append_comm) (List.Perm.refl _))
              have GS := Lib.hid (Greedy.snoc GR.out LE.out)
              clear pb3 hb3 hpb ht5 ha5 BG R2 LE
              go_wp2_with fail
              exact ⟨⟨ro.length + 1, _, ro ++ [d.s], R', rc', some ⟨ab, 0, none⟩, some ⟨ai, 0, none⟩, cb2, ci2, yb, yd, by omega, by simp, by simp, by go_num, by go_num, S3.out.few, BF.out.ros, BF.out.off, S3.out, GS.out, BF.out.bel⟩, by simp [intOf]; omega⟩
    · have HE := Lib.hid (show ro = gRo xs rest from gRo_eq (by omega) (by rw [show xs.length = ro.length by omega]; exact GR.out))
      go_wp2_with fail
      go_ret2
      exact ⟨R, rc, pair_ret (by rw [← HE.out]) rfl, by rw [← HE.out]; exact ROS.out.1, BEL.out⟩
end Go.Proofs.Ytmnoidgfcpbmgaa
