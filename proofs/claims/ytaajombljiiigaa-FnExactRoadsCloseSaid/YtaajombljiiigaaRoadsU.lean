import Derived.Test.YtaajombljiiigaaRoadsF
import Derived.Lib.AppendZeros
import Derived.Laws.AppendOwnNone
namespace Go.Proofs.Ytaajombljiiigaa
open Go.RowKit

/-- append onto an owned row, whatever the shape of what is appended. -/
theorem wpList_append_any {P : Program} {w : World} {ops : Array Oper} {rest : List Oper} {o : Oper} {a : Go.Act} {Q : Exit → Go.Act → World → Prop} (hgd : o.guard = none) (s x : Operand) (t : TypeId)
    (ho : o.op = .call { callee := .builtin .append, args := #[s, x], argTypes := #[t, t] })
    (base : Nat) (e : TypeId) (i : TypeInfo) (z : Value) (size bytes : Nat) (ht : P.underlying t = some (.slice e)) (hi : P.info? e = some i) (hz : i.zero = some z)
    (hsize : i.size = size) (hby : i.bytes = bytes) (hzs : z.cells.size = size) (hsz : 0 < size)
    (v : Value) (n : Nat) (xs : List Value) (hs : a.eval s = v) (hown : w.ownsRow base e size v n xs)
    (A : Option Addr) (m c : Nat) (news : List Value) (hx : a.eval x = .slice A m c) (hnone : A = none → m = 0 ∧ c = 0) (hl : news.length = m * size) (hnews : ∀ ad, A = some ad → ∀ j u, news[j]? = some u → w.cell? (ad.add j) = some u) (h1 : ∀ u ∈ news, u.oneCell' = true)
    (h63 : n + m ≤ maxLen) (hbytes : (n + m) * bytes ≤ 140737488355328) (hbase : base ≤ w.heap.size)
    (h : ∀ v' w', w'.ownsRow base e size v' (n + m) (xs ++ news) → w.grownBy w' v.ownBlock → wpList P ops Q rest (a.put o.dst v') w') : wpList P ops Q (o :: rest) a w := by
  cases A with
  | some ad => exact wpList_append_own w hgd s x t ho base e i z size bytes ht hi hz hsize hby hzs hsz v n xs hs hown ad m c news hx hl (hnews ad rfl) h1 h63 hbytes hbase fun v' w' h2 h3 _ => h v' w' h2 h3
  | none =>
    obtain ⟨rfl, rfl⟩ := hnone rfl
    have hnews' : news = [] := List.eq_nil_of_length_eq_zero (by simpa using hl)
    subst hnews'
    refine wpList_append_own_none hgd s x t ho base e i size ht hi v n xs hs hown hx ?_
    exact h v w (by simpa using hown) ⟨rfl, rfl, rfl, Nat.le_refl _, fun _ _ _ => rfl⟩

/-- One part of a concatenation: where it lies, its capacity, what it holds. -/
structure Pc where
  A : Option Addr
  c : Nat
  xs : List Rd3
def pz : Pc := ⟨none, 0, []⟩
def catR (ps : List Pc) : List Rd3 := ps.flatMap fun p => p.xs
theorem catR_take (ps : List Pc) (k : Nat) (h : k < ps.length) : catR (ps.take (k + 1)) = catR (ps.take k) ++ (ps.getD k pz).xs := by
  have : ps.take (k + 1) = ps.take k ++ [ps.getD k pz] := by
    rw [List.take_add_one]; simp [List.getElem?_eq_getElem h]
  rw [this]; simp [catR]
theorem catR_le (ps : List Pc) (k : Nat) : (catR (ps.take k)).length ≤ (catR ps).length := by
  have : catR ps = catR (ps.take k) ++ catR (ps.drop k) := by
    rw [catR, catR, catR, ← List.flatMap_append, List.take_append_drop]
  rw [this, List.length_append]; omega
/-- The parts lie in memory. -/
def PcAt (w : World) (b : Nat) (ps : List Pc) : Prop := b < w.heap.size ∧ ∀ j, j < ps.length →
  w.cell? ⟨b, j, none⟩ = some (.slice (ps.getD j pz).A (ps.getD j pz).xs.length (ps.getD j pz).c) ∧ ((ps.getD j pz).A = none → (ps.getD j pz).xs.length = 0 ∧ (ps.getD j pz).c = 0) ∧ Cells w (ps.getD j pz).A (fd (ps.getD j pz).xs)
theorem PcAt.below {w w' : World} {b : Nat} {ps : List Pc} (h : PcAt w b ps) (hb : Below w.heap.size w w') : PcAt w' b ps :=
  ⟨Nat.lt_of_lt_of_le h.1 hb.size, fun j hj => ⟨(hb.cell (p := ⟨b, j, none⟩) h.1).trans (h.2 j hj).1, (h.2 j hj).2.1, (h.2 j hj).2.2.below hb⟩⟩
theorem Cells.news {w : World} {A : Option Addr} {zs : List Int} (h : Cells w A zs) : ∀ ad, A = some ad → ∀ j u, (zs.map (Value.int .i64))[j]? = some u → w.cell? (ad.add j) = some u := by
  intro ad had j u hu
  have hj : j < zs.length := by
    have := (List.getElem?_eq_some_iff.1 hu).1
    simpa using this
  rcases h with h | ⟨b, o, hA, hb, hc⟩
  · rw [h] at hj; simp at hj
  · rw [hA] at had
    obtain rfl := Option.some.inj had
    rw [Addr.add_lit, hc j hj, ← hu]
    simp [List.getElem?_eq_getElem hj]

set_option maxRecDepth 100000 in
set_option maxHeartbeats 1000000 in
theorem grow_any (n : Nat) (w : World) (hn : n ≤ 4000000) :
    Calls Try.prog 40 #[.slice none 0 0, .int .i64 n] w fun e w' => ∃ A c, e = .returned (.slice A 0 c) ∧ DOwn w' w.heap.size A c [] ∧ Below w.heap.size w w' := by
  obtain ⟨i0, hi0, hz0, hz1, hz2⟩ := info_parts road_info
  by_cases h0 : 0 < n
  · obtain ⟨cp, hcp⟩ : ∃ cp, cp = grownCap w n 0 36 := ⟨_, rfl⟩
    have hge : n ≤ cp := by rw [hcp]; exact grownCap_ge w n 0 _
    have hle : cp ≤ maxLen := by rw [hcp]; exact grownCap_le_maxLen w n 0 _ (by unfold maxLen; omega)
    have hle' : cp ≤ 9223372036854775807 := by unfold maxLen at hle; omega
    obtain ⟨cur, hcur⟩ : ∃ cur, cur = Builtin.zeroCells (Value.agg #[.int .i64 0, .int .i64 0, .int .i64 0]).cells n ++ Builtin.zeroCells (Value.agg #[.int .i64 0, .int .i64 0, .int .i64 0]).cells (cp - n) := ⟨_, rfl⟩
    have hsz : cur.size = cp * 3 := by
      rw [hcur, Array.size_append, size_zeroCells, size_zeroCells]
      show n * 3 + (cp - n) * 3 = cp * 3
      omega
    have hrun := Lib.run_append_nil_zeros (P := Try.prog) w 25 3 25 36 i0 _ .i64 .i64 Try.underlying25 Try.underlying3 hi0 hz0 n h0 (by omega) (by omega) (by rw [hz2]; omega)
    rw [← hcp, ← hcur] at hrun
    have HO := Lib.hid (World.ownsRow_made (base := w.heap.size) (e := 36) (size := 3) w.drew cur cp (Nat.le_refl _) hle hsz)
    have HB := Lib.hid (((Below.refl w.heap.size w).drew).alloc (Nat.le_refl _) (.cells cur 36))
    have HR := Lib.hid hrun
    clear hcp hcur hrun hsz hle
    go_enter Try.func40, Try.ntmps40
    go_wp2_with (at_builtin; refine Lib.wpList_append_run _ rfl _ _ _ _ rfl _ _ rfl rfl _ _ HR.out ?_)
    go_ret
    exact ⟨_, _, rfl, HO.out, HB.out⟩
  · obtain rfl : n = 0 := by omega
    go_enter Try.func40, Try.ntmps40
    go_wp2_with fail
    go_ret
    exact ⟨_, _, rfl, World.ownsRow_nil _ _ _ _, Below.refl _ _⟩

set_option maxRecDepth 100000 in
set_option maxHeartbeats 1000000 in
theorem concat_any (b cc : Nat) (ps : List Pc) (w : World) (h : PcAt w b ps) (hl : (catR ps).length ≤ 3200000) (hn : ps.length ≤ 100) :
    Calls Try.prog 34 #[.slice (some ⟨b, 0, none⟩) ps.length cc] w fun e w' => ∃ A c, e = .returned (.slice A (catR ps).length c) ∧ DOwn w' w.heap.size A c (catR ps) ∧ Below w.heap.size w w' := by
  obtain ⟨i0, hi0, hz0, hz1, hz2⟩ := info_parts road_info
  have HH := Lib.hid h
  have HT := Lib.hid (catR_take ps)
  have HL := Lib.hid (catR_le ps)
  clear h
  go_enter Try.func34, Try.ntmps34
  go_wp2_with fail
  go_loop [3, 11] (fun s i => ∃ k : Nat, k ≤ ps.length ∧ s = .int .i64 ((catR (ps.take k)).length : Int) ∧ i = .int .i64 k) (fun _ i => ps.length - (intOf i).toNat)
  case atStart => exact ⟨0, Nat.zero_le _, by simp [catR], rfl⟩
  case round =>
    obtain ⟨k, hk, rfl, rfl⟩ := hrel
    by_cases hlt : k < ps.length
    · obtain ⟨c0, -, -⟩ := HH.out.2 k hlt
      have a1 := HL.out (k + 1)
      have a2 := congrArg List.length (HT.out k hlt)
      rw [List.length_append] at a2
      obtain ⟨q, hq⟩ : ∃ q, q = (catR (ps.take k)).length := ⟨_, rfl⟩
      obtain ⟨q', hq'⟩ : ∃ q', q' = (catR (ps.take (k + 1))).length := ⟨_, rfl⟩
      obtain ⟨m, hm⟩ : ∃ m, m = (ps.getD k pz).xs.length := ⟨_, rfl⟩
      rw [← hm] at c0 a2
      rw [← hq'] at a1 a2
      rw [← hq] at a2 ⊢
      clear hq hm
      have e5 : IntKind.i64.wrap ((q : Int) + (m : Int)) = (q' : Int) := by rw [show (q : Int) + (m : Int) = (q' : Int) by omega]; exact IntWalk.i64_in _ (by omega)
      go_wp2_with fail
      go_round
      case rel => exact ⟨k + 1, by omega, by first | rfl | rw [hq'], by go_num⟩
      case measure => simp [intOf]; omega
    · obtain rfl : k = ps.length := by omega
      rw [List.take_length]
      go_wp2_with fail
      refine (grow_any _ _ (by omega)).mono ?_
      rintro e w1 ⟨A1, c1, rfl, o1, b1⟩
      have R1 := Lib.hid (And.intro o1 b1)
      clear o1 b1
      go_wp2_with fail
      go_loopw [6, 27] (fun s i wr => ∃ k : Nat, k ≤ ps.length ∧ i = .int .i64 k ∧ wr.ownsRow w.heap.size 36 3 s (catR (ps.take k)).length ((fd (catR (ps.take k))).map (Value.int .i64)) ∧ Below w.heap.size w wr) (fun _ i _ => ps.length - (intOf i).toNat)
      case atStart => exact ⟨0, Nat.zero_le _, rfl, R1.out.1, R1.out.2⟩
      case round =>
        obtain ⟨k, hk, rfl, hown, hbel⟩ := hrel
        by_cases hlt : k < ps.length
        · obtain ⟨c0, n0, l0⟩ := (HH.out.below hbel).2 k hlt
          have a1 := HL.out (k + 1)
          have a2 := HT.out k hlt
          have hs1 := hbel.size
          obtain ⟨p, hp⟩ : ∃ p, p = ps.getD k pz := ⟨_, rfl⟩
          obtain ⟨q, hq⟩ : ∃ q, q = catR (ps.take k) := ⟨_, rfl⟩
          obtain ⟨q', hq'⟩ : ∃ q', q' = catR (ps.take (k + 1)) := ⟨_, rfl⟩
          rw [← hp] at c0 n0 l0 a2
          rw [← hq'] at a1 a2
          rw [← hq] at a2 hown
          rw [a2, List.length_append] at a1
          have a3 : (catR (ps.take (k + 1))).length = q.length + p.xs.length := by rw [← hq', a2, List.length_append]
          have a4 : (fd (catR (ps.take (k + 1)))).map (Value.int .i64) = (fd q).map (Value.int .i64) ++ (fd p.xs).map (Value.int .i64) := by rw [← hq', a2, fd_append, List.map_append]
          have NW := Lib.hid l0.news
          have A34 := Lib.hid (And.intro a3 a4)
          have HB := Lib.hid hbel
          have HO := Lib.hid hown
          clear hp hq hq' a2 a3 a4 l0 hbel hown
          go_wp2_with (at_builtin; refine wpList_append_any rfl _ _ 25 rfl w.heap.size 36 i0 _ 3 24 Try.underlying25 hi0 hz0 hz1 hz2 rfl (by decide) _ q.length _ rfl HO.out p.A p.xs.length p.c ((fd p.xs).map (Value.int .i64)) rfl n0 (by rw [List.length_map, fd_len]) NW.out (ints_oneCell _ _) (by unfold maxLen; omega) (by omega) hs1 ?_; intro v' w3 hown' hgrow; have bel3 := HB.out.grown hgrow hs1 (fun q hq => (HO.out.lt q hq).1); have R := Lib.hid (And.intro hown' bel3); clear hown' hgrow bel3)
          exact ⟨⟨k + 1, by omega, by go_num, by rw [A34.out.1, A34.out.2]; exact R.out.1, R.out.2⟩, by simp [intOf]; omega⟩
        · obtain rfl : k = ps.length := by omega
          rw [List.take_length] at hown
          obtain ⟨A', c', rfl⟩ := own_formI hown
          go_wp2_with fail
          go_ret
          exact ⟨A', c', rfl, hown, hbel⟩

theorem fd_takeN' (xs : List Rd3) : ∀ k, fd (xs.take k) = (fd xs).take (k * 3) := by
  induction xs with
  | nil => intro k; simp [fd]
  | cons s xs ih =>
    intro k
    cases k with
    | zero => rfl
    | succ k => rw [List.take_succ_cons, fd_cons, ih k, fd_cons, show (k + 1) * 3 = k * 3 + 3 by omega]; rfl
theorem fd_dropN (xs : List Rd3) : ∀ k, fd (xs.drop k) = (fd xs).drop (k * 3) := by
  induction xs with
  | nil => intro k; simp [fd]
  | cons s xs ih =>
    intro k
    cases k with
    | zero => rfl
    | succ k => rw [List.drop_succ_cons, ih k, fd_cons, show (k + 1) * 3 = k * 3 + 3 by omega]; rfl
theorem Cells.takeI {w : World} {A : Option Addr} {zs : List Int} (h : Cells w A zs) (n : Nat) : Cells w A (zs.take n) := by
  rcases h with h | ⟨b, o, rfl, hb, hc⟩
  · exact .inl (by rw [h, List.take_nil])
  · refine .inr ⟨b, o, rfl, hb, fun j hj => ?_⟩
    rw [List.length_take] at hj
    rw [hc j (by omega), List.getD_eq_getElem?_getD, List.getD_eq_getElem?_getD, List.getElem?_take, if_pos (by omega)]
theorem Cells.takeD {w : World} {A : Option Addr} {xs : List Rd3} (h : Cells w A (fd xs)) (n : Nat) : Cells w A (fd (xs.take n)) := by
  rw [fd_takeN']; exact h.takeI _
theorem Cells.dropI {w : World} {b o : Nat} {zs : List Int} (h : Cells w (some ⟨b, o, none⟩) zs) (n : Nat) : Cells w (some ⟨b, o + n, none⟩) (zs.drop n) := by
  rcases h with h | ⟨b', o', he, hb, hc⟩
  · exact .inl (by rw [h, List.drop_nil])
  · injection he with he
    injection he with h1 h2
    subst h1 h2
    refine .inr ⟨b, o + n, rfl, hb, fun j hj => ?_⟩
    rw [List.length_drop] at hj
    have := hc (n + j) (by omega)
    rw [Nat.add_assoc, this, List.getD_eq_getElem?_getD, List.getD_eq_getElem?_getD, List.getElem?_drop]
theorem Cells.dropD {w : World} {b o : Nat} {xs : List Rd3} (h : Cells w (some ⟨b, o, none⟩) (fd xs)) (n : Nat) : Cells w (some ⟨b, o + n * 3, none⟩) (fd (xs.drop n)) := by
  rw [fd_dropN]; exact h.dropI _

end Go.Proofs.Ytaajombljiiigaa
