import Derived.Test.YtmpkdnikkganlaaChecked
import Derived.WalkKit
import Derived.ProofKit
import Derived.Below
import Derived.Outline
import Derived.WalkSpells
import Derived.WalkLawsBesides
import Derived.Lib.Hide
import Derived.WalkSmall
import Derived.Deep.QuietTactic
import Derived.BigQuiet
import Derived.IntWalk
import Derived.OpenShut
namespace Go.Proofs.Ytmpkdnikkganlaa
open Go.RowKit

/-- All blocks but r are as they were. -/
structure Only (r : Nat) (w w' : World) : Prop where
  os : w'.os = w.os
  tape : w'.tape = w.tape
  output : w'.output = w.output
  size : w'.heap.size = w.heap.size
  block : ∀ k, k ≠ r → w'.heap[k]? = w.heap[k]?

theorem Only.refl (r : Nat) (w : World) : Only r w w := ⟨rfl, rfl, rfl, rfl, fun _ _ => rfl⟩
theorem Only.trans {r : Nat} {a b c : World} (h : Only r a b) (k : Only r b c) : Only r a c :=
  ⟨k.os.trans h.os, k.tape.trans h.tape, k.output.trans h.output, k.size.trans h.size, fun i hi => (k.block i hi).trans (h.block i hi)⟩
theorem Only.below {r B : Nat} {w w' : World} (h : Only r w w') (hB : B ≤ r) : Below B w w' :=
  ⟨h.os, h.tape, h.output, Nat.le_of_eq h.size.symm, fun k hk => h.block k (by omega)⟩
theorem Only.setCell (r : Nat) (w : World) (o : Nat) (u : Value) : Only r w (w.setCell ⟨r, o, none⟩ u) :=
  ⟨rfl, rfl, rfl, by simp [World.setCell], fun k hk => Below.heap_setCell _ _ _ _ hk⟩
theorem Only.drewN {r : Nat} {a w : World} (h : Only r a w) (n : Nat) : Only r a (w.drewN n) := h.trans ⟨rfl, rfl, rfl, rfl, fun _ _ => rfl⟩

/-- A reader of a code: block r holds it, at a place from 0 to b; its bytes lie below block r. -/
def Rd (w : World) (r : Nat) (b : Int) : Prop :=
  ∃ (a : Option Addr) (len cap : Nat) (p : Int), w.heap[r]? = some (.cells #[.slice a len cap, .int .i64 p] 72 (0, 0)) ∧ 0 ≤ p ∧ p ≤ b ∧ len ≤ 2000 ∧
    (len = 0 ∨ ∃ ab ao, a = some ⟨ab, ao, none⟩ ∧ ab < r ∧ ∀ i, i < len → ∃ v : Int, 0 ≤ v ∧ v < 256 ∧ w.cell? ⟨ab, ao + i, none⟩ = some (.int .u8 v))

theorem Rd.keep {w w' : World} {r : Nat} {b : Int} (h : Rd w r b) (hb : Below (r + 1) w w') : Rd w' r b := by
  obtain ⟨a, len, cap, p, h1, h2, h3, h4, h5⟩ := h
  refine ⟨a, len, cap, p, by rw [hb.block r (by omega)]; exact h1, h2, h3, h4, ?_⟩
  rcases h5 with h5 | ⟨ab, ao, e, hlt, hv⟩
  · exact .inl h5
  · refine .inr ⟨ab, ao, e, hlt, fun i hi => ?_⟩
    obtain ⟨v, v1, v2, v3⟩ := hv i hi
    exact ⟨v, v1, v2, by rw [hb.cell (p := ⟨ab, ao + i, none⟩) (by show ab < r + 1; omega)]; exact v3⟩

theorem Rd.up {w : World} {r : Nat} {b c : Int} (h : Rd w r b) (hc : b ≤ c) : Rd w r c := by
  obtain ⟨a, len, cap, p, h1, h2, h3, h4⟩ := h
  exact ⟨a, len, cap, p, h1, h2, by omega, h4⟩

def Picked (r : Nat) (b n : Int) (w : World) (e : Ending) (w' : World) : Prop :=
  ∃ v : Int, e = .returned (.int .i64 v) ∧ 0 ≤ v ∧ v < n ∧ Rd w' r (b + 1) ∧ Only r w w'

theorem cells_of_block {w : World} {r : Nat} {C : Array Value} {t : TypeId} (h : w.heap[r]? = some (.cells C t (0, 0))) (k : Nat) : w.cell? ⟨r, k, none⟩ = C[k]? ∧ w.frozen? ⟨r, k, none⟩ = false := by
  constructor
  · unfold World.cell?; rw [h]; rfl
  · unfold World.frozen?; rw [h]; simp

theorem setCell_block {w : World} {r : Nat} {C : Array Value} {t : TypeId} {z : Nat × Nat} (h : w.heap[r]? = some (.cells C t z)) (k : Nat) (u : Value) :
    (w.setCell ⟨r, k, none⟩ u).heap[r]? = some (.cells (C.setIfInBounds k u) t z) := by
  simp only [World.setCell, Array.getElem?_modify, h]
  simp

theorem pick_zero (r : Nat) (b n p : Int) (a : Option Addr) (cap : Nat) (w : World) (hn : 1 ≤ n) (hp : 0 ≤ p) (hpb : p ≤ b) (hb : b ≤ 100000)
    (h : w.heap[r]? = some (.cells #[.slice a 0 cap, .int .i64 p] 72 (0, 0))) :
    Calls Try.prog 34 #[.pointer (some ⟨r, 0, none⟩), .int .i64 n] w fun e w' => e = .returned (.int .i64 0) ∧ w' = w.setCell ⟨r, 1, none⟩ (.int .i64 (p + 1)) := by
  obtain ⟨c0, f0⟩ := cells_of_block h 0
  obtain ⟨c1, f1⟩ := cells_of_block h 1
  simp at c0 c1
  have H := Lib.hid h
  clear h
  go_enter Try.func34, Try.ntmps34
  go_wp2_with fail
  go_ret
  exact ⟨rfl, rfl⟩

theorem pick_in (r : Nat) (n v : Int) (p ab ao len cap : Nat) (w : World) (hn : 1 ≤ n) (hb : p ≤ 100000) (hlen : len ≤ 2000) (hpl : p < len) (hab : ab < r) (v0 : 0 ≤ v) (v1 : v < 256)
    (h : w.heap[r]? = some (.cells #[.slice (some ⟨ab, ao, none⟩) len cap, .int .i64 p] 72 (0, 0))) (hv : w.cell? ⟨ab, ao + p, none⟩ = some (.int .u8 v)) :
    Calls Try.prog 34 #[.pointer (some ⟨r, 0, none⟩), .int .i64 n] w fun e w' => e = .returned (.int .i64 (v % n)) ∧ w' = w.setCell ⟨r, 1, none⟩ (.int .i64 (p + 1)) := by
  obtain ⟨c0, f0⟩ := cells_of_block h 0
  obtain ⟨c1, f1⟩ := cells_of_block h 1
  simp at c0 c1
  have hl0 : ((len : Int) == 0) = false := by simp; omega
  have hv' : (w.setCell ⟨r, 1, none⟩ (.int .i64 (p + 1))).cell? ⟨ab, ao + p, none⟩ = some (.int .u8 v) := by
    rw [← hv]; exact World.cell?_of_block (w := w) (Below.heap_setCell _ _ _ _ (by show ab ≠ r; omega))
  clear h hv
  go_enter Try.func34, Try.ntmps34
  go_wp2_with fail
  go_ret
  exact ⟨rfl, rfl⟩

theorem xor_i64_nat (a b : Nat) (ha : a < 1099511627776) (hb : b < 1099511627776) : bits .xor .i64 (a : Int) (b : Int) = ((a ^^^ b : Nat) : Int) := by
  have hx : a ^^^ b < 2 ^ 40 := Nat.xor_lt_two_pow (by omega) (by omega)
  have h1 : (BitVec.ofInt 64 (a : Int)).toNat = a := by
    rw [BitVec.ofInt_natCast, BitVec.toNat_ofNat]; exact Nat.mod_eq_of_lt (by omega)
  have h2 : (BitVec.ofInt 64 (b : Int)).toNat = b := by
    rw [BitVec.ofInt_natCast, BitVec.toNat_ofNat]; exact Nat.mod_eq_of_lt (by omega)
  show IntKind.i64.wrap ((BitVec.ofInt 64 (a : Int) ^^^ BitVec.ofInt 64 (b : Int)).toNat : Int) = _
  rw [BitVec.toNat_xor, h1, h2]
  exact IntWalk.i64_in _ (by omega)

theorem xor_nonneg (x : Int) (h0 : 0 ≤ x) (h1 : x < 1000000000) : 0 ≤ bits .xor .i64 x (x / 64) := by
  obtain ⟨a, rfl⟩ := Int.eq_ofNat_of_zero_le h0
  rw [show ((a : Int) / 64) = ((a / 64 : Nat) : Int) by omega, xor_i64_nat _ _ (by omega) (by omega)]
  omega

def FarPost (n : Int) (w : World) (e : Ending) (w' : World) : Prop := ∃ x : Int, 0 ≤ x ∧ e = .returned (.int .i64 (x.tmod n)) ∧ ∃ nq, w' = w.drewN nq

theorem pick_far (r : Nat) (n v u : Int) (p ab ao len cap : Nat) (w : World) (hn : 1 ≤ n) (hb : p ≤ 100000) (hlen : len ≤ 2000) (hpl : len ≤ p) (hl0 : 1 ≤ len) (hab : ab < r) (v0 : 0 ≤ v) (v1 : v < 256) (u0 : 0 ≤ u) (u1 : u < 256)
    (h : w.heap[r]? = some (.cells #[.slice (some ⟨ab, ao, none⟩) len cap, .int .i64 p] 72 (0, 0))) (hv : w.cell? ⟨ab, ao + p % len, none⟩ = some (.int .u8 v)) (hu : w.cell? ⟨ab, ao + (p * 7 + 3) % len, none⟩ = some (.int .u8 u)) :
    Calls Try.prog 34 #[.pointer (some ⟨r, 0, none⟩), .int .i64 n] w (FarPost n (w.setCell ⟨r, 1, none⟩ (.int .i64 (p + 1)))) := by
  obtain ⟨c0, f0⟩ := cells_of_block h 0
  obtain ⟨c1, f1⟩ := cells_of_block h 1
  simp at c0 c1
  have hl0' : ((len : Int) == 0) = false := by simp; omega
  have hv' : (w.setCell ⟨r, 1, none⟩ (.int .i64 (p + 1))).cell? ⟨ab, ao + p % len, none⟩ = some (.int .u8 v) := by
    rw [← hv]; exact World.cell?_of_block (w := w) (Below.heap_setCell _ _ _ _ (by show ab ≠ r; omega))
  have hu' : (w.setCell ⟨r, 1, none⟩ (.int .i64 (p + 1))).cell? ⟨ab, ao + (p * 7 + 3) % len, none⟩ = some (.int .u8 u) := by
    rw [← hu]; exact World.cell?_of_block (w := w) (Below.heap_setCell _ _ _ _ (by show ab ≠ r; omega))
  clear h hv hu
  have z1 : ¬ ((len : Int) = 0) := by omega
  have z2 : ¬ (len = 0) := by omega
  have i1 : p % len < len := Nat.mod_lt _ (by omega)
  have i2 : (p * 7 + 3) % len < len := Nat.mod_lt _ (by omega)
  have i3 : p / len ≤ 100000 := Nat.le_trans (Nat.div_le_self _ _) hb
  obtain ⟨k1, hk1⟩ : ∃ k : Nat, p % len = k := ⟨_, rfl⟩
  obtain ⟨k2, hk2⟩ : ∃ k : Nat, (p * 7 + 3) % len = k := ⟨_, rfl⟩
  obtain ⟨d, hd⟩ : ∃ k : Nat, p / len = k := ⟨_, rfl⟩
  rw [hk1] at i1 hv'
  rw [hk2] at i2 hu'
  rw [hd] at i3
  have b2 : (k1 : Int) < (len : Int) := by omega
  have b4 : (k2 : Int) < (len : Int) := by omega
  have e2 : IntKind.i64.wrap ((p : Int) * 7) = (p : Int) * 7 := IntWalk.i64_in _ (by omega)
  have e2' : IntKind.i64.wrap ((p : Int) * 7 + 3) = (p : Int) * 7 + 3 := IntWalk.i64_in _ (by omega)
  have e4 : IntKind.i64.wrap (v * 131) = v * 131 := IntWalk.i64_in _ (by omega)
  have e5 : IntKind.i64.wrap (u * 1117) = u * 1117 := IntWalk.i64_in _ (by omega)
  have e6 : IntKind.i64.wrap (v * 131 + u * 1117) = v * 131 + u * 1117 := IntWalk.i64_in _ (by omega)
  have e7 : IntKind.i64.wrap ((p : Int) * 29) = (p : Int) * 29 := IntWalk.i64_in _ (by omega)
  have e8 : IntKind.i64.wrap (v * 131 + u * 1117 + (p : Int) * 29) = v * 131 + u * 1117 + (p : Int) * 29 := IntWalk.i64_in _ (by omega)
  have e9 : IntKind.i64.wrap ((d : Int) * 53) = (d : Int) * 53 := IntWalk.i64_in _ (by omega)
  have e10 : IntKind.i64.wrap (v * 131 + u * 1117 + (p : Int) * 29 + (d : Int) * 53) = v * 131 + u * 1117 + (p : Int) * 29 + (d : Int) * 53 := IntWalk.i64_in _ (by omega)
  have e1 : Int.tmod (p : Int) (len : Int) = (k1 : Int) := by rw [← hk1]; rfl
  have e3 : Int.tmod ((p : Int) * 7 + 3) (len : Int) = (k2 : Int) := by rw [← hk2]; rfl
  have e11 : Int.tdiv (p : Int) (len : Int) = (d : Int) := by rw [← hd]; rfl
  have e1' : (p : Int) % (len : Int) = (k1 : Int) := by rw [← hk1]; rfl
  have e3' : ((p : Int) * 7 + 3) % (len : Int) = (k2 : Int) := by rw [← hk2]; rfl
  have e11' : (p : Int) / (len : Int) = (d : Int) := by rw [← hd]; rfl
  clear hk1 hk2 hd
  go_enter Try.func34, Try.ntmps34
  go_wp2_with fail
  go_quiet (fail)
  clear e1 e3 e11 e1' e3' e11' e2 e2' e4 e5 e6 e7 e8 e9 e10
  go_wp2_with fail
  go_ret
  exact ⟨_, xor_nonneg _ (by omega) (by omega), rfl, _, rfl⟩

/-- A reader gives a number below n and goes on by one place. -/
theorem pick_any (r : Nat) (b n : Int) (w : World) (h : Rd w r b) (hn : 1 ≤ n) (hb : b ≤ 100000) :
    Calls Try.prog 34 #[.pointer (some ⟨r, 0, none⟩), .int .i64 n] w (Picked r b n w) := by
  obtain ⟨a, len, cap, p, h1, h2, h3, h4, h5⟩ := h
  obtain ⟨k, rfl⟩ := Int.eq_ofNat_of_zero_le h2
  have hrd : Rd (w.setCell ⟨r, 1, none⟩ (.int .i64 ((k : Int) + 1))) r (b + 1) := by
    refine ⟨a, len, cap, (k : Int) + 1, by rw [setCell_block h1]; rfl, by omega, by omega, h4, ?_⟩
    rcases h5 with h5 | ⟨ab, ao, e, hlt, hv⟩
    · exact .inl h5
    · refine .inr ⟨ab, ao, e, hlt, fun i hi => ?_⟩
      obtain ⟨v, v1, v2, v3⟩ := hv i hi
      exact ⟨v, v1, v2, by rw [← v3]; exact World.cell?_of_block (w := w) (Below.heap_setCell _ _ _ _ (by show ab ≠ r; omega))⟩
  have hon := Only.setCell r w 1 (.int .i64 ((k : Int) + 1))
  by_cases hl : len = 0
  · subst hl
    refine (pick_zero r b n k a cap w hn h2 h3 hb h1).mono ?_
    rintro e w' ⟨rfl, rfl⟩
    exact ⟨0, rfl, by omega, by omega, hrd, hon⟩
  · rcases h5 with h5 | ⟨ab, ao, rfl, hlt, hv⟩
    · exact absurd h5 hl
    · by_cases hk : k < len
      · obtain ⟨v, v1, v2, v3⟩ := hv k hk
        refine (pick_in r n v k ab ao len cap w hn (by omega) h4 hk hlt v1 v2 h1 v3).mono ?_
        rintro e w' ⟨rfl, rfl⟩
        exact ⟨_, rfl, Int.emod_nonneg _ (by omega), Int.emod_lt_of_pos _ (by omega), hrd, hon⟩
      · obtain ⟨v, v1, v2, v3⟩ := hv (k % len) (Nat.mod_lt _ (by omega))
        obtain ⟨u, u1, u2, u3⟩ := hv ((k * 7 + 3) % len) (Nat.mod_lt _ (by omega))
        refine (pick_far r n v u k ab ao len cap w hn (by omega) h4 (by omega) (by omega) hlt v1 v2 u1 u2 h1 v3 u3).mono ?_
        rintro e w' ⟨x, hx, rfl, nq, rfl⟩
        refine ⟨_, rfl, ?_, ?_, ?_, hon.drewN nq⟩
        · rw [Int.tmod_eq_emod_of_nonneg hx]; exact Int.emod_nonneg _ (by omega)
        · rw [Int.tmod_eq_emod_of_nonneg hx]; exact Int.emod_lt_of_pos _ (by omega)
        · exact hrd
end Go.Proofs.Ytmpkdnikkganlaa
