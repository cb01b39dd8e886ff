import Derived.Test.YtmpkdnikkganlaaTextU
import Derived.Test.YtmpkdnikkganlaaStopsH
namespace Go.Proofs.Ytmpkdnikkganlaa
open Go.RowKit

/-- How many of the first k bytes are a space. -/
def spc (zs : List Int) : Nat → Nat
  | 0 => 0
  | k + 1 => spc zs k + if zs.getD k 0 = 32 then 1 else 0
theorem spc_le (zs : List Int) (k : Nat) : spc zs k ≤ k := by
  induction k with
  | zero => exact Nat.le_refl _
  | succ k ih => simp only [spc]; split <;> omega

theorem index_run (zs : List Int) (hz : ∀ z ∈ zs, 0 ≤ z ∧ z < 256) (k : Nat) (hk : k < zs.length) (W : World) :
    (Instr.index 9 (.string (strOfNums zs)) (.int .i64 (k : Int))).run Try.prog W = .ok (.int .u8 (zs.getD k 0)) W := by
  have hsz := strOfNums_size zs
  obtain ⟨z0, z1⟩ := hz zs[k] (List.getElem_mem hk)
  rw [run_index_string (P := Try.prog) W 9 (strOfNums zs) .i64 (k : Int) Try.underlying9, dif_pos ⟨by omega, by omega⟩]
  have e : ((strOfNums zs)[(k : Int).toNat]'(by simp [hsz, hk])).toNat = zs[k].toNat := by
    have : (strOfNums zs)[(k : Int).toNat]'(by simp [hsz, hk]) = UInt8.ofNat zs[k].toNat := by
      show (strOfNums zs).data[(k : Int).toNat]'_ = _
      simp [strOfNums]
    rw [this]
    simp
    omega
  rw [e]
  congr 2
  rw [List.getD_eq_getElem?_getD, List.getElem?_eq_getElem hk]
  simp
  omega

set_option maxRecDepth 100000 in
set_option maxHeartbeats 1000000 in
theorem spaces_any (zs : List Int) (w : World) (hz : ∀ z ∈ zs, 0 ≤ z ∧ z < 256) (hl : zs.length ≤ 1000) :
    Calls Try.prog 12 #[.string (strOfNums zs)] w fun e w' => e = .returned (.int .i64 (spc zs zs.length)) ∧ w = w' := by
  go_enter Try.func12, Try.ntmps12
  have hsz := strOfNums_size zs
  go_wp2_with fail
  go_loop [3, 4] (fun s i => ∃ k : Nat, k ≤ zs.length ∧ s = .int .i64 (spc zs k : Int) ∧ i = .int .i64 k) (fun _ i => zs.length - (intOf i).toNat)
  case atStart => exact ⟨0, Nat.zero_le _, rfl, rfl⟩
  case round =>
    obtain ⟨k, hk, rfl, rfl⟩ := hrel
    have hle := spc_le zs k
    by_cases hlt : k < zs.length
    · have i1 : (k : Int) < (zs.length : Int) := by omega
      have hr := fun W => index_run zs hz k hlt W
      obtain ⟨z, hzz⟩ : ∃ z, z = zs.getD k 0 := ⟨_, rfl⟩
      rw [← hzz] at hr
      have HZ := Lib.hid hzz
      clear hzz
      by_cases q : z = 32
      · have e1 : (z == 32) = true := by simp [q]
        have S := Lib.hid (show spc zs (k + 1) = spc zs k + 1 by simp only [spc]; rw [← HZ.out, if_pos q])
        clear q
        go_wp2_with fail
        exact ⟨⟨k + 1, by omega, by rw [S.out]; go_num, by go_num⟩, by simp [intOf]; omega⟩
      · have e1 : (z == 32) = false := by simp [q]
        have S := Lib.hid (show spc zs (k + 1) = spc zs k by simp only [spc]; rw [← HZ.out, if_neg q]; rfl)
        clear q
        go_wp2_with fail
        exact ⟨⟨k + 1, by omega, by rw [S.out], by go_num⟩, by simp [intOf]; omega⟩
    · go_wp2_with fail
      go_ret
      exact ⟨ret_int (by rw [show k = zs.length by omega]), rfl⟩

theorem spc_append (xs ys : List Int) : ∀ m, spc (xs ++ ys) (xs.length + m) = spc xs xs.length + spc ys m := by
  have h0 : ∀ m, m ≤ xs.length → spc (xs ++ ys) m = spc xs m := by
    intro m
    induction m with
    | zero => intro _; rfl
    | succ m ih =>
      intro h
      simp only [spc]
      rw [ih (by omega), List.getD_eq_getElem?_getD, List.getElem?_append_left (by omega), List.getD_eq_getElem?_getD]
  intro m
  induction m with
  | zero => exact h0 _ (Nat.le_refl _)
  | succ m ih =>
    rw [← Nat.add_assoc]
    simp only [spc]
    rw [ih, List.getD_eq_getElem?_getD, List.getElem?_append_right (by omega), List.getD_eq_getElem?_getD, show xs.length + m - xs.length = m by omega]
    omega
theorem spc_none (zs : List Int) (h : ∀ z ∈ zs, z ≠ 32) : ∀ m, spc zs m = 0 := by
  intro m
  induction m with
  | zero => rfl
  | succ m ih =>
    simp only [spc]
    rw [ih]
    by_cases hm : m < zs.length
    · have := h _ (List.getElem_mem hm)
      rw [List.getD_eq_getElem?_getD, List.getElem?_eq_getElem hm]
      simp [this]
    · rw [List.getD_eq_getElem?_getD, List.getElem?_eq_none (by omega)]
      simp
theorem ws_range {xs : List St} {k : Nat} (h0 : 0 ≤ tw xs k) (h1 : tw xs k ≤ 9) : ∀ z ∈ ws xs k, 45 ≤ z ∧ z ≤ 58 := by
  intro z hz
  have a0 : 0 ≤ ar xs k % 1440 ∧ ar xs k % 1440 < 1440 := by omega
  have l0 : 0 ≤ lv xs k % 1440 ∧ lv xs k % 1440 < 1440 := by omega
  revert hz
  generalize hA : ar xs k % 1440 = a at a0
  generalize hL : lv xs k % 1440 = l at l0
  intro hz
  simp only [ws, cl, hA, hL, List.mem_append, List.mem_cons, List.not_mem_nil, or_false, or_assoc] at hz
  rcases hz with h | h | h | h | h | h | h | h | h | h | h | h | h <;> omega
theorem tl_range {n : Int} {xs : List St} (hv : Valid n xs) : ∀ k, k ≤ xs.length → ∀ z ∈ tl xs k, 32 ≤ z ∧ z < 256 := by
  intro k
  induction k with
  | zero => intro _ z hz; simp [tl] at hz
  | succ k ih =>
    intro hk z hz
    obtain ⟨g1, g2, _⟩ := hv.2.2.2.2 k hk
    have hn := hv.2.1
    simp only [tl, List.mem_append] at hz
    rcases hz with (h | h) | h
    · exact ih (by omega) z h
    · split at h
      · simp at h
      · simp at h; omega
    · have := ws_range g1 (by omega) z h
      omega
theorem tl_spaces {n : Int} {xs : List St} (hv : Valid n xs) : ∀ k, k ≤ xs.length → spc (tl xs k) (tl xs k).length = k - 1 := by
  intro k
  induction k with
  | zero => intro _; rfl
  | succ k ih =>
    intro hk
    obtain ⟨g1, g2, _⟩ := hv.2.2.2.2 k hk
    have hn := hv.2.1
    have hw := spc_none (ws xs k) (fun z hz => by have := ws_range g1 (by omega) z hz; omega) (ws xs k).length
    simp only [tl]
    rw [List.length_append, spc_append, hw, List.length_append, spc_append, ih (by omega)]
    by_cases k0 : k = 0
    · subst k0; rfl
    · rw [if_neg k0]
      show k - 1 + (spc [32] 1) + 0 = k + 1 - 1
      have : spc [32] 1 = 1 := rfl
      omega
theorem sh_at (xs : List St) (k : Int) (j : Nat) (hj : j < xs.length) : tw (xs.map (sh k)) j = tw xs j ∧ ar (xs.map (sh k)) j = ar xs j + k ∧ lv (xs.map (sh k)) j = lv xs j + k := by
  have e : (xs.map (sh k)).getD j stz = sh k (xs.getD j stz) := by simp [List.getElem?_eq_getElem hj]
  unfold tw ar lv
  rw [e]
  exact ⟨rfl, rfl, rfl⟩
theorem tl_day (xs : List St) : ∀ k, k ≤ xs.length → tl (xs.map (sh 1440)) k = tl xs k := by
  intro k
  induction k with
  | zero => intro _; rfl
  | succ k ih =>
    intro hk
    simp only [tl]
    rw [ih (by omega)]
    congr 1
    unfold ws
    obtain ⟨e1, e2, e3⟩ := sh_at xs 1440 k hk
    rw [e1, e2, e3, Int.add_emod_right, Int.add_emod_right]
theorem tl_pos (xs : List St) (k : Nat) (h : 0 < k) : 0 < (tl xs k).length := by
  cases k with
  | zero => omega
  | succ k =>
    simp only [tl, List.length_append]
    have : (ws xs k).length = 13 := rfl
    omega
end Go.Proofs.Ytmpkdnikkganlaa
