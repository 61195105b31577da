/-
  A menu in plain Lean: where the bar goes, as the program and as the reference say it.
-/
import Derived.Lib.Hide
namespace Go.Proofs.YtnkkccafdbaoeaaGreatDoor.H
set_option linter.unusedVariables false

/-- The items that are met from one behind 'from' on, in steps, round and round. -/
def ring (n : Int) (a step : Int) (m : Nat) (s : Int) : List Int := (List.range m).map fun k : Nat => (a + ((k : Int) + s) * step) % n
/-- The program's move: the first item behind the bar that passes; else the bar stays. -/
def mTo (n : Int) (pass : Int → Bool) (a step : Int) : Int := ((ring n a step n.toNat 1).find? pass).getD a
/-- The reference's: the first one from a place on that passes; -1 if there is none. -/
def rNext (n : Int) (pass : Int → Bool) (a step : Int) : Int := ((ring n a step n.toNat 0).find? pass).getD (-1)
theorem ring_shift (n a step : Int) (m : Nat) : ring n a step m 1 = ring n (a + step) step m 0 := by
  unfold ring
  apply List.map_congr_left
  intro k _
  have : a + ((k : Int) + 1) * step = a + step + ((k : Int) + 0) * step := by rw [Int.add_mul, Int.add_mul]; omega
  rw [this]
theorem ring_mod (n a b step : Int) (m : Nat) (h : a % n = b % n) : ring n a step m 0 = ring n b step m 0 := by
  unfold ring
  apply List.map_congr_left
  intro k _
  rw [Int.add_emod, h, ← Int.add_emod]
/-- Where the bar itself passes, it is met at the end at the latest. -/
theorem ring_self (n a step : Int) (hn : 1 ≤ n) (h0 : 0 ≤ a) (h1 : a < n) : a ∈ ring n a step n.toNat 1 := by
  unfold ring
  refine List.mem_map.2 ⟨n.toNat - 1, List.mem_range.2 (by omega), ?_⟩
  have e : ((n.toNat - 1 : Nat) : Int) + 1 = n := by omega
  rw [e, Int.add_mul_emod_self_left, Int.emod_eq_of_lt h0 h1]
theorem mTo_next {n a step : Int} {pass : Int → Bool} (hn : 1 ≤ n) (h0 : 0 ≤ a) (h1 : a < n) (hp : pass a = true) : mTo n pass a step = rNext n pass (a + step) step := by
  unfold mTo rNext
  rw [← ring_shift]
  cases hf : (ring n a step n.toNat 1).find? pass with
  | none =>
    have := List.find?_eq_none.1 hf a (ring_self n a step hn h0 h1)
    exact absurd hp this
  | some x => rfl
theorem mTo_from {n a b step : Int} {pass : Int → Bool} (c : Int) (hn : 1 ≤ n) (hc : pass c = true) (h0 : 0 ≤ c) (h1 : c < n) (hs : step = 1 ∨ step = -1) (h : (a + step) % n = b % n) : mTo n pass a step = rNext n pass b step := by
  unfold mTo rNext
  rw [ring_shift, ring_mod n _ b step _ h]
  cases hf : (ring n b step n.toNat 0).find? pass with
  | none =>
    have hm : c ∈ ring n b step n.toNat 0 := by
      unfold ring
      rcases hs with rfl | rfl
      · refine List.mem_map.2 ⟨((c - b) % n).toNat, List.mem_range.2 ?_, ?_⟩
        · have := Int.emod_lt_of_pos (c - b) (show 0 < n by omega)
          have := Int.emod_nonneg (c - b) (show n ≠ 0 by omega)
          omega
        · have h2 := Int.emod_nonneg (c - b) (show n ≠ 0 by omega)
          rw [Int.toNat_of_nonneg h2, Int.add_zero, Int.mul_one, Int.add_emod, Int.emod_emod_of_dvd _ (Int.dvd_refl n), ← Int.add_emod]
          rw [show b + (c - b) = c by omega, Int.emod_eq_of_lt h0 h1]
      · refine List.mem_map.2 ⟨((b - c) % n).toNat, List.mem_range.2 ?_, ?_⟩
        · have := Int.emod_lt_of_pos (b - c) (show 0 < n by omega)
          have := Int.emod_nonneg (b - c) (show n ≠ 0 by omega)
          omega
        · have h2 := Int.emod_nonneg (b - c) (show n ≠ 0 by omega)
          rw [Int.toNat_of_nonneg h2, Int.add_zero, show b + (b - c) % n * -1 = b - (b - c) % n by omega, Int.sub_emod, Int.emod_emod_of_dvd _ (Int.dvd_refl n), ← Int.sub_emod]
          rw [show b - (b - c) = c by omega, Int.emod_eq_of_lt h0 h1]
    exact absurd hc (List.find?_eq_none.1 hf c hm)
  | some x => rfl
/-- A move that may find nothing. -/
theorem mTo_try {n a step : Int} {pass : Int → Bool} (hp : ∀ x, pass x = true → 0 ≤ x) : mTo n pass a step = if 0 ≤ rNext n pass (a + step) step then rNext n pass (a + step) step else a := by
  unfold mTo rNext
  rw [← ring_shift]
  cases hf : (ring n a step n.toNat 1).find? pass with
  | none => rfl
  | some x =>
    have := hp x (List.find?_some hf)
    simp [this]
theorem mTo_range {n a step : Int} {pass : Int → Bool} (hn : 1 ≤ n) (h0 : 0 ≤ a) (h1 : a < n) : 0 ≤ mTo n pass a step ∧ mTo n pass a step < n := by
  unfold mTo
  cases hf : (ring n a step n.toNat 1).find? pass with
  | none => exact ⟨h0, h1⟩
  | some x =>
    obtain ⟨k, _, rfl⟩ := List.mem_map.1 (List.mem_of_find?_eq_some hf)
    exact ⟨Int.emod_nonneg _ (by omega), Int.emod_lt_of_pos _ (by omega)⟩
theorem mTo_pass {n a step : Int} {pass : Int → Bool} (hp : pass a = true) : pass (mTo n pass a step) = true := by
  unfold mTo
  cases hf : (ring n a step n.toNat 1).find? pass with
  | none => exact hp
  | some x => exact List.find?_some hf
end Go.Proofs.YtnkkccafdbaoeaaGreatDoor.H
