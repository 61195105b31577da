/-
  A menu in plain Lean, whole: behind any keys the program's bar is where the reference's is.
-/
import Derived.Test.YtnkkccafdbaoeaaGreatDoorSMenuP
namespace Go.Proofs.YtnkkccafdbaoeaaGreatDoor.H
set_option linter.unusedVariables false

/-- The small letter of a letter, and the capital. -/
def lowC (c : Int) : Int := if 65 ≤ c ∧ c ≤ 90 then c + 32 else c
def capC (c : Int) : Int := if 97 ≤ c ∧ c ≤ 122 then c - 32 else c
theorem low_cap (a b : Int) : lowC a = lowC b ↔ capC a = capC b := by
  unfold lowC capC
  split <;> split <;> split <;> split <;> omega
theorem mem_ring {n a c step : Int} (hn : 1 ≤ n) (h0 : 0 ≤ c) (h1 : c < n) (hs : step = 1 ∨ step = -1) : c ∈ ring n a step n.toNat 1 := by
  rw [ring_shift]
  unfold ring
  rcases hs with rfl | rfl
  · refine List.mem_map.2 ⟨((c - (a + 1)) % n).toNat, List.mem_range.2 ?_, ?_⟩
    · have := Int.emod_lt_of_pos (c - (a + 1)) (show 0 < n by omega)
      have := Int.emod_nonneg (c - (a + 1)) (show n ≠ 0 by omega)
      omega
    · have h2 := Int.emod_nonneg (c - (a + 1)) (show n ≠ 0 by omega)
      rw [Int.toNat_of_nonneg h2, Int.add_zero, Int.mul_one, Int.add_emod, Int.emod_emod_of_dvd _ (Int.dvd_refl n), ← Int.add_emod]
      rw [show a + 1 + (c - (a + 1)) = c by omega, Int.emod_eq_of_lt h0 h1]
  · refine List.mem_map.2 ⟨((a + -1 - c) % n).toNat, List.mem_range.2 ?_, ?_⟩
    · have := Int.emod_lt_of_pos (a + -1 - c) (show 0 < n by omega)
      have := Int.emod_nonneg (a + -1 - c) (show n ≠ 0 by omega)
      omega
    · have h2 := Int.emod_nonneg (a + -1 - c) (show n ≠ 0 by omega)
      rw [Int.toNat_of_nonneg h2, Int.add_zero, show a + -1 + (a + -1 - c) % n * -1 = a + -1 - (a + -1 - c) % n by omega, Int.sub_emod, Int.emod_emod_of_dvd _ (Int.dvd_refl n), ← Int.sub_emod]
      rw [show a + -1 - (a + -1 - c) = c by omega, Int.emod_eq_of_lt h0 h1]
theorem mTo_found {n a step : Int} {pass : Int → Bool} (c : Int) (hn : 1 ≤ n) (hc : pass c = true) (h0 : 0 ≤ c) (h1 : c < n) (hs : step = 1 ∨ step = -1) : pass (mTo n pass a step) = true := by
  unfold mTo
  cases hf : (ring n a step n.toNat 1).find? pass with
  | none => exact absurd hc (List.find?_eq_none.1 hf c (mem_ring hn h0 h1 hs))
  | some x => exact List.find?_some hf
/-- What a key does to the bar, as the program says it; 'same' tells whether an item begins as a key says. -/
def mKey (n : Int) (on : Int → Bool) (same : Int → Int → Bool) (a key : Int) : Int :=
  if key = 3 ∨ key = 5 then mTo n on a 1
  else if key = 2 ∨ key = 4 then mTo n on a (-1)
  else if key = 9 then mTo n on (n - 1) 1
  else if key = 10 then mTo n on 0 (-1)
  else if 32 ≤ key ∧ key ≤ 126 then mTo n (fun x => on x && same x key) a 1
  else a
/-- .. and as the reference says it. -/
def rMKey (n : Int) (on : Int → Bool) (same : Int → Int → Bool) (a key : Int) : Int :=
  if key = 3 ∨ key = 5 then rNext n on (a + 1) 1
  else if key = 2 ∨ key = 4 then rNext n on (a - 1) (-1)
  else if key = 9 then rNext n on 0 1
  else if key = 10 then rNext n on (n - 1) (-1)
  else if 32 ≤ key ∧ key ≤ 126 then (if 0 ≤ rNext n (fun x => on x && same x key) (a + 1) 1 then rNext n (fun x => on x && same x key) (a + 1) 1 else a)
  else a
def mInv (n : Int) (on : Int → Bool) (a : Int) : Prop := 0 ≤ a ∧ a < n ∧ on a = true
theorem mKey_eq {n : Int} {on : Int → Bool} {same : Int → Int → Bool} (hn : 1 ≤ n) (hon : ∀ x, on x = true → 0 ≤ x) {a : Int} (h : mInv n on a) (key : Int) : rMKey n on same a key = mKey n on same a key ∧ mInv n on (mKey n on same a key) := by
  obtain ⟨h0, h1, hp⟩ := h
  unfold rMKey mKey mInv
  by_cases k1 : key = 3 ∨ key = 5
  · simp only [if_pos k1]
    exact ⟨(mTo_next hn h0 h1 hp).symm, (mTo_range hn h0 h1).1, (mTo_range hn h0 h1).2, mTo_pass hp⟩
  · simp only [if_neg k1]
    by_cases k2 : key = 2 ∨ key = 4
    · simp only [if_pos k2]
      exact ⟨(mTo_next hn h0 h1 hp).symm, (mTo_range hn h0 h1).1, (mTo_range hn h0 h1).2, mTo_pass hp⟩
    · simp only [if_neg k2]
      by_cases k3 : key = 9
      · simp only [if_pos k3]
        refine ⟨(mTo_from a hn hp h0 h1 (.inl rfl) ?_).symm, (mTo_range hn (by omega) (by omega)).1, (mTo_range hn (by omega) (by omega)).2, mTo_found a hn hp h0 h1 (.inl rfl)⟩
        rw [show n - 1 + 1 = n by omega]; simp
      · simp only [if_neg k3]
        by_cases k4 : key = 10
        · simp only [if_pos k4]
          refine ⟨(mTo_from a hn hp h0 h1 (.inr rfl) ?_).symm, (mTo_range hn (by omega) (by omega)).1, (mTo_range hn (by omega) (by omega)).2, mTo_found a hn hp h0 h1 (.inr rfl)⟩
          rw [show (0 : Int) + -1 = n - 1 - n by omega]; simp
        · simp only [if_neg k4]
          by_cases k5 : 32 ≤ key ∧ key ≤ 126
          · simp only [if_pos k5]
            have hq : ∀ x, (on x && same x key) = true → 0 ≤ x := fun x hx => hon x (by simp at hx; exact hx.1)
            refine ⟨(mTo_try hq).symm, (mTo_range hn h0 h1).1, (mTo_range hn h0 h1).2, ?_⟩
            unfold mTo
            cases hf : (ring n a 1 n.toNat 1).find? (fun x => on x && same x key) with
            | none => exact hp
            | some x => have := List.find?_some hf; simp at this; exact this.1
          · simp only [if_neg k5]
            exact ⟨trivial, h0, h1, hp⟩
/-- Keys, one behind the other: the item at the end, and whether it is chosen. -/
def mRun (K : Int → Int → Int) : Int → List Int → Int × Bool
  | a, [] => (a, false)
  | a, k :: ks => if k = 1 then (a, true) else if k = 8 then (-1, false) else mRun K (K a k) ks
theorem mRun_eq {n : Int} {on : Int → Bool} {same : Int → Int → Bool} (hn : 1 ≤ n) (hon : ∀ x, on x = true → 0 ≤ x) : ∀ (ks : List Int) (a : Int), mInv n on a → mRun (rMKey n on same) a ks = mRun (mKey n on same) a ks
  | [], _, _ => rfl
  | k :: ks, a, h => by
    unfold mRun
    rw [(mKey_eq hn hon h k).1, mRun_eq hn hon ks _ (mKey_eq hn hon h k).2]
/-- Where the bar stands at first. -/
theorem mStart_eq {n a : Int} {on : Int → Bool} (c : Int) (hn : 1 ≤ n) (hc : on c = true) (hc0 : 0 ≤ c) (hc1 : c < n) (h0 : 0 ≤ a) (h1 : a < n) :
    rNext n on a 1 = (if on a = true then a else mTo n on a 1) ∧ mInv n on (if on a = true then a else mTo n on a 1) := by
  by_cases ha : on a = true
  · simp only [if_pos ha]
    refine ⟨?_, h0, h1, ha⟩
    unfold rNext ring
    have e : List.range n.toNat = 0 :: (List.range (n.toNat - 1)).map (· + 1) := by
      obtain ⟨m, hm⟩ : ∃ m, n.toNat = m + 1 := ⟨n.toNat - 1, by omega⟩
      rw [hm, List.range_succ_eq_map]; rfl
    rw [e, List.map_cons, List.find?_cons]
    rw [show (a + (((0 : Nat) : Int) + 0) * 1) % n = a by simp; exact Int.emod_eq_of_lt h0 h1]
    simp [ha]
  · simp only [if_neg ha]
    refine ⟨?_, (mTo_range hn h0 h1).1, (mTo_range hn h0 h1).2, mTo_found c hn hc hc0 hc1 (.inl rfl)⟩
    have hb : on a = false := by simpa using ha
    unfold rNext mTo
    have hL : ring n a 1 n.toNat 0 = a :: ring n a 1 (n.toNat - 1) 1 := by
      unfold ring
      obtain ⟨m, hm⟩ : ∃ m, n.toNat = m + 1 := ⟨n.toNat - 1, by omega⟩
      rw [hm, List.range_succ_eq_map, List.map_cons, List.map_map, Nat.add_sub_cancel]
      congr 1
      simp; exact Int.emod_eq_of_lt h0 h1
    have hR : ring n a 1 n.toNat 1 = ring n a 1 (n.toNat - 1) 1 ++ [a] := by
      unfold ring
      obtain ⟨m, hm⟩ : ∃ m, n.toNat = m + 1 := ⟨n.toNat - 1, by omega⟩
      rw [hm, List.range_succ, List.map_append, Nat.add_sub_cancel, List.map_singleton]
      congr 2
      have e : ((m : Int) + 1) = n := by omega
      rw [e, Int.mul_one, Int.add_emod_right]
      exact Int.emod_eq_of_lt h0 h1
    have hm : c ∈ ring n a 1 n.toNat 1 := mem_ring hn hc0 hc1 (.inl rfl)
    rw [hR] at hm
    rw [hL, hR, List.find?_cons, hb, List.find?_append]
    cases hf : (ring n a 1 (n.toNat - 1) 1).find? on with
    | some x => simp
    | none =>
      rcases List.mem_append.1 hm with hm | hm
      · exact absurd hc (List.find?_eq_none.1 hf c hm)
      · simp at hm; subst hm; rw [hb] at hc; cases hc
/-! ### for the loops -/
def el (n a step : Int) (s : Int) (j : Nat) : Int := (a + ((j : Int) + s) * step) % n
theorem ring_hit {n a step s : Int} {m k : Nat} {pass : Int → Bool} (h : ∀ j, j < k → pass (el n a step s j) = false) (hk : k < m) (hp : pass (el n a step s k) = true) : (ring n a step m s).find? pass = some (el n a step s k) := by
  rw [List.find?_eq_some_iff_append]
  refine ⟨hp, (List.range k).map (el n a step s), (List.range (m - k - 1)).map (fun j => el n a step s (k + 1 + j)), ?_, ?_⟩
  · unfold ring
    show (List.range m).map (el n a step s) = _
    rw [show m = k + (1 + (m - k - 1)) by omega, List.range_add, List.map_append, List.range_add, List.map_append, List.map_append]
    simp only [List.map_map]
    congr 1
    rw [show k + (1 + (m - k - 1)) - k - 1 = m - k - 1 by omega]
    simp [Function.comp_def, Nat.add_assoc]
  · intro x hx
    obtain ⟨j, hj, rfl⟩ := List.mem_map.1 hx
    rw [h j (List.mem_range.1 hj)]; rfl
theorem ring_none {n a step s : Int} {m : Nat} {pass : Int → Bool} (h : ∀ j, j < m → pass (el n a step s j) = false) : (ring n a step m s).find? pass = none := by
  rw [List.find?_eq_none]
  intro x hx
  obtain ⟨j, hj, rfl⟩ := List.mem_map.1 hx
  have := h j (List.mem_range.1 hj)
  unfold el at this
  rw [this]; simp
end Go.Proofs.YtnkkccafdbaoeaaGreatDoor.H
