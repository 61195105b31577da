/-
  Going through a pattern with the last star in mind: what holds at each step. Plain Lean: no program in sight.
-/
import Derived.Test.YtmjldihmcbjfhaaHMatch
namespace Go.Proofs.Ytmjldihmcbjfhaa.H

/-- What holds where place p of the pattern P and place a of the text S are looked at; st: 0, or one more than the place of the last star; f: where what stands behind it was tried. -/
structure Goes (eq : Int → Int → Bool) (P S : List Int) (p a st f : Nat) : Prop where
  hp : p ≤ P.length
  ha : a ≤ S.length
  hst : st ≤ p
  hf : f ≤ a
  none : st = 0 → (Fits eq P S ↔ Fits eq (P.drop p) (S.drop a))
  some : st ≠ 0 → a = f + (p - st) ∧ (∀ i, i < p - st → P.getD (st + i) 0 ≠ 42 ∧ eq (P.getD (st + i) 0) (S.getD (f + i) 0) = true) ∧ (Fits eq P S ↔ ∃ j, f ≤ j ∧ j ≤ S.length ∧ Fits eq (P.drop st) (S.drop j))

variable {eq : Int → Int → Bool} {P S : List Int} {p a st f : Nat}

theorem drop_at (l : List Int) (i : Nat) (h : i < l.length) : l.drop i = l.getD i 0 :: l.drop (i + 1) := by
  rw [List.drop_eq_getElem_cons h]
  simp [List.getD_eq_getElem?_getD, List.getElem?_eq_getElem h]
theorem goes_start : Goes eq P S 0 0 0 0 := ⟨by omega, by omega, by omega, by omega, fun _ => by simp, fun h => absurd rfl h⟩

theorem seg_getD (l : List Int) (s n i : Nat) (hi : i < n) : ((l.drop s).take n).getD i 0 = l.getD (s + i) 0 := by
  simp [List.getD_eq_getElem?_getD, List.getElem?_take, hi]
theorem seg_split (l : List Int) (s q : Nat) (h : s ≤ q) : l.drop s = (l.drop s).take (q - s) ++ l.drop q := by
  have := (List.take_append_drop (q - s) (l.drop s)).symm
  rw [List.drop_drop, show s + (q - s) = q by omega] at this
  exact this
/-- The stretch behind the star fits just where it was tried. -/
theorem goes_seg (h : Goes eq P S p a st f) (h0 : st ≠ 0) (j : Nat) (hj : j ≤ S.length) :
    Fits eq (P.drop st) (S.drop j) ↔ (p - st ≤ S.length - j ∧ (∀ i, i < p - st → eq (P.getD (st + i) 0) (S.getD (j + i) 0) = true) ∧ Fits eq (P.drop p) (S.drop (j + (p - st)))) := by
  have h1 := (h.some h0).1
  have h2 := (h.some h0).2.1
  have hl : ((P.drop st).take (p - st)).length = p - st := by
    have := h.hp
    simp; omega
  have hs : ∀ c, c ∈ (P.drop st).take (p - st) → c ≠ 42 := by
    intro c hc
    obtain ⟨i, hi, rfl⟩ := List.getElem_of_mem hc
    have := (h2 i (by omega)).1
    rw [← seg_getD P st (p - st) i (by omega)] at this
    simpa [List.getD_eq_getElem?_getD, List.getElem?_eq_getElem hi] using this
  rw [seg_split P st p h.hst, fits_seg _ _ _ hs, hl, List.length_drop, List.drop_drop]
  constructor
  · rintro ⟨k1, k2, k3⟩
    refine ⟨k1, fun i hi => ?_, k3⟩
    have := k2 i hi
    rwa [seg_getD _ _ _ _ hi, show (S.drop j).getD i 0 = S.getD (j + i) 0 by simp [List.getD_eq_getElem?_getD]] at this
  · rintro ⟨k1, k2, k3⟩
    refine ⟨k1, fun i hi => ?_, k3⟩
    rw [seg_getD _ _ _ _ hi, show (S.drop j).getD i 0 = S.getD (j + i) 0 by simp [List.getD_eq_getElem?_getD]]
    exact k2 i hi
theorem goes_here (h : Goes eq P S p a st f) (h0 : st ≠ 0) : Fits eq (P.drop st) (S.drop f) ↔ Fits eq (P.drop p) (S.drop a) := by
  have h1 := (h.some h0).1
  have h2 := (h.some h0).2.1
  have ha := h.ha
  rw [goes_seg h h0 f (by omega), h1]
  exact ⟨fun k => k.2.2, fun k => ⟨by omega, fun i hi => (h2 i hi).2, k⟩⟩

theorem goes_star (h : Goes eq P S p a st f) (hp : p < P.length) (hc : P.getD p 0 = 42) : Goes eq P S (p + 1) a (p + 1) a := by
  refine ⟨by omega, h.ha, Nat.le_refl _, Nat.le_refl _, fun e => by omega, fun _ => ⟨by omega, fun i hi => by omega, ?_⟩⟩
  have ha := h.ha
  have hd : P.drop p = 42 :: P.drop (p + 1) := by rw [drop_at P p hp, hc]
  by_cases h0 : st = 0
  · rw [h.none h0, hd, fits_star]
    constructor
    · rintro ⟨j, hj, hf⟩
      rw [List.length_drop] at hj
      rw [List.drop_drop] at hf
      exact ⟨a + j, by omega, by omega, hf⟩
    · rintro ⟨j, h1, h2, hf⟩
      refine ⟨j - a, by rw [List.length_drop]; omega, ?_⟩
      rw [List.drop_drop, show a + (j - a) = j by omega]; exact hf
  · have h1 := (h.some h0).1
    rw [(h.some h0).2.2]
    constructor
    · rintro ⟨j, j1, j2, hf⟩
      obtain ⟨k1, k2, k3⟩ := (goes_seg h h0 j j2).1 hf
      rw [hd, fits_star] at k3
      obtain ⟨i, hi, hg⟩ := k3
      rw [List.length_drop] at hi
      rw [List.drop_drop] at hg
      exact ⟨j + (p - st) + i, by omega, by omega, hg⟩
    · rintro ⟨j, j1, j2, hf⟩
      have hfa := h.hf
      refine ⟨f, Nat.le_refl _, by omega, (goes_here h h0).2 ?_⟩
      rw [hd, fits_star]
      refine ⟨j - a, by rw [List.length_drop]; omega, ?_⟩
      rw [List.drop_drop, show a + (j - a) = j by omega]; exact hf

theorem goes_one (h : Goes eq P S p a st f) (hp : p < P.length) (ha : a < S.length) (hc : P.getD p 0 ≠ 42) (he : eq (P.getD p 0) (S.getD a 0) = true) : Goes eq P S (p + 1) (a + 1) st f := by
  have hst := h.hst
  have hf := h.hf
  refine ⟨by omega, by omega, by omega, by omega, fun h0 => ?_, fun h0 => ?_⟩
  · rw [h.none h0, drop_at P p hp, drop_at S a ha, fits_one hc]
    constructor
    · rintro ⟨x, ys, e, _, hg⟩
      cases e; exact hg
    · intro hg; exact ⟨_, _, rfl, he, hg⟩
  · have h1 := (h.some h0).1
    have h2 := (h.some h0).2.1
    refine ⟨by omega, fun i hi => ?_, (h.some h0).2.2⟩
    by_cases e : i < p - st
    · exact h2 i e
    · have e' : i = p - st := by omega
      subst e'
      rw [show st + (p - st) = p by omega, show f + (p - st) = a by omega]
      exact ⟨hc, he⟩

/-- Nothing goes on here. -/
theorem goes_stuck (ho : a < S.length ∨ p < P.length) (h1 : ¬ (p < P.length ∧ P.getD p 0 = 42)) (h2 : ¬ (p < P.length ∧ a < S.length ∧ eq (P.getD p 0) (S.getD a 0) = true)) : ¬ Fits eq (P.drop p) (S.drop a) := by
  intro hf
  by_cases hp : p < P.length
  · rw [drop_at P p hp] at hf
    have hc : P.getD p 0 ≠ 42 := fun e => h1 ⟨hp, e⟩
    rw [fits_one hc] at hf
    obtain ⟨x, ys, e, he, _⟩ := hf
    by_cases ha : a < S.length
    · rw [drop_at S a ha] at e
      cases e
      exact h2 ⟨hp, ha, he⟩
    · rw [List.drop_eq_nil_of_le (by omega)] at e; cases e
  · rw [List.drop_eq_nil_of_le (by omega), fits_nil] at hf
    have ha : a < S.length := by omega
    rw [drop_at S a ha] at hf; cases hf
theorem goes_not (h : Goes eq P S p a st f) (hs : ¬ Fits eq (P.drop p) (S.drop a)) (ho : st = 0 ∨ S.length ≤ f) : ¬ Fits eq P S := by
  by_cases h0 : st = 0
  · rw [h.none h0]; exact hs
  · rw [(h.some h0).2.2]
    rintro ⟨j, j1, j2, hf⟩
    have hff := h.hf
    have hfa := h.ha
    have : j = f := by omega
    subst this
    exact hs ((goes_here h h0).1 hf)
theorem goes_back (h : Goes eq P S p a st f) (hs : ¬ Fits eq (P.drop p) (S.drop a)) (h0 : st ≠ 0) (hf : f < S.length) : Goes eq P S st (f + 1) st (f + 1) := by
  have hst := h.hst
  have hp := h.hp
  refine ⟨by omega, by omega, Nat.le_refl _, Nat.le_refl _, fun e => absurd e h0, fun _ => ⟨by omega, fun i hi => by omega, ?_⟩⟩
  rw [(h.some h0).2.2]
  constructor
  · rintro ⟨j, j1, j2, hg⟩
    refine ⟨j, ?_, j2, hg⟩
    by_cases e : j = f
    · subst e; exact absurd ((goes_here h h0).1 hg) hs
    · omega
  · rintro ⟨j, j1, j2, hg⟩; exact ⟨j, by omega, j2, hg⟩
theorem goes_end (h : Goes eq P S p a st f) (hp : P.length ≤ p) (ha : S.length ≤ a) : Fits eq P S := by
  have e : Fits eq (P.drop p) (S.drop a) := by rw [List.drop_eq_nil_of_le hp, List.drop_eq_nil_of_le ha]; exact .nil
  by_cases h0 : st = 0
  · exact (h.none h0).2 e
  · have hfa := h.ha
    have hff := h.hf
    exact (h.some h0).2.2.2 ⟨f, Nat.le_refl _, by omega, (goes_here h h0).2 e⟩

/-! ### how long it takes -/
def rank (n m p st f : Nat) : Nat := ((n + 1 - st) * (m + 2) + (m + 1 - f)) * (n + 2) + (n + 1 - p)
theorem rank_lift {x y n u v : Nat} (h : x < y) (hu : u < n + 2) : x * (n + 2) + u < y * (n + 2) + v := by
  have : (x + 1) * (n + 2) ≤ y * (n + 2) := Nat.mul_le_mul_right _ h
  rw [Nat.add_mul, Nat.one_mul] at this
  omega
theorem rank_one {n m p st f : Nat} (hp : p < n) : rank n m (p + 1) st f < rank n m p st f := by
  unfold rank; omega
theorem rank_back {n m p st f : Nat} (hf : f < m) : rank n m st st (f + 1) < rank n m p st f := by
  unfold rank
  exact rank_lift (by omega) (by omega)
theorem rank_star {n m p st f g : Nat} (hst : st ≤ p) (hp : p < n) (hg : g ≤ m) : rank n m (p + 1) (p + 1) g < rank n m p st f := by
  unfold rank
  refine rank_lift ?_ (by omega)
  have : (n + 1 - (p + 1) + 1) * (m + 2) ≤ (n + 1 - st) * (m + 2) := Nat.mul_le_mul_right _ (by omega)
  rw [Nat.add_mul, Nat.one_mul] at this
  omega
end Go.Proofs.Ytmjldihmcbjfhaa.H

namespace Go.Proofs.Ytmjldihmcbjfhaa.H
variable (eq : Int → Int → Bool) (P S : List Int)
noncomputable def dp (i k : Nat) : Bool := @decide (Fits eq (P.take i) (S.take k)) (Classical.propDecidable _)
theorem dp_iff (i k : Nat) : dp eq P S i k = true ↔ Fits eq (P.take i) (S.take k) := by
  unfold dp; exact @decide_eq_true_iff _ (Classical.propDecidable _)
theorem bool_ext {a b : Bool} (h : a = true ↔ b = true) : a = b := Bool.eq_iff_iff.2 h
theorem take_at (l : List Int) (i : Nat) (h : i < l.length) : l.take (i + 1) = l.take i ++ [l.getD i 0] := by
  rw [List.take_succ_eq_append_getElem h]
  simp [List.getD_eq_getElem?_getD, List.getElem?_eq_getElem h]
theorem dp_00 : dp eq P S 0 0 = true := by rw [dp_iff]; simp; exact .nil
theorem dp_0s (k : Nat) (h : k < S.length) : dp eq P S 0 (k + 1) = false := by
  apply Bool.eq_false_iff.2
  intro e
  rw [dp_iff, take_at S k h, List.take_zero, fits_nil] at e
  simp at e
theorem dp_star0 (i : Nat) (hi : i < P.length) (hc : P.getD i 0 = 42) : dp eq P S (i + 1) 0 = dp eq P S i 0 := by
  apply bool_ext
  rw [dp_iff, dp_iff, take_at P i hi, hc, fits_snoc_star]
  constructor
  · rintro ⟨j, _, hf⟩; simpa using hf
  · intro hf; exact ⟨0, by omega, by simpa using hf⟩
theorem dp_star (i k : Nat) (hi : i < P.length) (hk : k < S.length) (hc : P.getD i 0 = 42) : dp eq P S (i + 1) (k + 1) = (dp eq P S i (k + 1) || dp eq P S (i + 1) k) := by
  apply bool_ext
  rw [Bool.or_eq_true, dp_iff, dp_iff, dp_iff, take_at P i hi, hc, fits_snoc_star, fits_snoc_star]
  constructor
  · rintro ⟨j, hj, hf⟩
    rw [List.length_take] at hj
    rw [List.take_take] at hf
    by_cases e : j = k + 1
    · left; rw [e] at hf; simpa using hf
    · right
      refine ⟨j, by rw [List.length_take]; omega, ?_⟩
      rw [List.take_take]
      rw [show min j (k + 1) = j by omega] at hf
      rw [show min j k = j by omega]
      exact hf
  · rintro (hf | ⟨j, hj, hf⟩)
    · exact ⟨k + 1, by rw [List.length_take]; omega, by rw [List.take_take]; simpa using hf⟩
    · rw [List.length_take] at hj
      refine ⟨j, by rw [List.length_take]; omega, ?_⟩
      rw [List.take_take] at hf ⊢
      rwa [show min j (k + 1) = j by omega, ← show min j k = j by omega]
theorem dp_one0 (i : Nat) (hi : i < P.length) (hc : P.getD i 0 ≠ 42) : dp eq P S (i + 1) 0 = false := by
  apply Bool.eq_false_iff.2
  intro e
  rw [dp_iff, take_at P i hi, fits_snoc_one hc] at e
  obtain ⟨x, ys, h, _⟩ := e
  simp at h
theorem dp_one (i k : Nat) (hi : i < P.length) (hk : k < S.length) (hc : P.getD i 0 ≠ 42) : dp eq P S (i + 1) (k + 1) = (dp eq P S i k && eq (P.getD i 0) (S.getD k 0)) := by
  apply bool_ext
  rw [Bool.and_eq_true, dp_iff, dp_iff, take_at P i hi, fits_snoc_one hc, take_at S k hk]
  constructor
  · rintro ⟨x, ys, h, he, hf⟩
    obtain ⟨rfl, h2⟩ := List.append_inj' h rfl
    simp at h2
    subst h2
    exact ⟨hf, he⟩
  · rintro ⟨hf, he⟩; exact ⟨_, _, rfl, he, hf⟩
theorem dp_all : (dp eq P S P.length S.length = true) ↔ Fits eq P S := by rw [dp_iff]; simp

noncomputable def row (i : Nat) : List Bool := (List.range (S.length + 1)).map (dp eq P S i)
theorem row_length (i : Nat) : (row eq P S i).length = S.length + 1 := by simp [row]
theorem row_get (i k : Nat) (h : k ≤ S.length) : (row eq P S i)[k]? = some (dp eq P S i k) := by
  simp [row, List.getElem?_map, List.getElem?_range, Nat.lt_succ_of_le h]
theorem row_zero : row eq P S 0 = true :: List.replicate S.length false := by
  apply List.ext_getElem?
  intro k
  cases k with
  | zero => rw [row_get eq P S 0 0 (by omega), dp_00]; rfl
  | succ k =>
    by_cases h : k < S.length
    · rw [row_get eq P S 0 (k + 1) (by omega), dp_0s eq P S k h]
      simp [h]
    · rw [List.getElem?_eq_none (by rw [row_length]; omega), List.getElem?_eq_none (by simp; omega)]

/-- The list whose first k things are those of another one. -/
def mixG {α : Type} (out xs : List α) (k : Nat) : List α := out.take k ++ xs.drop k
variable {α : Type}
theorem mixG_zero (out xs : List α) : mixG out xs 0 = xs := by simp [mixG]
theorem mixG_all (out xs : List α) (h : out.length = xs.length) : mixG out xs xs.length = out := by simp [mixG, ← h]
theorem mixG_length (out xs : List α) (k : Nat) (h : out.length = xs.length) : (mixG out xs k).length = xs.length := by
  simp [mixG]; omega
theorem mixG_before (out xs : List α) (j k : Nat) (h : out.length = xs.length) (hj : j < k) (hk : k ≤ xs.length) : (mixG out xs k)[j]? = out[j]? := by
  unfold mixG
  rw [List.getElem?_append_left (by simp; omega), List.getElem?_take, if_pos hj]
theorem mixG_set (out xs : List α) (k : Nat) (x : α) (h : out.length = xs.length) (hk : k < xs.length) (hx : out[k]? = some x) : (mixG out xs k).set k x = mixG out xs (k + 1) := by
  have h1 : (out.take k).length = k := by simp; omega
  have h2 : k < out.length := by omega
  unfold mixG
  rw [List.set_append_right _ _ (by omega), h1, Nat.sub_self, List.drop_eq_getElem_cons hk, List.set_cons_zero, List.take_succ_eq_append_getElem h2, List.append_assoc]
  rw [List.getElem?_eq_getElem h2] at hx
  injection hx with hx
  rw [hx]; rfl
theorem mixG_same (out xs : List α) (k : Nat) (h : out.length = xs.length) (hk : k < xs.length) (hx : out[k]? = xs[k]?) : mixG out xs k = mixG out xs (k + 1) := by
  have h2 : k < out.length := by omega
  rw [List.getElem?_eq_getElem h2, List.getElem?_eq_getElem hk] at hx
  injection hx with hx
  unfold mixG
  rw [List.drop_eq_getElem_cons hk, List.take_succ_eq_append_getElem h2, List.append_assoc, hx]; rfl
end Go.Proofs.Ytmjldihmcbjfhaa.H
