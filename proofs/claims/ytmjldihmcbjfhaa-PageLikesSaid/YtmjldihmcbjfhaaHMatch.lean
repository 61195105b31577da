/-
  Patterns with stars: when a list fits one. Plain Lean: no program in sight.
-/
namespace Go.Proofs.Ytmjldihmcbjfhaa.H

/-- 42 is the star; 'eq c x' says whether any other place of a pattern takes x. -/
inductive Fits (eq : Int → Int → Bool) : List Int → List Int → Prop
  | nil : Fits eq [] []
  | skip {ps xs} : Fits eq ps xs → Fits eq (42 :: ps) xs
  | eat {ps x xs} : Fits eq (42 :: ps) xs → Fits eq (42 :: ps) (x :: xs)
  | one {c ps x xs} : c ≠ 42 → eq c x = true → Fits eq ps xs → Fits eq (c :: ps) (x :: xs)

variable {eq : Int → Int → Bool}

theorem fits_nil (xs : List Int) : Fits eq [] xs ↔ xs = [] := by
  constructor
  · intro h; cases h; rfl
  · rintro rfl; exact .nil
theorem fits_one {c : Int} (hc : c ≠ 42) (ps xs : List Int) : Fits eq (c :: ps) xs ↔ ∃ x ys, xs = x :: ys ∧ eq c x = true ∧ Fits eq ps ys := by
  constructor
  · intro h
    cases h with
    | skip h => exact absurd rfl hc
    | eat h => exact absurd rfl hc
    | one _ he h => exact ⟨_, _, rfl, he, h⟩
  · rintro ⟨x, ys, rfl, he, h⟩; exact .one hc he h
theorem fits_star (ps xs : List Int) : Fits eq (42 :: ps) xs ↔ ∃ j, j ≤ xs.length ∧ Fits eq ps (xs.drop j) := by
  constructor
  · intro h
    generalize hp : (42 :: ps) = l at h
    induction h with
    | nil => cases hp
    | skip h _ => cases hp; exact ⟨0, by omega, by simpa using h⟩
    | @eat ps' x xs h ih =>
      cases hp
      obtain ⟨j, hj, hf⟩ := ih rfl
      exact ⟨j + 1, by simpa using hj, by simpa using hf⟩
    | one hc _ _ _ => cases hp; exact absurd rfl hc
  · rintro ⟨j, hj, hf⟩
    induction j generalizing xs with
    | zero => exact .skip (by simpa using hf)
    | succ j ih =>
      cases xs with
      | nil => simp at hj
      | cons x xs => exact .eat (ih xs (by simpa using hj) (by simpa using hf))
/-- A stretch without stars takes just as many. -/
theorem fits_seg (seg ps xs : List Int) (hs : ∀ c, c ∈ seg → c ≠ 42) :
    Fits eq (seg ++ ps) xs ↔ seg.length ≤ xs.length ∧ (∀ i, i < seg.length → eq (seg.getD i 0) (xs.getD i 0) = true) ∧ Fits eq ps (xs.drop seg.length) := by
  induction seg generalizing xs with
  | nil => simp
  | cons c seg ih =>
    rw [List.cons_append, fits_one (hs c (by simp))]
    constructor
    · rintro ⟨x, ys, rfl, he, h⟩
      obtain ⟨h1, h2, h3⟩ := (ih ys (fun d hd => hs d (by simp [hd]))).1 h
      refine ⟨by simpa using h1, fun i hi => ?_, by simpa using h3⟩
      cases i with
      | zero => simpa using he
      | succ i => simpa using h2 i (by simpa using hi)
    · rintro ⟨h1, h2, h3⟩
      cases xs with
      | nil => simp at h1
      | cons x ys =>
        refine ⟨x, ys, rfl, by simpa using h2 0 (by simp), (ih ys (fun d hd => hs d (by simp [hd]))).2 ⟨by simpa using h1, fun i hi => by simpa using h2 (i + 1) (by simpa using hi), by simpa using h3⟩⟩

/-! ### from the other end -/
theorem fits_snoc_star (ps xs : List Int) : Fits eq (ps ++ [42]) xs ↔ ∃ j, j ≤ xs.length ∧ Fits eq ps (xs.take j) := by
  constructor
  · intro h
    generalize hp : ps ++ [42] = l at h
    induction h generalizing ps with
    | nil => simp at hp
    | @skip ps' xs h ih =>
      cases ps with
      | nil =>
        simp only [List.nil_append, List.cons.injEq, true_and] at hp
        subst hp
        have := (fits_nil xs).1 h
        subst this
        exact ⟨0, by simp, .nil⟩
      | cons d ps =>
        simp only [List.cons_append, List.cons.injEq] at hp
        obtain ⟨rfl, rfl⟩ := hp
        obtain ⟨j, hj, hf⟩ := ih ps rfl
        exact ⟨j, hj, .skip hf⟩
    | @eat ps' x xs h ih =>
      cases ps with
      | nil => exact ⟨0, by simp, .nil⟩
      | cons d ps =>
        simp only [List.cons_append, List.cons.injEq] at hp
        obtain ⟨rfl, rfl⟩ := hp
        obtain ⟨j, hj, hf⟩ := ih (42 :: ps) rfl
        exact ⟨j + 1, by simpa using hj, by rw [List.take_succ_cons]; exact .eat hf⟩
    | @one c ps' x xs hc he h ih =>
      cases ps with
      | nil =>
        simp only [List.nil_append, List.cons.injEq] at hp
        exact absurd hp.1.symm hc
      | cons d ps =>
        simp only [List.cons_append, List.cons.injEq] at hp
        obtain ⟨rfl, rfl⟩ := hp
        obtain ⟨j, hj, hf⟩ := ih ps rfl
        exact ⟨j + 1, by simpa using hj, by rw [List.take_succ_cons]; exact .one hc he hf⟩
  · rintro ⟨j, hj, hf⟩
    have h1 : ∀ ys : List Int, Fits eq [42] ys := fun ys => (fits_star [] ys).2 ⟨ys.length, Nat.le_refl _, by simp; exact .nil⟩
    have h2 : ∀ (as : List Int) (bs : List Int), Fits eq ps as → Fits eq (ps ++ [42]) (as ++ bs) := by
      intro as bs h
      clear hf
      induction h with
      | nil => exact h1 _
      | skip _ ih => exact .skip ih
      | eat _ ih => exact .eat ih
      | one hc he _ ih => exact .one hc he ih
    have := h2 _ (xs.drop j) hf
    rwa [List.take_append_drop] at this
theorem fits_snoc_one {c : Int} (hc : c ≠ 42) (ps xs : List Int) : Fits eq (ps ++ [c]) xs ↔ ∃ x ys, xs = ys ++ [x] ∧ eq c x = true ∧ Fits eq ps ys := by
  constructor
  · intro h
    generalize hp : ps ++ [c] = l at h
    induction h generalizing ps with
    | nil => simp at hp
    | @skip ps' xs h ih =>
      cases ps with
      | nil =>
        simp only [List.nil_append, List.cons.injEq] at hp
        exact absurd hp.1 hc
      | cons d ps =>
        simp only [List.cons_append, List.cons.injEq] at hp
        obtain ⟨rfl, rfl⟩ := hp
        obtain ⟨x, ys, rfl, he, hf⟩ := ih ps rfl
        exact ⟨x, ys, rfl, he, .skip hf⟩
    | @eat ps' x xs h ih =>
      cases ps with
      | nil =>
        simp only [List.nil_append, List.cons.injEq] at hp
        exact absurd hp.1 hc
      | cons d ps =>
        simp only [List.cons_append, List.cons.injEq] at hp
        obtain ⟨rfl, rfl⟩ := hp
        obtain ⟨y, ys, rfl, he, hf⟩ := ih (42 :: ps) rfl
        exact ⟨y, x :: ys, rfl, he, .eat hf⟩
    | @one d' ps' x xs hc' he h ih =>
      cases ps with
      | nil =>
        simp only [List.nil_append, List.cons.injEq] at hp
        obtain ⟨rfl, rfl⟩ := hp
        have := (fits_nil xs).1 h
        subst this
        exact ⟨x, [], rfl, he, .nil⟩
      | cons d ps =>
        simp only [List.cons_append, List.cons.injEq] at hp
        obtain ⟨rfl, rfl⟩ := hp
        obtain ⟨y, ys, rfl, he', hf⟩ := ih ps rfl
        exact ⟨y, x :: ys, rfl, he', .one hc' he hf⟩
  · rintro ⟨x, ys, rfl, he, hf⟩
    induction hf with
    | nil => exact .one hc he .nil
    | skip _ ih => exact .skip ih
    | eat _ ih => exact .eat ih
    | one hc' he' _ ih => exact .one hc' he' ih
end Go.Proofs.Ytmjldihmcbjfhaa.H
