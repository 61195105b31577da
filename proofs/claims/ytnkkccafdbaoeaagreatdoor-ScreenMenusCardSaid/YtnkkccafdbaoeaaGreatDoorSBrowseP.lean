/-
  A browse in plain Lean: the page moves as little as it must, however that is said.
-/
import Derived.Lib.Hide
namespace Go.Proofs.YtnkkccafdbaoeaaGreatDoor.H
set_option linter.unusedVariables false

/-- The page and the bar (top, bar) behind a move to a row. -/
def bTo (n page : Int) (top k : Int) : Int × Int := (max (min top (min (max k 0) (n - 1))) (min (max k 0) (n - 1) - page + 1), min (max k 0) (n - 1))
/-- What a key does, as the program says it. -/
def bKey (n page : Int) (s : Int × Int) (key : Int) : Int × Int :=
  if key = 3 then bTo n page s.1 (s.2 + 1)
  else if key = 2 then bTo n page s.1 (s.2 - 1)
  else if key = 9 then bTo n page s.1 0
  else if key = 10 then bTo n page s.1 (n - 1)
  else if key = 5 then (if s.1 + page ≥ n then (s.1, n - 1) else (s.1 + page, min (s.2 + page) (n - 1)))
  else if key = 4 then (max (s.1 - page) 0, s.2 - (s.1 - max (s.1 - page) 0))
  else s
/-- What a key does, as the reference says it, ahead of the page's move. -/
def rKey0 (n page : Int) (s : Int × Int) (key : Int) : Int × Int :=
  if key = 3 then (s.1, min (s.2 + 1) (n - 1))
  else if key = 2 then (s.1, max (s.2 - 1) 0)
  else if key = 9 then (s.1, 0)
  else if key = 10 then (s.1, n - 1)
  else if key = 5 then (if s.1 + page < n then (s.1 + page, min (s.2 + page) (n - 1)) else (s.1, n - 1))
  else if key = 4 then (s.1 - min s.1 page, s.2 - min s.1 page)
  else s
def rKey (n page : Int) (s : Int × Int) (key : Int) : Int × Int :=
  (max (min (rKey0 n page s key).1 (rKey0 n page s key).2) ((rKey0 n page s key).2 - page + 1), (rKey0 n page s key).2)
def bInv (n page : Int) (s : Int × Int) : Prop := 0 ≤ s.1 ∧ s.1 ≤ s.2 ∧ s.2 ≤ n - 1 ∧ s.2 ≤ s.1 + page - 1
theorem bKey_inv {n page : Int} (hn : 1 ≤ n) (hp : 1 ≤ page) {s : Int × Int} (h : bInv n page s) (key : Int) : bInv n page (bKey n page s key) ∧ rKey n page s key = bKey n page s key := by
  obtain ⟨t, b⟩ := s
  obtain ⟨h1, h2, h3, h4⟩ := h
  simp only at h1 h2 h3 h4
  unfold bInv bKey rKey rKey0 bTo
  dsimp only
  by_cases k3 : key = 3
  · simp only [if_pos k3]; refine ⟨⟨?_, ?_, ?_, ?_⟩, Prod.ext ?_ ?_⟩ <;> (try dsimp only) <;> omega
  · by_cases k2 : key = 2
    · simp only [if_neg k3, if_pos k2]; refine ⟨⟨?_, ?_, ?_, ?_⟩, Prod.ext ?_ ?_⟩ <;> (try dsimp only) <;> omega
    · by_cases k9 : key = 9
      · simp only [if_neg k3, if_neg k2, if_pos k9]; refine ⟨⟨?_, ?_, ?_, ?_⟩, Prod.ext ?_ ?_⟩ <;> (try dsimp only) <;> omega
      · by_cases k10 : key = 10
        · simp only [if_neg k3, if_neg k2, if_neg k9, if_pos k10]; refine ⟨⟨?_, ?_, ?_, ?_⟩, Prod.ext ?_ ?_⟩ <;> (try dsimp only) <;> omega
        · by_cases k5 : key = 5
          · simp only [if_neg k3, if_neg k2, if_neg k9, if_neg k10, if_pos k5]
            by_cases hr : t + page ≥ n
            · simp only [if_pos hr, if_neg (show ¬ t + page < n by omega)]; refine ⟨⟨?_, ?_, ?_, ?_⟩, Prod.ext ?_ ?_⟩ <;> (try dsimp only) <;> omega
            · simp only [if_neg hr, if_pos (show t + page < n by omega)]; refine ⟨⟨?_, ?_, ?_, ?_⟩, Prod.ext ?_ ?_⟩ <;> (try dsimp only) <;> omega
          · by_cases k4 : key = 4
            · simp only [if_neg k3, if_neg k2, if_neg k9, if_neg k10, if_neg k5, if_pos k4]; refine ⟨⟨?_, ?_, ?_, ?_⟩, Prod.ext ?_ ?_⟩ <;> (try dsimp only) <;> omega
            · simp only [if_neg k3, if_neg k2, if_neg k9, if_neg k10, if_neg k5, if_neg k4]; refine ⟨⟨?_, ?_, ?_, ?_⟩, Prod.ext ?_ ?_⟩ <;> (try dsimp only) <;> omega
theorem bRun_eq {n page : Int} (hn : 1 ≤ n) (hp : 1 ≤ page) : ∀ (keys : List Int) (s : Int × Int), bInv n page s → keys.foldl (rKey n page) s = keys.foldl (bKey n page) s ∧ bInv n page (keys.foldl (bKey n page) s)
  | [], s, h => ⟨rfl, h⟩
  | k :: keys, s, h => by
    obtain ⟨h1, h2⟩ := bKey_inv hn hp h k
    simp only [List.foldl_cons, h2]
    exact bRun_eq hn hp keys _ h1
theorem bStart (n page : Int) (hn : 1 ≤ n) (hp : 1 ≤ page) : bInv n page (0, 0) := by
  unfold bInv; omega
end Go.Proofs.YtnkkccafdbaoeaaGreatDoor.H
