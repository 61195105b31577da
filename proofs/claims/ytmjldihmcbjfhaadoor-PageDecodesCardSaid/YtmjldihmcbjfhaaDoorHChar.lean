/-
  The reference's characters and bytes are those of the program's table.
-/
import Derived.Test.YtmjldihmcbjfhaaDoorHTabs
import Derived.Test.YtmjldihmcbjfhaaDoorPPageEncodesx3
namespace Go.Proofs.YtmjldihmcbjfhaaDoor.H
open Go.RowKit Go.Proofs.YtmjldihmcbjfhaaDoorW.PrintWords Go.Proofs.YtmjldihmcbjfhaaDoorW.PrintLast Go.Proofs.YtmjldihmcbjfhaaDoorW.PrintMore Go.Proofs.YtmjldihmcbjfhaaDoor.PPageEncodes
set_option linter.unusedVariables false
set_option linter.unusedSimpArgs false

theorem pageL_get (P b : Nat) (hP : P < 3) (hb : b < 256) : (pageL P).getD b 0 = pg3 240 (P * 256 + b) := by
  unfold pageL
  rw [List.getD_eq_getElem?_getD, List.getElem?_take_of_lt hb, List.getElem?_drop]
  have h := tab_get (pg3 240) (P * 256 + b) (by omega)
  rwa [List.getD_eq_getElem?_getD] at h
/-- The character of a byte, as the reference tells it. -/
def chP (P b : Nat) : Int × Bool := if 0 ≤ pg3 240 (P * 256 + b) then (pg3 240 (P * 256 + b), true) else (0, false)
theorem char_rounds (k : Nat) (b P : Int) : PPageEncodes.cabinetryref02_char.f (k + 3) b P = PPageEncodes.cabinetryref02_char.f 3 b P := by
  simp only [PPageEncodes.cabinetryref02_char.f, PPageEncodes.cabinetryref02_char.j0, PPageEncodes.cabinetryref02_char.j1]
theorem char_fin : ∀ (P : Fin 3) (b : Fin 256), PPageEncodes.cabinetryref02_char.f 3 (b.val : Int) (P.val : Int) = some (chP P.val b.val) := by
  decide +kernel
theorem char_eq (k P b : Nat) (hP : P < 3) (hb : b < 256) : PPageEncodes.cabinetryref02_char.f (k + 3) (b : Int) (P : Int) = some (chP P b) := by
  rw [char_rounds]; exact char_fin ⟨P, hP⟩ ⟨b, hb⟩

theorem byteOf_loop (P : Nat) (hP : P < 3) (c : Int) (hc : 0 ≤ c) : ∀ (d n k : Nat), n + d = 256 → d + 4 ≤ k → noneIn (pageL P) c n → PPageEncodes.cabinetryref02_byteOf.l0 k c P n = some (bo (pageL P) c)
  | 0, n, k, hn, hk, hno => by
    obtain ⟨k, rfl⟩ : ∃ m, k = m + 1 := ⟨k - 1, by omega⟩
    obtain rfl : n = 256 := by omega
    simp only [PPageEncodes.cabinetryref02_byteOf.l0]
    rw [if_neg (by omega), bo_none (by rw [pageL_len P hP]; exact hno)]
  | d + 1, n, k, hn, hk, hno => by
    obtain ⟨k, rfl⟩ : ∃ m, k = m + 1 := ⟨k - 1, by omega⟩
    have hn2 : n < 256 := by omega
    simp only [PPageEncodes.cabinetryref02_byteOf.l0]
    obtain ⟨j, rfl⟩ : ∃ m, k = m + 3 := ⟨k - 3, by omega⟩
    rw [if_pos (by omega), show ((n : Int) % 256) = (n : Int) by omega, char_eq _ _ _ hP hn2]
    simp only [Option.bind_some]
    have hg := pageL_get P n hP hn2
    have hw : wrap64 ((n : Int) + 1) = ((n + 1 : Nat) : Int) := by unfold wrap64; omega
    by_cases h0 : 0 ≤ pg3 240 (P * 256 + n)
    · rw [show chP P n = (pg3 240 (P * 256 + n), true) from if_pos h0]
      simp only [if_true]
      by_cases he : pg3 240 (P * 256 + n) = c
      · rw [if_pos he, bo_some hno (by rw [pageL_len P hP]; exact hn2) (hg.trans he) hc]
      · rw [if_neg he, hw]
        refine byteOf_loop P hP c hc d (n + 1) _ (by omega) (by omega) fun j hj => ?_
        by_cases e : j = n
        · subst e; rw [hg]; exact fun h => he h.1
        · exact hno j (by omega)
    · rw [show chP P n = (0, false) from if_neg h0]
      simp only [Bool.false_eq_true, if_false]
      rw [hw]
      refine byteOf_loop P hP c hc d (n + 1) _ (by omega) (by omega) fun j hj => ?_
      by_cases e : j = n
      · subst e; rw [hg]; exact fun h => by omega
      · exact hno j (by omega)
theorem rbyteOf_eq (P k : Nat) (hP : P < 3) (c : Int) (hc : 0 ≤ c) (hk : 260 ≤ k) : PPageEncodes.cabinetryref02_byteOf.f k c P = some (bo (pageL P) c) :=
  byteOf_loop P hP c hc 256 0 k (by omega) (by omega) fun j hj => absurd hj (by omega)
theorem bo_neg (xs : List Int) (c : Int) (hc : ¬ 0 ≤ c) : bo xs c = (0, false) := bo_none fun j hj h => hc h.2

end Go.Proofs.YtmjldihmcbjfhaaDoor.H
