/-
  Which keys a place takes: the program and the reference agree.
-/
import Derived.Test.YtnkkccafdbaoeaaGreatDoorHBuf
import Derived.Test.YtnkkccafdbaoeaaGreatDoorPScreenTakesx1
namespace Go.Proofs.YtnkkccafdbaoeaaGreatDoor.H
open Go.RowKit Go.Proofs.YtnkkccafdbaoeaaGreatDoorW.PrintWords Go.Proofs.YtnkkccafdbaoeaaGreatDoorW.PrintLast Go.Proofs.YtnkkccafdbaoeaaGreatDoorW.PrintMore Go.Proofs.YtnkkccafdbaoeaaGreatDoor.PScreenTakes
set_option linter.unusedVariables false
set_option linter.unusedSimpArgs false

theorem some_of_isSome {α : Type} {a : Option α} (d : α) (h : a.isSome = true) : a = some (a.getD d) := by
  cases a with
  | none => simp at h
  | some x => rfl
theorem isSome_bind {α β : Type} {a : Option α} {f : α → Option β} (h : a.isSome = true) (k : ∀ x, (f x).isSome = true) : (a.bind f).isSome = true := by
  cases a with
  | none => simp at h
  | some x => exact k x
theorem isSome_ite {α : Type} {c : Prop} [Decidable c] {a b : Option α} (h : a.isSome = true) (k : b.isSome = true) : (if c then a else b).isSome = true := by
  split
  · exact h
  · exact k
/-- As what a place takes a byte, as the program says it (a byte that it does not take stays beside false). -/
def tkn (p c : Int) : Int × Bool := (screen_taken.f p c).getD (0, false)
/-- As what a place takes a key; (0, false) if it does not. -/
def tkk (p c : Int) : Int × Bool := (screen_Takes.f p c).getD (0, false)
theorem isChar_some (c : Int) : (screen_isChar.f c).isSome = true := by unfold screen_isChar.f; exact isSome_ite rfl rfl
theorem isDigit_some (c : Int) : (screen_isDigit.f c).isSome = true := by unfold screen_isDigit.f; exact isSome_ite rfl rfl
theorem isLetter_some (c : Int) : (screen_isLetter.f c).isSome = true := by unfold screen_isLetter.f; repeat first | exact rfl | refine isSome_ite ?_ ?_
theorem taken_some (p c : Int) : (screen_taken.f p c).isSome = true := by
  unfold screen_taken.f
  repeat first | exact rfl | exact isChar_some _ | exact isDigit_some _ | exact isLetter_some _ | refine isSome_ite ?_ ?_ | refine isSome_bind ?_ (fun _ => ?_)
theorem takes_some (p c : Int) : (screen_Takes.f p c).isSome = true := by
  unfold screen_Takes.f
  repeat first | exact rfl | exact isChar_some _ | exact taken_some _ _ | refine isSome_ite ?_ ?_ | refine isSome_bind ?_ (fun _ => ?_)
theorem taken_call (p c : Int) (w : World) : Calls Tryz.prog 18 #[.int .u8 p, .int .u8 c] w fun e w' => e = .returned (.tuple #[.int .u8 (tkn p c).1, .bool (tkn p c).2]) ∧ Drawn0 w w' :=
  screen_taken.calls p c _ _ w (some_of_isSome (0, false) (taken_some p c))
theorem takes_call (p c : Int) (w : World) : Calls Tryz.prog 7 #[.int .u8 p, .int .i64 c] w fun e w' => e = .returned (.tuple #[.int .u8 (tkk p c).1, .bool (tkk p c).2]) ∧ Drawn0 w w' :=
  screen_Takes.calls p c _ _ w (some_of_isSome (0, false) (takes_some p c))
theorem rtakes_fin (k : Fin 127) : ∀ p ∈ [(57 : Int), 65, 78, 88, 33], cabinetryref26_Takes.f 8 p (k.val : Int) = screen_Takes.f p (k.val : Int) := by
  revert k; decide +kernel
theorem taken_other {p : Int} (h1 : p ≠ 57) (h2 : p ≠ 65) (h3 : p ≠ 78) (h4 : p ≠ 88) (h5 : p ≠ 33) (c : Int) : screen_taken.f p c = some (0, false) := by
  unfold screen_taken.f
  rw [some_of_isSome false (isChar_some _)]
  simp only [Option.bind_some, if_neg h1, if_neg h2, if_neg h3, if_neg h4, if_neg h5, ite_self]
theorem rtakes_eq (p c : Int) : cabinetryref26_Takes.f 8 p c = some (tkk p c) := by
  rw [show some (tkk p c) = screen_Takes.f p c from (some_of_isSome (0, false) (takes_some p c)).symm]
  by_cases h0 : c < 32
  · have e : screen_Takes.f p c = some (0, false) := by
      unfold screen_Takes.f screen_isChar.f
      rw [if_neg (by omega)]; rfl
    rw [e]
    unfold cabinetryref26_Takes.f
    rw [if_pos h0]; rfl
  · by_cases h1 : c > 126
    · have e : screen_Takes.f p c = some (0, false) := by
        unfold screen_Takes.f screen_isChar.f
        rw [if_pos (by omega)]
        simp only [Option.bind_some]
        rw [if_neg (by simp; omega)]
      rw [e]
      unfold cabinetryref26_Takes.f
      rw [if_neg h0]
      simp only [h1, decide_true]
      rfl
    · obtain ⟨n, rfl⟩ : ∃ n : Nat, c = n := Int.eq_ofNat_of_zero_le (by omega)
      by_cases hp : p ∈ [(57 : Int), 65, 78, 88, 33]
      · exact rtakes_fin ⟨n, by omega⟩ p hp
      · simp only [List.mem_cons, List.not_mem_nil, or_false, not_or] at hp
        obtain ⟨g1, g2, g3, g4, g5⟩ := hp
        unfold screen_Takes.f
        rw [taken_other g1 g2 g3 g4 g5, some_of_isSome false (isChar_some _)]
        simp only [Option.bind_some, Bool.false_eq_true, if_false, ite_self]
        unfold cabinetryref26_Takes.f
        simp only [cabinetryref26_Takes.j0, cabinetryref26_Takes.j1, cabinetryref26_Takes.j2, cabinetryref26_Takes.j3, if_neg g1, if_neg g2, if_neg g3, if_neg g4, if_neg g5, ite_self]
theorem rtakes_call (p c : Int) (w : World) : Calls Tryz.prog 8 #[.int .u8 p, .int .i64 c] w fun e w' => e = .returned (.tuple #[.int .u8 (tkk p c).1, .bool (tkk p c).2]) ∧ Drawn0 w w' :=
  cabinetryref26_Takes.calls 8 p c _ _ w (rtakes_eq p c)
end Go.Proofs.YtnkkccafdbaoeaaGreatDoor.H
