/-
  No row starts a goroutine: no function of the program does.
-/
import Derived.Test.YtnkkccafdbaoeaaGreatDoorRows
import Derived.KernelRfl
import GoSem.ClaimGoes
namespace Go.Proofs.YtnkkccafdbaoeaaGreatDoor.H
open Go
theorem no_goes : Tryz.prog.funcs.any Func.goes = false := by kernel_rfl
theorem goes_none {P : Program} (h : P.funcs.any Func.goes = false) (f : FuncId) : P.goes f = false := by
  have hall : ∀ g : FuncId, (P.funcs[g]?).any Func.goes = false := by
    intro g
    cases hg : P.funcs[g]? with
    | none => rfl
    | some fn =>
      obtain ⟨hlt, rfl⟩ := Array.getElem?_eq_some_iff.1 hg
      have := Array.any_eq_false.1 h g hlt
      simpa using this
  unfold Program.goes
  rw [h, Bool.and_false, Bool.or_false]
  rw [List.any_eq_false]
  intro g _
  rw [hall g]; simp
theorem goesBy_none {P : Program} (h : P.funcs.any Func.goes = false) (c : OpenClaim) (hc : c.start = .entering) : false = c.goesBy P := by
  unfold OpenClaim.goesBy Program.goesAt Program.goesFrom
  rw [hc]
  cases P.funcNamed c.func with
  | none => rfl
  | some f => simp [goes_none h]
end Go.Proofs.YtnkkccafdbaoeaaGreatDoor.H
