/-
  Arrays of two numbers that came in; blocks that stay.
-/
import Derived.Test.YtmjldihmcbjfhaaHSounds
import Derived.ProofKit
import Derived.OpenShut
import Derived.Lib.SmallJoins
namespace Go.Proofs.Ytmjldihmcbjfhaa.H
open Go.RowKit Go.Proofs.YtmjldihmcbjfhaaW.PrintWords Go.Proofs.YtmjldihmcbjfhaaW.PrintLast Go.Proofs.YtmjldihmcbjfhaaW.PrintMore Go.Proofs.Ytmjldihmcbjfhaa.PPageCases
open Go.ChangeShapes Go.WideShapes
set_option linter.unusedVariables false
set_option linter.unusedSimpArgs false
/-! ### arrays that came in -/
theorem cells_a2 : Try.prog.cellsOf 27 = 2 := by kernel_rfl
theorem cells_int : Try.prog.cellsOf 3 = 1 := by kernel_rfl
theorem cells_str : Try.prog.cellsOf 9 = 1 := by kernel_rfl
theorem open_ints2 {T : Type} {enc : TypeId × Value → T} {W : World} {r : Reach} {b0 base : Nat} {spare : Nat → Bool} {held : Bool} {v : Value} {d : DataW T} {p : List MemPlace}
    (hv : Value.okWide Try.prog W r b0 27 v) (h : DataW.Trod enc Try.prog W base spare held 27 v d p) : ∃ a b : Int, v = .agg #[.int .i64 a, .int .i64 b] := by
  simp only [Value.okWide, Try.underlying27] at hv
  obtain ⟨cs, rfl, hsz, _⟩ := hv
  obtain ⟨c0, c1, rfl⟩ := Joins.array2 (hsz.trans cells_a2)
  obtain ⟨fuel, hf⟩ := h
  obtain ⟨xs, m, _, _, _, hl, he⟩ := DataW.trod_array Try.underlying27 hf
  have h0 := he 0 (by omega)
  have h1 := he 1 (by omega)
  match xs, hl with
  | [x0, x1], _ =>
    simp only [cells_int, Value.cells] at h0 h1
    obtain ⟨a, e0, _⟩ := DataW.trod_int Try.underlying3 (x := x0) (by simpa using h0)
    obtain ⟨b, e1, _⟩ := DataW.trod_int Try.underlying3 (x := x1) (by simpa using h1)
    simp at e0 e1
    exact ⟨a, b, by rw [e0, e1]⟩
theorem boxed {w W w1 : World} {g : Nat} {o : Obj} (hb : Below W.heap.size W w1) (h : W.heap[g]? = some o) : w1.heap[g]? = some o := (hb.block g (Array.getElem?_eq_some_iff.1 h).1).trans h
theorem nx {w w1 w2 : World} (h : Below w.heap.size w w1) (k : Below w1.heap.size w1 w2) : Below w.heap.size w w2 := h.trans (k.mono h.size)
end Go.Proofs.Ytmjldihmcbjfhaa.H
