/-
  A world in which the variables that the rows list are laid: that there is an input that fits.
-/
import Derived.Test.YtnkkccafdbaoeaaGreatDoorRows
import Derived.Lay
import Derived.LaidHandle
import Derived.LaidMore
namespace Go.Proofs.YtnkkccafdbaoeaaGreatDoor.H
open Go
def laid11 : List (String × DataW Unit) := [("unicode/utf8.first", Rows.laid_unicode_utf8_first), ("unicode/utf8.acceptRanges", Rows.laid_unicode_utf8_acceptRanges), ("unicode.CaseRanges", Rows.laid_unicode_CaseRanges), ("strconv.ErrSyntax", Rows.laid_strconv_ErrSyntax), ("strconv.ErrRange", Rows.laid_strconv_ErrRange), ("internal/strconv.uint64pow10", Rows.laid_internal_strconv_uint64pow10), ("math/bits.deBruijn32tab", Rows.laid_math_bits_deBruijn32tab), ("math/bits.deBruijn64tab", Rows.laid_math_bits_deBruijn64tab), ("strings.asciiSpace", Rows.laid_strings_asciiSpace), ("unicode.White_Space", Rows.laid_unicode_White_Space), ("errors.errorType", Rows.laid_errors_errorType)]
def laid10 : List (String × DataW Unit) := [("unicode/utf8.first", Rows.laid_unicode_utf8_first), ("unicode/utf8.acceptRanges", Rows.laid_unicode_utf8_acceptRanges), ("unicode.CaseRanges", Rows.laid_unicode_CaseRanges), ("strconv.ErrSyntax", Rows.laid_strconv_ErrSyntax), ("strconv.ErrRange", Rows.laid_strconv_ErrRange), ("internal/strconv.uint64pow10", Rows.laid_internal_strconv_uint64pow10), ("math/bits.deBruijn32tab", Rows.laid_math_bits_deBruijn32tab), ("math/bits.deBruijn64tab", Rows.laid_math_bits_deBruijn64tab), ("strings.asciiSpace", Rows.laid_strings_asciiSpace), ("unicode.White_Space", Rows.laid_unicode_White_Space)]
theorem laid_plain : (laid11.filter fun x => x.2.handleName?.isNone) = laid10 := by kernel_rfl
theorem laid_handle : (laid11.filter fun x => x.2.handleName?.isSome && x.2.funcsIn?.isNone) = [("errors.errorType", Rows.laid_errors_errorType)] := by kernel_rfl
theorem laid_funcs : funcsListed laid11 = [] := by kernel_rfl
noncomputable def hU : TypeId := ((Tryz.prog.cutTypes.find? (·.1 == "internal/reflectlite.rtype")).map (·.2)).getD 0
noncomputable def hT : TypeId := ((List.range Tryz.prog.types.size).find? fun t => Tryz.prog.rowNamed t [101, 114, 114, 111, 114]).getD 0
noncomputable def hG : Nat := (Tryz.prog.globalNamed "errors.errorType").getD 0
/-- The settled world, the handle of the type 'error' in its variable. -/
noncomputable def handWorld (os : Os) : World :=
  let w0 := World.holding Tryz.prog os ⟨#[], #[], []⟩
  { w0 with heap := w0.heap.modify hG fun
    | .cells _ t frozen => .cells #[.iface hU (.agg #[typeHandle Tryz.prog hT])] t frozen
    | o => o }
/-- .. and the others laid. -/
noncomputable def laidWorld (os : Os) : World := (handWorld os).layVars Tryz.prog laid10
theorem laidWorld_os (os : Os) : (laidWorld os).os = os := World.layVars_os _ _ _
theorem fits10 (os : Os) : (handWorld os).layFits Tryz.prog laid10 [] = true := by kernel_rfl
theorem ifaces10 (os : Os) : (handWorld os).layIfaces Tryz.prog laid10 (laidWorld os) = true := by kernel_rfl
theorem met10 (os : Os) (args : Array Value) : laidMet Tryz.prog laid10 ((laidWorld os).forCall (fun _ _ => 0) ⟨#[], args, []⟩).memory := by
  have e1 : (laid10.filter fun x => (laid10.map (·.1)).contains x.1) = laid10 := List.filter_eq_self.2 fun x hx => List.contains_iff_mem.2 (List.mem_map.2 ⟨x, hx, rfl⟩)
  have e2 : (laid10.filter fun x => !(laid10.map (·.1)).contains x.1) = [] := List.filter_eq_nil_iff.2 fun x hx => by rw [List.contains_iff_mem.2 (List.mem_map.2 ⟨x, hx, rfl⟩)]; simp
  have h : laidMet Tryz.prog laid10 (laidWorld os) := laidMet_layVars (w0 := handWorld os) (laid10.map (·.1)) [] (by rw [e1]; rfl) (by rw [e1]; exact fits10 os) (by rw [e1]; exact ifaces10 os) (by rw [e2]; exact LaidIn.none)
  exact h.of_heap (by simp [World.memory, World.forCall, Input.heap])
theorem hand_met (os : Os) (args : Array Value) : [("errors.errorType", Rows.laid_errors_errorType)].all (handleAtB Tryz.prog ((laidWorld os).forCall (fun _ _ => 0) ⟨#[], args, []⟩).memory) = true := by kernel_rfl
theorem laidWorld_met (os : Os) (args : Array Value) : laidMetH Tryz.prog laid11 ((laidWorld os).forCall (fun _ _ => 0) ⟨#[], args, []⟩).memory :=
  laidMetH_of_parts3 (fuel := 8) (by rw [laid_plain]; exact met10 os args) (by rw [laid_handle]; exact hand_met os args) (by rw [laid_funcs]; rfl)
theorem laidWorld_shaped (os : Os) (args : Array Value) : ((laidWorld os).forCall (fun _ _ => 0) ⟨#[], args, []⟩).Shaped Tryz.prog :=
  World.shaped_of_ZipB (by kernel_rfl) (by kernel_rfl)
end Go.Proofs.YtnkkccafdbaoeaaGreatDoor.H
