/-
  No cell of these rows narrows 'for every input' (looked for: loops, veiled, ifaces, maps, wideKeys, modest, calm, conditions, laid).
  DERIVED. THE GIVEN ROWS OF THIS SEAT. 7 by the template 'for every input the law returns true; each argument reads behind the call as it read before'; 0 by the template 'total and deterministic' (their statements: YtmjldihmcbjfhaaTotals.lean).
  GIVEN WITH THE SEED: the statements are not yours to turn. If you find one false, say at which input.
  Laid BY PROGRAM, IN A SANDBOX (cutbox-rows.mjs): the forced cells as the released guide's own fill.sh prints them over the translation a9811a92bc23575b… (all of the seat's roots in one cut). By AI agents, Wed Nov 11 2026. No macro, syntax, notation, axiom, sorry.
-/
import Derived.Test.YtmjldihmcbjfhaaChecked
import GoSem.Claim
import GoSem.ClaimJoined
import GoSem.ClaimMapViews
import Derived.JoinedTies
import Derived.KernelRfl
namespace Go.Proofs.Ytmjldihmcbjfhaa
/- THE CELL 'sum', in the pinned program and in every row, IS THE sha256 OF THE DUMP (.gsa) THAT YtmjldihmcbjfhaaProg.lean LOADS. Nothing in Lean hashes anything: it is a label: what it is worth is what the hold of that sum in a sandbox is worth. -/
noncomputable def Try.pinned : Pinned := { name := "ytmjldihmcbjfhaa", sum := "a9811a92bc23575b93ee4bfba9fd25d629d4ab96973d3b2b902dc11144000172", checked := Try.checked }
namespace Rows
def none {H : Type} : Left H := { results := [], args := [] }

/-- 'cabinetrylaw02.PageSounds': WHATEVER THE INPUT: true; the input reads as it did. -/
def pageSoundsSpec : ChangeSpec := { name := "pageSounds", fn := fun _ => fun
  | [d] => { results := [.lit (.bool true)], args := [d] }
  | _ => none }
def pageSoundsRow : OpenClaim := { program := "ytmjldihmcbjfhaa", sum := "a9811a92bc23575b93ee4bfba9fd25d629d4ab96973d3b2b902dc11144000172", func := "cabinetry/cabinetrylaw02.PageSounds", spec := "pageSounds", unfollowed := true, recurses := true, apart := false }
def PageSoundsSaid : Prop := pageSoundsRow.holds Try.pinned (OpenSpec.ofChange pageSoundsSpec)

/-- ITS FALSE NEIGHBOUR: 'it returns false'. Refute it at one input. -/
def pageSoundsWrong : ChangeSpec := { name := "pageSounds", fn := fun _ => fun
  | [d] => { results := [.lit (.bool false)], args := [d] }
  | _ => none }
def PageSoundsWrongFalsely : Prop := pageSoundsRow.holds Try.pinned (OpenSpec.ofChange pageSoundsWrong)

/-- 'cabinetrylaw02.PageOrders': WHATEVER THE INPUT: true; the input reads as it did. -/
def pageOrdersSpec : ChangeSpec := { name := "pageOrders", fn := fun _ => fun
  | [d1, d2, d3] => { results := [.lit (.bool true)], args := [d1, d2, d3] }
  | _ => none }
def pageOrdersRow : OpenClaim := { program := "ytmjldihmcbjfhaa", sum := "a9811a92bc23575b93ee4bfba9fd25d629d4ab96973d3b2b902dc11144000172", func := "cabinetry/cabinetrylaw02.PageOrders", spec := "pageOrders", inPlace := ["internal/bytealg.abigen_runtime_cmpstring"], unfollowed := true, recurses := true, apart := false }
def PageOrdersSaid : Prop := pageOrdersRow.holds Try.pinned (OpenSpec.ofChange pageOrdersSpec)

/-- ITS FALSE NEIGHBOUR: 'it returns false'. Refute it at one input. -/
def pageOrdersWrong : ChangeSpec := { name := "pageOrders", fn := fun _ => fun
  | [d1, d2, d3] => { results := [.lit (.bool false)], args := [d1, d2, d3] }
  | _ => none }
def PageOrdersWrongFalsely : Prop := pageOrdersRow.holds Try.pinned (OpenSpec.ofChange pageOrdersWrong)

/-- 'cabinetrylaw02.PageSorts': WHATEVER THE INPUT: true; the input reads as it did. -/
def pageSortsSpec : ChangeSpec := { name := "pageSorts", fn := fun _ => fun
  | [d1, d2] => { results := [.lit (.bool true)], args := [d1, d2] }
  | _ => none }
def pageSortsRow : OpenClaim := { program := "ytmjldihmcbjfhaa", sum := "a9811a92bc23575b93ee4bfba9fd25d629d4ab96973d3b2b902dc11144000172", func := "cabinetry/cabinetrylaw02.PageSorts", spec := "pageSorts", inPlace := ["internal/bytealg.abigen_runtime_cmpstring"], unfollowed := true, recurses := true, apart := false }
def PageSortsSaid : Prop := pageSortsRow.holds Try.pinned (OpenSpec.ofChange pageSortsSpec)

/-- ITS FALSE NEIGHBOUR: 'it returns false'. Refute it at one input. -/
def pageSortsWrong : ChangeSpec := { name := "pageSorts", fn := fun _ => fun
  | [d1, d2] => { results := [.lit (.bool false)], args := [d1, d2] }
  | _ => none }
def PageSortsWrongFalsely : Prop := pageSortsRow.holds Try.pinned (OpenSpec.ofChange pageSortsWrong)

/-- 'cabinetrylaw02.PageFolds': WHATEVER THE INPUT: true; the input reads as it did. -/
def pageFoldsSpec : ChangeSpec := { name := "pageFolds", fn := fun _ => fun
  | [d1, d2] => { results := [.lit (.bool true)], args := [d1, d2] }
  | _ => none }
def pageFoldsRow : OpenClaim := { program := "ytmjldihmcbjfhaa", sum := "a9811a92bc23575b93ee4bfba9fd25d629d4ab96973d3b2b902dc11144000172", func := "cabinetry/cabinetrylaw02.PageFolds", spec := "pageFolds", unfollowed := true, recurses := true, apart := false }
def PageFoldsSaid : Prop := pageFoldsRow.holds Try.pinned (OpenSpec.ofChange pageFoldsSpec)

/-- ITS FALSE NEIGHBOUR: 'it returns false'. Refute it at one input. -/
def pageFoldsWrong : ChangeSpec := { name := "pageFolds", fn := fun _ => fun
  | [d1, d2] => { results := [.lit (.bool false)], args := [d1, d2] }
  | _ => none }
def PageFoldsWrongFalsely : Prop := pageFoldsRow.holds Try.pinned (OpenSpec.ofChange pageFoldsWrong)

/-- 'cabinetrylaw02.PageLikes': WHATEVER THE INPUT: true; the input reads as it did. -/
def pageLikesSpec : ChangeSpec := { name := "pageLikes", fn := fun _ => fun
  | [d1, d2, d3] => { results := [.lit (.bool true)], args := [d1, d2, d3] }
  | _ => none }
def pageLikesRow : OpenClaim := { program := "ytmjldihmcbjfhaa", sum := "a9811a92bc23575b93ee4bfba9fd25d629d4ab96973d3b2b902dc11144000172", func := "cabinetry/cabinetrylaw02.PageLikes", spec := "pageLikes", unfollowed := true, recurses := true, apart := false }
def PageLikesSaid : Prop := pageLikesRow.holds Try.pinned (OpenSpec.ofChange pageLikesSpec)

/-- ITS FALSE NEIGHBOUR: 'it returns false'. Refute it at one input. -/
def pageLikesWrong : ChangeSpec := { name := "pageLikes", fn := fun _ => fun
  | [d1, d2, d3] => { results := [.lit (.bool false)], args := [d1, d2, d3] }
  | _ => none }
def PageLikesWrongFalsely : Prop := pageLikesRow.holds Try.pinned (OpenSpec.ofChange pageLikesWrong)

/-- 'cabinetrylaw02.PageCases': WHATEVER THE INPUT: true; the input reads as it did. -/
def pageCasesSpec : ChangeSpec := { name := "pageCases", fn := fun _ => fun
  | [d1, d2] => { results := [.lit (.bool true)], args := [d1, d2] }
  | _ => none }
def pageCasesRow : OpenClaim := { program := "ytmjldihmcbjfhaa", sum := "a9811a92bc23575b93ee4bfba9fd25d629d4ab96973d3b2b902dc11144000172", func := "cabinetry/cabinetrylaw02.PageCases", spec := "pageCases", unfollowed := true, recurses := true, apart := false }
def PageCasesSaid : Prop := pageCasesRow.holds Try.pinned (OpenSpec.ofChange pageCasesSpec)

/-- ITS FALSE NEIGHBOUR: 'it returns false'. Refute it at one input. -/
def pageCasesWrong : ChangeSpec := { name := "pageCases", fn := fun _ => fun
  | [d1, d2] => { results := [.lit (.bool false)], args := [d1, d2] }
  | _ => none }
def PageCasesWrongFalsely : Prop := pageCasesRow.holds Try.pinned (OpenSpec.ofChange pageCasesWrong)

/-- 'cabinetrylaw02.PageConverts': WHATEVER THE INPUT: true; the input reads as it did. -/
def pageConvertsSpec : ChangeSpec := { name := "pageConverts", fn := fun _ => fun
  | [d1, d2, d3] => { results := [.lit (.bool true)], args := [d1, d2, d3] }
  | _ => none }
def pageConvertsRow : OpenClaim := { program := "ytmjldihmcbjfhaa", sum := "a9811a92bc23575b93ee4bfba9fd25d629d4ab96973d3b2b902dc11144000172", func := "cabinetry/cabinetrylaw02.PageConverts", spec := "pageConverts", unfollowed := true, recurses := true, apart := false }
def PageConvertsSaid : Prop := pageConvertsRow.holds Try.pinned (OpenSpec.ofChange pageConvertsSpec)

/-- ITS FALSE NEIGHBOUR: 'it returns false'. Refute it at one input. -/
def pageConvertsWrong : ChangeSpec := { name := "pageConverts", fn := fun _ => fun
  | [d1, d2, d3] => { results := [.lit (.bool false)], args := [d1, d2, d3] }
  | _ => none }
def PageConvertsWrongFalsely : Prop := pageConvertsRow.holds Try.pinned (OpenSpec.ofChange pageConvertsWrong)

/- THE SECOND FORM. 'bulk': how many values and letters a reading holds, each counted each time it is reached (what is shared counts as often as it is met; a slice's spare places count too). A statement '..UptoSaid' is the law's where the arguments, and the package variables that the reading takes, are together of bulk at most 1048576: NARROWER than '..Said'. Prove '..Said' where nothing that the law and all that it calls make is longer than what came in: it says more and counts as full. Else prove '..UptoSaid'. A law counts once. -/
mutual
def uptoBulk {H : Type} : DataW H → Nat
  | .lit (.string bytes) => bytes.length + 1
  | .lit _ => 1
  | .nil => 1
  | .ptr d => uptoBulk d + 1
  | .slice elems spare => uptoBulkAll elems + uptoBulkAll spare + 1
  | .agg parts => uptoBulkAll parts + 1
  | .iface _ d => uptoBulk d + 1
  | .map entries => uptoBulkEntries entries + 1
  | .held _ => 1
def uptoBulkAll {H : Type} : List (DataW H) → Nat
  | [] => 0
  | d :: r => uptoBulk d + uptoBulkAll r
def uptoBulkEntries {H : Type} : List (Lit × DataW H) → Nat
  | [] => 0
  | x :: r => uptoBulkEntry x + uptoBulkEntries r
def uptoBulkEntry {H : Type} : Lit × DataW H → Nat
  | (.string bytes, d) => bytes.length + uptoBulk d + 1
  | (_, d) => uptoBulk d + 1
 end
def uptoSmall : (H : Type) → List (DataW H) → Bool := fun _ ds => decide (uptoBulkAll ds ≤ 1048576)
def OpenSpec.upto (s : _root_.Go.ChangeSpec) : _root_.Go.OpenSpec := { _root_.Go.OpenSpec.ofChange s with cond := some uptoSmall }

/-- 'cabinetrylaw02.PageSounds', WHERE WHAT IT READS IS OF BULK AT MOST 1048576: true; the input reads as it did. -/
def pageSoundsUptoRow : OpenClaim := { program := "ytmjldihmcbjfhaa", sum := "a9811a92bc23575b93ee4bfba9fd25d629d4ab96973d3b2b902dc11144000172", func := "cabinetry/cabinetrylaw02.PageSounds", spec := "pageSounds", unfollowed := true, recurses := true, apart := false, narrowed := true }
def PageSoundsUptoSaid : Prop := pageSoundsUptoRow.holds Try.pinned (OpenSpec.upto pageSoundsSpec)

/-- 'cabinetrylaw02.PageOrders', WHERE WHAT IT READS IS OF BULK AT MOST 1048576: true; the input reads as it did. -/
def pageOrdersUptoRow : OpenClaim := { program := "ytmjldihmcbjfhaa", sum := "a9811a92bc23575b93ee4bfba9fd25d629d4ab96973d3b2b902dc11144000172", func := "cabinetry/cabinetrylaw02.PageOrders", spec := "pageOrders", inPlace := ["internal/bytealg.abigen_runtime_cmpstring"], unfollowed := true, recurses := true, apart := false, narrowed := true }
def PageOrdersUptoSaid : Prop := pageOrdersUptoRow.holds Try.pinned (OpenSpec.upto pageOrdersSpec)

/-- 'cabinetrylaw02.PageSorts', WHERE WHAT IT READS IS OF BULK AT MOST 1048576: true; the input reads as it did. -/
def pageSortsUptoRow : OpenClaim := { program := "ytmjldihmcbjfhaa", sum := "a9811a92bc23575b93ee4bfba9fd25d629d4ab96973d3b2b902dc11144000172", func := "cabinetry/cabinetrylaw02.PageSorts", spec := "pageSorts", inPlace := ["internal/bytealg.abigen_runtime_cmpstring"], unfollowed := true, recurses := true, apart := false, narrowed := true }
def PageSortsUptoSaid : Prop := pageSortsUptoRow.holds Try.pinned (OpenSpec.upto pageSortsSpec)

/-- 'cabinetrylaw02.PageFolds', WHERE WHAT IT READS IS OF BULK AT MOST 1048576: true; the input reads as it did. -/
def pageFoldsUptoRow : OpenClaim := { program := "ytmjldihmcbjfhaa", sum := "a9811a92bc23575b93ee4bfba9fd25d629d4ab96973d3b2b902dc11144000172", func := "cabinetry/cabinetrylaw02.PageFolds", spec := "pageFolds", unfollowed := true, recurses := true, apart := false, narrowed := true }
def PageFoldsUptoSaid : Prop := pageFoldsUptoRow.holds Try.pinned (OpenSpec.upto pageFoldsSpec)

/-- 'cabinetrylaw02.PageLikes', WHERE WHAT IT READS IS OF BULK AT MOST 1048576: true; the input reads as it did. -/
def pageLikesUptoRow : OpenClaim := { program := "ytmjldihmcbjfhaa", sum := "a9811a92bc23575b93ee4bfba9fd25d629d4ab96973d3b2b902dc11144000172", func := "cabinetry/cabinetrylaw02.PageLikes", spec := "pageLikes", unfollowed := true, recurses := true, apart := false, narrowed := true }
def PageLikesUptoSaid : Prop := pageLikesUptoRow.holds Try.pinned (OpenSpec.upto pageLikesSpec)

/-- 'cabinetrylaw02.PageCases', WHERE WHAT IT READS IS OF BULK AT MOST 1048576: true; the input reads as it did. -/
def pageCasesUptoRow : OpenClaim := { program := "ytmjldihmcbjfhaa", sum := "a9811a92bc23575b93ee4bfba9fd25d629d4ab96973d3b2b902dc11144000172", func := "cabinetry/cabinetrylaw02.PageCases", spec := "pageCases", unfollowed := true, recurses := true, apart := false, narrowed := true }
def PageCasesUptoSaid : Prop := pageCasesUptoRow.holds Try.pinned (OpenSpec.upto pageCasesSpec)

/-- 'cabinetrylaw02.PageConverts', WHERE WHAT IT READS IS OF BULK AT MOST 1048576: true; the input reads as it did. -/
def pageConvertsUptoRow : OpenClaim := { program := "ytmjldihmcbjfhaa", sum := "a9811a92bc23575b93ee4bfba9fd25d629d4ab96973d3b2b902dc11144000172", func := "cabinetry/cabinetrylaw02.PageConverts", spec := "pageConverts", unfollowed := true, recurses := true, apart := false, narrowed := true }
def PageConvertsUptoSaid : Prop := pageConvertsUptoRow.holds Try.pinned (OpenSpec.upto pageConvertsSpec)

end Rows
end Go.Proofs.Ytmjldihmcbjfhaa
