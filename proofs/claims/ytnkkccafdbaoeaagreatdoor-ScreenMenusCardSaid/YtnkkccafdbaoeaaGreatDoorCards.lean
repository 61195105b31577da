/-
  DERIVED. GIVEN WITH THE SEED: THE CARDS: each row of YtnkkccafdbaoeaaGreatDoorRows.lean that lists a variable, with what it lists TIED to the program's text (the seventh form; the later family's looks); each row that meets fmt, with fmt's text TOLD by the authors' own Lean function (tested against real Go, not proved from fmt's source: count such statements apart). THE CARD IS WHAT COUNTS. Prove the row's statement (the work); the ties are given (YtnkkccafdbaoeaaGreatDoorTie.lean); close each card by the builder's one call (the guide's Derived/Test/ToyasCard.lean, 'card_holds'). Laid BY PROGRAM, IN A SANDBOX (cutbox-door.mjs). By AI agents, Wed Nov 11 2026. No macro, syntax, notation, axiom, sorry.
-/
import Derived.Test.YtnkkccafdbaoeaaGreatDoorRows
import GoSem.ClaimSeven
namespace Go.Proofs.YtnkkccafdbaoeaaGreatDoor
namespace Rows

/-- THE TIED CARD OF 'cabinetrylaw26.ScreenTakes'. -/
def screenTakesCard : Claim7 := { stood := { row := screenTakesRow, standIns := [], harness := (true, "0734af54d8e71fa3562f4d90e3ced03a40dcd80c5cf5c6661cfb68b26a01dca8"), looks := true }, kinds := [], alts := [], laidByText := true, laidKinds := [.pinned, .data, .pinned, .sentinel, .sentinel, .data, .data, .data, .data, .listed, .handle], laidTests := true, laidLooks := .later }
def ScreenTakesCardSaid : Prop := Claim7.holds Tryz.pinned (.plain (OpenSpec.ofChange screenTakesSpec)) screenTakesCard

/-- THE TIED CARD OF 'cabinetrylaw26.ScreenTransforms'. -/
def screenTransformsCard : Claim7 := { stood := { row := screenTransformsRow, standIns := [], harness := (true, "0734af54d8e71fa3562f4d90e3ced03a40dcd80c5cf5c6661cfb68b26a01dca8"), looks := true }, kinds := [], alts := [], laidByText := true, laidKinds := [.pinned, .data, .pinned, .sentinel, .sentinel, .data, .data, .data, .data, .listed, .handle], laidTests := true, laidLooks := .later }
def ScreenTransformsCardSaid : Prop := Claim7.holds Tryz.pinned (.plain (OpenSpec.ofChange screenTransformsSpec)) screenTransformsCard

/-- THE TIED CARD OF 'cabinetrylaw26.ScreenBrowses'. -/
def screenBrowsesCard : Claim7 := { stood := { row := screenBrowsesRow, standIns := [], harness := (true, "0734af54d8e71fa3562f4d90e3ced03a40dcd80c5cf5c6661cfb68b26a01dca8"), looks := true }, kinds := [], alts := [], laidByText := true, laidKinds := [.pinned, .data, .pinned, .sentinel, .sentinel, .data, .data, .data, .data, .listed, .handle], laidTests := true, laidLooks := .later }
def ScreenBrowsesCardSaid : Prop := Claim7.holds Tryz.pinned (.plain (OpenSpec.ofChange screenBrowsesSpec)) screenBrowsesCard

/-- THE TIED CARD OF 'cabinetrylaw26.ScreenMenus'. -/
def screenMenusCard : Claim7 := { stood := { row := screenMenusRow, standIns := [], harness := (true, "0734af54d8e71fa3562f4d90e3ced03a40dcd80c5cf5c6661cfb68b26a01dca8"), looks := true }, kinds := [], alts := [], laidByText := true, laidKinds := [.pinned, .data, .pinned, .sentinel, .sentinel, .data, .data, .data, .data, .listed, .handle], laidTests := true, laidLooks := .later }
def ScreenMenusCardSaid : Prop := Claim7.holds Tryz.pinned (.plain (OpenSpec.ofChange screenMenusSpec)) screenMenusCard

/-- THE SECOND FORM's CARD OF 'cabinetrylaw26.ScreenTakes'. -/
def screenTakesUptoCard : Claim7 := { stood := { row := screenTakesUptoRow, standIns := [], harness := (true, "0734af54d8e71fa3562f4d90e3ced03a40dcd80c5cf5c6661cfb68b26a01dca8"), looks := true }, kinds := [], alts := [], laidByText := true, laidKinds := [.pinned, .data, .pinned, .sentinel, .sentinel, .data, .data, .data, .data, .listed, .handle], laidTests := true, laidLooks := .later }
def ScreenTakesUptoCardSaid : Prop := Claim7.holds Tryz.pinned (.plain (OpenSpec.upto screenTakesSpec)) screenTakesUptoCard

/-- THE SECOND FORM's CARD OF 'cabinetrylaw26.ScreenTransforms'. -/
def screenTransformsUptoCard : Claim7 := { stood := { row := screenTransformsUptoRow, standIns := [], harness := (true, "0734af54d8e71fa3562f4d90e3ced03a40dcd80c5cf5c6661cfb68b26a01dca8"), looks := true }, kinds := [], alts := [], laidByText := true, laidKinds := [.pinned, .data, .pinned, .sentinel, .sentinel, .data, .data, .data, .data, .listed, .handle], laidTests := true, laidLooks := .later }
def ScreenTransformsUptoCardSaid : Prop := Claim7.holds Tryz.pinned (.plain (OpenSpec.upto screenTransformsSpec)) screenTransformsUptoCard

/-- THE SECOND FORM's CARD OF 'cabinetrylaw26.ScreenBrowses'. -/
def screenBrowsesUptoCard : Claim7 := { stood := { row := screenBrowsesUptoRow, standIns := [], harness := (true, "0734af54d8e71fa3562f4d90e3ced03a40dcd80c5cf5c6661cfb68b26a01dca8"), looks := true }, kinds := [], alts := [], laidByText := true, laidKinds := [.pinned, .data, .pinned, .sentinel, .sentinel, .data, .data, .data, .data, .listed, .handle], laidTests := true, laidLooks := .later }
def ScreenBrowsesUptoCardSaid : Prop := Claim7.holds Tryz.pinned (.plain (OpenSpec.upto screenBrowsesSpec)) screenBrowsesUptoCard

/-- THE SECOND FORM's CARD OF 'cabinetrylaw26.ScreenMenus'. -/
def screenMenusUptoCard : Claim7 := { stood := { row := screenMenusUptoRow, standIns := [], harness := (true, "0734af54d8e71fa3562f4d90e3ced03a40dcd80c5cf5c6661cfb68b26a01dca8"), looks := true }, kinds := [], alts := [], laidByText := true, laidKinds := [.pinned, .data, .pinned, .sentinel, .sentinel, .data, .data, .data, .data, .listed, .handle], laidTests := true, laidLooks := .later }
def ScreenMenusUptoCardSaid : Prop := Claim7.holds Tryz.pinned (.plain (OpenSpec.upto screenMenusSpec)) screenMenusUptoCard
end Rows
end Go.Proofs.YtnkkccafdbaoeaaGreatDoor
