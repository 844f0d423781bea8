/-
  DERIVED. GIVEN WITH THE SEED: THE CARDS: each row of YtbkdobainphhdaaGreatDoorRows.lean that lists a variable, with what it lists TIED to the program's text (the seventh form; the later family's looks); each row that meets fmt, with fmt's text TOLD by the authors' own Lean function (tested against real Go, not proved from fmt's source: count such statements apart). THE CARD IS WHAT COUNTS. Prove the row's statement (the work); the ties are given (YtbkdobainphhdaaGreatDoorTie.lean); close each card by the builder's one call (the guide's Derived/Test/ToyasCard.lean, 'card_holds'). Laid BY PROGRAM, IN A SANDBOX (cutbox-door.mjs). By AI agents, Wed Nov 11 2026. No macro, syntax, notation, axiom, sorry.
-/
import Derived.Test.YtbkdobainphhdaaGreatDoorRows
import GoSem.ClaimSeven
namespace Go.Proofs.YtbkdobainphhdaaGreatDoor
namespace Rows

/-- THE TIED CARD OF 'lapidarylaw10.CodeCompiles'. -/
def codeCompilesCard : Claim7 := { stood := { row := codeCompilesRow, standIns := [], harness := (true, "06fd722ee58fe71624bd93dac8dc4dc84253d442a8e0ea93507ea588260ad216"), looks := true }, kinds := [], alts := [], laidByText := true, laidKinds := [.data, .pinned], laidTests := true, laidLooks := .later }
def CodeCompilesCardSaid : Prop := Claim7.holds Tryz.pinned (.plain (OpenSpec.ofChange codeCompilesSpec)) codeCompilesCard

/-- THE TIED CARD OF 'lapidarylaw10.CodeOnce'. -/
def codeOnceCard : Claim7 := { stood := { row := codeOnceRow, standIns := [], harness := (true, "06fd722ee58fe71624bd93dac8dc4dc84253d442a8e0ea93507ea588260ad216"), looks := true }, kinds := [], alts := [], laidByText := true, laidKinds := [.data, .pinned], laidTests := true, laidLooks := .later }
def CodeOnceCardSaid : Prop := Claim7.holds Tryz.pinned (.plain (OpenSpec.ofChange codeOnceSpec)) codeOnceCard

/-- THE TIED CARD OF 'lapidarylaw10.CodeMethods'. -/
def codeMethodsCard : Claim7 := { stood := { row := codeMethodsRow, standIns := [], harness := (true, "06fd722ee58fe71624bd93dac8dc4dc84253d442a8e0ea93507ea588260ad216"), looks := true }, kinds := [], alts := [], laidByText := true, laidKinds := [.data, .pinned], laidTests := true, laidLooks := .later }
def CodeMethodsCardSaid : Prop := Claim7.holds Tryz.pinned (.plain (OpenSpec.ofChange codeMethodsSpec)) codeMethodsCard

/-- THE TIED CARD OF 'lapidarylaw10.CodeGood'. -/
def codeGoodCard : Claim7 := { stood := { row := codeGoodRow, standIns := [], harness := (true, "06fd722ee58fe71624bd93dac8dc4dc84253d442a8e0ea93507ea588260ad216"), looks := true }, kinds := [], alts := [], laidByText := true, laidKinds := [.data, .pinned], laidTests := true, laidLooks := .later }
def CodeGoodCardSaid : Prop := Claim7.holds Tryz.pinned (.plain (OpenSpec.ofChange codeGoodSpec)) codeGoodCard

/-- THE SECOND FORM's CARD OF 'lapidarylaw10.CodeCompiles'. -/
def codeCompilesUptoCard : Claim7 := { stood := { row := codeCompilesUptoRow, standIns := [], harness := (true, "06fd722ee58fe71624bd93dac8dc4dc84253d442a8e0ea93507ea588260ad216"), looks := true }, kinds := [], alts := [], laidByText := true, laidKinds := [.data, .pinned], laidTests := true, laidLooks := .later }
def CodeCompilesUptoCardSaid : Prop := Claim7.holds Tryz.pinned (.plain (OpenSpec.upto codeCompilesSpec)) codeCompilesUptoCard

/-- THE SECOND FORM's CARD OF 'lapidarylaw10.CodeOnce'. -/
def codeOnceUptoCard : Claim7 := { stood := { row := codeOnceUptoRow, standIns := [], harness := (true, "06fd722ee58fe71624bd93dac8dc4dc84253d442a8e0ea93507ea588260ad216"), looks := true }, kinds := [], alts := [], laidByText := true, laidKinds := [.data, .pinned], laidTests := true, laidLooks := .later }
def CodeOnceUptoCardSaid : Prop := Claim7.holds Tryz.pinned (.plain (OpenSpec.upto codeOnceSpec)) codeOnceUptoCard

/-- THE SECOND FORM's CARD OF 'lapidarylaw10.CodeMethods'. -/
def codeMethodsUptoCard : Claim7 := { stood := { row := codeMethodsUptoRow, standIns := [], harness := (true, "06fd722ee58fe71624bd93dac8dc4dc84253d442a8e0ea93507ea588260ad216"), looks := true }, kinds := [], alts := [], laidByText := true, laidKinds := [.data, .pinned], laidTests := true, laidLooks := .later }
def CodeMethodsUptoCardSaid : Prop := Claim7.holds Tryz.pinned (.plain (OpenSpec.upto codeMethodsSpec)) codeMethodsUptoCard

/-- THE SECOND FORM's CARD OF 'lapidarylaw10.CodeGood'. -/
def codeGoodUptoCard : Claim7 := { stood := { row := codeGoodUptoRow, standIns := [], harness := (true, "06fd722ee58fe71624bd93dac8dc4dc84253d442a8e0ea93507ea588260ad216"), looks := true }, kinds := [], alts := [], laidByText := true, laidKinds := [.data, .pinned], laidTests := true, laidLooks := .later }
def CodeGoodUptoCardSaid : Prop := Claim7.holds Tryz.pinned (.plain (OpenSpec.upto codeGoodSpec)) codeGoodUptoCard
end Rows
end Go.Proofs.YtbkdobainphhdaaGreatDoor
