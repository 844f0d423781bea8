/-
  DERIVED. GIVEN WITH THE SEED: THE CARDS: each row of YtgggkjbdlddbkaaGreatDoorRows.lean that lists a variable, with what it lists TIED to the program's text (the seventh form; the later family's looks); each row that meets fmt, with fmt's text TOLD by the authors' own Lean function (tested against real Go, not proved from fmt's source: count such statements apart). THE CARD IS WHAT COUNTS. Prove the row's statement (the work); the ties are given (YtgggkjbdlddbkaaGreatDoorTie.lean); close each card by the builder's one call (the guide's Derived/Test/ToyasCard.lean, 'card_holds'). Laid BY PROGRAM, IN A SANDBOX (cutbox-door.mjs). By AI agents, Wed Nov 11 2026. No macro, syntax, notation, axiom, sorry.
-/
import Derived.Test.YtgggkjbdlddbkaaGreatDoorRows
import GoSem.ClaimSeven
namespace Go.Proofs.YtgggkjbdlddbkaaGreatDoor
namespace Rows

/-- THE TIED CARD OF 'lapidarylaw08.TreeParses'. -/
def treeParsesCard : Claim7 := { stood := { row := treeParsesRow, standIns := [], harness := (true, "90fbae781750337953b4c3efd9eee6050b85fb726a4c79c9ec9cf1d62969c0a2"), looks := true }, kinds := [], alts := [], laidByText := true, laidKinds := [.data, .pinned], laidTests := true, laidLooks := .later }
def TreeParsesCardSaid : Prop := Claim7.holds Tryz.pinned (.plain (OpenSpec.ofChange treeParsesSpec)) treeParsesCard

/-- THE TIED CARD OF 'lapidarylaw08.TreeArgs'. -/
def treeArgsCard : Claim7 := { stood := { row := treeArgsRow, standIns := [], harness := (true, "90fbae781750337953b4c3efd9eee6050b85fb726a4c79c9ec9cf1d62969c0a2"), looks := true }, kinds := [], alts := [], laidByText := true, laidKinds := [.data, .pinned], laidTests := true, laidLooks := .later }
def TreeArgsCardSaid : Prop := Claim7.holds Tryz.pinned (.plain (OpenSpec.ofChange treeArgsSpec)) treeArgsCard

/-- THE TIED CARD OF 'lapidarylaw08.TreeDeep'. -/
def treeDeepCard : Claim7 := { stood := { row := treeDeepRow, standIns := [], harness := (true, "90fbae781750337953b4c3efd9eee6050b85fb726a4c79c9ec9cf1d62969c0a2"), looks := true }, kinds := [], alts := [], laidByText := true, laidKinds := [.data, .pinned], laidTests := true, laidLooks := .later }
def TreeDeepCardSaid : Prop := Claim7.holds Tryz.pinned (.plain (OpenSpec.ofChange treeDeepSpec)) treeDeepCard

/-- THE TIED CARD OF 'lapidarylaw08.TreeMethods'. -/
def treeMethodsCard : Claim7 := { stood := { row := treeMethodsRow, standIns := [], harness := (true, "90fbae781750337953b4c3efd9eee6050b85fb726a4c79c9ec9cf1d62969c0a2"), looks := true }, kinds := [], alts := [], laidByText := true, laidKinds := [.data, .pinned], laidTests := true, laidLooks := .later }
def TreeMethodsCardSaid : Prop := Claim7.holds Tryz.pinned (.plain (OpenSpec.ofChange treeMethodsSpec)) treeMethodsCard

/-- THE TIED CARD OF 'lapidarylaw08.TreeShape'. -/
def treeShapeCard : Claim7 := { stood := { row := treeShapeRow, standIns := [], harness := (true, "90fbae781750337953b4c3efd9eee6050b85fb726a4c79c9ec9cf1d62969c0a2"), looks := true }, kinds := [], alts := [], laidByText := true, laidKinds := [.data, .pinned], laidTests := true, laidLooks := .later }
def TreeShapeCardSaid : Prop := Claim7.holds Tryz.pinned (.plain (OpenSpec.ofChange treeShapeSpec)) treeShapeCard

/-- THE SECOND FORM's CARD OF 'lapidarylaw08.TreeParses'. -/
def treeParsesUptoCard : Claim7 := { stood := { row := treeParsesUptoRow, standIns := [], harness := (true, "90fbae781750337953b4c3efd9eee6050b85fb726a4c79c9ec9cf1d62969c0a2"), looks := true }, kinds := [], alts := [], laidByText := true, laidKinds := [.data, .pinned], laidTests := true, laidLooks := .later }
def TreeParsesUptoCardSaid : Prop := Claim7.holds Tryz.pinned (.plain (OpenSpec.upto treeParsesSpec)) treeParsesUptoCard

/-- THE SECOND FORM's CARD OF 'lapidarylaw08.TreeArgs'. -/
def treeArgsUptoCard : Claim7 := { stood := { row := treeArgsUptoRow, standIns := [], harness := (true, "90fbae781750337953b4c3efd9eee6050b85fb726a4c79c9ec9cf1d62969c0a2"), looks := true }, kinds := [], alts := [], laidByText := true, laidKinds := [.data, .pinned], laidTests := true, laidLooks := .later }
def TreeArgsUptoCardSaid : Prop := Claim7.holds Tryz.pinned (.plain (OpenSpec.upto treeArgsSpec)) treeArgsUptoCard

/-- THE SECOND FORM's CARD OF 'lapidarylaw08.TreeDeep'. -/
def treeDeepUptoCard : Claim7 := { stood := { row := treeDeepUptoRow, standIns := [], harness := (true, "90fbae781750337953b4c3efd9eee6050b85fb726a4c79c9ec9cf1d62969c0a2"), looks := true }, kinds := [], alts := [], laidByText := true, laidKinds := [.data, .pinned], laidTests := true, laidLooks := .later }
def TreeDeepUptoCardSaid : Prop := Claim7.holds Tryz.pinned (.plain (OpenSpec.upto treeDeepSpec)) treeDeepUptoCard

/-- THE SECOND FORM's CARD OF 'lapidarylaw08.TreeMethods'. -/
def treeMethodsUptoCard : Claim7 := { stood := { row := treeMethodsUptoRow, standIns := [], harness := (true, "90fbae781750337953b4c3efd9eee6050b85fb726a4c79c9ec9cf1d62969c0a2"), looks := true }, kinds := [], alts := [], laidByText := true, laidKinds := [.data, .pinned], laidTests := true, laidLooks := .later }
def TreeMethodsUptoCardSaid : Prop := Claim7.holds Tryz.pinned (.plain (OpenSpec.upto treeMethodsSpec)) treeMethodsUptoCard

/-- THE SECOND FORM's CARD OF 'lapidarylaw08.TreeShape'. -/
def treeShapeUptoCard : Claim7 := { stood := { row := treeShapeUptoRow, standIns := [], harness := (true, "90fbae781750337953b4c3efd9eee6050b85fb726a4c79c9ec9cf1d62969c0a2"), looks := true }, kinds := [], alts := [], laidByText := true, laidKinds := [.data, .pinned], laidTests := true, laidLooks := .later }
def TreeShapeUptoCardSaid : Prop := Claim7.holds Tryz.pinned (.plain (OpenSpec.upto treeShapeSpec)) treeShapeUptoCard
end Rows
end Go.Proofs.YtgggkjbdlddbkaaGreatDoor
