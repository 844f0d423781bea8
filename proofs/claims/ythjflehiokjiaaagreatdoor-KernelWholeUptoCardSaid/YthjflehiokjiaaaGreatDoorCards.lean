/-
  DERIVED. GIVEN WITH THE SEED: THE CARDS: each row of YthjflehiokjiaaaGreatDoorRows.lean that lists a variable, with what it lists TIED to the program's text (the seventh form; the later family's looks); each row that meets fmt, with fmt's text TOLD by the authors' own Lean function (tested against real Go, not proved from fmt's source: count such statements apart). THE CARD IS WHAT COUNTS. Prove the row's statement (the work); the ties are given (YthjflehiokjiaaaGreatDoorTie.lean); close each card by the builder's one call (the guide's Derived/Test/ToyasCard.lean, 'card_holds'). Laid BY PROGRAM, IN A SANDBOX (cutbox-door.mjs). By AI agents, Wed Nov 11 2026. No macro, syntax, notation, axiom, sorry.
-/
import Derived.Test.YthjflehiokjiaaaGreatDoorRows
import GoSem.ClaimSeven
namespace Go.Proofs.YthjflehiokjiaaaGreatDoor
namespace Rows

/-- THE TIED CARD OF 'lapidarylaw14.KernelBuilds'. -/
def kernelBuildsCard : Claim7 := { stood := { row := kernelBuildsRow, standIns := [], harness := (true, "5aa8e46dff47d292b5da0ed82adb6ebfdf38607dbb1733d7f3f6356721b911be"), looks := true }, kinds := [], alts := [], laidByText := true, laidKinds := [.data, .widerDeep, .pinned], laidTests := true, laidLooks := .later }
def KernelBuildsCardSaid : Prop := Claim7.holds Tryz.pinned (.plain (OpenSpec.ofChange kernelBuildsSpec)) kernelBuildsCard

/-- THE TIED CARD OF 'lapidarylaw14.KernelMethods'. -/
def kernelMethodsCard : Claim7 := { stood := { row := kernelMethodsRow, standIns := [], harness := (true, "5aa8e46dff47d292b5da0ed82adb6ebfdf38607dbb1733d7f3f6356721b911be"), looks := true }, kinds := [], alts := [], laidByText := true, laidKinds := [.data, .widerDeep, .pinned], laidTests := true, laidLooks := .later }
def KernelMethodsCardSaid : Prop := Claim7.holds Tryz.pinned (.plain (OpenSpec.ofChange kernelMethodsSpec)) kernelMethodsCard

/-- THE TIED CARD OF 'lapidarylaw14.KernelNames'. -/
def kernelNamesCard : Claim7 := { stood := { row := kernelNamesRow, standIns := [], harness := (true, "5aa8e46dff47d292b5da0ed82adb6ebfdf38607dbb1733d7f3f6356721b911be"), looks := true }, kinds := [], alts := [], laidByText := true, laidKinds := [.data, .widerDeep, .pinned], laidTests := true, laidLooks := .later }
def KernelNamesCardSaid : Prop := Claim7.holds Tryz.pinned (.plain (OpenSpec.ofChange kernelNamesSpec)) kernelNamesCard

/-- THE TIED CARD OF 'lapidarylaw14.KernelWhole'. -/
def kernelWholeCard : Claim7 := { stood := { row := kernelWholeRow, standIns := [], harness := (true, "5aa8e46dff47d292b5da0ed82adb6ebfdf38607dbb1733d7f3f6356721b911be"), looks := true }, kinds := [], alts := [], laidByText := true, laidKinds := [.data, .widerDeep, .pinned], laidTests := true, laidLooks := .later }
def KernelWholeCardSaid : Prop := Claim7.holds Tryz.pinned (.plain (OpenSpec.ofChange kernelWholeSpec)) kernelWholeCard

/-- THE SECOND FORM's CARD OF 'lapidarylaw14.KernelBuilds'. -/
def kernelBuildsUptoCard : Claim7 := { stood := { row := kernelBuildsUptoRow, standIns := [], harness := (true, "5aa8e46dff47d292b5da0ed82adb6ebfdf38607dbb1733d7f3f6356721b911be"), looks := true }, kinds := [], alts := [], laidByText := true, laidKinds := [.data, .widerDeep, .pinned], laidTests := true, laidLooks := .later }
def KernelBuildsUptoCardSaid : Prop := Claim7.holds Tryz.pinned (.plain (OpenSpec.upto kernelBuildsSpec)) kernelBuildsUptoCard

/-- THE SECOND FORM's CARD OF 'lapidarylaw14.KernelMethods'. -/
def kernelMethodsUptoCard : Claim7 := { stood := { row := kernelMethodsUptoRow, standIns := [], harness := (true, "5aa8e46dff47d292b5da0ed82adb6ebfdf38607dbb1733d7f3f6356721b911be"), looks := true }, kinds := [], alts := [], laidByText := true, laidKinds := [.data, .widerDeep, .pinned], laidTests := true, laidLooks := .later }
def KernelMethodsUptoCardSaid : Prop := Claim7.holds Tryz.pinned (.plain (OpenSpec.upto kernelMethodsSpec)) kernelMethodsUptoCard

/-- THE SECOND FORM's CARD OF 'lapidarylaw14.KernelNames'. -/
def kernelNamesUptoCard : Claim7 := { stood := { row := kernelNamesUptoRow, standIns := [], harness := (true, "5aa8e46dff47d292b5da0ed82adb6ebfdf38607dbb1733d7f3f6356721b911be"), looks := true }, kinds := [], alts := [], laidByText := true, laidKinds := [.data, .widerDeep, .pinned], laidTests := true, laidLooks := .later }
def KernelNamesUptoCardSaid : Prop := Claim7.holds Tryz.pinned (.plain (OpenSpec.upto kernelNamesSpec)) kernelNamesUptoCard

/-- THE SECOND FORM's CARD OF 'lapidarylaw14.KernelWhole'. -/
def kernelWholeUptoCard : Claim7 := { stood := { row := kernelWholeUptoRow, standIns := [], harness := (true, "5aa8e46dff47d292b5da0ed82adb6ebfdf38607dbb1733d7f3f6356721b911be"), looks := true }, kinds := [], alts := [], laidByText := true, laidKinds := [.data, .widerDeep, .pinned], laidTests := true, laidLooks := .later }
def KernelWholeUptoCardSaid : Prop := Claim7.holds Tryz.pinned (.plain (OpenSpec.upto kernelWholeSpec)) kernelWholeUptoCard
end Rows
end Go.Proofs.YthjflehiokjiaaaGreatDoor
