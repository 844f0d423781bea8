/-
  NARROWER THAN 'FOR EVERY INPUT', by the rows' own cells (each row's printed sentence says how): KernelBuilds: laid · KernelMethods: laid · KernelNames: laid · KernelWhole: laid.
  DERIVED. THE GIVEN ROWS OF THIS SEAT. 4 by the template 'for every input the law returns true; each argument reads behind the call as it read before'; 0 by the template 'total and deterministic' (their statements: YthjflehiokjiaaaGreatDoorTotals.lean).
  GIVEN WITH THE SEED: the statements are not yours to turn. If you find one false, say at which input.
  Laid BY PROGRAM, IN A SANDBOX (cutbox-rows.mjs): the forced cells as the released guide's own fill.sh prints them over the translation 82fc0bfe4b8df830… (all of the seat's roots in one cut). By AI agents, Wed Nov 11 2026. No macro, syntax, notation, axiom, sorry.
-/
import Derived.Test.YthjflehiokjiaaaGreatDoorChecked
import GoSem.PinnedTables
import GoSem.Claim
import GoSem.ClaimJoined
import GoSem.ClaimMapViews
import Derived.JoinedTies
import Derived.KernelRfl
namespace Go.Proofs.YthjflehiokjiaaaGreatDoor
/- THE CELL 'sum', in the pinned program and in every row, IS THE sha256 OF THE DUMP (.gsa) THAT YthjflehiokjiaaaGreatDoorProg.lean LOADS. Nothing in Lean hashes anything: it is a label: what it is worth is what the hold of that sum in a sandbox is worth. -/
noncomputable def Tryz.pinned : Pinned := { name := "ythjflehiokjiaaagreatdoor", sum := "82fc0bfe4b8df83087f83cc3639bb0fb35e9a0a69ce8c9dc2301befe0d0a01f6", checked := Tryz.checked }
namespace Rows
def none {H : Type} : Left H := { results := [], args := [] }

/- WHAT THE LISTED PACKAGE-LEVEL VARIABLES READ AS WHEN THE CALL BEGINS. Each datum BY PROGRAM (the guide's laid-datum.mjs) off the statement by which the dump's own 'gosem.cut.vars' lays the variable. In a bare row this is a premise. The card (YthjflehiokjiaaaGreatDoorCards.lean) ties it to the program's text. -/
def laid_unicode_utf8_acceptRanges {H : Type} : DataW H := .agg [.agg [.lit (.int .u8 128), .lit (.int .u8 191)], .agg [.lit (.int .u8 160), .lit (.int .u8 191)], .agg [.lit (.int .u8 128), .lit (.int .u8 159)], .agg [.lit (.int .u8 144), .lit (.int .u8 191)], .agg [.lit (.int .u8 128), .lit (.int .u8 143)], .agg [.lit (.int .u8 0), .lit (.int .u8 0)], .agg [.lit (.int .u8 0), .lit (.int .u8 0)], .agg [.lit (.int .u8 0), .lit (.int .u8 0)], .agg [.lit (.int .u8 0), .lit (.int .u8 0)], .agg [.lit (.int .u8 0), .lit (.int .u8 0)], .agg [.lit (.int .u8 0), .lit (.int .u8 0)], .agg [.lit (.int .u8 0), .lit (.int .u8 0)], .agg [.lit (.int .u8 0), .lit (.int .u8 0)], .agg [.lit (.int .u8 0), .lit (.int .u8 0)], .agg [.lit (.int .u8 0), .lit (.int .u8 0)], .agg [.lit (.int .u8 0), .lit (.int .u8 0)]]
def laid_lapidary_kernel_name {H : Type} : DataW H := .agg [.lit (.string []), .lit (.string [79, 98, 106, 101, 99, 116]), .lit (.string [67, 108, 97, 115, 115]), .lit (.string [85, 110, 100, 101, 102, 105, 110, 101, 100, 79, 98, 106, 101, 99, 116]), .lit (.string [70, 97, 108, 115, 101]), .lit (.string [84, 114, 117, 101]), .lit (.string [73, 110, 116, 101, 103, 101, 114]), .lit (.string [67, 111, 109, 112, 108, 101, 120]), .lit (.string [83, 116, 114, 105, 110, 103]), .lit (.string [83, 121, 109, 98, 111, 108]), .lit (.string [65, 114, 114, 97, 121]), .lit (.string [66, 108, 111, 99, 107]), .lit (.string [68, 105, 99, 116, 105, 111, 110, 97, 114, 121]), .lit (.string [82, 99, 67, 111, 117, 110, 116, 101, 114]), .lit (.string [82, 99, 66, 97, 103])]
/-- One of Go's own tables, pinned by name: the form's constant. -/
def laid_unicode_utf8_first : DataW Unit := Go.Pinned.utf8First

/-- 'lapidarylaw14.KernelBuilds': WHATEVER THE INPUT: true; the input reads as it did. -/
def kernelBuildsSpec : ChangeSpec := { name := "kernelBuilds", fn := fun _ => fun
  | [d] => { results := [.lit (.bool true)], args := [d] }
  | _ => none }
def kernelBuildsRow : OpenClaim := { program := "ythjflehiokjiaaagreatdoor", sum := "82fc0bfe4b8df83087f83cc3639bb0fb35e9a0a69ce8c9dc2301befe0d0a01f6", func := "lapidary/lapidarylaw14.KernelBuilds", spec := "kernelBuilds", inPlace := ["internal/bytealg.IndexByteString", "internal/abi.NoEscape", "internal/bytealg.CountString", "internal/bytealg.IndexString", "internal/bytealg.MakeNoZero"], unfollowed := true, recurses := true, named := ["lapidary/kernel.name", "internal/bytealg.MaxLen", "unicode/utf8.first", "unicode/utf8.acceptRanges"], apart := false, laid := [("unicode/utf8.acceptRanges", laid_unicode_utf8_acceptRanges), ("lapidary/kernel.name", laid_lapidary_kernel_name), ("unicode/utf8.first", laid_unicode_utf8_first)] }
def KernelBuildsSaid : Prop := kernelBuildsRow.holds Tryz.pinned (OpenSpec.ofChange kernelBuildsSpec)

/-- ITS FALSE NEIGHBOUR: 'it returns false'. Refute it at one input. -/
def kernelBuildsWrong : ChangeSpec := { name := "kernelBuilds", fn := fun _ => fun
  | [d] => { results := [.lit (.bool false)], args := [d] }
  | _ => none }
def KernelBuildsWrongFalsely : Prop := kernelBuildsRow.holds Tryz.pinned (OpenSpec.ofChange kernelBuildsWrong)

/-- 'lapidarylaw14.KernelMethods': WHATEVER THE INPUT: true; the input reads as it did. -/
def kernelMethodsSpec : ChangeSpec := { name := "kernelMethods", fn := fun _ => fun
  | [d] => { results := [.lit (.bool true)], args := [d] }
  | _ => none }
def kernelMethodsRow : OpenClaim := { program := "ythjflehiokjiaaagreatdoor", sum := "82fc0bfe4b8df83087f83cc3639bb0fb35e9a0a69ce8c9dc2301befe0d0a01f6", func := "lapidary/lapidarylaw14.KernelMethods", spec := "kernelMethods", inPlace := ["internal/bytealg.IndexByteString", "internal/abi.NoEscape", "internal/bytealg.CountString", "internal/bytealg.IndexString", "internal/bytealg.MakeNoZero"], unfollowed := true, recurses := true, named := ["internal/bytealg.MaxLen", "unicode/utf8.first", "unicode/utf8.acceptRanges", "lapidary/kernel.name"], apart := false, laid := [("unicode/utf8.acceptRanges", laid_unicode_utf8_acceptRanges), ("lapidary/kernel.name", laid_lapidary_kernel_name), ("unicode/utf8.first", laid_unicode_utf8_first)] }
def KernelMethodsSaid : Prop := kernelMethodsRow.holds Tryz.pinned (OpenSpec.ofChange kernelMethodsSpec)

/-- ITS FALSE NEIGHBOUR: 'it returns false'. Refute it at one input. -/
def kernelMethodsWrong : ChangeSpec := { name := "kernelMethods", fn := fun _ => fun
  | [d] => { results := [.lit (.bool false)], args := [d] }
  | _ => none }
def KernelMethodsWrongFalsely : Prop := kernelMethodsRow.holds Tryz.pinned (OpenSpec.ofChange kernelMethodsWrong)

/-- 'lapidarylaw14.KernelNames': WHATEVER THE INPUT: true; the input reads as it did. -/
def kernelNamesSpec : ChangeSpec := { name := "kernelNames", fn := fun _ => fun
  | [d1, d2] => { results := [.lit (.bool true)], args := [d1, d2] }
  | _ => none }
def kernelNamesRow : OpenClaim := { program := "ythjflehiokjiaaagreatdoor", sum := "82fc0bfe4b8df83087f83cc3639bb0fb35e9a0a69ce8c9dc2301befe0d0a01f6", func := "lapidary/lapidarylaw14.KernelNames", spec := "kernelNames", inPlace := ["internal/bytealg.IndexByteString", "internal/abi.NoEscape", "internal/bytealg.CountString", "internal/bytealg.IndexString", "internal/bytealg.MakeNoZero"], unfollowed := true, recurses := true, named := ["lapidary/kernel.name", "internal/bytealg.MaxLen", "unicode/utf8.first", "unicode/utf8.acceptRanges"], apart := false, laid := [("unicode/utf8.acceptRanges", laid_unicode_utf8_acceptRanges), ("lapidary/kernel.name", laid_lapidary_kernel_name), ("unicode/utf8.first", laid_unicode_utf8_first)] }
def KernelNamesSaid : Prop := kernelNamesRow.holds Tryz.pinned (OpenSpec.ofChange kernelNamesSpec)

/-- ITS FALSE NEIGHBOUR: 'it returns false'. Refute it at one input. -/
def kernelNamesWrong : ChangeSpec := { name := "kernelNames", fn := fun _ => fun
  | [d1, d2] => { results := [.lit (.bool false)], args := [d1, d2] }
  | _ => none }
def KernelNamesWrongFalsely : Prop := kernelNamesRow.holds Tryz.pinned (OpenSpec.ofChange kernelNamesWrong)

/-- 'lapidarylaw14.KernelWhole': WHATEVER THE INPUT: true; the input reads as it did. -/
def kernelWholeSpec : ChangeSpec := { name := "kernelWhole", fn := fun _ => fun
  | [d] => { results := [.lit (.bool true)], args := [d] }
  | _ => none }
def kernelWholeRow : OpenClaim := { program := "ythjflehiokjiaaagreatdoor", sum := "82fc0bfe4b8df83087f83cc3639bb0fb35e9a0a69ce8c9dc2301befe0d0a01f6", func := "lapidary/lapidarylaw14.KernelWhole", spec := "kernelWhole", inPlace := ["internal/bytealg.IndexByteString", "internal/abi.NoEscape", "internal/bytealg.CountString", "internal/bytealg.IndexString", "internal/bytealg.MakeNoZero"], unfollowed := true, recurses := true, named := ["lapidary/kernel.name", "internal/bytealg.MaxLen", "unicode/utf8.first", "unicode/utf8.acceptRanges"], apart := false, laid := [("unicode/utf8.acceptRanges", laid_unicode_utf8_acceptRanges), ("lapidary/kernel.name", laid_lapidary_kernel_name), ("unicode/utf8.first", laid_unicode_utf8_first)] }
def KernelWholeSaid : Prop := kernelWholeRow.holds Tryz.pinned (OpenSpec.ofChange kernelWholeSpec)

/-- ITS FALSE NEIGHBOUR: 'it returns false'. Refute it at one input. -/
def kernelWholeWrong : ChangeSpec := { name := "kernelWhole", fn := fun _ => fun
  | [d] => { results := [.lit (.bool false)], args := [d] }
  | _ => none }
def KernelWholeWrongFalsely : Prop := kernelWholeRow.holds Tryz.pinned (OpenSpec.ofChange kernelWholeWrong)

/- THE SECOND FORM. 'bulk': how many values and letters a reading holds, each counted each time it is reached (what is shared counts as often as it is met; a slice's spare places count too). A statement '..UptoSaid' is the law's where the arguments, and the package variables that the reading takes, are together of bulk at most 1048576: NARROWER than '..Said'. Prove '..Said' where nothing that the law and all that it calls make is longer than what came in: it says more and counts as full. Else prove '..UptoSaid'. A law counts once. -/
mutual
def uptoBulk {H : Type} : DataW H → Nat
  | .lit (.string bytes) => bytes.length + 1
  | .lit _ => 1
  | .nil => 1
  | .ptr d => uptoBulk d + 1
  | .slice elems spare => uptoBulkAll elems + uptoBulkAll spare + 1
  | .agg parts => uptoBulkAll parts + 1
  | .iface _ d => uptoBulk d + 1
  | .map entries => uptoBulkEntries entries + 1
  | .held _ => 1
def uptoBulkAll {H : Type} : List (DataW H) → Nat
  | [] => 0
  | d :: r => uptoBulk d + uptoBulkAll r
def uptoBulkEntries {H : Type} : List (Lit × DataW H) → Nat
  | [] => 0
  | x :: r => uptoBulkEntry x + uptoBulkEntries r
def uptoBulkEntry {H : Type} : Lit × DataW H → Nat
  | (.string bytes, d) => bytes.length + uptoBulk d + 1
  | (_, d) => uptoBulk d + 1
 end
def uptoSmall : (H : Type) → List (DataW H) → Bool := fun _ ds => decide (uptoBulkAll ds ≤ 1048576)
def OpenSpec.upto (s : _root_.Go.ChangeSpec) : _root_.Go.OpenSpec := { _root_.Go.OpenSpec.ofChange s with cond := some uptoSmall }

/-- 'lapidarylaw14.KernelBuilds', WHERE WHAT IT READS IS OF BULK AT MOST 1048576: true; the input reads as it did. -/
def kernelBuildsUptoRow : OpenClaim := { program := "ythjflehiokjiaaagreatdoor", sum := "82fc0bfe4b8df83087f83cc3639bb0fb35e9a0a69ce8c9dc2301befe0d0a01f6", func := "lapidary/lapidarylaw14.KernelBuilds", spec := "kernelBuilds", inPlace := ["internal/bytealg.IndexByteString", "internal/abi.NoEscape", "internal/bytealg.CountString", "internal/bytealg.IndexString", "internal/bytealg.MakeNoZero"], unfollowed := true, recurses := true, named := ["lapidary/kernel.name", "internal/bytealg.MaxLen", "unicode/utf8.first", "unicode/utf8.acceptRanges"], apart := false, laid := [("unicode/utf8.acceptRanges", laid_unicode_utf8_acceptRanges), ("lapidary/kernel.name", laid_lapidary_kernel_name), ("unicode/utf8.first", laid_unicode_utf8_first)], narrowed := true }
def KernelBuildsUptoSaid : Prop := kernelBuildsUptoRow.holds Tryz.pinned (OpenSpec.upto kernelBuildsSpec)

/-- 'lapidarylaw14.KernelMethods', WHERE WHAT IT READS IS OF BULK AT MOST 1048576: true; the input reads as it did. -/
def kernelMethodsUptoRow : OpenClaim := { program := "ythjflehiokjiaaagreatdoor", sum := "82fc0bfe4b8df83087f83cc3639bb0fb35e9a0a69ce8c9dc2301befe0d0a01f6", func := "lapidary/lapidarylaw14.KernelMethods", spec := "kernelMethods", inPlace := ["internal/bytealg.IndexByteString", "internal/abi.NoEscape", "internal/bytealg.CountString", "internal/bytealg.IndexString", "internal/bytealg.MakeNoZero"], unfollowed := true, recurses := true, named := ["internal/bytealg.MaxLen", "unicode/utf8.first", "unicode/utf8.acceptRanges", "lapidary/kernel.name"], apart := false, laid := [("unicode/utf8.acceptRanges", laid_unicode_utf8_acceptRanges), ("lapidary/kernel.name", laid_lapidary_kernel_name), ("unicode/utf8.first", laid_unicode_utf8_first)], narrowed := true }
def KernelMethodsUptoSaid : Prop := kernelMethodsUptoRow.holds Tryz.pinned (OpenSpec.upto kernelMethodsSpec)

/-- 'lapidarylaw14.KernelNames', WHERE WHAT IT READS IS OF BULK AT MOST 1048576: true; the input reads as it did. -/
def kernelNamesUptoRow : OpenClaim := { program := "ythjflehiokjiaaagreatdoor", sum := "82fc0bfe4b8df83087f83cc3639bb0fb35e9a0a69ce8c9dc2301befe0d0a01f6", func := "lapidary/lapidarylaw14.KernelNames", spec := "kernelNames", inPlace := ["internal/bytealg.IndexByteString", "internal/abi.NoEscape", "internal/bytealg.CountString", "internal/bytealg.IndexString", "internal/bytealg.MakeNoZero"], unfollowed := true, recurses := true, named := ["lapidary/kernel.name", "internal/bytealg.MaxLen", "unicode/utf8.first", "unicode/utf8.acceptRanges"], apart := false, laid := [("unicode/utf8.acceptRanges", laid_unicode_utf8_acceptRanges), ("lapidary/kernel.name", laid_lapidary_kernel_name), ("unicode/utf8.first", laid_unicode_utf8_first)], narrowed := true }
def KernelNamesUptoSaid : Prop := kernelNamesUptoRow.holds Tryz.pinned (OpenSpec.upto kernelNamesSpec)

/-- 'lapidarylaw14.KernelWhole', WHERE WHAT IT READS IS OF BULK AT MOST 1048576: true; the input reads as it did. -/
def kernelWholeUptoRow : OpenClaim := { program := "ythjflehiokjiaaagreatdoor", sum := "82fc0bfe4b8df83087f83cc3639bb0fb35e9a0a69ce8c9dc2301befe0d0a01f6", func := "lapidary/lapidarylaw14.KernelWhole", spec := "kernelWhole", inPlace := ["internal/bytealg.IndexByteString", "internal/abi.NoEscape", "internal/bytealg.CountString", "internal/bytealg.IndexString", "internal/bytealg.MakeNoZero"], unfollowed := true, recurses := true, named := ["lapidary/kernel.name", "internal/bytealg.MaxLen", "unicode/utf8.first", "unicode/utf8.acceptRanges"], apart := false, laid := [("unicode/utf8.acceptRanges", laid_unicode_utf8_acceptRanges), ("lapidary/kernel.name", laid_lapidary_kernel_name), ("unicode/utf8.first", laid_unicode_utf8_first)], narrowed := true }
def KernelWholeUptoSaid : Prop := kernelWholeUptoRow.holds Tryz.pinned (OpenSpec.upto kernelWholeSpec)

end Rows
end Go.Proofs.YthjflehiokjiaaaGreatDoor
