/-
  NARROWER THAN 'FOR EVERY INPUT', by the rows' own cells (each row's printed sentence says how): PyramidSizes: laid · PyramidLevels: laid · PyramidSteps: laid · PyramidParts: laid · PyramidMeans: laid.
  DERIVED. THE GIVEN ROWS OF THIS SEAT. 5 by the template 'for every input the law returns true; each argument reads behind the call as it read before'; 0 by the template 'total and deterministic' (their statements: YtkchkfmggbejfaaGreatDoorTotals.lean).
  GIVEN WITH THE SEED: the statements are not yours to turn. If you find one false, say at which input.
  Laid BY PROGRAM, IN A SANDBOX (cutbox-rows.mjs): the forced cells as the released guide's own fill.sh prints them over the translation e518b6e613f54293… (all of the seat's roots in one cut). By AI agents, Wed Nov 11 2026. No macro, syntax, notation, axiom, sorry.
-/
import Derived.Test.YtkchkfmggbejfaaGreatDoorChecked
import GoSem.PinnedTables
import GoSem.Claim
import GoSem.ClaimJoined
import GoSem.ClaimMapViews
import Derived.JoinedTies
import Derived.KernelRfl
namespace Go.Proofs.YtkchkfmggbejfaaGreatDoor
/- THE CELL 'sum', in the pinned program and in every row, IS THE sha256 OF THE DUMP (.gsa) THAT YtkchkfmggbejfaaGreatDoorProg.lean LOADS. Nothing in Lean hashes anything: it is a label: what it is worth is what the hold of that sum in a sandbox is worth. -/
noncomputable def Tryz.pinned : Pinned := { name := "ytkchkfmggbejfaagreatdoor", sum := "e518b6e613f542932c55c782761b7b821706e3e4788db5182986038b02ddd923", checked := Tryz.checked }
namespace Rows
def none {H : Type} : Left H := { results := [], args := [] }

/- WHAT THE LISTED PACKAGE-LEVEL VARIABLES READ AS WHEN THE CALL BEGINS. Each datum BY PROGRAM (the guide's laid-datum.mjs) off the statement by which the dump's own 'gosem.cut.vars' lays the variable. In a bare row this is a premise. The card (YtkchkfmggbejfaaGreatDoorCards.lean) ties it to the program's text. -/
def laid_unicode_utf8_acceptRanges {H : Type} : DataW H := .agg [.agg [.lit (.int .u8 128), .lit (.int .u8 191)], .agg [.lit (.int .u8 160), .lit (.int .u8 191)], .agg [.lit (.int .u8 128), .lit (.int .u8 159)], .agg [.lit (.int .u8 144), .lit (.int .u8 191)], .agg [.lit (.int .u8 128), .lit (.int .u8 143)], .agg [.lit (.int .u8 0), .lit (.int .u8 0)], .agg [.lit (.int .u8 0), .lit (.int .u8 0)], .agg [.lit (.int .u8 0), .lit (.int .u8 0)], .agg [.lit (.int .u8 0), .lit (.int .u8 0)], .agg [.lit (.int .u8 0), .lit (.int .u8 0)], .agg [.lit (.int .u8 0), .lit (.int .u8 0)], .agg [.lit (.int .u8 0), .lit (.int .u8 0)], .agg [.lit (.int .u8 0), .lit (.int .u8 0)], .agg [.lit (.int .u8 0), .lit (.int .u8 0)], .agg [.lit (.int .u8 0), .lit (.int .u8 0)], .agg [.lit (.int .u8 0), .lit (.int .u8 0)]]
/-- One of Go's own tables, pinned by name: the form's constant. -/
def laid_unicode_utf8_first : DataW Unit := Go.Pinned.utf8First

/-- 'imageeditorlaw35.PyramidSizes': WHATEVER THE INPUT: true; the input reads as it did. -/
def pyramidSizesSpec : ChangeSpec := { name := "pyramidSizes", fn := fun _ => fun
  | [d1, d2, d3, d4] => { results := [.lit (.bool true)], args := [d1, d2, d3, d4] }
  | _ => none }
def pyramidSizesRow : OpenClaim := { program := "ytkchkfmggbejfaagreatdoor", sum := "e518b6e613f542932c55c782761b7b821706e3e4788db5182986038b02ddd923", func := "imageeditor/imageeditorlaw35.PyramidSizes", spec := "pyramidSizes", inPlace := ["internal/bytealg.IndexByteString", "internal/bytealg.CountString", "internal/bytealg.IndexString"], unfollowed := true, recurses := true, named := ["unicode/utf8.first", "unicode/utf8.acceptRanges", "internal/bytealg.MaxLen", "math/bits.divideError", "math/bits.overflowError"], apart := false, laid := [("unicode/utf8.acceptRanges", laid_unicode_utf8_acceptRanges), ("unicode/utf8.first", laid_unicode_utf8_first)] }
def PyramidSizesSaid : Prop := pyramidSizesRow.holds Tryz.pinned (OpenSpec.ofChange pyramidSizesSpec)

/-- ITS FALSE NEIGHBOUR: 'it returns false'. Refute it at one input. -/
def pyramidSizesWrong : ChangeSpec := { name := "pyramidSizes", fn := fun _ => fun
  | [d1, d2, d3, d4] => { results := [.lit (.bool false)], args := [d1, d2, d3, d4] }
  | _ => none }
def PyramidSizesWrongFalsely : Prop := pyramidSizesRow.holds Tryz.pinned (OpenSpec.ofChange pyramidSizesWrong)

/-- 'imageeditorlaw35.PyramidLevels': WHATEVER THE INPUT: true; the input reads as it did. -/
def pyramidLevelsSpec : ChangeSpec := { name := "pyramidLevels", fn := fun _ => fun
  | [d1, d2] => { results := [.lit (.bool true)], args := [d1, d2] }
  | _ => none }
def pyramidLevelsRow : OpenClaim := { program := "ytkchkfmggbejfaagreatdoor", sum := "e518b6e613f542932c55c782761b7b821706e3e4788db5182986038b02ddd923", func := "imageeditor/imageeditorlaw35.PyramidLevels", spec := "pyramidLevels", inPlace := ["internal/bytealg.IndexByteString", "internal/bytealg.CountString", "internal/bytealg.IndexString"], unfollowed := true, recurses := true, named := ["unicode/utf8.first", "unicode/utf8.acceptRanges", "internal/bytealg.MaxLen", "math/bits.divideError", "math/bits.overflowError"], apart := false, laid := [("unicode/utf8.acceptRanges", laid_unicode_utf8_acceptRanges), ("unicode/utf8.first", laid_unicode_utf8_first)] }
def PyramidLevelsSaid : Prop := pyramidLevelsRow.holds Tryz.pinned (OpenSpec.ofChange pyramidLevelsSpec)

/-- ITS FALSE NEIGHBOUR: 'it returns false'. Refute it at one input. -/
def pyramidLevelsWrong : ChangeSpec := { name := "pyramidLevels", fn := fun _ => fun
  | [d1, d2] => { results := [.lit (.bool false)], args := [d1, d2] }
  | _ => none }
def PyramidLevelsWrongFalsely : Prop := pyramidLevelsRow.holds Tryz.pinned (OpenSpec.ofChange pyramidLevelsWrong)

/-- 'imageeditorlaw35.PyramidSteps': WHATEVER THE INPUT: true; the input reads as it did. -/
def pyramidStepsSpec : ChangeSpec := { name := "pyramidSteps", fn := fun _ => fun
  | [d1, d2, d3] => { results := [.lit (.bool true)], args := [d1, d2, d3] }
  | _ => none }
def pyramidStepsRow : OpenClaim := { program := "ytkchkfmggbejfaagreatdoor", sum := "e518b6e613f542932c55c782761b7b821706e3e4788db5182986038b02ddd923", func := "imageeditor/imageeditorlaw35.PyramidSteps", spec := "pyramidSteps", inPlace := ["internal/bytealg.IndexByteString", "internal/bytealg.CountString", "internal/bytealg.IndexString"], unfollowed := true, recurses := true, named := ["unicode/utf8.first", "unicode/utf8.acceptRanges", "internal/bytealg.MaxLen", "math/bits.divideError", "math/bits.overflowError"], apart := false, laid := [("unicode/utf8.acceptRanges", laid_unicode_utf8_acceptRanges), ("unicode/utf8.first", laid_unicode_utf8_first)] }
def PyramidStepsSaid : Prop := pyramidStepsRow.holds Tryz.pinned (OpenSpec.ofChange pyramidStepsSpec)

/-- ITS FALSE NEIGHBOUR: 'it returns false'. Refute it at one input. -/
def pyramidStepsWrong : ChangeSpec := { name := "pyramidSteps", fn := fun _ => fun
  | [d1, d2, d3] => { results := [.lit (.bool false)], args := [d1, d2, d3] }
  | _ => none }
def PyramidStepsWrongFalsely : Prop := pyramidStepsRow.holds Tryz.pinned (OpenSpec.ofChange pyramidStepsWrong)

/-- 'imageeditorlaw35.PyramidParts': WHATEVER THE INPUT: true; the input reads as it did. -/
def pyramidPartsSpec : ChangeSpec := { name := "pyramidParts", fn := fun _ => fun
  | [d1, d2, d3] => { results := [.lit (.bool true)], args := [d1, d2, d3] }
  | _ => none }
def pyramidPartsRow : OpenClaim := { program := "ytkchkfmggbejfaagreatdoor", sum := "e518b6e613f542932c55c782761b7b821706e3e4788db5182986038b02ddd923", func := "imageeditor/imageeditorlaw35.PyramidParts", spec := "pyramidParts", inPlace := ["internal/bytealg.IndexByteString", "internal/bytealg.CountString", "internal/bytealg.IndexString"], unfollowed := true, recurses := true, named := ["unicode/utf8.first", "unicode/utf8.acceptRanges", "internal/bytealg.MaxLen", "math/bits.divideError", "math/bits.overflowError"], apart := false, laid := [("unicode/utf8.acceptRanges", laid_unicode_utf8_acceptRanges), ("unicode/utf8.first", laid_unicode_utf8_first)] }
def PyramidPartsSaid : Prop := pyramidPartsRow.holds Tryz.pinned (OpenSpec.ofChange pyramidPartsSpec)

/-- ITS FALSE NEIGHBOUR: 'it returns false'. Refute it at one input. -/
def pyramidPartsWrong : ChangeSpec := { name := "pyramidParts", fn := fun _ => fun
  | [d1, d2, d3] => { results := [.lit (.bool false)], args := [d1, d2, d3] }
  | _ => none }
def PyramidPartsWrongFalsely : Prop := pyramidPartsRow.holds Tryz.pinned (OpenSpec.ofChange pyramidPartsWrong)

/-- 'imageeditorlaw35.PyramidMeans': WHATEVER THE INPUT: true; the input reads as it did. -/
def pyramidMeansSpec : ChangeSpec := { name := "pyramidMeans", fn := fun _ => fun
  | [d1, d2, d3] => { results := [.lit (.bool true)], args := [d1, d2, d3] }
  | _ => none }
def pyramidMeansRow : OpenClaim := { program := "ytkchkfmggbejfaagreatdoor", sum := "e518b6e613f542932c55c782761b7b821706e3e4788db5182986038b02ddd923", func := "imageeditor/imageeditorlaw35.PyramidMeans", spec := "pyramidMeans", inPlace := ["internal/bytealg.IndexByteString", "internal/bytealg.CountString", "internal/bytealg.IndexString"], unfollowed := true, recurses := true, named := ["unicode/utf8.first", "unicode/utf8.acceptRanges", "internal/bytealg.MaxLen", "math/bits.divideError", "math/bits.overflowError"], apart := false, laid := [("unicode/utf8.acceptRanges", laid_unicode_utf8_acceptRanges), ("unicode/utf8.first", laid_unicode_utf8_first)] }
def PyramidMeansSaid : Prop := pyramidMeansRow.holds Tryz.pinned (OpenSpec.ofChange pyramidMeansSpec)

/-- ITS FALSE NEIGHBOUR: 'it returns false'. Refute it at one input. -/
def pyramidMeansWrong : ChangeSpec := { name := "pyramidMeans", fn := fun _ => fun
  | [d1, d2, d3] => { results := [.lit (.bool false)], args := [d1, d2, d3] }
  | _ => none }
def PyramidMeansWrongFalsely : Prop := pyramidMeansRow.holds Tryz.pinned (OpenSpec.ofChange pyramidMeansWrong)

/- THE SECOND FORM. 'bulk': how many values and letters a reading holds, each counted each time it is reached (what is shared counts as often as it is met; a slice's spare places count too). A statement '..UptoSaid' is the law's where the arguments, and the package variables that the reading takes, are together of bulk at most 1048576: NARROWER than '..Said'. Prove '..Said' where nothing that the law and all that it calls make is longer than what came in: it says more and counts as full. Else prove '..UptoSaid'. A law counts once. -/
mutual
def uptoBulk {H : Type} : DataW H → Nat
  | .lit (.string bytes) => bytes.length + 1
  | .lit _ => 1
  | .nil => 1
  | .ptr d => uptoBulk d + 1
  | .slice elems spare => uptoBulkAll elems + uptoBulkAll spare + 1
  | .agg parts => uptoBulkAll parts + 1
  | .iface _ d => uptoBulk d + 1
  | .map entries => uptoBulkEntries entries + 1
  | .held _ => 1
def uptoBulkAll {H : Type} : List (DataW H) → Nat
  | [] => 0
  | d :: r => uptoBulk d + uptoBulkAll r
def uptoBulkEntries {H : Type} : List (Lit × DataW H) → Nat
  | [] => 0
  | x :: r => uptoBulkEntry x + uptoBulkEntries r
def uptoBulkEntry {H : Type} : Lit × DataW H → Nat
  | (.string bytes, d) => bytes.length + uptoBulk d + 1
  | (_, d) => uptoBulk d + 1
 end
def uptoSmall : (H : Type) → List (DataW H) → Bool := fun _ ds => decide (uptoBulkAll ds ≤ 1048576)
def OpenSpec.upto (s : _root_.Go.ChangeSpec) : _root_.Go.OpenSpec := { _root_.Go.OpenSpec.ofChange s with cond := some uptoSmall }

/-- 'imageeditorlaw35.PyramidSizes', WHERE WHAT IT READS IS OF BULK AT MOST 1048576: true; the input reads as it did. -/
def pyramidSizesUptoRow : OpenClaim := { program := "ytkchkfmggbejfaagreatdoor", sum := "e518b6e613f542932c55c782761b7b821706e3e4788db5182986038b02ddd923", func := "imageeditor/imageeditorlaw35.PyramidSizes", spec := "pyramidSizes", inPlace := ["internal/bytealg.IndexByteString", "internal/bytealg.CountString", "internal/bytealg.IndexString"], unfollowed := true, recurses := true, named := ["unicode/utf8.first", "unicode/utf8.acceptRanges", "internal/bytealg.MaxLen", "math/bits.divideError", "math/bits.overflowError"], apart := false, laid := [("unicode/utf8.acceptRanges", laid_unicode_utf8_acceptRanges), ("unicode/utf8.first", laid_unicode_utf8_first)], narrowed := true }
def PyramidSizesUptoSaid : Prop := pyramidSizesUptoRow.holds Tryz.pinned (OpenSpec.upto pyramidSizesSpec)

/-- 'imageeditorlaw35.PyramidLevels', WHERE WHAT IT READS IS OF BULK AT MOST 1048576: true; the input reads as it did. -/
def pyramidLevelsUptoRow : OpenClaim := { program := "ytkchkfmggbejfaagreatdoor", sum := "e518b6e613f542932c55c782761b7b821706e3e4788db5182986038b02ddd923", func := "imageeditor/imageeditorlaw35.PyramidLevels", spec := "pyramidLevels", inPlace := ["internal/bytealg.IndexByteString", "internal/bytealg.CountString", "internal/bytealg.IndexString"], unfollowed := true, recurses := true, named := ["unicode/utf8.first", "unicode/utf8.acceptRanges", "internal/bytealg.MaxLen", "math/bits.divideError", "math/bits.overflowError"], apart := false, laid := [("unicode/utf8.acceptRanges", laid_unicode_utf8_acceptRanges), ("unicode/utf8.first", laid_unicode_utf8_first)], narrowed := true }
def PyramidLevelsUptoSaid : Prop := pyramidLevelsUptoRow.holds Tryz.pinned (OpenSpec.upto pyramidLevelsSpec)

/-- 'imageeditorlaw35.PyramidSteps', WHERE WHAT IT READS IS OF BULK AT MOST 1048576: true; the input reads as it did. -/
def pyramidStepsUptoRow : OpenClaim := { program := "ytkchkfmggbejfaagreatdoor", sum := "e518b6e613f542932c55c782761b7b821706e3e4788db5182986038b02ddd923", func := "imageeditor/imageeditorlaw35.PyramidSteps", spec := "pyramidSteps", inPlace := ["internal/bytealg.IndexByteString", "internal/bytealg.CountString", "internal/bytealg.IndexString"], unfollowed := true, recurses := true, named := ["unicode/utf8.first", "unicode/utf8.acceptRanges", "internal/bytealg.MaxLen", "math/bits.divideError", "math/bits.overflowError"], apart := false, laid := [("unicode/utf8.acceptRanges", laid_unicode_utf8_acceptRanges), ("unicode/utf8.first", laid_unicode_utf8_first)], narrowed := true }
def PyramidStepsUptoSaid : Prop := pyramidStepsUptoRow.holds Tryz.pinned (OpenSpec.upto pyramidStepsSpec)

/-- 'imageeditorlaw35.PyramidParts', WHERE WHAT IT READS IS OF BULK AT MOST 1048576: true; the input reads as it did. -/
def pyramidPartsUptoRow : OpenClaim := { program := "ytkchkfmggbejfaagreatdoor", sum := "e518b6e613f542932c55c782761b7b821706e3e4788db5182986038b02ddd923", func := "imageeditor/imageeditorlaw35.PyramidParts", spec := "pyramidParts", inPlace := ["internal/bytealg.IndexByteString", "internal/bytealg.CountString", "internal/bytealg.IndexString"], unfollowed := true, recurses := true, named := ["unicode/utf8.first", "unicode/utf8.acceptRanges", "internal/bytealg.MaxLen", "math/bits.divideError", "math/bits.overflowError"], apart := false, laid := [("unicode/utf8.acceptRanges", laid_unicode_utf8_acceptRanges), ("unicode/utf8.first", laid_unicode_utf8_first)], narrowed := true }
def PyramidPartsUptoSaid : Prop := pyramidPartsUptoRow.holds Tryz.pinned (OpenSpec.upto pyramidPartsSpec)

/-- 'imageeditorlaw35.PyramidMeans', WHERE WHAT IT READS IS OF BULK AT MOST 1048576: true; the input reads as it did. -/
def pyramidMeansUptoRow : OpenClaim := { program := "ytkchkfmggbejfaagreatdoor", sum := "e518b6e613f542932c55c782761b7b821706e3e4788db5182986038b02ddd923", func := "imageeditor/imageeditorlaw35.PyramidMeans", spec := "pyramidMeans", inPlace := ["internal/bytealg.IndexByteString", "internal/bytealg.CountString", "internal/bytealg.IndexString"], unfollowed := true, recurses := true, named := ["unicode/utf8.first", "unicode/utf8.acceptRanges", "internal/bytealg.MaxLen", "math/bits.divideError", "math/bits.overflowError"], apart := false, laid := [("unicode/utf8.acceptRanges", laid_unicode_utf8_acceptRanges), ("unicode/utf8.first", laid_unicode_utf8_first)], narrowed := true }
def PyramidMeansUptoSaid : Prop := pyramidMeansUptoRow.holds Tryz.pinned (OpenSpec.upto pyramidMeansSpec)

end Rows
end Go.Proofs.YtkchkfmggbejfaaGreatDoor
