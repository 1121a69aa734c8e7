/-
  NARROWER THAN 'FOR EVERY INPUT', by the rows' own cells (each row's printed sentence says how): PackEncodes: laid · PackBack: laid · PackForged: laid · PackFlips: laid · PackCuts: laid · PackBursts: laid.
  DERIVED. THE GIVEN ROWS OF THIS SEAT. 6 by the template 'for every input the law returns true; each argument reads behind the call as it read before'; 0 by the template 'total and deterministic' (their statements: YtkienlambankeaaGreatDoorTotals.lean).
  GIVEN WITH THE SEED: the statements are not yours to turn. If you find one false, say at which input.
  Laid BY PROGRAM, IN A SANDBOX (cutbox-rows.mjs): the forced cells as the released guide's own fill.sh prints them over the translation e8c09accb50c5adb… (all of the seat's roots in one cut). By AI agents, Wed Nov 11 2026. No macro, syntax, notation, axiom, sorry.
-/
import Derived.Test.YtkienlambankeaaGreatDoorChecked
import GoSem.PinnedTables
import GoSem.Claim
import GoSem.ClaimJoined
import GoSem.ClaimMapViews
import Derived.JoinedTies
import Derived.KernelRfl
namespace Go.Proofs.YtkienlambankeaaGreatDoor
/- THE CELL 'sum', in the pinned program and in every row, IS THE sha256 OF THE DUMP (.gsa) THAT YtkienlambankeaaGreatDoorProg.lean LOADS. Nothing in Lean hashes anything: it is a label: what it is worth is what the hold of that sum in a sandbox is worth. -/
noncomputable def Tryz.pinned : Pinned := { name := "ytkienlambankeaagreatdoor", sum := "e8c09accb50c5adb188df7c5d715488ca51b1638204e0905f3892b4259fb600f", checked := Tryz.checked }
namespace Rows
def none {H : Type} : Left H := { results := [], args := [] }

/- WHAT THE LISTED PACKAGE-LEVEL VARIABLES READ AS WHEN THE CALL BEGINS. Each datum BY PROGRAM (the guide's laid-datum.mjs) off the statement by which the dump's own 'gosem.cut.vars' lays the variable. In a bare row this is a premise. The card (YtkienlambankeaaGreatDoorCards.lean) ties it to the program's text. -/
def laid_unicode_utf8_acceptRanges {H : Type} : DataW H := .agg [.agg [.lit (.int .u8 128), .lit (.int .u8 191)], .agg [.lit (.int .u8 160), .lit (.int .u8 191)], .agg [.lit (.int .u8 128), .lit (.int .u8 159)], .agg [.lit (.int .u8 144), .lit (.int .u8 191)], .agg [.lit (.int .u8 128), .lit (.int .u8 143)], .agg [.lit (.int .u8 0), .lit (.int .u8 0)], .agg [.lit (.int .u8 0), .lit (.int .u8 0)], .agg [.lit (.int .u8 0), .lit (.int .u8 0)], .agg [.lit (.int .u8 0), .lit (.int .u8 0)], .agg [.lit (.int .u8 0), .lit (.int .u8 0)], .agg [.lit (.int .u8 0), .lit (.int .u8 0)], .agg [.lit (.int .u8 0), .lit (.int .u8 0)], .agg [.lit (.int .u8 0), .lit (.int .u8 0)], .agg [.lit (.int .u8 0), .lit (.int .u8 0)], .agg [.lit (.int .u8 0), .lit (.int .u8 0)], .agg [.lit (.int .u8 0), .lit (.int .u8 0)]]
def laid_errors_errorType {H : Type} : DataW H := .iface "internal/reflectlite.rtype" (.agg [.ptr (.lit (.string [101, 114, 114, 111, 114]))])
def laid_tessera_sums_nibbles {H : Type} : DataW H := .agg [.lit (.int .u32 0), .lit (.int .u32 498536548), .lit (.int .u32 997073096), .lit (.int .u32 651767980), .lit (.int .u32 1994146192), .lit (.int .u32 1802195444), .lit (.int .u32 1303535960), .lit (.int .u32 1342533948), .lit (.int .u32 3988292384), .lit (.int .u32 4027552580), .lit (.int .u32 3604390888), .lit (.int .u32 3412177804), .lit (.int .u32 2607071920), .lit (.int .u32 2262029012), .lit (.int .u32 2685067896), .lit (.int .u32 3183342108)]
def laid_tessera_names_basesTable {H : Type} : DataW H := .agg [.lit (.int .i32 192), .lit (.int .i32 214), .lit (.int .i32 216), .lit (.int .i32 246), .lit (.int .i32 248), .lit (.int .i32 767), .lit (.int .i32 880), .lit (.int .i32 893), .lit (.int .i32 895), .lit (.int .i32 8191), .lit (.int .i32 8204), .lit (.int .i32 8205), .lit (.int .i32 8304), .lit (.int .i32 8591), .lit (.int .i32 11264), .lit (.int .i32 12271), .lit (.int .i32 12289), .lit (.int .i32 55295), .lit (.int .i32 63744), .lit (.int .i32 64975), .lit (.int .i32 65008), .lit (.int .i32 65533), .lit (.int .i32 65536), .lit (.int .i32 983039)]
/-- One of Go's own tables, pinned by name: the form's constant. -/
def laid_unicode_utf8_first : DataW Unit := Go.Pinned.utf8First
def laid_tessera_vocab_kinds {H : Type} : DataW H := .agg [.lit (.int .i64 1), .lit (.int .i64 2), .lit (.int .i64 3)]

/-- 'tesseralaw19.PackEncodes': WHATEVER THE INPUT: true; the input reads as it did. -/
def packEncodesSpec : ChangeSpec := { name := "packEncodes", fn := fun _ => fun
  | [d1, d2] => { results := [.lit (.bool true)], args := [d1, d2] }
  | _ => none }
def packEncodesRow : OpenClaim := { program := "ytkienlambankeaagreatdoor", sum := "e8c09accb50c5adb188df7c5d715488ca51b1638204e0905f3892b4259fb600f", func := "tessera/tesseralaw19.PackEncodes", spec := "packEncodes", inPlace := ["internal/bytealg.IndexByteString", "internal/bytealg.IndexString", "internal/bytealg.CountString", "internal/bytealg.abigen_runtime_cmpstring", "internal/abi.NoEscape", "internal/bytealg.MakeNoZero", "internal/reflectlite.ValueOf", "(internal/reflectlite.Value).Type", "(internal/reflectlite.Value).IsNil", "internal/reflectlite.TypeOf", "(internal/reflectlite.Value).Elem", "(internal/reflectlite.Value).Set"], unfollowed := true, recurses := true, named := ["tessera/names.basesTable", "unicode/utf8.first", "unicode/utf8.acceptRanges", "internal/bytealg.MaxLen", "errors.errorType", "tessera/sums.nibbles"], apart := false, laid := [("unicode/utf8.acceptRanges", laid_unicode_utf8_acceptRanges), ("errors.errorType", laid_errors_errorType), ("tessera/sums.nibbles", laid_tessera_sums_nibbles), ("tessera/names.basesTable", laid_tessera_names_basesTable), ("unicode/utf8.first", laid_unicode_utf8_first)] }
def PackEncodesSaid : Prop := packEncodesRow.holds Tryz.pinned (OpenSpec.ofChange packEncodesSpec)

/-- ITS FALSE NEIGHBOUR: 'it returns false'. Refute it at one input. -/
def packEncodesWrong : ChangeSpec := { name := "packEncodes", fn := fun _ => fun
  | [d1, d2] => { results := [.lit (.bool false)], args := [d1, d2] }
  | _ => none }
def PackEncodesWrongFalsely : Prop := packEncodesRow.holds Tryz.pinned (OpenSpec.ofChange packEncodesWrong)

/-- 'tesseralaw19.PackBack': WHATEVER THE INPUT: true; the input reads as it did. -/
def packBackSpec : ChangeSpec := { name := "packBack", fn := fun _ => fun
  | [d1, d2, d3] => { results := [.lit (.bool true)], args := [d1, d2, d3] }
  | _ => none }
def packBackRow : OpenClaim := { program := "ytkienlambankeaagreatdoor", sum := "e8c09accb50c5adb188df7c5d715488ca51b1638204e0905f3892b4259fb600f", func := "tessera/tesseralaw19.PackBack", spec := "packBack", inPlace := ["internal/bytealg.IndexByteString", "internal/bytealg.IndexString", "internal/bytealg.CountString", "internal/bytealg.abigen_runtime_cmpstring", "internal/abi.NoEscape", "internal/bytealg.MakeNoZero", "internal/reflectlite.ValueOf", "(internal/reflectlite.Value).Type", "(internal/reflectlite.Value).IsNil", "internal/reflectlite.TypeOf", "(internal/reflectlite.Value).Elem", "(internal/reflectlite.Value).Set"], unfollowed := true, recurses := true, named := ["tessera/names.basesTable", "unicode/utf8.first", "unicode/utf8.acceptRanges", "internal/bytealg.MaxLen", "errors.errorType", "tessera/sums.nibbles", "tessera/vocab.kinds"], apart := false, laid := [("unicode/utf8.acceptRanges", laid_unicode_utf8_acceptRanges), ("errors.errorType", laid_errors_errorType), ("tessera/sums.nibbles", laid_tessera_sums_nibbles), ("tessera/names.basesTable", laid_tessera_names_basesTable), ("tessera/vocab.kinds", laid_tessera_vocab_kinds), ("unicode/utf8.first", laid_unicode_utf8_first)] }
def PackBackSaid : Prop := packBackRow.holds Tryz.pinned (OpenSpec.ofChange packBackSpec)

/-- ITS FALSE NEIGHBOUR: 'it returns false'. Refute it at one input. -/
def packBackWrong : ChangeSpec := { name := "packBack", fn := fun _ => fun
  | [d1, d2, d3] => { results := [.lit (.bool false)], args := [d1, d2, d3] }
  | _ => none }
def PackBackWrongFalsely : Prop := packBackRow.holds Tryz.pinned (OpenSpec.ofChange packBackWrong)

/-- 'tesseralaw19.PackForged': WHATEVER THE INPUT: true; the input reads as it did. -/
def packForgedSpec : ChangeSpec := { name := "packForged", fn := fun _ => fun
  | [d] => { results := [.lit (.bool true)], args := [d] }
  | _ => none }
def packForgedRow : OpenClaim := { program := "ytkienlambankeaagreatdoor", sum := "e8c09accb50c5adb188df7c5d715488ca51b1638204e0905f3892b4259fb600f", func := "tessera/tesseralaw19.PackForged", spec := "packForged", inPlace := ["internal/bytealg.IndexByteString", "internal/bytealg.IndexString", "internal/bytealg.CountString", "internal/bytealg.abigen_runtime_cmpstring", "internal/abi.NoEscape", "internal/bytealg.MakeNoZero", "internal/reflectlite.ValueOf", "(internal/reflectlite.Value).Type", "(internal/reflectlite.Value).IsNil", "internal/reflectlite.TypeOf", "(internal/reflectlite.Value).Elem", "(internal/reflectlite.Value).Set"], unfollowed := true, recurses := true, named := ["tessera/names.basesTable", "unicode/utf8.first", "unicode/utf8.acceptRanges", "internal/bytealg.MaxLen", "errors.errorType", "tessera/sums.nibbles", "tessera/vocab.kinds"], apart := false, laid := [("unicode/utf8.acceptRanges", laid_unicode_utf8_acceptRanges), ("errors.errorType", laid_errors_errorType), ("tessera/sums.nibbles", laid_tessera_sums_nibbles), ("tessera/names.basesTable", laid_tessera_names_basesTable), ("tessera/vocab.kinds", laid_tessera_vocab_kinds), ("unicode/utf8.first", laid_unicode_utf8_first)] }
def PackForgedSaid : Prop := packForgedRow.holds Tryz.pinned (OpenSpec.ofChange packForgedSpec)

/-- ITS FALSE NEIGHBOUR: 'it returns false'. Refute it at one input. -/
def packForgedWrong : ChangeSpec := { name := "packForged", fn := fun _ => fun
  | [d] => { results := [.lit (.bool false)], args := [d] }
  | _ => none }
def PackForgedWrongFalsely : Prop := packForgedRow.holds Tryz.pinned (OpenSpec.ofChange packForgedWrong)

/-- 'tesseralaw19.PackFlips': WHATEVER THE INPUT: true; the input reads as it did. -/
def packFlipsSpec : ChangeSpec := { name := "packFlips", fn := fun _ => fun
  | [d1, d2, d3] => { results := [.lit (.bool true)], args := [d1, d2, d3] }
  | _ => none }
def packFlipsRow : OpenClaim := { program := "ytkienlambankeaagreatdoor", sum := "e8c09accb50c5adb188df7c5d715488ca51b1638204e0905f3892b4259fb600f", func := "tessera/tesseralaw19.PackFlips", spec := "packFlips", inPlace := ["internal/bytealg.IndexByteString", "internal/bytealg.IndexString", "internal/bytealg.CountString", "internal/bytealg.abigen_runtime_cmpstring", "internal/abi.NoEscape", "internal/bytealg.MakeNoZero", "internal/reflectlite.ValueOf", "(internal/reflectlite.Value).Type", "(internal/reflectlite.Value).IsNil", "internal/reflectlite.TypeOf", "(internal/reflectlite.Value).Elem", "(internal/reflectlite.Value).Set"], unfollowed := true, recurses := true, named := ["tessera/names.basesTable", "unicode/utf8.first", "unicode/utf8.acceptRanges", "internal/bytealg.MaxLen", "errors.errorType", "tessera/sums.nibbles", "tessera/vocab.kinds"], apart := false, laid := [("unicode/utf8.acceptRanges", laid_unicode_utf8_acceptRanges), ("errors.errorType", laid_errors_errorType), ("tessera/sums.nibbles", laid_tessera_sums_nibbles), ("tessera/names.basesTable", laid_tessera_names_basesTable), ("tessera/vocab.kinds", laid_tessera_vocab_kinds), ("unicode/utf8.first", laid_unicode_utf8_first)] }
def PackFlipsSaid : Prop := packFlipsRow.holds Tryz.pinned (OpenSpec.ofChange packFlipsSpec)

/-- ITS FALSE NEIGHBOUR: 'it returns false'. Refute it at one input. -/
def packFlipsWrong : ChangeSpec := { name := "packFlips", fn := fun _ => fun
  | [d1, d2, d3] => { results := [.lit (.bool false)], args := [d1, d2, d3] }
  | _ => none }
def PackFlipsWrongFalsely : Prop := packFlipsRow.holds Tryz.pinned (OpenSpec.ofChange packFlipsWrong)

/-- 'tesseralaw19.PackCuts': WHATEVER THE INPUT: true; the input reads as it did. -/
def packCutsSpec : ChangeSpec := { name := "packCuts", fn := fun _ => fun
  | [d1, d2, d3] => { results := [.lit (.bool true)], args := [d1, d2, d3] }
  | _ => none }
def packCutsRow : OpenClaim := { program := "ytkienlambankeaagreatdoor", sum := "e8c09accb50c5adb188df7c5d715488ca51b1638204e0905f3892b4259fb600f", func := "tessera/tesseralaw19.PackCuts", spec := "packCuts", inPlace := ["internal/bytealg.IndexByteString", "internal/bytealg.IndexString", "internal/bytealg.CountString", "internal/bytealg.abigen_runtime_cmpstring", "internal/abi.NoEscape", "internal/bytealg.MakeNoZero", "internal/reflectlite.ValueOf", "(internal/reflectlite.Value).Type", "(internal/reflectlite.Value).IsNil", "internal/reflectlite.TypeOf", "(internal/reflectlite.Value).Elem", "(internal/reflectlite.Value).Set"], unfollowed := true, recurses := true, named := ["tessera/names.basesTable", "unicode/utf8.first", "unicode/utf8.acceptRanges", "internal/bytealg.MaxLen", "errors.errorType", "tessera/sums.nibbles", "tessera/vocab.kinds"], apart := false, laid := [("unicode/utf8.acceptRanges", laid_unicode_utf8_acceptRanges), ("errors.errorType", laid_errors_errorType), ("tessera/sums.nibbles", laid_tessera_sums_nibbles), ("tessera/names.basesTable", laid_tessera_names_basesTable), ("tessera/vocab.kinds", laid_tessera_vocab_kinds), ("unicode/utf8.first", laid_unicode_utf8_first)] }
def PackCutsSaid : Prop := packCutsRow.holds Tryz.pinned (OpenSpec.ofChange packCutsSpec)

/-- ITS FALSE NEIGHBOUR: 'it returns false'. Refute it at one input. -/
def packCutsWrong : ChangeSpec := { name := "packCuts", fn := fun _ => fun
  | [d1, d2, d3] => { results := [.lit (.bool false)], args := [d1, d2, d3] }
  | _ => none }
def PackCutsWrongFalsely : Prop := packCutsRow.holds Tryz.pinned (OpenSpec.ofChange packCutsWrong)

/-- 'tesseralaw19.PackBursts': WHATEVER THE INPUT: true; the input reads as it did. -/
def packBurstsSpec : ChangeSpec := { name := "packBursts", fn := fun _ => fun
  | [d1, d2] => { results := [.lit (.bool true)], args := [d1, d2] }
  | _ => none }
def packBurstsRow : OpenClaim := { program := "ytkienlambankeaagreatdoor", sum := "e8c09accb50c5adb188df7c5d715488ca51b1638204e0905f3892b4259fb600f", func := "tessera/tesseralaw19.PackBursts", spec := "packBursts", inPlace := ["internal/bytealg.IndexByteString", "internal/bytealg.IndexString", "internal/bytealg.CountString", "internal/bytealg.abigen_runtime_cmpstring", "internal/abi.NoEscape", "internal/bytealg.MakeNoZero", "internal/reflectlite.ValueOf", "(internal/reflectlite.Value).Type", "(internal/reflectlite.Value).IsNil", "internal/reflectlite.TypeOf", "(internal/reflectlite.Value).Elem", "(internal/reflectlite.Value).Set"], unfollowed := true, recurses := true, named := ["tessera/names.basesTable", "unicode/utf8.first", "unicode/utf8.acceptRanges", "internal/bytealg.MaxLen", "errors.errorType", "tessera/sums.nibbles", "tessera/vocab.kinds"], apart := false, laid := [("unicode/utf8.acceptRanges", laid_unicode_utf8_acceptRanges), ("errors.errorType", laid_errors_errorType), ("tessera/sums.nibbles", laid_tessera_sums_nibbles), ("tessera/names.basesTable", laid_tessera_names_basesTable), ("tessera/vocab.kinds", laid_tessera_vocab_kinds), ("unicode/utf8.first", laid_unicode_utf8_first)] }
def PackBurstsSaid : Prop := packBurstsRow.holds Tryz.pinned (OpenSpec.ofChange packBurstsSpec)

/-- ITS FALSE NEIGHBOUR: 'it returns false'. Refute it at one input. -/
def packBurstsWrong : ChangeSpec := { name := "packBursts", fn := fun _ => fun
  | [d1, d2] => { results := [.lit (.bool false)], args := [d1, d2] }
  | _ => none }
def PackBurstsWrongFalsely : Prop := packBurstsRow.holds Tryz.pinned (OpenSpec.ofChange packBurstsWrong)

/- THE SECOND FORM. 'bulk': how many values and letters a reading holds, each counted each time it is reached (what is shared counts as often as it is met; a slice's spare places count too). A statement '..UptoSaid' is the law's where the arguments, and the package variables that the reading takes, are together of bulk at most 1048576: NARROWER than '..Said'. Prove '..Said' where nothing that the law and all that it calls make is longer than what came in: it says more and counts as full. Else prove '..UptoSaid'. A law counts once. -/
mutual
def uptoBulk {H : Type} : DataW H → Nat
  | .lit (.string bytes) => bytes.length + 1
  | .lit _ => 1
  | .nil => 1
  | .ptr d => uptoBulk d + 1
  | .slice elems spare => uptoBulkAll elems + uptoBulkAll spare + 1
  | .agg parts => uptoBulkAll parts + 1
  | .iface _ d => uptoBulk d + 1
  | .map entries => uptoBulkEntries entries + 1
  | .held _ => 1
def uptoBulkAll {H : Type} : List (DataW H) → Nat
  | [] => 0
  | d :: r => uptoBulk d + uptoBulkAll r
def uptoBulkEntries {H : Type} : List (Lit × DataW H) → Nat
  | [] => 0
  | x :: r => uptoBulkEntry x + uptoBulkEntries r
def uptoBulkEntry {H : Type} : Lit × DataW H → Nat
  | (.string bytes, d) => bytes.length + uptoBulk d + 1
  | (_, d) => uptoBulk d + 1
 end
def uptoSmall : (H : Type) → List (DataW H) → Bool := fun _ ds => decide (uptoBulkAll ds ≤ 1048576)
def OpenSpec.upto (s : _root_.Go.ChangeSpec) : _root_.Go.OpenSpec := { _root_.Go.OpenSpec.ofChange s with cond := some uptoSmall }

/-- 'tesseralaw19.PackEncodes', WHERE WHAT IT READS IS OF BULK AT MOST 1048576: true; the input reads as it did. -/
def packEncodesUptoRow : OpenClaim := { program := "ytkienlambankeaagreatdoor", sum := "e8c09accb50c5adb188df7c5d715488ca51b1638204e0905f3892b4259fb600f", func := "tessera/tesseralaw19.PackEncodes", spec := "packEncodes", inPlace := ["internal/bytealg.IndexByteString", "internal/bytealg.IndexString", "internal/bytealg.CountString", "internal/bytealg.abigen_runtime_cmpstring", "internal/abi.NoEscape", "internal/bytealg.MakeNoZero", "internal/reflectlite.ValueOf", "(internal/reflectlite.Value).Type", "(internal/reflectlite.Value).IsNil", "internal/reflectlite.TypeOf", "(internal/reflectlite.Value).Elem", "(internal/reflectlite.Value).Set"], unfollowed := true, recurses := true, named := ["tessera/names.basesTable", "unicode/utf8.first", "unicode/utf8.acceptRanges", "internal/bytealg.MaxLen", "errors.errorType", "tessera/sums.nibbles"], apart := false, laid := [("unicode/utf8.acceptRanges", laid_unicode_utf8_acceptRanges), ("errors.errorType", laid_errors_errorType), ("tessera/sums.nibbles", laid_tessera_sums_nibbles), ("tessera/names.basesTable", laid_tessera_names_basesTable), ("unicode/utf8.first", laid_unicode_utf8_first)], narrowed := true }
def PackEncodesUptoSaid : Prop := packEncodesUptoRow.holds Tryz.pinned (OpenSpec.upto packEncodesSpec)

/-- 'tesseralaw19.PackBack', WHERE WHAT IT READS IS OF BULK AT MOST 1048576: true; the input reads as it did. -/
def packBackUptoRow : OpenClaim := { program := "ytkienlambankeaagreatdoor", sum := "e8c09accb50c5adb188df7c5d715488ca51b1638204e0905f3892b4259fb600f", func := "tessera/tesseralaw19.PackBack", spec := "packBack", inPlace := ["internal/bytealg.IndexByteString", "internal/bytealg.IndexString", "internal/bytealg.CountString", "internal/bytealg.abigen_runtime_cmpstring", "internal/abi.NoEscape", "internal/bytealg.MakeNoZero", "internal/reflectlite.ValueOf", "(internal/reflectlite.Value).Type", "(internal/reflectlite.Value).IsNil", "internal/reflectlite.TypeOf", "(internal/reflectlite.Value).Elem", "(internal/reflectlite.Value).Set"], unfollowed := true, recurses := true, named := ["tessera/names.basesTable", "unicode/utf8.first", "unicode/utf8.acceptRanges", "internal/bytealg.MaxLen", "errors.errorType", "tessera/sums.nibbles", "tessera/vocab.kinds"], apart := false, laid := [("unicode/utf8.acceptRanges", laid_unicode_utf8_acceptRanges), ("errors.errorType", laid_errors_errorType), ("tessera/sums.nibbles", laid_tessera_sums_nibbles), ("tessera/names.basesTable", laid_tessera_names_basesTable), ("tessera/vocab.kinds", laid_tessera_vocab_kinds), ("unicode/utf8.first", laid_unicode_utf8_first)], narrowed := true }
def PackBackUptoSaid : Prop := packBackUptoRow.holds Tryz.pinned (OpenSpec.upto packBackSpec)

/-- 'tesseralaw19.PackForged', WHERE WHAT IT READS IS OF BULK AT MOST 1048576: true; the input reads as it did. -/
def packForgedUptoRow : OpenClaim := { program := "ytkienlambankeaagreatdoor", sum := "e8c09accb50c5adb188df7c5d715488ca51b1638204e0905f3892b4259fb600f", func := "tessera/tesseralaw19.PackForged", spec := "packForged", inPlace := ["internal/bytealg.IndexByteString", "internal/bytealg.IndexString", "internal/bytealg.CountString", "internal/bytealg.abigen_runtime_cmpstring", "internal/abi.NoEscape", "internal/bytealg.MakeNoZero", "internal/reflectlite.ValueOf", "(internal/reflectlite.Value).Type", "(internal/reflectlite.Value).IsNil", "internal/reflectlite.TypeOf", "(internal/reflectlite.Value).Elem", "(internal/reflectlite.Value).Set"], unfollowed := true, recurses := true, named := ["tessera/names.basesTable", "unicode/utf8.first", "unicode/utf8.acceptRanges", "internal/bytealg.MaxLen", "errors.errorType", "tessera/sums.nibbles", "tessera/vocab.kinds"], apart := false, laid := [("unicode/utf8.acceptRanges", laid_unicode_utf8_acceptRanges), ("errors.errorType", laid_errors_errorType), ("tessera/sums.nibbles", laid_tessera_sums_nibbles), ("tessera/names.basesTable", laid_tessera_names_basesTable), ("tessera/vocab.kinds", laid_tessera_vocab_kinds), ("unicode/utf8.first", laid_unicode_utf8_first)], narrowed := true }
def PackForgedUptoSaid : Prop := packForgedUptoRow.holds Tryz.pinned (OpenSpec.upto packForgedSpec)

/-- 'tesseralaw19.PackFlips', WHERE WHAT IT READS IS OF BULK AT MOST 1048576: true; the input reads as it did. -/
def packFlipsUptoRow : OpenClaim := { program := "ytkienlambankeaagreatdoor", sum := "e8c09accb50c5adb188df7c5d715488ca51b1638204e0905f3892b4259fb600f", func := "tessera/tesseralaw19.PackFlips", spec := "packFlips", inPlace := ["internal/bytealg.IndexByteString", "internal/bytealg.IndexString", "internal/bytealg.CountString", "internal/bytealg.abigen_runtime_cmpstring", "internal/abi.NoEscape", "internal/bytealg.MakeNoZero", "internal/reflectlite.ValueOf", "(internal/reflectlite.Value).Type", "(internal/reflectlite.Value).IsNil", "internal/reflectlite.TypeOf", "(internal/reflectlite.Value).Elem", "(internal/reflectlite.Value).Set"], unfollowed := true, recurses := true, named := ["tessera/names.basesTable", "unicode/utf8.first", "unicode/utf8.acceptRanges", "internal/bytealg.MaxLen", "errors.errorType", "tessera/sums.nibbles", "tessera/vocab.kinds"], apart := false, laid := [("unicode/utf8.acceptRanges", laid_unicode_utf8_acceptRanges), ("errors.errorType", laid_errors_errorType), ("tessera/sums.nibbles", laid_tessera_sums_nibbles), ("tessera/names.basesTable", laid_tessera_names_basesTable), ("tessera/vocab.kinds", laid_tessera_vocab_kinds), ("unicode/utf8.first", laid_unicode_utf8_first)], narrowed := true }
def PackFlipsUptoSaid : Prop := packFlipsUptoRow.holds Tryz.pinned (OpenSpec.upto packFlipsSpec)

/-- 'tesseralaw19.PackCuts', WHERE WHAT IT READS IS OF BULK AT MOST 1048576: true; the input reads as it did. -/
def packCutsUptoRow : OpenClaim := { program := "ytkienlambankeaagreatdoor", sum := "e8c09accb50c5adb188df7c5d715488ca51b1638204e0905f3892b4259fb600f", func := "tessera/tesseralaw19.PackCuts", spec := "packCuts", inPlace := ["internal/bytealg.IndexByteString", "internal/bytealg.IndexString", "internal/bytealg.CountString", "internal/bytealg.abigen_runtime_cmpstring", "internal/abi.NoEscape", "internal/bytealg.MakeNoZero", "internal/reflectlite.ValueOf", "(internal/reflectlite.Value).Type", "(internal/reflectlite.Value).IsNil", "internal/reflectlite.TypeOf", "(internal/reflectlite.Value).Elem", "(internal/reflectlite.Value).Set"], unfollowed := true, recurses := true, named := ["tessera/names.basesTable", "unicode/utf8.first", "unicode/utf8.acceptRanges", "internal/bytealg.MaxLen", "errors.errorType", "tessera/sums.nibbles", "tessera/vocab.kinds"], apart := false, laid := [("unicode/utf8.acceptRanges", laid_unicode_utf8_acceptRanges), ("errors.errorType", laid_errors_errorType), ("tessera/sums.nibbles", laid_tessera_sums_nibbles), ("tessera/names.basesTable", laid_tessera_names_basesTable), ("tessera/vocab.kinds", laid_tessera_vocab_kinds), ("unicode/utf8.first", laid_unicode_utf8_first)], narrowed := true }
def PackCutsUptoSaid : Prop := packCutsUptoRow.holds Tryz.pinned (OpenSpec.upto packCutsSpec)

/-- 'tesseralaw19.PackBursts', WHERE WHAT IT READS IS OF BULK AT MOST 1048576: true; the input reads as it did. -/
def packBurstsUptoRow : OpenClaim := { program := "ytkienlambankeaagreatdoor", sum := "e8c09accb50c5adb188df7c5d715488ca51b1638204e0905f3892b4259fb600f", func := "tessera/tesseralaw19.PackBursts", spec := "packBursts", inPlace := ["internal/bytealg.IndexByteString", "internal/bytealg.IndexString", "internal/bytealg.CountString", "internal/bytealg.abigen_runtime_cmpstring", "internal/abi.NoEscape", "internal/bytealg.MakeNoZero", "internal/reflectlite.ValueOf", "(internal/reflectlite.Value).Type", "(internal/reflectlite.Value).IsNil", "internal/reflectlite.TypeOf", "(internal/reflectlite.Value).Elem", "(internal/reflectlite.Value).Set"], unfollowed := true, recurses := true, named := ["tessera/names.basesTable", "unicode/utf8.first", "unicode/utf8.acceptRanges", "internal/bytealg.MaxLen", "errors.errorType", "tessera/sums.nibbles", "tessera/vocab.kinds"], apart := false, laid := [("unicode/utf8.acceptRanges", laid_unicode_utf8_acceptRanges), ("errors.errorType", laid_errors_errorType), ("tessera/sums.nibbles", laid_tessera_sums_nibbles), ("tessera/names.basesTable", laid_tessera_names_basesTable), ("tessera/vocab.kinds", laid_tessera_vocab_kinds), ("unicode/utf8.first", laid_unicode_utf8_first)], narrowed := true }
def PackBurstsUptoSaid : Prop := packBurstsUptoRow.holds Tryz.pinned (OpenSpec.upto packBurstsSpec)

end Rows
end Go.Proofs.YtkienlambankeaaGreatDoor
