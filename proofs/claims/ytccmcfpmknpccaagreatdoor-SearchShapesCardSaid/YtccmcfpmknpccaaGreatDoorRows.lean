/-
  NARROWER THAN 'FOR EVERY INPUT', by the rows' own cells (each row's printed sentence says how): SearchAnswers: laid · SearchOpens: laid · SearchTerms: laid · SearchBegins: laid · SearchWild: laid · SearchShapes: laid.
  DERIVED. THE GIVEN ROWS OF THIS SEAT. 6 by the template 'for every input the law returns true; each argument reads behind the call as it read before'; 0 by the template 'total and deterministic' (their statements: YtccmcfpmknpccaaGreatDoorTotals.lean).
  GIVEN WITH THE SEED: the statements are not yours to turn. If you find one false, say at which input.
  Laid BY PROGRAM, IN A SANDBOX (cutbox-rows.mjs): the forced cells as the released guide's own fill.sh prints them over the translation 33d4e974bf7c938c… (all of the seat's roots in one cut). By AI agents, Wed Nov 11 2026. No macro, syntax, notation, axiom, sorry.
-/
import Derived.Test.YtccmcfpmknpccaaGreatDoorChecked
import GoSem.PinnedTables
import GoSem.Claim
import GoSem.ClaimJoined
import GoSem.ClaimMapViews
import Derived.JoinedTies
import Derived.KernelRfl
namespace Go.Proofs.YtccmcfpmknpccaaGreatDoor
/- THE CELL 'sum', in the pinned program and in every row, IS THE sha256 OF THE DUMP (.gsa) THAT YtccmcfpmknpccaaGreatDoorProg.lean LOADS. Nothing in Lean hashes anything: it is a label: what it is worth is what the hold of that sum in a sandbox is worth. -/
noncomputable def Tryz.pinned : Pinned := { name := "ytccmcfpmknpccaagreatdoor", sum := "33d4e974bf7c938cd69db5e08918cb615fac44e6149e820aa21ab4d8029cdd85", checked := Tryz.checked }
namespace Rows
def none {H : Type} : Left H := { results := [], args := [] }

/- WHAT THE LISTED PACKAGE-LEVEL VARIABLES READ AS WHEN THE CALL BEGINS. Each datum BY PROGRAM (the guide's laid-datum.mjs) off the statement by which the dump's own 'gosem.cut.vars' lays the variable. In a bare row this is a premise. The card (YtccmcfpmknpccaaGreatDoorCards.lean) ties it to the program's text. -/
def laid_unicode_utf8_acceptRanges {H : Type} : DataW H := .agg [.agg [.lit (.int .u8 128), .lit (.int .u8 191)], .agg [.lit (.int .u8 160), .lit (.int .u8 191)], .agg [.lit (.int .u8 128), .lit (.int .u8 159)], .agg [.lit (.int .u8 144), .lit (.int .u8 191)], .agg [.lit (.int .u8 128), .lit (.int .u8 143)], .agg [.lit (.int .u8 0), .lit (.int .u8 0)], .agg [.lit (.int .u8 0), .lit (.int .u8 0)], .agg [.lit (.int .u8 0), .lit (.int .u8 0)], .agg [.lit (.int .u8 0), .lit (.int .u8 0)], .agg [.lit (.int .u8 0), .lit (.int .u8 0)], .agg [.lit (.int .u8 0), .lit (.int .u8 0)], .agg [.lit (.int .u8 0), .lit (.int .u8 0)], .agg [.lit (.int .u8 0), .lit (.int .u8 0)], .agg [.lit (.int .u8 0), .lit (.int .u8 0)], .agg [.lit (.int .u8 0), .lit (.int .u8 0)], .agg [.lit (.int .u8 0), .lit (.int .u8 0)]]
def laid_errors_errorType {H : Type} : DataW H := .iface "internal/reflectlite.rtype" (.agg [.ptr (.lit (.string [101, 114, 114, 111, 114]))])
def laid_tessera_sums_nibbles {H : Type} : DataW H := .agg [.lit (.int .u32 0), .lit (.int .u32 498536548), .lit (.int .u32 997073096), .lit (.int .u32 651767980), .lit (.int .u32 1994146192), .lit (.int .u32 1802195444), .lit (.int .u32 1303535960), .lit (.int .u32 1342533948), .lit (.int .u32 3988292384), .lit (.int .u32 4027552580), .lit (.int .u32 3604390888), .lit (.int .u32 3412177804), .lit (.int .u32 2607071920), .lit (.int .u32 2262029012), .lit (.int .u32 2685067896), .lit (.int .u32 3183342108)]
def laid_tessera_names_basesTable {H : Type} : DataW H := .agg [.lit (.int .i32 192), .lit (.int .i32 214), .lit (.int .i32 216), .lit (.int .i32 246), .lit (.int .i32 248), .lit (.int .i32 767), .lit (.int .i32 880), .lit (.int .i32 893), .lit (.int .i32 895), .lit (.int .i32 8191), .lit (.int .i32 8204), .lit (.int .i32 8205), .lit (.int .i32 8304), .lit (.int .i32 8591), .lit (.int .i32 11264), .lit (.int .i32 12271), .lit (.int .i32 12289), .lit (.int .i32 55295), .lit (.int .i32 63744), .lit (.int .i32 64975), .lit (.int .i32 65008), .lit (.int .i32 65533), .lit (.int .i32 65536), .lit (.int .i32 983039)]
def laid_tessera_vocab_kinds {H : Type} : DataW H := .agg [.lit (.int .i64 1), .lit (.int .i64 2), .lit (.int .i64 3)]
/-- One of Go's own tables, pinned by name: the form's constant. -/
def laid_unicode_utf8_first : DataW Unit := Go.Pinned.utf8First

/-- 'tesseralaw20.SearchAnswers': WHATEVER THE INPUT: true; the input reads as it did. -/
def searchAnswersSpec : ChangeSpec := { name := "searchAnswers", fn := fun _ => fun
  | [d1, d2, d3, d4] => { results := [.lit (.bool true)], args := [d1, d2, d3, d4] }
  | _ => none }
def searchAnswersRow : OpenClaim := { program := "ytccmcfpmknpccaagreatdoor", sum := "33d4e974bf7c938cd69db5e08918cb615fac44e6149e820aa21ab4d8029cdd85", func := "tessera/tesseralaw20.SearchAnswers", spec := "searchAnswers", inPlace := ["internal/reflectlite.ValueOf", "(internal/reflectlite.Value).Type", "(internal/reflectlite.Value).IsNil", "internal/reflectlite.TypeOf", "(internal/reflectlite.Value).Elem", "(internal/reflectlite.Value).Set", "internal/bytealg.IndexByteString", "internal/bytealg.IndexString", "internal/bytealg.CountString", "internal/abi.NoEscape", "internal/bytealg.MakeNoZero", "internal/bytealg.abigen_runtime_cmpstring"], unfollowed := true, recurses := true, named := ["tessera/sums.nibbles", "errors.errorType", "tessera/names.basesTable", "unicode/utf8.first", "unicode/utf8.acceptRanges", "internal/bytealg.MaxLen", "tessera/vocab.kinds"], plainKeys := false, apart := false, laid := [("unicode/utf8.acceptRanges", laid_unicode_utf8_acceptRanges), ("errors.errorType", laid_errors_errorType), ("tessera/sums.nibbles", laid_tessera_sums_nibbles), ("tessera/names.basesTable", laid_tessera_names_basesTable), ("tessera/vocab.kinds", laid_tessera_vocab_kinds), ("unicode/utf8.first", laid_unicode_utf8_first)] }
def SearchAnswersSaid : Prop := searchAnswersRow.holds Tryz.pinned (OpenSpec.ofChange searchAnswersSpec)

/-- ITS FALSE NEIGHBOUR: 'it returns false'. Refute it at one input. -/
def searchAnswersWrong : ChangeSpec := { name := "searchAnswers", fn := fun _ => fun
  | [d1, d2, d3, d4] => { results := [.lit (.bool false)], args := [d1, d2, d3, d4] }
  | _ => none }
def SearchAnswersWrongFalsely : Prop := searchAnswersRow.holds Tryz.pinned (OpenSpec.ofChange searchAnswersWrong)

/-- 'tesseralaw20.SearchOpens': WHATEVER THE INPUT: true; the input reads as it did. -/
def searchOpensSpec : ChangeSpec := { name := "searchOpens", fn := fun _ => fun
  | [d1, d2] => { results := [.lit (.bool true)], args := [d1, d2] }
  | _ => none }
def searchOpensRow : OpenClaim := { program := "ytccmcfpmknpccaagreatdoor", sum := "33d4e974bf7c938cd69db5e08918cb615fac44e6149e820aa21ab4d8029cdd85", func := "tessera/tesseralaw20.SearchOpens", spec := "searchOpens", inPlace := ["internal/reflectlite.ValueOf", "(internal/reflectlite.Value).Type", "(internal/reflectlite.Value).IsNil", "internal/reflectlite.TypeOf", "(internal/reflectlite.Value).Elem", "(internal/reflectlite.Value).Set", "internal/bytealg.IndexByteString", "internal/bytealg.IndexString", "internal/bytealg.CountString", "internal/abi.NoEscape", "internal/bytealg.MakeNoZero", "internal/bytealg.abigen_runtime_cmpstring"], unfollowed := true, recurses := true, named := ["tessera/sums.nibbles", "errors.errorType", "tessera/names.basesTable", "unicode/utf8.first", "unicode/utf8.acceptRanges", "internal/bytealg.MaxLen", "tessera/vocab.kinds"], plainKeys := false, apart := false, laid := [("unicode/utf8.acceptRanges", laid_unicode_utf8_acceptRanges), ("errors.errorType", laid_errors_errorType), ("tessera/sums.nibbles", laid_tessera_sums_nibbles), ("tessera/names.basesTable", laid_tessera_names_basesTable), ("tessera/vocab.kinds", laid_tessera_vocab_kinds), ("unicode/utf8.first", laid_unicode_utf8_first)] }
def SearchOpensSaid : Prop := searchOpensRow.holds Tryz.pinned (OpenSpec.ofChange searchOpensSpec)

/-- ITS FALSE NEIGHBOUR: 'it returns false'. Refute it at one input. -/
def searchOpensWrong : ChangeSpec := { name := "searchOpens", fn := fun _ => fun
  | [d1, d2] => { results := [.lit (.bool false)], args := [d1, d2] }
  | _ => none }
def SearchOpensWrongFalsely : Prop := searchOpensRow.holds Tryz.pinned (OpenSpec.ofChange searchOpensWrong)

/-- 'tesseralaw20.SearchTerms': WHATEVER THE INPUT: true; the input reads as it did. -/
def searchTermsSpec : ChangeSpec := { name := "searchTerms", fn := fun _ => fun
  | [d1, d2, d3] => { results := [.lit (.bool true)], args := [d1, d2, d3] }
  | _ => none }
def searchTermsRow : OpenClaim := { program := "ytccmcfpmknpccaagreatdoor", sum := "33d4e974bf7c938cd69db5e08918cb615fac44e6149e820aa21ab4d8029cdd85", func := "tessera/tesseralaw20.SearchTerms", spec := "searchTerms", inPlace := ["internal/bytealg.IndexByteString", "internal/bytealg.IndexString", "internal/bytealg.CountString", "internal/bytealg.abigen_runtime_cmpstring", "internal/abi.NoEscape", "internal/bytealg.MakeNoZero", "internal/reflectlite.ValueOf", "(internal/reflectlite.Value).Type", "(internal/reflectlite.Value).IsNil", "internal/reflectlite.TypeOf", "(internal/reflectlite.Value).Elem", "(internal/reflectlite.Value).Set"], unfollowed := true, recurses := true, named := ["tessera/names.basesTable", "unicode/utf8.first", "unicode/utf8.acceptRanges", "internal/bytealg.MaxLen", "errors.errorType", "tessera/sums.nibbles", "tessera/vocab.kinds"], plainKeys := false, apart := false, laid := [("unicode/utf8.acceptRanges", laid_unicode_utf8_acceptRanges), ("errors.errorType", laid_errors_errorType), ("tessera/sums.nibbles", laid_tessera_sums_nibbles), ("tessera/names.basesTable", laid_tessera_names_basesTable), ("tessera/vocab.kinds", laid_tessera_vocab_kinds), ("unicode/utf8.first", laid_unicode_utf8_first)] }
def SearchTermsSaid : Prop := searchTermsRow.holds Tryz.pinned (OpenSpec.ofChange searchTermsSpec)

/-- ITS FALSE NEIGHBOUR: 'it returns false'. Refute it at one input. -/
def searchTermsWrong : ChangeSpec := { name := "searchTerms", fn := fun _ => fun
  | [d1, d2, d3] => { results := [.lit (.bool false)], args := [d1, d2, d3] }
  | _ => none }
def SearchTermsWrongFalsely : Prop := searchTermsRow.holds Tryz.pinned (OpenSpec.ofChange searchTermsWrong)

/-- 'tesseralaw20.SearchBegins': WHATEVER THE INPUT: true; the input reads as it did. -/
def searchBeginsSpec : ChangeSpec := { name := "searchBegins", fn := fun _ => fun
  | [d1, d2, d3, d4, d5] => { results := [.lit (.bool true)], args := [d1, d2, d3, d4, d5] }
  | _ => none }
def searchBeginsRow : OpenClaim := { program := "ytccmcfpmknpccaagreatdoor", sum := "33d4e974bf7c938cd69db5e08918cb615fac44e6149e820aa21ab4d8029cdd85", func := "tessera/tesseralaw20.SearchBegins", spec := "searchBegins", inPlace := ["internal/bytealg.IndexByteString", "internal/bytealg.IndexString", "internal/bytealg.CountString", "internal/bytealg.abigen_runtime_cmpstring", "internal/abi.NoEscape", "internal/bytealg.MakeNoZero", "internal/reflectlite.ValueOf", "(internal/reflectlite.Value).Type", "(internal/reflectlite.Value).IsNil", "internal/reflectlite.TypeOf", "(internal/reflectlite.Value).Elem", "(internal/reflectlite.Value).Set"], unfollowed := true, recurses := true, named := ["tessera/names.basesTable", "unicode/utf8.first", "unicode/utf8.acceptRanges", "internal/bytealg.MaxLen", "errors.errorType", "tessera/sums.nibbles", "tessera/vocab.kinds"], plainKeys := false, apart := false, laid := [("unicode/utf8.acceptRanges", laid_unicode_utf8_acceptRanges), ("errors.errorType", laid_errors_errorType), ("tessera/sums.nibbles", laid_tessera_sums_nibbles), ("tessera/names.basesTable", laid_tessera_names_basesTable), ("tessera/vocab.kinds", laid_tessera_vocab_kinds), ("unicode/utf8.first", laid_unicode_utf8_first)] }
def SearchBeginsSaid : Prop := searchBeginsRow.holds Tryz.pinned (OpenSpec.ofChange searchBeginsSpec)

/-- ITS FALSE NEIGHBOUR: 'it returns false'. Refute it at one input. -/
def searchBeginsWrong : ChangeSpec := { name := "searchBegins", fn := fun _ => fun
  | [d1, d2, d3, d4, d5] => { results := [.lit (.bool false)], args := [d1, d2, d3, d4, d5] }
  | _ => none }
def SearchBeginsWrongFalsely : Prop := searchBeginsRow.holds Tryz.pinned (OpenSpec.ofChange searchBeginsWrong)

/-- 'tesseralaw20.SearchWild': WHATEVER THE INPUT: true; the input reads as it did. -/
def searchWildSpec : ChangeSpec := { name := "searchWild", fn := fun _ => fun
  | [d1, d2] => { results := [.lit (.bool true)], args := [d1, d2] }
  | _ => none }
def searchWildRow : OpenClaim := { program := "ytccmcfpmknpccaagreatdoor", sum := "33d4e974bf7c938cd69db5e08918cb615fac44e6149e820aa21ab4d8029cdd85", func := "tessera/tesseralaw20.SearchWild", spec := "searchWild", inPlace := ["internal/bytealg.IndexByteString", "internal/bytealg.IndexString", "internal/bytealg.CountString", "internal/bytealg.abigen_runtime_cmpstring", "internal/abi.NoEscape", "internal/bytealg.MakeNoZero", "internal/reflectlite.ValueOf", "(internal/reflectlite.Value).Type", "(internal/reflectlite.Value).IsNil", "internal/reflectlite.TypeOf", "(internal/reflectlite.Value).Elem", "(internal/reflectlite.Value).Set"], unfollowed := true, recurses := true, named := ["tessera/names.basesTable", "unicode/utf8.first", "unicode/utf8.acceptRanges", "internal/bytealg.MaxLen", "errors.errorType", "tessera/sums.nibbles", "tessera/vocab.kinds"], plainKeys := false, apart := false, laid := [("unicode/utf8.acceptRanges", laid_unicode_utf8_acceptRanges), ("errors.errorType", laid_errors_errorType), ("tessera/sums.nibbles", laid_tessera_sums_nibbles), ("tessera/names.basesTable", laid_tessera_names_basesTable), ("tessera/vocab.kinds", laid_tessera_vocab_kinds), ("unicode/utf8.first", laid_unicode_utf8_first)] }
def SearchWildSaid : Prop := searchWildRow.holds Tryz.pinned (OpenSpec.ofChange searchWildSpec)

/-- ITS FALSE NEIGHBOUR: 'it returns false'. Refute it at one input. -/
def searchWildWrong : ChangeSpec := { name := "searchWild", fn := fun _ => fun
  | [d1, d2] => { results := [.lit (.bool false)], args := [d1, d2] }
  | _ => none }
def SearchWildWrongFalsely : Prop := searchWildRow.holds Tryz.pinned (OpenSpec.ofChange searchWildWrong)

/-- 'tesseralaw20.SearchShapes': WHATEVER THE INPUT: true; the input reads as it did. -/
def searchShapesSpec : ChangeSpec := { name := "searchShapes", fn := fun _ => fun
  | [d1, d2] => { results := [.lit (.bool true)], args := [d1, d2] }
  | _ => none }
def searchShapesRow : OpenClaim := { program := "ytccmcfpmknpccaagreatdoor", sum := "33d4e974bf7c938cd69db5e08918cb615fac44e6149e820aa21ab4d8029cdd85", func := "tessera/tesseralaw20.SearchShapes", spec := "searchShapes", inPlace := ["internal/bytealg.IndexByteString", "internal/bytealg.IndexString", "internal/bytealg.CountString", "internal/bytealg.abigen_runtime_cmpstring", "internal/abi.NoEscape", "internal/bytealg.MakeNoZero", "internal/reflectlite.ValueOf", "(internal/reflectlite.Value).Type", "(internal/reflectlite.Value).IsNil", "internal/reflectlite.TypeOf", "(internal/reflectlite.Value).Elem", "(internal/reflectlite.Value).Set"], unfollowed := true, recurses := true, named := ["tessera/names.basesTable", "unicode/utf8.first", "unicode/utf8.acceptRanges", "internal/bytealg.MaxLen", "errors.errorType", "tessera/sums.nibbles", "tessera/vocab.kinds"], plainKeys := false, apart := false, laid := [("unicode/utf8.acceptRanges", laid_unicode_utf8_acceptRanges), ("errors.errorType", laid_errors_errorType), ("tessera/sums.nibbles", laid_tessera_sums_nibbles), ("tessera/names.basesTable", laid_tessera_names_basesTable), ("tessera/vocab.kinds", laid_tessera_vocab_kinds), ("unicode/utf8.first", laid_unicode_utf8_first)] }
def SearchShapesSaid : Prop := searchShapesRow.holds Tryz.pinned (OpenSpec.ofChange searchShapesSpec)

/-- ITS FALSE NEIGHBOUR: 'it returns false'. Refute it at one input. -/
def searchShapesWrong : ChangeSpec := { name := "searchShapes", fn := fun _ => fun
  | [d1, d2] => { results := [.lit (.bool false)], args := [d1, d2] }
  | _ => none }
def SearchShapesWrongFalsely : Prop := searchShapesRow.holds Tryz.pinned (OpenSpec.ofChange searchShapesWrong)

/- THE SECOND FORM. 'bulk': how many values and letters a reading holds, each counted each time it is reached (what is shared counts as often as it is met; a slice's spare places count too). A statement '..UptoSaid' is the law's where the arguments, and the package variables that the reading takes, are together of bulk at most 1048576: NARROWER than '..Said'. Prove '..Said' where nothing that the law and all that it calls make is longer than what came in: it says more and counts as full. Else prove '..UptoSaid'. A law counts once. -/
mutual
def uptoBulk {H : Type} : DataW H → Nat
  | .lit (.string bytes) => bytes.length + 1
  | .lit _ => 1
  | .nil => 1
  | .ptr d => uptoBulk d + 1
  | .slice elems spare => uptoBulkAll elems + uptoBulkAll spare + 1
  | .agg parts => uptoBulkAll parts + 1
  | .iface _ d => uptoBulk d + 1
  | .map entries => uptoBulkEntries entries + 1
  | .held _ => 1
def uptoBulkAll {H : Type} : List (DataW H) → Nat
  | [] => 0
  | d :: r => uptoBulk d + uptoBulkAll r
def uptoBulkEntries {H : Type} : List (Lit × DataW H) → Nat
  | [] => 0
  | x :: r => uptoBulkEntry x + uptoBulkEntries r
def uptoBulkEntry {H : Type} : Lit × DataW H → Nat
  | (.string bytes, d) => bytes.length + uptoBulk d + 1
  | (_, d) => uptoBulk d + 1
 end
def uptoSmall : (H : Type) → List (DataW H) → Bool := fun _ ds => decide (uptoBulkAll ds ≤ 1048576)
def OpenSpec.upto (s : _root_.Go.ChangeSpec) : _root_.Go.OpenSpec := { _root_.Go.OpenSpec.ofChange s with cond := some uptoSmall }

/-- 'tesseralaw20.SearchAnswers', WHERE WHAT IT READS IS OF BULK AT MOST 1048576: true; the input reads as it did. -/
def searchAnswersUptoRow : OpenClaim := { program := "ytccmcfpmknpccaagreatdoor", sum := "33d4e974bf7c938cd69db5e08918cb615fac44e6149e820aa21ab4d8029cdd85", func := "tessera/tesseralaw20.SearchAnswers", spec := "searchAnswers", inPlace := ["internal/reflectlite.ValueOf", "(internal/reflectlite.Value).Type", "(internal/reflectlite.Value).IsNil", "internal/reflectlite.TypeOf", "(internal/reflectlite.Value).Elem", "(internal/reflectlite.Value).Set", "internal/bytealg.IndexByteString", "internal/bytealg.IndexString", "internal/bytealg.CountString", "internal/abi.NoEscape", "internal/bytealg.MakeNoZero", "internal/bytealg.abigen_runtime_cmpstring"], unfollowed := true, recurses := true, named := ["tessera/sums.nibbles", "errors.errorType", "tessera/names.basesTable", "unicode/utf8.first", "unicode/utf8.acceptRanges", "internal/bytealg.MaxLen", "tessera/vocab.kinds"], plainKeys := false, apart := false, laid := [("unicode/utf8.acceptRanges", laid_unicode_utf8_acceptRanges), ("errors.errorType", laid_errors_errorType), ("tessera/sums.nibbles", laid_tessera_sums_nibbles), ("tessera/names.basesTable", laid_tessera_names_basesTable), ("tessera/vocab.kinds", laid_tessera_vocab_kinds), ("unicode/utf8.first", laid_unicode_utf8_first)], narrowed := true }
def SearchAnswersUptoSaid : Prop := searchAnswersUptoRow.holds Tryz.pinned (OpenSpec.upto searchAnswersSpec)

/-- 'tesseralaw20.SearchOpens', WHERE WHAT IT READS IS OF BULK AT MOST 1048576: true; the input reads as it did. -/
def searchOpensUptoRow : OpenClaim := { program := "ytccmcfpmknpccaagreatdoor", sum := "33d4e974bf7c938cd69db5e08918cb615fac44e6149e820aa21ab4d8029cdd85", func := "tessera/tesseralaw20.SearchOpens", spec := "searchOpens", inPlace := ["internal/reflectlite.ValueOf", "(internal/reflectlite.Value).Type", "(internal/reflectlite.Value).IsNil", "internal/reflectlite.TypeOf", "(internal/reflectlite.Value).Elem", "(internal/reflectlite.Value).Set", "internal/bytealg.IndexByteString", "internal/bytealg.IndexString", "internal/bytealg.CountString", "internal/abi.NoEscape", "internal/bytealg.MakeNoZero", "internal/bytealg.abigen_runtime_cmpstring"], unfollowed := true, recurses := true, named := ["tessera/sums.nibbles", "errors.errorType", "tessera/names.basesTable", "unicode/utf8.first", "unicode/utf8.acceptRanges", "internal/bytealg.MaxLen", "tessera/vocab.kinds"], plainKeys := false, apart := false, laid := [("unicode/utf8.acceptRanges", laid_unicode_utf8_acceptRanges), ("errors.errorType", laid_errors_errorType), ("tessera/sums.nibbles", laid_tessera_sums_nibbles), ("tessera/names.basesTable", laid_tessera_names_basesTable), ("tessera/vocab.kinds", laid_tessera_vocab_kinds), ("unicode/utf8.first", laid_unicode_utf8_first)], narrowed := true }
def SearchOpensUptoSaid : Prop := searchOpensUptoRow.holds Tryz.pinned (OpenSpec.upto searchOpensSpec)

/-- 'tesseralaw20.SearchTerms', WHERE WHAT IT READS IS OF BULK AT MOST 1048576: true; the input reads as it did. -/
def searchTermsUptoRow : OpenClaim := { program := "ytccmcfpmknpccaagreatdoor", sum := "33d4e974bf7c938cd69db5e08918cb615fac44e6149e820aa21ab4d8029cdd85", func := "tessera/tesseralaw20.SearchTerms", spec := "searchTerms", inPlace := ["internal/bytealg.IndexByteString", "internal/bytealg.IndexString", "internal/bytealg.CountString", "internal/bytealg.abigen_runtime_cmpstring", "internal/abi.NoEscape", "internal/bytealg.MakeNoZero", "internal/reflectlite.ValueOf", "(internal/reflectlite.Value).Type", "(internal/reflectlite.Value).IsNil", "internal/reflectlite.TypeOf", "(internal/reflectlite.Value).Elem", "(internal/reflectlite.Value).Set"], unfollowed := true, recurses := true, named := ["tessera/names.basesTable", "unicode/utf8.first", "unicode/utf8.acceptRanges", "internal/bytealg.MaxLen", "errors.errorType", "tessera/sums.nibbles", "tessera/vocab.kinds"], plainKeys := false, apart := false, laid := [("unicode/utf8.acceptRanges", laid_unicode_utf8_acceptRanges), ("errors.errorType", laid_errors_errorType), ("tessera/sums.nibbles", laid_tessera_sums_nibbles), ("tessera/names.basesTable", laid_tessera_names_basesTable), ("tessera/vocab.kinds", laid_tessera_vocab_kinds), ("unicode/utf8.first", laid_unicode_utf8_first)], narrowed := true }
def SearchTermsUptoSaid : Prop := searchTermsUptoRow.holds Tryz.pinned (OpenSpec.upto searchTermsSpec)

/-- 'tesseralaw20.SearchBegins', WHERE WHAT IT READS IS OF BULK AT MOST 1048576: true; the input reads as it did. -/
def searchBeginsUptoRow : OpenClaim := { program := "ytccmcfpmknpccaagreatdoor", sum := "33d4e974bf7c938cd69db5e08918cb615fac44e6149e820aa21ab4d8029cdd85", func := "tessera/tesseralaw20.SearchBegins", spec := "searchBegins", inPlace := ["internal/bytealg.IndexByteString", "internal/bytealg.IndexString", "internal/bytealg.CountString", "internal/bytealg.abigen_runtime_cmpstring", "internal/abi.NoEscape", "internal/bytealg.MakeNoZero", "internal/reflectlite.ValueOf", "(internal/reflectlite.Value).Type", "(internal/reflectlite.Value).IsNil", "internal/reflectlite.TypeOf", "(internal/reflectlite.Value).Elem", "(internal/reflectlite.Value).Set"], unfollowed := true, recurses := true, named := ["tessera/names.basesTable", "unicode/utf8.first", "unicode/utf8.acceptRanges", "internal/bytealg.MaxLen", "errors.errorType", "tessera/sums.nibbles", "tessera/vocab.kinds"], plainKeys := false, apart := false, laid := [("unicode/utf8.acceptRanges", laid_unicode_utf8_acceptRanges), ("errors.errorType", laid_errors_errorType), ("tessera/sums.nibbles", laid_tessera_sums_nibbles), ("tessera/names.basesTable", laid_tessera_names_basesTable), ("tessera/vocab.kinds", laid_tessera_vocab_kinds), ("unicode/utf8.first", laid_unicode_utf8_first)], narrowed := true }
def SearchBeginsUptoSaid : Prop := searchBeginsUptoRow.holds Tryz.pinned (OpenSpec.upto searchBeginsSpec)

/-- 'tesseralaw20.SearchWild', WHERE WHAT IT READS IS OF BULK AT MOST 1048576: true; the input reads as it did. -/
def searchWildUptoRow : OpenClaim := { program := "ytccmcfpmknpccaagreatdoor", sum := "33d4e974bf7c938cd69db5e08918cb615fac44e6149e820aa21ab4d8029cdd85", func := "tessera/tesseralaw20.SearchWild", spec := "searchWild", inPlace := ["internal/bytealg.IndexByteString", "internal/bytealg.IndexString", "internal/bytealg.CountString", "internal/bytealg.abigen_runtime_cmpstring", "internal/abi.NoEscape", "internal/bytealg.MakeNoZero", "internal/reflectlite.ValueOf", "(internal/reflectlite.Value).Type", "(internal/reflectlite.Value).IsNil", "internal/reflectlite.TypeOf", "(internal/reflectlite.Value).Elem", "(internal/reflectlite.Value).Set"], unfollowed := true, recurses := true, named := ["tessera/names.basesTable", "unicode/utf8.first", "unicode/utf8.acceptRanges", "internal/bytealg.MaxLen", "errors.errorType", "tessera/sums.nibbles", "tessera/vocab.kinds"], plainKeys := false, apart := false, laid := [("unicode/utf8.acceptRanges", laid_unicode_utf8_acceptRanges), ("errors.errorType", laid_errors_errorType), ("tessera/sums.nibbles", laid_tessera_sums_nibbles), ("tessera/names.basesTable", laid_tessera_names_basesTable), ("tessera/vocab.kinds", laid_tessera_vocab_kinds), ("unicode/utf8.first", laid_unicode_utf8_first)], narrowed := true }
def SearchWildUptoSaid : Prop := searchWildUptoRow.holds Tryz.pinned (OpenSpec.upto searchWildSpec)

/-- 'tesseralaw20.SearchShapes', WHERE WHAT IT READS IS OF BULK AT MOST 1048576: true; the input reads as it did. -/
def searchShapesUptoRow : OpenClaim := { program := "ytccmcfpmknpccaagreatdoor", sum := "33d4e974bf7c938cd69db5e08918cb615fac44e6149e820aa21ab4d8029cdd85", func := "tessera/tesseralaw20.SearchShapes", spec := "searchShapes", inPlace := ["internal/bytealg.IndexByteString", "internal/bytealg.IndexString", "internal/bytealg.CountString", "internal/bytealg.abigen_runtime_cmpstring", "internal/abi.NoEscape", "internal/bytealg.MakeNoZero", "internal/reflectlite.ValueOf", "(internal/reflectlite.Value).Type", "(internal/reflectlite.Value).IsNil", "internal/reflectlite.TypeOf", "(internal/reflectlite.Value).Elem", "(internal/reflectlite.Value).Set"], unfollowed := true, recurses := true, named := ["tessera/names.basesTable", "unicode/utf8.first", "unicode/utf8.acceptRanges", "internal/bytealg.MaxLen", "errors.errorType", "tessera/sums.nibbles", "tessera/vocab.kinds"], plainKeys := false, apart := false, laid := [("unicode/utf8.acceptRanges", laid_unicode_utf8_acceptRanges), ("errors.errorType", laid_errors_errorType), ("tessera/sums.nibbles", laid_tessera_sums_nibbles), ("tessera/names.basesTable", laid_tessera_names_basesTable), ("tessera/vocab.kinds", laid_tessera_vocab_kinds), ("unicode/utf8.first", laid_unicode_utf8_first)], narrowed := true }
def SearchShapesUptoSaid : Prop := searchShapesUptoRow.holds Tryz.pinned (OpenSpec.upto searchShapesSpec)

end Rows
end Go.Proofs.YtccmcfpmknpccaaGreatDoor
