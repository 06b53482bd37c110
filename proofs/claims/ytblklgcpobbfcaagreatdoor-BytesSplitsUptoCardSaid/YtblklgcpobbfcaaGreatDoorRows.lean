/-
  NARROWER THAN 'FOR EVERY INPUT', by the rows' own cells (each row's printed sentence says how): BytesOperations: laid · BytesPuts: laid · BytesSplits: laid · BytesOffsets: laid.
  DERIVED. THE GIVEN ROWS OF THIS SEAT. 4 by the template 'for every input the law returns true; each argument reads behind the call as it read before'; 0 by the template 'total and deterministic' (their statements: YtblklgcpobbfcaaGreatDoorTotals.lean).
  GIVEN WITH THE SEED: the statements are not yours to turn. If you find one false, say at which input.
  Laid BY PROGRAM, IN A SANDBOX (cutbox-rows.mjs): the forced cells as the released guide's own fill.sh prints them over the translation c7135a9846778764… (all of the seat's roots in one cut). By AI agents, Wed Nov 11 2026. No macro, syntax, notation, axiom, sorry.
-/
import Derived.Test.YtblklgcpobbfcaaGreatDoorChecked
import GoSem.PinnedTables
import GoSem.Claim
import GoSem.ClaimJoined
import GoSem.ClaimMapViews
import Derived.JoinedTies
import Derived.KernelRfl
namespace Go.Proofs.YtblklgcpobbfcaaGreatDoor
/- THE CELL 'sum', in the pinned program and in every row, IS THE sha256 OF THE DUMP (.gsa) THAT YtblklgcpobbfcaaGreatDoorProg.lean LOADS. Nothing in Lean hashes anything: it is a label: what it is worth is what the hold of that sum in a sandbox is worth. -/
noncomputable def Tryz.pinned : Pinned := { name := "ytblklgcpobbfcaagreatdoor", sum := "c7135a9846778764ec837261b04c2747e93276540bb1d692cd387fa0f482da48", checked := Tryz.checked }
namespace Rows
def none {H : Type} : Left H := { results := [], args := [] }

/- WHAT THE LISTED PACKAGE-LEVEL VARIABLES READ AS WHEN THE CALL BEGINS. Each datum BY PROGRAM (the guide's laid-datum.mjs) off the statement by which the dump's own 'gosem.cut.vars' lays the variable. In a bare row this is a premise. The card (YtblklgcpobbfcaaGreatDoorCards.lean) ties it to the program's text. -/
def laid_math_bits_deBruijn32tab {H : Type} : DataW H := .agg [.lit (.int .u8 0), .lit (.int .u8 1), .lit (.int .u8 28), .lit (.int .u8 2), .lit (.int .u8 29), .lit (.int .u8 14), .lit (.int .u8 24), .lit (.int .u8 3), .lit (.int .u8 30), .lit (.int .u8 22), .lit (.int .u8 20), .lit (.int .u8 15), .lit (.int .u8 25), .lit (.int .u8 17), .lit (.int .u8 4), .lit (.int .u8 8), .lit (.int .u8 31), .lit (.int .u8 27), .lit (.int .u8 13), .lit (.int .u8 23), .lit (.int .u8 21), .lit (.int .u8 19), .lit (.int .u8 16), .lit (.int .u8 7), .lit (.int .u8 26), .lit (.int .u8 12), .lit (.int .u8 18), .lit (.int .u8 6), .lit (.int .u8 11), .lit (.int .u8 5), .lit (.int .u8 10), .lit (.int .u8 9)]
def laid_math_bits_deBruijn64tab {H : Type} : DataW H := .agg [.lit (.int .u8 0), .lit (.int .u8 1), .lit (.int .u8 56), .lit (.int .u8 2), .lit (.int .u8 57), .lit (.int .u8 49), .lit (.int .u8 28), .lit (.int .u8 3), .lit (.int .u8 61), .lit (.int .u8 58), .lit (.int .u8 42), .lit (.int .u8 50), .lit (.int .u8 38), .lit (.int .u8 29), .lit (.int .u8 17), .lit (.int .u8 4), .lit (.int .u8 62), .lit (.int .u8 47), .lit (.int .u8 59), .lit (.int .u8 36), .lit (.int .u8 45), .lit (.int .u8 43), .lit (.int .u8 51), .lit (.int .u8 22), .lit (.int .u8 53), .lit (.int .u8 39), .lit (.int .u8 33), .lit (.int .u8 30), .lit (.int .u8 24), .lit (.int .u8 18), .lit (.int .u8 12), .lit (.int .u8 5), .lit (.int .u8 63), .lit (.int .u8 55), .lit (.int .u8 48), .lit (.int .u8 27), .lit (.int .u8 60), .lit (.int .u8 41), .lit (.int .u8 37), .lit (.int .u8 16), .lit (.int .u8 46), .lit (.int .u8 35), .lit (.int .u8 44), .lit (.int .u8 21), .lit (.int .u8 52), .lit (.int .u8 32), .lit (.int .u8 23), .lit (.int .u8 11), .lit (.int .u8 54), .lit (.int .u8 26), .lit (.int .u8 40), .lit (.int .u8 15), .lit (.int .u8 34), .lit (.int .u8 20), .lit (.int .u8 31), .lit (.int .u8 10), .lit (.int .u8 25), .lit (.int .u8 14), .lit (.int .u8 19), .lit (.int .u8 9), .lit (.int .u8 13), .lit (.int .u8 8), .lit (.int .u8 7), .lit (.int .u8 6)]
def laid_internal_strconv_uint64pow10 {H : Type} : DataW H := .agg [.lit (.int .u64 1), .lit (.int .u64 10), .lit (.int .u64 100), .lit (.int .u64 1000), .lit (.int .u64 10000), .lit (.int .u64 100000), .lit (.int .u64 1000000), .lit (.int .u64 10000000), .lit (.int .u64 100000000), .lit (.int .u64 1000000000), .lit (.int .u64 10000000000), .lit (.int .u64 100000000000), .lit (.int .u64 1000000000000), .lit (.int .u64 10000000000000), .lit (.int .u64 100000000000000), .lit (.int .u64 1000000000000000), .lit (.int .u64 10000000000000000), .lit (.int .u64 100000000000000000), .lit (.int .u64 1000000000000000000), .lit (.int .u64 10000000000000000000)]
def laid_unicode_utf8_acceptRanges {H : Type} : DataW H := .agg [.agg [.lit (.int .u8 128), .lit (.int .u8 191)], .agg [.lit (.int .u8 160), .lit (.int .u8 191)], .agg [.lit (.int .u8 128), .lit (.int .u8 159)], .agg [.lit (.int .u8 144), .lit (.int .u8 191)], .agg [.lit (.int .u8 128), .lit (.int .u8 143)], .agg [.lit (.int .u8 0), .lit (.int .u8 0)], .agg [.lit (.int .u8 0), .lit (.int .u8 0)], .agg [.lit (.int .u8 0), .lit (.int .u8 0)], .agg [.lit (.int .u8 0), .lit (.int .u8 0)], .agg [.lit (.int .u8 0), .lit (.int .u8 0)], .agg [.lit (.int .u8 0), .lit (.int .u8 0)], .agg [.lit (.int .u8 0), .lit (.int .u8 0)], .agg [.lit (.int .u8 0), .lit (.int .u8 0)], .agg [.lit (.int .u8 0), .lit (.int .u8 0)], .agg [.lit (.int .u8 0), .lit (.int .u8 0)], .agg [.lit (.int .u8 0), .lit (.int .u8 0)]]
def laid_strconv_ErrRange {H : Type} : DataW H := .iface "*errors.errorString" (.ptr (.agg [.lit (.string [118, 97, 108, 117, 101, 32, 111, 117, 116, 32, 111, 102, 32, 114, 97, 110, 103, 101])]))
def laid_strconv_ErrSyntax {H : Type} : DataW H := .iface "*errors.errorString" (.ptr (.agg [.lit (.string [105, 110, 118, 97, 108, 105, 100, 32, 115, 121, 110, 116, 97, 120])]))
def laid_soroban_scanspec_rows {H : Type} : DataW H := .map [(.int .u8 65, .lit (.int .i64 2)), (.int .u8 69, .lit (.int .i64 2)), (.int .u8 70, .lit (.int .i64 2)), (.int .u8 71, .lit (.int .i64 2)), (.int .u8 88, .lit (.int .i64 1)), (.int .u8 91, .lit (.int .i64 3)), (.int .u8 97, .lit (.int .i64 2)), (.int .u8 98, .lit (.int .i64 1)), (.int .u8 99, .lit (.int .i64 3)), (.int .u8 100, .lit (.int .i64 1)), (.int .u8 101, .lit (.int .i64 2)), (.int .u8 102, .lit (.int .i64 2)), (.int .u8 103, .lit (.int .i64 2)), (.int .u8 105, .lit (.int .i64 1)), (.int .u8 110, .lit (.int .i64 5)), (.int .u8 111, .lit (.int .i64 1)), (.int .u8 112, .lit (.int .i64 4)), (.int .u8 115, .lit (.int .i64 3)), (.int .u8 117, .lit (.int .i64 1)), (.int .u8 120, .lit (.int .i64 1))]
def laid_soroban_args_lengths {H : Type} : DataW H := .agg [.lit (.int .i64 32), .lit (.int .i64 8), .lit (.int .i64 16), .lit (.int .i64 64), .lit (.int .i64 64), .lit (.int .i64 64), .lit (.int .i64 64), .lit (.int .i64 64)]
def laid_soroban_bytes_operations {H : Type} : DataW H := .agg [.agg [.lit (.string [101, 110, 100]), .lit (.string [])], .agg [.lit (.string [108, 105, 116]), .lit (.string [114, 107])], .agg [.lit (.string [110, 117, 109]), .lit (.string [114, 110])], .agg [.lit (.string [99, 111, 112, 121]), .lit (.string [114, 114])], .agg [.lit (.string [115, 97, 118, 101]), .lit (.string [108, 114])], .agg [.lit (.string [108, 111, 97, 100]), .lit (.string [114, 108])], .agg [.lit (.string [102, 105, 101, 108, 100]), .lit (.string [114, 97])], .agg [.lit (.string [112, 114, 101, 99]), .lit (.string [114, 97])], .agg [.lit (.string [115, 105, 103, 110]), .lit (.string [114, 102, 97])], .agg [.lit (.string [112, 114, 101, 102, 105, 120]), .lit (.string [114, 102, 97])], .agg [.lit (.string [100, 105, 103, 105, 116, 115]), .lit (.string [114, 114, 102, 97])], .agg [.lit (.string [98, 121, 116, 101, 115]), .lit (.string [114, 97, 114])], .agg [.lit (.string [119, 105, 100, 101]), .lit (.string [114, 97, 114])], .agg [.lit (.string [99, 104, 97, 114]), .lit (.string [114, 97])], .agg [.lit (.string [119, 99, 104, 97, 114]), .lit (.string [114, 97])], .agg [.lit (.string [112, 111, 105, 110, 116]), .lit (.string [114, 97])], .agg [.lit (.string [102, 105, 110, 105, 116, 101]), .lit (.string [114, 97])], .agg [.lit (.string [98, 97, 114, 101]), .lit (.string [114, 114])], .agg [.lit (.string [112, 97, 100]), .lit (.string [114, 114, 114, 114, 114, 114, 109])], .agg [.lit (.string [99, 97, 116]), .lit (.string [114, 114, 114])], .agg [.lit (.string [101, 109, 105, 116]), .lit (.string [114])], .agg [.lit (.string [115, 116, 111, 114, 101]), .lit (.string [97])], .agg [.lit (.string [106, 117, 109, 112]), .lit (.string [100])], .agg [.lit (.string [122, 101, 114, 111]), .lit (.string [114, 100])], .agg [.lit (.string [115, 107, 105, 112]), .lit (.string [])], .agg [.lit (.string [109, 97, 116, 99, 104]), .lit (.string [107])], .agg [.lit (.string [115, 99, 97, 110]), .lit (.string [103])]]
/-- One of Go's own tables, pinned by name: the form's constant. -/
def laid_unicode_utf8_first : DataW Unit := Go.Pinned.utf8First

/-- 'sorobanlaw29.BytesOperations': WHATEVER THE INPUT: true; the input reads as it did. -/
def bytesOperationsSpec : ChangeSpec := { name := "bytesOperations", fn := fun _ => fun
  | [d1, d2] => { results := [.lit (.bool true)], args := [d1, d2] }
  | _ => none }
def bytesOperationsRow : OpenClaim := { program := "ytblklgcpobbfcaagreatdoor", sum := "c7135a9846778764ec837261b04c2747e93276540bb1d692cd387fa0f482da48", func := "soroban/sorobanlaw29.BytesOperations", spec := "bytesOperations", inPlace := ["internal/bytealg.IndexByteString", "internal/bytealg.IndexString", "internal/abi.NoEscape", "internal/bytealg.MakeNoZero", "internal/bytealg.CountString"], unfollowed := true, recurses := true, named := ["soroban/bytes.operations", "soroban/args.lengths", "soroban/scanspec.rows", "internal/strconv.uint64pow10", "math/bits.deBruijn32tab", "math/bits.deBruijn64tab", "internal/bytealg.MaxLen", "unicode/utf8.first", "unicode/utf8.acceptRanges", "strconv.ErrSyntax", "strconv.ErrRange"], apart := false, laid := [("math/bits.deBruijn32tab", laid_math_bits_deBruijn32tab), ("math/bits.deBruijn64tab", laid_math_bits_deBruijn64tab), ("internal/strconv.uint64pow10", laid_internal_strconv_uint64pow10), ("unicode/utf8.acceptRanges", laid_unicode_utf8_acceptRanges), ("strconv.ErrRange", laid_strconv_ErrRange), ("strconv.ErrSyntax", laid_strconv_ErrSyntax), ("soroban/scanspec.rows", laid_soroban_scanspec_rows), ("soroban/args.lengths", laid_soroban_args_lengths), ("soroban/bytes.operations", laid_soroban_bytes_operations), ("unicode/utf8.first", laid_unicode_utf8_first)] }
def BytesOperationsSaid : Prop := bytesOperationsRow.holds Tryz.pinned (OpenSpec.ofChange bytesOperationsSpec)

/-- ITS FALSE NEIGHBOUR: 'it returns false'. Refute it at one input. -/
def bytesOperationsWrong : ChangeSpec := { name := "bytesOperations", fn := fun _ => fun
  | [d1, d2] => { results := [.lit (.bool false)], args := [d1, d2] }
  | _ => none }
def BytesOperationsWrongFalsely : Prop := bytesOperationsRow.holds Tryz.pinned (OpenSpec.ofChange bytesOperationsWrong)

/-- 'sorobanlaw29.BytesPuts': WHATEVER THE INPUT: true; the input reads as it did. -/
def bytesPutsSpec : ChangeSpec := { name := "bytesPuts", fn := fun _ => fun
  | [d1, d2] => { results := [.lit (.bool true)], args := [d1, d2] }
  | _ => none }
def bytesPutsRow : OpenClaim := { program := "ytblklgcpobbfcaagreatdoor", sum := "c7135a9846778764ec837261b04c2747e93276540bb1d692cd387fa0f482da48", func := "soroban/sorobanlaw29.BytesPuts", spec := "bytesPuts", inPlace := ["internal/bytealg.IndexByteString", "internal/bytealg.IndexString", "internal/abi.NoEscape", "internal/bytealg.MakeNoZero", "internal/bytealg.CountString"], unfollowed := true, recurses := true, named := ["soroban/bytes.operations", "soroban/args.lengths", "soroban/scanspec.rows", "internal/strconv.uint64pow10", "math/bits.deBruijn32tab", "math/bits.deBruijn64tab", "internal/bytealg.MaxLen", "unicode/utf8.first", "unicode/utf8.acceptRanges", "strconv.ErrSyntax", "strconv.ErrRange"], apart := false, laid := [("math/bits.deBruijn32tab", laid_math_bits_deBruijn32tab), ("math/bits.deBruijn64tab", laid_math_bits_deBruijn64tab), ("internal/strconv.uint64pow10", laid_internal_strconv_uint64pow10), ("unicode/utf8.acceptRanges", laid_unicode_utf8_acceptRanges), ("strconv.ErrRange", laid_strconv_ErrRange), ("strconv.ErrSyntax", laid_strconv_ErrSyntax), ("soroban/scanspec.rows", laid_soroban_scanspec_rows), ("soroban/args.lengths", laid_soroban_args_lengths), ("soroban/bytes.operations", laid_soroban_bytes_operations), ("unicode/utf8.first", laid_unicode_utf8_first)] }
def BytesPutsSaid : Prop := bytesPutsRow.holds Tryz.pinned (OpenSpec.ofChange bytesPutsSpec)

/-- ITS FALSE NEIGHBOUR: 'it returns false'. Refute it at one input. -/
def bytesPutsWrong : ChangeSpec := { name := "bytesPuts", fn := fun _ => fun
  | [d1, d2] => { results := [.lit (.bool false)], args := [d1, d2] }
  | _ => none }
def BytesPutsWrongFalsely : Prop := bytesPutsRow.holds Tryz.pinned (OpenSpec.ofChange bytesPutsWrong)

/-- 'sorobanlaw29.BytesSplits': WHATEVER THE INPUT: true; the input reads as it did. -/
def bytesSplitsSpec : ChangeSpec := { name := "bytesSplits", fn := fun _ => fun
  | [d1, d2] => { results := [.lit (.bool true)], args := [d1, d2] }
  | _ => none }
def bytesSplitsRow : OpenClaim := { program := "ytblklgcpobbfcaagreatdoor", sum := "c7135a9846778764ec837261b04c2747e93276540bb1d692cd387fa0f482da48", func := "soroban/sorobanlaw29.BytesSplits", spec := "bytesSplits", inPlace := ["internal/bytealg.IndexByteString", "internal/bytealg.IndexString", "internal/abi.NoEscape", "internal/bytealg.MakeNoZero", "internal/bytealg.CountString"], unfollowed := true, recurses := true, named := ["soroban/bytes.operations", "soroban/args.lengths", "soroban/scanspec.rows", "internal/strconv.uint64pow10", "math/bits.deBruijn32tab", "math/bits.deBruijn64tab", "internal/bytealg.MaxLen", "unicode/utf8.first", "unicode/utf8.acceptRanges", "strconv.ErrSyntax", "strconv.ErrRange"], apart := false, laid := [("math/bits.deBruijn32tab", laid_math_bits_deBruijn32tab), ("math/bits.deBruijn64tab", laid_math_bits_deBruijn64tab), ("internal/strconv.uint64pow10", laid_internal_strconv_uint64pow10), ("unicode/utf8.acceptRanges", laid_unicode_utf8_acceptRanges), ("strconv.ErrRange", laid_strconv_ErrRange), ("strconv.ErrSyntax", laid_strconv_ErrSyntax), ("soroban/scanspec.rows", laid_soroban_scanspec_rows), ("soroban/args.lengths", laid_soroban_args_lengths), ("soroban/bytes.operations", laid_soroban_bytes_operations), ("unicode/utf8.first", laid_unicode_utf8_first)] }
def BytesSplitsSaid : Prop := bytesSplitsRow.holds Tryz.pinned (OpenSpec.ofChange bytesSplitsSpec)

/-- ITS FALSE NEIGHBOUR: 'it returns false'. Refute it at one input. -/
def bytesSplitsWrong : ChangeSpec := { name := "bytesSplits", fn := fun _ => fun
  | [d1, d2] => { results := [.lit (.bool false)], args := [d1, d2] }
  | _ => none }
def BytesSplitsWrongFalsely : Prop := bytesSplitsRow.holds Tryz.pinned (OpenSpec.ofChange bytesSplitsWrong)

/-- 'sorobanlaw29.BytesOffsets': WHATEVER THE INPUT: true; the input reads as it did. -/
def bytesOffsetsSpec : ChangeSpec := { name := "bytesOffsets", fn := fun _ => fun
  | [d1, d2] => { results := [.lit (.bool true)], args := [d1, d2] }
  | _ => none }
def bytesOffsetsRow : OpenClaim := { program := "ytblklgcpobbfcaagreatdoor", sum := "c7135a9846778764ec837261b04c2747e93276540bb1d692cd387fa0f482da48", func := "soroban/sorobanlaw29.BytesOffsets", spec := "bytesOffsets", inPlace := ["internal/bytealg.IndexByteString", "internal/bytealg.IndexString", "internal/abi.NoEscape", "internal/bytealg.MakeNoZero", "internal/bytealg.CountString"], unfollowed := true, recurses := true, named := ["soroban/bytes.operations", "soroban/args.lengths", "soroban/scanspec.rows", "internal/strconv.uint64pow10", "math/bits.deBruijn32tab", "math/bits.deBruijn64tab", "internal/bytealg.MaxLen", "unicode/utf8.first", "unicode/utf8.acceptRanges", "strconv.ErrSyntax", "strconv.ErrRange"], apart := false, laid := [("math/bits.deBruijn32tab", laid_math_bits_deBruijn32tab), ("math/bits.deBruijn64tab", laid_math_bits_deBruijn64tab), ("internal/strconv.uint64pow10", laid_internal_strconv_uint64pow10), ("unicode/utf8.acceptRanges", laid_unicode_utf8_acceptRanges), ("strconv.ErrRange", laid_strconv_ErrRange), ("strconv.ErrSyntax", laid_strconv_ErrSyntax), ("soroban/scanspec.rows", laid_soroban_scanspec_rows), ("soroban/args.lengths", laid_soroban_args_lengths), ("soroban/bytes.operations", laid_soroban_bytes_operations), ("unicode/utf8.first", laid_unicode_utf8_first)] }
def BytesOffsetsSaid : Prop := bytesOffsetsRow.holds Tryz.pinned (OpenSpec.ofChange bytesOffsetsSpec)

/-- ITS FALSE NEIGHBOUR: 'it returns false'. Refute it at one input. -/
def bytesOffsetsWrong : ChangeSpec := { name := "bytesOffsets", fn := fun _ => fun
  | [d1, d2] => { results := [.lit (.bool false)], args := [d1, d2] }
  | _ => none }
def BytesOffsetsWrongFalsely : Prop := bytesOffsetsRow.holds Tryz.pinned (OpenSpec.ofChange bytesOffsetsWrong)

/- THE SECOND FORM. 'bulk': how many values and letters a reading holds, each counted each time it is reached (what is shared counts as often as it is met; a slice's spare places count too). A statement '..UptoSaid' is the law's where the arguments, and the package variables that the reading takes, are together of bulk at most 1048576: NARROWER than '..Said'. Prove '..Said' where nothing that the law and all that it calls make is longer than what came in: it says more and counts as full. Else prove '..UptoSaid'. A law counts once. -/
mutual
def uptoBulk {H : Type} : DataW H → Nat
  | .lit (.string bytes) => bytes.length + 1
  | .lit _ => 1
  | .nil => 1
  | .ptr d => uptoBulk d + 1
  | .slice elems spare => uptoBulkAll elems + uptoBulkAll spare + 1
  | .agg parts => uptoBulkAll parts + 1
  | .iface _ d => uptoBulk d + 1
  | .map entries => uptoBulkEntries entries + 1
  | .held _ => 1
def uptoBulkAll {H : Type} : List (DataW H) → Nat
  | [] => 0
  | d :: r => uptoBulk d + uptoBulkAll r
def uptoBulkEntries {H : Type} : List (Lit × DataW H) → Nat
  | [] => 0
  | x :: r => uptoBulkEntry x + uptoBulkEntries r
def uptoBulkEntry {H : Type} : Lit × DataW H → Nat
  | (.string bytes, d) => bytes.length + uptoBulk d + 1
  | (_, d) => uptoBulk d + 1
 end
def uptoSmall : (H : Type) → List (DataW H) → Bool := fun _ ds => decide (uptoBulkAll ds ≤ 1048576)
def OpenSpec.upto (s : _root_.Go.ChangeSpec) : _root_.Go.OpenSpec := { _root_.Go.OpenSpec.ofChange s with cond := some uptoSmall }

/-- 'sorobanlaw29.BytesOperations', WHERE WHAT IT READS IS OF BULK AT MOST 1048576: true; the input reads as it did. -/
def bytesOperationsUptoRow : OpenClaim := { program := "ytblklgcpobbfcaagreatdoor", sum := "c7135a9846778764ec837261b04c2747e93276540bb1d692cd387fa0f482da48", func := "soroban/sorobanlaw29.BytesOperations", spec := "bytesOperations", inPlace := ["internal/bytealg.IndexByteString", "internal/bytealg.IndexString", "internal/abi.NoEscape", "internal/bytealg.MakeNoZero", "internal/bytealg.CountString"], unfollowed := true, recurses := true, named := ["soroban/bytes.operations", "soroban/args.lengths", "soroban/scanspec.rows", "internal/strconv.uint64pow10", "math/bits.deBruijn32tab", "math/bits.deBruijn64tab", "internal/bytealg.MaxLen", "unicode/utf8.first", "unicode/utf8.acceptRanges", "strconv.ErrSyntax", "strconv.ErrRange"], apart := false, laid := [("math/bits.deBruijn32tab", laid_math_bits_deBruijn32tab), ("math/bits.deBruijn64tab", laid_math_bits_deBruijn64tab), ("internal/strconv.uint64pow10", laid_internal_strconv_uint64pow10), ("unicode/utf8.acceptRanges", laid_unicode_utf8_acceptRanges), ("strconv.ErrRange", laid_strconv_ErrRange), ("strconv.ErrSyntax", laid_strconv_ErrSyntax), ("soroban/scanspec.rows", laid_soroban_scanspec_rows), ("soroban/args.lengths", laid_soroban_args_lengths), ("soroban/bytes.operations", laid_soroban_bytes_operations), ("unicode/utf8.first", laid_unicode_utf8_first)], narrowed := true }
def BytesOperationsUptoSaid : Prop := bytesOperationsUptoRow.holds Tryz.pinned (OpenSpec.upto bytesOperationsSpec)

/-- 'sorobanlaw29.BytesPuts', WHERE WHAT IT READS IS OF BULK AT MOST 1048576: true; the input reads as it did. -/
def bytesPutsUptoRow : OpenClaim := { program := "ytblklgcpobbfcaagreatdoor", sum := "c7135a9846778764ec837261b04c2747e93276540bb1d692cd387fa0f482da48", func := "soroban/sorobanlaw29.BytesPuts", spec := "bytesPuts", inPlace := ["internal/bytealg.IndexByteString", "internal/bytealg.IndexString", "internal/abi.NoEscape", "internal/bytealg.MakeNoZero", "internal/bytealg.CountString"], unfollowed := true, recurses := true, named := ["soroban/bytes.operations", "soroban/args.lengths", "soroban/scanspec.rows", "internal/strconv.uint64pow10", "math/bits.deBruijn32tab", "math/bits.deBruijn64tab", "internal/bytealg.MaxLen", "unicode/utf8.first", "unicode/utf8.acceptRanges", "strconv.ErrSyntax", "strconv.ErrRange"], apart := false, laid := [("math/bits.deBruijn32tab", laid_math_bits_deBruijn32tab), ("math/bits.deBruijn64tab", laid_math_bits_deBruijn64tab), ("internal/strconv.uint64pow10", laid_internal_strconv_uint64pow10), ("unicode/utf8.acceptRanges", laid_unicode_utf8_acceptRanges), ("strconv.ErrRange", laid_strconv_ErrRange), ("strconv.ErrSyntax", laid_strconv_ErrSyntax), ("soroban/scanspec.rows", laid_soroban_scanspec_rows), ("soroban/args.lengths", laid_soroban_args_lengths), ("soroban/bytes.operations", laid_soroban_bytes_operations), ("unicode/utf8.first", laid_unicode_utf8_first)], narrowed := true }
def BytesPutsUptoSaid : Prop := bytesPutsUptoRow.holds Tryz.pinned (OpenSpec.upto bytesPutsSpec)

/-- 'sorobanlaw29.BytesSplits', WHERE WHAT IT READS IS OF BULK AT MOST 1048576: true; the input reads as it did. -/
def bytesSplitsUptoRow : OpenClaim := { program := "ytblklgcpobbfcaagreatdoor", sum := "c7135a9846778764ec837261b04c2747e93276540bb1d692cd387fa0f482da48", func := "soroban/sorobanlaw29.BytesSplits", spec := "bytesSplits", inPlace := ["internal/bytealg.IndexByteString", "internal/bytealg.IndexString", "internal/abi.NoEscape", "internal/bytealg.MakeNoZero", "internal/bytealg.CountString"], unfollowed := true, recurses := true, named := ["soroban/bytes.operations", "soroban/args.lengths", "soroban/scanspec.rows", "internal/strconv.uint64pow10", "math/bits.deBruijn32tab", "math/bits.deBruijn64tab", "internal/bytealg.MaxLen", "unicode/utf8.first", "unicode/utf8.acceptRanges", "strconv.ErrSyntax", "strconv.ErrRange"], apart := false, laid := [("math/bits.deBruijn32tab", laid_math_bits_deBruijn32tab), ("math/bits.deBruijn64tab", laid_math_bits_deBruijn64tab), ("internal/strconv.uint64pow10", laid_internal_strconv_uint64pow10), ("unicode/utf8.acceptRanges", laid_unicode_utf8_acceptRanges), ("strconv.ErrRange", laid_strconv_ErrRange), ("strconv.ErrSyntax", laid_strconv_ErrSyntax), ("soroban/scanspec.rows", laid_soroban_scanspec_rows), ("soroban/args.lengths", laid_soroban_args_lengths), ("soroban/bytes.operations", laid_soroban_bytes_operations), ("unicode/utf8.first", laid_unicode_utf8_first)], narrowed := true }
def BytesSplitsUptoSaid : Prop := bytesSplitsUptoRow.holds Tryz.pinned (OpenSpec.upto bytesSplitsSpec)

/-- 'sorobanlaw29.BytesOffsets', WHERE WHAT IT READS IS OF BULK AT MOST 1048576: true; the input reads as it did. -/
def bytesOffsetsUptoRow : OpenClaim := { program := "ytblklgcpobbfcaagreatdoor", sum := "c7135a9846778764ec837261b04c2747e93276540bb1d692cd387fa0f482da48", func := "soroban/sorobanlaw29.BytesOffsets", spec := "bytesOffsets", inPlace := ["internal/bytealg.IndexByteString", "internal/bytealg.IndexString", "internal/abi.NoEscape", "internal/bytealg.MakeNoZero", "internal/bytealg.CountString"], unfollowed := true, recurses := true, named := ["soroban/bytes.operations", "soroban/args.lengths", "soroban/scanspec.rows", "internal/strconv.uint64pow10", "math/bits.deBruijn32tab", "math/bits.deBruijn64tab", "internal/bytealg.MaxLen", "unicode/utf8.first", "unicode/utf8.acceptRanges", "strconv.ErrSyntax", "strconv.ErrRange"], apart := false, laid := [("math/bits.deBruijn32tab", laid_math_bits_deBruijn32tab), ("math/bits.deBruijn64tab", laid_math_bits_deBruijn64tab), ("internal/strconv.uint64pow10", laid_internal_strconv_uint64pow10), ("unicode/utf8.acceptRanges", laid_unicode_utf8_acceptRanges), ("strconv.ErrRange", laid_strconv_ErrRange), ("strconv.ErrSyntax", laid_strconv_ErrSyntax), ("soroban/scanspec.rows", laid_soroban_scanspec_rows), ("soroban/args.lengths", laid_soroban_args_lengths), ("soroban/bytes.operations", laid_soroban_bytes_operations), ("unicode/utf8.first", laid_unicode_utf8_first)], narrowed := true }
def BytesOffsetsUptoSaid : Prop := bytesOffsetsUptoRow.holds Tryz.pinned (OpenSpec.upto bytesOffsetsSpec)

end Rows
end Go.Proofs.YtblklgcpobbfcaaGreatDoor
