/-
  NARROWER THAN 'FOR EVERY INPUT', by the rows' own cells (each row's printed sentence says how): VerifyUnions: laid.
  DERIVED. THE GIVEN ROWS OF THIS SEAT. 1 by the template 'for every input the law returns true; each argument reads behind the call as it read before'; 0 by the template 'total and deterministic' (their statements: YtdfdhobfodljbaaGreatDoorTotals.lean).
  GIVEN WITH THE SEED: the statements are not yours to turn. If you find one false, say at which input.
  Laid BY PROGRAM, IN A SANDBOX (cutbox-rows.mjs): the forced cells as the released guide's own fill.sh prints them over the translation 97a3b977b01a0147… (all of the seat's roots in one cut). By AI agents, Wed Nov 11 2026. No macro, syntax, notation, axiom, sorry.
-/
import Derived.Test.YtdfdhobfodljbaaGreatDoorChecked
import GoSem.Claim
import GoSem.ClaimJoined
import GoSem.ClaimMapViews
import Derived.JoinedTies
import Derived.KernelRfl
namespace Go.Proofs.YtdfdhobfodljbaaGreatDoor
/- THE CELL 'sum', in the pinned program and in every row, IS THE sha256 OF THE DUMP (.gsa) THAT YtdfdhobfodljbaaGreatDoorProg.lean LOADS. Nothing in Lean hashes anything: it is a label: what it is worth is what the hold of that sum in a sandbox is worth. -/
noncomputable def Tryz.pinned : Pinned := { name := "ytdfdhobfodljbaagreatdoor", sum := "97a3b977b01a0147774653698789932ac592c53779bada173ee44b3cf5b26e3c", checked := Tryz.checked }
namespace Rows
def none {H : Type} : Left H := { results := [], args := [] }

/- WHAT THE LISTED PACKAGE-LEVEL VARIABLES READ AS WHEN THE CALL BEGINS. Each datum BY PROGRAM (the guide's laid-datum.mjs) off the statement by which the dump's own 'gosem.cut.vars' lays the variable. In a bare row this is a premise. The card (YtdfdhobfodljbaaGreatDoorCards.lean) ties it to the program's text. -/
def laid_soroban_scanspec_rows {H : Type} : DataW H := .map [(.int .u8 65, .lit (.int .i64 2)), (.int .u8 69, .lit (.int .i64 2)), (.int .u8 70, .lit (.int .i64 2)), (.int .u8 71, .lit (.int .i64 2)), (.int .u8 88, .lit (.int .i64 1)), (.int .u8 91, .lit (.int .i64 3)), (.int .u8 97, .lit (.int .i64 2)), (.int .u8 98, .lit (.int .i64 1)), (.int .u8 99, .lit (.int .i64 3)), (.int .u8 100, .lit (.int .i64 1)), (.int .u8 101, .lit (.int .i64 2)), (.int .u8 102, .lit (.int .i64 2)), (.int .u8 103, .lit (.int .i64 2)), (.int .u8 105, .lit (.int .i64 1)), (.int .u8 110, .lit (.int .i64 5)), (.int .u8 111, .lit (.int .i64 1)), (.int .u8 112, .lit (.int .i64 4)), (.int .u8 115, .lit (.int .i64 3)), (.int .u8 117, .lit (.int .i64 1)), (.int .u8 120, .lit (.int .i64 1))]
def laid_soroban_args_lengths {H : Type} : DataW H := .agg [.lit (.int .i64 32), .lit (.int .i64 8), .lit (.int .i64 16), .lit (.int .i64 64), .lit (.int .i64 64), .lit (.int .i64 64), .lit (.int .i64 64), .lit (.int .i64 64)]
def laid_soroban_bytes_operations {H : Type} : DataW H := .agg [.agg [.lit (.string [101, 110, 100]), .lit (.string [])], .agg [.lit (.string [108, 105, 116]), .lit (.string [114, 107])], .agg [.lit (.string [110, 117, 109]), .lit (.string [114, 110])], .agg [.lit (.string [99, 111, 112, 121]), .lit (.string [114, 114])], .agg [.lit (.string [115, 97, 118, 101]), .lit (.string [108, 114])], .agg [.lit (.string [108, 111, 97, 100]), .lit (.string [114, 108])], .agg [.lit (.string [102, 105, 101, 108, 100]), .lit (.string [114, 97])], .agg [.lit (.string [112, 114, 101, 99]), .lit (.string [114, 97])], .agg [.lit (.string [115, 105, 103, 110]), .lit (.string [114, 102, 97])], .agg [.lit (.string [112, 114, 101, 102, 105, 120]), .lit (.string [114, 102, 97])], .agg [.lit (.string [100, 105, 103, 105, 116, 115]), .lit (.string [114, 114, 102, 97])], .agg [.lit (.string [98, 121, 116, 101, 115]), .lit (.string [114, 97, 114])], .agg [.lit (.string [119, 105, 100, 101]), .lit (.string [114, 97, 114])], .agg [.lit (.string [99, 104, 97, 114]), .lit (.string [114, 97])], .agg [.lit (.string [119, 99, 104, 97, 114]), .lit (.string [114, 97])], .agg [.lit (.string [112, 111, 105, 110, 116]), .lit (.string [114, 97])], .agg [.lit (.string [102, 105, 110, 105, 116, 101]), .lit (.string [114, 97])], .agg [.lit (.string [98, 97, 114, 101]), .lit (.string [114, 114])], .agg [.lit (.string [112, 97, 100]), .lit (.string [114, 114, 114, 114, 114, 114, 109])], .agg [.lit (.string [99, 97, 116]), .lit (.string [114, 114, 114])], .agg [.lit (.string [101, 109, 105, 116]), .lit (.string [114])], .agg [.lit (.string [115, 116, 111, 114, 101]), .lit (.string [97])], .agg [.lit (.string [106, 117, 109, 112]), .lit (.string [100])], .agg [.lit (.string [122, 101, 114, 111]), .lit (.string [114, 100])], .agg [.lit (.string [115, 107, 105, 112]), .lit (.string [])], .agg [.lit (.string [109, 97, 116, 99, 104]), .lit (.string [107])], .agg [.lit (.string [115, 99, 97, 110]), .lit (.string [103])]]

/-- 'sorobanlaw31.VerifyUnions': WHATEVER THE INPUT: true; the input reads as it did. -/
def verifyUnionsSpec : ChangeSpec := { name := "verifyUnions", fn := fun _ => fun
  | [d1, d2, d3, d4] => { results := [.lit (.bool true)], args := [d1, d2, d3, d4] }
  | _ => none }
def verifyUnionsRow : OpenClaim := { program := "ytdfdhobfodljbaagreatdoor", sum := "97a3b977b01a0147774653698789932ac592c53779bada173ee44b3cf5b26e3c", func := "soroban/sorobanlaw31.VerifyUnions", spec := "verifyUnions", inPlace := ["internal/bytealg.IndexByteString", "internal/bytealg.IndexString"], unfollowed := true, recurses := true, named := ["soroban/args.lengths", "soroban/scanspec.rows", "soroban/bytes.operations", "internal/bytealg.MaxLen"], apart := false, laid := [("soroban/scanspec.rows", laid_soroban_scanspec_rows), ("soroban/args.lengths", laid_soroban_args_lengths), ("soroban/bytes.operations", laid_soroban_bytes_operations)] }
def VerifyUnionsSaid : Prop := verifyUnionsRow.holds Tryz.pinned (OpenSpec.ofChange verifyUnionsSpec)

/-- ITS FALSE NEIGHBOUR: 'it returns false'. Refute it at one input. -/
def verifyUnionsWrong : ChangeSpec := { name := "verifyUnions", fn := fun _ => fun
  | [d1, d2, d3, d4] => { results := [.lit (.bool false)], args := [d1, d2, d3, d4] }
  | _ => none }
def VerifyUnionsWrongFalsely : Prop := verifyUnionsRow.holds Tryz.pinned (OpenSpec.ofChange verifyUnionsWrong)

/- THE SECOND FORM. 'bulk': how many values and letters a reading holds, each counted each time it is reached (what is shared counts as often as it is met; a slice's spare places count too). A statement '..UptoSaid' is the law's where the arguments, and the package variables that the reading takes, are together of bulk at most 1048576: NARROWER than '..Said'. Prove '..Said' where nothing that the law and all that it calls make is longer than what came in: it says more and counts as full. Else prove '..UptoSaid'. A law counts once. -/
mutual
def uptoBulk {H : Type} : DataW H → Nat
  | .lit (.string bytes) => bytes.length + 1
  | .lit _ => 1
  | .nil => 1
  | .ptr d => uptoBulk d + 1
  | .slice elems spare => uptoBulkAll elems + uptoBulkAll spare + 1
  | .agg parts => uptoBulkAll parts + 1
  | .iface _ d => uptoBulk d + 1
  | .map entries => uptoBulkEntries entries + 1
  | .held _ => 1
def uptoBulkAll {H : Type} : List (DataW H) → Nat
  | [] => 0
  | d :: r => uptoBulk d + uptoBulkAll r
def uptoBulkEntries {H : Type} : List (Lit × DataW H) → Nat
  | [] => 0
  | x :: r => uptoBulkEntry x + uptoBulkEntries r
def uptoBulkEntry {H : Type} : Lit × DataW H → Nat
  | (.string bytes, d) => bytes.length + uptoBulk d + 1
  | (_, d) => uptoBulk d + 1
 end
def uptoSmall : (H : Type) → List (DataW H) → Bool := fun _ ds => decide (uptoBulkAll ds ≤ 1048576)
def OpenSpec.upto (s : _root_.Go.ChangeSpec) : _root_.Go.OpenSpec := { _root_.Go.OpenSpec.ofChange s with cond := some uptoSmall }

/-- 'sorobanlaw31.VerifyUnions', WHERE WHAT IT READS IS OF BULK AT MOST 1048576: true; the input reads as it did. -/
def verifyUnionsUptoRow : OpenClaim := { program := "ytdfdhobfodljbaagreatdoor", sum := "97a3b977b01a0147774653698789932ac592c53779bada173ee44b3cf5b26e3c", func := "soroban/sorobanlaw31.VerifyUnions", spec := "verifyUnions", inPlace := ["internal/bytealg.IndexByteString", "internal/bytealg.IndexString"], unfollowed := true, recurses := true, named := ["soroban/args.lengths", "soroban/scanspec.rows", "soroban/bytes.operations", "internal/bytealg.MaxLen"], apart := false, laid := [("soroban/scanspec.rows", laid_soroban_scanspec_rows), ("soroban/args.lengths", laid_soroban_args_lengths), ("soroban/bytes.operations", laid_soroban_bytes_operations)], narrowed := true }
def VerifyUnionsUptoSaid : Prop := verifyUnionsUptoRow.holds Tryz.pinned (OpenSpec.upto verifyUnionsSpec)

end Rows
end Go.Proofs.YtdfdhobfodljbaaGreatDoor
