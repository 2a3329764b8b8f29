/-
  No cell of these rows narrows 'for every input' (looked for: loops, veiled, ifaces, maps, wideKeys, modest, calm, conditions, laid).
  DERIVED. THE GIVEN ROWS OF THIS SEAT. 12 by the template 'for every input the law returns true; each argument reads behind the call as it read before'; 0 by the template 'total and deterministic' (their statements: YtjpdlobfngbclabTotals.lean).
  GIVEN WITH THE SEED: the statements are not yours to turn. If you find one false, say at which input.
  Laid BY PROGRAM, IN A SANDBOX (cutbox-rows.mjs): the forced cells as the released guide's own fill.sh prints them over the translation 64aff0fa3fe3a4bd… (all of the seat's roots in one cut). By AI agents, Wed Nov 11 2026. No macro, syntax, notation, axiom, sorry.
-/
import Derived.Test.YtjpdlobfngbclabChecked
import GoSem.Claim
import GoSem.ClaimJoined
import GoSem.ClaimMapViews
import Derived.JoinedTies
import Derived.KernelRfl
namespace Go.Proofs.Ytjpdlobfngbclab
/- THE CELL 'sum', in the pinned program and in every row, IS THE sha256 OF THE DUMP (.gsa) THAT YtjpdlobfngbclabProg.lean LOADS. Nothing in Lean hashes anything: it is a label: what it is worth is what the hold of that sum in a sandbox is worth. -/
noncomputable def Try.pinned : Pinned := { name := "ytjpdlobfngbclab", sum := "64aff0fa3fe3a4bdb29dad0ad1274cae5ca89464c4c975bf616124f8ab631a5d", checked := Try.checked }
namespace Rows
def none {H : Type} : Left H := { results := [], args := [] }

/-- 'transitlaw52.JournalContinues': WHATEVER THE INPUT: true; the input reads as it did. -/
def journalContinuesSpec : ChangeSpec := { name := "journalContinues", fn := fun _ => fun
  | [d1, d2] => { results := [.lit (.bool true)], args := [d1, d2] }
  | _ => none }
def journalContinuesRow : OpenClaim := { program := "ytjpdlobfngbclab", sum := "64aff0fa3fe3a4bdb29dad0ad1274cae5ca89464c4c975bf616124f8ab631a5d", func := "transit/transitlaw52.JournalContinues", spec := "journalContinues", unfollowed := true, recurses := true, apart := false }
def JournalContinuesSaid : Prop := journalContinuesRow.holds Try.pinned (OpenSpec.ofChange journalContinuesSpec)

/-- ITS FALSE NEIGHBOUR: 'it returns false'. Refute it at one input. -/
def journalContinuesWrong : ChangeSpec := { name := "journalContinues", fn := fun _ => fun
  | [d1, d2] => { results := [.lit (.bool false)], args := [d1, d2] }
  | _ => none }
def JournalContinuesWrongFalsely : Prop := journalContinuesRow.holds Try.pinned (OpenSpec.ofChange journalContinuesWrong)

/-- 'transitlaw11.BinencInts': WHATEVER THE INPUT: true; the input reads as it did. -/
def binencIntsSpec : ChangeSpec := { name := "binencInts", fn := fun _ => fun
  | [d1, d2] => { results := [.lit (.bool true)], args := [d1, d2] }
  | _ => none }
def binencIntsRow : OpenClaim := { program := "ytjpdlobfngbclab", sum := "64aff0fa3fe3a4bdb29dad0ad1274cae5ca89464c4c975bf616124f8ab631a5d", func := "transit/transitlaw11.BinencInts", spec := "binencInts", apart := false }
def BinencIntsSaid : Prop := binencIntsRow.holds Try.pinned (OpenSpec.ofChange binencIntsSpec)

/-- ITS FALSE NEIGHBOUR: 'it returns false'. Refute it at one input. -/
def binencIntsWrong : ChangeSpec := { name := "binencInts", fn := fun _ => fun
  | [d1, d2] => { results := [.lit (.bool false)], args := [d1, d2] }
  | _ => none }
def BinencIntsWrongFalsely : Prop := binencIntsRow.holds Try.pinned (OpenSpec.ofChange binencIntsWrong)

/-- 'transitlaw11.BinencBytes': WHATEVER THE INPUT: true; the input reads as it did. -/
def binencBytesSpec : ChangeSpec := { name := "binencBytes", fn := fun _ => fun
  | [d1, d2, d3] => { results := [.lit (.bool true)], args := [d1, d2, d3] }
  | _ => none }
def binencBytesRow : OpenClaim := { program := "ytjpdlobfngbclab", sum := "64aff0fa3fe3a4bdb29dad0ad1274cae5ca89464c4c975bf616124f8ab631a5d", func := "transit/transitlaw11.BinencBytes", spec := "binencBytes", apart := false }
def BinencBytesSaid : Prop := binencBytesRow.holds Try.pinned (OpenSpec.ofChange binencBytesSpec)

/-- ITS FALSE NEIGHBOUR: 'it returns false'. Refute it at one input. -/
def binencBytesWrong : ChangeSpec := { name := "binencBytes", fn := fun _ => fun
  | [d1, d2, d3] => { results := [.lit (.bool false)], args := [d1, d2, d3] }
  | _ => none }
def BinencBytesWrongFalsely : Prop := binencBytesRow.holds Try.pinned (OpenSpec.ofChange binencBytesWrong)

/-- 'transitlaw11.BinencBools': WHATEVER THE INPUT: true; the input reads as it did. -/
def binencBoolsSpec : ChangeSpec := { name := "binencBools", fn := fun _ => fun
  | [d1, d2] => { results := [.lit (.bool true)], args := [d1, d2] }
  | _ => none }
def binencBoolsRow : OpenClaim := { program := "ytjpdlobfngbclab", sum := "64aff0fa3fe3a4bdb29dad0ad1274cae5ca89464c4c975bf616124f8ab631a5d", func := "transit/transitlaw11.BinencBools", spec := "binencBools", apart := false }
def BinencBoolsSaid : Prop := binencBoolsRow.holds Try.pinned (OpenSpec.ofChange binencBoolsSpec)

/-- ITS FALSE NEIGHBOUR: 'it returns false'. Refute it at one input. -/
def binencBoolsWrong : ChangeSpec := { name := "binencBools", fn := fun _ => fun
  | [d1, d2] => { results := [.lit (.bool false)], args := [d1, d2] }
  | _ => none }
def BinencBoolsWrongFalsely : Prop := binencBoolsRow.holds Try.pinned (OpenSpec.ofChange binencBoolsWrong)

/-- 'transitlaw11.BinencLists': WHATEVER THE INPUT: true; the input reads as it did. -/
def binencListsSpec : ChangeSpec := { name := "binencLists", fn := fun _ => fun
  | [d1, d2, d3] => { results := [.lit (.bool true)], args := [d1, d2, d3] }
  | _ => none }
def binencListsRow : OpenClaim := { program := "ytjpdlobfngbclab", sum := "64aff0fa3fe3a4bdb29dad0ad1274cae5ca89464c4c975bf616124f8ab631a5d", func := "transit/transitlaw11.BinencLists", spec := "binencLists", apart := false }
def BinencListsSaid : Prop := binencListsRow.holds Try.pinned (OpenSpec.ofChange binencListsSpec)

/-- ITS FALSE NEIGHBOUR: 'it returns false'. Refute it at one input. -/
def binencListsWrong : ChangeSpec := { name := "binencLists", fn := fun _ => fun
  | [d1, d2, d3] => { results := [.lit (.bool false)], args := [d1, d2, d3] }
  | _ => none }
def BinencListsWrongFalsely : Prop := binencListsRow.holds Try.pinned (OpenSpec.ofChange binencListsWrong)

/-- 'transitlaw11.BinencRoundTrip': WHATEVER THE INPUT: true; the input reads as it did. -/
def binencRoundTripSpec : ChangeSpec := { name := "binencRoundTrip", fn := fun _ => fun
  | [d] => { results := [.lit (.bool true)], args := [d] }
  | _ => none }
def binencRoundTripRow : OpenClaim := { program := "ytjpdlobfngbclab", sum := "64aff0fa3fe3a4bdb29dad0ad1274cae5ca89464c4c975bf616124f8ab631a5d", func := "transit/transitlaw11.BinencRoundTrip", spec := "binencRoundTrip", apart := false }
def BinencRoundTripSaid : Prop := binencRoundTripRow.holds Try.pinned (OpenSpec.ofChange binencRoundTripSpec)

/-- ITS FALSE NEIGHBOUR: 'it returns false'. Refute it at one input. -/
def binencRoundTripWrong : ChangeSpec := { name := "binencRoundTrip", fn := fun _ => fun
  | [d] => { results := [.lit (.bool false)], args := [d] }
  | _ => none }
def BinencRoundTripWrongFalsely : Prop := binencRoundTripRow.holds Try.pinned (OpenSpec.ofChange binencRoundTripWrong)

/-- 'transitlaw11.BinencUnique': WHATEVER THE INPUT: true; the input reads as it did. -/
def binencUniqueSpec : ChangeSpec := { name := "binencUnique", fn := fun _ => fun
  | [d1, d2] => { results := [.lit (.bool true)], args := [d1, d2] }
  | _ => none }
def binencUniqueRow : OpenClaim := { program := "ytjpdlobfngbclab", sum := "64aff0fa3fe3a4bdb29dad0ad1274cae5ca89464c4c975bf616124f8ab631a5d", func := "transit/transitlaw11.BinencUnique", spec := "binencUnique", apart := false }
def BinencUniqueSaid : Prop := binencUniqueRow.holds Try.pinned (OpenSpec.ofChange binencUniqueSpec)

/-- ITS FALSE NEIGHBOUR: 'it returns false'. Refute it at one input. -/
def binencUniqueWrong : ChangeSpec := { name := "binencUnique", fn := fun _ => fun
  | [d1, d2] => { results := [.lit (.bool false)], args := [d1, d2] }
  | _ => none }
def BinencUniqueWrongFalsely : Prop := binencUniqueRow.holds Try.pinned (OpenSpec.ofChange binencUniqueWrong)

/-- 'transitlaw11.BinencPrefixes': WHATEVER THE INPUT: true; the input reads as it did. -/
def binencPrefixesSpec : ChangeSpec := { name := "binencPrefixes", fn := fun _ => fun
  | [d1, d2, d3] => { results := [.lit (.bool true)], args := [d1, d2, d3] }
  | _ => none }
def binencPrefixesRow : OpenClaim := { program := "ytjpdlobfngbclab", sum := "64aff0fa3fe3a4bdb29dad0ad1274cae5ca89464c4c975bf616124f8ab631a5d", func := "transit/transitlaw11.BinencPrefixes", spec := "binencPrefixes", apart := false }
def BinencPrefixesSaid : Prop := binencPrefixesRow.holds Try.pinned (OpenSpec.ofChange binencPrefixesSpec)

/-- ITS FALSE NEIGHBOUR: 'it returns false'. Refute it at one input. -/
def binencPrefixesWrong : ChangeSpec := { name := "binencPrefixes", fn := fun _ => fun
  | [d1, d2, d3] => { results := [.lit (.bool false)], args := [d1, d2, d3] }
  | _ => none }
def BinencPrefixesWrongFalsely : Prop := binencPrefixesRow.holds Try.pinned (OpenSpec.ofChange binencPrefixesWrong)

/-- 'transitlaw51.EntryChecks': WHATEVER THE INPUT: true; the input reads as it did. -/
def entryChecksSpec : ChangeSpec := { name := "entryChecks", fn := fun _ => fun
  | [d] => { results := [.lit (.bool true)], args := [d] }
  | _ => none }
def entryChecksRow : OpenClaim := { program := "ytjpdlobfngbclab", sum := "64aff0fa3fe3a4bdb29dad0ad1274cae5ca89464c4c975bf616124f8ab631a5d", func := "transit/transitlaw51.EntryChecks", spec := "entryChecks", unfollowed := true, recurses := true, apart := false }
def EntryChecksSaid : Prop := entryChecksRow.holds Try.pinned (OpenSpec.ofChange entryChecksSpec)

/-- ITS FALSE NEIGHBOUR: 'it returns false'. Refute it at one input. -/
def entryChecksWrong : ChangeSpec := { name := "entryChecks", fn := fun _ => fun
  | [d] => { results := [.lit (.bool false)], args := [d] }
  | _ => none }
def EntryChecksWrongFalsely : Prop := entryChecksRow.holds Try.pinned (OpenSpec.ofChange entryChecksWrong)

/-- 'transitlaw51.EntryEncodes': WHATEVER THE INPUT: true; the input reads as it did. -/
def entryEncodesSpec : ChangeSpec := { name := "entryEncodes", fn := fun _ => fun
  | [d] => { results := [.lit (.bool true)], args := [d] }
  | _ => none }
def entryEncodesRow : OpenClaim := { program := "ytjpdlobfngbclab", sum := "64aff0fa3fe3a4bdb29dad0ad1274cae5ca89464c4c975bf616124f8ab631a5d", func := "transit/transitlaw51.EntryEncodes", spec := "entryEncodes", unfollowed := true, recurses := true, apart := false }
def EntryEncodesSaid : Prop := entryEncodesRow.holds Try.pinned (OpenSpec.ofChange entryEncodesSpec)

/-- ITS FALSE NEIGHBOUR: 'it returns false'. Refute it at one input. -/
def entryEncodesWrong : ChangeSpec := { name := "entryEncodes", fn := fun _ => fun
  | [d] => { results := [.lit (.bool false)], args := [d] }
  | _ => none }
def EntryEncodesWrongFalsely : Prop := entryEncodesRow.holds Try.pinned (OpenSpec.ofChange entryEncodesWrong)

/-- 'transitlaw51.EntryDecodes': WHATEVER THE INPUT: true; the input reads as it did. -/
def entryDecodesSpec : ChangeSpec := { name := "entryDecodes", fn := fun _ => fun
  | [d1, d2] => { results := [.lit (.bool true)], args := [d1, d2] }
  | _ => none }
def entryDecodesRow : OpenClaim := { program := "ytjpdlobfngbclab", sum := "64aff0fa3fe3a4bdb29dad0ad1274cae5ca89464c4c975bf616124f8ab631a5d", func := "transit/transitlaw51.EntryDecodes", spec := "entryDecodes", unfollowed := true, recurses := true, apart := false }
def EntryDecodesSaid : Prop := entryDecodesRow.holds Try.pinned (OpenSpec.ofChange entryDecodesSpec)

/-- ITS FALSE NEIGHBOUR: 'it returns false'. Refute it at one input. -/
def entryDecodesWrong : ChangeSpec := { name := "entryDecodes", fn := fun _ => fun
  | [d1, d2] => { results := [.lit (.bool false)], args := [d1, d2] }
  | _ => none }
def EntryDecodesWrongFalsely : Prop := entryDecodesRow.holds Try.pinned (OpenSpec.ofChange entryDecodesWrong)

/-- 'transitlaw51.EntryRoundTrip': WHATEVER THE INPUT: true; the input reads as it did. -/
def entryRoundTripSpec : ChangeSpec := { name := "entryRoundTrip", fn := fun _ => fun
  | [d] => { results := [.lit (.bool true)], args := [d] }
  | _ => none }
def entryRoundTripRow : OpenClaim := { program := "ytjpdlobfngbclab", sum := "64aff0fa3fe3a4bdb29dad0ad1274cae5ca89464c4c975bf616124f8ab631a5d", func := "transit/transitlaw51.EntryRoundTrip", spec := "entryRoundTrip", unfollowed := true, recurses := true, apart := false }
def EntryRoundTripSaid : Prop := entryRoundTripRow.holds Try.pinned (OpenSpec.ofChange entryRoundTripSpec)

/-- ITS FALSE NEIGHBOUR: 'it returns false'. Refute it at one input. -/
def entryRoundTripWrong : ChangeSpec := { name := "entryRoundTrip", fn := fun _ => fun
  | [d] => { results := [.lit (.bool false)], args := [d] }
  | _ => none }
def EntryRoundTripWrongFalsely : Prop := entryRoundTripRow.holds Try.pinned (OpenSpec.ofChange entryRoundTripWrong)

/- THE SECOND FORM. 'bulk': how many values and letters a reading holds, each counted each time it is reached (what is shared counts as often as it is met; a slice's spare places count too). A statement '..UptoSaid' is the law's where the arguments, and the package variables that the reading takes, are together of bulk at most 1048576: NARROWER than '..Said'. Prove '..Said' where nothing that the law and all that it calls make is longer than what came in: it says more and counts as full. Else prove '..UptoSaid'. A law counts once. -/
mutual
def uptoBulk {H : Type} : DataW H → Nat
  | .lit (.string bytes) => bytes.length + 1
  | .lit _ => 1
  | .nil => 1
  | .ptr d => uptoBulk d + 1
  | .slice elems spare => uptoBulkAll elems + uptoBulkAll spare + 1
  | .agg parts => uptoBulkAll parts + 1
  | .iface _ d => uptoBulk d + 1
  | .map entries => uptoBulkEntries entries + 1
  | .held _ => 1
def uptoBulkAll {H : Type} : List (DataW H) → Nat
  | [] => 0
  | d :: r => uptoBulk d + uptoBulkAll r
def uptoBulkEntries {H : Type} : List (Lit × DataW H) → Nat
  | [] => 0
  | x :: r => uptoBulkEntry x + uptoBulkEntries r
def uptoBulkEntry {H : Type} : Lit × DataW H → Nat
  | (.string bytes, d) => bytes.length + uptoBulk d + 1
  | (_, d) => uptoBulk d + 1
 end
def uptoSmall : (H : Type) → List (DataW H) → Bool := fun _ ds => decide (uptoBulkAll ds ≤ 1048576)
def OpenSpec.upto (s : _root_.Go.ChangeSpec) : _root_.Go.OpenSpec := { _root_.Go.OpenSpec.ofChange s with cond := some uptoSmall }

/-- 'transitlaw52.JournalContinues', WHERE WHAT IT READS IS OF BULK AT MOST 1048576: true; the input reads as it did. -/
def journalContinuesUptoRow : OpenClaim := { program := "ytjpdlobfngbclab", sum := "64aff0fa3fe3a4bdb29dad0ad1274cae5ca89464c4c975bf616124f8ab631a5d", func := "transit/transitlaw52.JournalContinues", spec := "journalContinues", unfollowed := true, recurses := true, apart := false, narrowed := true }
def JournalContinuesUptoSaid : Prop := journalContinuesUptoRow.holds Try.pinned (OpenSpec.upto journalContinuesSpec)

/-- 'transitlaw11.BinencInts', WHERE WHAT IT READS IS OF BULK AT MOST 1048576: true; the input reads as it did. -/
def binencIntsUptoRow : OpenClaim := { program := "ytjpdlobfngbclab", sum := "64aff0fa3fe3a4bdb29dad0ad1274cae5ca89464c4c975bf616124f8ab631a5d", func := "transit/transitlaw11.BinencInts", spec := "binencInts", apart := false, narrowed := true }
def BinencIntsUptoSaid : Prop := binencIntsUptoRow.holds Try.pinned (OpenSpec.upto binencIntsSpec)

/-- 'transitlaw11.BinencBytes', WHERE WHAT IT READS IS OF BULK AT MOST 1048576: true; the input reads as it did. -/
def binencBytesUptoRow : OpenClaim := { program := "ytjpdlobfngbclab", sum := "64aff0fa3fe3a4bdb29dad0ad1274cae5ca89464c4c975bf616124f8ab631a5d", func := "transit/transitlaw11.BinencBytes", spec := "binencBytes", apart := false, narrowed := true }
def BinencBytesUptoSaid : Prop := binencBytesUptoRow.holds Try.pinned (OpenSpec.upto binencBytesSpec)

/-- 'transitlaw11.BinencBools', WHERE WHAT IT READS IS OF BULK AT MOST 1048576: true; the input reads as it did. -/
def binencBoolsUptoRow : OpenClaim := { program := "ytjpdlobfngbclab", sum := "64aff0fa3fe3a4bdb29dad0ad1274cae5ca89464c4c975bf616124f8ab631a5d", func := "transit/transitlaw11.BinencBools", spec := "binencBools", apart := false, narrowed := true }
def BinencBoolsUptoSaid : Prop := binencBoolsUptoRow.holds Try.pinned (OpenSpec.upto binencBoolsSpec)

/-- 'transitlaw11.BinencLists', WHERE WHAT IT READS IS OF BULK AT MOST 1048576: true; the input reads as it did. -/
def binencListsUptoRow : OpenClaim := { program := "ytjpdlobfngbclab", sum := "64aff0fa3fe3a4bdb29dad0ad1274cae5ca89464c4c975bf616124f8ab631a5d", func := "transit/transitlaw11.BinencLists", spec := "binencLists", apart := false, narrowed := true }
def BinencListsUptoSaid : Prop := binencListsUptoRow.holds Try.pinned (OpenSpec.upto binencListsSpec)

/-- 'transitlaw11.BinencRoundTrip', WHERE WHAT IT READS IS OF BULK AT MOST 1048576: true; the input reads as it did. -/
def binencRoundTripUptoRow : OpenClaim := { program := "ytjpdlobfngbclab", sum := "64aff0fa3fe3a4bdb29dad0ad1274cae5ca89464c4c975bf616124f8ab631a5d", func := "transit/transitlaw11.BinencRoundTrip", spec := "binencRoundTrip", apart := false, narrowed := true }
def BinencRoundTripUptoSaid : Prop := binencRoundTripUptoRow.holds Try.pinned (OpenSpec.upto binencRoundTripSpec)

/-- 'transitlaw11.BinencUnique', WHERE WHAT IT READS IS OF BULK AT MOST 1048576: true; the input reads as it did. -/
def binencUniqueUptoRow : OpenClaim := { program := "ytjpdlobfngbclab", sum := "64aff0fa3fe3a4bdb29dad0ad1274cae5ca89464c4c975bf616124f8ab631a5d", func := "transit/transitlaw11.BinencUnique", spec := "binencUnique", apart := false, narrowed := true }
def BinencUniqueUptoSaid : Prop := binencUniqueUptoRow.holds Try.pinned (OpenSpec.upto binencUniqueSpec)

/-- 'transitlaw11.BinencPrefixes', WHERE WHAT IT READS IS OF BULK AT MOST 1048576: true; the input reads as it did. -/
def binencPrefixesUptoRow : OpenClaim := { program := "ytjpdlobfngbclab", sum := "64aff0fa3fe3a4bdb29dad0ad1274cae5ca89464c4c975bf616124f8ab631a5d", func := "transit/transitlaw11.BinencPrefixes", spec := "binencPrefixes", apart := false, narrowed := true }
def BinencPrefixesUptoSaid : Prop := binencPrefixesUptoRow.holds Try.pinned (OpenSpec.upto binencPrefixesSpec)

/-- 'transitlaw51.EntryChecks', WHERE WHAT IT READS IS OF BULK AT MOST 1048576: true; the input reads as it did. -/
def entryChecksUptoRow : OpenClaim := { program := "ytjpdlobfngbclab", sum := "64aff0fa3fe3a4bdb29dad0ad1274cae5ca89464c4c975bf616124f8ab631a5d", func := "transit/transitlaw51.EntryChecks", spec := "entryChecks", unfollowed := true, recurses := true, apart := false, narrowed := true }
def EntryChecksUptoSaid : Prop := entryChecksUptoRow.holds Try.pinned (OpenSpec.upto entryChecksSpec)

/-- 'transitlaw51.EntryEncodes', WHERE WHAT IT READS IS OF BULK AT MOST 1048576: true; the input reads as it did. -/
def entryEncodesUptoRow : OpenClaim := { program := "ytjpdlobfngbclab", sum := "64aff0fa3fe3a4bdb29dad0ad1274cae5ca89464c4c975bf616124f8ab631a5d", func := "transit/transitlaw51.EntryEncodes", spec := "entryEncodes", unfollowed := true, recurses := true, apart := false, narrowed := true }
def EntryEncodesUptoSaid : Prop := entryEncodesUptoRow.holds Try.pinned (OpenSpec.upto entryEncodesSpec)

/-- 'transitlaw51.EntryDecodes', WHERE WHAT IT READS IS OF BULK AT MOST 1048576: true; the input reads as it did. -/
def entryDecodesUptoRow : OpenClaim := { program := "ytjpdlobfngbclab", sum := "64aff0fa3fe3a4bdb29dad0ad1274cae5ca89464c4c975bf616124f8ab631a5d", func := "transit/transitlaw51.EntryDecodes", spec := "entryDecodes", unfollowed := true, recurses := true, apart := false, narrowed := true }
def EntryDecodesUptoSaid : Prop := entryDecodesUptoRow.holds Try.pinned (OpenSpec.upto entryDecodesSpec)

/-- 'transitlaw51.EntryRoundTrip', WHERE WHAT IT READS IS OF BULK AT MOST 1048576: true; the input reads as it did. -/
def entryRoundTripUptoRow : OpenClaim := { program := "ytjpdlobfngbclab", sum := "64aff0fa3fe3a4bdb29dad0ad1274cae5ca89464c4c975bf616124f8ab631a5d", func := "transit/transitlaw51.EntryRoundTrip", spec := "entryRoundTrip", unfollowed := true, recurses := true, apart := false, narrowed := true }
def EntryRoundTripUptoSaid : Prop := entryRoundTripUptoRow.holds Try.pinned (OpenSpec.upto entryRoundTripSpec)

end Rows
end Go.Proofs.Ytjpdlobfngbclab
