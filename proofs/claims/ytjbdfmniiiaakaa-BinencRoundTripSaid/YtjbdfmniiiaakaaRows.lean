/-
  No cell of these rows narrows 'for every input' (looked for: loops, veiled, ifaces, maps, wideKeys, modest, calm, conditions, laid).
  DERIVED. THE GIVEN ROWS OF THIS SEAT. 18 by the template 'for every input the law returns true; each argument reads behind the call as it read before'; 0 by the template 'total and deterministic' (their statements: YtjbdfmniiiaakaaTotals.lean).
  GIVEN WITH THE SEED: the statements are not yours to turn. If you find one false, say at which input.
  Laid BY PROGRAM, IN A SANDBOX (cutbox-rows.mjs): the forced cells as the released guide's own fill.sh prints them over the translation 2bb0fbd6942e2da6… (all of the seat's roots in one cut). By AI agents, Wed Nov 11 2026. No macro, syntax, notation, axiom, sorry.
-/
import Derived.Test.YtjbdfmniiiaakaaChecked
import GoSem.Claim
import GoSem.ClaimJoined
import GoSem.ClaimMapViews
import Derived.JoinedTies
import Derived.KernelRfl
namespace Go.Proofs.Ytjbdfmniiiaakaa
/- THE CELL 'sum', in the pinned program and in every row, IS THE sha256 OF THE DUMP (.gsa) THAT YtjbdfmniiiaakaaProg.lean LOADS. Nothing in Lean hashes anything: it is a label: what it is worth is what the hold of that sum in a sandbox is worth. -/
noncomputable def Try.pinned : Pinned := { name := "ytjbdfmniiiaakaa", sum := "2bb0fbd6942e2da63641419c90281c7ff2f133b9c730cd1977d0ec66a4bd4283", checked := Try.checked }
namespace Rows
def none {H : Type} : Left H := { results := [], args := [] }

/-- 'transitlaw52.JournalBeginnings': WHATEVER THE INPUT: true; the input reads as it did. -/
def journalBeginningsSpec : ChangeSpec := { name := "journalBeginnings", fn := fun _ => fun
  | [d] => { results := [.lit (.bool true)], args := [d] }
  | _ => none }
def journalBeginningsRow : OpenClaim := { program := "ytjbdfmniiiaakaa", sum := "2bb0fbd6942e2da63641419c90281c7ff2f133b9c730cd1977d0ec66a4bd4283", func := "transit/transitlaw52.JournalBeginnings", spec := "journalBeginnings", unfollowed := true, recurses := true, apart := false }
def JournalBeginningsSaid : Prop := journalBeginningsRow.holds Try.pinned (OpenSpec.ofChange journalBeginningsSpec)

/-- ITS FALSE NEIGHBOUR: 'it returns false'. Refute it at one input. -/
def journalBeginningsWrong : ChangeSpec := { name := "journalBeginnings", fn := fun _ => fun
  | [d] => { results := [.lit (.bool false)], args := [d] }
  | _ => none }
def JournalBeginningsWrongFalsely : Prop := journalBeginningsRow.holds Try.pinned (OpenSpec.ofChange journalBeginningsWrong)

/-- 'transitlaw52.JournalContinues': WHATEVER THE INPUT: true; the input reads as it did. -/
def journalContinuesSpec : ChangeSpec := { name := "journalContinues", fn := fun _ => fun
  | [d1, d2] => { results := [.lit (.bool true)], args := [d1, d2] }
  | _ => none }
def journalContinuesRow : OpenClaim := { program := "ytjbdfmniiiaakaa", sum := "2bb0fbd6942e2da63641419c90281c7ff2f133b9c730cd1977d0ec66a4bd4283", func := "transit/transitlaw52.JournalContinues", spec := "journalContinues", unfollowed := true, recurses := true, apart := false }
def JournalContinuesSaid : Prop := journalContinuesRow.holds Try.pinned (OpenSpec.ofChange journalContinuesSpec)

/-- ITS FALSE NEIGHBOUR: 'it returns false'. Refute it at one input. -/
def journalContinuesWrong : ChangeSpec := { name := "journalContinues", fn := fun _ => fun
  | [d1, d2] => { results := [.lit (.bool false)], args := [d1, d2] }
  | _ => none }
def JournalContinuesWrongFalsely : Prop := journalContinuesRow.holds Try.pinned (OpenSpec.ofChange journalContinuesWrong)

/-- 'transitlaw11.BinencRoundTrip': WHATEVER THE INPUT: true; the input reads as it did. -/
def binencRoundTripSpec : ChangeSpec := { name := "binencRoundTrip", fn := fun _ => fun
  | [d] => { results := [.lit (.bool true)], args := [d] }
  | _ => none }
def binencRoundTripRow : OpenClaim := { program := "ytjbdfmniiiaakaa", sum := "2bb0fbd6942e2da63641419c90281c7ff2f133b9c730cd1977d0ec66a4bd4283", func := "transit/transitlaw11.BinencRoundTrip", spec := "binencRoundTrip", apart := false }
def BinencRoundTripSaid : Prop := binencRoundTripRow.holds Try.pinned (OpenSpec.ofChange binencRoundTripSpec)

/-- ITS FALSE NEIGHBOUR: 'it returns false'. Refute it at one input. -/
def binencRoundTripWrong : ChangeSpec := { name := "binencRoundTrip", fn := fun _ => fun
  | [d] => { results := [.lit (.bool false)], args := [d] }
  | _ => none }
def BinencRoundTripWrongFalsely : Prop := binencRoundTripRow.holds Try.pinned (OpenSpec.ofChange binencRoundTripWrong)

/-- 'transitlaw11.BinencUnique': WHATEVER THE INPUT: true; the input reads as it did. -/
def binencUniqueSpec : ChangeSpec := { name := "binencUnique", fn := fun _ => fun
  | [d1, d2] => { results := [.lit (.bool true)], args := [d1, d2] }
  | _ => none }
def binencUniqueRow : OpenClaim := { program := "ytjbdfmniiiaakaa", sum := "2bb0fbd6942e2da63641419c90281c7ff2f133b9c730cd1977d0ec66a4bd4283", func := "transit/transitlaw11.BinencUnique", spec := "binencUnique", apart := false }
def BinencUniqueSaid : Prop := binencUniqueRow.holds Try.pinned (OpenSpec.ofChange binencUniqueSpec)

/-- ITS FALSE NEIGHBOUR: 'it returns false'. Refute it at one input. -/
def binencUniqueWrong : ChangeSpec := { name := "binencUnique", fn := fun _ => fun
  | [d1, d2] => { results := [.lit (.bool false)], args := [d1, d2] }
  | _ => none }
def BinencUniqueWrongFalsely : Prop := binencUniqueRow.holds Try.pinned (OpenSpec.ofChange binencUniqueWrong)

/-- 'transitlaw51.EntryChecks': WHATEVER THE INPUT: true; the input reads as it did. -/
def entryChecksSpec : ChangeSpec := { name := "entryChecks", fn := fun _ => fun
  | [d] => { results := [.lit (.bool true)], args := [d] }
  | _ => none }
def entryChecksRow : OpenClaim := { program := "ytjbdfmniiiaakaa", sum := "2bb0fbd6942e2da63641419c90281c7ff2f133b9c730cd1977d0ec66a4bd4283", func := "transit/transitlaw51.EntryChecks", spec := "entryChecks", unfollowed := true, recurses := true, apart := false }
def EntryChecksSaid : Prop := entryChecksRow.holds Try.pinned (OpenSpec.ofChange entryChecksSpec)

/-- ITS FALSE NEIGHBOUR: 'it returns false'. Refute it at one input. -/
def entryChecksWrong : ChangeSpec := { name := "entryChecks", fn := fun _ => fun
  | [d] => { results := [.lit (.bool false)], args := [d] }
  | _ => none }
def EntryChecksWrongFalsely : Prop := entryChecksRow.holds Try.pinned (OpenSpec.ofChange entryChecksWrong)

/-- 'transitlaw51.EntryEncodes': WHATEVER THE INPUT: true; the input reads as it did. -/
def entryEncodesSpec : ChangeSpec := { name := "entryEncodes", fn := fun _ => fun
  | [d] => { results := [.lit (.bool true)], args := [d] }
  | _ => none }
def entryEncodesRow : OpenClaim := { program := "ytjbdfmniiiaakaa", sum := "2bb0fbd6942e2da63641419c90281c7ff2f133b9c730cd1977d0ec66a4bd4283", func := "transit/transitlaw51.EntryEncodes", spec := "entryEncodes", unfollowed := true, recurses := true, apart := false }
def EntryEncodesSaid : Prop := entryEncodesRow.holds Try.pinned (OpenSpec.ofChange entryEncodesSpec)

/-- ITS FALSE NEIGHBOUR: 'it returns false'. Refute it at one input. -/
def entryEncodesWrong : ChangeSpec := { name := "entryEncodes", fn := fun _ => fun
  | [d] => { results := [.lit (.bool false)], args := [d] }
  | _ => none }
def EntryEncodesWrongFalsely : Prop := entryEncodesRow.holds Try.pinned (OpenSpec.ofChange entryEncodesWrong)

/-- 'transitlaw51.EntryDecodes': WHATEVER THE INPUT: true; the input reads as it did. -/
def entryDecodesSpec : ChangeSpec := { name := "entryDecodes", fn := fun _ => fun
  | [d1, d2] => { results := [.lit (.bool true)], args := [d1, d2] }
  | _ => none }
def entryDecodesRow : OpenClaim := { program := "ytjbdfmniiiaakaa", sum := "2bb0fbd6942e2da63641419c90281c7ff2f133b9c730cd1977d0ec66a4bd4283", func := "transit/transitlaw51.EntryDecodes", spec := "entryDecodes", unfollowed := true, recurses := true, apart := false }
def EntryDecodesSaid : Prop := entryDecodesRow.holds Try.pinned (OpenSpec.ofChange entryDecodesSpec)

/-- ITS FALSE NEIGHBOUR: 'it returns false'. Refute it at one input. -/
def entryDecodesWrong : ChangeSpec := { name := "entryDecodes", fn := fun _ => fun
  | [d1, d2] => { results := [.lit (.bool false)], args := [d1, d2] }
  | _ => none }
def EntryDecodesWrongFalsely : Prop := entryDecodesRow.holds Try.pinned (OpenSpec.ofChange entryDecodesWrong)

/-- 'transitlaw51.EntryRoundTrip': WHATEVER THE INPUT: true; the input reads as it did. -/
def entryRoundTripSpec : ChangeSpec := { name := "entryRoundTrip", fn := fun _ => fun
  | [d] => { results := [.lit (.bool true)], args := [d] }
  | _ => none }
def entryRoundTripRow : OpenClaim := { program := "ytjbdfmniiiaakaa", sum := "2bb0fbd6942e2da63641419c90281c7ff2f133b9c730cd1977d0ec66a4bd4283", func := "transit/transitlaw51.EntryRoundTrip", spec := "entryRoundTrip", unfollowed := true, recurses := true, apart := false }
def EntryRoundTripSaid : Prop := entryRoundTripRow.holds Try.pinned (OpenSpec.ofChange entryRoundTripSpec)

/-- ITS FALSE NEIGHBOUR: 'it returns false'. Refute it at one input. -/
def entryRoundTripWrong : ChangeSpec := { name := "entryRoundTrip", fn := fun _ => fun
  | [d] => { results := [.lit (.bool false)], args := [d] }
  | _ => none }
def EntryRoundTripWrongFalsely : Prop := entryRoundTripRow.holds Try.pinned (OpenSpec.ofChange entryRoundTripWrong)

/-- 'transitlaw51.EntryUnique': WHATEVER THE INPUT: true; the input reads as it did. -/
def entryUniqueSpec : ChangeSpec := { name := "entryUnique", fn := fun _ => fun
  | [d1, d2] => { results := [.lit (.bool true)], args := [d1, d2] }
  | _ => none }
def entryUniqueRow : OpenClaim := { program := "ytjbdfmniiiaakaa", sum := "2bb0fbd6942e2da63641419c90281c7ff2f133b9c730cd1977d0ec66a4bd4283", func := "transit/transitlaw51.EntryUnique", spec := "entryUnique", unfollowed := true, recurses := true, apart := false }
def EntryUniqueSaid : Prop := entryUniqueRow.holds Try.pinned (OpenSpec.ofChange entryUniqueSpec)

/-- ITS FALSE NEIGHBOUR: 'it returns false'. Refute it at one input. -/
def entryUniqueWrong : ChangeSpec := { name := "entryUnique", fn := fun _ => fun
  | [d1, d2] => { results := [.lit (.bool false)], args := [d1, d2] }
  | _ => none }
def EntryUniqueWrongFalsely : Prop := entryUniqueRow.holds Try.pinned (OpenSpec.ofChange entryUniqueWrong)

/-- 'transitlaw51.EntryCuts': WHATEVER THE INPUT: true; the input reads as it did. -/
def entryCutsSpec : ChangeSpec := { name := "entryCuts", fn := fun _ => fun
  | [d1, d2] => { results := [.lit (.bool true)], args := [d1, d2] }
  | _ => none }
def entryCutsRow : OpenClaim := { program := "ytjbdfmniiiaakaa", sum := "2bb0fbd6942e2da63641419c90281c7ff2f133b9c730cd1977d0ec66a4bd4283", func := "transit/transitlaw51.EntryCuts", spec := "entryCuts", unfollowed := true, recurses := true, apart := false }
def EntryCutsSaid : Prop := entryCutsRow.holds Try.pinned (OpenSpec.ofChange entryCutsSpec)

/-- ITS FALSE NEIGHBOUR: 'it returns false'. Refute it at one input. -/
def entryCutsWrong : ChangeSpec := { name := "entryCuts", fn := fun _ => fun
  | [d1, d2] => { results := [.lit (.bool false)], args := [d1, d2] }
  | _ => none }
def EntryCutsWrongFalsely : Prop := entryCutsRow.holds Try.pinned (OpenSpec.ofChange entryCutsWrong)

/-- 'transitlaw51.EntryDetects': WHATEVER THE INPUT: true; the input reads as it did. -/
def entryDetectsSpec : ChangeSpec := { name := "entryDetects", fn := fun _ => fun
  | [d1, d2, d3] => { results := [.lit (.bool true)], args := [d1, d2, d3] }
  | _ => none }
def entryDetectsRow : OpenClaim := { program := "ytjbdfmniiiaakaa", sum := "2bb0fbd6942e2da63641419c90281c7ff2f133b9c730cd1977d0ec66a4bd4283", func := "transit/transitlaw51.EntryDetects", spec := "entryDetects", unfollowed := true, recurses := true, apart := false }
def EntryDetectsSaid : Prop := entryDetectsRow.holds Try.pinned (OpenSpec.ofChange entryDetectsSpec)

/-- ITS FALSE NEIGHBOUR: 'it returns false'. Refute it at one input. -/
def entryDetectsWrong : ChangeSpec := { name := "entryDetects", fn := fun _ => fun
  | [d1, d2, d3] => { results := [.lit (.bool false)], args := [d1, d2, d3] }
  | _ => none }
def EntryDetectsWrongFalsely : Prop := entryDetectsRow.holds Try.pinned (OpenSpec.ofChange entryDetectsWrong)

/-- 'transitlaw52.JournalAppends': WHATEVER THE INPUT: true; the input reads as it did. -/
def journalAppendsSpec : ChangeSpec := { name := "journalAppends", fn := fun _ => fun
  | [d] => { results := [.lit (.bool true)], args := [d] }
  | _ => none }
def journalAppendsRow : OpenClaim := { program := "ytjbdfmniiiaakaa", sum := "2bb0fbd6942e2da63641419c90281c7ff2f133b9c730cd1977d0ec66a4bd4283", func := "transit/transitlaw52.JournalAppends", spec := "journalAppends", unfollowed := true, recurses := true, apart := false }
def JournalAppendsSaid : Prop := journalAppendsRow.holds Try.pinned (OpenSpec.ofChange journalAppendsSpec)

/-- ITS FALSE NEIGHBOUR: 'it returns false'. Refute it at one input. -/
def journalAppendsWrong : ChangeSpec := { name := "journalAppends", fn := fun _ => fun
  | [d] => { results := [.lit (.bool false)], args := [d] }
  | _ => none }
def JournalAppendsWrongFalsely : Prop := journalAppendsRow.holds Try.pinned (OpenSpec.ofChange journalAppendsWrong)

/-- 'transitlaw52.JournalFills': WHATEVER THE INPUT: true; the input reads as it did. -/
def journalFillsSpec : ChangeSpec := { name := "journalFills", fn := fun _ => fun
  | [d1, d2] => { results := [.lit (.bool true)], args := [d1, d2] }
  | _ => none }
def journalFillsRow : OpenClaim := { program := "ytjbdfmniiiaakaa", sum := "2bb0fbd6942e2da63641419c90281c7ff2f133b9c730cd1977d0ec66a4bd4283", func := "transit/transitlaw52.JournalFills", spec := "journalFills", unfollowed := true, recurses := true, apart := false }
def JournalFillsSaid : Prop := journalFillsRow.holds Try.pinned (OpenSpec.ofChange journalFillsSpec)

/-- ITS FALSE NEIGHBOUR: 'it returns false'. Refute it at one input. -/
def journalFillsWrong : ChangeSpec := { name := "journalFills", fn := fun _ => fun
  | [d1, d2] => { results := [.lit (.bool false)], args := [d1, d2] }
  | _ => none }
def JournalFillsWrongFalsely : Prop := journalFillsRow.holds Try.pinned (OpenSpec.ofChange journalFillsWrong)

/-- 'transitlaw52.JournalCuts': WHATEVER THE INPUT: true; the input reads as it did. -/
def journalCutsSpec : ChangeSpec := { name := "journalCuts", fn := fun _ => fun
  | [d1, d2] => { results := [.lit (.bool true)], args := [d1, d2] }
  | _ => none }
def journalCutsRow : OpenClaim := { program := "ytjbdfmniiiaakaa", sum := "2bb0fbd6942e2da63641419c90281c7ff2f133b9c730cd1977d0ec66a4bd4283", func := "transit/transitlaw52.JournalCuts", spec := "journalCuts", unfollowed := true, recurses := true, apart := false }
def JournalCutsSaid : Prop := journalCutsRow.holds Try.pinned (OpenSpec.ofChange journalCutsSpec)

/-- ITS FALSE NEIGHBOUR: 'it returns false'. Refute it at one input. -/
def journalCutsWrong : ChangeSpec := { name := "journalCuts", fn := fun _ => fun
  | [d1, d2] => { results := [.lit (.bool false)], args := [d1, d2] }
  | _ => none }
def JournalCutsWrongFalsely : Prop := journalCutsRow.holds Try.pinned (OpenSpec.ofChange journalCutsWrong)

/-- 'transitlaw52.JournalRecovers': WHATEVER THE INPUT: true; the input reads as it did. -/
def journalRecoversSpec : ChangeSpec := { name := "journalRecovers", fn := fun _ => fun
  | [d] => { results := [.lit (.bool true)], args := [d] }
  | _ => none }
def journalRecoversRow : OpenClaim := { program := "ytjbdfmniiiaakaa", sum := "2bb0fbd6942e2da63641419c90281c7ff2f133b9c730cd1977d0ec66a4bd4283", func := "transit/transitlaw52.JournalRecovers", spec := "journalRecovers", unfollowed := true, recurses := true, apart := false }
def JournalRecoversSaid : Prop := journalRecoversRow.holds Try.pinned (OpenSpec.ofChange journalRecoversSpec)

/-- ITS FALSE NEIGHBOUR: 'it returns false'. Refute it at one input. -/
def journalRecoversWrong : ChangeSpec := { name := "journalRecovers", fn := fun _ => fun
  | [d] => { results := [.lit (.bool false)], args := [d] }
  | _ => none }
def JournalRecoversWrongFalsely : Prop := journalRecoversRow.holds Try.pinned (OpenSpec.ofChange journalRecoversWrong)

/-- 'transitlaw52.JournalLoads': WHATEVER THE INPUT: true; the input reads as it did. -/
def journalLoadsSpec : ChangeSpec := { name := "journalLoads", fn := fun _ => fun
  | [d] => { results := [.lit (.bool true)], args := [d] }
  | _ => none }
def journalLoadsRow : OpenClaim := { program := "ytjbdfmniiiaakaa", sum := "2bb0fbd6942e2da63641419c90281c7ff2f133b9c730cd1977d0ec66a4bd4283", func := "transit/transitlaw52.JournalLoads", spec := "journalLoads", unfollowed := true, recurses := true, apart := false }
def JournalLoadsSaid : Prop := journalLoadsRow.holds Try.pinned (OpenSpec.ofChange journalLoadsSpec)

/-- ITS FALSE NEIGHBOUR: 'it returns false'. Refute it at one input. -/
def journalLoadsWrong : ChangeSpec := { name := "journalLoads", fn := fun _ => fun
  | [d] => { results := [.lit (.bool false)], args := [d] }
  | _ => none }
def JournalLoadsWrongFalsely : Prop := journalLoadsRow.holds Try.pinned (OpenSpec.ofChange journalLoadsWrong)

/-- 'transitlaw52.JournalRoundTrip': WHATEVER THE INPUT: true; the input reads as it did. -/
def journalRoundTripSpec : ChangeSpec := { name := "journalRoundTrip", fn := fun _ => fun
  | [d] => { results := [.lit (.bool true)], args := [d] }
  | _ => none }
def journalRoundTripRow : OpenClaim := { program := "ytjbdfmniiiaakaa", sum := "2bb0fbd6942e2da63641419c90281c7ff2f133b9c730cd1977d0ec66a4bd4283", func := "transit/transitlaw52.JournalRoundTrip", spec := "journalRoundTrip", unfollowed := true, recurses := true, apart := false }
def JournalRoundTripSaid : Prop := journalRoundTripRow.holds Try.pinned (OpenSpec.ofChange journalRoundTripSpec)

/-- ITS FALSE NEIGHBOUR: 'it returns false'. Refute it at one input. -/
def journalRoundTripWrong : ChangeSpec := { name := "journalRoundTrip", fn := fun _ => fun
  | [d] => { results := [.lit (.bool false)], args := [d] }
  | _ => none }
def JournalRoundTripWrongFalsely : Prop := journalRoundTripRow.holds Try.pinned (OpenSpec.ofChange journalRoundTripWrong)

/-- 'transitlaw52.JournalRecovery': WHATEVER THE INPUT: true; the input reads as it did. -/
def journalRecoverySpec : ChangeSpec := { name := "journalRecovery", fn := fun _ => fun
  | [d1, d2] => { results := [.lit (.bool true)], args := [d1, d2] }
  | _ => none }
def journalRecoveryRow : OpenClaim := { program := "ytjbdfmniiiaakaa", sum := "2bb0fbd6942e2da63641419c90281c7ff2f133b9c730cd1977d0ec66a4bd4283", func := "transit/transitlaw52.JournalRecovery", spec := "journalRecovery", unfollowed := true, recurses := true, apart := false }
def JournalRecoverySaid : Prop := journalRecoveryRow.holds Try.pinned (OpenSpec.ofChange journalRecoverySpec)

/-- ITS FALSE NEIGHBOUR: 'it returns false'. Refute it at one input. -/
def journalRecoveryWrong : ChangeSpec := { name := "journalRecovery", fn := fun _ => fun
  | [d1, d2] => { results := [.lit (.bool false)], args := [d1, d2] }
  | _ => none }
def JournalRecoveryWrongFalsely : Prop := journalRecoveryRow.holds Try.pinned (OpenSpec.ofChange journalRecoveryWrong)

/- THE SECOND FORM. 'bulk': how many values and letters a reading holds, each counted each time it is reached (what is shared counts as often as it is met; a slice's spare places count too). A statement '..UptoSaid' is the law's where the arguments, and the package variables that the reading takes, are together of bulk at most 1048576: NARROWER than '..Said'. Prove '..Said' where nothing that the law and all that it calls make is longer than what came in: it says more and counts as full. Else prove '..UptoSaid'. A law counts once. -/
mutual
def uptoBulk {H : Type} : DataW H → Nat
  | .lit (.string bytes) => bytes.length + 1
  | .lit _ => 1
  | .nil => 1
  | .ptr d => uptoBulk d + 1
  | .slice elems spare => uptoBulkAll elems + uptoBulkAll spare + 1
  | .agg parts => uptoBulkAll parts + 1
  | .iface _ d => uptoBulk d + 1
  | .map entries => uptoBulkEntries entries + 1
  | .held _ => 1
def uptoBulkAll {H : Type} : List (DataW H) → Nat
  | [] => 0
  | d :: r => uptoBulk d + uptoBulkAll r
def uptoBulkEntries {H : Type} : List (Lit × DataW H) → Nat
  | [] => 0
  | x :: r => uptoBulkEntry x + uptoBulkEntries r
def uptoBulkEntry {H : Type} : Lit × DataW H → Nat
  | (.string bytes, d) => bytes.length + uptoBulk d + 1
  | (_, d) => uptoBulk d + 1
 end
def uptoSmall : (H : Type) → List (DataW H) → Bool := fun _ ds => decide (uptoBulkAll ds ≤ 1048576)
def OpenSpec.upto (s : _root_.Go.ChangeSpec) : _root_.Go.OpenSpec := { _root_.Go.OpenSpec.ofChange s with cond := some uptoSmall }

/-- 'transitlaw52.JournalBeginnings', WHERE WHAT IT READS IS OF BULK AT MOST 1048576: true; the input reads as it did. -/
def journalBeginningsUptoRow : OpenClaim := { program := "ytjbdfmniiiaakaa", sum := "2bb0fbd6942e2da63641419c90281c7ff2f133b9c730cd1977d0ec66a4bd4283", func := "transit/transitlaw52.JournalBeginnings", spec := "journalBeginnings", unfollowed := true, recurses := true, apart := false, narrowed := true }
def JournalBeginningsUptoSaid : Prop := journalBeginningsUptoRow.holds Try.pinned (OpenSpec.upto journalBeginningsSpec)

/-- 'transitlaw52.JournalContinues', WHERE WHAT IT READS IS OF BULK AT MOST 1048576: true; the input reads as it did. -/
def journalContinuesUptoRow : OpenClaim := { program := "ytjbdfmniiiaakaa", sum := "2bb0fbd6942e2da63641419c90281c7ff2f133b9c730cd1977d0ec66a4bd4283", func := "transit/transitlaw52.JournalContinues", spec := "journalContinues", unfollowed := true, recurses := true, apart := false, narrowed := true }
def JournalContinuesUptoSaid : Prop := journalContinuesUptoRow.holds Try.pinned (OpenSpec.upto journalContinuesSpec)

/-- 'transitlaw11.BinencRoundTrip', WHERE WHAT IT READS IS OF BULK AT MOST 1048576: true; the input reads as it did. -/
def binencRoundTripUptoRow : OpenClaim := { program := "ytjbdfmniiiaakaa", sum := "2bb0fbd6942e2da63641419c90281c7ff2f133b9c730cd1977d0ec66a4bd4283", func := "transit/transitlaw11.BinencRoundTrip", spec := "binencRoundTrip", apart := false, narrowed := true }
def BinencRoundTripUptoSaid : Prop := binencRoundTripUptoRow.holds Try.pinned (OpenSpec.upto binencRoundTripSpec)

/-- 'transitlaw11.BinencUnique', WHERE WHAT IT READS IS OF BULK AT MOST 1048576: true; the input reads as it did. -/
def binencUniqueUptoRow : OpenClaim := { program := "ytjbdfmniiiaakaa", sum := "2bb0fbd6942e2da63641419c90281c7ff2f133b9c730cd1977d0ec66a4bd4283", func := "transit/transitlaw11.BinencUnique", spec := "binencUnique", apart := false, narrowed := true }
def BinencUniqueUptoSaid : Prop := binencUniqueUptoRow.holds Try.pinned (OpenSpec.upto binencUniqueSpec)

/-- 'transitlaw51.EntryChecks', WHERE WHAT IT READS IS OF BULK AT MOST 1048576: true; the input reads as it did. -/
def entryChecksUptoRow : OpenClaim := { program := "ytjbdfmniiiaakaa", sum := "2bb0fbd6942e2da63641419c90281c7ff2f133b9c730cd1977d0ec66a4bd4283", func := "transit/transitlaw51.EntryChecks", spec := "entryChecks", unfollowed := true, recurses := true, apart := false, narrowed := true }
def EntryChecksUptoSaid : Prop := entryChecksUptoRow.holds Try.pinned (OpenSpec.upto entryChecksSpec)

/-- 'transitlaw51.EntryEncodes', WHERE WHAT IT READS IS OF BULK AT MOST 1048576: true; the input reads as it did. -/
def entryEncodesUptoRow : OpenClaim := { program := "ytjbdfmniiiaakaa", sum := "2bb0fbd6942e2da63641419c90281c7ff2f133b9c730cd1977d0ec66a4bd4283", func := "transit/transitlaw51.EntryEncodes", spec := "entryEncodes", unfollowed := true, recurses := true, apart := false, narrowed := true }
def EntryEncodesUptoSaid : Prop := entryEncodesUptoRow.holds Try.pinned (OpenSpec.upto entryEncodesSpec)

/-- 'transitlaw51.EntryDecodes', WHERE WHAT IT READS IS OF BULK AT MOST 1048576: true; the input reads as it did. -/
def entryDecodesUptoRow : OpenClaim := { program := "ytjbdfmniiiaakaa", sum := "2bb0fbd6942e2da63641419c90281c7ff2f133b9c730cd1977d0ec66a4bd4283", func := "transit/transitlaw51.EntryDecodes", spec := "entryDecodes", unfollowed := true, recurses := true, apart := false, narrowed := true }
def EntryDecodesUptoSaid : Prop := entryDecodesUptoRow.holds Try.pinned (OpenSpec.upto entryDecodesSpec)

/-- 'transitlaw51.EntryRoundTrip', WHERE WHAT IT READS IS OF BULK AT MOST 1048576: true; the input reads as it did. -/
def entryRoundTripUptoRow : OpenClaim := { program := "ytjbdfmniiiaakaa", sum := "2bb0fbd6942e2da63641419c90281c7ff2f133b9c730cd1977d0ec66a4bd4283", func := "transit/transitlaw51.EntryRoundTrip", spec := "entryRoundTrip", unfollowed := true, recurses := true, apart := false, narrowed := true }
def EntryRoundTripUptoSaid : Prop := entryRoundTripUptoRow.holds Try.pinned (OpenSpec.upto entryRoundTripSpec)

/-- 'transitlaw51.EntryUnique', WHERE WHAT IT READS IS OF BULK AT MOST 1048576: true; the input reads as it did. -/
def entryUniqueUptoRow : OpenClaim := { program := "ytjbdfmniiiaakaa", sum := "2bb0fbd6942e2da63641419c90281c7ff2f133b9c730cd1977d0ec66a4bd4283", func := "transit/transitlaw51.EntryUnique", spec := "entryUnique", unfollowed := true, recurses := true, apart := false, narrowed := true }
def EntryUniqueUptoSaid : Prop := entryUniqueUptoRow.holds Try.pinned (OpenSpec.upto entryUniqueSpec)

/-- 'transitlaw51.EntryCuts', WHERE WHAT IT READS IS OF BULK AT MOST 1048576: true; the input reads as it did. -/
def entryCutsUptoRow : OpenClaim := { program := "ytjbdfmniiiaakaa", sum := "2bb0fbd6942e2da63641419c90281c7ff2f133b9c730cd1977d0ec66a4bd4283", func := "transit/transitlaw51.EntryCuts", spec := "entryCuts", unfollowed := true, recurses := true, apart := false, narrowed := true }
def EntryCutsUptoSaid : Prop := entryCutsUptoRow.holds Try.pinned (OpenSpec.upto entryCutsSpec)

/-- 'transitlaw51.EntryDetects', WHERE WHAT IT READS IS OF BULK AT MOST 1048576: true; the input reads as it did. -/
def entryDetectsUptoRow : OpenClaim := { program := "ytjbdfmniiiaakaa", sum := "2bb0fbd6942e2da63641419c90281c7ff2f133b9c730cd1977d0ec66a4bd4283", func := "transit/transitlaw51.EntryDetects", spec := "entryDetects", unfollowed := true, recurses := true, apart := false, narrowed := true }
def EntryDetectsUptoSaid : Prop := entryDetectsUptoRow.holds Try.pinned (OpenSpec.upto entryDetectsSpec)

/-- 'transitlaw52.JournalAppends', WHERE WHAT IT READS IS OF BULK AT MOST 1048576: true; the input reads as it did. -/
def journalAppendsUptoRow : OpenClaim := { program := "ytjbdfmniiiaakaa", sum := "2bb0fbd6942e2da63641419c90281c7ff2f133b9c730cd1977d0ec66a4bd4283", func := "transit/transitlaw52.JournalAppends", spec := "journalAppends", unfollowed := true, recurses := true, apart := false, narrowed := true }
def JournalAppendsUptoSaid : Prop := journalAppendsUptoRow.holds Try.pinned (OpenSpec.upto journalAppendsSpec)

/-- 'transitlaw52.JournalFills', WHERE WHAT IT READS IS OF BULK AT MOST 1048576: true; the input reads as it did. -/
def journalFillsUptoRow : OpenClaim := { program := "ytjbdfmniiiaakaa", sum := "2bb0fbd6942e2da63641419c90281c7ff2f133b9c730cd1977d0ec66a4bd4283", func := "transit/transitlaw52.JournalFills", spec := "journalFills", unfollowed := true, recurses := true, apart := false, narrowed := true }
def JournalFillsUptoSaid : Prop := journalFillsUptoRow.holds Try.pinned (OpenSpec.upto journalFillsSpec)

/-- 'transitlaw52.JournalCuts', WHERE WHAT IT READS IS OF BULK AT MOST 1048576: true; the input reads as it did. -/
def journalCutsUptoRow : OpenClaim := { program := "ytjbdfmniiiaakaa", sum := "2bb0fbd6942e2da63641419c90281c7ff2f133b9c730cd1977d0ec66a4bd4283", func := "transit/transitlaw52.JournalCuts", spec := "journalCuts", unfollowed := true, recurses := true, apart := false, narrowed := true }
def JournalCutsUptoSaid : Prop := journalCutsUptoRow.holds Try.pinned (OpenSpec.upto journalCutsSpec)

/-- 'transitlaw52.JournalRecovers', WHERE WHAT IT READS IS OF BULK AT MOST 1048576: true; the input reads as it did. -/
def journalRecoversUptoRow : OpenClaim := { program := "ytjbdfmniiiaakaa", sum := "2bb0fbd6942e2da63641419c90281c7ff2f133b9c730cd1977d0ec66a4bd4283", func := "transit/transitlaw52.JournalRecovers", spec := "journalRecovers", unfollowed := true, recurses := true, apart := false, narrowed := true }
def JournalRecoversUptoSaid : Prop := journalRecoversUptoRow.holds Try.pinned (OpenSpec.upto journalRecoversSpec)

/-- 'transitlaw52.JournalLoads', WHERE WHAT IT READS IS OF BULK AT MOST 1048576: true; the input reads as it did. -/
def journalLoadsUptoRow : OpenClaim := { program := "ytjbdfmniiiaakaa", sum := "2bb0fbd6942e2da63641419c90281c7ff2f133b9c730cd1977d0ec66a4bd4283", func := "transit/transitlaw52.JournalLoads", spec := "journalLoads", unfollowed := true, recurses := true, apart := false, narrowed := true }
def JournalLoadsUptoSaid : Prop := journalLoadsUptoRow.holds Try.pinned (OpenSpec.upto journalLoadsSpec)

/-- 'transitlaw52.JournalRoundTrip', WHERE WHAT IT READS IS OF BULK AT MOST 1048576: true; the input reads as it did. -/
def journalRoundTripUptoRow : OpenClaim := { program := "ytjbdfmniiiaakaa", sum := "2bb0fbd6942e2da63641419c90281c7ff2f133b9c730cd1977d0ec66a4bd4283", func := "transit/transitlaw52.JournalRoundTrip", spec := "journalRoundTrip", unfollowed := true, recurses := true, apart := false, narrowed := true }
def JournalRoundTripUptoSaid : Prop := journalRoundTripUptoRow.holds Try.pinned (OpenSpec.upto journalRoundTripSpec)

/-- 'transitlaw52.JournalRecovery', WHERE WHAT IT READS IS OF BULK AT MOST 1048576: true; the input reads as it did. -/
def journalRecoveryUptoRow : OpenClaim := { program := "ytjbdfmniiiaakaa", sum := "2bb0fbd6942e2da63641419c90281c7ff2f133b9c730cd1977d0ec66a4bd4283", func := "transit/transitlaw52.JournalRecovery", spec := "journalRecovery", unfollowed := true, recurses := true, apart := false, narrowed := true }
def JournalRecoveryUptoSaid : Prop := journalRecoveryUptoRow.holds Try.pinned (OpenSpec.upto journalRecoverySpec)

end Rows
end Go.Proofs.Ytjbdfmniiiaakaa
