/-
  No cell of these rows narrows 'for every input' (looked for: loops, veiled, ifaces, maps, wideKeys, modest, calm, conditions, laid).
  DERIVED. THE GIVEN ROWS OF THIS SEAT. 12 by the template 'for every input the law returns true; each argument reads behind the call as it read before'; 0 by the template 'total and deterministic' (their statements: YtjpdlobfngbclaaTotals.lean).
  GIVEN WITH THE SEED: the statements are not yours to turn. If you find one false, say at which input.
  Laid BY PROGRAM, IN A SANDBOX (cutbox-rows.mjs): the forced cells as the released guide's own fill.sh prints them over the translation 48a793bf8c3f513f… (all of the seat's roots in one cut). By AI agents, Wed Nov 11 2026. No macro, syntax, notation, axiom, sorry.
-/
import Derived.Test.YtjpdlobfngbclaaChecked
import GoSem.Claim
import GoSem.ClaimJoined
import GoSem.ClaimMapViews
import Derived.JoinedTies
import Derived.KernelRfl
namespace Go.Proofs.Ytjpdlobfngbclaa
/- THE CELL 'sum', in the pinned program and in every row, IS THE sha256 OF THE DUMP (.gsa) THAT YtjpdlobfngbclaaProg.lean LOADS. Nothing in Lean hashes anything: it is a label: what it is worth is what the hold of that sum in a sandbox is worth. -/
noncomputable def Try.pinned : Pinned := { name := "ytjpdlobfngbclaa", sum := "48a793bf8c3f513f49bd82393f827f2c660e522e9cab28d35cbd170db9695ea5", checked := Try.checked }
namespace Rows
def none {H : Type} : Left H := { results := [], args := [] }

/-- 'transitlaw10.ChecksumSums': WHATEVER THE INPUT: true; the input reads as it did. -/
def checksumSumsSpec : ChangeSpec := { name := "checksumSums", fn := fun _ => fun
  | [d] => { results := [.lit (.bool true)], args := [d] }
  | _ => none }
def checksumSumsRow : OpenClaim := { program := "ytjpdlobfngbclaa", sum := "48a793bf8c3f513f49bd82393f827f2c660e522e9cab28d35cbd170db9695ea5", func := "transit/transitlaw10.ChecksumSums", spec := "checksumSums", apart := false }
def ChecksumSumsSaid : Prop := checksumSumsRow.holds Try.pinned (OpenSpec.ofChange checksumSumsSpec)

/-- ITS FALSE NEIGHBOUR: 'it returns false'. Refute it at one input. -/
def checksumSumsWrong : ChangeSpec := { name := "checksumSums", fn := fun _ => fun
  | [d] => { results := [.lit (.bool false)], args := [d] }
  | _ => none }
def ChecksumSumsWrongFalsely : Prop := checksumSumsRow.holds Try.pinned (OpenSpec.ofChange checksumSumsWrong)

/-- 'transitlaw10.ChecksumUpdates': WHATEVER THE INPUT: true; the input reads as it did. -/
def checksumUpdatesSpec : ChangeSpec := { name := "checksumUpdates", fn := fun _ => fun
  | [d1, d2] => { results := [.lit (.bool true)], args := [d1, d2] }
  | _ => none }
def checksumUpdatesRow : OpenClaim := { program := "ytjpdlobfngbclaa", sum := "48a793bf8c3f513f49bd82393f827f2c660e522e9cab28d35cbd170db9695ea5", func := "transit/transitlaw10.ChecksumUpdates", spec := "checksumUpdates", apart := false }
def ChecksumUpdatesSaid : Prop := checksumUpdatesRow.holds Try.pinned (OpenSpec.ofChange checksumUpdatesSpec)

/-- ITS FALSE NEIGHBOUR: 'it returns false'. Refute it at one input. -/
def checksumUpdatesWrong : ChangeSpec := { name := "checksumUpdates", fn := fun _ => fun
  | [d1, d2] => { results := [.lit (.bool false)], args := [d1, d2] }
  | _ => none }
def ChecksumUpdatesWrongFalsely : Prop := checksumUpdatesRow.holds Try.pinned (OpenSpec.ofChange checksumUpdatesWrong)

/-- 'transitlaw10.ChecksumContinues': WHATEVER THE INPUT: true; the input reads as it did. -/
def checksumContinuesSpec : ChangeSpec := { name := "checksumContinues", fn := fun _ => fun
  | [d1, d2] => { results := [.lit (.bool true)], args := [d1, d2] }
  | _ => none }
def checksumContinuesRow : OpenClaim := { program := "ytjpdlobfngbclaa", sum := "48a793bf8c3f513f49bd82393f827f2c660e522e9cab28d35cbd170db9695ea5", func := "transit/transitlaw10.ChecksumContinues", spec := "checksumContinues", apart := false }
def ChecksumContinuesSaid : Prop := checksumContinuesRow.holds Try.pinned (OpenSpec.ofChange checksumContinuesSpec)

/-- ITS FALSE NEIGHBOUR: 'it returns false'. Refute it at one input. -/
def checksumContinuesWrong : ChangeSpec := { name := "checksumContinues", fn := fun _ => fun
  | [d1, d2] => { results := [.lit (.bool false)], args := [d1, d2] }
  | _ => none }
def ChecksumContinuesWrongFalsely : Prop := checksumContinuesRow.holds Try.pinned (OpenSpec.ofChange checksumContinuesWrong)

/-- 'transitlaw10.ChecksumAppends': WHATEVER THE INPUT: true; the input reads as it did. -/
def checksumAppendsSpec : ChangeSpec := { name := "checksumAppends", fn := fun _ => fun
  | [d] => { results := [.lit (.bool true)], args := [d] }
  | _ => none }
def checksumAppendsRow : OpenClaim := { program := "ytjpdlobfngbclaa", sum := "48a793bf8c3f513f49bd82393f827f2c660e522e9cab28d35cbd170db9695ea5", func := "transit/transitlaw10.ChecksumAppends", spec := "checksumAppends", apart := false }
def ChecksumAppendsSaid : Prop := checksumAppendsRow.holds Try.pinned (OpenSpec.ofChange checksumAppendsSpec)

/-- ITS FALSE NEIGHBOUR: 'it returns false'. Refute it at one input. -/
def checksumAppendsWrong : ChangeSpec := { name := "checksumAppends", fn := fun _ => fun
  | [d] => { results := [.lit (.bool false)], args := [d] }
  | _ => none }
def ChecksumAppendsWrongFalsely : Prop := checksumAppendsRow.holds Try.pinned (OpenSpec.ofChange checksumAppendsWrong)

/-- 'transitlaw10.ChecksumVerifies': WHATEVER THE INPUT: true; the input reads as it did. -/
def checksumVerifiesSpec : ChangeSpec := { name := "checksumVerifies", fn := fun _ => fun
  | [d] => { results := [.lit (.bool true)], args := [d] }
  | _ => none }
def checksumVerifiesRow : OpenClaim := { program := "ytjpdlobfngbclaa", sum := "48a793bf8c3f513f49bd82393f827f2c660e522e9cab28d35cbd170db9695ea5", func := "transit/transitlaw10.ChecksumVerifies", spec := "checksumVerifies", apart := false }
def ChecksumVerifiesSaid : Prop := checksumVerifiesRow.holds Try.pinned (OpenSpec.ofChange checksumVerifiesSpec)

/-- ITS FALSE NEIGHBOUR: 'it returns false'. Refute it at one input. -/
def checksumVerifiesWrong : ChangeSpec := { name := "checksumVerifies", fn := fun _ => fun
  | [d] => { results := [.lit (.bool false)], args := [d] }
  | _ => none }
def ChecksumVerifiesWrongFalsely : Prop := checksumVerifiesRow.holds Try.pinned (OpenSpec.ofChange checksumVerifiesWrong)

/-- 'transitlaw10.ChecksumDetects': WHATEVER THE INPUT: true; the input reads as it did. -/
def checksumDetectsSpec : ChangeSpec := { name := "checksumDetects", fn := fun _ => fun
  | [d1, d2, d3] => { results := [.lit (.bool true)], args := [d1, d2, d3] }
  | _ => none }
def checksumDetectsRow : OpenClaim := { program := "ytjpdlobfngbclaa", sum := "48a793bf8c3f513f49bd82393f827f2c660e522e9cab28d35cbd170db9695ea5", func := "transit/transitlaw10.ChecksumDetects", spec := "checksumDetects", apart := false }
def ChecksumDetectsSaid : Prop := checksumDetectsRow.holds Try.pinned (OpenSpec.ofChange checksumDetectsSpec)

/-- ITS FALSE NEIGHBOUR: 'it returns false'. Refute it at one input. -/
def checksumDetectsWrong : ChangeSpec := { name := "checksumDetects", fn := fun _ => fun
  | [d1, d2, d3] => { results := [.lit (.bool false)], args := [d1, d2, d3] }
  | _ => none }
def ChecksumDetectsWrongFalsely : Prop := checksumDetectsRow.holds Try.pinned (OpenSpec.ofChange checksumDetectsWrong)

/-- 'transitlaw10.ChecksumEnds': WHATEVER THE INPUT: true; the input reads as it did. -/
def checksumEndsSpec : ChangeSpec := { name := "checksumEnds", fn := fun _ => fun
  | [d1, d2] => { results := [.lit (.bool true)], args := [d1, d2] }
  | _ => none }
def checksumEndsRow : OpenClaim := { program := "ytjpdlobfngbclaa", sum := "48a793bf8c3f513f49bd82393f827f2c660e522e9cab28d35cbd170db9695ea5", func := "transit/transitlaw10.ChecksumEnds", spec := "checksumEnds", apart := false }
def ChecksumEndsSaid : Prop := checksumEndsRow.holds Try.pinned (OpenSpec.ofChange checksumEndsSpec)

/-- ITS FALSE NEIGHBOUR: 'it returns false'. Refute it at one input. -/
def checksumEndsWrong : ChangeSpec := { name := "checksumEnds", fn := fun _ => fun
  | [d1, d2] => { results := [.lit (.bool false)], args := [d1, d2] }
  | _ => none }
def ChecksumEndsWrongFalsely : Prop := checksumEndsRow.holds Try.pinned (OpenSpec.ofChange checksumEndsWrong)

/-- 'transitlaw10.ChecksumLinear': WHATEVER THE INPUT: true; the input reads as it did. -/
def checksumLinearSpec : ChangeSpec := { name := "checksumLinear", fn := fun _ => fun
  | [d1, d2, d3] => { results := [.lit (.bool true)], args := [d1, d2, d3] }
  | _ => none }
def checksumLinearRow : OpenClaim := { program := "ytjpdlobfngbclaa", sum := "48a793bf8c3f513f49bd82393f827f2c660e522e9cab28d35cbd170db9695ea5", func := "transit/transitlaw10.ChecksumLinear", spec := "checksumLinear", apart := false }
def ChecksumLinearSaid : Prop := checksumLinearRow.holds Try.pinned (OpenSpec.ofChange checksumLinearSpec)

/-- ITS FALSE NEIGHBOUR: 'it returns false'. Refute it at one input. -/
def checksumLinearWrong : ChangeSpec := { name := "checksumLinear", fn := fun _ => fun
  | [d1, d2, d3] => { results := [.lit (.bool false)], args := [d1, d2, d3] }
  | _ => none }
def ChecksumLinearWrongFalsely : Prop := checksumLinearRow.holds Try.pinned (OpenSpec.ofChange checksumLinearWrong)

/-- 'transitlaw52.JournalBeginnings': WHATEVER THE INPUT: true; the input reads as it did. -/
def journalBeginningsSpec : ChangeSpec := { name := "journalBeginnings", fn := fun _ => fun
  | [d] => { results := [.lit (.bool true)], args := [d] }
  | _ => none }
def journalBeginningsRow : OpenClaim := { program := "ytjpdlobfngbclaa", sum := "48a793bf8c3f513f49bd82393f827f2c660e522e9cab28d35cbd170db9695ea5", func := "transit/transitlaw52.JournalBeginnings", spec := "journalBeginnings", unfollowed := true, recurses := true, apart := false }
def JournalBeginningsSaid : Prop := journalBeginningsRow.holds Try.pinned (OpenSpec.ofChange journalBeginningsSpec)

/-- ITS FALSE NEIGHBOUR: 'it returns false'. Refute it at one input. -/
def journalBeginningsWrong : ChangeSpec := { name := "journalBeginnings", fn := fun _ => fun
  | [d] => { results := [.lit (.bool false)], args := [d] }
  | _ => none }
def JournalBeginningsWrongFalsely : Prop := journalBeginningsRow.holds Try.pinned (OpenSpec.ofChange journalBeginningsWrong)

/-- 'transitlaw11.BinencPuts': WHATEVER THE INPUT: true; the input reads as it did. -/
def binencPutsSpec : ChangeSpec := { name := "binencPuts", fn := fun _ => fun
  | [d1, d2, d3] => { results := [.lit (.bool true)], args := [d1, d2, d3] }
  | _ => none }
def binencPutsRow : OpenClaim := { program := "ytjpdlobfngbclaa", sum := "48a793bf8c3f513f49bd82393f827f2c660e522e9cab28d35cbd170db9695ea5", func := "transit/transitlaw11.BinencPuts", spec := "binencPuts", apart := false }
def BinencPutsSaid : Prop := binencPutsRow.holds Try.pinned (OpenSpec.ofChange binencPutsSpec)

/-- ITS FALSE NEIGHBOUR: 'it returns false'. Refute it at one input. -/
def binencPutsWrong : ChangeSpec := { name := "binencPuts", fn := fun _ => fun
  | [d1, d2, d3] => { results := [.lit (.bool false)], args := [d1, d2, d3] }
  | _ => none }
def BinencPutsWrongFalsely : Prop := binencPutsRow.holds Try.pinned (OpenSpec.ofChange binencPutsWrong)

/-- 'transitlaw11.BinencStrings': WHATEVER THE INPUT: true; the input reads as it did. -/
def binencStringsSpec : ChangeSpec := { name := "binencStrings", fn := fun _ => fun
  | [d1, d2] => { results := [.lit (.bool true)], args := [d1, d2] }
  | _ => none }
def binencStringsRow : OpenClaim := { program := "ytjpdlobfngbclaa", sum := "48a793bf8c3f513f49bd82393f827f2c660e522e9cab28d35cbd170db9695ea5", func := "transit/transitlaw11.BinencStrings", spec := "binencStrings", apart := false }
def BinencStringsSaid : Prop := binencStringsRow.holds Try.pinned (OpenSpec.ofChange binencStringsSpec)

/-- ITS FALSE NEIGHBOUR: 'it returns false'. Refute it at one input. -/
def binencStringsWrong : ChangeSpec := { name := "binencStrings", fn := fun _ => fun
  | [d1, d2] => { results := [.lit (.bool false)], args := [d1, d2] }
  | _ => none }
def BinencStringsWrongFalsely : Prop := binencStringsRow.holds Try.pinned (OpenSpec.ofChange binencStringsWrong)

/-- 'transitlaw11.BinencUints': WHATEVER THE INPUT: true; the input reads as it did. -/
def binencUintsSpec : ChangeSpec := { name := "binencUints", fn := fun _ => fun
  | [d1, d2] => { results := [.lit (.bool true)], args := [d1, d2] }
  | _ => none }
def binencUintsRow : OpenClaim := { program := "ytjpdlobfngbclaa", sum := "48a793bf8c3f513f49bd82393f827f2c660e522e9cab28d35cbd170db9695ea5", func := "transit/transitlaw11.BinencUints", spec := "binencUints", apart := false }
def BinencUintsSaid : Prop := binencUintsRow.holds Try.pinned (OpenSpec.ofChange binencUintsSpec)

/-- ITS FALSE NEIGHBOUR: 'it returns false'. Refute it at one input. -/
def binencUintsWrong : ChangeSpec := { name := "binencUints", fn := fun _ => fun
  | [d1, d2] => { results := [.lit (.bool false)], args := [d1, d2] }
  | _ => none }
def BinencUintsWrongFalsely : Prop := binencUintsRow.holds Try.pinned (OpenSpec.ofChange binencUintsWrong)

/- THE SECOND FORM. 'bulk': how many values and letters a reading holds, each counted each time it is reached (what is shared counts as often as it is met; a slice's spare places count too). A statement '..UptoSaid' is the law's where the arguments, and the package variables that the reading takes, are together of bulk at most 1048576: NARROWER than '..Said'. Prove '..Said' where nothing that the law and all that it calls make is longer than what came in: it says more and counts as full. Else prove '..UptoSaid'. A law counts once. -/
mutual
def uptoBulk {H : Type} : DataW H → Nat
  | .lit (.string bytes) => bytes.length + 1
  | .lit _ => 1
  | .nil => 1
  | .ptr d => uptoBulk d + 1
  | .slice elems spare => uptoBulkAll elems + uptoBulkAll spare + 1
  | .agg parts => uptoBulkAll parts + 1
  | .iface _ d => uptoBulk d + 1
  | .map entries => uptoBulkEntries entries + 1
  | .held _ => 1
def uptoBulkAll {H : Type} : List (DataW H) → Nat
  | [] => 0
  | d :: r => uptoBulk d + uptoBulkAll r
def uptoBulkEntries {H : Type} : List (Lit × DataW H) → Nat
  | [] => 0
  | x :: r => uptoBulkEntry x + uptoBulkEntries r
def uptoBulkEntry {H : Type} : Lit × DataW H → Nat
  | (.string bytes, d) => bytes.length + uptoBulk d + 1
  | (_, d) => uptoBulk d + 1
 end
def uptoSmall : (H : Type) → List (DataW H) → Bool := fun _ ds => decide (uptoBulkAll ds ≤ 1048576)
def OpenSpec.upto (s : _root_.Go.ChangeSpec) : _root_.Go.OpenSpec := { _root_.Go.OpenSpec.ofChange s with cond := some uptoSmall }

/-- 'transitlaw10.ChecksumSums', WHERE WHAT IT READS IS OF BULK AT MOST 1048576: true; the input reads as it did. -/
def checksumSumsUptoRow : OpenClaim := { program := "ytjpdlobfngbclaa", sum := "48a793bf8c3f513f49bd82393f827f2c660e522e9cab28d35cbd170db9695ea5", func := "transit/transitlaw10.ChecksumSums", spec := "checksumSums", apart := false, narrowed := true }
def ChecksumSumsUptoSaid : Prop := checksumSumsUptoRow.holds Try.pinned (OpenSpec.upto checksumSumsSpec)

/-- 'transitlaw10.ChecksumUpdates', WHERE WHAT IT READS IS OF BULK AT MOST 1048576: true; the input reads as it did. -/
def checksumUpdatesUptoRow : OpenClaim := { program := "ytjpdlobfngbclaa", sum := "48a793bf8c3f513f49bd82393f827f2c660e522e9cab28d35cbd170db9695ea5", func := "transit/transitlaw10.ChecksumUpdates", spec := "checksumUpdates", apart := false, narrowed := true }
def ChecksumUpdatesUptoSaid : Prop := checksumUpdatesUptoRow.holds Try.pinned (OpenSpec.upto checksumUpdatesSpec)

/-- 'transitlaw10.ChecksumContinues', WHERE WHAT IT READS IS OF BULK AT MOST 1048576: true; the input reads as it did. -/
def checksumContinuesUptoRow : OpenClaim := { program := "ytjpdlobfngbclaa", sum := "48a793bf8c3f513f49bd82393f827f2c660e522e9cab28d35cbd170db9695ea5", func := "transit/transitlaw10.ChecksumContinues", spec := "checksumContinues", apart := false, narrowed := true }
def ChecksumContinuesUptoSaid : Prop := checksumContinuesUptoRow.holds Try.pinned (OpenSpec.upto checksumContinuesSpec)

/-- 'transitlaw10.ChecksumAppends', WHERE WHAT IT READS IS OF BULK AT MOST 1048576: true; the input reads as it did. -/
def checksumAppendsUptoRow : OpenClaim := { program := "ytjpdlobfngbclaa", sum := "48a793bf8c3f513f49bd82393f827f2c660e522e9cab28d35cbd170db9695ea5", func := "transit/transitlaw10.ChecksumAppends", spec := "checksumAppends", apart := false, narrowed := true }
def ChecksumAppendsUptoSaid : Prop := checksumAppendsUptoRow.holds Try.pinned (OpenSpec.upto checksumAppendsSpec)

/-- 'transitlaw10.ChecksumVerifies', WHERE WHAT IT READS IS OF BULK AT MOST 1048576: true; the input reads as it did. -/
def checksumVerifiesUptoRow : OpenClaim := { program := "ytjpdlobfngbclaa", sum := "48a793bf8c3f513f49bd82393f827f2c660e522e9cab28d35cbd170db9695ea5", func := "transit/transitlaw10.ChecksumVerifies", spec := "checksumVerifies", apart := false, narrowed := true }
def ChecksumVerifiesUptoSaid : Prop := checksumVerifiesUptoRow.holds Try.pinned (OpenSpec.upto checksumVerifiesSpec)

/-- 'transitlaw10.ChecksumDetects', WHERE WHAT IT READS IS OF BULK AT MOST 1048576: true; the input reads as it did. -/
def checksumDetectsUptoRow : OpenClaim := { program := "ytjpdlobfngbclaa", sum := "48a793bf8c3f513f49bd82393f827f2c660e522e9cab28d35cbd170db9695ea5", func := "transit/transitlaw10.ChecksumDetects", spec := "checksumDetects", apart := false, narrowed := true }
def ChecksumDetectsUptoSaid : Prop := checksumDetectsUptoRow.holds Try.pinned (OpenSpec.upto checksumDetectsSpec)

/-- 'transitlaw10.ChecksumEnds', WHERE WHAT IT READS IS OF BULK AT MOST 1048576: true; the input reads as it did. -/
def checksumEndsUptoRow : OpenClaim := { program := "ytjpdlobfngbclaa", sum := "48a793bf8c3f513f49bd82393f827f2c660e522e9cab28d35cbd170db9695ea5", func := "transit/transitlaw10.ChecksumEnds", spec := "checksumEnds", apart := false, narrowed := true }
def ChecksumEndsUptoSaid : Prop := checksumEndsUptoRow.holds Try.pinned (OpenSpec.upto checksumEndsSpec)

/-- 'transitlaw10.ChecksumLinear', WHERE WHAT IT READS IS OF BULK AT MOST 1048576: true; the input reads as it did. -/
def checksumLinearUptoRow : OpenClaim := { program := "ytjpdlobfngbclaa", sum := "48a793bf8c3f513f49bd82393f827f2c660e522e9cab28d35cbd170db9695ea5", func := "transit/transitlaw10.ChecksumLinear", spec := "checksumLinear", apart := false, narrowed := true }
def ChecksumLinearUptoSaid : Prop := checksumLinearUptoRow.holds Try.pinned (OpenSpec.upto checksumLinearSpec)

/-- 'transitlaw52.JournalBeginnings', WHERE WHAT IT READS IS OF BULK AT MOST 1048576: true; the input reads as it did. -/
def journalBeginningsUptoRow : OpenClaim := { program := "ytjpdlobfngbclaa", sum := "48a793bf8c3f513f49bd82393f827f2c660e522e9cab28d35cbd170db9695ea5", func := "transit/transitlaw52.JournalBeginnings", spec := "journalBeginnings", unfollowed := true, recurses := true, apart := false, narrowed := true }
def JournalBeginningsUptoSaid : Prop := journalBeginningsUptoRow.holds Try.pinned (OpenSpec.upto journalBeginningsSpec)

/-- 'transitlaw11.BinencPuts', WHERE WHAT IT READS IS OF BULK AT MOST 1048576: true; the input reads as it did. -/
def binencPutsUptoRow : OpenClaim := { program := "ytjpdlobfngbclaa", sum := "48a793bf8c3f513f49bd82393f827f2c660e522e9cab28d35cbd170db9695ea5", func := "transit/transitlaw11.BinencPuts", spec := "binencPuts", apart := false, narrowed := true }
def BinencPutsUptoSaid : Prop := binencPutsUptoRow.holds Try.pinned (OpenSpec.upto binencPutsSpec)

/-- 'transitlaw11.BinencStrings', WHERE WHAT IT READS IS OF BULK AT MOST 1048576: true; the input reads as it did. -/
def binencStringsUptoRow : OpenClaim := { program := "ytjpdlobfngbclaa", sum := "48a793bf8c3f513f49bd82393f827f2c660e522e9cab28d35cbd170db9695ea5", func := "transit/transitlaw11.BinencStrings", spec := "binencStrings", apart := false, narrowed := true }
def BinencStringsUptoSaid : Prop := binencStringsUptoRow.holds Try.pinned (OpenSpec.upto binencStringsSpec)

/-- 'transitlaw11.BinencUints', WHERE WHAT IT READS IS OF BULK AT MOST 1048576: true; the input reads as it did. -/
def binencUintsUptoRow : OpenClaim := { program := "ytjpdlobfngbclaa", sum := "48a793bf8c3f513f49bd82393f827f2c660e522e9cab28d35cbd170db9695ea5", func := "transit/transitlaw11.BinencUints", spec := "binencUints", apart := false, narrowed := true }
def BinencUintsUptoSaid : Prop := binencUintsUptoRow.holds Try.pinned (OpenSpec.upto binencUintsSpec)

end Rows
end Go.Proofs.Ytjpdlobfngbclaa
