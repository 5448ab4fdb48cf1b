/-
  No cell of these rows narrows 'for every input' (looked for: loops, veiled, ifaces, maps, wideKeys, modest, calm, conditions, laid).
  DERIVED. THE GIVEN ROWS OF THIS SEAT. 12 by the template 'for every input the law returns true; each argument reads behind the call as it read before'; 0 by the template 'total and deterministic' (their statements: YtofiljboaegekaaTotals.lean).
  GIVEN WITH THE SEED: the statements are not yours to turn. If you find one false, say at which input.
  Laid BY PROGRAM, IN A SANDBOX (cutbox-rows.mjs): the forced cells as the released guide's own fill.sh prints them over the translation 0cdbf4b6a45806b1… (all of the seat's roots in one cut). By AI agents, Wed Nov 11 2026. No macro, syntax, notation, axiom, sorry.
-/
import Derived.Test.YtofiljboaegekaaChecked
import GoSem.Claim
import GoSem.ClaimJoined
import GoSem.ClaimMapViews
import Derived.JoinedTies
import Derived.KernelRfl
namespace Go.Proofs.Ytofiljboaegekaa
/- THE CELL 'sum', in the pinned program and in every row, IS THE sha256 OF THE DUMP (.gsa) THAT YtofiljboaegekaaProg.lean LOADS. Nothing in Lean hashes anything: it is a label: what it is worth is what the hold of that sum in a sandbox is worth. -/
noncomputable def Try.pinned : Pinned := { name := "ytofiljboaegekaa", sum := "0cdbf4b6a45806b10e04300acf04a45f7b5b47b4acca9b52c4219cc987a6835f", checked := Try.checked }
namespace Rows
def none {H : Type} : Left H := { results := [], args := [] }

/-- 'laws.FnExactStreamOk': WHATEVER THE INPUT: true; the input reads as it did. -/
def fnExactStreamOkSpec : ChangeSpec := { name := "fnExactStreamOk", fn := fun _ => fun
  | [d] => { results := [.lit (.bool true)], args := [d] }
  | _ => none }
def fnExactStreamOkRow : OpenClaim := { program := "ytofiljboaegekaa", sum := "0cdbf4b6a45806b10e04300acf04a45f7b5b47b4acca9b52c4219cc987a6835f", func := "loop.example/quincunx/laws.FnExactStreamOk", spec := "fnExactStreamOk", apart := false }
def FnExactStreamOkSaid : Prop := fnExactStreamOkRow.holds Try.pinned (OpenSpec.ofChange fnExactStreamOkSpec)

/-- ITS FALSE NEIGHBOUR: 'it returns false'. Refute it at one input. -/
def fnExactStreamOkWrong : ChangeSpec := { name := "fnExactStreamOk", fn := fun _ => fun
  | [d] => { results := [.lit (.bool false)], args := [d] }
  | _ => none }
def FnExactStreamOkWrongFalsely : Prop := fnExactStreamOkRow.holds Try.pinned (OpenSpec.ofChange fnExactStreamOkWrong)

/-- 'laws.FnExactLeaderNew': WHATEVER THE INPUT: true; the input reads as it did. -/
def fnExactLeaderNewSpec : ChangeSpec := { name := "fnExactLeaderNew", fn := fun _ => fun
  | [d] => { results := [.lit (.bool true)], args := [d] }
  | _ => none }
def fnExactLeaderNewRow : OpenClaim := { program := "ytofiljboaegekaa", sum := "0cdbf4b6a45806b10e04300acf04a45f7b5b47b4acca9b52c4219cc987a6835f", func := "loop.example/quincunx/laws.FnExactLeaderNew", spec := "fnExactLeaderNew", apart := false }
def FnExactLeaderNewSaid : Prop := fnExactLeaderNewRow.holds Try.pinned (OpenSpec.ofChange fnExactLeaderNewSpec)

/-- ITS FALSE NEIGHBOUR: 'it returns false'. Refute it at one input. -/
def fnExactLeaderNewWrong : ChangeSpec := { name := "fnExactLeaderNew", fn := fun _ => fun
  | [d] => { results := [.lit (.bool false)], args := [d] }
  | _ => none }
def FnExactLeaderNewWrongFalsely : Prop := fnExactLeaderNewRow.holds Try.pinned (OpenSpec.ofChange fnExactLeaderNewWrong)

/-- 'laws.FnGroupWaits': WHATEVER THE INPUT: true; the input reads as it did. -/
def fnGroupWaitsSpec : ChangeSpec := { name := "fnGroupWaits", fn := fun _ => fun
  | [d] => { results := [.lit (.bool true)], args := [d] }
  | _ => none }
def fnGroupWaitsRow : OpenClaim := { program := "ytofiljboaegekaa", sum := "0cdbf4b6a45806b10e04300acf04a45f7b5b47b4acca9b52c4219cc987a6835f", func := "loop.example/quincunx/laws.FnGroupWaits", spec := "fnGroupWaits", recurses := true, apart := false }
def FnGroupWaitsSaid : Prop := fnGroupWaitsRow.holds Try.pinned (OpenSpec.ofChange fnGroupWaitsSpec)

/-- ITS FALSE NEIGHBOUR: 'it returns false'. Refute it at one input. -/
def fnGroupWaitsWrong : ChangeSpec := { name := "fnGroupWaits", fn := fun _ => fun
  | [d] => { results := [.lit (.bool false)], args := [d] }
  | _ => none }
def FnGroupWaitsWrongFalsely : Prop := fnGroupWaitsRow.holds Try.pinned (OpenSpec.ofChange fnGroupWaitsWrong)

/-- 'laws.FnStreamRange': WHATEVER THE INPUT: true; the input reads as it did. -/
def fnStreamRangeSpec : ChangeSpec := { name := "fnStreamRange", fn := fun _ => fun
  | [d] => { results := [.lit (.bool true)], args := [d] }
  | _ => none }
def fnStreamRangeRow : OpenClaim := { program := "ytofiljboaegekaa", sum := "0cdbf4b6a45806b10e04300acf04a45f7b5b47b4acca9b52c4219cc987a6835f", func := "loop.example/quincunx/laws.FnStreamRange", spec := "fnStreamRange", recurses := true, apart := false }
def FnStreamRangeSaid : Prop := fnStreamRangeRow.holds Try.pinned (OpenSpec.ofChange fnStreamRangeSpec)

/-- ITS FALSE NEIGHBOUR: 'it returns false'. Refute it at one input. -/
def fnStreamRangeWrong : ChangeSpec := { name := "fnStreamRange", fn := fun _ => fun
  | [d] => { results := [.lit (.bool false)], args := [d] }
  | _ => none }
def FnStreamRangeWrongFalsely : Prop := fnStreamRangeRow.holds Try.pinned (OpenSpec.ofChange fnStreamRangeWrong)

/-- 'laws.FnStreamAdd': WHATEVER THE INPUT: true; the input reads as it did. -/
def fnStreamAddSpec : ChangeSpec := { name := "fnStreamAdd", fn := fun _ => fun
  | [d] => { results := [.lit (.bool true)], args := [d] }
  | _ => none }
def fnStreamAddRow : OpenClaim := { program := "ytofiljboaegekaa", sum := "0cdbf4b6a45806b10e04300acf04a45f7b5b47b4acca9b52c4219cc987a6835f", func := "loop.example/quincunx/laws.FnStreamAdd", spec := "fnStreamAdd", recurses := true, apart := false }
def FnStreamAddSaid : Prop := fnStreamAddRow.holds Try.pinned (OpenSpec.ofChange fnStreamAddSpec)

/-- ITS FALSE NEIGHBOUR: 'it returns false'. Refute it at one input. -/
def fnStreamAddWrong : ChangeSpec := { name := "fnStreamAdd", fn := fun _ => fun
  | [d] => { results := [.lit (.bool false)], args := [d] }
  | _ => none }
def FnStreamAddWrongFalsely : Prop := fnStreamAddRow.holds Try.pinned (OpenSpec.ofChange fnStreamAddWrong)

/-- 'laws.FnStreamTrim': WHATEVER THE INPUT: true; the input reads as it did. -/
def fnStreamTrimSpec : ChangeSpec := { name := "fnStreamTrim", fn := fun _ => fun
  | [d] => { results := [.lit (.bool true)], args := [d] }
  | _ => none }
def fnStreamTrimRow : OpenClaim := { program := "ytofiljboaegekaa", sum := "0cdbf4b6a45806b10e04300acf04a45f7b5b47b4acca9b52c4219cc987a6835f", func := "loop.example/quincunx/laws.FnStreamTrim", spec := "fnStreamTrim", recurses := true, apart := false }
def FnStreamTrimSaid : Prop := fnStreamTrimRow.holds Try.pinned (OpenSpec.ofChange fnStreamTrimSpec)

/-- ITS FALSE NEIGHBOUR: 'it returns false'. Refute it at one input. -/
def fnStreamTrimWrong : ChangeSpec := { name := "fnStreamTrim", fn := fun _ => fun
  | [d] => { results := [.lit (.bool false)], args := [d] }
  | _ => none }
def FnStreamTrimWrongFalsely : Prop := fnStreamTrimRow.holds Try.pinned (OpenSpec.ofChange fnStreamTrimWrong)

/-- 'laws.FnGroupRead': WHATEVER THE INPUT: true; the input reads as it did. -/
def fnGroupReadSpec : ChangeSpec := { name := "fnGroupRead", fn := fun _ => fun
  | [d] => { results := [.lit (.bool true)], args := [d] }
  | _ => none }
def fnGroupReadRow : OpenClaim := { program := "ytofiljboaegekaa", sum := "0cdbf4b6a45806b10e04300acf04a45f7b5b47b4acca9b52c4219cc987a6835f", func := "loop.example/quincunx/laws.FnGroupRead", spec := "fnGroupRead", recurses := true, apart := false }
def FnGroupReadSaid : Prop := fnGroupReadRow.holds Try.pinned (OpenSpec.ofChange fnGroupReadSpec)

/-- ITS FALSE NEIGHBOUR: 'it returns false'. Refute it at one input. -/
def fnGroupReadWrong : ChangeSpec := { name := "fnGroupRead", fn := fun _ => fun
  | [d] => { results := [.lit (.bool false)], args := [d] }
  | _ => none }
def FnGroupReadWrongFalsely : Prop := fnGroupReadRow.holds Try.pinned (OpenSpec.ofChange fnGroupReadWrong)

/-- 'laws.FnExactStreamRange': WHATEVER THE INPUT: true; the input reads as it did. -/
def fnExactStreamRangeSpec : ChangeSpec := { name := "fnExactStreamRange", fn := fun _ => fun
  | [d1, d2, d3, d4] => { results := [.lit (.bool true)], args := [d1, d2, d3, d4] }
  | _ => none }
def fnExactStreamRangeRow : OpenClaim := { program := "ytofiljboaegekaa", sum := "0cdbf4b6a45806b10e04300acf04a45f7b5b47b4acca9b52c4219cc987a6835f", func := "loop.example/quincunx/laws.FnExactStreamRange", spec := "fnExactStreamRange", apart := false }
def FnExactStreamRangeSaid : Prop := fnExactStreamRangeRow.holds Try.pinned (OpenSpec.ofChange fnExactStreamRangeSpec)

/-- ITS FALSE NEIGHBOUR: 'it returns false'. Refute it at one input. -/
def fnExactStreamRangeWrong : ChangeSpec := { name := "fnExactStreamRange", fn := fun _ => fun
  | [d1, d2, d3, d4] => { results := [.lit (.bool false)], args := [d1, d2, d3, d4] }
  | _ => none }
def FnExactStreamRangeWrongFalsely : Prop := fnExactStreamRangeRow.holds Try.pinned (OpenSpec.ofChange fnExactStreamRangeWrong)

/-- 'laws.FnExactGroupWaits': WHATEVER THE INPUT: true; the input reads as it did. -/
def fnExactGroupWaitsSpec : ChangeSpec := { name := "fnExactGroupWaits", fn := fun _ => fun
  | [d1, d2, d3] => { results := [.lit (.bool true)], args := [d1, d2, d3] }
  | _ => none }
def fnExactGroupWaitsRow : OpenClaim := { program := "ytofiljboaegekaa", sum := "0cdbf4b6a45806b10e04300acf04a45f7b5b47b4acca9b52c4219cc987a6835f", func := "loop.example/quincunx/laws.FnExactGroupWaits", spec := "fnExactGroupWaits", apart := false }
def FnExactGroupWaitsSaid : Prop := fnExactGroupWaitsRow.holds Try.pinned (OpenSpec.ofChange fnExactGroupWaitsSpec)

/-- ITS FALSE NEIGHBOUR: 'it returns false'. Refute it at one input. -/
def fnExactGroupWaitsWrong : ChangeSpec := { name := "fnExactGroupWaits", fn := fun _ => fun
  | [d1, d2, d3] => { results := [.lit (.bool false)], args := [d1, d2, d3] }
  | _ => none }
def FnExactGroupWaitsWrongFalsely : Prop := fnExactGroupWaitsRow.holds Try.pinned (OpenSpec.ofChange fnExactGroupWaitsWrong)

/-- 'laws.FnStreamDrop': WHATEVER THE INPUT: true; the input reads as it did. -/
def fnStreamDropSpec : ChangeSpec := { name := "fnStreamDrop", fn := fun _ => fun
  | [d] => { results := [.lit (.bool true)], args := [d] }
  | _ => none }
def fnStreamDropRow : OpenClaim := { program := "ytofiljboaegekaa", sum := "0cdbf4b6a45806b10e04300acf04a45f7b5b47b4acca9b52c4219cc987a6835f", func := "loop.example/quincunx/laws.FnStreamDrop", spec := "fnStreamDrop", unfollowed := true, recurses := true, apart := false }
def FnStreamDropSaid : Prop := fnStreamDropRow.holds Try.pinned (OpenSpec.ofChange fnStreamDropSpec)

/-- ITS FALSE NEIGHBOUR: 'it returns false'. Refute it at one input. -/
def fnStreamDropWrong : ChangeSpec := { name := "fnStreamDrop", fn := fun _ => fun
  | [d] => { results := [.lit (.bool false)], args := [d] }
  | _ => none }
def FnStreamDropWrongFalsely : Prop := fnStreamDropRow.holds Try.pinned (OpenSpec.ofChange fnStreamDropWrong)

/-- 'laws.FnGroupDone': WHATEVER THE INPUT: true; the input reads as it did. -/
def fnGroupDoneSpec : ChangeSpec := { name := "fnGroupDone", fn := fun _ => fun
  | [d] => { results := [.lit (.bool true)], args := [d] }
  | _ => none }
def fnGroupDoneRow : OpenClaim := { program := "ytofiljboaegekaa", sum := "0cdbf4b6a45806b10e04300acf04a45f7b5b47b4acca9b52c4219cc987a6835f", func := "loop.example/quincunx/laws.FnGroupDone", spec := "fnGroupDone", recurses := true, apart := false }
def FnGroupDoneSaid : Prop := fnGroupDoneRow.holds Try.pinned (OpenSpec.ofChange fnGroupDoneSpec)

/-- ITS FALSE NEIGHBOUR: 'it returns false'. Refute it at one input. -/
def fnGroupDoneWrong : ChangeSpec := { name := "fnGroupDone", fn := fun _ => fun
  | [d] => { results := [.lit (.bool false)], args := [d] }
  | _ => none }
def FnGroupDoneWrongFalsely : Prop := fnGroupDoneRow.holds Try.pinned (OpenSpec.ofChange fnGroupDoneWrong)

/-- 'laws.FnExactScoresBoth': WHATEVER THE INPUT: true; the input reads as it did. -/
def fnExactScoresBothSpec : ChangeSpec := { name := "fnExactScoresBoth", fn := fun _ => fun
  | [d1, d2] => { results := [.lit (.bool true)], args := [d1, d2] }
  | _ => none }
def fnExactScoresBothRow : OpenClaim := { program := "ytofiljboaegekaa", sum := "0cdbf4b6a45806b10e04300acf04a45f7b5b47b4acca9b52c4219cc987a6835f", func := "loop.example/quincunx/laws.FnExactScoresBoth", spec := "fnExactScoresBoth", unfollowed := true, recurses := true, apart := false }
def FnExactScoresBothSaid : Prop := fnExactScoresBothRow.holds Try.pinned (OpenSpec.ofChange fnExactScoresBothSpec)

/-- ITS FALSE NEIGHBOUR: 'it returns false'. Refute it at one input. -/
def fnExactScoresBothWrong : ChangeSpec := { name := "fnExactScoresBoth", fn := fun _ => fun
  | [d1, d2] => { results := [.lit (.bool false)], args := [d1, d2] }
  | _ => none }
def FnExactScoresBothWrongFalsely : Prop := fnExactScoresBothRow.holds Try.pinned (OpenSpec.ofChange fnExactScoresBothWrong)

/- THE SECOND FORM. 'bulk': how many values and letters a reading holds, each counted each time it is reached (what is shared counts as often as it is met; a slice's spare places count too). A statement '..UptoSaid' is the law's where the arguments, and the package variables that the reading takes, are together of bulk at most 1048576: NARROWER than '..Said'. Prove '..Said' where nothing that the law and all that it calls make is longer than what came in: it says more and counts as full. Else prove '..UptoSaid'. A law counts once. -/
mutual
def uptoBulk {H : Type} : DataW H → Nat
  | .lit (.string bytes) => bytes.length + 1
  | .lit _ => 1
  | .nil => 1
  | .ptr d => uptoBulk d + 1
  | .slice elems spare => uptoBulkAll elems + uptoBulkAll spare + 1
  | .agg parts => uptoBulkAll parts + 1
  | .iface _ d => uptoBulk d + 1
  | .map entries => uptoBulkEntries entries + 1
  | .held _ => 1
def uptoBulkAll {H : Type} : List (DataW H) → Nat
  | [] => 0
  | d :: r => uptoBulk d + uptoBulkAll r
def uptoBulkEntries {H : Type} : List (Lit × DataW H) → Nat
  | [] => 0
  | x :: r => uptoBulkEntry x + uptoBulkEntries r
def uptoBulkEntry {H : Type} : Lit × DataW H → Nat
  | (.string bytes, d) => bytes.length + uptoBulk d + 1
  | (_, d) => uptoBulk d + 1
 end
def uptoSmall : (H : Type) → List (DataW H) → Bool := fun _ ds => decide (uptoBulkAll ds ≤ 1048576)
def OpenSpec.upto (s : _root_.Go.ChangeSpec) : _root_.Go.OpenSpec := { _root_.Go.OpenSpec.ofChange s with cond := some uptoSmall }

/-- 'laws.FnExactStreamOk', WHERE WHAT IT READS IS OF BULK AT MOST 1048576: true; the input reads as it did. -/
def fnExactStreamOkUptoRow : OpenClaim := { program := "ytofiljboaegekaa", sum := "0cdbf4b6a45806b10e04300acf04a45f7b5b47b4acca9b52c4219cc987a6835f", func := "loop.example/quincunx/laws.FnExactStreamOk", spec := "fnExactStreamOk", apart := false, narrowed := true }
def FnExactStreamOkUptoSaid : Prop := fnExactStreamOkUptoRow.holds Try.pinned (OpenSpec.upto fnExactStreamOkSpec)

/-- 'laws.FnExactLeaderNew', WHERE WHAT IT READS IS OF BULK AT MOST 1048576: true; the input reads as it did. -/
def fnExactLeaderNewUptoRow : OpenClaim := { program := "ytofiljboaegekaa", sum := "0cdbf4b6a45806b10e04300acf04a45f7b5b47b4acca9b52c4219cc987a6835f", func := "loop.example/quincunx/laws.FnExactLeaderNew", spec := "fnExactLeaderNew", apart := false, narrowed := true }
def FnExactLeaderNewUptoSaid : Prop := fnExactLeaderNewUptoRow.holds Try.pinned (OpenSpec.upto fnExactLeaderNewSpec)

/-- 'laws.FnGroupWaits', WHERE WHAT IT READS IS OF BULK AT MOST 1048576: true; the input reads as it did. -/
def fnGroupWaitsUptoRow : OpenClaim := { program := "ytofiljboaegekaa", sum := "0cdbf4b6a45806b10e04300acf04a45f7b5b47b4acca9b52c4219cc987a6835f", func := "loop.example/quincunx/laws.FnGroupWaits", spec := "fnGroupWaits", recurses := true, apart := false, narrowed := true }
def FnGroupWaitsUptoSaid : Prop := fnGroupWaitsUptoRow.holds Try.pinned (OpenSpec.upto fnGroupWaitsSpec)

/-- 'laws.FnStreamRange', WHERE WHAT IT READS IS OF BULK AT MOST 1048576: true; the input reads as it did. -/
def fnStreamRangeUptoRow : OpenClaim := { program := "ytofiljboaegekaa", sum := "0cdbf4b6a45806b10e04300acf04a45f7b5b47b4acca9b52c4219cc987a6835f", func := "loop.example/quincunx/laws.FnStreamRange", spec := "fnStreamRange", recurses := true, apart := false, narrowed := true }
def FnStreamRangeUptoSaid : Prop := fnStreamRangeUptoRow.holds Try.pinned (OpenSpec.upto fnStreamRangeSpec)

/-- 'laws.FnStreamAdd', WHERE WHAT IT READS IS OF BULK AT MOST 1048576: true; the input reads as it did. -/
def fnStreamAddUptoRow : OpenClaim := { program := "ytofiljboaegekaa", sum := "0cdbf4b6a45806b10e04300acf04a45f7b5b47b4acca9b52c4219cc987a6835f", func := "loop.example/quincunx/laws.FnStreamAdd", spec := "fnStreamAdd", recurses := true, apart := false, narrowed := true }
def FnStreamAddUptoSaid : Prop := fnStreamAddUptoRow.holds Try.pinned (OpenSpec.upto fnStreamAddSpec)

/-- 'laws.FnStreamTrim', WHERE WHAT IT READS IS OF BULK AT MOST 1048576: true; the input reads as it did. -/
def fnStreamTrimUptoRow : OpenClaim := { program := "ytofiljboaegekaa", sum := "0cdbf4b6a45806b10e04300acf04a45f7b5b47b4acca9b52c4219cc987a6835f", func := "loop.example/quincunx/laws.FnStreamTrim", spec := "fnStreamTrim", recurses := true, apart := false, narrowed := true }
def FnStreamTrimUptoSaid : Prop := fnStreamTrimUptoRow.holds Try.pinned (OpenSpec.upto fnStreamTrimSpec)

/-- 'laws.FnGroupRead', WHERE WHAT IT READS IS OF BULK AT MOST 1048576: true; the input reads as it did. -/
def fnGroupReadUptoRow : OpenClaim := { program := "ytofiljboaegekaa", sum := "0cdbf4b6a45806b10e04300acf04a45f7b5b47b4acca9b52c4219cc987a6835f", func := "loop.example/quincunx/laws.FnGroupRead", spec := "fnGroupRead", recurses := true, apart := false, narrowed := true }
def FnGroupReadUptoSaid : Prop := fnGroupReadUptoRow.holds Try.pinned (OpenSpec.upto fnGroupReadSpec)

/-- 'laws.FnExactStreamRange', WHERE WHAT IT READS IS OF BULK AT MOST 1048576: true; the input reads as it did. -/
def fnExactStreamRangeUptoRow : OpenClaim := { program := "ytofiljboaegekaa", sum := "0cdbf4b6a45806b10e04300acf04a45f7b5b47b4acca9b52c4219cc987a6835f", func := "loop.example/quincunx/laws.FnExactStreamRange", spec := "fnExactStreamRange", apart := false, narrowed := true }
def FnExactStreamRangeUptoSaid : Prop := fnExactStreamRangeUptoRow.holds Try.pinned (OpenSpec.upto fnExactStreamRangeSpec)

/-- 'laws.FnExactGroupWaits', WHERE WHAT IT READS IS OF BULK AT MOST 1048576: true; the input reads as it did. -/
def fnExactGroupWaitsUptoRow : OpenClaim := { program := "ytofiljboaegekaa", sum := "0cdbf4b6a45806b10e04300acf04a45f7b5b47b4acca9b52c4219cc987a6835f", func := "loop.example/quincunx/laws.FnExactGroupWaits", spec := "fnExactGroupWaits", apart := false, narrowed := true }
def FnExactGroupWaitsUptoSaid : Prop := fnExactGroupWaitsUptoRow.holds Try.pinned (OpenSpec.upto fnExactGroupWaitsSpec)

/-- 'laws.FnStreamDrop', WHERE WHAT IT READS IS OF BULK AT MOST 1048576: true; the input reads as it did. -/
def fnStreamDropUptoRow : OpenClaim := { program := "ytofiljboaegekaa", sum := "0cdbf4b6a45806b10e04300acf04a45f7b5b47b4acca9b52c4219cc987a6835f", func := "loop.example/quincunx/laws.FnStreamDrop", spec := "fnStreamDrop", unfollowed := true, recurses := true, apart := false, narrowed := true }
def FnStreamDropUptoSaid : Prop := fnStreamDropUptoRow.holds Try.pinned (OpenSpec.upto fnStreamDropSpec)

/-- 'laws.FnGroupDone', WHERE WHAT IT READS IS OF BULK AT MOST 1048576: true; the input reads as it did. -/
def fnGroupDoneUptoRow : OpenClaim := { program := "ytofiljboaegekaa", sum := "0cdbf4b6a45806b10e04300acf04a45f7b5b47b4acca9b52c4219cc987a6835f", func := "loop.example/quincunx/laws.FnGroupDone", spec := "fnGroupDone", recurses := true, apart := false, narrowed := true }
def FnGroupDoneUptoSaid : Prop := fnGroupDoneUptoRow.holds Try.pinned (OpenSpec.upto fnGroupDoneSpec)

/-- 'laws.FnExactScoresBoth', WHERE WHAT IT READS IS OF BULK AT MOST 1048576: true; the input reads as it did. -/
def fnExactScoresBothUptoRow : OpenClaim := { program := "ytofiljboaegekaa", sum := "0cdbf4b6a45806b10e04300acf04a45f7b5b47b4acca9b52c4219cc987a6835f", func := "loop.example/quincunx/laws.FnExactScoresBoth", spec := "fnExactScoresBoth", unfollowed := true, recurses := true, apart := false, narrowed := true }
def FnExactScoresBothUptoSaid : Prop := fnExactScoresBothUptoRow.holds Try.pinned (OpenSpec.upto fnExactScoresBothSpec)

end Rows
end Go.Proofs.Ytofiljboaegekaa
