/-
  No cell of these rows narrows 'for every input' (looked for: loops, veiled, ifaces, maps, wideKeys, modest, calm, conditions, laid).
  DERIVED. THE GIVEN ROWS OF THIS SEAT. 11 by the template 'for every input the law returns true; each argument reads behind the call as it read before'; 0 by the template 'total and deterministic' (their statements: YtofiljboaegekabTotals.lean).
  GIVEN WITH THE SEED: the statements are not yours to turn. If you find one false, say at which input.
  Laid BY PROGRAM, IN A SANDBOX (cutbox-rows.mjs): the forced cells as the released guide's own fill.sh prints them over the translation 18ea701a8fe86fe3… (all of the seat's roots in one cut). By AI agents, Wed Nov 11 2026. No macro, syntax, notation, axiom, sorry.
-/
import Derived.Test.YtofiljboaegekabChecked
import GoSem.Claim
import GoSem.ClaimJoined
import GoSem.ClaimMapViews
import Derived.JoinedTies
import Derived.KernelRfl
namespace Go.Proofs.Ytofiljboaegekab
/- THE CELL 'sum', in the pinned program and in every row, IS THE sha256 OF THE DUMP (.gsa) THAT YtofiljboaegekabProg.lean LOADS. Nothing in Lean hashes anything: it is a label: what it is worth is what the hold of that sum in a sandbox is worth. -/
noncomputable def Try.pinned : Pinned := { name := "ytofiljboaegekab", sum := "18ea701a8fe86fe388ed54dd963c516fcade48eda540426af24ce3b15b853f12", checked := Try.checked }
namespace Rows
def none {H : Type} : Left H := { results := [], args := [] }

/-- 'laws.FnExactScoresAny': WHATEVER THE INPUT: true; the input reads as it did. -/
def fnExactScoresAnySpec : ChangeSpec := { name := "fnExactScoresAny", fn := fun _ => fun
  | [d1, d2] => { results := [.lit (.bool true)], args := [d1, d2] }
  | _ => none }
def fnExactScoresAnyRow : OpenClaim := { program := "ytofiljboaegekab", sum := "18ea701a8fe86fe388ed54dd963c516fcade48eda540426af24ce3b15b853f12", func := "loop.example/quincunx/laws.FnExactScoresAny", spec := "fnExactScoresAny", unfollowed := true, recurses := true, apart := false }
def FnExactScoresAnySaid : Prop := fnExactScoresAnyRow.holds Try.pinned (OpenSpec.ofChange fnExactScoresAnySpec)

/-- ITS FALSE NEIGHBOUR: 'it returns false'. Refute it at one input. -/
def fnExactScoresAnyWrong : ChangeSpec := { name := "fnExactScoresAny", fn := fun _ => fun
  | [d1, d2] => { results := [.lit (.bool false)], args := [d1, d2] }
  | _ => none }
def FnExactScoresAnyWrongFalsely : Prop := fnExactScoresAnyRow.holds Try.pinned (OpenSpec.ofChange fnExactScoresAnyWrong)

/-- 'laws.FnGroupTake': WHATEVER THE INPUT: true; the input reads as it did. -/
def fnGroupTakeSpec : ChangeSpec := { name := "fnGroupTake", fn := fun _ => fun
  | [d] => { results := [.lit (.bool true)], args := [d] }
  | _ => none }
def fnGroupTakeRow : OpenClaim := { program := "ytofiljboaegekab", sum := "18ea701a8fe86fe388ed54dd963c516fcade48eda540426af24ce3b15b853f12", func := "loop.example/quincunx/laws.FnGroupTake", spec := "fnGroupTake", unfollowed := true, recurses := true, apart := false }
def FnGroupTakeSaid : Prop := fnGroupTakeRow.holds Try.pinned (OpenSpec.ofChange fnGroupTakeSpec)

/-- ITS FALSE NEIGHBOUR: 'it returns false'. Refute it at one input. -/
def fnGroupTakeWrong : ChangeSpec := { name := "fnGroupTake", fn := fun _ => fun
  | [d] => { results := [.lit (.bool false)], args := [d] }
  | _ => none }
def FnGroupTakeWrongFalsely : Prop := fnGroupTakeRow.holds Try.pinned (OpenSpec.ofChange fnGroupTakeWrong)

/-- 'laws.FnExactScan': WHATEVER THE INPUT: true; the input reads as it did. -/
def fnExactScanSpec : ChangeSpec := { name := "fnExactScan", fn := fun _ => fun
  | [d1, d2, d3, d4] => { results := [.lit (.bool true)], args := [d1, d2, d3, d4] }
  | _ => none }
def fnExactScanRow : OpenClaim := { program := "ytofiljboaegekab", sum := "18ea701a8fe86fe388ed54dd963c516fcade48eda540426af24ce3b15b853f12", func := "loop.example/quincunx/laws.FnExactScan", spec := "fnExactScan", inPlace := ["internal/bytealg.abigen_runtime_cmpstring"], unfollowed := true, recurses := true, apart := false }
def FnExactScanSaid : Prop := fnExactScanRow.holds Try.pinned (OpenSpec.ofChange fnExactScanSpec)

/-- ITS FALSE NEIGHBOUR: 'it returns false'. Refute it at one input. -/
def fnExactScanWrong : ChangeSpec := { name := "fnExactScan", fn := fun _ => fun
  | [d1, d2, d3, d4] => { results := [.lit (.bool false)], args := [d1, d2, d3, d4] }
  | _ => none }
def FnExactScanWrongFalsely : Prop := fnExactScanRow.holds Try.pinned (OpenSpec.ofChange fnExactScanWrong)

/-- 'laws.FnExactStreamTrim': WHATEVER THE INPUT: true; the input reads as it did. -/
def fnExactStreamTrimSpec : ChangeSpec := { name := "fnExactStreamTrim", fn := fun _ => fun
  | [d1, d2] => { results := [.lit (.bool true)], args := [d1, d2] }
  | _ => none }
def fnExactStreamTrimRow : OpenClaim := { program := "ytofiljboaegekab", sum := "18ea701a8fe86fe388ed54dd963c516fcade48eda540426af24ce3b15b853f12", func := "loop.example/quincunx/laws.FnExactStreamTrim", spec := "fnExactStreamTrim", apart := false }
def FnExactStreamTrimSaid : Prop := fnExactStreamTrimRow.holds Try.pinned (OpenSpec.ofChange fnExactStreamTrimSpec)

/-- ITS FALSE NEIGHBOUR: 'it returns false'. Refute it at one input. -/
def fnExactStreamTrimWrong : ChangeSpec := { name := "fnExactStreamTrim", fn := fun _ => fun
  | [d1, d2] => { results := [.lit (.bool false)], args := [d1, d2] }
  | _ => none }
def FnExactStreamTrimWrongFalsely : Prop := fnExactStreamTrimRow.holds Try.pinned (OpenSpec.ofChange fnExactStreamTrimWrong)

/-- 'laws.FnScoresAny': WHATEVER THE INPUT: true; the input reads as it did. -/
def fnScoresAnySpec : ChangeSpec := { name := "fnScoresAny", fn := fun _ => fun
  | [d] => { results := [.lit (.bool true)], args := [d] }
  | _ => none }
def fnScoresAnyRow : OpenClaim := { program := "ytofiljboaegekab", sum := "18ea701a8fe86fe388ed54dd963c516fcade48eda540426af24ce3b15b853f12", func := "loop.example/quincunx/laws.FnScoresAny", spec := "fnScoresAny", unfollowed := true, recurses := true, apart := false }
def FnScoresAnySaid : Prop := fnScoresAnyRow.holds Try.pinned (OpenSpec.ofChange fnScoresAnySpec)

/-- ITS FALSE NEIGHBOUR: 'it returns false'. Refute it at one input. -/
def fnScoresAnyWrong : ChangeSpec := { name := "fnScoresAny", fn := fun _ => fun
  | [d] => { results := [.lit (.bool false)], args := [d] }
  | _ => none }
def FnScoresAnyWrongFalsely : Prop := fnScoresAnyRow.holds Try.pinned (OpenSpec.ofChange fnScoresAnyWrong)

/-- 'laws.FnExactStreamAdd': WHATEVER THE INPUT: true; the input reads as it did. -/
def fnExactStreamAddSpec : ChangeSpec := { name := "fnExactStreamAdd", fn := fun _ => fun
  | [d1, d2, d3] => { results := [.lit (.bool true)], args := [d1, d2, d3] }
  | _ => none }
def fnExactStreamAddRow : OpenClaim := { program := "ytofiljboaegekab", sum := "18ea701a8fe86fe388ed54dd963c516fcade48eda540426af24ce3b15b853f12", func := "loop.example/quincunx/laws.FnExactStreamAdd", spec := "fnExactStreamAdd", apart := false }
def FnExactStreamAddSaid : Prop := fnExactStreamAddRow.holds Try.pinned (OpenSpec.ofChange fnExactStreamAddSpec)

/-- ITS FALSE NEIGHBOUR: 'it returns false'. Refute it at one input. -/
def fnExactStreamAddWrong : ChangeSpec := { name := "fnExactStreamAdd", fn := fun _ => fun
  | [d1, d2, d3] => { results := [.lit (.bool false)], args := [d1, d2, d3] }
  | _ => none }
def FnExactStreamAddWrongFalsely : Prop := fnExactStreamAddRow.holds Try.pinned (OpenSpec.ofChange fnExactStreamAddWrong)

/-- 'laws.FnExactStreamDrop': WHATEVER THE INPUT: true; the input reads as it did. -/
def fnExactStreamDropSpec : ChangeSpec := { name := "fnExactStreamDrop", fn := fun _ => fun
  | [d1, d2] => { results := [.lit (.bool true)], args := [d1, d2] }
  | _ => none }
def fnExactStreamDropRow : OpenClaim := { program := "ytofiljboaegekab", sum := "18ea701a8fe86fe388ed54dd963c516fcade48eda540426af24ce3b15b853f12", func := "loop.example/quincunx/laws.FnExactStreamDrop", spec := "fnExactStreamDrop", unfollowed := true, recurses := true, apart := false }
def FnExactStreamDropSaid : Prop := fnExactStreamDropRow.holds Try.pinned (OpenSpec.ofChange fnExactStreamDropSpec)

/-- ITS FALSE NEIGHBOUR: 'it returns false'. Refute it at one input. -/
def fnExactStreamDropWrong : ChangeSpec := { name := "fnExactStreamDrop", fn := fun _ => fun
  | [d1, d2] => { results := [.lit (.bool false)], args := [d1, d2] }
  | _ => none }
def FnExactStreamDropWrongFalsely : Prop := fnExactStreamDropRow.holds Try.pinned (OpenSpec.ofChange fnExactStreamDropWrong)

/-- 'laws.FnExactGroupRead': WHATEVER THE INPUT: true; the input reads as it did. -/
def fnExactGroupReadSpec : ChangeSpec := { name := "fnExactGroupRead", fn := fun _ => fun
  | [d1, d2, d3, d4, d5] => { results := [.lit (.bool true)], args := [d1, d2, d3, d4, d5] }
  | _ => none }
def fnExactGroupReadRow : OpenClaim := { program := "ytofiljboaegekab", sum := "18ea701a8fe86fe388ed54dd963c516fcade48eda540426af24ce3b15b853f12", func := "loop.example/quincunx/laws.FnExactGroupRead", spec := "fnExactGroupRead", apart := false }
def FnExactGroupReadSaid : Prop := fnExactGroupReadRow.holds Try.pinned (OpenSpec.ofChange fnExactGroupReadSpec)

/-- ITS FALSE NEIGHBOUR: 'it returns false'. Refute it at one input. -/
def fnExactGroupReadWrong : ChangeSpec := { name := "fnExactGroupRead", fn := fun _ => fun
  | [d1, d2, d3, d4, d5] => { results := [.lit (.bool false)], args := [d1, d2, d3, d4, d5] }
  | _ => none }
def FnExactGroupReadWrongFalsely : Prop := fnExactGroupReadRow.holds Try.pinned (OpenSpec.ofChange fnExactGroupReadWrong)

/-- 'laws.FnExactGroupTake': WHATEVER THE INPUT: true; the input reads as it did. -/
def fnExactGroupTakeSpec : ChangeSpec := { name := "fnExactGroupTake", fn := fun _ => fun
  | [d1, d2, d3, d4, d5] => { results := [.lit (.bool true)], args := [d1, d2, d3, d4, d5] }
  | _ => none }
def fnExactGroupTakeRow : OpenClaim := { program := "ytofiljboaegekab", sum := "18ea701a8fe86fe388ed54dd963c516fcade48eda540426af24ce3b15b853f12", func := "loop.example/quincunx/laws.FnExactGroupTake", spec := "fnExactGroupTake", unfollowed := true, recurses := true, apart := false }
def FnExactGroupTakeSaid : Prop := fnExactGroupTakeRow.holds Try.pinned (OpenSpec.ofChange fnExactGroupTakeSpec)

/-- ITS FALSE NEIGHBOUR: 'it returns false'. Refute it at one input. -/
def fnExactGroupTakeWrong : ChangeSpec := { name := "fnExactGroupTake", fn := fun _ => fun
  | [d1, d2, d3, d4, d5] => { results := [.lit (.bool false)], args := [d1, d2, d3, d4, d5] }
  | _ => none }
def FnExactGroupTakeWrongFalsely : Prop := fnExactGroupTakeRow.holds Try.pinned (OpenSpec.ofChange fnExactGroupTakeWrong)

/-- 'laws.FnGroupNew': WHATEVER THE INPUT: true; the input reads as it did. -/
def fnGroupNewSpec : ChangeSpec := { name := "fnGroupNew", fn := fun _ => fun
  | [d] => { results := [.lit (.bool true)], args := [d] }
  | _ => none }
def fnGroupNewRow : OpenClaim := { program := "ytofiljboaegekab", sum := "18ea701a8fe86fe388ed54dd963c516fcade48eda540426af24ce3b15b853f12", func := "loop.example/quincunx/laws.FnGroupNew", spec := "fnGroupNew", unfollowed := true, recurses := true, apart := false }
def FnGroupNewSaid : Prop := fnGroupNewRow.holds Try.pinned (OpenSpec.ofChange fnGroupNewSpec)

/-- ITS FALSE NEIGHBOUR: 'it returns false'. Refute it at one input. -/
def fnGroupNewWrong : ChangeSpec := { name := "fnGroupNew", fn := fun _ => fun
  | [d] => { results := [.lit (.bool false)], args := [d] }
  | _ => none }
def FnGroupNewWrongFalsely : Prop := fnGroupNewRow.holds Try.pinned (OpenSpec.ofChange fnGroupNewWrong)

/-- 'laws.FnExactGroupDone': WHATEVER THE INPUT: true; the input reads as it did. -/
def fnExactGroupDoneSpec : ChangeSpec := { name := "fnExactGroupDone", fn := fun _ => fun
  | [d1, d2, d3] => { results := [.lit (.bool true)], args := [d1, d2, d3] }
  | _ => none }
def fnExactGroupDoneRow : OpenClaim := { program := "ytofiljboaegekab", sum := "18ea701a8fe86fe388ed54dd963c516fcade48eda540426af24ce3b15b853f12", func := "loop.example/quincunx/laws.FnExactGroupDone", spec := "fnExactGroupDone", apart := false }
def FnExactGroupDoneSaid : Prop := fnExactGroupDoneRow.holds Try.pinned (OpenSpec.ofChange fnExactGroupDoneSpec)

/-- ITS FALSE NEIGHBOUR: 'it returns false'. Refute it at one input. -/
def fnExactGroupDoneWrong : ChangeSpec := { name := "fnExactGroupDone", fn := fun _ => fun
  | [d1, d2, d3] => { results := [.lit (.bool false)], args := [d1, d2, d3] }
  | _ => none }
def FnExactGroupDoneWrongFalsely : Prop := fnExactGroupDoneRow.holds Try.pinned (OpenSpec.ofChange fnExactGroupDoneWrong)

/- THE SECOND FORM. 'bulk': how many values and letters a reading holds, each counted each time it is reached (what is shared counts as often as it is met; a slice's spare places count too). A statement '..UptoSaid' is the law's where the arguments, and the package variables that the reading takes, are together of bulk at most 1048576: NARROWER than '..Said'. Prove '..Said' where nothing that the law and all that it calls make is longer than what came in: it says more and counts as full. Else prove '..UptoSaid'. A law counts once. -/
mutual
def uptoBulk {H : Type} : DataW H → Nat
  | .lit (.string bytes) => bytes.length + 1
  | .lit _ => 1
  | .nil => 1
  | .ptr d => uptoBulk d + 1
  | .slice elems spare => uptoBulkAll elems + uptoBulkAll spare + 1
  | .agg parts => uptoBulkAll parts + 1
  | .iface _ d => uptoBulk d + 1
  | .map entries => uptoBulkEntries entries + 1
  | .held _ => 1
def uptoBulkAll {H : Type} : List (DataW H) → Nat
  | [] => 0
  | d :: r => uptoBulk d + uptoBulkAll r
def uptoBulkEntries {H : Type} : List (Lit × DataW H) → Nat
  | [] => 0
  | x :: r => uptoBulkEntry x + uptoBulkEntries r
def uptoBulkEntry {H : Type} : Lit × DataW H → Nat
  | (.string bytes, d) => bytes.length + uptoBulk d + 1
  | (_, d) => uptoBulk d + 1
 end
def uptoSmall : (H : Type) → List (DataW H) → Bool := fun _ ds => decide (uptoBulkAll ds ≤ 1048576)
def OpenSpec.upto (s : _root_.Go.ChangeSpec) : _root_.Go.OpenSpec := { _root_.Go.OpenSpec.ofChange s with cond := some uptoSmall }

/-- 'laws.FnExactScoresAny', WHERE WHAT IT READS IS OF BULK AT MOST 1048576: true; the input reads as it did. -/
def fnExactScoresAnyUptoRow : OpenClaim := { program := "ytofiljboaegekab", sum := "18ea701a8fe86fe388ed54dd963c516fcade48eda540426af24ce3b15b853f12", func := "loop.example/quincunx/laws.FnExactScoresAny", spec := "fnExactScoresAny", unfollowed := true, recurses := true, apart := false, narrowed := true }
def FnExactScoresAnyUptoSaid : Prop := fnExactScoresAnyUptoRow.holds Try.pinned (OpenSpec.upto fnExactScoresAnySpec)

/-- 'laws.FnGroupTake', WHERE WHAT IT READS IS OF BULK AT MOST 1048576: true; the input reads as it did. -/
def fnGroupTakeUptoRow : OpenClaim := { program := "ytofiljboaegekab", sum := "18ea701a8fe86fe388ed54dd963c516fcade48eda540426af24ce3b15b853f12", func := "loop.example/quincunx/laws.FnGroupTake", spec := "fnGroupTake", unfollowed := true, recurses := true, apart := false, narrowed := true }
def FnGroupTakeUptoSaid : Prop := fnGroupTakeUptoRow.holds Try.pinned (OpenSpec.upto fnGroupTakeSpec)

/-- 'laws.FnExactScan', WHERE WHAT IT READS IS OF BULK AT MOST 1048576: true; the input reads as it did. -/
def fnExactScanUptoRow : OpenClaim := { program := "ytofiljboaegekab", sum := "18ea701a8fe86fe388ed54dd963c516fcade48eda540426af24ce3b15b853f12", func := "loop.example/quincunx/laws.FnExactScan", spec := "fnExactScan", inPlace := ["internal/bytealg.abigen_runtime_cmpstring"], unfollowed := true, recurses := true, apart := false, narrowed := true }
def FnExactScanUptoSaid : Prop := fnExactScanUptoRow.holds Try.pinned (OpenSpec.upto fnExactScanSpec)

/-- 'laws.FnExactStreamTrim', WHERE WHAT IT READS IS OF BULK AT MOST 1048576: true; the input reads as it did. -/
def fnExactStreamTrimUptoRow : OpenClaim := { program := "ytofiljboaegekab", sum := "18ea701a8fe86fe388ed54dd963c516fcade48eda540426af24ce3b15b853f12", func := "loop.example/quincunx/laws.FnExactStreamTrim", spec := "fnExactStreamTrim", apart := false, narrowed := true }
def FnExactStreamTrimUptoSaid : Prop := fnExactStreamTrimUptoRow.holds Try.pinned (OpenSpec.upto fnExactStreamTrimSpec)

/-- 'laws.FnScoresAny', WHERE WHAT IT READS IS OF BULK AT MOST 1048576: true; the input reads as it did. -/
def fnScoresAnyUptoRow : OpenClaim := { program := "ytofiljboaegekab", sum := "18ea701a8fe86fe388ed54dd963c516fcade48eda540426af24ce3b15b853f12", func := "loop.example/quincunx/laws.FnScoresAny", spec := "fnScoresAny", unfollowed := true, recurses := true, apart := false, narrowed := true }
def FnScoresAnyUptoSaid : Prop := fnScoresAnyUptoRow.holds Try.pinned (OpenSpec.upto fnScoresAnySpec)

/-- 'laws.FnExactStreamAdd', WHERE WHAT IT READS IS OF BULK AT MOST 1048576: true; the input reads as it did. -/
def fnExactStreamAddUptoRow : OpenClaim := { program := "ytofiljboaegekab", sum := "18ea701a8fe86fe388ed54dd963c516fcade48eda540426af24ce3b15b853f12", func := "loop.example/quincunx/laws.FnExactStreamAdd", spec := "fnExactStreamAdd", apart := false, narrowed := true }
def FnExactStreamAddUptoSaid : Prop := fnExactStreamAddUptoRow.holds Try.pinned (OpenSpec.upto fnExactStreamAddSpec)

/-- 'laws.FnExactStreamDrop', WHERE WHAT IT READS IS OF BULK AT MOST 1048576: true; the input reads as it did. -/
def fnExactStreamDropUptoRow : OpenClaim := { program := "ytofiljboaegekab", sum := "18ea701a8fe86fe388ed54dd963c516fcade48eda540426af24ce3b15b853f12", func := "loop.example/quincunx/laws.FnExactStreamDrop", spec := "fnExactStreamDrop", unfollowed := true, recurses := true, apart := false, narrowed := true }
def FnExactStreamDropUptoSaid : Prop := fnExactStreamDropUptoRow.holds Try.pinned (OpenSpec.upto fnExactStreamDropSpec)

/-- 'laws.FnExactGroupRead', WHERE WHAT IT READS IS OF BULK AT MOST 1048576: true; the input reads as it did. -/
def fnExactGroupReadUptoRow : OpenClaim := { program := "ytofiljboaegekab", sum := "18ea701a8fe86fe388ed54dd963c516fcade48eda540426af24ce3b15b853f12", func := "loop.example/quincunx/laws.FnExactGroupRead", spec := "fnExactGroupRead", apart := false, narrowed := true }
def FnExactGroupReadUptoSaid : Prop := fnExactGroupReadUptoRow.holds Try.pinned (OpenSpec.upto fnExactGroupReadSpec)

/-- 'laws.FnExactGroupTake', WHERE WHAT IT READS IS OF BULK AT MOST 1048576: true; the input reads as it did. -/
def fnExactGroupTakeUptoRow : OpenClaim := { program := "ytofiljboaegekab", sum := "18ea701a8fe86fe388ed54dd963c516fcade48eda540426af24ce3b15b853f12", func := "loop.example/quincunx/laws.FnExactGroupTake", spec := "fnExactGroupTake", unfollowed := true, recurses := true, apart := false, narrowed := true }
def FnExactGroupTakeUptoSaid : Prop := fnExactGroupTakeUptoRow.holds Try.pinned (OpenSpec.upto fnExactGroupTakeSpec)

/-- 'laws.FnGroupNew', WHERE WHAT IT READS IS OF BULK AT MOST 1048576: true; the input reads as it did. -/
def fnGroupNewUptoRow : OpenClaim := { program := "ytofiljboaegekab", sum := "18ea701a8fe86fe388ed54dd963c516fcade48eda540426af24ce3b15b853f12", func := "loop.example/quincunx/laws.FnGroupNew", spec := "fnGroupNew", unfollowed := true, recurses := true, apart := false, narrowed := true }
def FnGroupNewUptoSaid : Prop := fnGroupNewUptoRow.holds Try.pinned (OpenSpec.upto fnGroupNewSpec)

/-- 'laws.FnExactGroupDone', WHERE WHAT IT READS IS OF BULK AT MOST 1048576: true; the input reads as it did. -/
def fnExactGroupDoneUptoRow : OpenClaim := { program := "ytofiljboaegekab", sum := "18ea701a8fe86fe388ed54dd963c516fcade48eda540426af24ce3b15b853f12", func := "loop.example/quincunx/laws.FnExactGroupDone", spec := "fnExactGroupDone", apart := false, narrowed := true }
def FnExactGroupDoneUptoSaid : Prop := fnExactGroupDoneUptoRow.holds Try.pinned (OpenSpec.upto fnExactGroupDoneSpec)

end Rows
end Go.Proofs.Ytofiljboaegekab
