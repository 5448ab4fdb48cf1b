/-
  No cell of these rows narrows 'for every input' (looked for: loops, veiled, ifaces, maps, wideKeys, modest, calm, conditions, laid).
  DERIVED. THE GIVEN ROWS OF THIS SEAT. 5 by the template 'for every input the law returns true; each argument reads behind the call as it read before'; 0 by the template 'total and deterministic' (their statements: YthbhnjcnbnlidaaTotals.lean).
  GIVEN WITH THE SEED: the statements are not yours to turn. If you find one false, say at which input.
  Laid BY PROGRAM, IN A SANDBOX (cutbox-rows.mjs): the forced cells as the released guide's own fill.sh prints them over the translation 6251f7fd7151e1cd… (all of the seat's roots in one cut). By AI agents, Wed Nov 11 2026. No macro, syntax, notation, axiom, sorry.
-/
import Derived.Test.YthbhnjcnbnlidaaChecked
import GoSem.Claim
import GoSem.ClaimJoined
import GoSem.ClaimMapViews
import Derived.JoinedTies
import Derived.KernelRfl
namespace Go.Proofs.Ythbhnjcnbnlidaa
/- THE CELL 'sum', in the pinned program and in every row, IS THE sha256 OF THE DUMP (.gsa) THAT YthbhnjcnbnlidaaProg.lean LOADS. Nothing in Lean hashes anything: it is a label: what it is worth is what the hold of that sum in a sandbox is worth. -/
noncomputable def Try.pinned : Pinned := { name := "ythbhnjcnbnlidaa", sum := "6251f7fd7151e1cdc542695cdb9c4d4d5ce650d2f1189db7604e6b24d6aa08f0", checked := Try.checked }
namespace Rows
def none {H : Type} : Left H := { results := [], args := [] }

/-- 'laws.FnExactLeaderNew': WHATEVER THE INPUT: true; the input reads as it did. -/
def fnExactLeaderNewSpec : ChangeSpec := { name := "fnExactLeaderNew", fn := fun _ => fun
  | [d] => { results := [.lit (.bool true)], args := [d] }
  | _ => none }
def fnExactLeaderNewRow : OpenClaim := { program := "ythbhnjcnbnlidaa", sum := "6251f7fd7151e1cdc542695cdb9c4d4d5ce650d2f1189db7604e6b24d6aa08f0", func := "loop.example/quincunx/laws.FnExactLeaderNew", spec := "fnExactLeaderNew", apart := false }
def FnExactLeaderNewSaid : Prop := fnExactLeaderNewRow.holds Try.pinned (OpenSpec.ofChange fnExactLeaderNewSpec)

/-- ITS FALSE NEIGHBOUR: 'it returns false'. Refute it at one input. -/
def fnExactLeaderNewWrong : ChangeSpec := { name := "fnExactLeaderNew", fn := fun _ => fun
  | [d] => { results := [.lit (.bool false)], args := [d] }
  | _ => none }
def FnExactLeaderNewWrongFalsely : Prop := fnExactLeaderNewRow.holds Try.pinned (OpenSpec.ofChange fnExactLeaderNewWrong)

/-- 'laws.FnExactScoresBoth': WHATEVER THE INPUT: true; the input reads as it did. -/
def fnExactScoresBothSpec : ChangeSpec := { name := "fnExactScoresBoth", fn := fun _ => fun
  | [d1, d2] => { results := [.lit (.bool true)], args := [d1, d2] }
  | _ => none }
def fnExactScoresBothRow : OpenClaim := { program := "ythbhnjcnbnlidaa", sum := "6251f7fd7151e1cdc542695cdb9c4d4d5ce650d2f1189db7604e6b24d6aa08f0", func := "loop.example/quincunx/laws.FnExactScoresBoth", spec := "fnExactScoresBoth", unfollowed := true, recurses := true, apart := false }
def FnExactScoresBothSaid : Prop := fnExactScoresBothRow.holds Try.pinned (OpenSpec.ofChange fnExactScoresBothSpec)

/-- ITS FALSE NEIGHBOUR: 'it returns false'. Refute it at one input. -/
def fnExactScoresBothWrong : ChangeSpec := { name := "fnExactScoresBoth", fn := fun _ => fun
  | [d1, d2] => { results := [.lit (.bool false)], args := [d1, d2] }
  | _ => none }
def FnExactScoresBothWrongFalsely : Prop := fnExactScoresBothRow.holds Try.pinned (OpenSpec.ofChange fnExactScoresBothWrong)

/-- 'laws.FnExactScoresAny': WHATEVER THE INPUT: true; the input reads as it did. -/
def fnExactScoresAnySpec : ChangeSpec := { name := "fnExactScoresAny", fn := fun _ => fun
  | [d1, d2] => { results := [.lit (.bool true)], args := [d1, d2] }
  | _ => none }
def fnExactScoresAnyRow : OpenClaim := { program := "ythbhnjcnbnlidaa", sum := "6251f7fd7151e1cdc542695cdb9c4d4d5ce650d2f1189db7604e6b24d6aa08f0", func := "loop.example/quincunx/laws.FnExactScoresAny", spec := "fnExactScoresAny", unfollowed := true, recurses := true, apart := false }
def FnExactScoresAnySaid : Prop := fnExactScoresAnyRow.holds Try.pinned (OpenSpec.ofChange fnExactScoresAnySpec)

/-- ITS FALSE NEIGHBOUR: 'it returns false'. Refute it at one input. -/
def fnExactScoresAnyWrong : ChangeSpec := { name := "fnExactScoresAny", fn := fun _ => fun
  | [d1, d2] => { results := [.lit (.bool false)], args := [d1, d2] }
  | _ => none }
def FnExactScoresAnyWrongFalsely : Prop := fnExactScoresAnyRow.holds Try.pinned (OpenSpec.ofChange fnExactScoresAnyWrong)

/-- 'laws.FnExactScan': WHATEVER THE INPUT: true; the input reads as it did. -/
def fnExactScanSpec : ChangeSpec := { name := "fnExactScan", fn := fun _ => fun
  | [d1, d2, d3, d4] => { results := [.lit (.bool true)], args := [d1, d2, d3, d4] }
  | _ => none }
def fnExactScanRow : OpenClaim := { program := "ythbhnjcnbnlidaa", sum := "6251f7fd7151e1cdc542695cdb9c4d4d5ce650d2f1189db7604e6b24d6aa08f0", func := "loop.example/quincunx/laws.FnExactScan", spec := "fnExactScan", inPlace := ["internal/bytealg.abigen_runtime_cmpstring"], unfollowed := true, recurses := true, apart := false }
def FnExactScanSaid : Prop := fnExactScanRow.holds Try.pinned (OpenSpec.ofChange fnExactScanSpec)

/-- ITS FALSE NEIGHBOUR: 'it returns false'. Refute it at one input. -/
def fnExactScanWrong : ChangeSpec := { name := "fnExactScan", fn := fun _ => fun
  | [d1, d2, d3, d4] => { results := [.lit (.bool false)], args := [d1, d2, d3, d4] }
  | _ => none }
def FnExactScanWrongFalsely : Prop := fnExactScanRow.holds Try.pinned (OpenSpec.ofChange fnExactScanWrong)

/-- 'laws.FnScoresAny': WHATEVER THE INPUT: true; the input reads as it did. -/
def fnScoresAnySpec : ChangeSpec := { name := "fnScoresAny", fn := fun _ => fun
  | [d] => { results := [.lit (.bool true)], args := [d] }
  | _ => none }
def fnScoresAnyRow : OpenClaim := { program := "ythbhnjcnbnlidaa", sum := "6251f7fd7151e1cdc542695cdb9c4d4d5ce650d2f1189db7604e6b24d6aa08f0", func := "loop.example/quincunx/laws.FnScoresAny", spec := "fnScoresAny", unfollowed := true, recurses := true, apart := false }
def FnScoresAnySaid : Prop := fnScoresAnyRow.holds Try.pinned (OpenSpec.ofChange fnScoresAnySpec)

/-- ITS FALSE NEIGHBOUR: 'it returns false'. Refute it at one input. -/
def fnScoresAnyWrong : ChangeSpec := { name := "fnScoresAny", fn := fun _ => fun
  | [d] => { results := [.lit (.bool false)], args := [d] }
  | _ => none }
def FnScoresAnyWrongFalsely : Prop := fnScoresAnyRow.holds Try.pinned (OpenSpec.ofChange fnScoresAnyWrong)

/- THE SECOND FORM. 'bulk': how many values and letters a reading holds, each counted each time it is reached (what is shared counts as often as it is met; a slice's spare places count too). A statement '..UptoSaid' is the law's where the arguments, and the package variables that the reading takes, are together of bulk at most 1048576: NARROWER than '..Said'. Prove '..Said' where nothing that the law and all that it calls make is longer than what came in: it says more and counts as full. Else prove '..UptoSaid'. A law counts once. -/
mutual
def uptoBulk {H : Type} : DataW H → Nat
  | .lit (.string bytes) => bytes.length + 1
  | .lit _ => 1
  | .nil => 1
  | .ptr d => uptoBulk d + 1
  | .slice elems spare => uptoBulkAll elems + uptoBulkAll spare + 1
  | .agg parts => uptoBulkAll parts + 1
  | .iface _ d => uptoBulk d + 1
  | .map entries => uptoBulkEntries entries + 1
  | .held _ => 1
def uptoBulkAll {H : Type} : List (DataW H) → Nat
  | [] => 0
  | d :: r => uptoBulk d + uptoBulkAll r
def uptoBulkEntries {H : Type} : List (Lit × DataW H) → Nat
  | [] => 0
  | x :: r => uptoBulkEntry x + uptoBulkEntries r
def uptoBulkEntry {H : Type} : Lit × DataW H → Nat
  | (.string bytes, d) => bytes.length + uptoBulk d + 1
  | (_, d) => uptoBulk d + 1
 end
def uptoSmall : (H : Type) → List (DataW H) → Bool := fun _ ds => decide (uptoBulkAll ds ≤ 1048576)
def OpenSpec.upto (s : _root_.Go.ChangeSpec) : _root_.Go.OpenSpec := { _root_.Go.OpenSpec.ofChange s with cond := some uptoSmall }

/-- 'laws.FnExactLeaderNew', WHERE WHAT IT READS IS OF BULK AT MOST 1048576: true; the input reads as it did. -/
def fnExactLeaderNewUptoRow : OpenClaim := { program := "ythbhnjcnbnlidaa", sum := "6251f7fd7151e1cdc542695cdb9c4d4d5ce650d2f1189db7604e6b24d6aa08f0", func := "loop.example/quincunx/laws.FnExactLeaderNew", spec := "fnExactLeaderNew", apart := false, narrowed := true }
def FnExactLeaderNewUptoSaid : Prop := fnExactLeaderNewUptoRow.holds Try.pinned (OpenSpec.upto fnExactLeaderNewSpec)

/-- 'laws.FnExactScoresBoth', WHERE WHAT IT READS IS OF BULK AT MOST 1048576: true; the input reads as it did. -/
def fnExactScoresBothUptoRow : OpenClaim := { program := "ythbhnjcnbnlidaa", sum := "6251f7fd7151e1cdc542695cdb9c4d4d5ce650d2f1189db7604e6b24d6aa08f0", func := "loop.example/quincunx/laws.FnExactScoresBoth", spec := "fnExactScoresBoth", unfollowed := true, recurses := true, apart := false, narrowed := true }
def FnExactScoresBothUptoSaid : Prop := fnExactScoresBothUptoRow.holds Try.pinned (OpenSpec.upto fnExactScoresBothSpec)

/-- 'laws.FnExactScoresAny', WHERE WHAT IT READS IS OF BULK AT MOST 1048576: true; the input reads as it did. -/
def fnExactScoresAnyUptoRow : OpenClaim := { program := "ythbhnjcnbnlidaa", sum := "6251f7fd7151e1cdc542695cdb9c4d4d5ce650d2f1189db7604e6b24d6aa08f0", func := "loop.example/quincunx/laws.FnExactScoresAny", spec := "fnExactScoresAny", unfollowed := true, recurses := true, apart := false, narrowed := true }
def FnExactScoresAnyUptoSaid : Prop := fnExactScoresAnyUptoRow.holds Try.pinned (OpenSpec.upto fnExactScoresAnySpec)

/-- 'laws.FnExactScan', WHERE WHAT IT READS IS OF BULK AT MOST 1048576: true; the input reads as it did. -/
def fnExactScanUptoRow : OpenClaim := { program := "ythbhnjcnbnlidaa", sum := "6251f7fd7151e1cdc542695cdb9c4d4d5ce650d2f1189db7604e6b24d6aa08f0", func := "loop.example/quincunx/laws.FnExactScan", spec := "fnExactScan", inPlace := ["internal/bytealg.abigen_runtime_cmpstring"], unfollowed := true, recurses := true, apart := false, narrowed := true }
def FnExactScanUptoSaid : Prop := fnExactScanUptoRow.holds Try.pinned (OpenSpec.upto fnExactScanSpec)

/-- 'laws.FnScoresAny', WHERE WHAT IT READS IS OF BULK AT MOST 1048576: true; the input reads as it did. -/
def fnScoresAnyUptoRow : OpenClaim := { program := "ythbhnjcnbnlidaa", sum := "6251f7fd7151e1cdc542695cdb9c4d4d5ce650d2f1189db7604e6b24d6aa08f0", func := "loop.example/quincunx/laws.FnScoresAny", spec := "fnScoresAny", unfollowed := true, recurses := true, apart := false, narrowed := true }
def FnScoresAnyUptoSaid : Prop := fnScoresAnyUptoRow.holds Try.pinned (OpenSpec.upto fnScoresAnySpec)

end Rows
end Go.Proofs.Ythbhnjcnbnlidaa
