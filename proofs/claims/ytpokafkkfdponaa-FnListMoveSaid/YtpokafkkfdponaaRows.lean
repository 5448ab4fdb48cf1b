/-
  No cell of these rows narrows 'for every input' (looked for: loops, veiled, ifaces, maps, wideKeys, modest, calm, conditions, laid).
  DERIVED. THE GIVEN ROWS OF THIS SEAT. 5 by the template 'for every input the law returns true; each argument reads behind the call as it read before'; 0 by the template 'total and deterministic' (their statements: YtpokafkkfdponaaTotals.lean).
  GIVEN WITH THE SEED: the statements are not yours to turn. If you find one false, say at which input.
  Laid BY PROGRAM, IN A SANDBOX (cutbox-rows.mjs): the forced cells as the released guide's own fill.sh prints them over the translation 14564b174ac3155d… (all of the seat's roots in one cut). By AI agents, Wed Nov 11 2026. No macro, syntax, notation, axiom, sorry.
-/
import Derived.Test.YtpokafkkfdponaaChecked
import GoSem.Claim
import GoSem.ClaimJoined
import GoSem.ClaimMapViews
import Derived.JoinedTies
import Derived.KernelRfl
namespace Go.Proofs.Ytpokafkkfdponaa
/- THE CELL 'sum', in the pinned program and in every row, IS THE sha256 OF THE DUMP (.gsa) THAT YtpokafkkfdponaaProg.lean LOADS. Nothing in Lean hashes anything: it is a label: what it is worth is what the hold of that sum in a sandbox is worth. -/
noncomputable def Try.pinned : Pinned := { name := "ytpokafkkfdponaa", sum := "14564b174ac3155d211e118c1662fcf2ad3e15a012bd34e4e0d98f13e32c5171", checked := Try.checked }
namespace Rows
def none {H : Type} : Left H := { results := [], args := [] }

/-- 'laws.FnExactIdLess': WHATEVER THE INPUT: true; the input reads as it did. -/
def fnExactIdLessSpec : ChangeSpec := { name := "fnExactIdLess", fn := fun _ => fun
  | [d1, d2] => { results := [.lit (.bool true)], args := [d1, d2] }
  | _ => none }
def fnExactIdLessRow : OpenClaim := { program := "ytpokafkkfdponaa", sum := "14564b174ac3155d211e118c1662fcf2ad3e15a012bd34e4e0d98f13e32c5171", func := "loop.example/quincunx/laws.FnExactIdLess", spec := "fnExactIdLess", apart := false }
def FnExactIdLessSaid : Prop := fnExactIdLessRow.holds Try.pinned (OpenSpec.ofChange fnExactIdLessSpec)

/-- ITS FALSE NEIGHBOUR: 'it returns false'. Refute it at one input. -/
def fnExactIdLessWrong : ChangeSpec := { name := "fnExactIdLess", fn := fun _ => fun
  | [d1, d2] => { results := [.lit (.bool false)], args := [d1, d2] }
  | _ => none }
def FnExactIdLessWrongFalsely : Prop := fnExactIdLessRow.holds Try.pinned (OpenSpec.ofChange fnExactIdLessWrong)

/-- 'laws.FnTextBitCount': WHATEVER THE INPUT: true; the input reads as it did. -/
def fnTextBitCountSpec : ChangeSpec := { name := "fnTextBitCount", fn := fun _ => fun
  | [d1, d2] => { results := [.lit (.bool true)], args := [d1, d2] }
  | _ => none }
def fnTextBitCountRow : OpenClaim := { program := "ytpokafkkfdponaa", sum := "14564b174ac3155d211e118c1662fcf2ad3e15a012bd34e4e0d98f13e32c5171", func := "loop.example/quincunx/laws.FnTextBitCount", spec := "fnTextBitCount", apart := false }
def FnTextBitCountSaid : Prop := fnTextBitCountRow.holds Try.pinned (OpenSpec.ofChange fnTextBitCountSpec)

/-- ITS FALSE NEIGHBOUR: 'it returns false'. Refute it at one input. -/
def fnTextBitCountWrong : ChangeSpec := { name := "fnTextBitCount", fn := fun _ => fun
  | [d1, d2] => { results := [.lit (.bool false)], args := [d1, d2] }
  | _ => none }
def FnTextBitCountWrongFalsely : Prop := fnTextBitCountRow.holds Try.pinned (OpenSpec.ofChange fnTextBitCountWrong)

/-- 'laws.FnTextBit': WHATEVER THE INPUT: true; the input reads as it did. -/
def fnTextBitSpec : ChangeSpec := { name := "fnTextBit", fn := fun _ => fun
  | [d1, d2] => { results := [.lit (.bool true)], args := [d1, d2] }
  | _ => none }
def fnTextBitRow : OpenClaim := { program := "ytpokafkkfdponaa", sum := "14564b174ac3155d211e118c1662fcf2ad3e15a012bd34e4e0d98f13e32c5171", func := "loop.example/quincunx/laws.FnTextBit", spec := "fnTextBit", apart := false }
def FnTextBitSaid : Prop := fnTextBitRow.holds Try.pinned (OpenSpec.ofChange fnTextBitSpec)

/-- ITS FALSE NEIGHBOUR: 'it returns false'. Refute it at one input. -/
def fnTextBitWrong : ChangeSpec := { name := "fnTextBit", fn := fun _ => fun
  | [d1, d2] => { results := [.lit (.bool false)], args := [d1, d2] }
  | _ => none }
def FnTextBitWrongFalsely : Prop := fnTextBitRow.holds Try.pinned (OpenSpec.ofChange fnTextBitWrong)

/-- 'laws.FnExactListMove': WHATEVER THE INPUT: true; the input reads as it did. -/
def fnExactListMoveSpec : ChangeSpec := { name := "fnExactListMove", fn := fun _ => fun
  | [d1, d2, d3, d4] => { results := [.lit (.bool true)], args := [d1, d2, d3, d4] }
  | _ => none }
def fnExactListMoveRow : OpenClaim := { program := "ytpokafkkfdponaa", sum := "14564b174ac3155d211e118c1662fcf2ad3e15a012bd34e4e0d98f13e32c5171", func := "loop.example/quincunx/laws.FnExactListMove", spec := "fnExactListMove", inPlace := ["slices.overlaps[string]"], apart := false }
def FnExactListMoveSaid : Prop := fnExactListMoveRow.holds Try.pinned (OpenSpec.ofChange fnExactListMoveSpec)

/-- ITS FALSE NEIGHBOUR: 'it returns false'. Refute it at one input. -/
def fnExactListMoveWrong : ChangeSpec := { name := "fnExactListMove", fn := fun _ => fun
  | [d1, d2, d3, d4] => { results := [.lit (.bool false)], args := [d1, d2, d3, d4] }
  | _ => none }
def FnExactListMoveWrongFalsely : Prop := fnExactListMoveRow.holds Try.pinned (OpenSpec.ofChange fnExactListMoveWrong)

/-- 'laws.FnListMove': WHATEVER THE INPUT: true; the input reads as it did. -/
def fnListMoveSpec : ChangeSpec := { name := "fnListMove", fn := fun _ => fun
  | [d] => { results := [.lit (.bool true)], args := [d] }
  | _ => none }
def fnListMoveRow : OpenClaim := { program := "ytpokafkkfdponaa", sum := "14564b174ac3155d211e118c1662fcf2ad3e15a012bd34e4e0d98f13e32c5171", func := "loop.example/quincunx/laws.FnListMove", spec := "fnListMove", inPlace := ["slices.overlaps[string]"], recurses := true, apart := false }
def FnListMoveSaid : Prop := fnListMoveRow.holds Try.pinned (OpenSpec.ofChange fnListMoveSpec)

/-- ITS FALSE NEIGHBOUR: 'it returns false'. Refute it at one input. -/
def fnListMoveWrong : ChangeSpec := { name := "fnListMove", fn := fun _ => fun
  | [d] => { results := [.lit (.bool false)], args := [d] }
  | _ => none }
def FnListMoveWrongFalsely : Prop := fnListMoveRow.holds Try.pinned (OpenSpec.ofChange fnListMoveWrong)

/- THE SECOND FORM. 'bulk': how many values and letters a reading holds, each counted each time it is reached (what is shared counts as often as it is met; a slice's spare places count too). A statement '..UptoSaid' is the law's where the arguments, and the package variables that the reading takes, are together of bulk at most 1048576: NARROWER than '..Said'. Prove '..Said' where nothing that the law and all that it calls make is longer than what came in: it says more and counts as full. Else prove '..UptoSaid'. A law counts once. -/
mutual
def uptoBulk {H : Type} : DataW H → Nat
  | .lit (.string bytes) => bytes.length + 1
  | .lit _ => 1
  | .nil => 1
  | .ptr d => uptoBulk d + 1
  | .slice elems spare => uptoBulkAll elems + uptoBulkAll spare + 1
  | .agg parts => uptoBulkAll parts + 1
  | .iface _ d => uptoBulk d + 1
  | .map entries => uptoBulkEntries entries + 1
  | .held _ => 1
def uptoBulkAll {H : Type} : List (DataW H) → Nat
  | [] => 0
  | d :: r => uptoBulk d + uptoBulkAll r
def uptoBulkEntries {H : Type} : List (Lit × DataW H) → Nat
  | [] => 0
  | x :: r => uptoBulkEntry x + uptoBulkEntries r
def uptoBulkEntry {H : Type} : Lit × DataW H → Nat
  | (.string bytes, d) => bytes.length + uptoBulk d + 1
  | (_, d) => uptoBulk d + 1
 end
def uptoSmall : (H : Type) → List (DataW H) → Bool := fun _ ds => decide (uptoBulkAll ds ≤ 1048576)
def OpenSpec.upto (s : _root_.Go.ChangeSpec) : _root_.Go.OpenSpec := { _root_.Go.OpenSpec.ofChange s with cond := some uptoSmall }

/-- 'laws.FnExactIdLess', WHERE WHAT IT READS IS OF BULK AT MOST 1048576: true; the input reads as it did. -/
def fnExactIdLessUptoRow : OpenClaim := { program := "ytpokafkkfdponaa", sum := "14564b174ac3155d211e118c1662fcf2ad3e15a012bd34e4e0d98f13e32c5171", func := "loop.example/quincunx/laws.FnExactIdLess", spec := "fnExactIdLess", apart := false, narrowed := true }
def FnExactIdLessUptoSaid : Prop := fnExactIdLessUptoRow.holds Try.pinned (OpenSpec.upto fnExactIdLessSpec)

/-- 'laws.FnTextBitCount', WHERE WHAT IT READS IS OF BULK AT MOST 1048576: true; the input reads as it did. -/
def fnTextBitCountUptoRow : OpenClaim := { program := "ytpokafkkfdponaa", sum := "14564b174ac3155d211e118c1662fcf2ad3e15a012bd34e4e0d98f13e32c5171", func := "loop.example/quincunx/laws.FnTextBitCount", spec := "fnTextBitCount", apart := false, narrowed := true }
def FnTextBitCountUptoSaid : Prop := fnTextBitCountUptoRow.holds Try.pinned (OpenSpec.upto fnTextBitCountSpec)

/-- 'laws.FnTextBit', WHERE WHAT IT READS IS OF BULK AT MOST 1048576: true; the input reads as it did. -/
def fnTextBitUptoRow : OpenClaim := { program := "ytpokafkkfdponaa", sum := "14564b174ac3155d211e118c1662fcf2ad3e15a012bd34e4e0d98f13e32c5171", func := "loop.example/quincunx/laws.FnTextBit", spec := "fnTextBit", apart := false, narrowed := true }
def FnTextBitUptoSaid : Prop := fnTextBitUptoRow.holds Try.pinned (OpenSpec.upto fnTextBitSpec)

/-- 'laws.FnExactListMove', WHERE WHAT IT READS IS OF BULK AT MOST 1048576: true; the input reads as it did. -/
def fnExactListMoveUptoRow : OpenClaim := { program := "ytpokafkkfdponaa", sum := "14564b174ac3155d211e118c1662fcf2ad3e15a012bd34e4e0d98f13e32c5171", func := "loop.example/quincunx/laws.FnExactListMove", spec := "fnExactListMove", inPlace := ["slices.overlaps[string]"], apart := false, narrowed := true }
def FnExactListMoveUptoSaid : Prop := fnExactListMoveUptoRow.holds Try.pinned (OpenSpec.upto fnExactListMoveSpec)

/-- 'laws.FnListMove', WHERE WHAT IT READS IS OF BULK AT MOST 1048576: true; the input reads as it did. -/
def fnListMoveUptoRow : OpenClaim := { program := "ytpokafkkfdponaa", sum := "14564b174ac3155d211e118c1662fcf2ad3e15a012bd34e4e0d98f13e32c5171", func := "loop.example/quincunx/laws.FnListMove", spec := "fnListMove", inPlace := ["slices.overlaps[string]"], recurses := true, apart := false, narrowed := true }
def FnListMoveUptoSaid : Prop := fnListMoveUptoRow.holds Try.pinned (OpenSpec.upto fnListMoveSpec)

end Rows
end Go.Proofs.Ytpokafkkfdponaa
