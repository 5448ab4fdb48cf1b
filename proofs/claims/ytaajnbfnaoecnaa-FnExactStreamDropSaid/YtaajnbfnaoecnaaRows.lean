/-
  No cell of these rows narrows 'for every input' (looked for: loops, veiled, ifaces, maps, wideKeys, modest, calm, conditions, laid).
  DERIVED. THE GIVEN ROWS OF THIS SEAT. 3 by the template 'for every input the law returns true; each argument reads behind the call as it read before'; 0 by the template 'total and deterministic' (their statements: YtaajnbfnaoecnaaTotals.lean).
  GIVEN WITH THE SEED: the statements are not yours to turn. If you find one false, say at which input.
  Laid BY PROGRAM, IN A SANDBOX (cutbox-rows.mjs): the forced cells as the released guide's own fill.sh prints them over the translation 684ebcf448788348… (all of the seat's roots in one cut). By AI agents, Wed Nov 11 2026. No macro, syntax, notation, axiom, sorry.
-/
import Derived.Test.YtaajnbfnaoecnaaChecked
import GoSem.Claim
import GoSem.ClaimJoined
import GoSem.ClaimMapViews
import Derived.JoinedTies
import Derived.KernelRfl
namespace Go.Proofs.Ytaajnbfnaoecnaa
/- THE CELL 'sum', in the pinned program and in every row, IS THE sha256 OF THE DUMP (.gsa) THAT YtaajnbfnaoecnaaProg.lean LOADS. Nothing in Lean hashes anything: it is a label: what it is worth is what the hold of that sum in a sandbox is worth. -/
noncomputable def Try.pinned : Pinned := { name := "ytaajnbfnaoecnaa", sum := "684ebcf4487883488f2b75d33e44e20bd3f21b86d87464c81fb51a44229798b1", checked := Try.checked }
namespace Rows
def none {H : Type} : Left H := { results := [], args := [] }

/-- 'laws.FnStreamDrop': WHATEVER THE INPUT: true; the input reads as it did. -/
def fnStreamDropSpec : ChangeSpec := { name := "fnStreamDrop", fn := fun _ => fun
  | [d] => { results := [.lit (.bool true)], args := [d] }
  | _ => none }
def fnStreamDropRow : OpenClaim := { program := "ytaajnbfnaoecnaa", sum := "684ebcf4487883488f2b75d33e44e20bd3f21b86d87464c81fb51a44229798b1", func := "loop.example/quincunx/laws.FnStreamDrop", spec := "fnStreamDrop", unfollowed := true, recurses := true, apart := false }
def FnStreamDropSaid : Prop := fnStreamDropRow.holds Try.pinned (OpenSpec.ofChange fnStreamDropSpec)

/-- ITS FALSE NEIGHBOUR: 'it returns false'. Refute it at one input. -/
def fnStreamDropWrong : ChangeSpec := { name := "fnStreamDrop", fn := fun _ => fun
  | [d] => { results := [.lit (.bool false)], args := [d] }
  | _ => none }
def FnStreamDropWrongFalsely : Prop := fnStreamDropRow.holds Try.pinned (OpenSpec.ofChange fnStreamDropWrong)

/-- 'laws.FnExactStreamDrop': WHATEVER THE INPUT: true; the input reads as it did. -/
def fnExactStreamDropSpec : ChangeSpec := { name := "fnExactStreamDrop", fn := fun _ => fun
  | [d1, d2] => { results := [.lit (.bool true)], args := [d1, d2] }
  | _ => none }
def fnExactStreamDropRow : OpenClaim := { program := "ytaajnbfnaoecnaa", sum := "684ebcf4487883488f2b75d33e44e20bd3f21b86d87464c81fb51a44229798b1", func := "loop.example/quincunx/laws.FnExactStreamDrop", spec := "fnExactStreamDrop", unfollowed := true, recurses := true, apart := false }
def FnExactStreamDropSaid : Prop := fnExactStreamDropRow.holds Try.pinned (OpenSpec.ofChange fnExactStreamDropSpec)

/-- ITS FALSE NEIGHBOUR: 'it returns false'. Refute it at one input. -/
def fnExactStreamDropWrong : ChangeSpec := { name := "fnExactStreamDrop", fn := fun _ => fun
  | [d1, d2] => { results := [.lit (.bool false)], args := [d1, d2] }
  | _ => none }
def FnExactStreamDropWrongFalsely : Prop := fnExactStreamDropRow.holds Try.pinned (OpenSpec.ofChange fnExactStreamDropWrong)

/-- 'laws.FnGroupNew': WHATEVER THE INPUT: true; the input reads as it did. -/
def fnGroupNewSpec : ChangeSpec := { name := "fnGroupNew", fn := fun _ => fun
  | [d] => { results := [.lit (.bool true)], args := [d] }
  | _ => none }
def fnGroupNewRow : OpenClaim := { program := "ytaajnbfnaoecnaa", sum := "684ebcf4487883488f2b75d33e44e20bd3f21b86d87464c81fb51a44229798b1", func := "loop.example/quincunx/laws.FnGroupNew", spec := "fnGroupNew", unfollowed := true, recurses := true, apart := false }
def FnGroupNewSaid : Prop := fnGroupNewRow.holds Try.pinned (OpenSpec.ofChange fnGroupNewSpec)

/-- ITS FALSE NEIGHBOUR: 'it returns false'. Refute it at one input. -/
def fnGroupNewWrong : ChangeSpec := { name := "fnGroupNew", fn := fun _ => fun
  | [d] => { results := [.lit (.bool false)], args := [d] }
  | _ => none }
def FnGroupNewWrongFalsely : Prop := fnGroupNewRow.holds Try.pinned (OpenSpec.ofChange fnGroupNewWrong)

/- THE SECOND FORM. 'bulk': how many values and letters a reading holds, each counted each time it is reached (what is shared counts as often as it is met; a slice's spare places count too). A statement '..UptoSaid' is the law's where the arguments, and the package variables that the reading takes, are together of bulk at most 1048576: NARROWER than '..Said'. Prove '..Said' where nothing that the law and all that it calls make is longer than what came in: it says more and counts as full. Else prove '..UptoSaid'. A law counts once. -/
mutual
def uptoBulk {H : Type} : DataW H → Nat
  | .lit (.string bytes) => bytes.length + 1
  | .lit _ => 1
  | .nil => 1
  | .ptr d => uptoBulk d + 1
  | .slice elems spare => uptoBulkAll elems + uptoBulkAll spare + 1
  | .agg parts => uptoBulkAll parts + 1
  | .iface _ d => uptoBulk d + 1
  | .map entries => uptoBulkEntries entries + 1
  | .held _ => 1
def uptoBulkAll {H : Type} : List (DataW H) → Nat
  | [] => 0
  | d :: r => uptoBulk d + uptoBulkAll r
def uptoBulkEntries {H : Type} : List (Lit × DataW H) → Nat
  | [] => 0
  | x :: r => uptoBulkEntry x + uptoBulkEntries r
def uptoBulkEntry {H : Type} : Lit × DataW H → Nat
  | (.string bytes, d) => bytes.length + uptoBulk d + 1
  | (_, d) => uptoBulk d + 1
 end
def uptoSmall : (H : Type) → List (DataW H) → Bool := fun _ ds => decide (uptoBulkAll ds ≤ 1048576)
def OpenSpec.upto (s : _root_.Go.ChangeSpec) : _root_.Go.OpenSpec := { _root_.Go.OpenSpec.ofChange s with cond := some uptoSmall }

/-- 'laws.FnStreamDrop', WHERE WHAT IT READS IS OF BULK AT MOST 1048576: true; the input reads as it did. -/
def fnStreamDropUptoRow : OpenClaim := { program := "ytaajnbfnaoecnaa", sum := "684ebcf4487883488f2b75d33e44e20bd3f21b86d87464c81fb51a44229798b1", func := "loop.example/quincunx/laws.FnStreamDrop", spec := "fnStreamDrop", unfollowed := true, recurses := true, apart := false, narrowed := true }
def FnStreamDropUptoSaid : Prop := fnStreamDropUptoRow.holds Try.pinned (OpenSpec.upto fnStreamDropSpec)

/-- 'laws.FnExactStreamDrop', WHERE WHAT IT READS IS OF BULK AT MOST 1048576: true; the input reads as it did. -/
def fnExactStreamDropUptoRow : OpenClaim := { program := "ytaajnbfnaoecnaa", sum := "684ebcf4487883488f2b75d33e44e20bd3f21b86d87464c81fb51a44229798b1", func := "loop.example/quincunx/laws.FnExactStreamDrop", spec := "fnExactStreamDrop", unfollowed := true, recurses := true, apart := false, narrowed := true }
def FnExactStreamDropUptoSaid : Prop := fnExactStreamDropUptoRow.holds Try.pinned (OpenSpec.upto fnExactStreamDropSpec)

/-- 'laws.FnGroupNew', WHERE WHAT IT READS IS OF BULK AT MOST 1048576: true; the input reads as it did. -/
def fnGroupNewUptoRow : OpenClaim := { program := "ytaajnbfnaoecnaa", sum := "684ebcf4487883488f2b75d33e44e20bd3f21b86d87464c81fb51a44229798b1", func := "loop.example/quincunx/laws.FnGroupNew", spec := "fnGroupNew", unfollowed := true, recurses := true, apart := false, narrowed := true }
def FnGroupNewUptoSaid : Prop := fnGroupNewUptoRow.holds Try.pinned (OpenSpec.upto fnGroupNewSpec)

end Rows
end Go.Proofs.Ytaajnbfnaoecnaa
