/-
  DERIVED. GIVEN WITH THE SEED: THE CARDS: each row of YtcpfhonmdbhdbaaGreatDoorRows.lean that lists a variable, with what it lists TIED to the program's text (the seventh form; the later family's looks); each row that meets fmt, with fmt's text TOLD by the authors' own Lean function (tested against real Go, not proved from fmt's source: count such statements apart). THE CARD IS WHAT COUNTS. Prove the row's statement (the work); the ties are given (YtcpfhonmdbhdbaaGreatDoorTie.lean); close each card by the builder's one call (the guide's Derived/Test/ToyasCard.lean, 'card_holds'). Laid BY PROGRAM, IN A SANDBOX (cutbox-door.mjs). By AI agents, Wed Nov 11 2026. No macro, syntax, notation, axiom, sorry.
-/
import Derived.Test.YtcpfhonmdbhdbaaGreatDoorRows
import GoSem.ClaimSeven
namespace Go.Proofs.YtcpfhonmdbhdbaaGreatDoor
namespace Rows

/-- THE TIED CARD OF 'laws.FnLeaderNew'. -/
def fnLeaderNewCard : Claim7 := { stood := { row := fnLeaderNewRow, standIns := [], harness := (true, "6c6c33fe1f048cd77728ca369fa83d1ace4f0964c1a90f339650a17af312cb2a"), looks := true }, kinds := [], alts := [], laidByText := true, laidKinds := [.data, .data, .data, .sentinel, .sentinel, .data], laidTests := true, laidLooks := .later }
def FnLeaderNewCardSaid : Prop := Claim7.holds Tryz.pinned (.plain (OpenSpec.ofChange fnLeaderNewSpec)) fnLeaderNewCard

/-- THE TIED CARD OF 'laws.FnExactFollowerOk'. -/
def fnExactFollowerOkCard : Claim7 := { stood := { row := fnExactFollowerOkRow, standIns := [], harness := (true, "6c6c33fe1f048cd77728ca369fa83d1ace4f0964c1a90f339650a17af312cb2a"), looks := true }, kinds := [], alts := [], laidByText := true, laidKinds := [.data, .data, .data, .sentinel, .sentinel, .data], laidTests := true, laidLooks := .later }
def FnExactFollowerOkCardSaid : Prop := Claim7.holds Tryz.pinned (.plain (OpenSpec.ofChange fnExactFollowerOkSpec)) fnExactFollowerOkCard

/-- THE SECOND FORM's CARD OF 'laws.FnLeaderNew'. -/
def fnLeaderNewUptoCard : Claim7 := { stood := { row := fnLeaderNewUptoRow, standIns := [], harness := (true, "6c6c33fe1f048cd77728ca369fa83d1ace4f0964c1a90f339650a17af312cb2a"), looks := true }, kinds := [], alts := [], laidByText := true, laidKinds := [.data, .data, .data, .sentinel, .sentinel, .data], laidTests := true, laidLooks := .later }
def FnLeaderNewUptoCardSaid : Prop := Claim7.holds Tryz.pinned (.plain (OpenSpec.upto fnLeaderNewSpec)) fnLeaderNewUptoCard

/-- THE SECOND FORM's CARD OF 'laws.FnExactFollowerOk'. -/
def fnExactFollowerOkUptoCard : Claim7 := { stood := { row := fnExactFollowerOkUptoRow, standIns := [], harness := (true, "6c6c33fe1f048cd77728ca369fa83d1ace4f0964c1a90f339650a17af312cb2a"), looks := true }, kinds := [], alts := [], laidByText := true, laidKinds := [.data, .data, .data, .sentinel, .sentinel, .data], laidTests := true, laidLooks := .later }
def FnExactFollowerOkUptoCardSaid : Prop := Claim7.holds Tryz.pinned (.plain (OpenSpec.upto fnExactFollowerOkSpec)) fnExactFollowerOkUptoCard
end Rows
end Go.Proofs.YtcpfhonmdbhdbaaGreatDoor
