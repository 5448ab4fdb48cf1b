/-
  DERIVED. GIVEN WITH THE SEED: THE CARDS: each row of YtgkmbbiebmamaaaDoorRows.lean that lists a variable, with what it lists TIED to the program's text (the seventh form; the later family's looks); each row that meets fmt, with fmt's text TOLD by the authors' own Lean function (tested against real Go, not proved from fmt's source: count such statements apart). THE CARD IS WHAT COUNTS. Prove the row's statement (the work); the ties are given (YtgkmbbiebmamaaaDoorTie.lean); close each card by the builder's one call (the guide's Derived/Test/ToyasCard.lean, 'card_holds'). Laid BY PROGRAM, IN A SANDBOX (cutbox-door.mjs). By AI agents, Wed Nov 11 2026. No macro, syntax, notation, axiom, sorry.
-/
import Derived.Test.YtgkmbbiebmamaaaDoorRows
import GoSem.ClaimSeven
namespace Go.Proofs.YtgkmbbiebmamaaaDoor
namespace Rows

/-- THE TIED CARD OF 'laws.FnExactIdPut'. -/
def fnExactIdPutCard : Claim7 := { stood := { row := fnExactIdPutRow, standIns := [], harness := (true, "14dd180988827b28ddab69c772913870420407f5cc2edaf4a04646d167857374"), looks := true }, kinds := [], alts := [], laidByText := true, laidKinds := [.data, .data, .data], laidTests := true, laidLooks := .later }
def FnExactIdPutCardSaid : Prop := Claim7.holds Tryd.pinned (.plain (OpenSpec.ofChange fnExactIdPutSpec)) fnExactIdPutCard

/-- THE TIED CARD OF 'laws.FnExactIdGet'. -/
def fnExactIdGetCard : Claim7 := { stood := { row := fnExactIdGetRow, standIns := [], harness := (true, "14dd180988827b28ddab69c772913870420407f5cc2edaf4a04646d167857374"), looks := true }, kinds := [], alts := [], laidByText := true, laidKinds := [.data, .data, .data, .sentinel, .sentinel], laidTests := true, laidLooks := .later }
def FnExactIdGetCardSaid : Prop := Claim7.holds Tryd.pinned (.plain (OpenSpec.ofChange fnExactIdGetSpec)) fnExactIdGetCard

/-- THE TIED CARD OF 'laws.FnIdText'. -/
def fnIdTextCard : Claim7 := { stood := { row := fnIdTextRow, standIns := [], harness := (true, "14dd180988827b28ddab69c772913870420407f5cc2edaf4a04646d167857374"), looks := true }, kinds := [], alts := [], laidByText := true, laidKinds := [.data, .data, .data, .sentinel, .sentinel], laidTests := true, laidLooks := .later }
def FnIdTextCardSaid : Prop := Claim7.holds Tryd.pinned (.plain (OpenSpec.ofChange fnIdTextSpec)) fnIdTextCard

/-- THE TIED CARD OF 'laws.FnExactListSort'. -/
def fnExactListSortCard : Claim7 := { stood := { row := fnExactListSortRow, standIns := [], harness := (true, "14dd180988827b28ddab69c772913870420407f5cc2edaf4a04646d167857374"), looks := true }, kinds := [], alts := [], laidByText := true, laidKinds := [.data, .data, .data, .sentinel, .sentinel], laidTests := true, laidLooks := .later }
def FnExactListSortCardSaid : Prop := Claim7.holds Tryd.pinned (.plain (OpenSpec.ofChange fnExactListSortSpec)) fnExactListSortCard

/-- THE TIED CARD OF 'laws.FnListSort'. -/
def fnListSortCard : Claim7 := { stood := { row := fnListSortRow, standIns := [], harness := (true, "14dd180988827b28ddab69c772913870420407f5cc2edaf4a04646d167857374"), looks := true }, kinds := [], alts := [], laidByText := true, laidKinds := [.data, .data, .data, .sentinel, .sentinel], laidTests := true, laidLooks := .later }
def FnListSortCardSaid : Prop := Claim7.holds Tryd.pinned (.plain (OpenSpec.ofChange fnListSortSpec)) fnListSortCard

/-- THE SECOND FORM's CARD OF 'laws.FnExactIdPut'. -/
def fnExactIdPutUptoCard : Claim7 := { stood := { row := fnExactIdPutUptoRow, standIns := [], harness := (true, "14dd180988827b28ddab69c772913870420407f5cc2edaf4a04646d167857374"), looks := true }, kinds := [], alts := [], laidByText := true, laidKinds := [.data, .data, .data], laidTests := true, laidLooks := .later }
def FnExactIdPutUptoCardSaid : Prop := Claim7.holds Tryd.pinned (.plain (OpenSpec.upto fnExactIdPutSpec)) fnExactIdPutUptoCard

/-- THE SECOND FORM's CARD OF 'laws.FnExactIdGet'. -/
def fnExactIdGetUptoCard : Claim7 := { stood := { row := fnExactIdGetUptoRow, standIns := [], harness := (true, "14dd180988827b28ddab69c772913870420407f5cc2edaf4a04646d167857374"), looks := true }, kinds := [], alts := [], laidByText := true, laidKinds := [.data, .data, .data, .sentinel, .sentinel], laidTests := true, laidLooks := .later }
def FnExactIdGetUptoCardSaid : Prop := Claim7.holds Tryd.pinned (.plain (OpenSpec.upto fnExactIdGetSpec)) fnExactIdGetUptoCard

/-- THE SECOND FORM's CARD OF 'laws.FnIdText'. -/
def fnIdTextUptoCard : Claim7 := { stood := { row := fnIdTextUptoRow, standIns := [], harness := (true, "14dd180988827b28ddab69c772913870420407f5cc2edaf4a04646d167857374"), looks := true }, kinds := [], alts := [], laidByText := true, laidKinds := [.data, .data, .data, .sentinel, .sentinel], laidTests := true, laidLooks := .later }
def FnIdTextUptoCardSaid : Prop := Claim7.holds Tryd.pinned (.plain (OpenSpec.upto fnIdTextSpec)) fnIdTextUptoCard

/-- THE SECOND FORM's CARD OF 'laws.FnExactListSort'. -/
def fnExactListSortUptoCard : Claim7 := { stood := { row := fnExactListSortUptoRow, standIns := [], harness := (true, "14dd180988827b28ddab69c772913870420407f5cc2edaf4a04646d167857374"), looks := true }, kinds := [], alts := [], laidByText := true, laidKinds := [.data, .data, .data, .sentinel, .sentinel], laidTests := true, laidLooks := .later }
def FnExactListSortUptoCardSaid : Prop := Claim7.holds Tryd.pinned (.plain (OpenSpec.upto fnExactListSortSpec)) fnExactListSortUptoCard

/-- THE SECOND FORM's CARD OF 'laws.FnListSort'. -/
def fnListSortUptoCard : Claim7 := { stood := { row := fnListSortUptoRow, standIns := [], harness := (true, "14dd180988827b28ddab69c772913870420407f5cc2edaf4a04646d167857374"), looks := true }, kinds := [], alts := [], laidByText := true, laidKinds := [.data, .data, .data, .sentinel, .sentinel], laidTests := true, laidLooks := .later }
def FnListSortUptoCardSaid : Prop := Claim7.holds Tryd.pinned (.plain (OpenSpec.upto fnListSortSpec)) fnListSortUptoCard
end Rows
end Go.Proofs.YtgkmbbiebmamaaaDoor
