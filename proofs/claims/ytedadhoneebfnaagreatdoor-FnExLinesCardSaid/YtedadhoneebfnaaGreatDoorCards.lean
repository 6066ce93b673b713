/-
  DERIVED. GIVEN WITH THE SEED: THE CARDS: each row of YtedadhoneebfnaaGreatDoorRows.lean that lists a variable, with what it lists TIED to the program's text (the seventh form; the later family's looks); each row that meets fmt, with fmt's text TOLD by the authors' own Lean function (tested against real Go, not proved from fmt's source: count such statements apart). THE CARD IS WHAT COUNTS. Prove the row's statement (the work); the ties are given (YtedadhoneebfnaaGreatDoorTie.lean); close each card by the builder's one call (the guide's Derived/Test/ToyasCard.lean, 'card_holds'). Laid BY PROGRAM, IN A SANDBOX (cutbox-door.mjs). By AI agents, Wed Nov 11 2026. No macro, syntax, notation, axiom, sorry.
-/
import Derived.Test.YtedadhoneebfnaaGreatDoorRows
import GoSem.ClaimSeven
namespace Go.Proofs.YtedadhoneebfnaaGreatDoor
namespace Rows

/-- THE TIED CARD OF 'laws.FnExactExLines'. -/
def fnExactExLinesCard : Claim7 := { stood := { row := fnExactExLinesRow, standIns := [], harness := (true, "43549d4e4b27041cc973a675472f58bfb888804f79ece6b2b066295ec6c7c493"), looks := false }, kinds := [], alts := [], laidByText := true, laidKinds := [.data, .data, .data], laidTests := true, laidLooks := .later }
def FnExactExLinesCardSaid : Prop := Claim7.holds Tryz.pinned (.plain (OpenSpec.ofChange fnExactExLinesSpec)) fnExactExLinesCard

/-- THE TIED CARD OF 'laws.FnReadJournal'. -/
def fnReadJournalCard : Claim7 := { stood := { row := fnReadJournalRow, standIns := [], harness := (true, "43549d4e4b27041cc973a675472f58bfb888804f79ece6b2b066295ec6c7c493"), looks := false }, kinds := [], alts := [], laidByText := true, laidKinds := [.data, .data, .data], laidTests := true, laidLooks := .later }
def FnReadJournalCardSaid : Prop := Claim7.holds Tryz.pinned (.plain (OpenSpec.ofChange fnReadJournalSpec)) fnReadJournalCard

/-- THE TIED CARD OF 'laws.FnExLines'. -/
def fnExLinesCard : Claim7 := { stood := { row := fnExLinesRow, standIns := [], harness := (true, "43549d4e4b27041cc973a675472f58bfb888804f79ece6b2b066295ec6c7c493"), looks := false }, kinds := [], alts := [], laidByText := true, laidKinds := [.data, .data, .data], laidTests := true, laidLooks := .later }
def FnExLinesCardSaid : Prop := Claim7.holds Tryz.pinned (.plain (OpenSpec.ofChange fnExLinesSpec)) fnExLinesCard

/-- THE TIED CARD OF 'laws.FnExactExLine'. -/
def fnExactExLineCard : Claim7 := { stood := { row := fnExactExLineRow, standIns := [], harness := (true, "43549d4e4b27041cc973a675472f58bfb888804f79ece6b2b066295ec6c7c493"), looks := false }, kinds := [], alts := [], laidByText := true, laidKinds := [.data, .data, .data], laidTests := true, laidLooks := .later }
def FnExactExLineCardSaid : Prop := Claim7.holds Tryz.pinned (.plain (OpenSpec.ofChange fnExactExLineSpec)) fnExactExLineCard

/-- THE TIED CARD OF 'laws.FnExLine'. -/
def fnExLineCard : Claim7 := { stood := { row := fnExLineRow, standIns := [], harness := (true, "43549d4e4b27041cc973a675472f58bfb888804f79ece6b2b066295ec6c7c493"), looks := false }, kinds := [], alts := [], laidByText := true, laidKinds := [.data, .data, .data], laidTests := true, laidLooks := .later }
def FnExLineCardSaid : Prop := Claim7.holds Tryz.pinned (.plain (OpenSpec.ofChange fnExLineSpec)) fnExLineCard

/-- THE SECOND FORM's CARD OF 'laws.FnExactExLines'. -/
def fnExactExLinesUptoCard : Claim7 := { stood := { row := fnExactExLinesUptoRow, standIns := [], harness := (true, "43549d4e4b27041cc973a675472f58bfb888804f79ece6b2b066295ec6c7c493"), looks := false }, kinds := [], alts := [], laidByText := true, laidKinds := [.data, .data, .data], laidTests := true, laidLooks := .later }
def FnExactExLinesUptoCardSaid : Prop := Claim7.holds Tryz.pinned (.plain (OpenSpec.upto fnExactExLinesSpec)) fnExactExLinesUptoCard

/-- THE SECOND FORM's CARD OF 'laws.FnReadJournal'. -/
def fnReadJournalUptoCard : Claim7 := { stood := { row := fnReadJournalUptoRow, standIns := [], harness := (true, "43549d4e4b27041cc973a675472f58bfb888804f79ece6b2b066295ec6c7c493"), looks := false }, kinds := [], alts := [], laidByText := true, laidKinds := [.data, .data, .data], laidTests := true, laidLooks := .later }
def FnReadJournalUptoCardSaid : Prop := Claim7.holds Tryz.pinned (.plain (OpenSpec.upto fnReadJournalSpec)) fnReadJournalUptoCard

/-- THE SECOND FORM's CARD OF 'laws.FnExLines'. -/
def fnExLinesUptoCard : Claim7 := { stood := { row := fnExLinesUptoRow, standIns := [], harness := (true, "43549d4e4b27041cc973a675472f58bfb888804f79ece6b2b066295ec6c7c493"), looks := false }, kinds := [], alts := [], laidByText := true, laidKinds := [.data, .data, .data], laidTests := true, laidLooks := .later }
def FnExLinesUptoCardSaid : Prop := Claim7.holds Tryz.pinned (.plain (OpenSpec.upto fnExLinesSpec)) fnExLinesUptoCard

/-- THE SECOND FORM's CARD OF 'laws.FnExactExLine'. -/
def fnExactExLineUptoCard : Claim7 := { stood := { row := fnExactExLineUptoRow, standIns := [], harness := (true, "43549d4e4b27041cc973a675472f58bfb888804f79ece6b2b066295ec6c7c493"), looks := false }, kinds := [], alts := [], laidByText := true, laidKinds := [.data, .data, .data], laidTests := true, laidLooks := .later }
def FnExactExLineUptoCardSaid : Prop := Claim7.holds Tryz.pinned (.plain (OpenSpec.upto fnExactExLineSpec)) fnExactExLineUptoCard

/-- THE SECOND FORM's CARD OF 'laws.FnExLine'. -/
def fnExLineUptoCard : Claim7 := { stood := { row := fnExLineUptoRow, standIns := [], harness := (true, "43549d4e4b27041cc973a675472f58bfb888804f79ece6b2b066295ec6c7c493"), looks := false }, kinds := [], alts := [], laidByText := true, laidKinds := [.data, .data, .data], laidTests := true, laidLooks := .later }
def FnExLineUptoCardSaid : Prop := Claim7.holds Tryz.pinned (.plain (OpenSpec.upto fnExLineSpec)) fnExLineUptoCard
end Rows
end Go.Proofs.YtedadhoneebfnaaGreatDoor
