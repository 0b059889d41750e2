/-
  DERIVED. GIVEN WITH THE SEED: THE CARDS: each row of YtfkmodcjddfeiaaGreatDoorRows.lean that lists a variable, with what it lists TIED to the program's text (the seventh form; the later family's looks); each row that meets fmt, with fmt's text TOLD by the authors' own Lean function (tested against real Go, not proved from fmt's source: count such statements apart). THE CARD IS WHAT COUNTS. Prove the row's statement (the work); the ties are given (YtfkmodcjddfeiaaGreatDoorTie.lean); close each card by the builder's one call (the guide's Derived/Test/ToyasCard.lean, 'card_holds'). Laid BY PROGRAM, IN A SANDBOX (cutbox-door.mjs). By AI agents, Wed Nov 11 2026. No macro, syntax, notation, axiom, sorry.
-/
import Derived.Test.YtfkmodcjddfeiaaGreatDoorRows
import GoSem.ClaimSeven
namespace Go.Proofs.YtfkmodcjddfeiaaGreatDoor
namespace Rows

/-- THE TIED CARD OF 'prowlaw07.ForgeLeasts'. -/
def forgeLeastsCard : Claim7 := { stood := { row := forgeLeastsRow, standIns := [], harness := (true, "5af31414741a3a018feac4d8ccf2b74be8a1f93d0edae67dfab44495e69587c7"), looks := false }, kinds := [], alts := [], laidByText := true, laidKinds := [.data, .data, .funcs], laidTests := true, laidLooks := .later }
def ForgeLeastsCardSaid : Prop := Claim7.holds Tryz.pinned (.plain (OpenSpec.ofChange forgeLeastsSpec)) forgeLeastsCard

/-- THE TIED CARD OF 'prowlaw07.ForgeFeet'. -/
def forgeFeetCard : Claim7 := { stood := { row := forgeFeetRow, standIns := [], harness := (true, "5af31414741a3a018feac4d8ccf2b74be8a1f93d0edae67dfab44495e69587c7"), looks := false }, kinds := [], alts := [], laidByText := true, laidKinds := [.data, .data, .funcs], laidTests := true, laidLooks := .later }
def ForgeFeetCardSaid : Prop := Claim7.holds Tryz.pinned (.plain (OpenSpec.ofChange forgeFeetSpec)) forgeFeetCard

/-- THE TIED CARD OF 'prowlaw07.ForgePlans'. -/
def forgePlansCard : Claim7 := { stood := { row := forgePlansRow, standIns := [], harness := (true, "5af31414741a3a018feac4d8ccf2b74be8a1f93d0edae67dfab44495e69587c7"), looks := false }, kinds := [], alts := [], laidByText := true, laidKinds := [.data, .data, .funcs], laidTests := true, laidLooks := .later }
def ForgePlansCardSaid : Prop := Claim7.holds Tryz.pinned (.plain (OpenSpec.ofChange forgePlansSpec)) forgePlansCard

/-- THE SECOND FORM's CARD OF 'prowlaw07.ForgeLeasts'. -/
def forgeLeastsUptoCard : Claim7 := { stood := { row := forgeLeastsUptoRow, standIns := [], harness := (true, "5af31414741a3a018feac4d8ccf2b74be8a1f93d0edae67dfab44495e69587c7"), looks := false }, kinds := [], alts := [], laidByText := true, laidKinds := [.data, .data, .funcs], laidTests := true, laidLooks := .later }
def ForgeLeastsUptoCardSaid : Prop := Claim7.holds Tryz.pinned (.plain (OpenSpec.upto forgeLeastsSpec)) forgeLeastsUptoCard

/-- THE SECOND FORM's CARD OF 'prowlaw07.ForgeFeet'. -/
def forgeFeetUptoCard : Claim7 := { stood := { row := forgeFeetUptoRow, standIns := [], harness := (true, "5af31414741a3a018feac4d8ccf2b74be8a1f93d0edae67dfab44495e69587c7"), looks := false }, kinds := [], alts := [], laidByText := true, laidKinds := [.data, .data, .funcs], laidTests := true, laidLooks := .later }
def ForgeFeetUptoCardSaid : Prop := Claim7.holds Tryz.pinned (.plain (OpenSpec.upto forgeFeetSpec)) forgeFeetUptoCard

/-- THE SECOND FORM's CARD OF 'prowlaw07.ForgePlans'. -/
def forgePlansUptoCard : Claim7 := { stood := { row := forgePlansUptoRow, standIns := [], harness := (true, "5af31414741a3a018feac4d8ccf2b74be8a1f93d0edae67dfab44495e69587c7"), looks := false }, kinds := [], alts := [], laidByText := true, laidKinds := [.data, .data, .funcs], laidTests := true, laidLooks := .later }
def ForgePlansUptoCardSaid : Prop := Claim7.holds Tryz.pinned (.plain (OpenSpec.upto forgePlansSpec)) forgePlansUptoCard
end Rows
end Go.Proofs.YtfkmodcjddfeiaaGreatDoor
