/-
  DERIVED. GIVEN WITH THE SEED: THE CARDS: each row of YtfkmodcjddfeiaaDoorRows.lean that lists a variable, with what it lists TIED to the program's text (the seventh form; the later family's looks); each row that meets fmt, with fmt's text TOLD by the authors' own Lean function (tested against real Go, not proved from fmt's source: count such statements apart). THE CARD IS WHAT COUNTS. Prove the row's statement (the work); the ties are given (YtfkmodcjddfeiaaDoorTie.lean); close each card by the builder's one call (the guide's Derived/Test/ToyasCard.lean, 'card_holds'). Laid BY PROGRAM, IN A SANDBOX (cutbox-door.mjs). By AI agents, Wed Nov 11 2026. No macro, syntax, notation, axiom, sorry.
-/
import Derived.Test.YtfkmodcjddfeiaaDoorRows
import GoSem.ClaimSeven
namespace Go.Proofs.YtfkmodcjddfeiaaDoor
namespace Rows

/-- THE TIED CARD OF 'prowlaw01.ChainThicks'. -/
def chainThicksCard : Claim7 := { stood := { row := chainThicksRow, standIns := [], harness := (true, "0552bb48d192e66967f33c9b2a99bd704d609c7fe93456401603085cee876ac2"), looks := false }, kinds := [], alts := [], laidByText := true, laidKinds := [.data, .funcs], laidTests := true, laidLooks := .later }
def ChainThicksCardSaid : Prop := Claim7.holds Tryd.pinned (.plain (OpenSpec.ofChange chainThicksSpec)) chainThicksCard

/-- THE TIED CARD OF 'prowlaw01.ChainThins'. -/
def chainThinsCard : Claim7 := { stood := { row := chainThinsRow, standIns := [], harness := (true, "0552bb48d192e66967f33c9b2a99bd704d609c7fe93456401603085cee876ac2"), looks := false }, kinds := [], alts := [], laidByText := true, laidKinds := [.data, .funcs], laidTests := true, laidLooks := .later }
def ChainThinsCardSaid : Prop := Claim7.holds Tryd.pinned (.plain (OpenSpec.ofChange chainThinsSpec)) chainThinsCard

/-- THE TIED CARD OF 'prowlaw01.ChainTurns'. -/
def chainTurnsCard : Claim7 := { stood := { row := chainTurnsRow, standIns := [], harness := (true, "0552bb48d192e66967f33c9b2a99bd704d609c7fe93456401603085cee876ac2"), looks := false }, kinds := [], alts := [], laidByText := true, laidKinds := [.data, .funcs], laidTests := true, laidLooks := .later }
def ChainTurnsCardSaid : Prop := Claim7.holds Tryd.pinned (.plain (OpenSpec.ofChange chainTurnsSpec)) chainTurnsCard

/-- THE TIED CARD OF 'prowlaw01.ChainTrue'. -/
def chainTrueCard : Claim7 := { stood := { row := chainTrueRow, standIns := [], harness := (true, "0552bb48d192e66967f33c9b2a99bd704d609c7fe93456401603085cee876ac2"), looks := false }, kinds := [], alts := [], laidByText := true, laidKinds := [.data, .funcs], laidTests := true, laidLooks := .later }
def ChainTrueCardSaid : Prop := Claim7.holds Tryd.pinned (.plain (OpenSpec.ofChange chainTrueSpec)) chainTrueCard

/-- THE TIED CARD OF 'prowlaw01.ChainEnds'. -/
def chainEndsCard : Claim7 := { stood := { row := chainEndsRow, standIns := [], harness := (true, "0552bb48d192e66967f33c9b2a99bd704d609c7fe93456401603085cee876ac2"), looks := false }, kinds := [], alts := [], laidByText := true, laidKinds := [.data, .funcs], laidTests := true, laidLooks := .later }
def ChainEndsCardSaid : Prop := Claim7.holds Tryd.pinned (.plain (OpenSpec.ofChange chainEndsSpec)) chainEndsCard

/-- THE TIED CARD OF 'prowlaw01.ChainMore'. -/
def chainMoreCard : Claim7 := { stood := { row := chainMoreRow, standIns := [], harness := (true, "0552bb48d192e66967f33c9b2a99bd704d609c7fe93456401603085cee876ac2"), looks := false }, kinds := [], alts := [], laidByText := true, laidKinds := [.data, .funcs], laidTests := true, laidLooks := .later }
def ChainMoreCardSaid : Prop := Claim7.holds Tryd.pinned (.plain (OpenSpec.ofChange chainMoreSpec)) chainMoreCard

/-- THE TIED CARD OF 'prowlaw01.ChainFirst'. -/
def chainFirstCard : Claim7 := { stood := { row := chainFirstRow, standIns := [], harness := (true, "0552bb48d192e66967f33c9b2a99bd704d609c7fe93456401603085cee876ac2"), looks := false }, kinds := [], alts := [], laidByText := true, laidKinds := [.data, .funcs], laidTests := true, laidLooks := .later }
def ChainFirstCardSaid : Prop := Claim7.holds Tryd.pinned (.plain (OpenSpec.ofChange chainFirstSpec)) chainFirstCard

/-- THE TIED CARD OF 'prowlaw01.ChainMirror'. -/
def chainMirrorCard : Claim7 := { stood := { row := chainMirrorRow, standIns := [], harness := (true, "0552bb48d192e66967f33c9b2a99bd704d609c7fe93456401603085cee876ac2"), looks := false }, kinds := [], alts := [], laidByText := true, laidKinds := [.data, .funcs], laidTests := true, laidLooks := .later }
def ChainMirrorCardSaid : Prop := Claim7.holds Tryd.pinned (.plain (OpenSpec.ofChange chainMirrorSpec)) chainMirrorCard

/-- THE TIED CARD OF 'prowlaw01.ChainTurn'. -/
def chainTurnCard : Claim7 := { stood := { row := chainTurnRow, standIns := [], harness := (true, "0552bb48d192e66967f33c9b2a99bd704d609c7fe93456401603085cee876ac2"), looks := false }, kinds := [], alts := [], laidByText := true, laidKinds := [.data, .funcs], laidTests := true, laidLooks := .later }
def ChainTurnCardSaid : Prop := Claim7.holds Tryd.pinned (.plain (OpenSpec.ofChange chainTurnSpec)) chainTurnCard

/-- THE TIED CARD OF 'prowlaw01.ChainWrong'. -/
def chainWrongCard : Claim7 := { stood := { row := chainWrongRow, standIns := [], harness := (true, "0552bb48d192e66967f33c9b2a99bd704d609c7fe93456401603085cee876ac2"), looks := false }, kinds := [], alts := [], laidByText := true, laidKinds := [.data, .funcs], laidTests := true, laidLooks := .later }
def ChainWrongCardSaid : Prop := Claim7.holds Tryd.pinned (.plain (OpenSpec.ofChange chainWrongSpec)) chainWrongCard

/-- THE TIED CARD OF 'prowlaw01.ChainPlain'. -/
def chainPlainCard : Claim7 := { stood := { row := chainPlainRow, standIns := [], harness := (true, "0552bb48d192e66967f33c9b2a99bd704d609c7fe93456401603085cee876ac2"), looks := false }, kinds := [], alts := [], laidByText := true, laidKinds := [.data, .funcs], laidTests := true, laidLooks := .later }
def ChainPlainCardSaid : Prop := Claim7.holds Tryd.pinned (.plain (OpenSpec.ofChange chainPlainSpec)) chainPlainCard

/-- THE TIED CARD OF 'prowlaw01.ChainKnown'. -/
def chainKnownCard : Claim7 := { stood := { row := chainKnownRow, standIns := [], harness := (true, "0552bb48d192e66967f33c9b2a99bd704d609c7fe93456401603085cee876ac2"), looks := false }, kinds := [], alts := [], laidByText := true, laidKinds := [.data, .funcs], laidTests := true, laidLooks := .later }
def ChainKnownCardSaid : Prop := Claim7.holds Tryd.pinned (.plain (OpenSpec.ofChange chainKnownSpec)) chainKnownCard

/-- THE TIED CARD OF 'prowtop.TopTurned'. -/
def topTurnedCard : Claim7 := { stood := { row := topTurnedRow, standIns := [], harness := (true, "0552bb48d192e66967f33c9b2a99bd704d609c7fe93456401603085cee876ac2"), looks := false }, kinds := [], alts := [], laidByText := true, laidKinds := [.data, .funcs, .data, .funcs], laidTests := true, laidLooks := .later }
def TopTurnedCardSaid : Prop := Claim7.holds Tryd.pinned (.plain (OpenSpec.ofChange topTurnedSpec)) topTurnedCard

/-- THE TIED CARD OF 'prowlaw07.ForgeTrue'. -/
def forgeTrueCard : Claim7 := { stood := { row := forgeTrueRow, standIns := [], harness := (true, "0552bb48d192e66967f33c9b2a99bd704d609c7fe93456401603085cee876ac2"), looks := false }, kinds := [], alts := [], laidByText := true, laidKinds := [.data, .data, .funcs], laidTests := true, laidLooks := .later }
def ForgeTrueCardSaid : Prop := Claim7.holds Tryd.pinned (.plain (OpenSpec.ofChange forgeTrueSpec)) forgeTrueCard

/-- THE TIED CARD OF 'prowlaw07.ForgeNew'. -/
def forgeNewCard : Claim7 := { stood := { row := forgeNewRow, standIns := [], harness := (true, "0552bb48d192e66967f33c9b2a99bd704d609c7fe93456401603085cee876ac2"), looks := false }, kinds := [], alts := [], laidByText := true, laidKinds := [.data, .data, .funcs], laidTests := true, laidLooks := .later }
def ForgeNewCardSaid : Prop := Claim7.holds Tryd.pinned (.plain (OpenSpec.ofChange forgeNewSpec)) forgeNewCard

/-- THE TIED CARD OF 'prowlaw07.ForgeFirst'. -/
def forgeFirstCard : Claim7 := { stood := { row := forgeFirstRow, standIns := [], harness := (true, "0552bb48d192e66967f33c9b2a99bd704d609c7fe93456401603085cee876ac2"), looks := false }, kinds := [], alts := [], laidByText := true, laidKinds := [.data, .data, .funcs], laidTests := true, laidLooks := .later }
def ForgeFirstCardSaid : Prop := Claim7.holds Tryd.pinned (.plain (OpenSpec.ofChange forgeFirstSpec)) forgeFirstCard

/-- THE TIED CARD OF 'prowlaw07.ForgeStocked'. -/
def forgeStockedCard : Claim7 := { stood := { row := forgeStockedRow, standIns := [], harness := (true, "0552bb48d192e66967f33c9b2a99bd704d609c7fe93456401603085cee876ac2"), looks := false }, kinds := [], alts := [], laidByText := true, laidKinds := [.data, .data, .funcs], laidTests := true, laidLooks := .later }
def ForgeStockedCardSaid : Prop := Claim7.holds Tryd.pinned (.plain (OpenSpec.ofChange forgeStockedSpec)) forgeStockedCard

/-- THE TIED CARD OF 'prowlaw07.ForgePlan'. -/
def forgePlanCard : Claim7 := { stood := { row := forgePlanRow, standIns := [], harness := (true, "0552bb48d192e66967f33c9b2a99bd704d609c7fe93456401603085cee876ac2"), looks := false }, kinds := [], alts := [], laidByText := true, laidKinds := [.data, .data, .funcs], laidTests := true, laidLooks := .later }
def ForgePlanCardSaid : Prop := Claim7.holds Tryd.pinned (.plain (OpenSpec.ofChange forgePlanSpec)) forgePlanCard

/-- THE TIED CARD OF 'prowlaw07.ForgeStock'. -/
def forgeStockCard : Claim7 := { stood := { row := forgeStockRow, standIns := [], harness := (true, "0552bb48d192e66967f33c9b2a99bd704d609c7fe93456401603085cee876ac2"), looks := false }, kinds := [], alts := [], laidByText := true, laidKinds := [.data, .data, .funcs], laidTests := true, laidLooks := .later }
def ForgeStockCardSaid : Prop := Claim7.holds Tryd.pinned (.plain (OpenSpec.ofChange forgeStockSpec)) forgeStockCard

/-- THE TIED CARD OF 'prowlaw07.ForgeRest'. -/
def forgeRestCard : Claim7 := { stood := { row := forgeRestRow, standIns := [], harness := (true, "0552bb48d192e66967f33c9b2a99bd704d609c7fe93456401603085cee876ac2"), looks := false }, kinds := [], alts := [], laidByText := true, laidKinds := [.data, .data, .funcs], laidTests := true, laidLooks := .later }
def ForgeRestCardSaid : Prop := Claim7.holds Tryd.pinned (.plain (OpenSpec.ofChange forgeRestSpec)) forgeRestCard

/-- THE TIED CARD OF 'prowlaw07.ForgeKnown'. -/
def forgeKnownCard : Claim7 := { stood := { row := forgeKnownRow, standIns := [], harness := (true, "0552bb48d192e66967f33c9b2a99bd704d609c7fe93456401603085cee876ac2"), looks := false }, kinds := [], alts := [], laidByText := true, laidKinds := [.data, .data, .funcs], laidTests := true, laidLooks := .later }
def ForgeKnownCardSaid : Prop := Claim7.holds Tryd.pinned (.plain (OpenSpec.ofChange forgeKnownSpec)) forgeKnownCard

/-- THE TIED CARD OF 'prowlaw07.ForgeMore'. -/
def forgeMoreCard : Claim7 := { stood := { row := forgeMoreRow, standIns := [], harness := (true, "0552bb48d192e66967f33c9b2a99bd704d609c7fe93456401603085cee876ac2"), looks := false }, kinds := [], alts := [], laidByText := true, laidKinds := [.data, .data, .funcs], laidTests := true, laidLooks := .later }
def ForgeMoreCardSaid : Prop := Claim7.holds Tryd.pinned (.plain (OpenSpec.ofChange forgeMoreSpec)) forgeMoreCard

/-- THE TIED CARD OF 'prowlaw07.ForgeOld'. -/
def forgeOldCard : Claim7 := { stood := { row := forgeOldRow, standIns := [], harness := (true, "0552bb48d192e66967f33c9b2a99bd704d609c7fe93456401603085cee876ac2"), looks := false }, kinds := [], alts := [], laidByText := true, laidKinds := [.data, .funcs, .data, .funcs], laidTests := true, laidLooks := .later }
def ForgeOldCardSaid : Prop := Claim7.holds Tryd.pinned (.plain (OpenSpec.ofChange forgeOldSpec)) forgeOldCard

/-- THE TIED CARD OF 'prowtop.TopSpare'. -/
def topSpareCard : Claim7 := { stood := { row := topSpareRow, standIns := [], harness := (true, "0552bb48d192e66967f33c9b2a99bd704d609c7fe93456401603085cee876ac2"), looks := false }, kinds := [], alts := [], laidByText := true, laidKinds := [.data, .funcs, .data, .funcs], laidTests := true, laidLooks := .later }
def TopSpareCardSaid : Prop := Claim7.holds Tryd.pinned (.plain (OpenSpec.ofChange topSpareSpec)) topSpareCard

/-- THE SECOND FORM's CARD OF 'prowlaw01.ChainThicks'. -/
def chainThicksUptoCard : Claim7 := { stood := { row := chainThicksUptoRow, standIns := [], harness := (true, "0552bb48d192e66967f33c9b2a99bd704d609c7fe93456401603085cee876ac2"), looks := false }, kinds := [], alts := [], laidByText := true, laidKinds := [.data, .funcs], laidTests := true, laidLooks := .later }
def ChainThicksUptoCardSaid : Prop := Claim7.holds Tryd.pinned (.plain (OpenSpec.upto chainThicksSpec)) chainThicksUptoCard

/-- THE SECOND FORM's CARD OF 'prowlaw01.ChainThins'. -/
def chainThinsUptoCard : Claim7 := { stood := { row := chainThinsUptoRow, standIns := [], harness := (true, "0552bb48d192e66967f33c9b2a99bd704d609c7fe93456401603085cee876ac2"), looks := false }, kinds := [], alts := [], laidByText := true, laidKinds := [.data, .funcs], laidTests := true, laidLooks := .later }
def ChainThinsUptoCardSaid : Prop := Claim7.holds Tryd.pinned (.plain (OpenSpec.upto chainThinsSpec)) chainThinsUptoCard

/-- THE SECOND FORM's CARD OF 'prowlaw01.ChainTurns'. -/
def chainTurnsUptoCard : Claim7 := { stood := { row := chainTurnsUptoRow, standIns := [], harness := (true, "0552bb48d192e66967f33c9b2a99bd704d609c7fe93456401603085cee876ac2"), looks := false }, kinds := [], alts := [], laidByText := true, laidKinds := [.data, .funcs], laidTests := true, laidLooks := .later }
def ChainTurnsUptoCardSaid : Prop := Claim7.holds Tryd.pinned (.plain (OpenSpec.upto chainTurnsSpec)) chainTurnsUptoCard

/-- THE SECOND FORM's CARD OF 'prowlaw01.ChainTrue'. -/
def chainTrueUptoCard : Claim7 := { stood := { row := chainTrueUptoRow, standIns := [], harness := (true, "0552bb48d192e66967f33c9b2a99bd704d609c7fe93456401603085cee876ac2"), looks := false }, kinds := [], alts := [], laidByText := true, laidKinds := [.data, .funcs], laidTests := true, laidLooks := .later }
def ChainTrueUptoCardSaid : Prop := Claim7.holds Tryd.pinned (.plain (OpenSpec.upto chainTrueSpec)) chainTrueUptoCard

/-- THE SECOND FORM's CARD OF 'prowlaw01.ChainEnds'. -/
def chainEndsUptoCard : Claim7 := { stood := { row := chainEndsUptoRow, standIns := [], harness := (true, "0552bb48d192e66967f33c9b2a99bd704d609c7fe93456401603085cee876ac2"), looks := false }, kinds := [], alts := [], laidByText := true, laidKinds := [.data, .funcs], laidTests := true, laidLooks := .later }
def ChainEndsUptoCardSaid : Prop := Claim7.holds Tryd.pinned (.plain (OpenSpec.upto chainEndsSpec)) chainEndsUptoCard

/-- THE SECOND FORM's CARD OF 'prowlaw01.ChainMore'. -/
def chainMoreUptoCard : Claim7 := { stood := { row := chainMoreUptoRow, standIns := [], harness := (true, "0552bb48d192e66967f33c9b2a99bd704d609c7fe93456401603085cee876ac2"), looks := false }, kinds := [], alts := [], laidByText := true, laidKinds := [.data, .funcs], laidTests := true, laidLooks := .later }
def ChainMoreUptoCardSaid : Prop := Claim7.holds Tryd.pinned (.plain (OpenSpec.upto chainMoreSpec)) chainMoreUptoCard

/-- THE SECOND FORM's CARD OF 'prowlaw01.ChainFirst'. -/
def chainFirstUptoCard : Claim7 := { stood := { row := chainFirstUptoRow, standIns := [], harness := (true, "0552bb48d192e66967f33c9b2a99bd704d609c7fe93456401603085cee876ac2"), looks := false }, kinds := [], alts := [], laidByText := true, laidKinds := [.data, .funcs], laidTests := true, laidLooks := .later }
def ChainFirstUptoCardSaid : Prop := Claim7.holds Tryd.pinned (.plain (OpenSpec.upto chainFirstSpec)) chainFirstUptoCard

/-- THE SECOND FORM's CARD OF 'prowlaw01.ChainMirror'. -/
def chainMirrorUptoCard : Claim7 := { stood := { row := chainMirrorUptoRow, standIns := [], harness := (true, "0552bb48d192e66967f33c9b2a99bd704d609c7fe93456401603085cee876ac2"), looks := false }, kinds := [], alts := [], laidByText := true, laidKinds := [.data, .funcs], laidTests := true, laidLooks := .later }
def ChainMirrorUptoCardSaid : Prop := Claim7.holds Tryd.pinned (.plain (OpenSpec.upto chainMirrorSpec)) chainMirrorUptoCard

/-- THE SECOND FORM's CARD OF 'prowlaw01.ChainTurn'. -/
def chainTurnUptoCard : Claim7 := { stood := { row := chainTurnUptoRow, standIns := [], harness := (true, "0552bb48d192e66967f33c9b2a99bd704d609c7fe93456401603085cee876ac2"), looks := false }, kinds := [], alts := [], laidByText := true, laidKinds := [.data, .funcs], laidTests := true, laidLooks := .later }
def ChainTurnUptoCardSaid : Prop := Claim7.holds Tryd.pinned (.plain (OpenSpec.upto chainTurnSpec)) chainTurnUptoCard

/-- THE SECOND FORM's CARD OF 'prowlaw01.ChainWrong'. -/
def chainWrongUptoCard : Claim7 := { stood := { row := chainWrongUptoRow, standIns := [], harness := (true, "0552bb48d192e66967f33c9b2a99bd704d609c7fe93456401603085cee876ac2"), looks := false }, kinds := [], alts := [], laidByText := true, laidKinds := [.data, .funcs], laidTests := true, laidLooks := .later }
def ChainWrongUptoCardSaid : Prop := Claim7.holds Tryd.pinned (.plain (OpenSpec.upto chainWrongSpec)) chainWrongUptoCard

/-- THE SECOND FORM's CARD OF 'prowlaw01.ChainPlain'. -/
def chainPlainUptoCard : Claim7 := { stood := { row := chainPlainUptoRow, standIns := [], harness := (true, "0552bb48d192e66967f33c9b2a99bd704d609c7fe93456401603085cee876ac2"), looks := false }, kinds := [], alts := [], laidByText := true, laidKinds := [.data, .funcs], laidTests := true, laidLooks := .later }
def ChainPlainUptoCardSaid : Prop := Claim7.holds Tryd.pinned (.plain (OpenSpec.upto chainPlainSpec)) chainPlainUptoCard

/-- THE SECOND FORM's CARD OF 'prowlaw01.ChainKnown'. -/
def chainKnownUptoCard : Claim7 := { stood := { row := chainKnownUptoRow, standIns := [], harness := (true, "0552bb48d192e66967f33c9b2a99bd704d609c7fe93456401603085cee876ac2"), looks := false }, kinds := [], alts := [], laidByText := true, laidKinds := [.data, .funcs], laidTests := true, laidLooks := .later }
def ChainKnownUptoCardSaid : Prop := Claim7.holds Tryd.pinned (.plain (OpenSpec.upto chainKnownSpec)) chainKnownUptoCard

/-- THE SECOND FORM's CARD OF 'prowtop.TopTurned'. -/
def topTurnedUptoCard : Claim7 := { stood := { row := topTurnedUptoRow, standIns := [], harness := (true, "0552bb48d192e66967f33c9b2a99bd704d609c7fe93456401603085cee876ac2"), looks := false }, kinds := [], alts := [], laidByText := true, laidKinds := [.data, .funcs, .data, .funcs], laidTests := true, laidLooks := .later }
def TopTurnedUptoCardSaid : Prop := Claim7.holds Tryd.pinned (.plain (OpenSpec.upto topTurnedSpec)) topTurnedUptoCard

/-- THE SECOND FORM's CARD OF 'prowlaw07.ForgeTrue'. -/
def forgeTrueUptoCard : Claim7 := { stood := { row := forgeTrueUptoRow, standIns := [], harness := (true, "0552bb48d192e66967f33c9b2a99bd704d609c7fe93456401603085cee876ac2"), looks := false }, kinds := [], alts := [], laidByText := true, laidKinds := [.data, .data, .funcs], laidTests := true, laidLooks := .later }
def ForgeTrueUptoCardSaid : Prop := Claim7.holds Tryd.pinned (.plain (OpenSpec.upto forgeTrueSpec)) forgeTrueUptoCard

/-- THE SECOND FORM's CARD OF 'prowlaw07.ForgeNew'. -/
def forgeNewUptoCard : Claim7 := { stood := { row := forgeNewUptoRow, standIns := [], harness := (true, "0552bb48d192e66967f33c9b2a99bd704d609c7fe93456401603085cee876ac2"), looks := false }, kinds := [], alts := [], laidByText := true, laidKinds := [.data, .data, .funcs], laidTests := true, laidLooks := .later }
def ForgeNewUptoCardSaid : Prop := Claim7.holds Tryd.pinned (.plain (OpenSpec.upto forgeNewSpec)) forgeNewUptoCard

/-- THE SECOND FORM's CARD OF 'prowlaw07.ForgeFirst'. -/
def forgeFirstUptoCard : Claim7 := { stood := { row := forgeFirstUptoRow, standIns := [], harness := (true, "0552bb48d192e66967f33c9b2a99bd704d609c7fe93456401603085cee876ac2"), looks := false }, kinds := [], alts := [], laidByText := true, laidKinds := [.data, .data, .funcs], laidTests := true, laidLooks := .later }
def ForgeFirstUptoCardSaid : Prop := Claim7.holds Tryd.pinned (.plain (OpenSpec.upto forgeFirstSpec)) forgeFirstUptoCard

/-- THE SECOND FORM's CARD OF 'prowlaw07.ForgeStocked'. -/
def forgeStockedUptoCard : Claim7 := { stood := { row := forgeStockedUptoRow, standIns := [], harness := (true, "0552bb48d192e66967f33c9b2a99bd704d609c7fe93456401603085cee876ac2"), looks := false }, kinds := [], alts := [], laidByText := true, laidKinds := [.data, .data, .funcs], laidTests := true, laidLooks := .later }
def ForgeStockedUptoCardSaid : Prop := Claim7.holds Tryd.pinned (.plain (OpenSpec.upto forgeStockedSpec)) forgeStockedUptoCard

/-- THE SECOND FORM's CARD OF 'prowlaw07.ForgePlan'. -/
def forgePlanUptoCard : Claim7 := { stood := { row := forgePlanUptoRow, standIns := [], harness := (true, "0552bb48d192e66967f33c9b2a99bd704d609c7fe93456401603085cee876ac2"), looks := false }, kinds := [], alts := [], laidByText := true, laidKinds := [.data, .data, .funcs], laidTests := true, laidLooks := .later }
def ForgePlanUptoCardSaid : Prop := Claim7.holds Tryd.pinned (.plain (OpenSpec.upto forgePlanSpec)) forgePlanUptoCard

/-- THE SECOND FORM's CARD OF 'prowlaw07.ForgeStock'. -/
def forgeStockUptoCard : Claim7 := { stood := { row := forgeStockUptoRow, standIns := [], harness := (true, "0552bb48d192e66967f33c9b2a99bd704d609c7fe93456401603085cee876ac2"), looks := false }, kinds := [], alts := [], laidByText := true, laidKinds := [.data, .data, .funcs], laidTests := true, laidLooks := .later }
def ForgeStockUptoCardSaid : Prop := Claim7.holds Tryd.pinned (.plain (OpenSpec.upto forgeStockSpec)) forgeStockUptoCard

/-- THE SECOND FORM's CARD OF 'prowlaw07.ForgeRest'. -/
def forgeRestUptoCard : Claim7 := { stood := { row := forgeRestUptoRow, standIns := [], harness := (true, "0552bb48d192e66967f33c9b2a99bd704d609c7fe93456401603085cee876ac2"), looks := false }, kinds := [], alts := [], laidByText := true, laidKinds := [.data, .data, .funcs], laidTests := true, laidLooks := .later }
def ForgeRestUptoCardSaid : Prop := Claim7.holds Tryd.pinned (.plain (OpenSpec.upto forgeRestSpec)) forgeRestUptoCard

/-- THE SECOND FORM's CARD OF 'prowlaw07.ForgeKnown'. -/
def forgeKnownUptoCard : Claim7 := { stood := { row := forgeKnownUptoRow, standIns := [], harness := (true, "0552bb48d192e66967f33c9b2a99bd704d609c7fe93456401603085cee876ac2"), looks := false }, kinds := [], alts := [], laidByText := true, laidKinds := [.data, .data, .funcs], laidTests := true, laidLooks := .later }
def ForgeKnownUptoCardSaid : Prop := Claim7.holds Tryd.pinned (.plain (OpenSpec.upto forgeKnownSpec)) forgeKnownUptoCard

/-- THE SECOND FORM's CARD OF 'prowlaw07.ForgeMore'. -/
def forgeMoreUptoCard : Claim7 := { stood := { row := forgeMoreUptoRow, standIns := [], harness := (true, "0552bb48d192e66967f33c9b2a99bd704d609c7fe93456401603085cee876ac2"), looks := false }, kinds := [], alts := [], laidByText := true, laidKinds := [.data, .data, .funcs], laidTests := true, laidLooks := .later }
def ForgeMoreUptoCardSaid : Prop := Claim7.holds Tryd.pinned (.plain (OpenSpec.upto forgeMoreSpec)) forgeMoreUptoCard

/-- THE SECOND FORM's CARD OF 'prowlaw07.ForgeOld'. -/
def forgeOldUptoCard : Claim7 := { stood := { row := forgeOldUptoRow, standIns := [], harness := (true, "0552bb48d192e66967f33c9b2a99bd704d609c7fe93456401603085cee876ac2"), looks := false }, kinds := [], alts := [], laidByText := true, laidKinds := [.data, .funcs, .data, .funcs], laidTests := true, laidLooks := .later }
def ForgeOldUptoCardSaid : Prop := Claim7.holds Tryd.pinned (.plain (OpenSpec.upto forgeOldSpec)) forgeOldUptoCard

/-- THE SECOND FORM's CARD OF 'prowtop.TopSpare'. -/
def topSpareUptoCard : Claim7 := { stood := { row := topSpareUptoRow, standIns := [], harness := (true, "0552bb48d192e66967f33c9b2a99bd704d609c7fe93456401603085cee876ac2"), looks := false }, kinds := [], alts := [], laidByText := true, laidKinds := [.data, .funcs, .data, .funcs], laidTests := true, laidLooks := .later }
def TopSpareUptoCardSaid : Prop := Claim7.holds Tryd.pinned (.plain (OpenSpec.upto topSpareSpec)) topSpareUptoCard
end Rows
end Go.Proofs.YtfkmodcjddfeiaaDoor
