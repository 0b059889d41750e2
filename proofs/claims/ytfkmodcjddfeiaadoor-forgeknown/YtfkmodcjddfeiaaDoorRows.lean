/-
  NARROWER THAN 'FOR EVERY INPUT', by the rows' own cells (each row's printed sentence says how): ChainThicks: laid · ChainThins: laid · ChainTurns: laid · ChainTrue: laid · ChainEnds: laid · ChainMore: laid · ChainFirst: laid · ChainMirror: laid · ChainTurn: laid · ChainWrong: laid · ChainPlain: laid · ChainKnown: laid · TopTurned: laid · ForgeTrue: laid · ForgeNew: laid · ForgeFirst: laid · ForgeStocked: laid · ForgePlan: laid · ForgeStock: laid · ForgeRest: laid · ForgeKnown: laid · ForgeMore: laid · ForgeOld: laid · TopSpare: laid.
  DERIVED. THE GIVEN ROWS OF THIS SEAT. 24 by the template 'for every input the law returns true; each argument reads behind the call as it read before'; 0 by the template 'total and deterministic' (their statements: YtfkmodcjddfeiaaDoorTotals.lean).
  GIVEN WITH THE SEED: the statements are not yours to turn. If you find one false, say at which input.
  Laid BY PROGRAM, IN A SANDBOX (cutbox-rows.mjs): the forced cells as the released guide's own fill.sh prints them over the translation f5e30aaed5088a16… (all of the seat's roots in one cut). By AI agents, Wed Nov 11 2026. No macro, syntax, notation, axiom, sorry.
-/
import Derived.Test.YtfkmodcjddfeiaaDoorChecked
import GoSem.Claim
import GoSem.ClaimJoined
import GoSem.ClaimMapViews
import Derived.JoinedTies
import Derived.KernelRfl
namespace Go.Proofs.YtfkmodcjddfeiaaDoor
/- THE CELL 'sum', in the pinned program and in every row, IS THE sha256 OF THE DUMP (.gsa) THAT YtfkmodcjddfeiaaDoorProg.lean LOADS. Nothing in Lean hashes anything: it is a label: what it is worth is what the hold of that sum in a sandbox is worth. -/
noncomputable def Tryd.pinned : Pinned := { name := "ytfkmodcjddfeiaadoor", sum := "f5e30aaed5088a1676e1132e5a98a71b077518f8e5a8757fde75c4f2c4fe9103", checked := Tryd.checked }
namespace Rows
def none {H : Type} : Left H := { results := [], args := [] }

/- WHAT THE LISTED PACKAGE-LEVEL VARIABLES READ AS WHEN THE CALL BEGINS. Each datum BY PROGRAM (the guide's laid-datum.mjs) off the statement by which the dump's own 'gosem.cut.vars' lays the variable. In a bare row this is a premise. The card (YtfkmodcjddfeiaaDoorCards.lean) ties it to the program's text. -/
def laid_prow_chain_nowhere {H : Type} : DataW H := .agg [.lit (.int .i64 (-1)), .lit (.int .i64 (-1))]
def laid_prow_chain_thins {H : Type} : DataW H := .iface "func table" (.agg [.iface "func" (.lit (.string [40, 112, 114, 111, 119, 47, 99, 104, 97, 105, 110, 46, 107, 110, 111, 119, 110, 41, 46, 109, 97, 121])), .iface "func" (.lit (.string [40, 112, 114, 111, 119, 47, 99, 104, 97, 105, 110, 46, 107, 110, 111, 119, 110, 41, 46, 115, 117, 114, 101, 108, 121]))])
def laid_prow_forge_begin {H : Type} : DataW H := .agg [.lit (.int .i64 (-1)), .lit (.int .i64 0)]
def laid_prow_forge_thicks {H : Type} : DataW H := .iface "func table" (.agg [.iface "func" (.lit (.string [40, 112, 114, 111, 119, 47, 102, 111, 114, 103, 101, 46, 98, 111, 111, 107, 41, 46, 111, 108, 100])), .iface "func" (.lit (.string [40, 112, 114, 111, 119, 47, 102, 111, 114, 103, 101, 46, 98, 111, 111, 107, 41, 46, 102, 114, 101, 115, 104]))])

/-- 'prowlaw01.ChainThicks': WHATEVER THE INPUT: true; the input reads as it did. -/
def chainThicksSpec : ChangeSpec := { name := "chainThicks", fn := fun _ => fun
  | [d1, d2] => { results := [.lit (.bool true)], args := [d1, d2] }
  | _ => none }
def chainThicksRow : OpenClaim := { program := "ytfkmodcjddfeiaadoor", sum := "f5e30aaed5088a1676e1132e5a98a71b077518f8e5a8757fde75c4f2c4fe9103", func := "prow/prowlaw01.ChainThicks", spec := "chainThicks", unfollowed := true, recurses := true, named := ["prow/chain.nowhere", "prow/chain.thins"], plainKeys := false, apart := false, laid := [("prow/chain.nowhere", laid_prow_chain_nowhere), ("prow/chain.thins", laid_prow_chain_thins)] }
def ChainThicksSaid : Prop := chainThicksRow.holds Tryd.pinned (OpenSpec.ofChange chainThicksSpec)

/-- ITS FALSE NEIGHBOUR: 'it returns false'. Refute it at one input. -/
def chainThicksWrong : ChangeSpec := { name := "chainThicks", fn := fun _ => fun
  | [d1, d2] => { results := [.lit (.bool false)], args := [d1, d2] }
  | _ => none }
def ChainThicksWrongFalsely : Prop := chainThicksRow.holds Tryd.pinned (OpenSpec.ofChange chainThicksWrong)

/-- 'prowlaw01.ChainThins': WHATEVER THE INPUT: true; the input reads as it did. -/
def chainThinsSpec : ChangeSpec := { name := "chainThins", fn := fun _ => fun
  | [d1, d2, d3] => { results := [.lit (.bool true)], args := [d1, d2, d3] }
  | _ => none }
def chainThinsRow : OpenClaim := { program := "ytfkmodcjddfeiaadoor", sum := "f5e30aaed5088a1676e1132e5a98a71b077518f8e5a8757fde75c4f2c4fe9103", func := "prow/prowlaw01.ChainThins", spec := "chainThins", unfollowed := true, recurses := true, named := ["prow/chain.nowhere", "prow/chain.thins"], plainKeys := false, apart := false, laid := [("prow/chain.nowhere", laid_prow_chain_nowhere), ("prow/chain.thins", laid_prow_chain_thins)] }
def ChainThinsSaid : Prop := chainThinsRow.holds Tryd.pinned (OpenSpec.ofChange chainThinsSpec)

/-- ITS FALSE NEIGHBOUR: 'it returns false'. Refute it at one input. -/
def chainThinsWrong : ChangeSpec := { name := "chainThins", fn := fun _ => fun
  | [d1, d2, d3] => { results := [.lit (.bool false)], args := [d1, d2, d3] }
  | _ => none }
def ChainThinsWrongFalsely : Prop := chainThinsRow.holds Tryd.pinned (OpenSpec.ofChange chainThinsWrong)

/-- 'prowlaw01.ChainTurns': WHATEVER THE INPUT: true; the input reads as it did. -/
def chainTurnsSpec : ChangeSpec := { name := "chainTurns", fn := fun _ => fun
  | [d] => { results := [.lit (.bool true)], args := [d] }
  | _ => none }
def chainTurnsRow : OpenClaim := { program := "ytfkmodcjddfeiaadoor", sum := "f5e30aaed5088a1676e1132e5a98a71b077518f8e5a8757fde75c4f2c4fe9103", func := "prow/prowlaw01.ChainTurns", spec := "chainTurns", unfollowed := true, recurses := true, named := ["prow/chain.nowhere", "prow/chain.thins"], plainKeys := false, apart := false, laid := [("prow/chain.nowhere", laid_prow_chain_nowhere), ("prow/chain.thins", laid_prow_chain_thins)] }
def ChainTurnsSaid : Prop := chainTurnsRow.holds Tryd.pinned (OpenSpec.ofChange chainTurnsSpec)

/-- ITS FALSE NEIGHBOUR: 'it returns false'. Refute it at one input. -/
def chainTurnsWrong : ChangeSpec := { name := "chainTurns", fn := fun _ => fun
  | [d] => { results := [.lit (.bool false)], args := [d] }
  | _ => none }
def ChainTurnsWrongFalsely : Prop := chainTurnsRow.holds Tryd.pinned (OpenSpec.ofChange chainTurnsWrong)

/-- 'prowlaw01.ChainTrue': WHATEVER THE INPUT: true; the input reads as it did. -/
def chainTrueSpec : ChangeSpec := { name := "chainTrue", fn := fun _ => fun
  | [d1, d2, d3] => { results := [.lit (.bool true)], args := [d1, d2, d3] }
  | _ => none }
def chainTrueRow : OpenClaim := { program := "ytfkmodcjddfeiaadoor", sum := "f5e30aaed5088a1676e1132e5a98a71b077518f8e5a8757fde75c4f2c4fe9103", func := "prow/prowlaw01.ChainTrue", spec := "chainTrue", unfollowed := true, recurses := true, named := ["prow/chain.nowhere", "prow/chain.thins"], plainKeys := false, apart := false, laid := [("prow/chain.nowhere", laid_prow_chain_nowhere), ("prow/chain.thins", laid_prow_chain_thins)] }
def ChainTrueSaid : Prop := chainTrueRow.holds Tryd.pinned (OpenSpec.ofChange chainTrueSpec)

/-- ITS FALSE NEIGHBOUR: 'it returns false'. Refute it at one input. -/
def chainTrueWrong : ChangeSpec := { name := "chainTrue", fn := fun _ => fun
  | [d1, d2, d3] => { results := [.lit (.bool false)], args := [d1, d2, d3] }
  | _ => none }
def ChainTrueWrongFalsely : Prop := chainTrueRow.holds Tryd.pinned (OpenSpec.ofChange chainTrueWrong)

/-- 'prowlaw01.ChainEnds': WHATEVER THE INPUT: true; the input reads as it did. -/
def chainEndsSpec : ChangeSpec := { name := "chainEnds", fn := fun _ => fun
  | [d1, d2] => { results := [.lit (.bool true)], args := [d1, d2] }
  | _ => none }
def chainEndsRow : OpenClaim := { program := "ytfkmodcjddfeiaadoor", sum := "f5e30aaed5088a1676e1132e5a98a71b077518f8e5a8757fde75c4f2c4fe9103", func := "prow/prowlaw01.ChainEnds", spec := "chainEnds", unfollowed := true, recurses := true, named := ["prow/chain.nowhere", "prow/chain.thins"], plainKeys := false, apart := false, laid := [("prow/chain.nowhere", laid_prow_chain_nowhere), ("prow/chain.thins", laid_prow_chain_thins)] }
def ChainEndsSaid : Prop := chainEndsRow.holds Tryd.pinned (OpenSpec.ofChange chainEndsSpec)

/-- ITS FALSE NEIGHBOUR: 'it returns false'. Refute it at one input. -/
def chainEndsWrong : ChangeSpec := { name := "chainEnds", fn := fun _ => fun
  | [d1, d2] => { results := [.lit (.bool false)], args := [d1, d2] }
  | _ => none }
def ChainEndsWrongFalsely : Prop := chainEndsRow.holds Tryd.pinned (OpenSpec.ofChange chainEndsWrong)

/-- 'prowlaw01.ChainMore': WHATEVER THE INPUT: true; the input reads as it did. -/
def chainMoreSpec : ChangeSpec := { name := "chainMore", fn := fun _ => fun
  | [d1, d2, d3] => { results := [.lit (.bool true)], args := [d1, d2, d3] }
  | _ => none }
def chainMoreRow : OpenClaim := { program := "ytfkmodcjddfeiaadoor", sum := "f5e30aaed5088a1676e1132e5a98a71b077518f8e5a8757fde75c4f2c4fe9103", func := "prow/prowlaw01.ChainMore", spec := "chainMore", unfollowed := true, recurses := true, named := ["prow/chain.nowhere", "prow/chain.thins"], plainKeys := false, apart := false, laid := [("prow/chain.nowhere", laid_prow_chain_nowhere), ("prow/chain.thins", laid_prow_chain_thins)] }
def ChainMoreSaid : Prop := chainMoreRow.holds Tryd.pinned (OpenSpec.ofChange chainMoreSpec)

/-- ITS FALSE NEIGHBOUR: 'it returns false'. Refute it at one input. -/
def chainMoreWrong : ChangeSpec := { name := "chainMore", fn := fun _ => fun
  | [d1, d2, d3] => { results := [.lit (.bool false)], args := [d1, d2, d3] }
  | _ => none }
def ChainMoreWrongFalsely : Prop := chainMoreRow.holds Tryd.pinned (OpenSpec.ofChange chainMoreWrong)

/-- 'prowlaw01.ChainFirst': WHATEVER THE INPUT: true; the input reads as it did. -/
def chainFirstSpec : ChangeSpec := { name := "chainFirst", fn := fun _ => fun
  | [d1, d2] => { results := [.lit (.bool true)], args := [d1, d2] }
  | _ => none }
def chainFirstRow : OpenClaim := { program := "ytfkmodcjddfeiaadoor", sum := "f5e30aaed5088a1676e1132e5a98a71b077518f8e5a8757fde75c4f2c4fe9103", func := "prow/prowlaw01.ChainFirst", spec := "chainFirst", unfollowed := true, recurses := true, named := ["prow/chain.nowhere", "prow/chain.thins"], plainKeys := false, apart := false, laid := [("prow/chain.nowhere", laid_prow_chain_nowhere), ("prow/chain.thins", laid_prow_chain_thins)] }
def ChainFirstSaid : Prop := chainFirstRow.holds Tryd.pinned (OpenSpec.ofChange chainFirstSpec)

/-- ITS FALSE NEIGHBOUR: 'it returns false'. Refute it at one input. -/
def chainFirstWrong : ChangeSpec := { name := "chainFirst", fn := fun _ => fun
  | [d1, d2] => { results := [.lit (.bool false)], args := [d1, d2] }
  | _ => none }
def ChainFirstWrongFalsely : Prop := chainFirstRow.holds Tryd.pinned (OpenSpec.ofChange chainFirstWrong)

/-- 'prowlaw01.ChainMirror': WHATEVER THE INPUT: true; the input reads as it did. -/
def chainMirrorSpec : ChangeSpec := { name := "chainMirror", fn := fun _ => fun
  | [d1, d2] => { results := [.lit (.bool true)], args := [d1, d2] }
  | _ => none }
def chainMirrorRow : OpenClaim := { program := "ytfkmodcjddfeiaadoor", sum := "f5e30aaed5088a1676e1132e5a98a71b077518f8e5a8757fde75c4f2c4fe9103", func := "prow/prowlaw01.ChainMirror", spec := "chainMirror", unfollowed := true, recurses := true, named := ["prow/chain.nowhere", "prow/chain.thins"], plainKeys := false, apart := false, laid := [("prow/chain.nowhere", laid_prow_chain_nowhere), ("prow/chain.thins", laid_prow_chain_thins)] }
def ChainMirrorSaid : Prop := chainMirrorRow.holds Tryd.pinned (OpenSpec.ofChange chainMirrorSpec)

/-- ITS FALSE NEIGHBOUR: 'it returns false'. Refute it at one input. -/
def chainMirrorWrong : ChangeSpec := { name := "chainMirror", fn := fun _ => fun
  | [d1, d2] => { results := [.lit (.bool false)], args := [d1, d2] }
  | _ => none }
def ChainMirrorWrongFalsely : Prop := chainMirrorRow.holds Tryd.pinned (OpenSpec.ofChange chainMirrorWrong)

/-- 'prowlaw01.ChainTurn': WHATEVER THE INPUT: true; the input reads as it did. -/
def chainTurnSpec : ChangeSpec := { name := "chainTurn", fn := fun _ => fun
  | [d1, d2] => { results := [.lit (.bool true)], args := [d1, d2] }
  | _ => none }
def chainTurnRow : OpenClaim := { program := "ytfkmodcjddfeiaadoor", sum := "f5e30aaed5088a1676e1132e5a98a71b077518f8e5a8757fde75c4f2c4fe9103", func := "prow/prowlaw01.ChainTurn", spec := "chainTurn", unfollowed := true, recurses := true, named := ["prow/chain.nowhere", "prow/chain.thins"], plainKeys := false, apart := false, laid := [("prow/chain.nowhere", laid_prow_chain_nowhere), ("prow/chain.thins", laid_prow_chain_thins)] }
def ChainTurnSaid : Prop := chainTurnRow.holds Tryd.pinned (OpenSpec.ofChange chainTurnSpec)

/-- ITS FALSE NEIGHBOUR: 'it returns false'. Refute it at one input. -/
def chainTurnWrong : ChangeSpec := { name := "chainTurn", fn := fun _ => fun
  | [d1, d2] => { results := [.lit (.bool false)], args := [d1, d2] }
  | _ => none }
def ChainTurnWrongFalsely : Prop := chainTurnRow.holds Tryd.pinned (OpenSpec.ofChange chainTurnWrong)

/-- 'prowlaw01.ChainWrong': WHATEVER THE INPUT: true; the input reads as it did. -/
def chainWrongSpec : ChangeSpec := { name := "chainWrong", fn := fun _ => fun
  | [d1, d2] => { results := [.lit (.bool true)], args := [d1, d2] }
  | _ => none }
def chainWrongRow : OpenClaim := { program := "ytfkmodcjddfeiaadoor", sum := "f5e30aaed5088a1676e1132e5a98a71b077518f8e5a8757fde75c4f2c4fe9103", func := "prow/prowlaw01.ChainWrong", spec := "chainWrong", unfollowed := true, recurses := true, named := ["prow/chain.nowhere", "prow/chain.thins"], plainKeys := false, apart := false, laid := [("prow/chain.nowhere", laid_prow_chain_nowhere), ("prow/chain.thins", laid_prow_chain_thins)] }
def ChainWrongSaid : Prop := chainWrongRow.holds Tryd.pinned (OpenSpec.ofChange chainWrongSpec)

/-- ITS FALSE NEIGHBOUR: 'it returns false'. Refute it at one input. -/
def chainWrongWrong : ChangeSpec := { name := "chainWrong", fn := fun _ => fun
  | [d1, d2] => { results := [.lit (.bool false)], args := [d1, d2] }
  | _ => none }
def ChainWrongWrongFalsely : Prop := chainWrongRow.holds Tryd.pinned (OpenSpec.ofChange chainWrongWrong)

/-- 'prowlaw01.ChainPlain': WHATEVER THE INPUT: true; the input reads as it did. -/
def chainPlainSpec : ChangeSpec := { name := "chainPlain", fn := fun _ => fun
  | [d1, d2] => { results := [.lit (.bool true)], args := [d1, d2] }
  | _ => none }
def chainPlainRow : OpenClaim := { program := "ytfkmodcjddfeiaadoor", sum := "f5e30aaed5088a1676e1132e5a98a71b077518f8e5a8757fde75c4f2c4fe9103", func := "prow/prowlaw01.ChainPlain", spec := "chainPlain", unfollowed := true, recurses := true, named := ["prow/chain.nowhere", "prow/chain.thins"], plainKeys := false, apart := false, laid := [("prow/chain.nowhere", laid_prow_chain_nowhere), ("prow/chain.thins", laid_prow_chain_thins)] }
def ChainPlainSaid : Prop := chainPlainRow.holds Tryd.pinned (OpenSpec.ofChange chainPlainSpec)

/-- ITS FALSE NEIGHBOUR: 'it returns false'. Refute it at one input. -/
def chainPlainWrong : ChangeSpec := { name := "chainPlain", fn := fun _ => fun
  | [d1, d2] => { results := [.lit (.bool false)], args := [d1, d2] }
  | _ => none }
def ChainPlainWrongFalsely : Prop := chainPlainRow.holds Tryd.pinned (OpenSpec.ofChange chainPlainWrong)

/-- 'prowlaw01.ChainKnown': WHATEVER THE INPUT: true; the input reads as it did. -/
def chainKnownSpec : ChangeSpec := { name := "chainKnown", fn := fun _ => fun
  | [] => { results := [.lit (.bool true)], args := [] }
  | _ => none }
def chainKnownRow : OpenClaim := { program := "ytfkmodcjddfeiaadoor", sum := "f5e30aaed5088a1676e1132e5a98a71b077518f8e5a8757fde75c4f2c4fe9103", func := "prow/prowlaw01.ChainKnown", spec := "chainKnown", unfollowed := true, recurses := true, named := ["prow/chain.nowhere", "prow/chain.thins"], plainKeys := false, apart := false, laid := [("prow/chain.nowhere", laid_prow_chain_nowhere), ("prow/chain.thins", laid_prow_chain_thins)] }
def ChainKnownSaid : Prop := chainKnownRow.holds Tryd.pinned (OpenSpec.ofChange chainKnownSpec)

/-- ITS FALSE NEIGHBOUR: 'it returns false'. Refute it at one input. -/
def chainKnownWrong : ChangeSpec := { name := "chainKnown", fn := fun _ => fun
  | [] => { results := [.lit (.bool false)], args := [] }
  | _ => none }
def ChainKnownWrongFalsely : Prop := chainKnownRow.holds Tryd.pinned (OpenSpec.ofChange chainKnownWrong)

/-- 'prowtop.TopTurned': WHATEVER THE INPUT: true; the input reads as it did. -/
def topTurnedSpec : ChangeSpec := { name := "topTurned", fn := fun _ => fun
  | [d1, d2] => { results := [.lit (.bool true)], args := [d1, d2] }
  | _ => none }
def topTurnedRow : OpenClaim := { program := "ytfkmodcjddfeiaadoor", sum := "f5e30aaed5088a1676e1132e5a98a71b077518f8e5a8757fde75c4f2c4fe9103", func := "prow/prowtop.TopTurned", spec := "topTurned", unfollowed := true, recurses := true, named := ["prow/forge.begin", "prow/chain.nowhere", "prow/forge.thicks", "prow/chain.thins"], plainKeys := false, apart := false, laid := [("prow/chain.nowhere", laid_prow_chain_nowhere), ("prow/chain.thins", laid_prow_chain_thins), ("prow/forge.begin", laid_prow_forge_begin), ("prow/forge.thicks", laid_prow_forge_thicks)] }
def TopTurnedSaid : Prop := topTurnedRow.holds Tryd.pinned (OpenSpec.ofChange topTurnedSpec)

/-- ITS FALSE NEIGHBOUR: 'it returns false'. Refute it at one input. -/
def topTurnedWrong : ChangeSpec := { name := "topTurned", fn := fun _ => fun
  | [d1, d2] => { results := [.lit (.bool false)], args := [d1, d2] }
  | _ => none }
def TopTurnedWrongFalsely : Prop := topTurnedRow.holds Tryd.pinned (OpenSpec.ofChange topTurnedWrong)

/-- 'prowlaw07.ForgeTrue': WHATEVER THE INPUT: true; the input reads as it did. -/
def forgeTrueSpec : ChangeSpec := { name := "forgeTrue", fn := fun _ => fun
  | [d1, d2, d3] => { results := [.lit (.bool true)], args := [d1, d2, d3] }
  | _ => none }
def forgeTrueRow : OpenClaim := { program := "ytfkmodcjddfeiaadoor", sum := "f5e30aaed5088a1676e1132e5a98a71b077518f8e5a8757fde75c4f2c4fe9103", func := "prow/prowlaw07.ForgeTrue", spec := "forgeTrue", inPlace := ["slices.overlaps[int]"], unfollowed := true, recurses := true, named := ["prow/forge.begin", "prow/chain.nowhere", "prow/forge.thicks"], plainKeys := false, apart := false, laid := [("prow/chain.nowhere", laid_prow_chain_nowhere), ("prow/forge.begin", laid_prow_forge_begin), ("prow/forge.thicks", laid_prow_forge_thicks)] }
def ForgeTrueSaid : Prop := forgeTrueRow.holds Tryd.pinned (OpenSpec.ofChange forgeTrueSpec)

/-- ITS FALSE NEIGHBOUR: 'it returns false'. Refute it at one input. -/
def forgeTrueWrong : ChangeSpec := { name := "forgeTrue", fn := fun _ => fun
  | [d1, d2, d3] => { results := [.lit (.bool false)], args := [d1, d2, d3] }
  | _ => none }
def ForgeTrueWrongFalsely : Prop := forgeTrueRow.holds Tryd.pinned (OpenSpec.ofChange forgeTrueWrong)

/-- 'prowlaw07.ForgeNew': WHATEVER THE INPUT: true; the input reads as it did. -/
def forgeNewSpec : ChangeSpec := { name := "forgeNew", fn := fun _ => fun
  | [d1, d2] => { results := [.lit (.bool true)], args := [d1, d2] }
  | _ => none }
def forgeNewRow : OpenClaim := { program := "ytfkmodcjddfeiaadoor", sum := "f5e30aaed5088a1676e1132e5a98a71b077518f8e5a8757fde75c4f2c4fe9103", func := "prow/prowlaw07.ForgeNew", spec := "forgeNew", inPlace := ["slices.overlaps[int]"], unfollowed := true, recurses := true, named := ["prow/forge.begin", "prow/chain.nowhere", "prow/forge.thicks"], plainKeys := false, apart := false, laid := [("prow/chain.nowhere", laid_prow_chain_nowhere), ("prow/forge.begin", laid_prow_forge_begin), ("prow/forge.thicks", laid_prow_forge_thicks)] }
def ForgeNewSaid : Prop := forgeNewRow.holds Tryd.pinned (OpenSpec.ofChange forgeNewSpec)

/-- ITS FALSE NEIGHBOUR: 'it returns false'. Refute it at one input. -/
def forgeNewWrong : ChangeSpec := { name := "forgeNew", fn := fun _ => fun
  | [d1, d2] => { results := [.lit (.bool false)], args := [d1, d2] }
  | _ => none }
def ForgeNewWrongFalsely : Prop := forgeNewRow.holds Tryd.pinned (OpenSpec.ofChange forgeNewWrong)

/-- 'prowlaw07.ForgeFirst': WHATEVER THE INPUT: true; the input reads as it did. -/
def forgeFirstSpec : ChangeSpec := { name := "forgeFirst", fn := fun _ => fun
  | [d1, d2] => { results := [.lit (.bool true)], args := [d1, d2] }
  | _ => none }
def forgeFirstRow : OpenClaim := { program := "ytfkmodcjddfeiaadoor", sum := "f5e30aaed5088a1676e1132e5a98a71b077518f8e5a8757fde75c4f2c4fe9103", func := "prow/prowlaw07.ForgeFirst", spec := "forgeFirst", inPlace := ["slices.overlaps[int]"], unfollowed := true, recurses := true, named := ["prow/forge.begin", "prow/chain.nowhere", "prow/forge.thicks"], plainKeys := false, apart := false, laid := [("prow/chain.nowhere", laid_prow_chain_nowhere), ("prow/forge.begin", laid_prow_forge_begin), ("prow/forge.thicks", laid_prow_forge_thicks)] }
def ForgeFirstSaid : Prop := forgeFirstRow.holds Tryd.pinned (OpenSpec.ofChange forgeFirstSpec)

/-- ITS FALSE NEIGHBOUR: 'it returns false'. Refute it at one input. -/
def forgeFirstWrong : ChangeSpec := { name := "forgeFirst", fn := fun _ => fun
  | [d1, d2] => { results := [.lit (.bool false)], args := [d1, d2] }
  | _ => none }
def ForgeFirstWrongFalsely : Prop := forgeFirstRow.holds Tryd.pinned (OpenSpec.ofChange forgeFirstWrong)

/-- 'prowlaw07.ForgeStocked': WHATEVER THE INPUT: true; the input reads as it did. -/
def forgeStockedSpec : ChangeSpec := { name := "forgeStocked", fn := fun _ => fun
  | [d1, d2] => { results := [.lit (.bool true)], args := [d1, d2] }
  | _ => none }
def forgeStockedRow : OpenClaim := { program := "ytfkmodcjddfeiaadoor", sum := "f5e30aaed5088a1676e1132e5a98a71b077518f8e5a8757fde75c4f2c4fe9103", func := "prow/prowlaw07.ForgeStocked", spec := "forgeStocked", inPlace := ["slices.overlaps[int]"], unfollowed := true, recurses := true, named := ["prow/forge.begin", "prow/chain.nowhere", "prow/forge.thicks"], plainKeys := false, apart := false, laid := [("prow/chain.nowhere", laid_prow_chain_nowhere), ("prow/forge.begin", laid_prow_forge_begin), ("prow/forge.thicks", laid_prow_forge_thicks)] }
def ForgeStockedSaid : Prop := forgeStockedRow.holds Tryd.pinned (OpenSpec.ofChange forgeStockedSpec)

/-- ITS FALSE NEIGHBOUR: 'it returns false'. Refute it at one input. -/
def forgeStockedWrong : ChangeSpec := { name := "forgeStocked", fn := fun _ => fun
  | [d1, d2] => { results := [.lit (.bool false)], args := [d1, d2] }
  | _ => none }
def ForgeStockedWrongFalsely : Prop := forgeStockedRow.holds Tryd.pinned (OpenSpec.ofChange forgeStockedWrong)

/-- 'prowlaw07.ForgePlan': WHATEVER THE INPUT: true; the input reads as it did. -/
def forgePlanSpec : ChangeSpec := { name := "forgePlan", fn := fun _ => fun
  | [d1, d2] => { results := [.lit (.bool true)], args := [d1, d2] }
  | _ => none }
def forgePlanRow : OpenClaim := { program := "ytfkmodcjddfeiaadoor", sum := "f5e30aaed5088a1676e1132e5a98a71b077518f8e5a8757fde75c4f2c4fe9103", func := "prow/prowlaw07.ForgePlan", spec := "forgePlan", inPlace := ["slices.overlaps[int]"], unfollowed := true, recurses := true, named := ["prow/forge.begin", "prow/chain.nowhere", "prow/forge.thicks"], plainKeys := false, apart := false, laid := [("prow/chain.nowhere", laid_prow_chain_nowhere), ("prow/forge.begin", laid_prow_forge_begin), ("prow/forge.thicks", laid_prow_forge_thicks)] }
def ForgePlanSaid : Prop := forgePlanRow.holds Tryd.pinned (OpenSpec.ofChange forgePlanSpec)

/-- ITS FALSE NEIGHBOUR: 'it returns false'. Refute it at one input. -/
def forgePlanWrong : ChangeSpec := { name := "forgePlan", fn := fun _ => fun
  | [d1, d2] => { results := [.lit (.bool false)], args := [d1, d2] }
  | _ => none }
def ForgePlanWrongFalsely : Prop := forgePlanRow.holds Tryd.pinned (OpenSpec.ofChange forgePlanWrong)

/-- 'prowlaw07.ForgeStock': WHATEVER THE INPUT: true; the input reads as it did. -/
def forgeStockSpec : ChangeSpec := { name := "forgeStock", fn := fun _ => fun
  | [d1, d2] => { results := [.lit (.bool true)], args := [d1, d2] }
  | _ => none }
def forgeStockRow : OpenClaim := { program := "ytfkmodcjddfeiaadoor", sum := "f5e30aaed5088a1676e1132e5a98a71b077518f8e5a8757fde75c4f2c4fe9103", func := "prow/prowlaw07.ForgeStock", spec := "forgeStock", inPlace := ["slices.overlaps[int]"], unfollowed := true, recurses := true, named := ["prow/forge.begin", "prow/chain.nowhere", "prow/forge.thicks"], plainKeys := false, apart := false, laid := [("prow/chain.nowhere", laid_prow_chain_nowhere), ("prow/forge.begin", laid_prow_forge_begin), ("prow/forge.thicks", laid_prow_forge_thicks)] }
def ForgeStockSaid : Prop := forgeStockRow.holds Tryd.pinned (OpenSpec.ofChange forgeStockSpec)

/-- ITS FALSE NEIGHBOUR: 'it returns false'. Refute it at one input. -/
def forgeStockWrong : ChangeSpec := { name := "forgeStock", fn := fun _ => fun
  | [d1, d2] => { results := [.lit (.bool false)], args := [d1, d2] }
  | _ => none }
def ForgeStockWrongFalsely : Prop := forgeStockRow.holds Tryd.pinned (OpenSpec.ofChange forgeStockWrong)

/-- 'prowlaw07.ForgeRest': WHATEVER THE INPUT: true; the input reads as it did. -/
def forgeRestSpec : ChangeSpec := { name := "forgeRest", fn := fun _ => fun
  | [d1, d2] => { results := [.lit (.bool true)], args := [d1, d2] }
  | _ => none }
def forgeRestRow : OpenClaim := { program := "ytfkmodcjddfeiaadoor", sum := "f5e30aaed5088a1676e1132e5a98a71b077518f8e5a8757fde75c4f2c4fe9103", func := "prow/prowlaw07.ForgeRest", spec := "forgeRest", inPlace := ["slices.overlaps[int]"], unfollowed := true, recurses := true, named := ["prow/forge.begin", "prow/chain.nowhere", "prow/forge.thicks"], plainKeys := false, apart := false, laid := [("prow/chain.nowhere", laid_prow_chain_nowhere), ("prow/forge.begin", laid_prow_forge_begin), ("prow/forge.thicks", laid_prow_forge_thicks)] }
def ForgeRestSaid : Prop := forgeRestRow.holds Tryd.pinned (OpenSpec.ofChange forgeRestSpec)

/-- ITS FALSE NEIGHBOUR: 'it returns false'. Refute it at one input. -/
def forgeRestWrong : ChangeSpec := { name := "forgeRest", fn := fun _ => fun
  | [d1, d2] => { results := [.lit (.bool false)], args := [d1, d2] }
  | _ => none }
def ForgeRestWrongFalsely : Prop := forgeRestRow.holds Tryd.pinned (OpenSpec.ofChange forgeRestWrong)

/-- 'prowlaw07.ForgeKnown': WHATEVER THE INPUT: true; the input reads as it did. -/
def forgeKnownSpec : ChangeSpec := { name := "forgeKnown", fn := fun _ => fun
  | [] => { results := [.lit (.bool true)], args := [] }
  | _ => none }
def forgeKnownRow : OpenClaim := { program := "ytfkmodcjddfeiaadoor", sum := "f5e30aaed5088a1676e1132e5a98a71b077518f8e5a8757fde75c4f2c4fe9103", func := "prow/prowlaw07.ForgeKnown", spec := "forgeKnown", inPlace := ["slices.overlaps[int]"], unfollowed := true, recurses := true, named := ["prow/forge.begin", "prow/chain.nowhere", "prow/forge.thicks"], plainKeys := false, apart := false, laid := [("prow/chain.nowhere", laid_prow_chain_nowhere), ("prow/forge.begin", laid_prow_forge_begin), ("prow/forge.thicks", laid_prow_forge_thicks)] }
def ForgeKnownSaid : Prop := forgeKnownRow.holds Tryd.pinned (OpenSpec.ofChange forgeKnownSpec)

/-- ITS FALSE NEIGHBOUR: 'it returns false'. Refute it at one input. -/
def forgeKnownWrong : ChangeSpec := { name := "forgeKnown", fn := fun _ => fun
  | [] => { results := [.lit (.bool false)], args := [] }
  | _ => none }
def ForgeKnownWrongFalsely : Prop := forgeKnownRow.holds Tryd.pinned (OpenSpec.ofChange forgeKnownWrong)

/-- 'prowlaw07.ForgeMore': WHATEVER THE INPUT: true; the input reads as it did. -/
def forgeMoreSpec : ChangeSpec := { name := "forgeMore", fn := fun _ => fun
  | [d1, d2, d3] => { results := [.lit (.bool true)], args := [d1, d2, d3] }
  | _ => none }
def forgeMoreRow : OpenClaim := { program := "ytfkmodcjddfeiaadoor", sum := "f5e30aaed5088a1676e1132e5a98a71b077518f8e5a8757fde75c4f2c4fe9103", func := "prow/prowlaw07.ForgeMore", spec := "forgeMore", inPlace := ["slices.overlaps[int]"], unfollowed := true, recurses := true, named := ["prow/forge.begin", "prow/chain.nowhere", "prow/forge.thicks"], plainKeys := false, apart := false, laid := [("prow/chain.nowhere", laid_prow_chain_nowhere), ("prow/forge.begin", laid_prow_forge_begin), ("prow/forge.thicks", laid_prow_forge_thicks)] }
def ForgeMoreSaid : Prop := forgeMoreRow.holds Tryd.pinned (OpenSpec.ofChange forgeMoreSpec)

/-- ITS FALSE NEIGHBOUR: 'it returns false'. Refute it at one input. -/
def forgeMoreWrong : ChangeSpec := { name := "forgeMore", fn := fun _ => fun
  | [d1, d2, d3] => { results := [.lit (.bool false)], args := [d1, d2, d3] }
  | _ => none }
def ForgeMoreWrongFalsely : Prop := forgeMoreRow.holds Tryd.pinned (OpenSpec.ofChange forgeMoreWrong)

/-- 'prowlaw07.ForgeOld': WHATEVER THE INPUT: true; the input reads as it did. -/
def forgeOldSpec : ChangeSpec := { name := "forgeOld", fn := fun _ => fun
  | [d1, d2] => { results := [.lit (.bool true)], args := [d1, d2] }
  | _ => none }
def forgeOldRow : OpenClaim := { program := "ytfkmodcjddfeiaadoor", sum := "f5e30aaed5088a1676e1132e5a98a71b077518f8e5a8757fde75c4f2c4fe9103", func := "prow/prowlaw07.ForgeOld", spec := "forgeOld", inPlace := ["slices.overlaps[int]"], unfollowed := true, recurses := true, named := ["prow/forge.begin", "prow/chain.nowhere", "prow/forge.thicks", "prow/chain.thins"], plainKeys := false, apart := false, laid := [("prow/chain.nowhere", laid_prow_chain_nowhere), ("prow/chain.thins", laid_prow_chain_thins), ("prow/forge.begin", laid_prow_forge_begin), ("prow/forge.thicks", laid_prow_forge_thicks)] }
def ForgeOldSaid : Prop := forgeOldRow.holds Tryd.pinned (OpenSpec.ofChange forgeOldSpec)

/-- ITS FALSE NEIGHBOUR: 'it returns false'. Refute it at one input. -/
def forgeOldWrong : ChangeSpec := { name := "forgeOld", fn := fun _ => fun
  | [d1, d2] => { results := [.lit (.bool false)], args := [d1, d2] }
  | _ => none }
def ForgeOldWrongFalsely : Prop := forgeOldRow.holds Tryd.pinned (OpenSpec.ofChange forgeOldWrong)

/-- 'prowtop.TopSpare': WHATEVER THE INPUT: true; the input reads as it did. -/
def topSpareSpec : ChangeSpec := { name := "topSpare", fn := fun _ => fun
  | [d] => { results := [.lit (.bool true)], args := [d] }
  | _ => none }
def topSpareRow : OpenClaim := { program := "ytfkmodcjddfeiaadoor", sum := "f5e30aaed5088a1676e1132e5a98a71b077518f8e5a8757fde75c4f2c4fe9103", func := "prow/prowtop.TopSpare", spec := "topSpare", inPlace := ["slices.overlaps[int]"], unfollowed := true, recurses := true, named := ["prow/forge.begin", "prow/chain.nowhere", "prow/forge.thicks", "prow/chain.thins"], plainKeys := false, apart := false, laid := [("prow/chain.nowhere", laid_prow_chain_nowhere), ("prow/chain.thins", laid_prow_chain_thins), ("prow/forge.begin", laid_prow_forge_begin), ("prow/forge.thicks", laid_prow_forge_thicks)] }
def TopSpareSaid : Prop := topSpareRow.holds Tryd.pinned (OpenSpec.ofChange topSpareSpec)

/-- ITS FALSE NEIGHBOUR: 'it returns false'. Refute it at one input. -/
def topSpareWrong : ChangeSpec := { name := "topSpare", fn := fun _ => fun
  | [d] => { results := [.lit (.bool false)], args := [d] }
  | _ => none }
def TopSpareWrongFalsely : Prop := topSpareRow.holds Tryd.pinned (OpenSpec.ofChange topSpareWrong)

/- THE SECOND FORM. 'bulk': how many values and letters a reading holds, each counted each time it is reached (what is shared counts as often as it is met; a slice's spare places count too). A statement '..UptoSaid' is the law's where the arguments, and the package variables that the reading takes, are together of bulk at most 1048576: NARROWER than '..Said'. Prove '..Said' where nothing that the law and all that it calls make is longer than what came in: it says more and counts as full. Else prove '..UptoSaid'. A law counts once. -/
mutual
def uptoBulk {H : Type} : DataW H → Nat
  | .lit (.string bytes) => bytes.length + 1
  | .lit _ => 1
  | .nil => 1
  | .ptr d => uptoBulk d + 1
  | .slice elems spare => uptoBulkAll elems + uptoBulkAll spare + 1
  | .agg parts => uptoBulkAll parts + 1
  | .iface _ d => uptoBulk d + 1
  | .map entries => uptoBulkEntries entries + 1
  | .held _ => 1
def uptoBulkAll {H : Type} : List (DataW H) → Nat
  | [] => 0
  | d :: r => uptoBulk d + uptoBulkAll r
def uptoBulkEntries {H : Type} : List (Lit × DataW H) → Nat
  | [] => 0
  | x :: r => uptoBulkEntry x + uptoBulkEntries r
def uptoBulkEntry {H : Type} : Lit × DataW H → Nat
  | (.string bytes, d) => bytes.length + uptoBulk d + 1
  | (_, d) => uptoBulk d + 1
 end
def uptoSmall : (H : Type) → List (DataW H) → Bool := fun _ ds => decide (uptoBulkAll ds ≤ 1048576)
def OpenSpec.upto (s : _root_.Go.ChangeSpec) : _root_.Go.OpenSpec := { _root_.Go.OpenSpec.ofChange s with cond := some uptoSmall }

/-- 'prowlaw01.ChainThicks', WHERE WHAT IT READS IS OF BULK AT MOST 1048576: true; the input reads as it did. -/
def chainThicksUptoRow : OpenClaim := { program := "ytfkmodcjddfeiaadoor", sum := "f5e30aaed5088a1676e1132e5a98a71b077518f8e5a8757fde75c4f2c4fe9103", func := "prow/prowlaw01.ChainThicks", spec := "chainThicks", unfollowed := true, recurses := true, named := ["prow/chain.nowhere", "prow/chain.thins"], plainKeys := false, apart := false, laid := [("prow/chain.nowhere", laid_prow_chain_nowhere), ("prow/chain.thins", laid_prow_chain_thins)], narrowed := true }
def ChainThicksUptoSaid : Prop := chainThicksUptoRow.holds Tryd.pinned (OpenSpec.upto chainThicksSpec)

/-- 'prowlaw01.ChainThins', WHERE WHAT IT READS IS OF BULK AT MOST 1048576: true; the input reads as it did. -/
def chainThinsUptoRow : OpenClaim := { program := "ytfkmodcjddfeiaadoor", sum := "f5e30aaed5088a1676e1132e5a98a71b077518f8e5a8757fde75c4f2c4fe9103", func := "prow/prowlaw01.ChainThins", spec := "chainThins", unfollowed := true, recurses := true, named := ["prow/chain.nowhere", "prow/chain.thins"], plainKeys := false, apart := false, laid := [("prow/chain.nowhere", laid_prow_chain_nowhere), ("prow/chain.thins", laid_prow_chain_thins)], narrowed := true }
def ChainThinsUptoSaid : Prop := chainThinsUptoRow.holds Tryd.pinned (OpenSpec.upto chainThinsSpec)

/-- 'prowlaw01.ChainTurns', WHERE WHAT IT READS IS OF BULK AT MOST 1048576: true; the input reads as it did. -/
def chainTurnsUptoRow : OpenClaim := { program := "ytfkmodcjddfeiaadoor", sum := "f5e30aaed5088a1676e1132e5a98a71b077518f8e5a8757fde75c4f2c4fe9103", func := "prow/prowlaw01.ChainTurns", spec := "chainTurns", unfollowed := true, recurses := true, named := ["prow/chain.nowhere", "prow/chain.thins"], plainKeys := false, apart := false, laid := [("prow/chain.nowhere", laid_prow_chain_nowhere), ("prow/chain.thins", laid_prow_chain_thins)], narrowed := true }
def ChainTurnsUptoSaid : Prop := chainTurnsUptoRow.holds Tryd.pinned (OpenSpec.upto chainTurnsSpec)

/-- 'prowlaw01.ChainTrue', WHERE WHAT IT READS IS OF BULK AT MOST 1048576: true; the input reads as it did. -/
def chainTrueUptoRow : OpenClaim := { program := "ytfkmodcjddfeiaadoor", sum := "f5e30aaed5088a1676e1132e5a98a71b077518f8e5a8757fde75c4f2c4fe9103", func := "prow/prowlaw01.ChainTrue", spec := "chainTrue", unfollowed := true, recurses := true, named := ["prow/chain.nowhere", "prow/chain.thins"], plainKeys := false, apart := false, laid := [("prow/chain.nowhere", laid_prow_chain_nowhere), ("prow/chain.thins", laid_prow_chain_thins)], narrowed := true }
def ChainTrueUptoSaid : Prop := chainTrueUptoRow.holds Tryd.pinned (OpenSpec.upto chainTrueSpec)

/-- 'prowlaw01.ChainEnds', WHERE WHAT IT READS IS OF BULK AT MOST 1048576: true; the input reads as it did. -/
def chainEndsUptoRow : OpenClaim := { program := "ytfkmodcjddfeiaadoor", sum := "f5e30aaed5088a1676e1132e5a98a71b077518f8e5a8757fde75c4f2c4fe9103", func := "prow/prowlaw01.ChainEnds", spec := "chainEnds", unfollowed := true, recurses := true, named := ["prow/chain.nowhere", "prow/chain.thins"], plainKeys := false, apart := false, laid := [("prow/chain.nowhere", laid_prow_chain_nowhere), ("prow/chain.thins", laid_prow_chain_thins)], narrowed := true }
def ChainEndsUptoSaid : Prop := chainEndsUptoRow.holds Tryd.pinned (OpenSpec.upto chainEndsSpec)

/-- 'prowlaw01.ChainMore', WHERE WHAT IT READS IS OF BULK AT MOST 1048576: true; the input reads as it did. -/
def chainMoreUptoRow : OpenClaim := { program := "ytfkmodcjddfeiaadoor", sum := "f5e30aaed5088a1676e1132e5a98a71b077518f8e5a8757fde75c4f2c4fe9103", func := "prow/prowlaw01.ChainMore", spec := "chainMore", unfollowed := true, recurses := true, named := ["prow/chain.nowhere", "prow/chain.thins"], plainKeys := false, apart := false, laid := [("prow/chain.nowhere", laid_prow_chain_nowhere), ("prow/chain.thins", laid_prow_chain_thins)], narrowed := true }
def ChainMoreUptoSaid : Prop := chainMoreUptoRow.holds Tryd.pinned (OpenSpec.upto chainMoreSpec)

/-- 'prowlaw01.ChainFirst', WHERE WHAT IT READS IS OF BULK AT MOST 1048576: true; the input reads as it did. -/
def chainFirstUptoRow : OpenClaim := { program := "ytfkmodcjddfeiaadoor", sum := "f5e30aaed5088a1676e1132e5a98a71b077518f8e5a8757fde75c4f2c4fe9103", func := "prow/prowlaw01.ChainFirst", spec := "chainFirst", unfollowed := true, recurses := true, named := ["prow/chain.nowhere", "prow/chain.thins"], plainKeys := false, apart := false, laid := [("prow/chain.nowhere", laid_prow_chain_nowhere), ("prow/chain.thins", laid_prow_chain_thins)], narrowed := true }
def ChainFirstUptoSaid : Prop := chainFirstUptoRow.holds Tryd.pinned (OpenSpec.upto chainFirstSpec)

/-- 'prowlaw01.ChainMirror', WHERE WHAT IT READS IS OF BULK AT MOST 1048576: true; the input reads as it did. -/
def chainMirrorUptoRow : OpenClaim := { program := "ytfkmodcjddfeiaadoor", sum := "f5e30aaed5088a1676e1132e5a98a71b077518f8e5a8757fde75c4f2c4fe9103", func := "prow/prowlaw01.ChainMirror", spec := "chainMirror", unfollowed := true, recurses := true, named := ["prow/chain.nowhere", "prow/chain.thins"], plainKeys := false, apart := false, laid := [("prow/chain.nowhere", laid_prow_chain_nowhere), ("prow/chain.thins", laid_prow_chain_thins)], narrowed := true }
def ChainMirrorUptoSaid : Prop := chainMirrorUptoRow.holds Tryd.pinned (OpenSpec.upto chainMirrorSpec)

/-- 'prowlaw01.ChainTurn', WHERE WHAT IT READS IS OF BULK AT MOST 1048576: true; the input reads as it did. -/
def chainTurnUptoRow : OpenClaim := { program := "ytfkmodcjddfeiaadoor", sum := "f5e30aaed5088a1676e1132e5a98a71b077518f8e5a8757fde75c4f2c4fe9103", func := "prow/prowlaw01.ChainTurn", spec := "chainTurn", unfollowed := true, recurses := true, named := ["prow/chain.nowhere", "prow/chain.thins"], plainKeys := false, apart := false, laid := [("prow/chain.nowhere", laid_prow_chain_nowhere), ("prow/chain.thins", laid_prow_chain_thins)], narrowed := true }
def ChainTurnUptoSaid : Prop := chainTurnUptoRow.holds Tryd.pinned (OpenSpec.upto chainTurnSpec)

/-- 'prowlaw01.ChainWrong', WHERE WHAT IT READS IS OF BULK AT MOST 1048576: true; the input reads as it did. -/
def chainWrongUptoRow : OpenClaim := { program := "ytfkmodcjddfeiaadoor", sum := "f5e30aaed5088a1676e1132e5a98a71b077518f8e5a8757fde75c4f2c4fe9103", func := "prow/prowlaw01.ChainWrong", spec := "chainWrong", unfollowed := true, recurses := true, named := ["prow/chain.nowhere", "prow/chain.thins"], plainKeys := false, apart := false, laid := [("prow/chain.nowhere", laid_prow_chain_nowhere), ("prow/chain.thins", laid_prow_chain_thins)], narrowed := true }
def ChainWrongUptoSaid : Prop := chainWrongUptoRow.holds Tryd.pinned (OpenSpec.upto chainWrongSpec)

/-- 'prowlaw01.ChainPlain', WHERE WHAT IT READS IS OF BULK AT MOST 1048576: true; the input reads as it did. -/
def chainPlainUptoRow : OpenClaim := { program := "ytfkmodcjddfeiaadoor", sum := "f5e30aaed5088a1676e1132e5a98a71b077518f8e5a8757fde75c4f2c4fe9103", func := "prow/prowlaw01.ChainPlain", spec := "chainPlain", unfollowed := true, recurses := true, named := ["prow/chain.nowhere", "prow/chain.thins"], plainKeys := false, apart := false, laid := [("prow/chain.nowhere", laid_prow_chain_nowhere), ("prow/chain.thins", laid_prow_chain_thins)], narrowed := true }
def ChainPlainUptoSaid : Prop := chainPlainUptoRow.holds Tryd.pinned (OpenSpec.upto chainPlainSpec)

/-- 'prowlaw01.ChainKnown', WHERE WHAT IT READS IS OF BULK AT MOST 1048576: true; the input reads as it did. -/
def chainKnownUptoRow : OpenClaim := { program := "ytfkmodcjddfeiaadoor", sum := "f5e30aaed5088a1676e1132e5a98a71b077518f8e5a8757fde75c4f2c4fe9103", func := "prow/prowlaw01.ChainKnown", spec := "chainKnown", unfollowed := true, recurses := true, named := ["prow/chain.nowhere", "prow/chain.thins"], plainKeys := false, apart := false, laid := [("prow/chain.nowhere", laid_prow_chain_nowhere), ("prow/chain.thins", laid_prow_chain_thins)], narrowed := true }
def ChainKnownUptoSaid : Prop := chainKnownUptoRow.holds Tryd.pinned (OpenSpec.upto chainKnownSpec)

/-- 'prowtop.TopTurned', WHERE WHAT IT READS IS OF BULK AT MOST 1048576: true; the input reads as it did. -/
def topTurnedUptoRow : OpenClaim := { program := "ytfkmodcjddfeiaadoor", sum := "f5e30aaed5088a1676e1132e5a98a71b077518f8e5a8757fde75c4f2c4fe9103", func := "prow/prowtop.TopTurned", spec := "topTurned", unfollowed := true, recurses := true, named := ["prow/forge.begin", "prow/chain.nowhere", "prow/forge.thicks", "prow/chain.thins"], plainKeys := false, apart := false, laid := [("prow/chain.nowhere", laid_prow_chain_nowhere), ("prow/chain.thins", laid_prow_chain_thins), ("prow/forge.begin", laid_prow_forge_begin), ("prow/forge.thicks", laid_prow_forge_thicks)], narrowed := true }
def TopTurnedUptoSaid : Prop := topTurnedUptoRow.holds Tryd.pinned (OpenSpec.upto topTurnedSpec)

/-- 'prowlaw07.ForgeTrue', WHERE WHAT IT READS IS OF BULK AT MOST 1048576: true; the input reads as it did. -/
def forgeTrueUptoRow : OpenClaim := { program := "ytfkmodcjddfeiaadoor", sum := "f5e30aaed5088a1676e1132e5a98a71b077518f8e5a8757fde75c4f2c4fe9103", func := "prow/prowlaw07.ForgeTrue", spec := "forgeTrue", inPlace := ["slices.overlaps[int]"], unfollowed := true, recurses := true, named := ["prow/forge.begin", "prow/chain.nowhere", "prow/forge.thicks"], plainKeys := false, apart := false, laid := [("prow/chain.nowhere", laid_prow_chain_nowhere), ("prow/forge.begin", laid_prow_forge_begin), ("prow/forge.thicks", laid_prow_forge_thicks)], narrowed := true }
def ForgeTrueUptoSaid : Prop := forgeTrueUptoRow.holds Tryd.pinned (OpenSpec.upto forgeTrueSpec)

/-- 'prowlaw07.ForgeNew', WHERE WHAT IT READS IS OF BULK AT MOST 1048576: true; the input reads as it did. -/
def forgeNewUptoRow : OpenClaim := { program := "ytfkmodcjddfeiaadoor", sum := "f5e30aaed5088a1676e1132e5a98a71b077518f8e5a8757fde75c4f2c4fe9103", func := "prow/prowlaw07.ForgeNew", spec := "forgeNew", inPlace := ["slices.overlaps[int]"], unfollowed := true, recurses := true, named := ["prow/forge.begin", "prow/chain.nowhere", "prow/forge.thicks"], plainKeys := false, apart := false, laid := [("prow/chain.nowhere", laid_prow_chain_nowhere), ("prow/forge.begin", laid_prow_forge_begin), ("prow/forge.thicks", laid_prow_forge_thicks)], narrowed := true }
def ForgeNewUptoSaid : Prop := forgeNewUptoRow.holds Tryd.pinned (OpenSpec.upto forgeNewSpec)

/-- 'prowlaw07.ForgeFirst', WHERE WHAT IT READS IS OF BULK AT MOST 1048576: true; the input reads as it did. -/
def forgeFirstUptoRow : OpenClaim := { program := "ytfkmodcjddfeiaadoor", sum := "f5e30aaed5088a1676e1132e5a98a71b077518f8e5a8757fde75c4f2c4fe9103", func := "prow/prowlaw07.ForgeFirst", spec := "forgeFirst", inPlace := ["slices.overlaps[int]"], unfollowed := true, recurses := true, named := ["prow/forge.begin", "prow/chain.nowhere", "prow/forge.thicks"], plainKeys := false, apart := false, laid := [("prow/chain.nowhere", laid_prow_chain_nowhere), ("prow/forge.begin", laid_prow_forge_begin), ("prow/forge.thicks", laid_prow_forge_thicks)], narrowed := true }
def ForgeFirstUptoSaid : Prop := forgeFirstUptoRow.holds Tryd.pinned (OpenSpec.upto forgeFirstSpec)

/-- 'prowlaw07.ForgeStocked', WHERE WHAT IT READS IS OF BULK AT MOST 1048576: true; the input reads as it did. -/
def forgeStockedUptoRow : OpenClaim := { program := "ytfkmodcjddfeiaadoor", sum := "f5e30aaed5088a1676e1132e5a98a71b077518f8e5a8757fde75c4f2c4fe9103", func := "prow/prowlaw07.ForgeStocked", spec := "forgeStocked", inPlace := ["slices.overlaps[int]"], unfollowed := true, recurses := true, named := ["prow/forge.begin", "prow/chain.nowhere", "prow/forge.thicks"], plainKeys := false, apart := false, laid := [("prow/chain.nowhere", laid_prow_chain_nowhere), ("prow/forge.begin", laid_prow_forge_begin), ("prow/forge.thicks", laid_prow_forge_thicks)], narrowed := true }
def ForgeStockedUptoSaid : Prop := forgeStockedUptoRow.holds Tryd.pinned (OpenSpec.upto forgeStockedSpec)

/-- 'prowlaw07.ForgePlan', WHERE WHAT IT READS IS OF BULK AT MOST 1048576: true; the input reads as it did. -/
def forgePlanUptoRow : OpenClaim := { program := "ytfkmodcjddfeiaadoor", sum := "f5e30aaed5088a1676e1132e5a98a71b077518f8e5a8757fde75c4f2c4fe9103", func := "prow/prowlaw07.ForgePlan", spec := "forgePlan", inPlace := ["slices.overlaps[int]"], unfollowed := true, recurses := true, named := ["prow/forge.begin", "prow/chain.nowhere", "prow/forge.thicks"], plainKeys := false, apart := false, laid := [("prow/chain.nowhere", laid_prow_chain_nowhere), ("prow/forge.begin", laid_prow_forge_begin), ("prow/forge.thicks", laid_prow_forge_thicks)], narrowed := true }
def ForgePlanUptoSaid : Prop := forgePlanUptoRow.holds Tryd.pinned (OpenSpec.upto forgePlanSpec)

/-- 'prowlaw07.ForgeStock', WHERE WHAT IT READS IS OF BULK AT MOST 1048576: true; the input reads as it did. -/
def forgeStockUptoRow : OpenClaim := { program := "ytfkmodcjddfeiaadoor", sum := "f5e30aaed5088a1676e1132e5a98a71b077518f8e5a8757fde75c4f2c4fe9103", func := "prow/prowlaw07.ForgeStock", spec := "forgeStock", inPlace := ["slices.overlaps[int]"], unfollowed := true, recurses := true, named := ["prow/forge.begin", "prow/chain.nowhere", "prow/forge.thicks"], plainKeys := false, apart := false, laid := [("prow/chain.nowhere", laid_prow_chain_nowhere), ("prow/forge.begin", laid_prow_forge_begin), ("prow/forge.thicks", laid_prow_forge_thicks)], narrowed := true }
def ForgeStockUptoSaid : Prop := forgeStockUptoRow.holds Tryd.pinned (OpenSpec.upto forgeStockSpec)

/-- 'prowlaw07.ForgeRest', WHERE WHAT IT READS IS OF BULK AT MOST 1048576: true; the input reads as it did. -/
def forgeRestUptoRow : OpenClaim := { program := "ytfkmodcjddfeiaadoor", sum := "f5e30aaed5088a1676e1132e5a98a71b077518f8e5a8757fde75c4f2c4fe9103", func := "prow/prowlaw07.ForgeRest", spec := "forgeRest", inPlace := ["slices.overlaps[int]"], unfollowed := true, recurses := true, named := ["prow/forge.begin", "prow/chain.nowhere", "prow/forge.thicks"], plainKeys := false, apart := false, laid := [("prow/chain.nowhere", laid_prow_chain_nowhere), ("prow/forge.begin", laid_prow_forge_begin), ("prow/forge.thicks", laid_prow_forge_thicks)], narrowed := true }
def ForgeRestUptoSaid : Prop := forgeRestUptoRow.holds Tryd.pinned (OpenSpec.upto forgeRestSpec)

/-- 'prowlaw07.ForgeKnown', WHERE WHAT IT READS IS OF BULK AT MOST 1048576: true; the input reads as it did. -/
def forgeKnownUptoRow : OpenClaim := { program := "ytfkmodcjddfeiaadoor", sum := "f5e30aaed5088a1676e1132e5a98a71b077518f8e5a8757fde75c4f2c4fe9103", func := "prow/prowlaw07.ForgeKnown", spec := "forgeKnown", inPlace := ["slices.overlaps[int]"], unfollowed := true, recurses := true, named := ["prow/forge.begin", "prow/chain.nowhere", "prow/forge.thicks"], plainKeys := false, apart := false, laid := [("prow/chain.nowhere", laid_prow_chain_nowhere), ("prow/forge.begin", laid_prow_forge_begin), ("prow/forge.thicks", laid_prow_forge_thicks)], narrowed := true }
def ForgeKnownUptoSaid : Prop := forgeKnownUptoRow.holds Tryd.pinned (OpenSpec.upto forgeKnownSpec)

/-- 'prowlaw07.ForgeMore', WHERE WHAT IT READS IS OF BULK AT MOST 1048576: true; the input reads as it did. -/
def forgeMoreUptoRow : OpenClaim := { program := "ytfkmodcjddfeiaadoor", sum := "f5e30aaed5088a1676e1132e5a98a71b077518f8e5a8757fde75c4f2c4fe9103", func := "prow/prowlaw07.ForgeMore", spec := "forgeMore", inPlace := ["slices.overlaps[int]"], unfollowed := true, recurses := true, named := ["prow/forge.begin", "prow/chain.nowhere", "prow/forge.thicks"], plainKeys := false, apart := false, laid := [("prow/chain.nowhere", laid_prow_chain_nowhere), ("prow/forge.begin", laid_prow_forge_begin), ("prow/forge.thicks", laid_prow_forge_thicks)], narrowed := true }
def ForgeMoreUptoSaid : Prop := forgeMoreUptoRow.holds Tryd.pinned (OpenSpec.upto forgeMoreSpec)

/-- 'prowlaw07.ForgeOld', WHERE WHAT IT READS IS OF BULK AT MOST 1048576: true; the input reads as it did. -/
def forgeOldUptoRow : OpenClaim := { program := "ytfkmodcjddfeiaadoor", sum := "f5e30aaed5088a1676e1132e5a98a71b077518f8e5a8757fde75c4f2c4fe9103", func := "prow/prowlaw07.ForgeOld", spec := "forgeOld", inPlace := ["slices.overlaps[int]"], unfollowed := true, recurses := true, named := ["prow/forge.begin", "prow/chain.nowhere", "prow/forge.thicks", "prow/chain.thins"], plainKeys := false, apart := false, laid := [("prow/chain.nowhere", laid_prow_chain_nowhere), ("prow/chain.thins", laid_prow_chain_thins), ("prow/forge.begin", laid_prow_forge_begin), ("prow/forge.thicks", laid_prow_forge_thicks)], narrowed := true }
def ForgeOldUptoSaid : Prop := forgeOldUptoRow.holds Tryd.pinned (OpenSpec.upto forgeOldSpec)

/-- 'prowtop.TopSpare', WHERE WHAT IT READS IS OF BULK AT MOST 1048576: true; the input reads as it did. -/
def topSpareUptoRow : OpenClaim := { program := "ytfkmodcjddfeiaadoor", sum := "f5e30aaed5088a1676e1132e5a98a71b077518f8e5a8757fde75c4f2c4fe9103", func := "prow/prowtop.TopSpare", spec := "topSpare", inPlace := ["slices.overlaps[int]"], unfollowed := true, recurses := true, named := ["prow/forge.begin", "prow/chain.nowhere", "prow/forge.thicks", "prow/chain.thins"], plainKeys := false, apart := false, laid := [("prow/chain.nowhere", laid_prow_chain_nowhere), ("prow/chain.thins", laid_prow_chain_thins), ("prow/forge.begin", laid_prow_forge_begin), ("prow/forge.thicks", laid_prow_forge_thicks)], narrowed := true }
def TopSpareUptoSaid : Prop := topSpareUptoRow.holds Tryd.pinned (OpenSpec.upto topSpareSpec)

end Rows
end Go.Proofs.YtfkmodcjddfeiaaDoor
