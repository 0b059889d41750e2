/-
  NARROWER THAN 'FOR EVERY INPUT', by the rows' own cells (each row's printed sentence says how): ForgeLeasts: laid · ForgeFeet: laid · ForgePlans: laid.
  DERIVED. THE GIVEN ROWS OF THIS SEAT. 3 by the template 'for every input the law returns true; each argument reads behind the call as it read before'; 0 by the template 'total and deterministic' (their statements: YtfkmodcjddfeiaaGreatDoorTotals.lean).
  GIVEN WITH THE SEED: the statements are not yours to turn. If you find one false, say at which input.
  Laid BY PROGRAM, IN A SANDBOX (cutbox-rows.mjs): the forced cells as the released guide's own fill.sh prints them over the translation 122d5b632c38359c… (all of the seat's roots in one cut). By AI agents, Wed Nov 11 2026. No macro, syntax, notation, axiom, sorry.
-/
import Derived.Test.YtfkmodcjddfeiaaGreatDoorChecked
import GoSem.Claim
import GoSem.ClaimJoined
import GoSem.ClaimMapViews
import Derived.JoinedTies
import Derived.KernelRfl
namespace Go.Proofs.YtfkmodcjddfeiaaGreatDoor
/- THE CELL 'sum', in the pinned program and in every row, IS THE sha256 OF THE DUMP (.gsa) THAT YtfkmodcjddfeiaaGreatDoorProg.lean LOADS. Nothing in Lean hashes anything: it is a label: what it is worth is what the hold of that sum in a sandbox is worth. -/
noncomputable def Tryz.pinned : Pinned := { name := "ytfkmodcjddfeiaagreatdoor", sum := "122d5b632c38359c37e19526b3040113f839a7c3f4436e35a092ef8b38238c72", checked := Tryz.checked }
namespace Rows
def none {H : Type} : Left H := { results := [], args := [] }

/- WHAT THE LISTED PACKAGE-LEVEL VARIABLES READ AS WHEN THE CALL BEGINS. Each datum BY PROGRAM (the guide's laid-datum.mjs) off the statement by which the dump's own 'gosem.cut.vars' lays the variable. In a bare row this is a premise. The card (YtfkmodcjddfeiaaGreatDoorCards.lean) ties it to the program's text. -/
def laid_prow_chain_nowhere {H : Type} : DataW H := .agg [.lit (.int .i64 (-1)), .lit (.int .i64 (-1))]
def laid_prow_forge_begin {H : Type} : DataW H := .agg [.lit (.int .i64 (-1)), .lit (.int .i64 0)]
def laid_prow_forge_thicks {H : Type} : DataW H := .iface "func table" (.agg [.iface "func" (.lit (.string [40, 112, 114, 111, 119, 47, 102, 111, 114, 103, 101, 46, 98, 111, 111, 107, 41, 46, 111, 108, 100])), .iface "func" (.lit (.string [40, 112, 114, 111, 119, 47, 102, 111, 114, 103, 101, 46, 98, 111, 111, 107, 41, 46, 102, 114, 101, 115, 104]))])

/-- 'prowlaw07.ForgeLeasts': WHATEVER THE INPUT: true; the input reads as it did. -/
def forgeLeastsSpec : ChangeSpec := { name := "forgeLeasts", fn := fun _ => fun
  | [d1, d2, d3] => { results := [.lit (.bool true)], args := [d1, d2, d3] }
  | _ => none }
def forgeLeastsRow : OpenClaim := { program := "ytfkmodcjddfeiaagreatdoor", sum := "122d5b632c38359c37e19526b3040113f839a7c3f4436e35a092ef8b38238c72", func := "prow/prowlaw07.ForgeLeasts", spec := "forgeLeasts", inPlace := ["slices.overlaps[int]"], unfollowed := true, recurses := true, named := ["prow/forge.begin", "prow/chain.nowhere", "prow/forge.thicks"], plainKeys := false, apart := false, laid := [("prow/chain.nowhere", laid_prow_chain_nowhere), ("prow/forge.begin", laid_prow_forge_begin), ("prow/forge.thicks", laid_prow_forge_thicks)] }
def ForgeLeastsSaid : Prop := forgeLeastsRow.holds Tryz.pinned (OpenSpec.ofChange forgeLeastsSpec)

/-- ITS FALSE NEIGHBOUR: 'it returns false'. Refute it at one input. -/
def forgeLeastsWrong : ChangeSpec := { name := "forgeLeasts", fn := fun _ => fun
  | [d1, d2, d3] => { results := [.lit (.bool false)], args := [d1, d2, d3] }
  | _ => none }
def ForgeLeastsWrongFalsely : Prop := forgeLeastsRow.holds Tryz.pinned (OpenSpec.ofChange forgeLeastsWrong)

/-- 'prowlaw07.ForgeFeet': WHATEVER THE INPUT: true; the input reads as it did. -/
def forgeFeetSpec : ChangeSpec := { name := "forgeFeet", fn := fun _ => fun
  | [d1, d2] => { results := [.lit (.bool true)], args := [d1, d2] }
  | _ => none }
def forgeFeetRow : OpenClaim := { program := "ytfkmodcjddfeiaagreatdoor", sum := "122d5b632c38359c37e19526b3040113f839a7c3f4436e35a092ef8b38238c72", func := "prow/prowlaw07.ForgeFeet", spec := "forgeFeet", inPlace := ["slices.overlaps[int]"], unfollowed := true, recurses := true, named := ["prow/forge.begin", "prow/chain.nowhere", "prow/forge.thicks"], plainKeys := false, apart := false, laid := [("prow/chain.nowhere", laid_prow_chain_nowhere), ("prow/forge.begin", laid_prow_forge_begin), ("prow/forge.thicks", laid_prow_forge_thicks)] }
def ForgeFeetSaid : Prop := forgeFeetRow.holds Tryz.pinned (OpenSpec.ofChange forgeFeetSpec)

/-- ITS FALSE NEIGHBOUR: 'it returns false'. Refute it at one input. -/
def forgeFeetWrong : ChangeSpec := { name := "forgeFeet", fn := fun _ => fun
  | [d1, d2] => { results := [.lit (.bool false)], args := [d1, d2] }
  | _ => none }
def ForgeFeetWrongFalsely : Prop := forgeFeetRow.holds Tryz.pinned (OpenSpec.ofChange forgeFeetWrong)

/-- 'prowlaw07.ForgePlans': WHATEVER THE INPUT: true; the input reads as it did. -/
def forgePlansSpec : ChangeSpec := { name := "forgePlans", fn := fun _ => fun
  | [d] => { results := [.lit (.bool true)], args := [d] }
  | _ => none }
def forgePlansRow : OpenClaim := { program := "ytfkmodcjddfeiaagreatdoor", sum := "122d5b632c38359c37e19526b3040113f839a7c3f4436e35a092ef8b38238c72", func := "prow/prowlaw07.ForgePlans", spec := "forgePlans", inPlace := ["slices.overlaps[int]"], unfollowed := true, recurses := true, named := ["prow/forge.begin", "prow/chain.nowhere", "prow/forge.thicks"], plainKeys := false, apart := false, laid := [("prow/chain.nowhere", laid_prow_chain_nowhere), ("prow/forge.begin", laid_prow_forge_begin), ("prow/forge.thicks", laid_prow_forge_thicks)] }
def ForgePlansSaid : Prop := forgePlansRow.holds Tryz.pinned (OpenSpec.ofChange forgePlansSpec)

/-- ITS FALSE NEIGHBOUR: 'it returns false'. Refute it at one input. -/
def forgePlansWrong : ChangeSpec := { name := "forgePlans", fn := fun _ => fun
  | [d] => { results := [.lit (.bool false)], args := [d] }
  | _ => none }
def ForgePlansWrongFalsely : Prop := forgePlansRow.holds Tryz.pinned (OpenSpec.ofChange forgePlansWrong)

/- THE SECOND FORM. 'bulk': how many values and letters a reading holds, each counted each time it is reached (what is shared counts as often as it is met; a slice's spare places count too). A statement '..UptoSaid' is the law's where the arguments, and the package variables that the reading takes, are together of bulk at most 1048576: NARROWER than '..Said'. Prove '..Said' where nothing that the law and all that it calls make is longer than what came in: it says more and counts as full. Else prove '..UptoSaid'. A law counts once. -/
mutual
def uptoBulk {H : Type} : DataW H → Nat
  | .lit (.string bytes) => bytes.length + 1
  | .lit _ => 1
  | .nil => 1
  | .ptr d => uptoBulk d + 1
  | .slice elems spare => uptoBulkAll elems + uptoBulkAll spare + 1
  | .agg parts => uptoBulkAll parts + 1
  | .iface _ d => uptoBulk d + 1
  | .map entries => uptoBulkEntries entries + 1
  | .held _ => 1
def uptoBulkAll {H : Type} : List (DataW H) → Nat
  | [] => 0
  | d :: r => uptoBulk d + uptoBulkAll r
def uptoBulkEntries {H : Type} : List (Lit × DataW H) → Nat
  | [] => 0
  | x :: r => uptoBulkEntry x + uptoBulkEntries r
def uptoBulkEntry {H : Type} : Lit × DataW H → Nat
  | (.string bytes, d) => bytes.length + uptoBulk d + 1
  | (_, d) => uptoBulk d + 1
 end
def uptoSmall : (H : Type) → List (DataW H) → Bool := fun _ ds => decide (uptoBulkAll ds ≤ 1048576)
def OpenSpec.upto (s : _root_.Go.ChangeSpec) : _root_.Go.OpenSpec := { _root_.Go.OpenSpec.ofChange s with cond := some uptoSmall }

/-- 'prowlaw07.ForgeLeasts', WHERE WHAT IT READS IS OF BULK AT MOST 1048576: true; the input reads as it did. -/
def forgeLeastsUptoRow : OpenClaim := { program := "ytfkmodcjddfeiaagreatdoor", sum := "122d5b632c38359c37e19526b3040113f839a7c3f4436e35a092ef8b38238c72", func := "prow/prowlaw07.ForgeLeasts", spec := "forgeLeasts", inPlace := ["slices.overlaps[int]"], unfollowed := true, recurses := true, named := ["prow/forge.begin", "prow/chain.nowhere", "prow/forge.thicks"], plainKeys := false, apart := false, laid := [("prow/chain.nowhere", laid_prow_chain_nowhere), ("prow/forge.begin", laid_prow_forge_begin), ("prow/forge.thicks", laid_prow_forge_thicks)], narrowed := true }
def ForgeLeastsUptoSaid : Prop := forgeLeastsUptoRow.holds Tryz.pinned (OpenSpec.upto forgeLeastsSpec)

/-- 'prowlaw07.ForgeFeet', WHERE WHAT IT READS IS OF BULK AT MOST 1048576: true; the input reads as it did. -/
def forgeFeetUptoRow : OpenClaim := { program := "ytfkmodcjddfeiaagreatdoor", sum := "122d5b632c38359c37e19526b3040113f839a7c3f4436e35a092ef8b38238c72", func := "prow/prowlaw07.ForgeFeet", spec := "forgeFeet", inPlace := ["slices.overlaps[int]"], unfollowed := true, recurses := true, named := ["prow/forge.begin", "prow/chain.nowhere", "prow/forge.thicks"], plainKeys := false, apart := false, laid := [("prow/chain.nowhere", laid_prow_chain_nowhere), ("prow/forge.begin", laid_prow_forge_begin), ("prow/forge.thicks", laid_prow_forge_thicks)], narrowed := true }
def ForgeFeetUptoSaid : Prop := forgeFeetUptoRow.holds Tryz.pinned (OpenSpec.upto forgeFeetSpec)

/-- 'prowlaw07.ForgePlans', WHERE WHAT IT READS IS OF BULK AT MOST 1048576: true; the input reads as it did. -/
def forgePlansUptoRow : OpenClaim := { program := "ytfkmodcjddfeiaagreatdoor", sum := "122d5b632c38359c37e19526b3040113f839a7c3f4436e35a092ef8b38238c72", func := "prow/prowlaw07.ForgePlans", spec := "forgePlans", inPlace := ["slices.overlaps[int]"], unfollowed := true, recurses := true, named := ["prow/forge.begin", "prow/chain.nowhere", "prow/forge.thicks"], plainKeys := false, apart := false, laid := [("prow/chain.nowhere", laid_prow_chain_nowhere), ("prow/forge.begin", laid_prow_forge_begin), ("prow/forge.thicks", laid_prow_forge_thicks)], narrowed := true }
def ForgePlansUptoSaid : Prop := forgePlansUptoRow.holds Tryz.pinned (OpenSpec.upto forgePlansSpec)

end Rows
end Go.Proofs.YtfkmodcjddfeiaaGreatDoor
