/-
  DERIVED. GIVEN WITH THE SEED: THE PROGRAM's TIES (one call each: nine closed facts by the kernel) AND EACH ROW's TIE, after the 31st guide's Derived/Test/Toyas{Tie, Card}.lean. No idea stands in it: it is a product of the set-up. Laid BY PROGRAM, IN A SANDBOX (cutbox-door.mjs). By AI agents, Wed Nov 11 2026. No macro, syntax, notation, axiom, sorry.
-/
import Derived.Test.YtfkmodcjddfeiaaGreatDoorRows
import Derived.LaidByTextLater
import Derived.SevenTiedAt
import Derived.LaidSub
import Derived.LaidOnce
namespace Go.Proofs.YtfkmodcjddfeiaaGreatDoor
open Go
set_option maxRecDepth 100000
theorem seatTie1 : Tryz.prog.laidByTextLater [("prow/chain.nowhere", Rows.laid_prow_chain_nowhere), ("prow/forge.begin", Rows.laid_prow_forge_begin), ("prow/forge.thicks", Rows.laid_prow_forge_thicks)] [.data, .data, .funcs] true :=
  Program.laidByTextLater_by_one 24 8 3 (by kernel_rfl) (by kernel_rfl) (by kernel_rfl) (by kernel_rfl) (by kernel_rfl) (by kernel_rfl) (fun _ _ => by kernel_rfl)
theorem noOwnUnsafe : Tryz.pinned.checked.prog.headLifts.contains "ownunsafe" = false := by kernel_rfl
theorem tie : Tryz.prog.laidByTextLater [("prow/chain.nowhere", Rows.laid_prow_chain_nowhere), ("prow/forge.begin", Rows.laid_prow_forge_begin), ("prow/forge.thicks", Rows.laid_prow_forge_thicks)] [.data, .data, .funcs] true :=
  Program.laidByTextLater.sub seatTie1 ["prow/chain.nowhere", "prow/forge.begin", "prow/forge.thicks"] (by kernel_rfl) (by kernel_rfl)
theorem forgeLeasts_row_tie : Rows.forgeLeastsRow.laidByTextAt .later Tryz.pinned [.data, .data, .funcs] true :=
  OpenClaim.laidByTextAt_later rfl rfl tie noOwnUnsafe
theorem forgeFeet_row_tie : Rows.forgeFeetRow.laidByTextAt .later Tryz.pinned [.data, .data, .funcs] true :=
  OpenClaim.laidByTextAt_later rfl rfl tie noOwnUnsafe
theorem forgePlans_row_tie : Rows.forgePlansRow.laidByTextAt .later Tryz.pinned [.data, .data, .funcs] true :=
  OpenClaim.laidByTextAt_later rfl rfl tie noOwnUnsafe
theorem forgeLeastsUpto_row_tie : Rows.forgeLeastsUptoRow.laidByTextAt .later Tryz.pinned [.data, .data, .funcs] true :=
  OpenClaim.laidByTextAt_later rfl rfl tie noOwnUnsafe
theorem forgeFeetUpto_row_tie : Rows.forgeFeetUptoRow.laidByTextAt .later Tryz.pinned [.data, .data, .funcs] true :=
  OpenClaim.laidByTextAt_later rfl rfl tie noOwnUnsafe
theorem forgePlansUpto_row_tie : Rows.forgePlansUptoRow.laidByTextAt .later Tryz.pinned [.data, .data, .funcs] true :=
  OpenClaim.laidByTextAt_later rfl rfl tie noOwnUnsafe
end Go.Proofs.YtfkmodcjddfeiaaGreatDoor
