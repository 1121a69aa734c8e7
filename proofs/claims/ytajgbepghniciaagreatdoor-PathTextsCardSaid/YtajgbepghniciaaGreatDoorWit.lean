/- A world for the witnesses: the settled one, its listed variables holding what the program's text lays. -/
import Derived.Test.YtajgbepghniciaaGreatDoorRows
import Derived.Deep.DeepHandedRow
import Derived.ProofKit
import Derived.OpenShut
import Derived.Lib.LaidTab
namespace Go.Proofs.YtajgbepghniciaaGreatDoor
open Go.ChangeShapes Go.WideShapes Go.ChangeAt Go.RowKit

theorem own : ownKnob Tryz.prog.godebug = none := by kernel_rfl
theorem laidOut' : laidOutB Tryz.prog = true := by kernel_rfl
mutual
/-- a datum's cells, where it is a number or a row of such -/
def cellsD : DataW Unit → List Value
  | .lit (.int k n) => [.int k n]
  | .agg l => cellsDs l
  | _ => []
def cellsDs : List (DataW Unit) → List Value
  | [] => []
  | d :: l => cellsD d ++ cellsDs l
end
def layOne (w : World) (x : Nat × DataW Unit) : World :=
  { w with heap := w.heap.modify x.1 fun
      | .cells _ t frozen => .cells (cellsD x.2).toArray t frozen
      | o => o }
noncomputable def layAll (os : Os) (l : List (Nat × DataW Unit)) : World := l.foldl layOne (World.holding Tryz.prog os ⟨#[], #[], []⟩)
noncomputable def witW (os : Os) : World := layAll os [(6, Rows.laid_unicode_utf8_acceptRanges), (3, Rows.laid_tessera_names_basesTable), (5, Rows.laid_unicode_utf8_first)]
theorem witW_met (os : Os) : laidMet Tryz.prog Rows.pathTextsRow.laid ((witW os).forCall (fun _ _ => 0) ⟨#[], #[.slice none 0 0], []⟩).memory :=
  laidMet_of_run' 8 (by kernel_rfl) (by kernel_rfl)
end Go.Proofs.YtajgbepghniciaaGreatDoor
