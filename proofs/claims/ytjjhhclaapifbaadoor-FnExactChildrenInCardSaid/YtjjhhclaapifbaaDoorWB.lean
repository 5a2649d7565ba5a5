/- Lists of names, as the specification sees them. -/
import Derived.Test.YtjjhhclaapifbaaDoorWA
import Derived.Deep.RegionHeld3
import Derived.Deep.DeepCutAuto
import Derived.RegionTactic
import Derived.BigRegion
import Derived.WalkLawsBesides
import Derived.WalkSpells
import Derived.Lib.MinMax
import Derived.Outline
namespace Go.Proofs.YtjjhhclaapifbaaDoor
open Go.RowKit
attribute [local go_sem] ExtOf.cell ExtOf.frozen

/-- the texts of these names are not long -/
def Names (ns : List Nm) : Prop := ∀ j, GoodN (ns.getD j nmD)


end Go.Proofs.YtjjhhclaapifbaaDoor
