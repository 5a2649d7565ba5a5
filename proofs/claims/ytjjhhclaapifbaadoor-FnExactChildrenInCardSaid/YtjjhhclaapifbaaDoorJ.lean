/- Contracts of the draws: points, walked over the translation. -/
import Derived.Test.YtjjhhclaapifbaaDoorI
import Derived.Deep.RegionHeld3
import Derived.Deep.DeepCutAuto
import Derived.RegionTactic
import Derived.BigRegion
import Derived.WalkLawsBesides
import Derived.WalkSpells
import Derived.Lib.MinMax
import Derived.Outline
namespace Go.Proofs.YtjjhhclaapifbaaDoor
open Go.RowKit
attribute [local go_sem] ExtOf.cell ExtOf.frozen









end Go.Proofs.YtjjhhclaapifbaaDoor
