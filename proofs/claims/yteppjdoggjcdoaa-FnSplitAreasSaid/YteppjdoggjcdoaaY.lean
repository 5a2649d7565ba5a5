/- Contracts of the laws on rings, walked over the translation. -/
import Derived.Test.YteppjdoggjcdoaaX
import Derived.Test.YteppjdoggjcdoaaW
import Derived.Deep.DeepCutAuto
import Derived.RegionTactic
import Derived.BigRegion
import Derived.WalkLawsBesides
import Derived.WalkSpells
import Derived.Lib.MinMax
import Derived.Outline
namespace Go.Proofs.Yteppjdoggjcdoaa
open Go.RowKit
attribute [local go_sem] ExtOf.cell ExtOf.frozen







theorem l_eqPointS_self (A A' : Option Addr) (c c' : Nat) (ps : List (Int × Int)) (w : World) (h : SlAt w 2 encP A ps) (h' : SlAt w 2 encP A' ps) (hl : ps.length ≤ 1048576) :
    Calls Try.prog 29 #[.slice A ps.length c, .slice A' ps.length c'] w fun e w' => e = .returned (.bool true) ∧ Ext w w' := by
  have := l_eqPointS A A' c c' ps ps w h h' hl
  rwa [show eqPs ps ps = true by simp [eqPs]] at this


end Go.Proofs.Yteppjdoggjcdoaa
