/- Contracts of the laws over spans, links and names, walked over the translation. -/
import Derived.Test.YtbnkiibjhfcffaaGreatDoorZS
import Derived.Test.YtbnkiibjhfcffaaGreatDoorGW
import Derived.Test.YtbnkiibjhfcffaaGreatDoorM1
import Derived.Deep.RegionHeld3
import Derived.Deep.DeepCutAuto
import Derived.RegionTactic
import Derived.BigRegion
import Derived.WalkLawsBesides
import Derived.WalkSpells
import Derived.Lib.MinMax
import Derived.Outline
namespace Go.Proofs.YtbnkiibjhfcffaaGreatDoor
open Go.RowKit
attribute [local go_sem] ExtOf.cell ExtOf.frozen

theorem Own.butG {α : Type} {enc : α → List Value} {sz g base : Nat} {t : TypeId} {w w' : World} {v : Value} {xs : List α} (h : Own enc sz t w base v xs) (hu : But g w w') (hg : g < base) : Own enc sz t w' base v xs :=
  h.kept hu.grown (by
    rcases hv : v.ownBlock with _ | k
    · exact .inl rfl
    · refine .inr fun e => ?_
      injection e with e
      have := (h.row k hv).1
      omega)
end Go.Proofs.YtbnkiibjhfcffaaGreatDoor
