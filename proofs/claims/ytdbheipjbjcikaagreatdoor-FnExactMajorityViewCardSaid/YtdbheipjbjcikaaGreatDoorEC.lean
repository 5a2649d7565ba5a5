/- Contracts of EdgesOf and its law, walked over the translation. -/
import Derived.Test.YtdbheipjbjcikaaGreatDoorEB
import Derived.Deep.RegionHeld3
import Derived.Deep.DeepCutAuto
import Derived.RegionTactic
import Derived.BigRegion
import Derived.WalkLawsBesides
import Derived.WalkSpells
import Derived.Lib.MinMax
import Derived.Outline
namespace Go.Proofs.YtdbheipjbjcikaaGreatDoor
open Go.RowKit
attribute [local go_sem] ExtOf.cell ExtOf.frozen

open Classical in
/-- what EdgesOf returns -/
noncomputable def eoP (ps : List (Int × Int)) : List Ed := if ringB ps = true then edL (normS ps) else []
theorem eoP_len (ps : List (Int × Int)) : (eoP ps).length ≤ ps.length := by unfold eoP edL; split <;> simp [edTo_len, normS_len]


end Go.Proofs.YtdbheipjbjcikaaGreatDoor
