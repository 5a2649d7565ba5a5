/- What appears, moves and lies inside between years, as the program and the specification tell it. What appears, moves and lies inside between years, as the specification tells it; the number of places inside. -/
import Derived.Test.YtlnliajnipniaaaGreatDoorYJ
namespace Go.Proofs.YtlnliajnipniaaaGreatDoor
open Go.RowKit
attribute [local go_sem] ExtOf.cell ExtOf.frozen
section
variable {w : World} {A A' : Option Addr} {n c m c' : Nat} {ps : List Pl} {L : List Lk}
end
section
variable {w : World} {A A' : Option Addr} {n c m c' : Nat} {ps : List Pl} {L : List Lk}
end
section
variable {w : World} {A A' : Option Addr} {n c m c' : Nat} {ps : List Pl} {L : List Lk}
end
end Go.Proofs.YtlnliajnipniaaaGreatDoor
