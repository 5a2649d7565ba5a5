/- Contracts of the laws over lists of places, walked over the translation. Contracts of the laws over worlds, walked over the translation. A world handed to a function, in one word. -/
import Derived.Test.YtlnliajnipniaaaGreatDoorM1
import Derived.Test.YtlnliajnipniaaaGreatDoorK1
import Derived.Test.YtlnliajnipniaaaGreatDoorW1
namespace Go.Proofs.YtlnliajnipniaaaGreatDoor
open Go.RowKit
attribute [local go_sem] ExtOf.cell ExtOf.frozen
section
variable {w w' : World} {lo hi b1 b2 : Nat} {ps : List Pl} {L : List Lk}
end
end Go.Proofs.YtlnliajnipniaaaGreatDoor
namespace Go.Proofs.YtlnliajnipniaaaGreatDoor
open Go.RowKit
structure WIn (w : World) (A A' : Option Addr) (n c m c' : Nat) (ps : List Pl) (L : List Lk) : Prop where
 sq : SlAt w 5 encQ A ps
 pl : Places w ps
 hn : n = ps.length
 hl : ps.length ≤ 1048576
 sk : SlAt w 4 encK A' L
 hm : m = L.length
 hl' : L.length ≤ 1048576
 cap : m ≤ c'
 lg : Links L
theorem WIn.ext {w w' : World} {A A' : Option Addr} {n c m c' : Nat} {ps : List Pl} {L : List Lk} (h : WIn w A A' n c m c' ps L) (hx : Ext w w') : WIn w' A A' n c m c' ps L :=
 ⟨h.sq.ext hx, h.pl.ext hx, h.hn, h.hl, h.sk.ext hx, h.hm, h.hl', h.cap, h.lg⟩
section
variable {w : World} {A A' : Option Addr} {n c m c' : Nat} {ps : List Pl} {L : List Lk}
theorem i_IsWorldW (h : WIn w A A' n c m c' ps L) (hm : Mx w) : Calls Tryz.prog 38 #[.agg #[.slice A n c, .slice A' m c']] w fun e w' => e = .returned (.bool (wdB (psD ps) L)) ∧ Ext w w' :=
 i_IsWorld A A' n c m c' ps L w h.sq h.pl h.hn h.hl h.sk h.hm h.hl' h.cap h.lg hm
theorem s_IsWorldW (h : WIn w A A' n c m c' ps L) : Calls Tryz.prog 40 #[.agg #[.slice A n c, .slice A' m c']] w fun e w' => e = .returned (.bool (wdB (psD ps) L)) ∧ Ext w w' :=
 s_IsWorld A A' n c m c' ps L w h.sq h.pl h.hn h.hl h.sk h.hm h.hl' h.lg
end
end Go.Proofs.YtlnliajnipniaaaGreatDoor
